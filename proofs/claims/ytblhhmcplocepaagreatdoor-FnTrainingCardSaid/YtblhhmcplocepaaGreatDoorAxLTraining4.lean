/- Contracts that the statement FnTraining reaches, part 4. No conditions. -/
import Derived.Test.YtblhhmcplocepaaGreatDoorAxLTraining3
import Derived.LaidMore
import Derived.Lay
import Derived.Lib.IndexBytes
import Derived.Lib.ItoaNum
import Derived.Lib.ParseIntBCases
import Derived.Lib.ParseIntBTie
import Derived.Lib.SplitLaws
import Derived.OpenShut
import Derived.SevenTiedAt
import Derived.Stop.Joined
import Derived.Test.YtblhhmcplocepaaGreatDoorAxBd
import Derived.Test.YtblhhmcplocepaaGreatDoorAxQ
import Derived.Test.YtblhhmcplocepaaGreatDoorAxR
import Derived.Test.YtblhhmcplocepaaGreatDoorAxS
import Derived.Test.YtblhhmcplocepaaGreatDoorAxY
import Derived.Test.YtblhhmcplocepaaGreatDoorDelShelf
namespace Go.Proofs.YtblhhmcplocepaaGreatDoor.Ax
open Go.RowKit Go.ChangeShapes Go.WideShapes
set_option linter.unusedVariables false
set_option linter.unusedSimpArgs false
theorem Zse (s p : ByteArray) (hs : s.size ≤ 9223372036854775807) : Con Tryz.prog 64 [Sv s, Sv p] true (Sv (Zua s p)) := by
  refine Zga (vals := [.string s, .string p]) fun w _ => ?_
  refine (Tryz.strings_TrimSuffix s p w hs).mono ?_
  rintro e w' ⟨rfl, rfl⟩
  exact ⟨rfl, Below.refl _ _⟩
set_option maxHeartbeats 2000000 in
set_option maxRecDepth 100000 in
theorem Zyj (s sep : ByteArray) (hs : s.size ≤ 140737488 ∧ True) (h1 : sep.size = 1) : Con Tryz.prog 63 [Sv s, Sv sep] true (slS true (Zcs sep s)) := by
  obtain ⟨c, rfl⟩ := Lib.one_byte sep h1
  have hle := Lib.countB_le ⟨#[c]⟩ (by omega) s.size s (Nat.le_refl _)
  have hlen := Zke (s := s) h1
  have hcell : ∀ i, i < Lib.countB s ⟨#[c]⟩ + 1 → (((Lib.splitB ⟨#[c]⟩ 0 (Lib.countB s ⟨#[c]⟩) s).map Value.string).toArray)[i]? = some (.string (at_ (Zcs ⟨#[c]⟩ s) i)) ∧ (Value.string (at_ (Zcs ⟨#[c]⟩ s) i)).oneCell' = true := fun i hi => by
    have hi2 : i < (Lib.splitB ⟨#[c]⟩ 0 (Lib.countB s ⟨#[c]⟩) s).length := by omega
    refine ⟨?_, rfl⟩
    have e : at_ (Zcs ⟨#[c]⟩ s) i = (Lib.splitB ⟨#[c]⟩ 0 (Lib.countB s ⟨#[c]⟩) s)[i] := Zez hi2
    rw [e]
    simp [List.getElem?_eq_getElem hi2]
  have hmain := Zoh (P := Tryz.prog) (f := 63) (vals := [.string s, .string ⟨#[c]⟩]) (n := Lib.countB s ⟨#[c]⟩ + 1) (T := 9) (cs := ((Lib.splitB ⟨#[c]⟩ 0 (Lib.countB s ⟨#[c]⟩) s).map Value.string).toArray) (g := fun i => .string (at_ (Zcs ⟨#[c]⟩ s) i)) (by unfold maxLen; omega) hcell ?_
  · have e : slS true (Zcs ⟨#[c]⟩ s) = .sl true 1 (Lib.countB s ⟨#[c]⟩ + 1) fun i => [Sv (at_ (Zcs ⟨#[c]⟩ s) i)] := by
      rw [← hlen]; rfl
    rw [e]
    exact hmain
  · intro w _
    have hI : ∀ (x : ByteArray) (d : Array Value), x.size ≤ s.size → Calls Tryz.prog 122 #[.string x, .string ⟨#[c]⟩] (w.alloc (.cells d 9)) fun e w' => e = .returned (.int .i64 (Lib.indexB x ⟨#[c]⟩)) ∧ w' = w.alloc (.cells d 9) := fun x d _ => by
      have := Tryz.strings_Index_one x c (w.alloc (.cells d 9))
      have e : Lib.indexB x ⟨#[c]⟩ = Lib.indexByte x.data.toList c := Lib.index_one _ _
      rw [e]
      exact this
    have hC : Calls Tryz.prog 121 #[.string s, .string ⟨#[c]⟩] w fun e w' => e = .returned (.int .i64 (Lib.countB s ⟨#[c]⟩)) ∧ w' = w := by
      have := Tryz.strings_Count_one s c w
      have e : Lib.countB s ⟨#[c]⟩ = Lib.countByte s.data.toList c := Lib.count_one c _
      rw [e]
      exact this
    have hcore := Any.strings_genSplit_core Tryz.lays221 (by kernel_rfl) s ⟨#[c]⟩ 0 (-1) (Lib.countB s ⟨#[c]⟩ + 1) w (by omega) (by omega) (Nat.zero_le _) hI hC (by decide) (by decide) (by rw [if_pos (by decide)]; omega)
    rw [Nat.add_sub_cancel, hlen] at hcore
    have e2 : Lib.cellsOf (Lib.splitB ⟨#[c]⟩ 0 (Lib.countB s ⟨#[c]⟩) s) (Lib.countB s ⟨#[c]⟩ + 1) = ((Lib.splitB ⟨#[c]⟩ 0 (Lib.countB s ⟨#[c]⟩) s).map Value.string).toArray := by rw [← hlen]; exact Lib.cellsOf_full _
    rw [e2] at hcore
    go_enter Tryz.func63, Tryz.ntmps63
    go_wp2_with (go_at_call 101; refine hcore.mono ?_; rintro e w' ⟨rfl, hw⟩; rw [hw])
    go_ret
    exact ⟨rfl, rfl⟩
def dcB (s : ByteArray) : Bool := match Lib.parseIntB 64 s.data.toList with | .ok n => decide ((1 ≤ (Lib.trimPrefix s.data.toList [45]).length ∧ (Lib.trimPrefix s.data.toList [45]).length ≤ 18) ∧ Zeb n = s) | _ => false
def dcN (s : ByteArray) : Int := if dcB s = true then dcV s else 0
theorem Zwa {s : ByteArray} (h : ¬ (1 ≤ (Lib.trimPrefix s.data.toList [45]).length ∧ (Lib.trimPrefix s.data.toList [45]).length ≤ 18)) : dcB s = false ∧ dcN s = 0 := by
  have e : dcB s = false := by
    unfold dcB
    split
    · exact decide_eq_false fun q => h q.1
    · rfl
  exact ⟨e, by rw [dcN, e]; rfl⟩
theorem Zoi {s : ByteArray} {n : Int} (hp : Lib.parseIntB 64 s.data.toList = .ok n) (hl : 1 ≤ (Lib.trimPrefix s.data.toList [45]).length ∧ (Lib.trimPrefix s.data.toList [45]).length ≤ 18) (he : Zeb n = s) : dcB s = true ∧ dcN s = n := by
  have e : dcB s = true := by
    unfold dcB
    rw [hp]
    exact decide_eq_true ⟨hl, he⟩
  exact ⟨e, by rw [dcN, if_pos e]; unfold dcV; rw [hp]⟩
theorem Ycc {s : ByteArray} {n : Int} (hp : Lib.parseIntB 64 s.data.toList = .ok n) (he : ¬ Zeb n = s) : dcB s = false ∧ dcN s = 0 := by
  have e : dcB s = false := by
    unfold dcB
    rw [hp]
    exact decide_eq_false fun q => he q.2
  exact ⟨e, by rw [dcN, e]; rfl⟩
theorem Ycd {s : ByteArray} (hp : ∀ n, Lib.parseIntB 64 s.data.toList ≠ .ok n) : dcB s = false ∧ dcN s = 0 := by
  have e : dcB s = false := by
    unfold dcB
    split
    · rename_i n h; exact absurd h (hp n)
    · rfl
  exact ⟨e, by rw [dcN, e]; rfl⟩
theorem pI_bd {s : ByteArray} {n : Int} (hp : Lib.parseIntB 64 s.data.toList = .ok n) : -9223372036854775808 ≤ n ∧ n ≤ 9223372036854775807 := by
  have := Lib.parseIntB_bounds hp
  have e : ((2 ^ (64 - 1) : Nat) : Int) = 9223372036854775808 := by decide
  rw [e] at this
  omega
theorem Zub (s : ByteArray) (j : Nat) : bAt s j = (((s.data.toList.getD j 0).toNat : Nat) : Int) := rfl
theorem Yce {c : UInt8} {s : ByteArray} {a b : Nat} (hb : b ≤ s.size) (h : ∀ j, a ≤ j → j < b → ¬ bAt s j = ((c.toNat : Nat) : Int)) : noB c (s.extract a b) := fun hm => by
  rw [Lib.extract_data] at hm
  obtain ⟨i, hi, e⟩ := List.getElem_of_mem hm
  have hl : s.data.toList.length = s.size := by rw [Array.length_toList]; rfl
  simp only [List.length_take, List.length_drop] at hi
  refine h (a + i) (by omega) (by omega) ?_
  rw [Zub, List.getD_eq_getElem?_getD, List.getElem?_eq_getElem (by omega)]
  have e2 : s.data.toList[a + i]'(by omega) = c := by rw [← e]; simp
  rw [e2]; rfl
theorem ext_cut {c : UInt8} {s : ByteArray} {a i : Nat} (h1 : a ≤ i) (h2 : i < s.size) (hb : bAt s i = ((c.toNat : Nat) : Int)) : s.extract a s.size = (s.extract a i ++ ⟨#[c]⟩) ++ s.extract (i + 1) s.size := by
  have hl : s.data.toList.length = s.size := by rw [Array.length_toList]; rfl
  have hc : s.data.toList[i]'(by omega) = c := by
    rw [Zub, List.getD_eq_getElem?_getD, List.getElem?_eq_getElem (by omega)] at hb
    have hb : (s.data.toList[i]'(by omega)).toNat = c.toNat := by
      have : (((s.data.toList[i]'(by omega)).toNat : Nat) : Int) = ((c.toNat : Nat) : Int) := hb
      omega
    exact UInt8.toNat_inj.1 hb
  apply ByteArray.ext
  apply Array.ext'
  have e1 : ((s.extract a i ++ ⟨#[c]⟩) ++ s.extract (i + 1) s.size).data.toList = ((s.extract a i).data.toList ++ [c]) ++ (s.extract (i + 1) s.size).data.toList := by simp
  have hd : s.data.toList.drop a = (s.data.toList.drop a).take (i - a) ++ s.data.toList.drop i := by
    have q := List.take_append_drop (i - a) (s.data.toList.drop a)
    rw [List.drop_drop, show a + (i - a) = i from by omega] at q
    exact q.symm
  have hi : s.data.toList.drop i = c :: s.data.toList.drop (i + 1) := by rw [List.drop_eq_getElem_cons (by omega), hc]
  have t1 : (s.data.toList.drop a).take (s.size - a) = s.data.toList.drop a := List.take_of_length_le (by rw [List.length_drop]; omega)
  have t2 : (s.data.toList.drop (i + 1)).take (s.size - (i + 1)) = s.data.toList.drop (i + 1) := List.take_of_length_le (by rw [List.length_drop]; omega)
  rw [e1, Lib.extract_data, Lib.extract_data, Lib.extract_data, t1, t2, List.append_assoc]
  show _ = (s.data.toList.drop a).take (i - a) ++ (c :: s.data.toList.drop (i + 1))
  rw [← hi]
  exact hd
theorem spl_hit {c : UInt8} {s : ByteArray} {a i : Nat} (h1 : a ≤ i) (h2 : i < s.size) (hn : ∀ j, a ≤ j → j < i → ¬ bAt s j = ((c.toNat : Nat) : Int)) (hb : bAt s i = ((c.toNat : Nat) : Int)) : Zkf c (s.extract a s.size) = s.extract a i :: Zkf c (s.extract (i + 1) s.size) := by
  rw [ext_cut h1 h2 hb, Znb (Yce (by omega) hn)]
theorem spl_end {c : UInt8} {s : ByteArray} {a : Nat} (hn : ∀ j, a ≤ j → j < s.size → ¬ bAt s j = ((c.toNat : Nat) : Int)) : Zkf c (s.extract a s.size) = [s.extract a s.size] := Zjs (Yce (Nat.le_refl _) hn)
theorem ext_all (s : ByteArray) : s.extract 0 s.size = s := by
  apply ByteArray.ext
  apply Array.ext'
  rw [Lib.extract_data]
  have hl : s.data.toList.length = s.size := by rw [Array.length_toList]; rfl
  rw [List.drop_zero, List.take_of_length_le (by omega)]
def Zsv (acc : Nat) (l : List UInt8) : Nat := l.foldl (fun a b => a * 10 + (b.toNat - 48)) acc
def Zjd (l : List UInt8) : Prop := ∀ b ∈ l, 48 ≤ b.toNat ∧ b.toNat ≤ 57
theorem Zoj : ∀ (l : List UInt8) (acc k : Nat), Zjd l → acc < 10 ^ k → Zsv acc l < 10 ^ (k + l.length)
  | [], acc, k, _, h => by simpa [Zsv] using h
  | c :: l, acc, k, hd, h => by
    have hc := hd c (by simp)
    have := Zoj l (acc * 10 + (c.toNat - 48)) (k + 1) (fun b hb => hd b (by simp [hb])) (by rw [Nat.pow_succ]; omega)
    rw [List.length_cons, show k + (l.length + 1) = k + 1 + l.length from by omega]
    exact this
theorem Zwb {M : Nat} (hM : 1000000000000000000 ≤ M) : ∀ (l : List UInt8) (acc k : Nat), Zjd l → acc < 10 ^ k → k + l.length ≤ 18 → Lib.parseUintM M acc l = .ok (Zsv acc l)
  | [], acc, k, _, _, _ => rfl
  | c :: l, acc, k, hd, h, hk => by
    have hc := hd c (by simp)
    rw [List.length_cons] at hk
    have h1 : acc * 10 + (c.toNat - 48) < 10 ^ (k + 1) := by rw [Nat.pow_succ]; omega
    have h2 : 10 ^ (k + 1) ≤ 10 ^ 18 := Nat.pow_le_pow_right (by decide) (by omega)
    have h3 : (10 : Nat) ^ 18 = 1000000000000000000 := by decide
    have h4 : 10 ^ k ≤ 10 ^ 17 := Nat.pow_le_pow_right (by decide) (by omega)
    have h5 : (10 : Nat) ^ 17 = 100000000000000000 := by decide
    rw [Lib.parseUintM, if_pos hc, if_neg (by omega), if_neg (by omega)]
    exact Zwb hM l _ (k + 1) (fun b hb => hd b (by simp [hb])) h1 (by omega)
theorem Ycf {r : List UInt8} (hd : Zjd r) (h : 1 ≤ r.length ∧ r.length ≤ 18) : Lib.parseIntB 64 (45 :: r) = .ok (-((Zsv 0 r : Nat) : Int)) := by
  have hv := Zoj r 0 0 hd (by decide)
  have h2 : 10 ^ (0 + r.length) ≤ 10 ^ 18 := Nat.pow_le_pow_right (by decide) (by omega)
  have h3 : (10 : Nat) ^ 18 = 1000000000000000000 := by decide
  rw [Lib.parseIntB_minus]
  unfold Lib.parseUintB
  rw [if_neg (fun e => by rw [e] at h; exact absurd h.1 (by decide)), Zwb (by decide) r 0 0 hd (by decide) (by omega)]
  simp only [Lib.signedC]
  rw [if_neg (by omega)]
theorem Ycg {r : List UInt8} (hd : Zjd r) (h : 1 ≤ r.length ∧ r.length ≤ 18) : Lib.parseIntB 64 r = .ok ((Zsv 0 r : Nat) : Int) := by
  have hv := Zoj r 0 0 hd (by decide)
  have h2 : 10 ^ (0 + r.length) ≤ 10 ^ 18 := Nat.pow_le_pow_right (by decide) (by omega)
  have h3 : (10 : Nat) ^ 18 = 1000000000000000000 := by decide
  obtain ⟨c, q, rfl⟩ : ∃ c q, r = c :: q := by
    cases r with
    | nil => exact absurd h.1 (by decide)
    | cons c q => exact ⟨c, q, rfl⟩
  have hc := hd c (by simp)
  rw [Lib.parseIntB_plain 64 c q (by omega) (by omega)]
  unfold Lib.parseUintB
  rw [if_neg (by simp), Zwb (by decide) _ 0 0 hd (by decide) (by omega)]
  simp only [Lib.signlessC]
  rw [if_neg (by omega)]
def unS (s t : ByteArray) : Prop := s.data.toList = 45 :: t.data.toList ∨ (t = s ∧ ∀ r, s.data.toList ≠ 45 :: r)
theorem Zfg (s : ByteArray) : s.data.toList.length = s.size := by rw [Array.length_toList]; rfl
theorem Zsf {s t : ByteArray} (h : unS s t) : Lib.trimPrefix s.data.toList [45] = t.data.toList := by
  rcases h with h | ⟨rfl, h⟩
  · rw [h]; simp [Lib.trimPrefix, Lib.hasPrefix]
  · cases hq : t.data.toList with
    | nil => simp [Lib.trimPrefix, Lib.hasPrefix]
    | cons c r =>
      have : ¬ (45 : UInt8) = c := fun e => h r (by rw [hq, e])
      simp [Lib.trimPrefix, Lib.hasPrefix, this]
theorem unS_size {s t : ByteArray} (h : unS s t) : (t.size < s.size ↔ s.data.toList = 45 :: t.data.toList) ∧ t.size ≤ s.size := by
  have e1 := Zfg s
  have e2 := Zfg t
  rcases h with h | ⟨rfl, h⟩
  · have := congrArg List.length h
    rw [List.length_cons] at this
    exact ⟨⟨fun _ => h, fun _ => by omega⟩, by omega⟩
  · exact ⟨⟨fun q => absurd q (Nat.lt_irrefl _), fun q => absurd q (h _)⟩, Nat.le_refl _⟩
theorem Zwc {s : ByteArray} (h0 : 0 < s.size) (h : bAt s 0 = 45) : unS s (s.extract 1 s.size) := by
  have hl := Zfg s
  refine .inl ?_
  rw [Lib.extract_data, List.take_of_length_le (by rw [List.length_drop]; omega)]
  cases hq : s.data.toList with
  | nil => rw [hq] at hl; simp at hl; omega
  | cons c r =>
    have : c = 45 := by
      rw [Zub, hq] at h
      have h : ((c.toNat : Nat) : Int) = 45 := h
      exact UInt8.toNat_inj.1 (show c.toNat = (45 : UInt8).toNat from by have : (45 : UInt8).toNat = 45 := rfl; omega)
    subst this
    rfl
theorem Zly {s : ByteArray} (h : s.size = 0 ∨ ¬ bAt s 0 = 45) : unS s s := by
  refine .inr ⟨rfl, fun r hr => ?_⟩
  have hl := Zfg s
  rcases h with h | h
  · rw [hr] at hl; simp at hl; omega
  · exact h (by rw [Zub, hr]; rfl)
theorem Ych {l : List UInt8} {k : Nat} (h : k < l.length) : Zsv 0 (l.take (k + 1)) = Zsv 0 (l.take k) * 10 + ((l[k]).toNat - 48) := by
  rw [List.take_succ_eq_append_getElem h]
  unfold Zsv
  rw [List.foldl_append]
  rfl
theorem dcB_dig {s t : ByteArray} (hu : unS s t) (h : dcB s = true) : Zjd t.data.toList := by
  unfold dcB at h
  split at h
  · rename_i n hp
    have q := (of_decide_eq_true h).2
    have hs : s.data.toList = Lib.itoa n := by rw [← q]; simp [Zeb]
    unfold Lib.itoa at hs
    split at hs
    · rcases hu with hu | ⟨rfl, hu⟩
      · rw [hs] at hu
        have : t.data.toList = Lib.decDigits n.natAbs := (List.cons.inj hu).2.symm
        rw [this]; exact Zdx _ _ (Nat.lt_succ_self _)
      · exact absurd hs (hu _)
    · have hd : Zjd s.data.toList := by rw [hs]; exact Zdx _ _ (Nat.lt_succ_self _)
      rcases hu with hu | ⟨rfl, hu⟩
      · have := hd 45 (by rw [hu]; simp)
        exact absurd this (by decide)
      · exact hd
  · cases h
theorem Yci {s t : ByteArray} (hu : unS s t) (h : ¬ Zjd t.data.toList) : dcB s = false ∧ dcN s = 0 := by
  have e : dcB s = false := by
    cases q : dcB s with
    | false => rfl
    | true => exact absurd (dcB_dig hu q) h
  exact ⟨e, by rw [dcN, e]; rfl⟩
theorem Ycj {s t : ByteArray} (hu : unS s t) (hd : Zjd t.data.toList) (hl : 1 ≤ t.size ∧ t.size ≤ 18) : Lib.parseIntB 64 s.data.toList = .ok (if t.size < s.size then -((Zsv 0 t.data.toList : Nat) : Int) else ((Zsv 0 t.data.toList : Nat) : Int)) := by
  have e2 := Zfg t
  rcases hu with h | ⟨rfl, h⟩
  · rw [if_pos ((unS_size (.inl h)).1.2 h), h, Ycf hd (by omega)]
  · rw [if_neg (Nat.lt_irrefl _), Ycg hd (by omega)]
theorem Zwd {t : ByteArray} {j : Nat} (h : j < t.size) : bAt t j = (((t.data.toList[j]'(by rw [Zfg]; exact h)).toNat : Nat) : Int) := by
  rw [Zub, List.getD_eq_getElem?_getD, List.getElem?_eq_getElem (by rw [Zfg]; exact h)]
  rfl
theorem Zok {t : ByteArray} {k : Nat} (hk : k ≤ t.size) (h : ∀ j, j < k → 48 ≤ bAt t j ∧ bAt t j ≤ 57) : Zjd (t.data.toList.take k) := fun b hb => by
  obtain ⟨j, hj, e⟩ := List.getElem_of_mem hb
  have hl := Zfg t
  simp only [List.length_take] at hj
  have q := h j (by omega)
  rw [Zwd (by omega)] at q
  have e2 : t.data.toList[j]'(by omega) = b := by rw [← e]; simp
  rw [e2] at q
  omega
theorem valL_bd {t : ByteArray} {k : Nat} (h : ∀ j, j < k → 48 ≤ bAt t j ∧ bAt t j ≤ 57) (hk : k < t.size) (hl : t.size ≤ 18) : Zsv 0 (t.data.toList.take k) < 100000000000000000 := by
  have q := Zoj _ 0 0 (Zok (by omega) h) (by decide)
  have hl2 := Zfg t
  have h2 : 10 ^ (0 + (t.data.toList.take k).length) ≤ 10 ^ 17 := Nat.pow_le_pow_right (by decide) (by rw [List.length_take]; omega)
  have h3 : (10 : Nat) ^ 17 = 100000000000000000 := by decide
  omega
theorem valL_all {t : ByteArray} (h : Zjd t.data.toList) (hl : t.size ≤ 18) : Zsv 0 t.data.toList < 1000000000000000000 := by
  have q := Zoj _ 0 0 h (by decide)
  have hl2 := Zfg t
  have h2 : 10 ^ (0 + t.data.toList.length) ≤ 10 ^ 18 := Nat.pow_le_pow_right (by decide) (by omega)
  have h3 : (10 : Nat) ^ 18 = 1000000000000000000 := by decide
  omega
theorem Yck {t : ByteArray} {k : Nat} (hk : k < t.size) (hd : 48 ≤ bAt t k) : ((Zsv 0 (t.data.toList.take (k + 1)) : Nat) : Int) = 10 * ((Zsv 0 (t.data.toList.take k) : Nat) : Int) + (bAt t k - 48) := by
  rw [Ych (by rw [Zfg]; exact hk)]
  rw [Zwd hk] at *
  omega
theorem Zsg {s : ByteArray} (h : s.size = 0) : s = ⟨#[]⟩ := by
  apply ByteArray.ext
  exact Array.eq_empty_of_size_eq_zero h
theorem Zwe (c : UInt8) (s : ByteArray) : Zkf c s ≠ [] := fun e => by
  have h := Zke (sep := ⟨#[c]⟩) (s := s) rfl
  have h2 : (Lib.splitB ⟨#[c]⟩ 0 (Lib.countB s ⟨#[c]⟩) s).length = 0 := by show (Zkf c s).length = 0; rw [e]; rfl
  omega
theorem Zwf (c : UInt8) : ∀ (n : Nat) (s : ByteArray), s.size ≤ n → jnB ⟨#[c]⟩ (Zkf c s) = s := by
  intro n
  induction n with
  | zero => intro s h; have := Zsg (s := s) (by omega); subst this; rw [Zjs Zol, jnB, Zje, Zjf]
  | succ n ih =>
    intro s h
    by_cases hc : noB c s
    · rw [Zjs hc, jnB, Zje, Zjf]
    · obtain ⟨a, b, e, ha⟩ := List.eq_append_cons_of_mem (Classical.not_not.1 hc)
      have hs : s = ((⟨a.toArray⟩ : ByteArray) ++ ⟨#[c]⟩) ++ (⟨b.toArray⟩ : ByteArray) := by
        apply ByteArray.ext
        apply Array.ext'
        rw [e]; simp
      have hl := congrArg List.length e
      rw [Zfg, List.length_append, List.length_cons] at hl
      have hb : (⟨b.toArray⟩ : ByteArray).size ≤ n := by show b.toArray.size ≤ n; rw [List.size_toArray]; omega
      have q := ih ⟨b.toArray⟩ hb
      have hx : Zkf c s = (⟨a.toArray⟩ : ByteArray) :: Zkf c ⟨b.toArray⟩ := by
        rw [hs]; exact Znb (by unfold noB; simpa using ha)
      rw [hx]
      obtain ⟨y, l, hy⟩ : ∃ y l, Zkf c (⟨b.toArray⟩ : ByteArray) = y :: l := by
        cases hq : Zkf c (⟨b.toArray⟩ : ByteArray) with
        | nil => exact absurd hq (Zwe _ _)
        | cons y l => exact ⟨y, l, rfl⟩
      rw [hy] at q ⊢
      have e2 : jnB ⟨#[c]⟩ ((⟨a.toArray⟩ : ByteArray) :: y :: l) = ((⟨a.toArray⟩ : ByteArray) ++ ⟨#[c]⟩) ++ jnB ⟨#[c]⟩ (y :: l) := by simp only [jnB, Zje, ByteArray.append_assoc]
      rw [e2, q, ← hs]
theorem Zml (c : UInt8) : ∀ (k : Nat) (s : ByteArray), ∀ x ∈ Lib.splitB ⟨#[c]⟩ 0 k s, x.size ≤ s.size
  | 0, s, x, h => by rw [Lib.splitB_zero] at h; have := List.mem_singleton.1 h; subst this; exact Nat.le_refl _
  | k + 1, s, x, h => by
    rcases Lib.indexB_cases s ⟨#[c]⟩ with hi | ⟨i, hi, hr⟩
    · rw [Lib.splitB_miss _ _ _ _ hi] at h; have := List.mem_singleton.1 h; subst this; exact Nat.le_refl _
    · rw [Lib.splitB_hit _ _ _ _ _ hi] at h
      rcases List.mem_cons.1 h with h | h
      · subst h; rw [ByteArray.size_extract]; omega
      · have := Zml c k _ x h
        rw [ByteArray.size_extract] at this
        omega
theorem Zgt {c : UInt8} {s x : ByteArray} (h : x ∈ Zcs ⟨#[c]⟩ s) : x.size ≤ s.size := Zml c _ s x h
theorem dcB_dec {s : ByteArray} (h : dcB s = true) : Zeb (dcN s) = s := by
  have hN : dcN s = dcV s := if_pos h
  unfold dcB at h
  split at h
  · rename_i n hp
    have q := of_decide_eq_true h
    rw [hN]
    unfold dcV
    rw [hp]
    exact q.2
  · cases h
theorem dcB_num {n : Int} (h : -1000000000000000000 < n ∧ n < 1000000000000000000) : dcB (Zeb n) = true := (Zoi (Zuc h) (Ycl h) rfl).1
def lnR (s : ByteArray) : List ByteArray × Bool := if s = ⟨#[]⟩ then ([], true) else if sufB s ⟨#[10]⟩ = true then (Zcs ⟨#[10]⟩ (Zua s ⟨#[10]⟩), true) else ([], false)
theorem Zjt (c : UInt8) (s : ByteArray) : 1 ≤ (Zcs ⟨#[c]⟩ s).length := List.length_pos_iff.2 (Zwe c s)
theorem Ycm (s : ByteArray) : (lnR s).1.length ≤ s.size + 1 ∧ ∀ l ∈ (lnR s).1, l.size ≤ s.size := by
  unfold lnR
  split
  · exact ⟨Nat.zero_le _, fun l h => by cases h⟩
  · split
    · have h1 := Znc 10 (Zua s ⟨#[10]⟩)
      have h2 := Zud s ⟨#[10]⟩
      exact ⟨by show (Zcs _ _).length ≤ _; omega, fun l h => Nat.le_trans (Zgt h) h2⟩
    · exact ⟨Nat.zero_le _, fun l h => by cases h⟩
theorem dcN_num {n : Int} (h : -1000000000000000000 < n ∧ n < 1000000000000000000) : dcN (Zeb n) = n := (Zoi (Zuc h) (Ycl h) rfl).2
theorem Ycn {s : ByteArray} {c : UInt8} (h : sufB s ⟨#[c]⟩ = true) : ∃ t, s = t ++ (⟨#[c]⟩ : ByteArray) := by
  unfold sufB Lib.hasSuffix at h
  obtain ⟨t, ht⟩ := List.isSuffixOf_iff_suffix.1 h
  refine ⟨⟨t.toArray⟩, ?_⟩
  apply ByteArray.ext
  apply Array.ext'
  simpa using ht.symm
theorem Zue {α : Type} [Inhabited α] (xs : List α) {k j : Nat} (h : j < k) : at_ (xs.take k) j = at_ xs j := by simp [at_, List.getElem?_take, h]
theorem splC_noB (c : UInt8) : ∀ (n : Nat) (s : ByteArray), s.size ≤ n → ∀ x ∈ Zkf c s, noB c x := by
  intro n
  induction n with
  | zero => intro s h x hx; have := Zsg (s := s) (by omega); subst this; rw [Zjs Zol] at hx; rw [List.mem_singleton.1 hx]; exact Zol
  | succ n ih =>
    intro s h x hx
    by_cases hc : noB c s
    · rw [Zjs hc] at hx; rw [List.mem_singleton.1 hx]; exact hc
    · obtain ⟨a, b, e, ha⟩ := List.eq_append_cons_of_mem (Classical.not_not.1 hc)
      have hs : s = ((⟨a.toArray⟩ : ByteArray) ++ ⟨#[c]⟩) ++ (⟨b.toArray⟩ : ByteArray) := by
        apply ByteArray.ext
        apply Array.ext'
        rw [e]; simp
      have hl := congrArg List.length e
      rw [Zfg, List.length_append, List.length_cons] at hl
      have hb : (⟨b.toArray⟩ : ByteArray).size ≤ n := by show b.toArray.size ≤ n; rw [List.size_toArray]; omega
      have hx2 : Zkf c s = (⟨a.toArray⟩ : ByteArray) :: Zkf c ⟨b.toArray⟩ := by
        rw [hs]; exact Znb (by unfold noB; simpa using ha)
      rw [hx2] at hx
      rcases List.mem_cons.1 hx with rfl | hx
      · unfold noB; simpa using ha
      · exact ih _ hb x hx
theorem Zwg (s : ByteArray) : (at_ (Zcs ⟨#[10]⟩ s) ((Zcs ⟨#[10]⟩ s).length - 1) = ⟨#[]⟩ ∧ lnR s = ((Zcs ⟨#[10]⟩ s).take ((Zcs ⟨#[10]⟩ s).length - 1), true)) ∨ (¬ at_ (Zcs ⟨#[10]⟩ s) ((Zcs ⟨#[10]⟩ s).length - 1) = ⟨#[]⟩ ∧ (lnR s).2 = false) := by
  have hp := Zjt 10 s
  have hj := Zwf 10 s.size s (Nat.le_refl _)
  have hn := splC_noB 10 s.size s (Nat.le_refl _)
  generalize hL : Zcs ⟨#[10]⟩ s = L at hp ⊢
  have hL' : Zkf 10 s = L := hL
  rw [hL'] at hj hn
  have hd : L = L.take (L.length - 1) ++ [at_ L (L.length - 1)] := by
    have h2 := List.take_succ_eq_append_getElem (l := L) (i := L.length - 1) (by omega)
    rw [show L.length - 1 + 1 = L.length from by omega, List.take_length, ← Zez (by omega)] at h2
    exact h2
  generalize at_ L (L.length - 1) = y at hd ⊢
  generalize L.take (L.length - 1) = T at hd ⊢
  subst hd
  have hnT : ∀ x ∈ T, noB 10 x := fun x hx => hn x (List.mem_append_left _ hx)
  have hny : noB 10 y := hn y (by simp)
  by_cases hT : T = []
  · subst hT
    have hs : s = y := by rw [← hj]; simp [jnB, Zje, Zjf]
    by_cases hy : y = ⟨#[]⟩
    · exact .inl ⟨hy, by unfold lnR; rw [if_pos (hs.trans hy)]⟩
    · refine .inr ⟨hy, ?_⟩
      unfold lnR
      rw [if_neg (fun q => hy (hs ▸ q)), if_neg]
      intro q
      obtain ⟨t, ht⟩ := Ycn q
      exact hny (by rw [← hs, ht]; simp)
  · have hs : s = (jnB ⟨#[10]⟩ T ++ ⟨#[10]⟩) ++ y := by rw [← hj]; exact Zsh hT
    by_cases hy : y = ⟨#[]⟩
    · subst hy
      have hs2 : s = jnB ⟨#[10]⟩ T ++ ⟨#[10]⟩ := by rw [hs]; exact Zjf _
      refine .inl ⟨rfl, ?_⟩
      unfold lnR
      rw [if_neg (fun q => by have := congrArg ByteArray.size q; rw [hs2, ByteArray.size_append] at this; have h1 : (⟨#[10]⟩ : ByteArray).size = 1 := rfl; have h2 : (⟨#[]⟩ : ByteArray).size = 0 := rfl; omega), hs2, if_pos (Zsi _ _), Zsj]
      congr 1
      exact Znd (c := 10) hT hnT
    · refine .inr ⟨hy, ?_⟩
      have hz : 0 < y.size := Nat.pos_of_ne_zero fun e => hy (Zsg e)
      unfold lnR
      rw [if_neg (fun q => by have := congrArg ByteArray.size q; rw [hs, ByteArray.size_append] at this; have h2 : (⟨#[]⟩ : ByteArray).size = 0 := rfl; omega), if_neg]
      intro q
      obtain ⟨t, ht⟩ := Ycn q
      have e := congrArg (fun z : ByteArray => z.data.toList) (hs.symm.trans ht)
      simp only [ByteArray.data_append, Array.toList_append] at e
      have hyl : y.data.toList ≠ [] := fun e2 => by have := Zfg y; rw [e2] at this; simp at this; omega
      have e3 := congrArg List.getLast? e
      obtain ⟨z, hz2⟩ : ∃ z, y.data.toList.getLast? = some z := by
        cases hq : y.data.toList.getLast? with
        | none => exact absurd (List.getLast?_eq_none_iff.1 hq) hyl
        | some z => exact ⟨z, rfl⟩
      rw [List.getLast?_append, List.getLast?_append, hz2] at e3
      have e4 : z = 10 := by simpa using e3
      have : (10 : UInt8) ∈ y.data.toList := e4 ▸ List.mem_of_getLast? hz2
      exact hny this
theorem linesX_T {T : List ByteArray} {s : ByteArray} (h : lnR s = (T, true)) : Zek T T.length = s := by
  unfold lnR at h
  split at h
  · rename_i h0; have := congrArg Prod.fst h; simp only at this; subst this; rw [h0]; rfl
  · rename_i h0
    split at h
    · rename_i h1
      have hT := congrArg Prod.fst h
      simp only at hT
      obtain ⟨t, ht⟩ := Ycn h1
      rw [ht, Zsj] at hT
      obtain ⟨_, _, e⟩ := Zlz (ls := T) (by rw [← hT]; exact Zwe 10 t)
      rw [e, ← hT, ht]
      congr 1
      exact Zwf 10 t.size t (Nat.le_refl _)
    · have := congrArg Prod.snd h; simp at this
theorem Zwh (s : ByteArray) (hz : s.size ≤ 10000000) : ∃ (ls : List ByteArray) (k : Bool), (ls = (lnR s).1) ∧ (k = (lnR s).2) ∧ Con Tryz.prog 26 [Sv s] true (.tup [slS true ls, Bv k]) := by
  have hh : ∃ r : (List ByteArray) × Bool, ((r.1 = (lnR s).1) ∧ (r.2 = (lnR s).2) ∧ (True)) ∧ Zaz Tryz.prog 26 [Sv s] (Zaf []) true (.tup [slS true r.1, Bv r.2]) (Zaf []) := by
    refine Zde (Φ := fun r : (List ByteArray) × Bool => (r.1 = (lnR s).1) ∧ (r.2 = (lnR s).2) ∧ (True)) [] (fun r => []) (fn := Tryz.f26) (nt := 12) Tryz.func26 rfl rfl (args := [Sv s]) rfl (Zbw (.inl ⟨rfl, trivial⟩) Zdb) (res := fun r => .tup [slS true r.1, Bv r.2]) ?_
    refine xR [] [0] [] [Sv s] [] [] trivial ?_
    refine Zap ?_
    refine Zap ?_
    by_cases h1 : s = (⟨#[]⟩ : ByteArray)
    ·have hlb : lnR s = ([], true) := if_pos h1
     refine x_r [(1, .dec true)] [0, 5] [] [Sv s, Bv true] [] [s = (⟨#[]⟩ : ByteArray)] ⟨h1, trivial⟩ ?_
     refine Zab ?_
     refine Zbq rfl ?_
     refine xR [] [2, 3] [] [Zao, Bv true] [] [] trivial ?_
     refine Zcf ?_
     refine Zbd ?_
     refine Zbn (([] : List ByteArray), true) (show (([] : List ByteArray) = (lnR s).1) ∧ (true = (lnR s).2) ∧ (True) from ⟨(by first | (rw [hlb]; done)), (by first | (rw [hlb]; done)), trivial⟩) (trivial) (.tup [Zao, Bv true]) (by kernel_rfl) (.inr ⟨⟨rfl, rfl⟩, ⟨rfl, rfl⟩⟩) (fun _ => rfl) (fun _ => (by simp [Zak, Zah, Zer]))
    have hse := h1
    refine x_r [(1, .dec false)] [0, 5] [] [Sv s, Bv false] [] [¬ (s = (⟨#[]⟩ : ByteArray))] ⟨h1, trivial⟩ ?_
    refine Zab ?_
    refine Zbe rfl ?_
    refine Zca ?_
    refine Zab ?_
    refine Zap ?_
    refine Zap ?_
    rcases Bool.eq_false_or_eq_true (sufB s (⟨#[10]⟩ : ByteArray)) with h2 | h2
    ·have hlb : lnR s = (Zcs ⟨#[10]⟩ (Zua s ⟨#[10]⟩), true) := by unfold lnR; rw [if_neg hse, if_pos h2]
     refine x_r [(1, .call [(true, .any), (true, .any)] true (Bv true))] [0, 8] [] [Sv s, Bv false] [] [Con Tryz.prog 62 [Sv s, Sv (⟨#[10]⟩ : ByteArray)] true (Bv true) ∧ True] ⟨⟨(Zaq h2 (Zmm s (⟨#[10]⟩ : ByteArray) (by omega))), trivial⟩, trivial⟩ ?_
     refine Zab ?_
     refine Zbe rfl ?_
     refine Zca ?_
     refine Zab ?_
     refine xR [(1, .call [(true, .any), (true, .any)] true (Sv (Zua s (⟨#[10]⟩ : ByteArray)))), (2, .call [(true, .any), (true, .any)] true (slS true (Zcs (⟨#[10]⟩ : ByteArray) (Zua s (⟨#[10]⟩ : ByteArray)))))] [2, 3] [] [slS true (Zcs (⟨#[10]⟩ : ByteArray) (Zua s (⟨#[10]⟩ : ByteArray))), Bv true] [] [Con Tryz.prog 64 [Sv s, Sv (⟨#[10]⟩ : ByteArray)] true (Sv (Zua s (⟨#[10]⟩ : ByteArray))) ∧ True, Con Tryz.prog 63 [Sv (Zua s (⟨#[10]⟩ : ByteArray)), Sv (⟨#[10]⟩ : ByteArray)] true (slS true (Zcs (⟨#[10]⟩ : ByteArray) (Zua s (⟨#[10]⟩ : ByteArray)))) ∧ True] ⟨⟨(Zse s (⟨#[10]⟩ : ByteArray) (by omega)), trivial⟩, ⟨(Zyj (Zua s (⟨#[10]⟩ : ByteArray)) (⟨#[10]⟩ : ByteArray) ⟨by have := Zud s ⟨#[10]⟩; omega, trivial⟩ rfl), trivial⟩, trivial⟩ ?_
     refine Zcf ?_
     refine Zbn ((Zcs (⟨#[10]⟩ : ByteArray) (Zua s (⟨#[10]⟩ : ByteArray))), true) (show ((Zcs (⟨#[10]⟩ : ByteArray) (Zua s (⟨#[10]⟩ : ByteArray))) = (lnR s).1) ∧ (true = (lnR s).2) ∧ (True) from ⟨(by first | (rw [hlb]; done)), (by first | (rw [hlb]; done)), trivial⟩) (trivial) (.tup [slS true (Zcs (⟨#[10]⟩ : ByteArray) (Zua s (⟨#[10]⟩ : ByteArray))), Bv true]) (by kernel_rfl) (.inl rfl) (fun _ => rfl) (fun _ => (by simp [Zak, Zah, Zer]))
    have hlb : lnR s = ([], false) := by unfold lnR; rw [if_neg hse, if_neg (by simp [*])]
    refine x_r [(1, .call [(true, .any), (true, .any)] true (Bv false))] [0, 8] [] [Sv s, Bv true] [] [Con Tryz.prog 62 [Sv s, Sv (⟨#[10]⟩ : ByteArray)] true (Bv false) ∧ True] ⟨⟨(Zaq h2 (Zmm s (⟨#[10]⟩ : ByteArray) (by omega))), trivial⟩, trivial⟩ ?_
    refine Zab ?_
    refine Zbq rfl ?_
    refine xR [] [2, 3] [] [Zao, Bv false] [] [] trivial ?_
    refine Zcf ?_
    refine Zbd ?_
    refine Zbn (([] : List ByteArray), false) (show (([] : List ByteArray) = (lnR s).1) ∧ (false = (lnR s).2) ∧ (True) from ⟨(by first | (rw [hlb]; done)), (by first | (rw [hlb]; done)), trivial⟩) (trivial) (.tup [Zao, Bv false]) (by kernel_rfl) (.inr ⟨⟨rfl, rfl⟩, ⟨rfl, rfl⟩⟩) (fun _ => rfl) (fun _ => (by simp [Zak, Zah, Zer]))
  obtain ⟨⟨ls, k⟩, ⟨hh0, hh1, _⟩, hc⟩ := hh
  exact ⟨ls, k, hh0, hh1, hc⟩
theorem Zzs (s : ByteArray) (hz : s.size ≤ 10000000) : Con Tryz.prog 27 [Sv s] true (slS true (Zcs ⟨#[32]⟩ s)) := by
  refine Zdc (fn := Tryz.f27) (nt := 5) Tryz.func27 rfl rfl rfl rfl (by simp [Zah, Zak]) fun B hB => ?_
  refine aR [] [0] [] [Sv s] [] [] hB trivial ?_
  refine aR [(1, .call [(true, .any), (true, .any)] true (slS true (Zcs (⟨#[32]⟩ : ByteArray) s)))] [2] [] [slS true (Zcs (⟨#[32]⟩ : ByteArray) s)] [] [Con Tryz.prog 63 [Sv s, Sv (⟨#[32]⟩ : ByteArray)] true (slS true (Zcs (⟨#[32]⟩ : ByteArray) s)) ∧ True] hB ⟨⟨(Zyj s (⟨#[32]⟩ : ByteArray) ⟨by omega, trivial⟩ rfl), trivial⟩, trivial⟩ ?_
  refine Zax ?_
  refine Zba hB (slS true (Zcs (⟨#[32]⟩ : ByteArray) s)) (by kernel_rfl) (.inr ⟨(fun _ => rfl), rfl, (by first | rfl | (simp; done) | (simp; omega) | omega), fun i_ hi_ => .inl (by first | rfl | fail)⟩) rfl (fun _ => (Zer true _))
set_option maxHeartbeats 2000000 in
theorem Zuf (n : Int) (h : -9223372036854775808 ≤ n ∧ n ≤ 9223372036854775807) (w : World) (hw : WX w) : Calls Tryz.prog 24 #[.int .i64 n] w fun e w' => e = .returned (.string (Zeb n)) ∧ Below w.heap.size w w' := by
  go_enter Tryz.func24, Tryz.ntmps24
  go_wp2_with (go_at_call 61; refine (Tryz.strconv_FormatInt_10 n h.1 h.2 w (WX_tab hw)).mono ?_; rintro e w' ⟨rfl, k, os, rfl⟩)
  go_ret
  exact ⟨rfl, Lib.below_grow _ _ (Nat.le_refl _) k os⟩
set_option maxHeartbeats 4000000 in
set_option maxRecDepth 100000 in
theorem Zpt (s : ByteArray) (hz : s.size ≤ 140737488 ∧ True) (w : World) (hw : WX w) : Calls Tryz.prog 28 #[.string s] w fun e w' => e = .returned (.tuple #[.int .i64 (dcN s), .bool (dcB s)]) ∧ Below w.heap.size w w' := by
  by_cases ht : 1 ≤ (Lib.trimPrefix s.data.toList [45]).length ∧ (Lib.trimPrefix s.data.toList [45]).length ≤ 18
  · cases hp : Lib.parseIntB 64 s.data.toList with
    | ok n =>
      have hn := pI_bd hp
      by_cases he : Zeb n = s
      · have hr := Zoi hp ht he
        rw [hr.1, hr.2]
        go_enter Tryz.func28, Tryz.ntmps28
        go_wp2_with (go_at_call 65; refine (Tryz.strings_TrimPrefix s _ w).mono ?_; rintro e w' ⟨rfl, hw'⟩; rw [hw'])
        clear hw'
        go_wp2_with (go_at_call 66; refine (Tryz.strconv_ParseInt_10_at64_ok s (by omega) n hp w).mono ?_; rintro e w2 ⟨rfl, hw2⟩)
        have hb : Below w.heap.size w w2 := by
          rcases hw2 with rfl | ⟨t, rfl⟩
          · exact Below.refl _ _
          · exact Lib.bytesWorld_below _ _ _
        have hx := Zqz hw w2 hb
        clear hw2
        go_wp2_with (go_at_call 24; refine (Zuf n (by omega) w2 hx).mono ?_; rintro e w3 ⟨rfl, hb3⟩)
        go_ret2
        exact ⟨rfl, hb.trans (hb3.mono hb.size)⟩
      · have hr := Ycc hp he
        rw [hr.1, hr.2]
        have hne : ¬ (Zeb n).toList = s.toList := fun q => he (by
          rw [Lib.toList_data, Lib.toList_data] at q
          apply ByteArray.ext
          exact Array.ext' q)
        have hne2 : ((Zeb n).toList == s.toList) = false := beq_eq_false_iff_ne.2 hne
        go_enter Tryz.func28, Tryz.ntmps28
        go_wp2_with (go_at_call 65; refine (Tryz.strings_TrimPrefix s _ w).mono ?_; rintro e w' ⟨rfl, hw'⟩; rw [hw'])
        clear hw'
        go_wp2_with (go_at_call 66; refine (Tryz.strconv_ParseInt_10_at64_ok s (by omega) n hp w).mono ?_; rintro e w2 ⟨rfl, hw2⟩)
        have hb : Below w.heap.size w w2 := by
          rcases hw2 with rfl | ⟨t, rfl⟩
          · exact Below.refl _ _
          · exact Lib.bytesWorld_below _ _ _
        have hx := Zqz hw w2 hb
        clear hw2
        go_wp2_with (go_at_call 24; refine (Zuf n (by omega) w2 hx).mono ?_; rintro e w3 ⟨rfl, hb3⟩)
        go_ret2
        exact ⟨rfl, hb.trans (hb3.mono hb.size)⟩
        all_goals (exfalso; first | contradiction | (simp_all; done))
    | «syntax» =>
      have hr := Ycd (s := s) fun n => by rw [hp]; exact fun h => by cases h
      rw [hr.1, hr.2]
      obtain ⟨tp, p, hv⟩ := hw.2.1
      go_enter Tryz.func28, Tryz.ntmps28
      go_wp2_with (go_at_call 65; refine (Tryz.strings_TrimPrefix s _ w).mono ?_; rintro e w' ⟨rfl, hw'⟩; rw [hw'])
      clear hw'
      go_wp2_with (go_at_call 66; refine (Tryz.strconv_ParseInt_10_at64_syntax_var s (by omega) hp tp p w hv).mono ?_; rintro e w2 ⟨N, rfl, _, _, hb⟩)
      go_ret2
      exact ⟨rfl, hb⟩
    | range =>
      have hr := Ycd (s := s) fun n => by rw [hp]; exact fun h => by cases h
      rw [hr.1, hr.2]
      obtain ⟨tp, p, hv⟩ := hw.2.2
      go_enter Tryz.func28, Tryz.ntmps28
      go_wp2_with (go_at_call 65; refine (Tryz.strings_TrimPrefix s _ w).mono ?_; rintro e w' ⟨rfl, hw'⟩; rw [hw'])
      clear hw'
      go_wp2_with (go_at_call 66; refine (Tryz.strconv_ParseInt_10_at64_range_var s (by omega) hp tp p w hv).mono ?_; rintro e w2 ⟨N, rfl, _, _, hb⟩)
      go_ret2
      exact ⟨rfl, hb⟩
  · have hr := Zwa ht
    rw [hr.1, hr.2]
    by_cases h0 : (Lib.trimPrefix s.data.toList [45]).length < 1
    · go_enter Tryz.func28, Tryz.ntmps28
      go_wp2_with (go_at_call 65; refine (Tryz.strings_TrimPrefix s _ w).mono ?_; rintro e w' ⟨rfl, hw'⟩; rw [hw'])
      go_ret2
      exact ⟨rfl, Below.refl _ _⟩
    · have h18 : 18 < (Lib.trimPrefix s.data.toList [45]).length := by omega
      go_enter Tryz.func28, Tryz.ntmps28
      go_wp2_with (go_at_call 65; refine (Tryz.strings_TrimPrefix s _ w).mono ?_; rintro e w' ⟨rfl, hw'⟩; rw [hw'])
      go_ret2
      exact ⟨rfl, Below.refl _ _⟩
theorem Zwi (s : ByteArray) (hz : s.size ≤ 140737488 ∧ True) : Con Tryz.prog 28 [Sv s] true (.tup [I (dcN s), Bv (dcB s)]) :=
  Zsk (vals := [.string s]) fun w hw => Zpt s hz w hw
def Zjg (l : ByteArray) : ByteArray := at_ (Zcs ⟨#[32]⟩ l) 0
def Zjh (l : ByteArray) : List Int := ((Zcs ⟨#[32]⟩ l).drop 1).map dcN
def Zln (ls : List ByteArray) : Perceptron := ⟨ls.map Zjg, ls.map Zjh⟩
def rpI (s : ByteArray) : Perceptron × Bool := if (lnR s).2 = true ∧ Zbb (Zln (lnR s).1) = true ∧ Zeq (Zln (lnR s).1) = s then (Zln (lnR s).1, true) else (⟨[], []⟩, false)
theorem Zqi {s : ByteArray} (h : ¬ ((lnR s).2 = true ∧ Zbb (Zln (lnR s).1) = true ∧ Zeq (Zln (lnR s).1) = s)) : rpI s = (⟨[], []⟩, false) := if_neg h
theorem Zwj {s : ByteArray} (h : (lnR s).2 = true ∧ Zbb (Zln (lnR s).1) = true ∧ Zeq (Zln (lnR s).1) = s) : rpI s = (Zln (lnR s).1, true) := if_pos h
def Zom (l : ByteArray) : Bool := Zim ((Zcs ⟨#[32]⟩ l).length - 1) fun j => dcB (at_ (Zcs ⟨#[32]⟩ l) (j + 1))
def rsC (L : List ByteArray) : Prop := at_ L (L.length - 1) = ⟨#[]⟩ ∧ L.length ≤ 13 ∧ (∀ i, i < L.length - 1 → Zom (at_ L i) = true) ∧ Zbb (Zln (L.take (L.length - 1))) = true
open Classical in
noncomputable def rsP (s : ByteArray) : Perceptron × Bool := if rsC (Zcs ⟨#[10]⟩ s) then (Zln ((Zcs ⟨#[10]⟩ s).take ((Zcs ⟨#[10]⟩ s).length - 1)), true) else (⟨[], []⟩, false)
theorem Zqj {s : ByteArray} (h : ¬ rsC (Zcs ⟨#[10]⟩ s)) : rsP s = (⟨[], []⟩, false) := if_neg h
theorem Yco {s : ByteArray} (h : rsC (Zcs ⟨#[10]⟩ s)) : rsP s = (Zln ((Zcs ⟨#[10]⟩ s).take ((Zcs ⟨#[10]⟩ s).length - 1)), true) := if_pos h
theorem Ycp {ls : List ByteArray} {B : Nat} (h : ∀ l ∈ ls, l.size ≤ B) : ∀ y ∈ (Zln ls).Labels, y.size ≤ B := fun y hy => by
  obtain ⟨l, hl, rfl⟩ := List.mem_map.1 hy
  exact Nat.le_trans (Zgt (Zct (Zjt 32 l))) (h l hl)
theorem Zfz (s : ByteArray) (hz : s.size ≤ 100000) : ∃ (v : Perceptron) (c : Bool), (v = (rpI s).1) ∧ (c = (rpI s).2) ∧ Con Tryz.prog 9 [Sv s] true (.tup [Zan v, Bv c]) := by
  have hh : ∃ r : Perceptron × Bool, ((r.1 = (rpI s).1) ∧ (r.2 = (rpI s).2) ∧ (True)) ∧ Zaz Tryz.prog 9 [Sv s] (Zaf []) true (.tup [Zan r.1, Bv r.2]) (Zaf []) := by
    refine Zde (Φ := fun r : Perceptron × Bool => (r.1 = (rpI s).1) ∧ (r.2 = (rpI s).2) ∧ (True)) [] (fun r => []) (fn := Tryz.f9) (nt := 74) Tryz.func9 rfl rfl (args := [Sv s]) rfl (Zbw (.inl ⟨rfl, trivial⟩) Zdb) (res := fun r => .tup [Zan r.1, Bv r.2]) ?_
    refine xR [(0, .new 2)] [0, 2] [2] [Sv s, .ref 2 0] [some (.box [Zao, Zao])] [] trivial ?_
    refine Zap ?_
    obtain ⟨ls_1, k_1, hx1_0, hx1_1, hc1⟩ := Zwh s (by omega)
    have hlv : ls_1 = (lnR s).1 := hx1_0
    have hlc : k_1 = (lnR s).2 := hx1_1
    have hll := Ycm s
    rw [← hlv] at hll
    refine x_r [(1, .call [(true, .any)] true (.tup [slS true ls_1, Bv k_1]))] [0, 2, 4, 5] [2] [Sv s, .ref 2 0, slS true ls_1, Bv k_1] [some (.box [Zao, Zao])] [Con Tryz.prog 26 [Sv s] true (.tup [slS true ls_1, Bv k_1]) ∧ True] ⟨⟨hc1, trivial⟩, trivial⟩ ?_
    refine Zab ?_
    refine Zap ?_
    refine Zap ?_
    rcases Bool.eq_false_or_eq_true k_1 with h1 | h1
    ·subst h1
     have hc1 : (lnR s).2 = true := by first | exact hlc.symm | (rw [← hlc]; exact h1)
     refine x_r [] [0, 2, 4, 21] [2] [Sv s, .ref 2 0, slS true ls_1, Bv false] [some (.box [Zao, Zao])] [] trivial ?_
     refine Zab ?_
     refine Zbe rfl ?_
     refine Zca ?_
     refine Zab ?_
     refine xR [(0, .new 6)] [0, 2, 4, 6] [2, 6] [Sv s, .ref 2 0, slS true ls_1, .ref 6 0] [some (.box [Zao, Zao]), some (.box [Zao, Zao])] [] trivial ?_
     refine Zap ?_
     refine xR [] [0, 2, 6, 23, 24, 25] [2, 6] [Sv s, .ref 2 0, .ref 6 0, slS true ls_1, I (ls_1.length : Int), I 0] [some (.box [Zao, Zao]), some (.box [Zao, Zao])] [] trivial ?_
     refine Zbz ?_
     refine Zkm 6 0 760 1 (fun _ => []) rfl (by kernel_rfl) ?_
     refine Zkm 6 1 761 1 (fun _ => []) rfl (by kernel_rfl) ?_
     refine Zzc 9203 1 (fun _ => 0) (fun _ _ => []) (by kernel_rfl) ?_
     refine Zcz [] (T := [(0, Sv s), (2, .ref 2 0), (6, .ref 6 0), (23, slS true ls_1), (24, I (ls_1.length : Int)), (25, I 0)]) (O := [(2, .box [Zao, Zao]), (6, .box [.arr 760, .arr 761]), (760, tAS ([] : List ByteArray)), (761, Zbv 9203 ([] : List (List Int))), (9203, Zbm ([] : List (List Int)))]) rfl (⟨.inl rfl, .inl rfl, .inl rfl, .inl rfl, .inl rfl, .inl rfl, trivial⟩) (⟨.inl rfl, .inl rfl, .inr ⟨rfl, (by first | rfl | (simp; done) | (simp; omega) | omega), fun i_ hi_ => absurd hi_ (Nat.not_lt_zero _)⟩, .inr ⟨rfl, rfl, fun i hi => absurd hi (Nat.not_lt_zero _)⟩, .inr ⟨rfl, rfl, fun p hp => absurd hp (Nat.not_lt_zero _)⟩, trivial⟩) ?_
     refine Zeh (X := Int × (List ByteArray) × (List (List Int))) (fun x => mkS [(0, Sv s), (2, .ref 2 0), (6, .ref 6 0), (23, slS true ls_1), (24, I (ls_1.length : Int)), (25, I x.1)] [(2, .box [Zao, Zao]), (6, .box [.arr 760, .arr 761]), (760, tAS x.2.1), (761, Zbv 9203 x.2.2), (9203, Zbm x.2.2)]) (fun x => (0 ≤ x.1 ∧ x.1 ≤ (ls_1.length : Int)) ∧ ((x.2.1.length : Int) = x.1) ∧ ((x.2.2.length : Int) = x.1) ∧ (x.2.1 = (ls_1.take x.1.toNat).map Zjg) ∧ (x.2.2 = (ls_1.take x.1.toNat).map Zjh) ∧ True) (fun x => ((ls_1.length : Int) - x.1).toNat) (0, ([] : List ByteArray), ([] : List (List Int))) rfl (show (0 ≤ (0 : Int) ∧ (0 : Int) ≤ (ls_1.length : Int)) ∧ ((([] : List ByteArray).length : Int) = (0 : Int)) ∧ ((([] : List (List Int)).length : Int) = (0 : Int)) ∧ (([] : List ByteArray) = (ls_1.take (0 : Int).toNat).map Zjg) ∧ (([] : List (List Int)) = (ls_1.take (0 : Int).toNat).map Zjh) ∧ True from ⟨(by omega), (by rfl), (by rfl), (by rfl), (by rfl), trivial⟩) (fun x hI => ?_)
     obtain ⟨k, ls, ws⟩ := x
     obtain ⟨hi0, hl1, hl2, hls, hws, _⟩ : (0 ≤ k ∧ k ≤ (ls_1.length : Int)) ∧ ((ls.length : Int) = k) ∧ ((ws.length : Int) = k) ∧ (ls = (ls_1.take k.toNat).map Zjg) ∧ (ws = (ls_1.take k.toNat).map Zjh) ∧ True := hI
     show XW _ _ _ _ (mkS [(0, Sv s), (2, .ref 2 0), (6, .ref 6 0), (23, slS true ls_1), (24, I (ls_1.length : Int)), (25, I k)] [(2, .box [Zao, Zao]), (6, .box [.arr 760, .arr 761]), (760, tAS ls), (761, Zbv 9203 ws), (9203, Zbm ws)]) _ _
     refine Zap ?_
     by_cases h2 : k < (ls_1.length : Int)
     ·have hi : k.toNat < ls_1.length := by omega
      have hlz := hll.2 _ (Zct hi)
      have hwp := Zjt 32 (at_ ls_1 k.toNat)
      have hwl := Znc 32 (at_ ls_1 k.toNat)
      refine x_r [(0, .dec true)] [0, 2, 6, 23, 24, 25, 26] [2, 6, 760, 761, 9203] [Sv s, .ref 2 0, .ref 6 0, slS true ls_1, I (ls_1.length : Int), I k, Bv true] [some (.box [Zao, Zao]), some (.box [.arr 760, .arr 761]), some (tAS ls), some (Zbv 9203 ws), some (Zbm ws)] [k < (ls_1.length : Int)] ⟨h2, trivial⟩ ?_
      refine Zab ?_
      refine Zap ?_
      refine Zbq rfl ?_
      refine Zca ?_
      refine Zab ?_
      refine Zap ?_
      refine Zbz ?_
      refine xR [] [0, 2, 6, 8, 23, 24, 25] [2, 6, 760, 761, 9203] [Sv s, .ref 2 0, .ref 6 0, Sv (at_ ls_1 k.toNat), slS true ls_1, I (ls_1.length : Int), I k] [some (.box [Zao, Zao]), some (.box [.arr 760, .arr 761]), some (tAS ls), some (Zbv 9203 ws), some (Zbm ws)] [(0 : Int) ≤ k ∧ k < (ls_1.length : Int)] ⟨⟨(by omega), (by omega)⟩, trivial⟩ ?_
      refine xR [(1, .call [(true, .any)] true (slS true (Zcs ⟨#[32]⟩ (at_ ls_1 k.toNat))))] [0, 2, 6, 9, 23, 24, 25] [2, 6, 760, 761, 9203] [Sv s, .ref 2 0, .ref 6 0, slS true (Zcs ⟨#[32]⟩ (at_ ls_1 k.toNat)), slS true ls_1, I (ls_1.length : Int), I k] [some (.box [Zao, Zao]), some (.box [.arr 760, .arr 761]), some (tAS ls), some (Zbv 9203 ws), some (Zbm ws)] [Con Tryz.prog 27 [Sv (at_ ls_1 k.toNat)] true (slS true (Zcs ⟨#[32]⟩ (at_ ls_1 k.toNat))) ∧ True] ⟨⟨(Zzs (at_ ls_1 k.toNat) (by first | omega | (refine ⟨?_, trivial⟩; first | omega | (simp only [Zkw]; omega) | (rw [Nat.add_comm]; omega)))), trivial⟩, trivial⟩ ?_
      refine xR [] [0, 2, 6, 9, 10, 23, 24, 25] [2, 6, 760, 761, 9203] [Sv s, .ref 2 0, .ref 6 0, slS true (Zcs ⟨#[32]⟩ (at_ ls_1 k.toNat)), Zao, slS true ls_1, I (ls_1.length : Int), I k] [some (.box [Zao, Zao]), some (.box [.arr 760, .arr 761]), some (tAS ls), some (Zbv 9203 ws), some (Zbm ws)] [] trivial ?_
      refine Zap ?_
      refine xR [] [0, 2, 6, 9, 10, 23, 24, 25, 32, 33, 34] [2, 6, 760, 761, 9203] [Sv s, .ref 2 0, .ref 6 0, slS true (Zcs ⟨#[32]⟩ (at_ ls_1 k.toNat)), Zao, slS true ls_1, I (ls_1.length : Int), I k, .sl true 1 ((((Zcs ⟨#[32]⟩ (at_ ls_1 k.toNat)).length) : Int).toNat - 1) (Zpj 1 (fS (Zcs ⟨#[32]⟩ (at_ ls_1 k.toNat)))), I (((((Zcs ⟨#[32]⟩ (at_ ls_1 k.toNat)).length) : Int).toNat - 1 : Nat) : Int), I 0] [some (.box [Zao, Zao]), some (.box [.arr 760, .arr 761]), some (tAS ls), some (Zbv 9203 ws), some (Zbm ws)] [(0 : Int) ≤ 1 ∧ (1 : Int) ≤ (((Zcs ⟨#[32]⟩ (at_ ls_1 k.toNat)).length) : Int) ∧ (((Zcs ⟨#[32]⟩ (at_ ls_1 k.toNat)).length) : Int) ≤ (((Zcs ⟨#[32]⟩ (at_ ls_1 k.toNat)).length) : Int)] ⟨⟨(by omega), (by omega), (by omega)⟩, trivial⟩ ?_
      refine Zbz ?_
      refine x_nil 10 710 1 (fun _ => []) (by kernel_rfl) ?_
      refine Zcz [] (T := [(0, Sv s), (2, .ref 2 0), (6, .ref 6 0), (9, slS true (Zcs ⟨#[32]⟩ (at_ ls_1 k.toNat))), (10, .arr 710), (23, slS true ls_1), (24, I (ls_1.length : Int)), (25, I k), (32, .sl true 1 ((((Zcs ⟨#[32]⟩ (at_ ls_1 k.toNat)).length) : Int).toNat - 1) (Zpj 1 (fS (Zcs ⟨#[32]⟩ (at_ ls_1 k.toNat))))), (33, I (((((Zcs ⟨#[32]⟩ (at_ ls_1 k.toNat)).length) : Int).toNat - 1 : Nat) : Int)), (34, I 0)]) (O := [(2, .box [Zao, Zao]), (6, .box [.arr 760, .arr 761]), (710, tAI ([] : List Int)), (760, tAS ls), (761, Zbv 9203 ws), (9203, Zbm ws)]) rfl (⟨.inl rfl, .inl rfl, .inl rfl, .inl rfl, .inl rfl, .inl rfl, .inl rfl, .inl rfl, .inl rfl, .inl rfl, .inl rfl, trivial⟩) (⟨.inl rfl, .inl rfl, .inr ⟨rfl, (by first | rfl | (simp; done) | (simp; omega) | omega), fun i_ hi_ => absurd hi_ (Nat.not_lt_zero _)⟩, .inl rfl, .inl rfl, .inl rfl, trivial⟩) ?_
      refine Zeh (X := (List Int) × Int) (fun x => mkS [(0, Sv s), (2, .ref 2 0), (6, .ref 6 0), (9, slS true (Zcs ⟨#[32]⟩ (at_ ls_1 k.toNat))), (10, .arr 710), (23, slS true ls_1), (24, I (ls_1.length : Int)), (25, I k), (32, .sl true 1 ((((Zcs ⟨#[32]⟩ (at_ ls_1 k.toNat)).length) : Int).toNat - 1) (Zpj 1 (fS (Zcs ⟨#[32]⟩ (at_ ls_1 k.toNat))))), (33, I (((((Zcs ⟨#[32]⟩ (at_ ls_1 k.toNat)).length) : Int).toNat - 1 : Nat) : Int)), (34, I x.2)] [(2, .box [Zao, Zao]), (6, .box [.arr 760, .arr 761]), (710, tAI x.1), (760, tAS ls), (761, Zbv 9203 ws), (9203, Zbm ws)]) (fun x => (0 ≤ x.2 ∧ x.2 ≤ ((Zcs ⟨#[32]⟩ (at_ ls_1 k.toNat)).length : Int) - 1) ∧ (x.1 = (((Zcs ⟨#[32]⟩ (at_ ls_1 k.toNat)).drop 1).take x.2.toNat).map dcN) ∧ True) (fun x => (((Zcs ⟨#[32]⟩ (at_ ls_1 k.toNat)).length : Int) - x.2).toNat) (([] : List Int), 0) rfl (show (0 ≤ (0 : Int) ∧ (0 : Int) ≤ ((Zcs ⟨#[32]⟩ (at_ ls_1 k.toNat)).length : Int) - 1) ∧ (([] : List Int) = (((Zcs ⟨#[32]⟩ (at_ ls_1 k.toNat)).drop 1).take (0 : Int).toNat).map dcN) ∧ True from ⟨(by omega), (by rfl), trivial⟩) (fun x hI => ?_)
      obtain ⟨row, j⟩ := x
      obtain ⟨hj0, hrw, _⟩ : (0 ≤ j ∧ j ≤ ((Zcs ⟨#[32]⟩ (at_ ls_1 k.toNat)).length : Int) - 1) ∧ (row = (((Zcs ⟨#[32]⟩ (at_ ls_1 k.toNat)).drop 1).take j.toNat).map dcN) ∧ True := hI
      show XW _ _ _ _ (mkS [(0, Sv s), (2, .ref 2 0), (6, .ref 6 0), (9, slS true (Zcs ⟨#[32]⟩ (at_ ls_1 k.toNat))), (10, .arr 710), (23, slS true ls_1), (24, I (ls_1.length : Int)), (25, I k), (32, .sl true 1 ((((Zcs ⟨#[32]⟩ (at_ ls_1 k.toNat)).length) : Int).toNat - 1) (Zpj 1 (fS (Zcs ⟨#[32]⟩ (at_ ls_1 k.toNat))))), (33, I (((((Zcs ⟨#[32]⟩ (at_ ls_1 k.toNat)).length) : Int).toNat - 1 : Nat) : Int)), (34, I j)] [(2, .box [Zao, Zao]), (6, .box [.arr 760, .arr 761]), (710, tAI row), (760, tAS ls), (761, Zbv 9203 ws), (9203, Zbm ws)]) _ _
      refine Zap ?_
      by_cases h3 : j < (((((Zcs ⟨#[32]⟩ (at_ ls_1 k.toNat)).length) : Int).toNat - 1 : Nat) : Int)
      ·have hj : j.toNat + 1 < (Zcs ⟨#[32]⟩ (at_ ls_1 k.toNat)).length := by omega
       have hjz := Zgt (Zct hj)
       have hrl : row.length = j.toNat := by rw [hrw]; simp only [List.length_map, List.length_take, List.length_drop]; omega
       refine x_r [(0, .dec true)] [0, 2, 6, 9, 10, 23, 24, 25, 32, 33, 34, 35] [2, 6, 710, 760, 761, 9203] [Sv s, .ref 2 0, .ref 6 0, slS true (Zcs ⟨#[32]⟩ (at_ ls_1 k.toNat)), .arr 710, slS true ls_1, I (ls_1.length : Int), I k, .sl true 1 ((((Zcs ⟨#[32]⟩ (at_ ls_1 k.toNat)).length) : Int).toNat - 1) (Zpj 1 (fS (Zcs ⟨#[32]⟩ (at_ ls_1 k.toNat)))), I (((((Zcs ⟨#[32]⟩ (at_ ls_1 k.toNat)).length) : Int).toNat - 1 : Nat) : Int), I j, Bv true] [some (.box [Zao, Zao]), some (.box [.arr 760, .arr 761]), some (tAI row), some (tAS ls), some (Zbv 9203 ws), some (Zbm ws)] [j < (((((Zcs ⟨#[32]⟩ (at_ ls_1 k.toNat)).length) : Int).toNat - 1 : Nat) : Int)] ⟨h3, trivial⟩ ?_
       refine Zab ?_
       refine Zap ?_
       refine Zbq rfl ?_
       refine Zca ?_
       refine Zab ?_
       refine Zap ?_
       refine Zbz ?_
       refine xR [] [0, 2, 6, 9, 10, 12, 23, 24, 25, 32, 33, 34] [2, 6, 710, 760, 761, 9203] [Sv s, .ref 2 0, .ref 6 0, slS true (Zcs ⟨#[32]⟩ (at_ ls_1 k.toNat)), .arr 710, Sv (at_ (Zcs ⟨#[32]⟩ (at_ ls_1 k.toNat)) (1 + j.toNat)), slS true ls_1, I (ls_1.length : Int), I k, .sl true 1 ((((Zcs ⟨#[32]⟩ (at_ ls_1 k.toNat)).length) : Int).toNat - 1) (Zpj 1 (fS (Zcs ⟨#[32]⟩ (at_ ls_1 k.toNat)))), I (((((Zcs ⟨#[32]⟩ (at_ ls_1 k.toNat)).length) : Int).toNat - 1 : Nat) : Int), I j] [some (.box [Zao, Zao]), some (.box [.arr 760, .arr 761]), some (tAI row), some (tAS ls), some (Zbv 9203 ws), some (Zbm ws)] [(0 : Int) ≤ j ∧ j < (((((Zcs ⟨#[32]⟩ (at_ ls_1 k.toNat)).length) : Int).toNat - 1 : Nat) : Int)] ⟨⟨(by omega), (by omega)⟩, trivial⟩ ?_
       refine xR [(1, .call [(true, .any)] true (.tup [I (dcN (at_ (Zcs ⟨#[32]⟩ (at_ ls_1 k.toNat)) (1 + j.toNat))), Bv (dcB (at_ (Zcs ⟨#[32]⟩ (at_ ls_1 k.toNat)) (1 + j.toNat)))]))] [0, 2, 6, 9, 10, 13, 23, 24, 25, 32, 33, 34] [2, 6, 710, 760, 761, 9203] [Sv s, .ref 2 0, .ref 6 0, slS true (Zcs ⟨#[32]⟩ (at_ ls_1 k.toNat)), .arr 710, I (dcN (at_ (Zcs ⟨#[32]⟩ (at_ ls_1 k.toNat)) (1 + j.toNat))), slS true ls_1, I (ls_1.length : Int), I k, .sl true 1 ((((Zcs ⟨#[32]⟩ (at_ ls_1 k.toNat)).length) : Int).toNat - 1) (Zpj 1 (fS (Zcs ⟨#[32]⟩ (at_ ls_1 k.toNat)))), I (((((Zcs ⟨#[32]⟩ (at_ ls_1 k.toNat)).length) : Int).toNat - 1 : Nat) : Int), I j] [some (.box [Zao, Zao]), some (.box [.arr 760, .arr 761]), some (tAI row), some (tAS ls), some (Zbv 9203 ws), some (Zbm ws)] [Con Tryz.prog 28 [Sv (at_ (Zcs ⟨#[32]⟩ (at_ ls_1 k.toNat)) (1 + j.toNat))] true (.tup [I (dcN (at_ (Zcs ⟨#[32]⟩ (at_ ls_1 k.toNat)) (1 + j.toNat))), Bv (dcB (at_ (Zcs ⟨#[32]⟩ (at_ ls_1 k.toNat)) (1 + j.toNat)))]) ∧ True] ⟨⟨(Zwi (at_ (Zcs ⟨#[32]⟩ (at_ ls_1 k.toNat)) (1 + j.toNat)) (by first | omega | (refine ⟨?_, trivial⟩; first | omega | (simp only [Zkw]; omega) | (rw [Nat.add_comm]; omega)))), trivial⟩, trivial⟩ ?_
       refine x_r [(2, .new 45), (3, .new 46)] [0, 2, 6, 9, 10, 23, 24, 25, 32, 33, 34] [2, 6, 46, 760, 761, 9203] [Sv s, .ref 2 0, .ref 6 0, slS true (Zcs ⟨#[32]⟩ (at_ ls_1 k.toNat)), .arr 46, slS true ls_1, I (ls_1.length : Int), I k, .sl true 1 ((((Zcs ⟨#[32]⟩ (at_ ls_1 k.toNat)).length) : Int).toNat - 1) (Zpj 1 (fS (Zcs ⟨#[32]⟩ (at_ ls_1 k.toNat)))), I (((((Zcs ⟨#[32]⟩ (at_ ls_1 k.toNat)).length) : Int).toNat - 1 : Nat) : Int), I j] [some (.box [Zao, Zao]), some (.box [.arr 760, .arr 761]), some (.arr 1 (row.length + 1) (Zdf row.length (fI row) (Zcw [I (dcN (at_ (Zcs ⟨#[32]⟩ (at_ ls_1 k.toNat)) (1 + j.toNat)))] 1))), some (tAS ls), some (Zbv 9203 ws), some (Zbm ws)] [(row.length + 1) * 8 ≤ 140737488355328] ⟨(by omega), trivial⟩ ?_
       refine Zbr 3 ?_
       refine Zab ?_
       refine x_r [] [0, 2, 6, 9, 10, 23, 24, 25, 32, 33, 34] [2, 6, 46, 760, 761, 9203] [Sv s, .ref 2 0, .ref 6 0, slS true (Zcs ⟨#[32]⟩ (at_ ls_1 k.toNat)), .arr 46, slS true ls_1, I (ls_1.length : Int), I k, .sl true 1 ((((Zcs ⟨#[32]⟩ (at_ ls_1 k.toNat)).length) : Int).toNat - 1) (Zpj 1 (fS (Zcs ⟨#[32]⟩ (at_ ls_1 k.toNat)))), I (((((Zcs ⟨#[32]⟩ (at_ ls_1 k.toNat)).length) : Int).toNat - 1 : Nat) : Int), I (j + 1)] [some (.box [Zao, Zao]), some (.box [.arr 760, .arr 761]), some (.arr 1 (row.length + 1) (Zdf row.length (fI row) (Zcw [I (dcN (at_ (Zcs ⟨#[32]⟩ (at_ ls_1 k.toNat)) (1 + j.toNat)))] 1))), some (tAS ls), some (Zbv 9203 ws), some (Zbm ws)] [inR .i64 (j + 1)] ⟨(Zam (by omega) (by omega)), trivial⟩ ?_
       refine Zcx [(710, 46)] (T := [(0, Sv s), (2, .ref 2 0), (6, .ref 6 0), (9, slS true (Zcs ⟨#[32]⟩ (at_ ls_1 k.toNat))), (10, .arr 710), (23, slS true ls_1), (24, I (ls_1.length : Int)), (25, I k), (32, .sl true 1 ((((Zcs ⟨#[32]⟩ (at_ ls_1 k.toNat)).length) : Int).toNat - 1) (Zpj 1 (fS (Zcs ⟨#[32]⟩ (at_ ls_1 k.toNat))))), (33, I (((((Zcs ⟨#[32]⟩ (at_ ls_1 k.toNat)).length) : Int).toNat - 1 : Nat) : Int)), (34, I (j + 1))]) (O := [(2, .box [Zao, Zao]), (6, .box [.arr 760, .arr 761]), (710, tAI (row ++ [(dcN (at_ (Zcs ⟨#[32]⟩ (at_ ls_1 k.toNat)) (1 + j.toNat)))])), (760, tAS ls), (761, Zbv 9203 ws), (9203, Zbm ws)]) rfl (⟨.inl rfl, .inl rfl, .inl rfl, .inl rfl, .inl rfl, .inl rfl, .inl rfl, .inl rfl, .inl rfl, .inl rfl, .inl rfl, trivial⟩) (⟨.inl rfl, .inl rfl, .inr ⟨rfl, (by first | rfl | (simp; done) | (simp; omega) | omega), fun i_ hi_ => .inl (Zee (enc := cI) (xs := row) rfl i_ hi_)⟩, .inl rfl, .inl rfl, .inl rfl, trivial⟩) (Zcj ((row ++ [(dcN (at_ (Zcs ⟨#[32]⟩ (at_ ls_1 k.toNat)) (1 + j.toNat)))]), (j + 1)) rfl (show (0 ≤ (j + 1) ∧ (j + 1) ≤ ((Zcs ⟨#[32]⟩ (at_ ls_1 k.toNat)).length : Int) - 1) ∧ ((row ++ [(dcN (at_ (Zcs ⟨#[32]⟩ (at_ ls_1 k.toNat)) (1 + j.toNat)))]) = (((Zcs ⟨#[32]⟩ (at_ ls_1 k.toNat)).drop 1).take (j + 1).toNat).map dcN) ∧ True from ⟨(by omega), (by rw [hrw]; exact (Zfh (by omega) (by rw [List.length_drop]; omega) (by first | rfl | (rw [Zkw]; done) | (rw [Zkw, Nat.add_comm]; done))).symm), trivial⟩) (by first | (show ((((Zcs ⟨#[32]⟩ (at_ ls_1 k.toNat)).length : Int) - (j + 1)).toNat : Nat) < (((Zcs ⟨#[32]⟩ (at_ ls_1 k.toNat)).length : Int) - j).toNat; omega) | (dsimp only; omega)))
      have hrf : row = Zjh (at_ ls_1 k.toNat) := by rw [hrw]; exact Ycq (by rw [List.length_drop]; omega)
      refine x_r [(0, .dec false)] [0, 2, 6, 9, 10, 23, 24, 25, 32, 33, 34, 35] [2, 6, 710, 760, 761, 9203] [Sv s, .ref 2 0, .ref 6 0, slS true (Zcs ⟨#[32]⟩ (at_ ls_1 k.toNat)), .arr 710, slS true ls_1, I (ls_1.length : Int), I k, .sl true 1 ((((Zcs ⟨#[32]⟩ (at_ ls_1 k.toNat)).length) : Int).toNat - 1) (Zpj 1 (fS (Zcs ⟨#[32]⟩ (at_ ls_1 k.toNat)))), I (((((Zcs ⟨#[32]⟩ (at_ ls_1 k.toNat)).length) : Int).toNat - 1 : Nat) : Int), I j, Bv false] [some (.box [Zao, Zao]), some (.box [.arr 760, .arr 761]), some (tAI row), some (tAS ls), some (Zbv 9203 ws), some (Zbm ws)] [¬ (j < (((((Zcs ⟨#[32]⟩ (at_ ls_1 k.toNat)).length) : Int).toNat - 1 : Nat) : Int))] ⟨h3, trivial⟩ ?_
      refine Zab ?_
      refine Zap ?_
      refine Zbe rfl ?_
      refine Zeg ?_
      refine Zbs ?_
      refine Zbu ?_
      refine Zbt ?_
      refine Zab ?_
      refine xR [(5, .new 53), (6, .new 54)] [0, 2, 6, 10, 23, 24, 25] [2, 6, 54, 710, 761, 9203] [Sv s, .ref 2 0, .ref 6 0, .arr 710, slS true ls_1, I (ls_1.length : Int), I k] [some (.box [Zao, Zao]), some (.box [.arr 54, .arr 761]), some (.arr 1 (ls.length + 1) (Zdf ls.length (fS ls) (Zcw [Sv (at_ (Zcs ⟨#[32]⟩ (at_ ls_1 k.toNat)) 0)] 1))), some (tAI row), some (Zbv 9203 ws), some (Zbm ws)] [(0 : Int) ≤ 0 ∧ 0 < (((Zcs ⟨#[32]⟩ (at_ ls_1 k.toNat)).length) : Int), (ls.length + 1) * 16 ≤ 140737488355328] ⟨⟨(by omega), (by omega)⟩, (by omega), trivial⟩ ?_
      refine x_r [(3, .new 59), (4, .new 60)] [0, 2, 6, 23, 24, 25] [2, 6, 54, 60, 710, 9203] [Sv s, .ref 2 0, .ref 6 0, slS true ls_1, I (ls_1.length : Int), I k] [some (.box [Zao, Zao]), some (.box [.arr 54, .arr 60]), some (.arr 1 (ls.length + 1) (Zdf ls.length (fS ls) (Zcw [Sv (at_ (Zcs ⟨#[32]⟩ (at_ ls_1 k.toNat)) 0)] 1))), some (.oar [9203, 710] 1 (ws.length + 1) (Zdf ws.length (oLI 9203 ws) (Zcw [.arr 710] 1))), some (tAI row), some (Zbm ws)] [(ws.length + 1) * 24 ≤ 140737488355328] ⟨(by omega), trivial⟩ ?_
      refine Zbr 1 ?_
      refine Zab ?_
      refine x_r [] [0, 2, 6, 23, 24, 25] [2, 6, 54, 60, 710, 9203] [Sv s, .ref 2 0, .ref 6 0, slS true ls_1, I (ls_1.length : Int), I (k + 1)] [some (.box [Zao, Zao]), some (.box [.arr 54, .arr 60]), some (.arr 1 (ls.length + 1) (Zdf ls.length (fS ls) (Zcw [Sv (at_ (Zcs ⟨#[32]⟩ (at_ ls_1 k.toNat)) 0)] 1))), some (.oar [9203, 710] 1 (ws.length + 1) (Zdf ws.length (oLI 9203 ws) (Zcw [.arr 710] 1))), some (tAI row), some (Zbm ws)] [inR .i64 (k + 1)] ⟨(Zam (by omega) (by omega)), trivial⟩ ?_
      refine Zlo 710 9203 rfl rfl rfl ?_
      refine Zcx [(760, 54), (761, 60)] (T := [(0, Sv s), (2, .ref 2 0), (6, .ref 6 0), (23, slS true ls_1), (24, I (ls_1.length : Int)), (25, I (k + 1))]) (O := [(2, .box [Zao, Zao]), (6, .box [.arr 760, .arr 761]), (760, tAS (ls ++ [(at_ (Zcs ⟨#[32]⟩ (at_ ls_1 k.toNat)) 0)])), (761, Zbv 9203 (ws ++ [row])), (9203, Zbm (ws ++ [row]))]) rfl (⟨.inl rfl, .inl rfl, .inl rfl, .inl rfl, .inl rfl, .inl rfl, trivial⟩) (⟨.inl rfl, .inl rfl, .inr ⟨rfl, (by first | rfl | (simp; done) | (simp; omega) | omega), fun i_ hi_ => .inl (Zee (enc := cS) (xs := ls) rfl i_ hi_)⟩, .inr ⟨rfl, rfl, (by simp), fun i hi => .inl (Zqk rfl rfl rfl i hi)⟩, .inr (Zql row (by first | rfl | (simp; done)) (fun i _ => rfl)), trivial⟩) (Zcj ((k + 1), (ls ++ [(at_ (Zcs ⟨#[32]⟩ (at_ ls_1 k.toNat)) 0)]), (ws ++ [row])) rfl (show (0 ≤ (k + 1) ∧ (k + 1) ≤ (ls_1.length : Int)) ∧ (((ls ++ [(at_ (Zcs ⟨#[32]⟩ (at_ ls_1 k.toNat)) 0)]).length : Int) = (k + 1)) ∧ (((ws ++ [row]).length : Int) = (k + 1)) ∧ ((ls ++ [(at_ (Zcs ⟨#[32]⟩ (at_ ls_1 k.toNat)) 0)]) = (ls_1.take (k + 1).toNat).map Zjg) ∧ ((ws ++ [row]) = (ls_1.take (k + 1).toNat).map Zjh) ∧ True from ⟨(by omega), (by simp; omega), (by simp; omega), (by rw [hls]; exact (Zfh (by omega) hi rfl).symm), (by rw [hws]; exact (Zfh (by omega) hi hrf).symm), trivial⟩) (by first | (show (((ls_1.length : Int) - (k + 1)).toNat : Nat) < ((ls_1.length : Int) - k).toNat; omega) | (dsimp only; omega)))
     have hfin : Perceptron.mk ls ws = Zln (lnR s).1 := by rw [hls, hws, List.take_of_length_le (by omega), hlv]; rfl
     have hsz9 : ∀ y ∈ ls, y.size ≤ 9223372036854775807 := fun y hy => by have q := Ycp (Ycm s).2 y (by rw [← hfin]; exact hy); omega
     refine x_r [(0, .dec false)] [0, 2, 6, 23, 24, 25, 26] [2, 6, 760, 761, 9203] [Sv s, .ref 2 0, .ref 6 0, slS true ls_1, I (ls_1.length : Int), I k, Bv false] [some (.box [Zao, Zao]), some (.box [.arr 760, .arr 761]), some (tAS ls), some (Zbv 9203 ws), some (Zbm ws)] [¬ (k < (ls_1.length : Int))] ⟨h2, trivial⟩ ?_
     refine Zab ?_
     refine Zap ?_
     refine Zbe rfl ?_
     refine Zeg ?_
     refine Zbs ?_
     refine Zbu ?_
     refine Zbt ?_
     refine Zab ?_
     refine Zap ?_
     refine Zap ?_
     rcases Bool.eq_false_or_eq_true (Zbb (Perceptron.mk ls ws)) with h4 | h4
     ·have hc2 : Zbb (Zln (lnR s).1) = true := by rw [← hfin]; exact h4
      by_cases h5 : (Zeq (Perceptron.mk ls ws)) = s
      ·have hst := Zwj (s := s) ⟨hc1, hc2, by rw [← hfin]; exact h5⟩
       refine x_r [(1, .call [(false, .agg [slS false ls, Zbg false ws])] true (Bv true)), (5, .call [(false, .agg [slS false ls, Zbg false ws])] true (Sv (Zeq (Perceptron.mk ls ws)))), (7, .dec false)] [2, 6, 71] [2, 6, 760, 761, 9203] [.ref 2 0, .ref 6 0, Bv false] [some (.box [Zao, Zao]), some (.box [.arr 760, .arr 761]), some (tAS ls), some (Zbv 9203 ws), some (Zbm ws)] [Con Tryz.prog 14 [.agg [slS false ls, Zbg false ws]] true (Bv true) ∧ (((false = true → true = true) ∧ 1 = 1 ∧ ls.length = ls.length ∧ ∀ i_, i_ < ls.length → (fS ls) i_ = (fS ls) i_ ∨ (AV.idsL ((fS ls) i_) = [] ∧ leL (fun _ => none) false ((fS ls) i_) ((fS ls) i_))) ∧ ((false = true → true = true) ∧ 1 = 1 ∧ ws.length = ws.length ∧ ∀ i_, i_ < ws.length → AV.idsL ((fLI false ws) i_) = [] ∧ leL (Zaf [(9203, Zbm ws)]) true ((oLI 9203 ws) i_) ((fLI false ws) i_)) ∧ ([] : List AV) = []) ∧ True, Con Tryz.prog 8 [.agg [slS false ls, Zbg false ws]] true (Sv (Zeq (Perceptron.mk ls ws))) ∧ (((false = true → true = true) ∧ 1 = 1 ∧ ls.length = ls.length ∧ ∀ i_, i_ < ls.length → (fS ls) i_ = (fS ls) i_ ∨ (AV.idsL ((fS ls) i_) = [] ∧ leL (fun _ => none) false ((fS ls) i_) ((fS ls) i_))) ∧ ((false = true → true = true) ∧ 1 = 1 ∧ ws.length = ws.length ∧ ∀ i_, i_ < ws.length → AV.idsL ((fLI false ws) i_) = [] ∧ leL (Zaf [(9203, Zbm ws)]) true ((oLI 9203 ws) i_) ((fLI false ws) i_)) ∧ ([] : List AV) = []) ∧ True, ¬ ((Zeq (Perceptron.mk ls ws)) ≠ s)] ⟨⟨(Zaq h4 (Zbl (Perceptron.mk ls ws) hsz9)), ⟨⟨(fun h => by cases h), rfl, rfl, fun i _ => .inl rfl⟩, ⟨⟨(fun h => by cases h), rfl, rfl, Zfw _ _ rfl⟩, rfl⟩⟩, trivial⟩, ⟨(Zes (Perceptron.mk ls ws) hsz9), ⟨⟨(fun h => by cases h), rfl, rfl, fun i _ => .inl rfl⟩, ⟨⟨(fun h => by cases h), rfl, rfl, Zfw _ _ rfl⟩, rfl⟩⟩, trivial⟩, (fun hq => hq h5), trivial⟩ ?_
       refine Zab ?_
       refine Zbe rfl ?_
       refine Zca ?_
       refine Zab ?_
       refine xR [] [2, 3] [2, 760, 761, 9203] [.ref 2 0, Bv true] [some (.box [.arr 760, .arr 761]), some (tAS ls), some (Zbv 9203 ws), some (Zbm ws)] [] trivial ?_
       refine Zcf ?_
       refine Zbn ((Perceptron.mk ls ws), true) (show ((Perceptron.mk ls ws) = (rpI s).1) ∧ (true = (rpI s).2) ∧ (True) from ⟨(by first | (rw [hst]; done) | (rw [hst]; exact hfin) | (rw [hst, ← hfin]; done)), (by first | (rw [hst]; done) | (rw [hst]; exact hfin) | (rw [hst, ← hfin]; done)), trivial⟩) (trivial) (.tup [.agg [.arr 760, .arr 761], Bv true]) (by kernel_rfl) (.inr ⟨⟨⟨(fun _ => rfl), rfl, rfl, fun i _ => .inl rfl⟩, ⟨⟨(fun _ => rfl), rfl, rfl, Zfw _ _ rfl⟩, rfl⟩⟩, ⟨rfl, rfl⟩⟩) (fun _ => rfl) (fun _ => (by simp [Zak, Zah, Zdd, Zer]))
      have hst := Zqi (s := s) (fun q => by have q1 := q.2.2; rw [← hfin] at q1; exact h5 q1)
      refine x_r [(1, .call [(false, .agg [slS false ls, Zbg false ws])] true (Bv true)), (5, .call [(false, .agg [slS false ls, Zbg false ws])] true (Sv (Zeq (Perceptron.mk ls ws)))), (7, .dec true)] [2, 6, 71] [2, 6, 760, 761, 9203] [.ref 2 0, .ref 6 0, Bv true] [some (.box [Zao, Zao]), some (.box [.arr 760, .arr 761]), some (tAS ls), some (Zbv 9203 ws), some (Zbm ws)] [Con Tryz.prog 14 [.agg [slS false ls, Zbg false ws]] true (Bv true) ∧ (((false = true → true = true) ∧ 1 = 1 ∧ ls.length = ls.length ∧ ∀ i_, i_ < ls.length → (fS ls) i_ = (fS ls) i_ ∨ (AV.idsL ((fS ls) i_) = [] ∧ leL (fun _ => none) false ((fS ls) i_) ((fS ls) i_))) ∧ ((false = true → true = true) ∧ 1 = 1 ∧ ws.length = ws.length ∧ ∀ i_, i_ < ws.length → AV.idsL ((fLI false ws) i_) = [] ∧ leL (Zaf [(9203, Zbm ws)]) true ((oLI 9203 ws) i_) ((fLI false ws) i_)) ∧ ([] : List AV) = []) ∧ True, Con Tryz.prog 8 [.agg [slS false ls, Zbg false ws]] true (Sv (Zeq (Perceptron.mk ls ws))) ∧ (((false = true → true = true) ∧ 1 = 1 ∧ ls.length = ls.length ∧ ∀ i_, i_ < ls.length → (fS ls) i_ = (fS ls) i_ ∨ (AV.idsL ((fS ls) i_) = [] ∧ leL (fun _ => none) false ((fS ls) i_) ((fS ls) i_))) ∧ ((false = true → true = true) ∧ 1 = 1 ∧ ws.length = ws.length ∧ ∀ i_, i_ < ws.length → AV.idsL ((fLI false ws) i_) = [] ∧ leL (Zaf [(9203, Zbm ws)]) true ((oLI 9203 ws) i_) ((fLI false ws) i_)) ∧ ([] : List AV) = []) ∧ True, (Zeq (Perceptron.mk ls ws)) ≠ s] ⟨⟨(Zaq h4 (Zbl (Perceptron.mk ls ws) hsz9)), ⟨⟨(fun h => by cases h), rfl, rfl, fun i _ => .inl rfl⟩, ⟨⟨(fun h => by cases h), rfl, rfl, Zfw _ _ rfl⟩, rfl⟩⟩, trivial⟩, ⟨(Zes (Perceptron.mk ls ws) hsz9), ⟨⟨(fun h => by cases h), rfl, rfl, fun i _ => .inl rfl⟩, ⟨⟨(fun h => by cases h), rfl, rfl, Zfw _ _ rfl⟩, rfl⟩⟩, trivial⟩, h5, trivial⟩ ?_
      refine Zab ?_
      refine Zbq rfl ?_
      refine xR [] [2, 3] [2] [.ref 2 0, Bv false] [some (.box [Zao, Zao])] [] trivial ?_
      refine Zcf ?_
      refine Zbd ?_
      refine Zbn ((Perceptron.mk ([] : List ByteArray) ([] : List (List Int))), false) (show ((Perceptron.mk ([] : List ByteArray) ([] : List (List Int))) = (rpI s).1) ∧ (false = (rpI s).2) ∧ (True) from ⟨(by first | (rw [hst]; done) | (rw [hst]; exact hfin) | (rw [hst, ← hfin]; done)), (by first | (rw [hst]; done) | (rw [hst]; exact hfin) | (rw [hst, ← hfin]; done)), trivial⟩) (trivial) (.tup [.agg [Zao, Zao], Bv false]) (by kernel_rfl) (.inr ⟨⟨⟨rfl, rfl⟩, ⟨⟨rfl, rfl⟩, rfl⟩⟩, ⟨rfl, rfl⟩⟩) (fun _ => rfl) (fun _ => (by simp [Zak, Zah, Zdd, Zer]))
     have hst := Zqi (s := s) (fun q => by have q1 := q.2.1; rw [← hfin] at q1; rw [h4] at q1; cases q1)
     refine x_r [(1, .call [(false, .agg [slS false ls, Zbg false ws])] true (Bv false))] [2, 6, 71] [2, 6, 760, 761, 9203] [.ref 2 0, .ref 6 0, Bv true] [some (.box [Zao, Zao]), some (.box [.arr 760, .arr 761]), some (tAS ls), some (Zbv 9203 ws), some (Zbm ws)] [Con Tryz.prog 14 [.agg [slS false ls, Zbg false ws]] true (Bv false) ∧ (((false = true → true = true) ∧ 1 = 1 ∧ ls.length = ls.length ∧ ∀ i_, i_ < ls.length → (fS ls) i_ = (fS ls) i_ ∨ (AV.idsL ((fS ls) i_) = [] ∧ leL (fun _ => none) false ((fS ls) i_) ((fS ls) i_))) ∧ ((false = true → true = true) ∧ 1 = 1 ∧ ws.length = ws.length ∧ ∀ i_, i_ < ws.length → AV.idsL ((fLI false ws) i_) = [] ∧ leL (Zaf [(9203, Zbm ws)]) true ((oLI 9203 ws) i_) ((fLI false ws) i_)) ∧ ([] : List AV) = []) ∧ True] ⟨⟨(Zaq h4 (Zbl (Perceptron.mk ls ws) hsz9)), ⟨⟨(fun h => by cases h), rfl, rfl, fun i _ => .inl rfl⟩, ⟨⟨(fun h => by cases h), rfl, rfl, Zfw _ _ rfl⟩, rfl⟩⟩, trivial⟩, trivial⟩ ?_
     refine Zab ?_
     refine Zbq rfl ?_
     refine xR [] [2, 3] [2] [.ref 2 0, Bv false] [some (.box [Zao, Zao])] [] trivial ?_
     refine Zcf ?_
     refine Zbd ?_
     refine Zbn ((Perceptron.mk ([] : List ByteArray) ([] : List (List Int))), false) (show ((Perceptron.mk ([] : List ByteArray) ([] : List (List Int))) = (rpI s).1) ∧ (false = (rpI s).2) ∧ (True) from ⟨(by first | (rw [hst]; done) | (rw [hst]; exact hfin) | (rw [hst, ← hfin]; done)), (by first | (rw [hst]; done) | (rw [hst]; exact hfin) | (rw [hst, ← hfin]; done)), trivial⟩) (trivial) (.tup [.agg [Zao, Zao], Bv false]) (by kernel_rfl) (.inr ⟨⟨⟨rfl, rfl⟩, ⟨⟨rfl, rfl⟩, rfl⟩⟩, ⟨rfl, rfl⟩⟩) (fun _ => rfl) (fun _ => (by simp [Zak, Zah, Zdd, Zer]))
    subst h1
    have hst := Zqi (s := s) (fun q => by have q1 := q.1; rw [← hlc] at q1; first | cases q1 | exact h1 q1)
    refine x_r [] [0, 2, 4, 21] [2] [Sv s, .ref 2 0, slS true ls_1, Bv true] [some (.box [Zao, Zao])] [] trivial ?_
    refine Zab ?_
    refine Zbq rfl ?_
    refine xR [] [2, 3] [2] [.ref 2 0, Bv false] [some (.box [Zao, Zao])] [] trivial ?_
    refine Zcf ?_
    refine Zbd ?_
    refine Zbn ((Perceptron.mk ([] : List ByteArray) ([] : List (List Int))), false) (show ((Perceptron.mk ([] : List ByteArray) ([] : List (List Int))) = (rpI s).1) ∧ (false = (rpI s).2) ∧ (True) from ⟨(by first | (rw [hst]; done) | (rw [hst]; exact hfin) | (rw [hst, ← hfin]; done)), (by first | (rw [hst]; done) | (rw [hst]; exact hfin) | (rw [hst, ← hfin]; done)), trivial⟩) (trivial) (.tup [.agg [Zao, Zao], Bv false]) (by kernel_rfl) (.inr ⟨⟨⟨rfl, rfl⟩, ⟨⟨rfl, rfl⟩, rfl⟩⟩, ⟨rfl, rfl⟩⟩) (fun _ => rfl) (fun _ => (by simp [Zak, Zah, Zdd, Zer]))
  obtain ⟨⟨v, c⟩, ⟨hh0, hh1, _⟩, hc⟩ := hh
  exact ⟨v, c, hh0, hh1, hc⟩
theorem Zji (n : Int) (hn : -9223372036854775808 ≤ n ∧ n ≤ 9223372036854775807) : Con Tryz.prog 70 [I n] true (Sv (Zeb n)) := by
  have hdl := Zyk 19 n.natAbs (by omega)
  refine Zdc (fn := Tryz.f70) (nt := 34) Tryz.func70 rfl rfl rfl rfl (by simp [Zah, Zak]) fun B hB => ?_
  refine aR [] [0] [] [I n] [] [] hB trivial ?_
  refine aR [(0, .new 6)] [0, 3] [6] [I n, .arr 6] [some (.arr 1 0 (Zcw [] 1))] [] hB trivial ?_
  refine Zal ?_
  refine aR [] [0, 3, 4] [6] [I n, .arr 6, I n] [some (.arr 1 0 (Zcw [] 1))] [] hB trivial ?_
  refine Zbo ?_
  refine Zrd hB [] (T := [(0, I n), (3, .arr 6), (4, I n)]) (O := [(6, Zne ([] : List Int))]) rfl (⟨.inl rfl, .inl rfl, .inl rfl, trivial⟩) (⟨.inr ⟨rfl, (by first | rfl | (simp; done) | (simp; omega) | omega), fun i_ hi_ => absurd hi_ (Nat.not_lt_zero _)⟩, trivial⟩) ?_
  refine Zdm (fun gn gσ => ∃ (out : List Int) (k : Int), gn = k.natAbs ∧ (Zhm k.natAbs ++ out = Zhm n.natAbs) ∧ (k.natAbs ≤ n.natAbs) ∧ gσ = mkS [(0, I n), (3, .arr 6), (4, I k)] [(6, Zne out)]) (n.natAbs) ⟨([] : List Int), n, rfl, (by simp), (by omega), rfl⟩ (fun gn gσ hI => ?_)
  obtain ⟨out, k, rfl, hd1, hd2, rfl⟩ := hI
  refine Zal ?_
  refine Zal ?_
  by_cases h1 : k = 0
  ·rw [h1] at hd1
   have hfin : out = Zhm n.natAbs := by simpa [Zht] using hd1
   subst hfin
   refine Zby [(1, .dec false)] [0, 3, 4, 9] [6] [I n, .arr 6, I k, Bv false] [some (Zne (Zhm n.natAbs))] [¬ (k ≠ 0)] hB ⟨(fun hq => hq h1), trivial⟩ ?_
   refine Zac ?_
   refine Zay rfl ?_
   refine Zdn ?_
   refine Zas ?_
   refine Zas ?_
   refine Zbx ?_
   refine Zac ?_
   refine Zal ?_
   refine Zal ?_
   by_cases h2 : (((Zhm n.natAbs).length) : Int) = 0
   ·have hn0 : n = 0 := by have := digs_nil (u := n.natAbs) (by omega); omega
    refine Zby [(2, .dec true)] [0, 3, 26] [6] [I n, .arr 6, Bv true] [some (Zne (Zhm n.natAbs))] [(((Zhm n.natAbs).length) : Int) = 0] hB ⟨h2, trivial⟩ ?_
    refine Zac ?_
    refine Zbc rfl ?_
    refine aR [] [2] [] [Sv (⟨#[48]⟩ : ByteArray)] [] [] hB trivial ?_
    refine Zax ?_
    refine Zai ?_
    refine Zba hB (Sv (⟨#[48]⟩ : ByteArray)) (by kernel_rfl) (.inl (by first | (rw [hn0, Zkx]; done) | (rw [Znf (by omega)]; done) | (rw [Zng (by omega)]; done))) rfl (fun _ => trivial)
   have hn0 : n ≠ 0 := by rintro rfl; exact h2 (by simp [Zht])
   refine Zby [(2, .dec false)] [0, 3, 26] [6] [I n, .arr 6, Bv false] [some (Zne (Zhm n.natAbs))] [¬ ((((Zhm n.natAbs).length) : Int) = 0)] hB ⟨h2, trivial⟩ ?_
   refine Zac ?_
   refine Zay rfl ?_
   refine Zbf ?_
   refine Zac ?_
   refine Zal ?_
   refine Zal ?_
   by_cases h3 : n < 0
   ·refine Zby [(1, .dec true)] [3, 28] [6] [.arr 6, Bv true] [some (Zne (Zhm n.natAbs))] [n < 0] hB ⟨h3, trivial⟩ ?_
    refine Zac ?_
    refine Zbc rfl ?_
    refine aR [(1, .as (Sv (Zgn (Zhm n.natAbs))))] [2] [] [Sv ((⟨#[45]⟩ : ByteArray) ++ (Zgn (Zhm n.natAbs)))] [] [(Zgn (Zhm n.natAbs)).size = (Zhm n.natAbs).length ∧ ∀ i_, i_ < (Zhm n.natAbs).length → (fU8 (Zhm n.natAbs)) i_ = Zhk (Zgn (Zhm n.natAbs)) i_, (⟨#[45]⟩ : ByteArray).size + (Zgn (Zhm n.natAbs)).size ≤ 9223372036854775807] hB ⟨(Zwk (Ycr _)), (by have hq := Zhu (Zhm n.natAbs); have hq2 : (⟨#[45]⟩ : ByteArray).size = 1 := rfl; omega), trivial⟩ ?_
    refine Zax ?_
    refine Zai ?_
    refine Zba hB (Sv ((⟨#[45]⟩ : ByteArray) ++ (Zgn (Zhm n.natAbs)))) (by kernel_rfl) (.inl (by first | (rw [hn0, Zkx]; done) | (rw [Znf (by omega)]; done) | (rw [Zng (by omega)]; done))) rfl (fun _ => trivial)
   refine Zby [(1, .dec false)] [3, 28] [6] [.arr 6, Bv false] [some (Zne (Zhm n.natAbs))] [¬ (n < 0)] hB ⟨h3, trivial⟩ ?_
   refine Zac ?_
   refine Zay rfl ?_
   refine Zbf ?_
   refine Zac ?_
   refine aR [(1, .as (Sv (Zgn (Zhm n.natAbs))))] [2] [] [Sv (Zgn (Zhm n.natAbs))] [] [(Zgn (Zhm n.natAbs)).size = (Zhm n.natAbs).length ∧ ∀ i_, i_ < (Zhm n.natAbs).length → (fU8 (Zhm n.natAbs)) i_ = Zhk (Zgn (Zhm n.natAbs)) i_] hB ⟨(Zwk (Ycr _)), trivial⟩ ?_
   refine Zax ?_
   refine Zba hB (Sv (Zgn (Zhm n.natAbs))) (by kernel_rfl) (.inl (by first | (rw [hn0, Zkx]; done) | (rw [Znf (by omega)]; done) | (rw [Zng (by omega)]; done))) rfl (fun _ => trivial)
  have hta := Zyl k
  have htb := tmod_abs k
  have hll := congrArg List.length hd1
  simp only [List.length_append] at hll
  have hst : Zhm (Int.tdiv k 10).natAbs ++ ([48 + ((k.natAbs % 10 : Nat) : Int)] ++ out) = Zhm n.natAbs := by rw [← hd1, Zky (u := k.natAbs) (by omega), Zyl, List.append_assoc]
  refine Zby [(1, .dec true)] [0, 3, 4, 9] [6] [I n, .arr 6, I k, Bv true] [some (Zne out)] [k ≠ 0] hB ⟨h1, trivial⟩ ?_
  refine Zac ?_
  refine Zbc rfl ?_
  refine Zbf ?_
  refine Zac ?_
  refine Zal ?_
  refine Zbo ?_
  refine aR [] [0, 3, 4, 5] [6] [I n, .arr 6, I k, I (Int.tmod k 10)] [some (Zne out)] [(10 : Int) ≠ 0] hB ⟨(by omega), trivial⟩ ?_
  refine Zal ?_
  refine Zal ?_
  by_cases h4 : (Int.tmod k 10) < 0
  ·refine Zby [(1, .dec true)] [0, 3, 4, 5, 15] [6] [I n, .arr 6, I k, I (Int.tmod k 10), Bv true] [some (Zne out)] [(Int.tmod k 10) < 0] hB ⟨h4, trivial⟩ ?_
   refine Zac ?_
   refine Zbc rfl ?_
   refine Zby [] [0, 3, 4, 5] [6] [I n, .arr 6, I k, I (-(Int.tmod k 10))] [some (Zne out)] [inR .i64 (-(Int.tmod k 10))] hB ⟨(Zam (by omega) (by omega)), trivial⟩ ?_
   refine Zac ?_
   refine Zby [(3, .new 21), (5, .new 23)] [0, 3, 4] [23] [I n, .arr 23, I k] [some (.arr 1 (1 + out.length) (Zdf 1 (Zcw [.val (.int .u8 (48 + (-(Int.tmod k 10))))] 1) (fU8 out)))] [inR .i64 (48 + (-(Int.tmod k 10))), inR .u8 (48 + (-(Int.tmod k 10))), (1 + out.length) * 1 ≤ 140737488355328] hB ⟨(Zam (by omega) (by omega)), (Zxk (by omega) (by omega)), (by omega), trivial⟩ ?_
   refine Zco 1 ?_
   refine Zac ?_
   refine Zby [] [0, 3, 4] [23] [I n, .arr 23, I (Int.tdiv k 10)] [some (.arr 1 (1 + out.length) (Zdf 1 (Zcw [.val (.int .u8 (48 + (-(Int.tmod k 10))))] 1) (fU8 out)))] [(10 : Int) ≠ 0 ∧ inR .i64 (Int.tdiv k 10)] hB ⟨⟨by omega, (Zam (by omega) (by omega))⟩, trivial⟩ ?_
   refine Zfd hB [(6, 23)] (T := [(0, I n), (3, .arr 6), (4, I (Int.tdiv k 10))]) (O := [(6, Zne ([(48 + (-(Int.tmod k 10)))] ++ out))]) rfl (⟨.inl rfl, .inl rfl, .inl rfl, trivial⟩) (⟨.inr ⟨rfl, (by first | rfl | (simp; done) | (simp; omega) | omega), fun i_ hi_ => .inl (Ycs (enc := cU8) rfl i_ hi_)⟩, trivial⟩) (Zcr _ (by omega) ⟨([(48 + (-(Int.tmod k 10)))] ++ out), (Int.tdiv k 10), rfl, (by first | (rw [show 48 + Int.tmod k 10 = 48 + ((k.natAbs % 10 : Nat) : Int) from by omega]; exact hst) | (rw [show 48 + -(Int.tmod k 10) = 48 + ((k.natAbs % 10 : Nat) : Int) from by omega]; exact hst)), (by omega), rfl⟩)
  refine Zby [(1, .dec false)] [0, 3, 4, 5, 15] [6] [I n, .arr 6, I k, I (Int.tmod k 10), Bv false] [some (Zne out)] [¬ ((Int.tmod k 10) < 0)] hB ⟨h4, trivial⟩ ?_
  refine Zac ?_
  refine Zay rfl ?_
  refine Zbf ?_
  refine Zac ?_
  refine Zby [(3, .new 21), (5, .new 23)] [0, 3, 4] [23] [I n, .arr 23, I k] [some (.arr 1 (1 + out.length) (Zdf 1 (Zcw [.val (.int .u8 (48 + (Int.tmod k 10)))] 1) (fU8 out)))] [inR .i64 (48 + (Int.tmod k 10)), inR .u8 (48 + (Int.tmod k 10)), (1 + out.length) * 1 ≤ 140737488355328] hB ⟨(Zam (by omega) (by omega)), (Zxk (by omega) (by omega)), (by omega), trivial⟩ ?_
  refine Zco 1 ?_
  refine Zac ?_
  refine Zby [] [0, 3, 4] [23] [I n, .arr 23, I (Int.tdiv k 10)] [some (.arr 1 (1 + out.length) (Zdf 1 (Zcw [.val (.int .u8 (48 + (Int.tmod k 10)))] 1) (fU8 out)))] [(10 : Int) ≠ 0 ∧ inR .i64 (Int.tdiv k 10)] hB ⟨⟨by omega, (Zam (by omega) (by omega))⟩, trivial⟩ ?_
  refine Zfd hB [(6, 23)] (T := [(0, I n), (3, .arr 6), (4, I (Int.tdiv k 10))]) (O := [(6, Zne ([(48 + (Int.tmod k 10))] ++ out))]) rfl (⟨.inl rfl, .inl rfl, .inl rfl, trivial⟩) (⟨.inr ⟨rfl, (by first | rfl | (simp; done) | (simp; omega) | omega), fun i_ hi_ => .inl (Ycs (enc := cU8) rfl i_ hi_)⟩, trivial⟩) (Zcr _ (by omega) ⟨([(48 + (Int.tmod k 10))] ++ out), (Int.tdiv k 10), rfl, (by first | (rw [show 48 + Int.tmod k 10 = 48 + ((k.natAbs % 10 : Nat) : Int) from by omega]; exact hst) | (rw [show 48 + -(Int.tmod k 10) = 48 + ((k.natAbs % 10 : Nat) : Int) from by omega]; exact hst)), (by omega), rfl⟩)
theorem Zqm (p : Perceptron) (hok : Zbb p = true) : Con Tryz.prog 30 [.ptr false [slS false p.Labels, Zbg false p.Weights]] true (Sv (Zeq p)) := by
  have hq := Zcd.1 hok
  have hpn := Zkk hok
  refine Zdc (fn := Tryz.f30) (nt := 58) Tryz.func30 rfl rfl rfl rfl (by simp [Zah, Zak, Zdd, Zer]) fun B hB => ?_
  refine Zcg (x := .ptr false [slS false p.Labels, Zbg false p.Weights]) 0 rfl (fun len_p => ?_)
  simp [Zdt, Zgj, cI, cLI, cS, fI, fLI, fS, slI, Zbg, slS] at len_p
  refine aR [] [0] [] [.ptr false [slS false p.Labels, Zbg false p.Weights]] [] [] hB trivial ?_
  refine aR [(0, .new 6)] [0, 3] [6] [.ptr false [slS false p.Labels, Zbg false p.Weights], .arr 6] [some (.arr 1 0 (Zcw [] 1))] [] hB trivial ?_
  refine Zal ?_
  refine aR [] [0, 3, 4] [6] [.ptr false [slS false p.Labels, Zbg false p.Weights], .arr 6, I 0] [some (.arr 1 0 (Zcw [] 1))] [] hB trivial ?_
  refine Zbo ?_
  refine Zrd hB [] (T := [(0, .ptr false [slS false p.Labels, Zbg false p.Weights]), (3, .arr 6), (4, I 0)]) (O := [(6, Zne ([] : List Int))]) rfl (⟨.inl rfl, .inl rfl, .inl rfl, trivial⟩) (⟨.inr ⟨rfl, (by first | rfl | (simp; done) | (simp; omega) | omega), fun i_ hi_ => absurd hi_ (Nat.not_lt_zero _)⟩, trivial⟩) ?_
  refine Zdm (fun gn gσ => ∃ (bs : List Int) (i : Int), gn = ((p.Labels.length : Int) - i).toNat ∧ (0 ≤ i ∧ i ≤ (p.Labels.length : Int)) ∧ (Zgn bs = Zek (Zfr p) i.toNat) ∧ (∀ x_ ∈ bs, 0 ≤ x_ ∧ x_ ≤ 255) ∧ gσ = mkS [(0, .ptr false [slS false p.Labels, Zbg false p.Weights]), (3, .arr 6), (4, I i)] [(6, Zne bs)]) (((p.Labels.length : Int) - 0).toNat) ⟨([] : List Int), 0, rfl, (by omega), (by rfl), (by intro x_ h_; cases h_), rfl⟩ (fun gn gσ hI => ?_)
  obtain ⟨bs, i, rfl, hi0, htx, hbb, rfl⟩ := hI
  refine Zal ?_
  refine Zal ?_
  by_cases h1 : i < (p.Labels.length : Int)
  ·have hi : i.toNat < p.Labels.length := by omega
   have hks : (i + 1).toNat = i.toNat + 1 := by omega
   have hrow := Zcu hq.2.2 (j := i.toNat) (by omega)
   have hl1 := lab1 (Zem hq.1 hi)
   have hzl := Zie hok (k := i.toNat) (by omega)
   have hsz := fun j_ : Nat => Zon (k := j_) (l := at_ p.Labels i.toNat) (by omega) (Zqn hrow) (by omega)
   rw [← htx, Zhu] at hzl
   refine Zby [(6, .dec true)] [0, 3, 4, 13] [6] [.ptr false [slS false p.Labels, Zbg false p.Weights], .arr 6, I i, Bv true] [some (Zne bs)] [i < (p.Labels.length : Int)] hB ⟨h1, trivial⟩ ?_
   refine Zac ?_
   refine Zbc rfl ?_
   refine Zbf ?_
   refine Zac ?_
   refine Zal ?_
   refine Zbo ?_
   refine aR [(8, .new 24)] [0, 3, 4] [24] [.ptr false [slS false p.Labels, Zbg false p.Weights], .arr 24, I i] [some (.arr 1 (bs.length + ((at_ p.Labels i.toNat).size)) (Zdf bs.length (fU8 bs) (Zhk (at_ p.Labels i.toNat))))] [(0 : Int) ≤ i ∧ i < (p.Labels.length : Int), (bs.length + ((at_ p.Labels i.toNat).size)) * 1 ≤ 140737488355328] hB ⟨⟨(by omega), (by omega)⟩, (by omega), trivial⟩ ?_
   refine Zal ?_
   refine aR [] [0, 3, 4, 5] [24] [.ptr false [slS false p.Labels, Zbg false p.Weights], .arr 24, I i, I 0] [some (.arr 1 (bs.length + ((at_ p.Labels i.toNat).size)) (Zdf bs.length (fU8 bs) (Zhk (at_ p.Labels i.toNat))))] [] hB trivial ?_
   refine Zbo ?_
   refine Zrd hB [] (T := [(0, .ptr false [slS false p.Labels, Zbg false p.Weights]), (3, .arr 24), (4, I i), (5, I 0)]) (O := [(24, Zne (bs ++ (Zgy (at_ p.Labels i.toNat))))]) rfl (⟨.inl rfl, .inl rfl, .inl rfl, .inl rfl, trivial⟩) (⟨.inr ⟨rfl, (by first | rfl | (simp; done) | (simp; omega) | omega), fun i_ hi_ => .inl (Ycb (enc := cU8) (xs := bs) (ys := (Zgy (at_ p.Labels i.toNat))) (by first | rfl | (simp; done) | (simp; omega)) (fun i _ => rfl) (fun i_ hi_ => (Zug i_ hi_)) i_ hi_)⟩, trivial⟩) ?_
   refine Zdm (fun gn gσ => ∃ (cs : List Int) (k : Int), gn = (((at_ p.Weights i.toNat).length : Int) - k).toNat ∧ (0 ≤ k ∧ k ≤ ((at_ p.Weights i.toNat).length : Int)) ∧ (Zgn cs = Zek (Zfr p) i.toNat ++ jnB ⟨#[32]⟩ (at_ p.Labels i.toNat :: ((at_ p.Weights i.toNat).take k.toNat).map Zeb)) ∧ (∀ x_ ∈ cs, 0 ≤ x_ ∧ x_ ≤ 255) ∧ gσ = mkS [(0, .ptr false [slS false p.Labels, Zbg false p.Weights]), (3, .arr 24), (4, I i), (5, I k)] [(24, Zne cs)]) ((((at_ p.Weights i.toNat).length : Int) - 0).toNat) ⟨(bs ++ (Zgy (at_ p.Labels i.toNat))), 0, rfl, (by omega), (by rw [Znh, Zoo, htx]; exact congrArg (Zek (Zfr p) i.toNat ++ ·) (pcLn_0 _ _).symm), (by exact Zym hbb (Zuh _)), rfl⟩ (fun gn gσ hI => ?_)
   obtain ⟨cs, k, rfl, hj0, hty, hcb, rfl⟩ := hI
   refine Zal ?_
   refine Zal ?_
   by_cases h2 : k < (((at_ p.Weights i.toNat).length) : Int)
   ·have hzy := congrArg ByteArray.size hty
    rw [ByteArray.size_append] at hzy
    have hzz := hsz k.toNat
    have hzq := Zie hok (k := i.toNat) (by omega)
    rw [Zhu] at hzy
    have hj : k.toNat < (at_ p.Weights i.toNat).length := by omega
    have hwb := hrow.2 k.toNat (by omega)
    have hj1 : (k + 1).toNat = k.toNat + 1 := by omega
    have hpl := pcLn_1 (at_ p.Labels i.toNat) hj
    have hdz := Zop (n := at_ (at_ p.Weights i.toNat) k.toNat) (by omega)
    refine Zby [(9, .dec true)] [0, 3, 4, 5, 34] [24] [.ptr false [slS false p.Labels, Zbg false p.Weights], .arr 24, I i, I k, Bv true] [some (Zne cs)] [(0 : Int) ≤ i ∧ i < (p.Weights.length : Int), k < (((at_ p.Weights i.toNat).length) : Int)] hB ⟨⟨(by omega), (by omega)⟩, h2, trivial⟩ ?_
    refine Zac ?_
    refine Zbc rfl ?_
    refine Zbf ?_
    refine Zac ?_
    refine Zal ?_
    refine Zbo ?_
    refine aR [(1, .new 38), (2, .new 39)] [0, 3, 4, 5] [39] [.ptr false [slS false p.Labels, Zbg false p.Weights], .arr 39, I i, I k] [some (.arr 1 (cs.length + 1) (Zdf cs.length (fU8 cs) (Zcw [.val (.int .u8 32)] 1)))] [(cs.length + 1) * 1 ≤ 140737488355328] hB ⟨(by omega), trivial⟩ ?_
    refine Zby [(11, .call [(true, .any)] true (Sv (Zeb (at_ (at_ p.Weights i.toNat) k.toNat)))), (12, .new 52)] [0, 3, 4, 5] [52] [.ptr false [slS false p.Labels, Zbg false p.Weights], .arr 52, I i, I k] [some (.arr 1 ((cs.length + 1) + ((Zeb (at_ (at_ p.Weights i.toNat) k.toNat)).size)) (Zdf (cs.length + 1) (Zdf cs.length (fU8 cs) (Zcw [.val (.int .u8 32)] 1)) (Zhk (Zeb (at_ (at_ p.Weights i.toNat) k.toNat)))))] [(0 : Int) ≤ i ∧ i < (p.Weights.length : Int), (0 : Int) ≤ k ∧ k < (((at_ p.Weights i.toNat).length) : Int), Con Tryz.prog 70 [I (at_ (at_ p.Weights i.toNat) k.toNat)] true (Sv (Zeb (at_ (at_ p.Weights i.toNat) k.toNat))) ∧ True, ((cs.length + 1) + ((Zeb (at_ (at_ p.Weights i.toNat) k.toNat)).size)) * 1 ≤ 140737488355328] hB ⟨⟨(by omega), (by omega)⟩, ⟨(by omega), (by omega)⟩, ⟨(Zji (at_ (at_ p.Weights i.toNat) k.toNat) (by omega)), trivial⟩, (by omega), trivial⟩ ?_
    refine Zco 3 ?_
    refine Zac ?_
    refine Zby [] [0, 3, 4, 5] [52] [.ptr false [slS false p.Labels, Zbg false p.Weights], .arr 52, I i, I (k + 1)] [some (.arr 1 ((cs.length + 1) + ((Zeb (at_ (at_ p.Weights i.toNat) k.toNat)).size)) (Zdf (cs.length + 1) (Zdf cs.length (fU8 cs) (Zcw [.val (.int .u8 32)] 1)) (Zhk (Zeb (at_ (at_ p.Weights i.toNat) k.toNat)))))] [inR .i64 (k + 1)] hB ⟨(Zam (by omega) (by omega)), trivial⟩ ?_
    refine Zfd hB [(24, 52)] (T := [(0, .ptr false [slS false p.Labels, Zbg false p.Weights]), (3, .arr 24), (4, I i), (5, I (k + 1))]) (O := [(24, Zne ((cs ++ [32]) ++ (Zgy (Zeb (at_ (at_ p.Weights i.toNat) k.toNat)))))]) rfl (⟨.inl rfl, .inl rfl, .inl rfl, .inl rfl, trivial⟩) (⟨.inr ⟨rfl, (by first | rfl | (simp; done) | (simp; omega) | omega), fun i_ hi_ => .inl (Ycb (enc := cU8) (xs := (cs ++ [32])) (ys := (Zgy (Zeb (at_ (at_ p.Weights i.toNat) k.toNat)))) (by first | rfl | (simp; done) | (simp; omega)) (fun i_ hi_ => (Zee (enc := cU8) (xs := cs) rfl i_ hi_)) (fun i_ hi_ => (Zug i_ hi_)) i_ hi_)⟩, trivial⟩) (Zcr _ (by omega) ⟨((cs ++ [32]) ++ (Zgy (Zeb (at_ (at_ p.Weights i.toNat) k.toNat)))), (k + 1), rfl, (by omega), (by rw [hj1, hpl, Znh, Znh, Zoo, hty]; simp only [ByteArray.append_assoc]; rfl), (by exact Zym (Zym hcb (fun x_ h_ => by rw [List.mem_singleton] at h_; omega)) (Zuh _)), rfl⟩)
   have hzy := congrArg ByteArray.size hty
   rw [ByteArray.size_append] at hzy
   have hzz := hsz k.toNat
   have hzq := Zie hok (k := i.toNat) (by omega)
   rw [Zhu] at hzy
   have hje : Zgn cs = Zek (Zfr p) i.toNat ++ Yah (at_ p.Labels i.toNat) (at_ p.Weights i.toNat) := by rw [hty, Zsl _ (by omega)]
   refine Zby [(9, .dec false)] [0, 3, 4, 5, 34] [24] [.ptr false [slS false p.Labels, Zbg false p.Weights], .arr 24, I i, I k, Bv false] [some (Zne cs)] [(0 : Int) ≤ i ∧ i < (p.Weights.length : Int), ¬ (k < (((at_ p.Weights i.toNat).length) : Int))] hB ⟨⟨(by omega), (by omega)⟩, h2, trivial⟩ ?_
   refine Zac ?_
   refine Zay rfl ?_
   refine Zdn ?_
   refine Zas ?_
   refine Zas ?_
   refine Zbx ?_
   refine Zac ?_
   refine Zby [(1, .new 54), (2, .new 55)] [0, 3, 4] [55] [.ptr false [slS false p.Labels, Zbg false p.Weights], .arr 55, I i] [some (.arr 1 (cs.length + 1) (Zdf cs.length (fU8 cs) (Zcw [.val (.int .u8 10)] 1)))] [(cs.length + 1) * 1 ≤ 140737488355328] hB ⟨(by omega), trivial⟩ ?_
   refine Zco 1 ?_
   refine Zac ?_
   refine Zby [] [0, 3, 4] [55] [.ptr false [slS false p.Labels, Zbg false p.Weights], .arr 55, I (i + 1)] [some (.arr 1 (cs.length + 1) (Zdf cs.length (fU8 cs) (Zcw [.val (.int .u8 10)] 1)))] [inR .i64 (i + 1)] hB ⟨(Zam (by omega) (by omega)), trivial⟩ ?_
   refine Zfd hB [(6, 55)] (T := [(0, .ptr false [slS false p.Labels, Zbg false p.Weights]), (3, .arr 6), (4, I (i + 1))]) (O := [(6, Zne (cs ++ [10]))]) rfl (⟨.inl rfl, .inl rfl, .inl rfl, trivial⟩) (⟨.inr ⟨rfl, (by first | rfl | (simp; done) | (simp; omega) | omega), fun i_ hi_ => .inl (Zee (enc := cU8) (xs := cs) rfl i_ hi_)⟩, trivial⟩) (Zcr _ (by omega) ⟨(cs ++ [10]), (i + 1), rfl, (by omega), (by rw [hks, Zek, Zkz hi, Znh, hje]; simp only [ByteArray.append_assoc]; rfl), (by exact Zym hcb (fun x_ h_ => by rw [List.mem_singleton] at h_; omega)), rfl⟩)
  have hke : i.toNat = p.Labels.length := by omega
  rw [hke] at htx
  refine Zby [(6, .dec false)] [0, 3, 4, 13] [6] [.ptr false [slS false p.Labels, Zbg false p.Weights], .arr 6, I i, Bv false] [some (Zne bs)] [¬ (i < (p.Labels.length : Int))] hB ⟨h1, trivial⟩ ?_
  refine Zac ?_
  refine Zay rfl ?_
  refine Zdn ?_
  refine Zas ?_
  refine Zas ?_
  refine Zbx ?_
  refine Zac ?_
  refine aR [(1, .as (Sv (Zgn bs)))] [2] [] [Sv (Zgn bs)] [] [(Zgn bs).size = bs.length ∧ ∀ i_, i_ < bs.length → (fU8 bs) i_ = Zhk (Zgn bs) i_] hB ⟨(Zwk (by first | assumption)), trivial⟩ ?_
  refine Zax ?_
  refine Zba hB (Sv (Zgn bs)) (by kernel_rfl) (.inl (by (rw [Zeq, if_pos hok, htx]))) rfl (fun _ => trivial)
theorem Zwl (s : l00Src) (t : ByteArray) (hs : Zbj s) (ha : s.atx ≤ 3999999999999999000) (ht : t.size ≤ 100000) : ∃ (v : ByteArray) (s' : l00Src), (Zbj s') ∧ (s'.code = s.code) ∧ (s.atx + 0 ≤ s'.atx ∧ s'.atx ≤ s.atx + 200) ∧ (v.size ≤ t.size + 64) ∧ Zaz Tryz.prog 32 [.ref 7001 0, Sv t] (Zaf [(7001, Zaa s)]) true (Sv v) (Zaf [(7001, Zaa s')]) := by
  have hh : ∃ r : ByteArray × l00Src, ((Zbj r.2) ∧ (r.2.code = s.code) ∧ (s.atx + 0 ≤ r.2.atx ∧ r.2.atx ≤ s.atx + 200) ∧ (r.1.size ≤ t.size + 64) ∧ (True)) ∧ Zaz Tryz.prog 32 [.ref 7001 0, Sv t] (Zaf [(7001, Zaa s)]) true (Sv r.1) (Zaf [(7001, Zaa r.2)]) := by
    refine Zde (Φ := fun r : ByteArray × l00Src => (Zbj r.2) ∧ (r.2.code = s.code) ∧ (s.atx + 0 ≤ r.2.atx ∧ r.2.atx ≤ s.atx + 200) ∧ (r.1.size ≤ t.size + 64) ∧ (True)) [(7001, Zaa s)] (fun r => [(7001, Zaa r.2)]) (fn := Tryz.f32) (nt := 44) Tryz.func32 rfl rfl (args := [.ref 7001 0, Sv t]) rfl (Zbw (.inr trivial) (Zbw (.inl ⟨rfl, trivial⟩) Zdb)) (res := fun r => Sv r.1) ?_
    refine xR [] [0, 1] [7001] [.ref 7001 0, Sv t] [some (Zaa s)] [] trivial ?_
    refine Zap ?_
    refine Zap ?_
    obtain ⟨v_1, s'_1, hx1_0, hx1_1, hx1_2, hx1_3, hc1⟩ := Zdu s 5 (by first | assumption | (simp only [Zbj] at *; simp_all; done)) (by omega)
    refine x_r [(1, .lend [(7001, Zaa s, Zaa s'_1)] [] [(true, .any), (true, .any)] true (I v_1))] [0, 1, 8] [7001] [.ref 7001 0, Sv t, I v_1] [some (Zaa s'_1)] [Zaz Tryz.prog 48 [.ref 7001 0, I 5] (Zaf [(7001, Zaa s)]) true (I v_1) (Zaf [(7001, Zaa s'_1)]) ∧ (((Zaa s : Ob) = Zaa s ∨ Zeu Zel true (Zaa s) (Zaa s)) ∧ Zar false (Zaa s)) ∧ True] ⟨⟨hc1, ⟨.inl rfl, (by simp [Zar, Zah, Zak, Zdj])⟩, trivial⟩, trivial⟩ ?_
    refine Zab ?_
    refine Zbz ?_
    refine Zap ?_
    by_cases h1 : v_1 = 0
    ·refine x_r [(0, .dec true)] [0, 1, 8, 9] [7001] [.ref 7001 0, Sv t, I v_1, Bv true] [some (Zaa s'_1)] [v_1 = 0] ⟨h1, trivial⟩ ?_
     refine Zab ?_
     refine Zbq rfl ?_
     refine Zap ?_
     obtain ⟨v_2, s'_2, hx2_0, hx2_1, hx2_2, hx2_3, hc2⟩ := Zdu s'_1 ((t.size : Int) + 1) (by first | assumption | (simp only [Zbj] at *; simp_all; done)) (by omega)
     refine x_r [(4, .lend [(7001, Zaa s'_1, Zaa s'_2)] [] [(true, .any), (true, .any)] true (I v_2))] [0, 1, 5] [7001] [.ref 7001 0, Sv t, I v_2] [some (Zaa s'_2)] [inR .i64 ((t.size : Int) + 1), Zaz Tryz.prog 48 [.ref 7001 0, I ((t.size : Int) + 1)] (Zaf [(7001, Zaa s'_1)]) true (I v_2) (Zaf [(7001, Zaa s'_2)]) ∧ (((Zaa s'_1 : Ob) = Zaa s'_1 ∨ Zeu Zel true (Zaa s'_1) (Zaa s'_1)) ∧ Zar false (Zaa s'_1)) ∧ True] ⟨(Zam (by omega) (by omega)), ⟨hc2, ⟨.inl rfl, (by simp [Zar, Zah, Zak, Zdj])⟩, trivial⟩, trivial⟩ ?_
     refine Zab ?_
     obtain ⟨v_3, s'_3, hx3_0, hx3_1, hx3_2, hx3_3, hx3_4, hc3⟩ := Yct s'_2 ([(⟨#[32]⟩ : ByteArray), (⟨#[48]⟩ : ByteArray), (⟨#[45]⟩ : ByteArray), (⟨#[120]⟩ : ByteArray), (⟨#[49]⟩ : ByteArray), (⟨#[57]⟩ : ByteArray), (⟨#[46]⟩ : ByteArray)]) (by first | assumption | (simp only [Zbj] at *; simp_all; done)) (by omega) (by decide)
     refine x_r [(4, .new 20), (5, .lend [(7001, Zaa s'_2, Zaa s'_3)] [] [(true, .any), (false, slS false ([(⟨#[32]⟩ : ByteArray), (⟨#[48]⟩ : ByteArray), (⟨#[45]⟩ : ByteArray), (⟨#[120]⟩ : ByteArray), (⟨#[49]⟩ : ByteArray), (⟨#[57]⟩ : ByteArray), (⟨#[46]⟩ : ByteArray)]))] true (Sv v_3))] [1] [7001] [Sv (((t.extract 0 v_2.toNat) ++ v_3) ++ (t.extract v_2.toNat (t.size : Int).toNat))] [some (Zaa s'_3)] [(0 : Int) ≤ 0 ∧ (0 : Int) ≤ v_2 ∧ v_2 ≤ (t.size : Int), Zaz Tryz.prog 71 [.ref 7001 0, slS false ([(⟨#[32]⟩ : ByteArray), (⟨#[48]⟩ : ByteArray), (⟨#[45]⟩ : ByteArray), (⟨#[120]⟩ : ByteArray), (⟨#[49]⟩ : ByteArray), (⟨#[57]⟩ : ByteArray), (⟨#[46]⟩ : ByteArray)])] (Zaf [(7001, Zaa s'_2)]) true (Sv v_3) (Zaf [(7001, Zaa s'_3)]) ∧ ((false = true → true = true) ∧ 1 = 1 ∧ 7 = (([(⟨#[32]⟩ : ByteArray), (⟨#[48]⟩ : ByteArray), (⟨#[45]⟩ : ByteArray), (⟨#[120]⟩ : ByteArray), (⟨#[49]⟩ : ByteArray), (⟨#[57]⟩ : ByteArray), (⟨#[46]⟩ : ByteArray)]).length) ∧ ∀ i_, i_ < (([(⟨#[32]⟩ : ByteArray), (⟨#[48]⟩ : ByteArray), (⟨#[45]⟩ : ByteArray), (⟨#[120]⟩ : ByteArray), (⟨#[49]⟩ : ByteArray), (⟨#[57]⟩ : ByteArray), (⟨#[46]⟩ : ByteArray)]).length) → (Zcw [Sv (⟨#[32]⟩ : ByteArray), Sv (⟨#[48]⟩ : ByteArray), Sv (⟨#[45]⟩ : ByteArray), Sv (⟨#[120]⟩ : ByteArray), Sv (⟨#[49]⟩ : ByteArray), Sv (⟨#[57]⟩ : ByteArray), Sv (⟨#[46]⟩ : ByteArray)] 1) i_ = (fS ([(⟨#[32]⟩ : ByteArray), (⟨#[48]⟩ : ByteArray), (⟨#[45]⟩ : ByteArray), (⟨#[120]⟩ : ByteArray), (⟨#[49]⟩ : ByteArray), (⟨#[57]⟩ : ByteArray), (⟨#[46]⟩ : ByteArray)])) i_ ∨ (AV.idsL ((fS ([(⟨#[32]⟩ : ByteArray), (⟨#[48]⟩ : ByteArray), (⟨#[45]⟩ : ByteArray), (⟨#[120]⟩ : ByteArray), (⟨#[49]⟩ : ByteArray), (⟨#[57]⟩ : ByteArray), (⟨#[46]⟩ : ByteArray)])) i_) = [] ∧ leL (fun _ => none) false ((Zcw [Sv (⟨#[32]⟩ : ByteArray), Sv (⟨#[48]⟩ : ByteArray), Sv (⟨#[45]⟩ : ByteArray), Sv (⟨#[120]⟩ : ByteArray), Sv (⟨#[49]⟩ : ByteArray), Sv (⟨#[57]⟩ : ByteArray), Sv (⟨#[46]⟩ : ByteArray)] 1) i_) ((fS ([(⟨#[32]⟩ : ByteArray), (⟨#[48]⟩ : ByteArray), (⟨#[45]⟩ : ByteArray), (⟨#[120]⟩ : ByteArray), (⟨#[49]⟩ : ByteArray), (⟨#[57]⟩ : ByteArray), (⟨#[46]⟩ : ByteArray)])) i_))) ∧ (((Zaa s'_2 : Ob) = Zaa s'_2 ∨ Zeu Zel true (Zaa s'_2) (Zaa s'_2)) ∧ Zar false (Zaa s'_2)) ∧ True, (t.extract 0 v_2.toNat).size + v_3.size ≤ 9223372036854775807, (0 : Int) ≤ v_2 ∧ v_2 ≤ (t.size : Int) ∧ (t.size : Int) ≤ (t.size : Int), ((t.extract 0 v_2.toNat) ++ v_3).size + (t.extract v_2.toNat (t.size : Int).toNat).size ≤ 9223372036854775807] ⟨⟨(by omega), (by omega), (by omega)⟩, ⟨hc3, ⟨(fun h => by cases h), rfl, (by first | rfl | (simp; done) | (simp; omega) | omega), fun i_ hi_ => .inl (match i_, hi_ with | 0, _ => rfl | 1, _ => rfl | 2, _ => rfl | 3, _ => rfl | 4, _ => rfl | 5, _ => rfl | 6, _ => rfl | (i + 7), h => absurd h (by simp))⟩, ⟨.inl rfl, (by simp [Zar, Zah, Zak, Zdj])⟩, trivial⟩, (by (try simp only [ByteArray.size_append, ByteArray.size_extract]); omega), ⟨(by omega), (by omega), (by omega)⟩, (by (try simp only [ByteArray.size_append, ByteArray.size_extract]); omega), trivial⟩ ?_
     refine Zbr 0 ?_
     refine Zab ?_
     refine xR [] [4] [7001] [Sv (((t.extract 0 v_2.toNat) ++ v_3) ++ (t.extract v_2.toNat (t.size : Int).toNat))] [some (Zaa s'_3)] [] trivial ?_
     refine Zcf ?_
     refine Zbn ((((t.extract 0 v_2.toNat) ++ v_3) ++ (t.extract v_2.toNat (t.size : Int).toNat)), s'_3) (show (Zbj s'_3) ∧ (s'_3.code = s.code) ∧ (s.atx + 0 ≤ s'_3.atx ∧ s'_3.atx ≤ s.atx + 200) ∧ ((((t.extract 0 v_2.toNat) ++ v_3) ++ (t.extract v_2.toNat (t.size : Int).toNat)).size ≤ t.size + 64) ∧ (True) from ⟨(by first | omega | assumption | rfl | (simp only [ByteArray.size_append, ByteArray.size_extract]; omega) | (simp; done) | (simp; omega) | (simp_all; done)), (by first | omega | assumption | rfl | (simp only [ByteArray.size_append, ByteArray.size_extract]; omega) | (simp; done) | (simp; omega) | (simp_all; done)), (by first | omega | assumption | rfl | (simp only [ByteArray.size_append, ByteArray.size_extract]; omega) | (simp; done) | (simp; omega) | (simp_all; done)), (by first | omega | assumption | rfl | (simp only [ByteArray.size_append, ByteArray.size_extract]; omega) | (simp; done) | (simp; omega) | (simp_all; done)), trivial⟩) (⟨.inl rfl, trivial⟩) (Sv (((t.extract 0 v_2.toNat) ++ v_3) ++ (t.extract v_2.toNat (t.size : Int).toNat))) (by kernel_rfl) (.inl rfl) (fun _ => rfl) (fun _ => trivial)
    refine x_r [(0, .dec false)] [0, 1, 8, 9] [7001] [.ref 7001 0, Sv t, I v_1, Bv false] [some (Zaa s'_1)] [¬ (v_1 = 0)] ⟨h1, trivial⟩ ?_
    refine Zab ?_
    refine Zbe rfl ?_
    refine Zap ?_
    by_cases h2 : v_1 = 1
    ·refine x_r [(0, .dec true)] [0, 1, 27] [7001] [.ref 7001 0, Sv t, Bv true] [some (Zaa s'_1)] [v_1 = 1] ⟨h2, trivial⟩ ?_
     refine Zab ?_
     refine Zbq rfl ?_
     refine Zap ?_
     by_cases h3 : t = (⟨#[]⟩ : ByteArray)
     ·refine x_r [(1, .dec false)] [0, 1, 30] [7001] [.ref 7001 0, Sv t, Bv false] [some (Zaa s'_1)] [¬ (t ≠ (⟨#[]⟩ : ByteArray))] ⟨(fun hq => hq h3), trivial⟩ ?_
      refine Zab ?_
      refine Zbe rfl ?_
      refine Zca ?_
      refine Zbr 0 ?_
      refine Zab ?_
      refine xR [] [4] [7001] [Sv t] [some (Zaa s'_1)] [] trivial ?_
      refine Zcf ?_
      refine Zbn (t, s'_1) (show (Zbj s'_1) ∧ (s'_1.code = s.code) ∧ (s.atx + 0 ≤ s'_1.atx ∧ s'_1.atx ≤ s.atx + 200) ∧ (t.size ≤ t.size + 64) ∧ (True) from ⟨(by first | omega | assumption | rfl | (simp only [ByteArray.size_append, ByteArray.size_extract]; omega) | (simp; done) | (simp; omega) | (simp_all; done)), (by first | omega | assumption | rfl | (simp only [ByteArray.size_append, ByteArray.size_extract]; omega) | (simp; done) | (simp; omega) | (simp_all; done)), (by first | omega | assumption | rfl | (simp only [ByteArray.size_append, ByteArray.size_extract]; omega) | (simp; done) | (simp; omega) | (simp_all; done)), (by first | omega | assumption | rfl | (simp only [ByteArray.size_append, ByteArray.size_extract]; omega) | (simp; done) | (simp; omega) | (simp_all; done)), trivial⟩) (⟨.inl rfl, trivial⟩) (Sv t) (by kernel_rfl) (.inl rfl) (fun _ => rfl) (fun _ => trivial)
     have hs0 : 0 < t.size := Nat.pos_of_ne_zero (fun q => h3 (ByteArray.ext (Array.eq_empty_of_size_eq_zero q)))
     refine x_r [(1, .dec true)] [0, 1, 30] [7001] [.ref 7001 0, Sv t, Bv true] [some (Zaa s'_1)] [t ≠ (⟨#[]⟩ : ByteArray)] ⟨h3, trivial⟩ ?_
     refine Zab ?_
     refine Zbq rfl ?_
     refine Zap ?_
     obtain ⟨v_4, s'_4, hx4_0, hx4_1, hx4_2, hx4_3, hc4⟩ := Zdu s'_1 (t.size : Int) (by first | assumption | (simp only [Zbj] at *; simp_all; done)) (by omega)
     refine x_r [(3, .lend [(7001, Zaa s'_1, Zaa s'_4)] [] [(true, .any), (true, .any)] true (I v_4))] [1, 6] [7001] [Sv t, I v_4] [some (Zaa s'_4)] [Zaz Tryz.prog 48 [.ref 7001 0, I (t.size : Int)] (Zaf [(7001, Zaa s'_1)]) true (I v_4) (Zaf [(7001, Zaa s'_4)]) ∧ (((Zaa s'_1 : Ob) = Zaa s'_1 ∨ Zeu Zel true (Zaa s'_1) (Zaa s'_1)) ∧ Zar false (Zaa s'_1)) ∧ True] ⟨⟨hc4, ⟨.inl rfl, (by simp [Zar, Zah, Zak, Zdj])⟩, trivial⟩, trivial⟩ ?_
     refine Zab ?_
     refine x_r [] [1] [7001] [Sv ((t.extract 0 v_4.toNat) ++ (t.extract (v_4 + 1).toNat (t.size : Int).toNat))] [some (Zaa s'_4)] [(0 : Int) ≤ 0 ∧ (0 : Int) ≤ v_4 ∧ v_4 ≤ (t.size : Int), inR .i64 (v_4 + 1), (0 : Int) ≤ (v_4 + 1) ∧ (v_4 + 1) ≤ (t.size : Int) ∧ (t.size : Int) ≤ (t.size : Int), (t.extract 0 v_4.toNat).size + (t.extract (v_4 + 1).toNat (t.size : Int).toNat).size ≤ 9223372036854775807] ⟨⟨(by omega), (by omega), (by omega)⟩, (Zam (by omega) (by omega)), ⟨(by omega), (by omega), (by omega)⟩, (by (try simp only [ByteArray.size_append, ByteArray.size_extract]); omega), trivial⟩ ?_
     refine Zbr 0 ?_
     refine Zab ?_
     refine xR [] [4] [7001] [Sv ((t.extract 0 v_4.toNat) ++ (t.extract (v_4 + 1).toNat (t.size : Int).toNat))] [some (Zaa s'_4)] [] trivial ?_
     refine Zcf ?_
     refine Zbn (((t.extract 0 v_4.toNat) ++ (t.extract (v_4 + 1).toNat (t.size : Int).toNat)), s'_4) (show (Zbj s'_4) ∧ (s'_4.code = s.code) ∧ (s.atx + 0 ≤ s'_4.atx ∧ s'_4.atx ≤ s.atx + 200) ∧ (((t.extract 0 v_4.toNat) ++ (t.extract (v_4 + 1).toNat (t.size : Int).toNat)).size ≤ t.size + 64) ∧ (True) from ⟨(by first | omega | assumption | rfl | (simp only [ByteArray.size_append, ByteArray.size_extract]; omega) | (simp; done) | (simp; omega) | (simp_all; done)), (by first | omega | assumption | rfl | (simp only [ByteArray.size_append, ByteArray.size_extract]; omega) | (simp; done) | (simp; omega) | (simp_all; done)), (by first | omega | assumption | rfl | (simp only [ByteArray.size_append, ByteArray.size_extract]; omega) | (simp; done) | (simp; omega) | (simp_all; done)), (by first | omega | assumption | rfl | (simp only [ByteArray.size_append, ByteArray.size_extract]; omega) | (simp; done) | (simp; omega) | (simp_all; done)), trivial⟩) (⟨.inl rfl, trivial⟩) (Sv ((t.extract 0 v_4.toNat) ++ (t.extract (v_4 + 1).toNat (t.size : Int).toNat))) (by kernel_rfl) (.inl rfl) (fun _ => rfl) (fun _ => trivial)
    refine x_r [(0, .dec false)] [0, 1, 27] [7001] [.ref 7001 0, Sv t, Bv false] [some (Zaa s'_1)] [¬ (v_1 = 1)] ⟨h2, trivial⟩ ?_
    refine Zab ?_
    refine Zbe rfl ?_
    refine Zca ?_
    refine Zbr 0 ?_
    refine Zab ?_
    refine xR [] [4] [7001] [Sv t] [some (Zaa s'_1)] [] trivial ?_
    refine Zcf ?_
    refine Zbn (t, s'_1) (show (Zbj s'_1) ∧ (s'_1.code = s.code) ∧ (s.atx + 0 ≤ s'_1.atx ∧ s'_1.atx ≤ s.atx + 200) ∧ (t.size ≤ t.size + 64) ∧ (True) from ⟨(by first | omega | assumption | rfl | (simp only [ByteArray.size_append, ByteArray.size_extract]; omega) | (simp; done) | (simp; omega) | (simp_all; done)), (by first | omega | assumption | rfl | (simp only [ByteArray.size_append, ByteArray.size_extract]; omega) | (simp; done) | (simp; omega) | (simp_all; done)), (by first | omega | assumption | rfl | (simp only [ByteArray.size_append, ByteArray.size_extract]; omega) | (simp; done) | (simp; omega) | (simp_all; done)), (by first | omega | assumption | rfl | (simp only [ByteArray.size_append, ByteArray.size_extract]; omega) | (simp; done) | (simp; omega) | (simp_all; done)), trivial⟩) (⟨.inl rfl, trivial⟩) (Sv t) (by kernel_rfl) (.inl rfl) (fun _ => rfl) (fun _ => trivial)
  obtain ⟨⟨v, s'⟩, ⟨hh0, hh1, hh2, hh3, _⟩, hc⟩ := hh
  exact ⟨v, s', hh0, hh1, hh2, hh3, hc⟩
theorem Zip (code : List Int) (hc : (∀ j, j < code.length → 0 ≤ at_ code j ∧ at_ code j ≤ 255) ∧ code.length ≤ 4611686018427387904) : ∃ (v : ByteArray), (v.size ≤ 50000) ∧ Con Tryz.prog 10 [Zgk false code] true (Sv v) := by
  have hh : ∃ r : ByteArray, ((r.size ≤ 50000) ∧ (True)) ∧ Zaz Tryz.prog 10 [Zgk false code] (Zaf []) true (Sv r) (Zaf []) := by
    refine Zde (Φ := fun r : ByteArray => (r.size ≤ 50000) ∧ (True)) [] (fun r => []) (fn := Tryz.f10) (nt := 17) Tryz.func10 rfl rfl (args := [Zgk false code]) rfl (Zbw (.inl ⟨rfl, Zdj false _⟩) Zdb) (res := fun r => Sv r) ?_
    refine xR [] [0] [] [Zgk false code] [] [] trivial ?_
    refine Zap ?_
    obtain ⟨s'_1, hx1_0, hc1⟩ := Zqo code
    have hsrc : Zbj s'_1 := ⟨by rw [hx1_0.1]; exact hc.1, by rw [hx1_0.2]; decide, by rw [hx1_0.1]; exact hc.2⟩
    have hat0 := hx1_0.2
    refine x_r [(1, .lend [] [(7001, Zaa s'_1)] [(true, .any)] false (.ref 7001 0))] [3] [7001] [.ref 7001 0] [some (Zaa s'_1)] [Zaz Tryz.prog 17 [Zgk false code] (Zaf []) false (.ref 7001 0) (Zaf [(7001, Zaa s'_1)]) ∧ True] ⟨⟨hc1, trivial⟩, trivial⟩ ?_
    refine Zab ?_
    refine Zap ?_
    obtain ⟨s'_2, ls_2, ws_2, hx2_0, hx2_1, hx2_2, hx2_3, hc2⟩ := Zqp s'_1 (by first | assumption | (simp only [Zbj] at *; simp_all; done)) (by omega)
    have hok := hx2_3
    have hpz := Zfm (p := Perceptron.mk ls_2 ws_2)
    refine x_r [(1, .lend [(7001, Zaa s'_1, Zaa s'_2)] [(9231, tAS ls_2), (9203, Zbm ws_2), (9232, Zbv 9203 ws_2)] [(true, .any)] false (.agg [.arr 9231, .arr 9232])), (2, .new 4)] [3, 4] [4, 7001, 9203, 9231, 9232] [.ref 7001 0, .ref 4 0] [some (.box [.arr 9231, .arr 9232]), some (Zaa s'_2), some (Zbm ws_2), some (tAS ls_2), some (Zbv 9203 ws_2)] [Zaz Tryz.prog 29 [.ref 7001 0] (Zaf [(7001, Zaa s'_1)]) false (.agg [.arr 9231, .arr 9232]) (Zaf [(7001, Zaa s'_2), (9231, tAS ls_2), (9203, Zbm ws_2), (9232, Zbv 9203 ws_2)]) ∧ (((Zaa s'_1 : Ob) = Zaa s'_1 ∨ Zeu Zel true (Zaa s'_1) (Zaa s'_1)) ∧ Zar false (Zaa s'_1)) ∧ True] ⟨⟨hc2, ⟨.inl rfl, (by simp [Zar, Zah, Zak, Zdj])⟩, trivial⟩, trivial⟩ ?_
    refine Zab ?_
    refine xR [(0, .call [(false, .ptr false [slS false ls_2, Zbg false ws_2])] true (Sv (Zeq (Perceptron.mk ls_2 ws_2))))] [3, 5] [7001] [.ref 7001 0, Sv (Zeq (Perceptron.mk ls_2 ws_2))] [some (Zaa s'_2)] [Con Tryz.prog 30 [.ptr false [slS false ls_2, Zbg false ws_2]] true (Sv (Zeq (Perceptron.mk ls_2 ws_2))) ∧ ((false = true → true = true) ∧ AV.idsL [slS false ls_2, Zbg false ws_2] = [] ∧ ((false = true → true = true) ∧ 1 = 1 ∧ ls_2.length = ls_2.length ∧ ∀ i_, i_ < ls_2.length → (fS ls_2) i_ = (fS ls_2) i_ ∨ (AV.idsL ((fS ls_2) i_) = [] ∧ leL (fun _ => none) false ((fS ls_2) i_) ((fS ls_2) i_))) ∧ ((false = true → true = true) ∧ 1 = 1 ∧ ws_2.length = ws_2.length ∧ ∀ i_, i_ < ws_2.length → AV.idsL ((fLI false ws_2) i_) = [] ∧ leL (Zaf [(9203, Zbm ws_2)]) true ((oLI 9203 ws_2) i_) ((fLI false ws_2) i_)) ∧ ([] : List AV) = []) ∧ True] ⟨⟨(Zqm (Perceptron.mk ls_2 ws_2) (by assumption)), ⟨(fun h => by cases h), rfl, ⟨⟨(fun h => by cases h), rfl, rfl, fun i _ => .inl rfl⟩, ⟨⟨(fun h => by cases h), rfl, rfl, Zfw _ _ rfl⟩, rfl⟩⟩⟩, trivial⟩, trivial⟩ ?_
    refine Zap ?_
    refine Zap ?_
    obtain ⟨v_3, s'_3, hx3_0, hx3_1, hx3_2, hc3⟩ := Zyn s'_2 3 (by first | assumption | (simp only [Zbj] at *; simp_all; done)) (by omega)
    rcases Bool.eq_false_or_eq_true v_3 with h1 | h1
    ·subst h1
     refine x_r [(1, .lend [(7001, Zaa s'_2, Zaa s'_3)] [] [(true, .any), (true, .any)] true (Bv true))] [3, 5, 12] [7001] [.ref 7001 0, Sv (Zeq (Perceptron.mk ls_2 ws_2)), Bv true] [some (Zaa s'_3)] [Zaz Tryz.prog 31 [.ref 7001 0, I 3] (Zaf [(7001, Zaa s'_2)]) true (Bv true) (Zaf [(7001, Zaa s'_3)]) ∧ (((Zaa s'_2 : Ob) = Zaa s'_2 ∨ Zeu Zel true (Zaa s'_2) (Zaa s'_2)) ∧ Zar false (Zaa s'_2)) ∧ True] ⟨⟨hc3, ⟨.inl rfl, (by simp [Zar, Zah, Zak, Zdj])⟩, trivial⟩, trivial⟩ ?_
     refine Zab ?_
     refine Zbq rfl ?_
     refine Zap ?_
     obtain ⟨v_4, s'_4, hx4_0, hx4_1, hx4_2, hx4_3, hc4⟩ := Zwl s'_3 (Zeq (Perceptron.mk ls_2 ws_2)) (by first | assumption | (simp only [Zbj] at *; simp_all; done)) (by omega) (Nat.le_trans Zfm (by decide))
     refine x_r [(2, .lend [(7001, Zaa s'_3, Zaa s'_4)] [] [(true, .any), (true, .any)] true (Sv v_4))] [2] [] [Sv v_4] [] [Zaz Tryz.prog 32 [.ref 7001 0, Sv (Zeq (Perceptron.mk ls_2 ws_2))] (Zaf [(7001, Zaa s'_3)]) true (Sv v_4) (Zaf [(7001, Zaa s'_4)]) ∧ (((Zaa s'_3 : Ob) = Zaa s'_3 ∨ Zeu Zel true (Zaa s'_3) (Zaa s'_3)) ∧ Zar false (Zaa s'_3)) ∧ True] ⟨⟨hc4, ⟨.inl rfl, (by simp [Zar, Zah, Zak, Zdj])⟩, trivial⟩, trivial⟩ ?_
     refine Zab ?_
     refine Zcf ?_
     refine Zbd ?_
     refine Zbn v_4 (show (v_4.size ≤ 50000) ∧ (True) from ⟨(by first | omega | (exact Nat.le_trans Zfm (by decide)) | (have q := Zfm (p := _); omega)), trivial⟩) (trivial) (Sv v_4) (by kernel_rfl) (.inl rfl) (fun _ => rfl) (fun _ => trivial)
    subst h1
    refine x_r [(1, .lend [(7001, Zaa s'_2, Zaa s'_3)] [] [(true, .any), (true, .any)] true (Bv false))] [3, 5, 12] [7001] [.ref 7001 0, Sv (Zeq (Perceptron.mk ls_2 ws_2)), Bv false] [some (Zaa s'_3)] [Zaz Tryz.prog 31 [.ref 7001 0, I 3] (Zaf [(7001, Zaa s'_2)]) true (Bv false) (Zaf [(7001, Zaa s'_3)]) ∧ (((Zaa s'_2 : Ob) = Zaa s'_2 ∨ Zeu Zel true (Zaa s'_2) (Zaa s'_2)) ∧ Zar false (Zaa s'_2)) ∧ True] ⟨⟨hc3, ⟨.inl rfl, (by simp [Zar, Zah, Zak, Zdj])⟩, trivial⟩, trivial⟩ ?_
    refine Zab ?_
    refine Zbe rfl ?_
    refine Zca ?_
    refine Zab ?_
    refine xR [] [2] [] [Sv (Zeq (Perceptron.mk ls_2 ws_2))] [] [] trivial ?_
    refine Zcf ?_
    refine Zbn (Zeq (Perceptron.mk ls_2 ws_2)) (show ((Zeq (Perceptron.mk ls_2 ws_2)).size ≤ 50000) ∧ (True) from ⟨(by first | omega | (exact Nat.le_trans Zfm (by decide)) | (have q := Zfm (p := _); omega)), trivial⟩) (trivial) (Sv (Zeq (Perceptron.mk ls_2 ws_2))) (by kernel_rfl) (.inl rfl) (fun _ => rfl) (fun _ => trivial)
  obtain ⟨v, ⟨hh0, _⟩, hc⟩ := hh
  exact ⟨v, hh0, hc⟩
theorem Zoq (s : ByteArray) (by_ : Int) (hz : s.size ≤ 1000000) (hby : 0 ≤ by_ ∧ by_ ≤ 255) : ∃ (v : List ByteArray), (v = Zcs (⟨#[UInt8.ofNat by_.toNat]⟩ : ByteArray) s) ∧ Con Tryz.prog 33 [Sv s, .val (.int .u8 by_)] true (slS true v) := by
  have hcu : ((UInt8.ofNat by_.toNat).toNat : Int) = by_ := by rw [UInt8.toNat_ofNat']; omega
  have hh : ∃ r : (List ByteArray), ((r = Zcs (⟨#[UInt8.ofNat by_.toNat]⟩ : ByteArray) s) ∧ (True)) ∧ Zaz Tryz.prog 33 [Sv s, .val (.int .u8 by_)] (Zaf []) true (slS true r) (Zaf []) := by
    refine Zde (Φ := fun r : (List ByteArray) => (r = Zcs (⟨#[UInt8.ofNat by_.toNat]⟩ : ByteArray) s) ∧ (True)) [] (fun r => []) (fn := Tryz.f33) (nt := 35) Tryz.func33 rfl rfl (args := [Sv s, .val (.int .u8 by_)]) rfl (Zbw (.inl ⟨rfl, trivial⟩) (Zbw (.inl ⟨rfl, trivial⟩) Zdb)) (res := fun r => slS true r) ?_
    refine xR [] [0, 1] [] [Sv s, .val (.int .u8 by_)] [] [] trivial ?_
    refine xR [(0, .new 8)] [0, 1, 5] [8] [Sv s, .val (.int .u8 by_), .arr 8] [some (.arr 1 0 (Zcw [] 1))] [] trivial ?_
    refine xR [] [0, 1, 5, 6] [8] [Sv s, .val (.int .u8 by_), .arr 8, I 0] [some (.arr 1 0 (Zcw [] 1))] [] trivial ?_
    refine Zap ?_
    refine xR [] [0, 1, 5, 6, 7] [8] [Sv s, .val (.int .u8 by_), .arr 8, I 0, I 0] [some (.arr 1 0 (Zcw [] 1))] [] trivial ?_
    refine Zbz ?_
    refine Zcz [] (T := [(0, Sv s), (1, .val (.int .u8 by_)), (5, .arr 8), (6, I 0), (7, I 0)]) (O := [(8, tAS ([] : List ByteArray))]) rfl (⟨.inl rfl, .inl rfl, .inl rfl, .inl rfl, .inl rfl, trivial⟩) (⟨.inr ⟨rfl, (by first | rfl | (simp; done) | (simp; omega) | omega), fun i_ hi_ => absurd hi_ (Nat.not_lt_zero _)⟩, trivial⟩) ?_
    refine Zeh (X := (List ByteArray) × Int × Int) (fun x => mkS [(0, Sv s), (1, .val (.int .u8 by_)), (5, .arr 8), (6, I x.2.1), (7, I x.2.2)] [(8, tAS x.1)]) (fun x => (0 ≤ x.2.2 ∧ x.2.2 ≤ (s.size : Int)) ∧ (0 ≤ x.2.1 ∧ x.2.1 ≤ x.2.2) ∧ (Zkf (UInt8.ofNat by_.toNat) s = x.1 ++ Zkf (UInt8.ofNat by_.toNat) (s.extract x.2.1.toNat s.size)) ∧ (∀ j, x.2.1.toNat ≤ j → j < x.2.2.toNat → ¬ bAt s j = ((UInt8.ofNat by_.toNat).toNat : Int)) ∧ (x.1.length ≤ x.2.2.toNat) ∧ True) (fun x => ((s.size : Int) - x.2.2).toNat) (([] : List ByteArray), 0, 0) rfl (show (0 ≤ (0 : Int) ∧ (0 : Int) ≤ (s.size : Int)) ∧ (0 ≤ (0 : Int) ∧ (0 : Int) ≤ (0 : Int)) ∧ (Zkf (UInt8.ofNat by_.toNat) s = ([] : List ByteArray) ++ Zkf (UInt8.ofNat by_.toNat) (s.extract (0 : Int).toNat s.size)) ∧ (∀ j, (0 : Int).toNat ≤ j → j < (0 : Int).toNat → ¬ bAt s j = ((UInt8.ofNat by_.toNat).toNat : Int)) ∧ (([] : List ByteArray).length ≤ (0 : Int).toNat) ∧ True from ⟨(by omega), (by omega), (by rw [show (0 : Int).toNat = 0 from rfl, ext_all]; rfl), (by intro j h1 h2; omega), (by simp), trivial⟩) (fun x hI => ?_)
    obtain ⟨out, from_, i⟩ := x
    obtain ⟨hi0, hf0, hsp, hns, hol, _⟩ : (0 ≤ i ∧ i ≤ (s.size : Int)) ∧ (0 ≤ from_ ∧ from_ ≤ i) ∧ (Zkf (UInt8.ofNat by_.toNat) s = out ++ Zkf (UInt8.ofNat by_.toNat) (s.extract from_.toNat s.size)) ∧ (∀ j, from_.toNat ≤ j → j < i.toNat → ¬ bAt s j = ((UInt8.ofNat by_.toNat).toNat : Int)) ∧ (out.length ≤ i.toNat) ∧ True := hI
    show XW _ _ _ _ (mkS [(0, Sv s), (1, .val (.int .u8 by_)), (5, .arr 8), (6, I from_), (7, I i)] [(8, tAS out)]) _ _
    refine Zap ?_
    refine Zap ?_
    by_cases h1 : i < (s.size : Int)
    ·have hi : i.toNat < s.size := by omega
     refine x_r [(3, .dec true)] [0, 1, 5, 6, 7, 12] [8] [Sv s, .val (.int .u8 by_), .arr 8, I from_, I i, Bv true] [some (tAS out)] [i < (s.size : Int)] ⟨h1, trivial⟩ ?_
     refine Zab ?_
     refine Zbq rfl ?_
     refine Zca ?_
     refine Zab ?_
     refine Zap ?_
     refine Zbz ?_
     refine Zap ?_
     by_cases h2 : (bAt s i.toNat) = by_
     ·have hq : bAt s i.toNat = ((UInt8.ofNat by_.toNat).toNat : Int) := by rw [hcu]; exact h2
      have hcut := spl_hit (c := UInt8.ofNat by_.toNat) (s := s) (a := from_.toNat) (i := i.toNat) (by omega) hi (fun j h1 h2 => hns j h1 h2) hq
      refine x_r [(4, .dec true)] [0, 1, 5, 6, 7, 19] [8] [Sv s, .val (.int .u8 by_), .arr 8, I from_, I i, Bv true] [some (tAS out)] [(0 : Int) ≤ i ∧ i < (s.size : Int), (bAt s i.toNat) = by_] ⟨⟨(by omega), (by omega)⟩, h2, trivial⟩ ?_
      refine Zab ?_
      refine Zbq rfl ?_
      refine xR [(5, .new 25), (6, .new 26)] [0, 1, 5, 7] [26] [Sv s, .val (.int .u8 by_), .arr 26, I i] [some (.arr 1 (out.length + 1) (Zdf out.length (fS out) (Zcw [Sv (s.extract from_.toNat i.toNat)] 1)))] [(0 : Int) ≤ from_ ∧ from_ ≤ i ∧ i ≤ (s.size : Int), (out.length + 1) * 16 ≤ 140737488355328] ⟨⟨(by omega), (by omega), (by omega)⟩, (by omega), trivial⟩ ?_
      refine x_r [] [0, 1, 5, 6, 7] [26] [Sv s, .val (.int .u8 by_), .arr 26, I (i + 1), I i] [some (.arr 1 (out.length + 1) (Zdf out.length (fS out) (Zcw [Sv (s.extract from_.toNat i.toNat)] 1)))] [inR .i64 (i + 1)] ⟨(Zam (by omega) (by omega)), trivial⟩ ?_
      refine Zbr 1 ?_
      refine Zab ?_
      refine x_r [] [0, 1, 5, 6, 7] [26] [Sv s, .val (.int .u8 by_), .arr 26, I (i + 1), I (i + 1)] [some (.arr 1 (out.length + 1) (Zdf out.length (fS out) (Zcw [Sv (s.extract from_.toNat i.toNat)] 1)))] [inR .i64 (i + 1)] ⟨(Zam (by omega) (by omega)), trivial⟩ ?_
      refine Zcx [(8, 26)] (T := [(0, Sv s), (1, .val (.int .u8 by_)), (5, .arr 8), (6, I (i + 1)), (7, I (i + 1))]) (O := [(8, tAS (out ++ [(s.extract from_.toNat i.toNat)]))]) rfl (⟨.inl rfl, .inl rfl, .inl rfl, .inl rfl, .inl rfl, trivial⟩) (⟨.inr ⟨rfl, (by first | rfl | (simp; done) | (simp; omega) | omega), fun i_ hi_ => .inl (Zee (enc := cS) (xs := out) rfl i_ hi_)⟩, trivial⟩) (Zcj ((out ++ [(s.extract from_.toNat i.toNat)]), (i + 1), (i + 1)) rfl (show (0 ≤ (i + 1) ∧ (i + 1) ≤ (s.size : Int)) ∧ (0 ≤ (i + 1) ∧ (i + 1) ≤ (i + 1)) ∧ (Zkf (UInt8.ofNat by_.toNat) s = (out ++ [(s.extract from_.toNat i.toNat)]) ++ Zkf (UInt8.ofNat by_.toNat) (s.extract (i + 1).toNat s.size)) ∧ (∀ j, (i + 1).toNat ≤ j → j < (i + 1).toNat → ¬ bAt s j = ((UInt8.ofNat by_.toNat).toNat : Int)) ∧ ((out ++ [(s.extract from_.toNat i.toNat)]).length ≤ (i + 1).toNat) ∧ True from ⟨(by omega), (by omega), (by first | exact hsp | (rw [hsp, hcut, show (i + 1).toNat = i.toNat + 1 from by omega]; simp; done)), (by intro j h1 h2; by_cases ej : j = i.toNat; (subst ej; first | exact hq | omega); exact hns j (by omega) (by omega)), (by first | omega | (simp; omega)), trivial⟩) (by first | (show (((s.size : Int) - (i + 1)).toNat : Nat) < ((s.size : Int) - i).toNat; omega) | (dsimp only; omega)))
     have hq : ¬ bAt s i.toNat = ((UInt8.ofNat by_.toNat).toNat : Int) := by rw [hcu]; exact h2
     refine x_r [(4, .dec false)] [0, 1, 5, 6, 7, 19] [8] [Sv s, .val (.int .u8 by_), .arr 8, I from_, I i, Bv false] [some (tAS out)] [(0 : Int) ≤ i ∧ i < (s.size : Int), ¬ ((bAt s i.toNat) = by_)] ⟨⟨(by omega), (by omega)⟩, h2, trivial⟩ ?_
     refine Zab ?_
     refine Zbe rfl ?_
     refine Zca ?_
     refine Zbr 1 ?_
     refine Zab ?_
     refine x_r [] [0, 1, 5, 6, 7] [8] [Sv s, .val (.int .u8 by_), .arr 8, I from_, I (i + 1)] [some (tAS out)] [inR .i64 (i + 1)] ⟨(Zam (by omega) (by omega)), trivial⟩ ?_
     exact Zcj (out, from_, (i + 1)) rfl (show (0 ≤ (i + 1) ∧ (i + 1) ≤ (s.size : Int)) ∧ (0 ≤ from_ ∧ from_ ≤ (i + 1)) ∧ (Zkf (UInt8.ofNat by_.toNat) s = out ++ Zkf (UInt8.ofNat by_.toNat) (s.extract from_.toNat s.size)) ∧ (∀ j, from_.toNat ≤ j → j < (i + 1).toNat → ¬ bAt s j = ((UInt8.ofNat by_.toNat).toNat : Int)) ∧ (out.length ≤ (i + 1).toNat) ∧ True from ⟨(by omega), (by omega), (by first | exact hsp | (rw [hsp, hcut, show (i + 1).toNat = i.toNat + 1 from by omega]; simp; done)), (by intro j h1 h2; by_cases ej : j = i.toNat; (subst ej; first | exact hq | omega); exact hns j (by omega) (by omega)), (by first | omega | (simp; omega)), trivial⟩) (by first | (show (((s.size : Int) - (i + 1)).toNat : Nat) < ((s.size : Int) - i).toNat; omega) | (dsimp only; omega))
    have hie : i.toNat = s.size := by omega
    refine x_r [(3, .dec false)] [0, 1, 5, 6, 7, 12] [8] [Sv s, .val (.int .u8 by_), .arr 8, I from_, I i, Bv false] [some (tAS out)] [¬ (i < (s.size : Int))] ⟨h1, trivial⟩ ?_
    refine Zab ?_
    refine Zbe rfl ?_
    refine Zeg ?_
    refine Zbs ?_
    refine Zbu ?_
    refine Zbt ?_
    refine Zab ?_
    refine xR [(4, .new 33), (5, .new 34)] [4] [34] [.arr 34] [some (.arr 1 (out.length + 1) (Zdf out.length (fS out) (Zcw [Sv (s.extract from_.toNat (s.size : Int).toNat)] 1)))] [(0 : Int) ≤ from_ ∧ from_ ≤ (s.size : Int) ∧ (s.size : Int) ≤ (s.size : Int), (out.length + 1) * 16 ≤ 140737488355328] ⟨⟨(by omega), (by omega), (by omega)⟩, (by omega), trivial⟩ ?_
    refine Zcf ?_
    refine Zbn (out ++ [(s.extract from_.toNat (s.size : Int).toNat)]) (show ((out ++ [(s.extract from_.toNat (s.size : Int).toNat)]) = Zcs (⟨#[UInt8.ofNat by_.toNat]⟩ : ByteArray) s) ∧ (True) from ⟨(by (show _ = Zkf _ s; rw [hsp, spl_end (fun j h1 h2 => hns j h1 (by omega))]; first | rfl | (rw [Int.toNat_natCast]; done))), trivial⟩) (trivial) (.arr 34) (by kernel_rfl) (.inr ⟨(fun _ => rfl), rfl, (by first | rfl | (simp; done) | (simp; omega) | omega), fun i_ hi_ => .inl (Zee (enc := cS) (xs := out) rfl i_ hi_)⟩) (fun _ => rfl) (fun _ => (Zer true _))
  obtain ⟨v, ⟨hh0, _⟩, hc⟩ := hh
  exact ⟨v, hh0, hc⟩
theorem Zor (c : Int) : Con Tryz.prog 72 [.val (.int .u8 c)] true (Bv (inB c 48 57)) := by
  refine Zdc (fn := Tryz.f72) (nt := 9) Tryz.func72 rfl rfl rfl rfl (by simp [Zah, Zak]) fun B hB => ?_
  refine aR [] [0] [] [.val (.int .u8 c)] [] [] hB trivial ?_
  refine Zal ?_
  by_cases h1 : 48 ≤ c
  ·refine Zby [(1, .dec true)] [2] [] [Bv (decide (c ≤ 57))] [] [48 ≤ c] hB ⟨h1, trivial⟩ ?_
   refine Zac ?_
   refine Zax ?_
   refine Zba hB (Bv (decide (c ≤ 57))) (by kernel_rfl) (.inl (by first | rfl | (refine congrArg Bv ?_; simp [inB, *]; done) | (refine congrArg Bv ?_; simp [inB, *]; omega) | (refine congrArg Bv ?_; simp_all [inB]; done) | (refine congrArg Bv ?_; simp_all [inB]; omega))) rfl (fun _ => trivial)
  refine Zby [(1, .dec false)] [2] [] [Bv false] [] [¬ (48 ≤ c)] hB ⟨h1, trivial⟩ ?_
  refine Zac ?_
  refine Zax ?_
  refine Zba hB (Bv false) (by kernel_rfl) (.inl (by first | rfl | (refine congrArg Bv ?_; simp [inB, *]; done) | (refine congrArg Bv ?_; simp [inB, *]; omega) | (refine congrArg Bv ?_; simp_all [inB]; done) | (refine congrArg Bv ?_; simp_all [inB]; omega))) rfl (fun _ => trivial)
theorem Zui (s : ByteArray) (hz : s.size ≤ 1000000) : ∃ (v : Int) (c : Bool), (v = dcN s) ∧ (c = dcB s) ∧ Con Tryz.prog 34 [Sv s] true (.tup [I v, Bv c]) := by
  have hh : ∃ r : Int × Bool, ((r.1 = dcN s) ∧ (r.2 = dcB s) ∧ (True)) ∧ Zaz Tryz.prog 34 [Sv s] (Zaf []) true (.tup [I r.1, Bv r.2]) (Zaf []) := by
    refine Zde (Φ := fun r : Int × Bool => (r.1 = dcN s) ∧ (r.2 = dcB s) ∧ (True)) [] (fun r => []) (fn := Tryz.f34) (nt := 56) Tryz.func34 rfl rfl (args := [Sv s]) rfl (Zbw (.inl ⟨rfl, trivial⟩) Zdb) (res := fun r => .tup [I r.1, Bv r.2]) ?_
    refine xR [] [0] [] [Sv s] [] [] trivial ?_
    refine xR [] [0, 4] [] [Sv s, Sv s] [] [] trivial ?_
    refine x_cut (X := ByteArray) (fun x => mkS [(0, Sv s), (4, Sv x)] []) (fun x => (unS s x) ∧ (x.size ≤ s.size) ∧ True) ?_ (fun x hI => ?_)
    ·refine Zap ?_
     by_cases h1 : s = (⟨#[]⟩ : ByteArray)
     ·have hs0 : s.size = 0 := by rw [h1]; rfl
      refine x_r [(1, .dec false)] [0, 4, 14] [] [Sv s, Sv s, Bv false] [] [¬ (s ≠ (⟨#[]⟩ : ByteArray))] ⟨(fun hq => hq h1), trivial⟩ ?_
      refine Zab ?_
      refine Zbe rfl ?_
      refine Zca ?_
      refine Zcx [] (T := [(0, Sv s), (4, Sv s)]) (O := []) rfl (⟨.inl rfl, .inl rfl, trivial⟩) (trivial) (Yam s rfl (show (unS s s) ∧ (s.size ≤ s.size) ∧ True from ⟨(by first | exact Zwc (by omega) (by assumption) | exact Zly (.inl (by omega)) | exact Zly (.inr (by assumption))), (by first | omega | (rw [ByteArray.size_extract]; omega)), trivial⟩))
     have hs0 : 0 < s.size := Nat.pos_of_ne_zero (fun q => h1 (Zsg q))
     by_cases h2 : (bAt s 0) = 45
     ·refine x_r [(1, .dec true), (5, .dec true)] [0, 4, 14] [] [Sv s, Sv s, Bv true] [] [s ≠ (⟨#[]⟩ : ByteArray), (0 : Int) ≤ 0 ∧ 0 < (s.size : Int), (bAt s 0) = 45] ⟨h1, ⟨(by omega), (by omega)⟩, h2, trivial⟩ ?_
      refine Zab ?_
      refine Zbq rfl ?_
      refine x_r [] [0, 4] [] [Sv s, Sv (s.extract 1 (s.size : Int).toNat)] [] [(0 : Int) ≤ 1 ∧ (1 : Int) ≤ (s.size : Int) ∧ (s.size : Int) ≤ (s.size : Int)] ⟨⟨(by omega), (by omega), (by omega)⟩, trivial⟩ ?_
      exact Yam (s.extract 1 (s.size : Int).toNat) rfl (show (unS s (s.extract 1 (s.size : Int).toNat)) ∧ ((s.extract 1 (s.size : Int).toNat).size ≤ s.size) ∧ True from ⟨(by first | exact Zwc (by omega) (by assumption) | exact Zly (.inl (by omega)) | exact Zly (.inr (by assumption))), (by first | omega | (rw [ByteArray.size_extract]; omega)), trivial⟩)
     refine x_r [(1, .dec true), (5, .dec false)] [0, 4, 14] [] [Sv s, Sv s, Bv false] [] [s ≠ (⟨#[]⟩ : ByteArray), (0 : Int) ≤ 0 ∧ 0 < (s.size : Int), ¬ ((bAt s 0) = 45)] ⟨h1, ⟨(by omega), (by omega)⟩, h2, trivial⟩ ?_
     refine Zab ?_
     refine Zbe rfl ?_
     refine Zca ?_
     refine Zcx [] (T := [(0, Sv s), (4, Sv s)]) (O := []) rfl (⟨.inl rfl, .inl rfl, trivial⟩) (trivial) (Yam s rfl (show (unS s s) ∧ (s.size ≤ s.size) ∧ True from ⟨(by first | exact Zwc (by omega) (by assumption) | exact Zly (.inl (by omega)) | exact Zly (.inr (by assumption))), (by first | omega | (rw [ByteArray.size_extract]; omega)), trivial⟩))
    obtain ⟨t, hxx⟩ : ∃ t : ByteArray, t = x := ⟨x, rfl⟩
    subst hxx
    obtain ⟨hu, htz, _⟩ : (unS s t) ∧ (t.size ≤ s.size) ∧ True := hI
    show XW _ _ _ _ (mkS [(0, Sv s), (4, Sv t)] []) _ _
    refine Zap ?_
    refine Zap ?_
    by_cases h3 : (t.size : Int) < 1
    ·have hst := Zwa (s := s) (by rw [Zsf hu, Zfg]; omega)
     refine x_r [(2, .dec true)] [0, 4, 24] [] [Sv s, Sv t, Bv true] [] [(t.size : Int) < 1] ⟨h3, trivial⟩ ?_
     refine Zab ?_
     refine Zbq rfl ?_
     refine xR [] [2, 3] [] [I 0, Bv false] [] [] trivial ?_
     refine Zcf ?_
     refine Zbd ?_
     refine Zbn (0, false) (show (0 = dcN s) ∧ (false = dcB s) ∧ (True) from ⟨(by first | (rw [hst.2]; done) | (rw [hst.1]; done) | exact hst.2.symm | exact hst.1.symm), (by first | (rw [hst.2]; done) | (rw [hst.1]; done) | exact hst.2.symm | exact hst.1.symm), trivial⟩) (trivial) (.tup [I 0, Bv false]) (by kernel_rfl) (.inl rfl) (fun _ => rfl) (fun _ => (by simp [Zak, Zah]))
    by_cases h4 : 18 < (t.size : Int)
    ·have hst := Zwa (s := s) (by rw [Zsf hu, Zfg]; omega)
     refine x_r [(2, .dec false), (6, .dec true)] [0, 4, 24] [] [Sv s, Sv t, Bv true] [] [¬ ((t.size : Int) < 1), 18 < (t.size : Int)] ⟨h3, h4, trivial⟩ ?_
     refine Zab ?_
     refine Zbq rfl ?_
     refine xR [] [2, 3] [] [I 0, Bv false] [] [] trivial ?_
     refine Zcf ?_
     refine Zbd ?_
     refine Zbn (0, false) (show (0 = dcN s) ∧ (false = dcB s) ∧ (True) from ⟨(by first | (rw [hst.2]; done) | (rw [hst.1]; done) | exact hst.2.symm | exact hst.1.symm), (by first | (rw [hst.2]; done) | (rw [hst.1]; done) | exact hst.2.symm | exact hst.1.symm), trivial⟩) (trivial) (.tup [I 0, Bv false]) (by kernel_rfl) (.inl rfl) (fun _ => rfl) (fun _ => (by simp [Zak, Zah]))
    refine x_r [(2, .dec false), (6, .dec false)] [0, 4, 24] [] [Sv s, Sv t, Bv false] [] [¬ ((t.size : Int) < 1), ¬ (18 < (t.size : Int))] ⟨h3, h4, trivial⟩ ?_
    refine Zab ?_
    refine Zbe rfl ?_
    refine Zca ?_
    refine Zab ?_
    refine xR [] [0, 4, 5] [] [Sv s, Sv t, I 0] [] [] trivial ?_
    refine Zap ?_
    refine xR [] [0, 4, 5, 6] [] [Sv s, Sv t, I 0, I 0] [] [] trivial ?_
    refine Zbz ?_
    refine Zeh (X := Int × Int) (fun x => mkS [(0, Sv s), (4, Sv t), (5, I x.1), (6, I x.2)] []) (fun x => (0 ≤ x.2 ∧ x.2 ≤ (t.size : Int)) ∧ (x.1 = ((Zsv 0 (t.data.toList.take x.2.toNat) : Nat) : Int)) ∧ (∀ j, j < x.2.toNat → 48 ≤ bAt t j ∧ bAt t j ≤ 57) ∧ True) (fun x => ((t.size : Int) - x.2).toNat) (0, 0) rfl (show (0 ≤ (0 : Int) ∧ (0 : Int) ≤ (t.size : Int)) ∧ ((0 : Int) = ((Zsv 0 (t.data.toList.take (0 : Int).toNat) : Nat) : Int)) ∧ (∀ j, j < (0 : Int).toNat → 48 ≤ bAt t j ∧ bAt t j ≤ 57) ∧ True from ⟨(by omega), (by rfl), (by intro j hj; omega), trivial⟩) (fun x hI => ?_)
    obtain ⟨n, i⟩ := x
    obtain ⟨hi0, hnv, hdg, _⟩ : (0 ≤ i ∧ i ≤ (t.size : Int)) ∧ (n = ((Zsv 0 (t.data.toList.take i.toNat) : Nat) : Int)) ∧ (∀ j, j < i.toNat → 48 ≤ bAt t j ∧ bAt t j ≤ 57) ∧ True := hI
    show XW _ _ _ _ (mkS [(0, Sv s), (4, Sv t), (5, I n), (6, I i)] []) _ _
    refine Zap ?_
    refine Zap ?_
    by_cases h5 : i < (t.size : Int)
    ·have hi : i.toNat < t.size := by omega
     have hbd := valL_bd hdg hi (by omega)
     have hi1 : (i + 1).toNat = i.toNat + 1 := by omega
     refine x_r [(3, .dec true)] [0, 4, 5, 6, 28] [] [Sv s, Sv t, I n, I i, Bv true] [] [i < (t.size : Int)] ⟨h5, trivial⟩ ?_
     refine Zab ?_
     refine Zbq rfl ?_
     refine Zca ?_
     refine Zab ?_
     refine Zap ?_
     refine Zbz ?_
     refine Zap ?_
     refine Zap ?_
     rcases Bool.eq_false_or_eq_true (inB (bAt t i.toNat) 48 57) with h6 | h6
     ·have hdq := Zwm.1 h6
      have hvs := Yck hi hdq.1
      refine x_r [(3, .call [(true, .any)] true (Bv true))] [0, 4, 5, 6, 35] [] [Sv s, Sv t, I n, I i, Bv false] [] [(0 : Int) ≤ i ∧ i < (t.size : Int), Con Tryz.prog 72 [.val (.int .u8 (bAt t i.toNat))] true (Bv true) ∧ True] ⟨⟨(by omega), (by omega)⟩, ⟨(Zaq h6 (Zor (bAt t i.toNat))), trivial⟩, trivial⟩ ?_
      refine Zab ?_
      refine Zbe rfl ?_
      refine Zca ?_
      refine Zab ?_
      refine x_r [] [0, 4, 5, 6] [] [Sv s, Sv t, I ((10 * n) + ((bAt t i.toNat) - 48)), I i] [] [inR .i64 (10 * n), (0 : Int) ≤ i ∧ i < (t.size : Int), inR .u8 ((bAt t i.toNat) - 48), inR .i64 ((bAt t i.toNat) - 48), inR .i64 ((10 * n) + ((bAt t i.toNat) - 48))] ⟨(Zam (by omega) (by omega)), ⟨(by omega), (by omega)⟩, (Zxk (by omega) (by omega)), (Zam (by omega) (by omega)), (Zam (by omega) (by omega)), trivial⟩ ?_
      refine Zbr 1 ?_
      refine Zab ?_
      refine x_r [] [0, 4, 5, 6] [] [Sv s, Sv t, I ((10 * n) + ((bAt t i.toNat) - 48)), I (i + 1)] [] [inR .i64 (i + 1)] ⟨(Zam (by omega) (by omega)), trivial⟩ ?_
      exact Zcj (((10 * n) + ((bAt t i.toNat) - 48)), (i + 1)) rfl (show (0 ≤ (i + 1) ∧ (i + 1) ≤ (t.size : Int)) ∧ (((10 * n) + ((bAt t i.toNat) - 48)) = ((Zsv 0 (t.data.toList.take (i + 1).toNat) : Nat) : Int)) ∧ (∀ j, j < (i + 1).toNat → 48 ≤ bAt t j ∧ bAt t j ≤ 57) ∧ True from ⟨(by omega), (by rw [hi1, hvs, ← hnv]), (by intro j hj; by_cases ej : j = i.toNat; (subst ej; exact hdq); exact hdg j (by omega)), trivial⟩) (by first | (show (((t.size : Int) - (i + 1)).toNat : Nat) < ((t.size : Int) - i).toNat; omega) | (dsimp only; omega))
     have hst := Yci hu (fun q => by have z := q (t.data.toList[i.toNat]'(by rw [Zfg]; exact hi)) (List.getElem_mem _); have y := Zwd hi; have w : inB (bAt t i.toNat) 48 57 = true := Zwm.2 (by omega); rw [h6] at w; cases w)
     refine x_r [(3, .call [(true, .any)] true (Bv false))] [0, 4, 5, 6, 35] [] [Sv s, Sv t, I n, I i, Bv true] [] [(0 : Int) ≤ i ∧ i < (t.size : Int), Con Tryz.prog 72 [.val (.int .u8 (bAt t i.toNat))] true (Bv false) ∧ True] ⟨⟨(by omega), (by omega)⟩, ⟨(Zaq h6 (Zor (bAt t i.toNat))), trivial⟩, trivial⟩ ?_
     refine Zab ?_
     refine Zbq rfl ?_
     refine xR [] [2, 3] [] [I 0, Bv false] [] [] trivial ?_
     refine Zcf ?_
     refine Zbd (Zdh (Zbd (Zfu (Zdh (Zbd ?_)))))
     refine Zbn (0, false) (show (0 = dcN s) ∧ (false = dcB s) ∧ (True) from ⟨(by first | (rw [hst.2]; done) | (rw [hst.1]; done) | exact hst.2.symm | exact hst.1.symm), (by first | (rw [hst.2]; done) | (rw [hst.1]; done) | exact hst.2.symm | exact hst.1.symm), trivial⟩) (trivial) (.tup [I 0, Bv false]) (by kernel_rfl) (.inl rfl) (fun _ => rfl) (fun _ => (by simp [Zak, Zah]))
    have hie : i.toNat = t.size := by omega
    have hall : Zjd t.data.toList := by have q := Zok (k := t.size) (Nat.le_refl _) (fun j hj => hdg j (by omega)); rwa [← Zfg, List.take_length] at q
    have hav := valL_all hall (by omega)
    rw [hie, ← Zfg, List.take_length] at hnv
    have hp := Ycj hu hall ⟨by omega, by omega⟩
    have hlt : 1 ≤ (Lib.trimPrefix s.data.toList [45]).length ∧ (Lib.trimPrefix s.data.toList [45]).length ≤ 18 := by rw [Zsf hu, Zfg]; omega
    refine x_r [(3, .dec false)] [0, 4, 5, 6, 28] [] [Sv s, Sv t, I n, I i, Bv false] [] [¬ (i < (t.size : Int))] ⟨h5, trivial⟩ ?_
    refine Zab ?_
    refine Zbe rfl ?_
    refine Zeg ?_
    refine Zbs ?_
    refine Zbu ?_
    refine Zbt ?_
    refine Zab ?_
    refine Zap ?_
    refine Zap ?_
    by_cases h7 : (t.size : Int) < (s.size : Int)
    ·rw [if_pos (by omega), ← hnv] at hp
     refine x_r [(4, .dec true)] [0, 5, 48] [] [Sv s, I n, Bv true] [] [(t.size : Int) < (s.size : Int)] ⟨h7, trivial⟩ ?_
     refine Zab ?_
     refine Zbq rfl ?_
     refine x_r [] [0, 5] [] [Sv s, I (-n)] [] [inR .i64 (-n)] ⟨(Zam (by omega) (by omega)), trivial⟩ ?_
     refine Zab ?_
     refine Zap ?_
     refine Zap ?_
     by_cases h8 : (Zeb (-n)) = s
     ·have hst := Zoi hp hlt h8
      refine x_r [(1, .call [(true, .any)] true (Sv (Zeb (-n)))), (3, .dec false)] [5, 54] [] [I (-n), Bv false] [] [Con Tryz.prog 70 [I (-n)] true (Sv (Zeb (-n))) ∧ True, ¬ ((Zeb (-n)) ≠ s)] ⟨⟨(Zji (-n) (by omega)), trivial⟩, (fun hq => hq h8), trivial⟩ ?_
      refine Zab ?_
      refine Zbe rfl ?_
      refine Zca ?_
      refine Zab ?_
      refine xR [] [2, 3] [] [I (-n), Bv true] [] [] trivial ?_
      refine Zcf ?_
      refine Zbn ((-n), true) (show ((-n) = dcN s) ∧ (true = dcB s) ∧ (True) from ⟨(by first | (rw [hst.2]; done) | (rw [hst.1]; done) | exact hst.2.symm | exact hst.1.symm), (by first | (rw [hst.2]; done) | (rw [hst.1]; done) | exact hst.2.symm | exact hst.1.symm), trivial⟩) (trivial) (.tup [I (-n), Bv true]) (by kernel_rfl) (.inl rfl) (fun _ => rfl) (fun _ => (by simp [Zak, Zah]))
     have hst := Ycc hp h8
     refine x_r [(1, .call [(true, .any)] true (Sv (Zeb (-n)))), (3, .dec true)] [5, 54] [] [I (-n), Bv true] [] [Con Tryz.prog 70 [I (-n)] true (Sv (Zeb (-n))) ∧ True, (Zeb (-n)) ≠ s] ⟨⟨(Zji (-n) (by omega)), trivial⟩, h8, trivial⟩ ?_
     refine Zab ?_
     refine Zbq rfl ?_
     refine xR [] [2, 3] [] [I 0, Bv false] [] [] trivial ?_
     refine Zcf ?_
     refine Zbd ?_
     refine Zbn (0, false) (show (0 = dcN s) ∧ (false = dcB s) ∧ (True) from ⟨(by first | (rw [hst.2]; done) | (rw [hst.1]; done) | exact hst.2.symm | exact hst.1.symm), (by first | (rw [hst.2]; done) | (rw [hst.1]; done) | exact hst.2.symm | exact hst.1.symm), trivial⟩) (trivial) (.tup [I 0, Bv false]) (by kernel_rfl) (.inl rfl) (fun _ => rfl) (fun _ => (by simp [Zak, Zah]))
    rw [if_neg (by omega), ← hnv] at hp
    refine x_r [(4, .dec false)] [0, 5, 48] [] [Sv s, I n, Bv false] [] [¬ ((t.size : Int) < (s.size : Int))] ⟨h7, trivial⟩ ?_
    refine Zab ?_
    refine Zbe rfl ?_
    refine Zca ?_
    refine Zab ?_
    refine Zap ?_
    refine Zap ?_
    by_cases h9 : (Zeb n) = s
    ·have hst := Zoi hp hlt h9
     refine x_r [(1, .call [(true, .any)] true (Sv (Zeb n))), (3, .dec false)] [5, 54] [] [I n, Bv false] [] [Con Tryz.prog 70 [I n] true (Sv (Zeb n)) ∧ True, ¬ ((Zeb n) ≠ s)] ⟨⟨(Zji n (by omega)), trivial⟩, (fun hq => hq h9), trivial⟩ ?_
     refine Zab ?_
     refine Zbe rfl ?_
     refine Zca ?_
     refine Zab ?_
     refine xR [] [2, 3] [] [I n, Bv true] [] [] trivial ?_
     refine Zcf ?_
     refine Zbn (n, true) (show (n = dcN s) ∧ (true = dcB s) ∧ (True) from ⟨(by first | (rw [hst.2]; done) | (rw [hst.1]; done) | exact hst.2.symm | exact hst.1.symm), (by first | (rw [hst.2]; done) | (rw [hst.1]; done) | exact hst.2.symm | exact hst.1.symm), trivial⟩) (trivial) (.tup [I n, Bv true]) (by kernel_rfl) (.inl rfl) (fun _ => rfl) (fun _ => (by simp [Zak, Zah]))
    have hst := Ycc hp h9
    refine x_r [(1, .call [(true, .any)] true (Sv (Zeb n))), (3, .dec true)] [5, 54] [] [I n, Bv true] [] [Con Tryz.prog 70 [I n] true (Sv (Zeb n)) ∧ True, (Zeb n) ≠ s] ⟨⟨(Zji n (by omega)), trivial⟩, h9, trivial⟩ ?_
    refine Zab ?_
    refine Zbq rfl ?_
    refine xR [] [2, 3] [] [I 0, Bv false] [] [] trivial ?_
    refine Zcf ?_
    refine Zbd ?_
    refine Zbn (0, false) (show (0 = dcN s) ∧ (false = dcB s) ∧ (True) from ⟨(by first | (rw [hst.2]; done) | (rw [hst.1]; done) | exact hst.2.symm | exact hst.1.symm), (by first | (rw [hst.2]; done) | (rw [hst.1]; done) | exact hst.2.symm | exact hst.1.symm), trivial⟩) (trivial) (.tup [I 0, Bv false]) (by kernel_rfl) (.inl rfl) (fun _ => rfl) (fun _ => (by simp [Zak, Zah]))
  obtain ⟨⟨v, c⟩, ⟨hh0, hh1, _⟩, hc⟩ := hh
  exact ⟨v, c, hh0, hh1, hc⟩
theorem Ziq (s : ByteArray) (hz : s.size ≤ 100000) : ∃ (v : Perceptron) (c : Bool), (v = (rsP s).1) ∧ (c = (rsP s).2) ∧ Con Tryz.prog 11 [Sv s] true (.tup [Zan v, Bv c]) := by
  have hh : ∃ r : Perceptron × Bool, ((r.1 = (rsP s).1) ∧ (r.2 = (rsP s).2) ∧ (True)) ∧ Zaz Tryz.prog 11 [Sv s] (Zaf []) true (.tup [Zan r.1, Bv r.2]) (Zaf []) := by
    refine Zde (Φ := fun r : Perceptron × Bool => (r.1 = (rsP s).1) ∧ (r.2 = (rsP s).2) ∧ (True)) [] (fun r => []) (fn := Tryz.f11) (nt := 80) Tryz.func11 rfl rfl (args := [Sv s]) rfl (Zbw (.inl ⟨rfl, trivial⟩) Zdb) (res := fun r => .tup [Zan r.1, Bv r.2]) ?_
    refine xR [(0, .new 2)] [0, 2] [2] [Sv s, .ref 2 0] [some (.box [Zao, Zao])] [] trivial ?_
    refine Zap ?_
    obtain ⟨v_1, hx1_0, hc1⟩ := Zoq s 10 (by omega) (by omega)
    have hlv : v_1 = Zcs ⟨#[10]⟩ s := by rw [hx1_0]; rfl
    have hlp := Zjt 10 s
    have hlz := Znc 10 s
    rw [← hlv] at hlp hlz
    refine x_r [(1, .call [(true, .any), (true, .any)] true (slS true v_1))] [2, 4] [2] [.ref 2 0, slS true v_1] [some (.box [Zao, Zao])] [Con Tryz.prog 33 [Sv s, .val (.int .u8 10)] true (slS true v_1) ∧ True] ⟨⟨hc1, trivial⟩, trivial⟩ ?_
    refine Zab ?_
    refine xR [(1, .new 5)] [2, 4, 5] [2, 5] [.ref 2 0, slS true v_1, .ref 5 0] [some (.box [Zao, Zao]), some (.box [Zao, Zao])] [] trivial ?_
    refine Zap ?_
    refine Zap ?_
    by_cases h1 : (at_ v_1 (((v_1.length : Int) - 1).toNat)) = (⟨#[]⟩ : ByteArray)
    ·have hc1 : at_ v_1 (v_1.length - 1) = ⟨#[]⟩ := by rw [show v_1.length - 1 = ((v_1.length : Int) - 1).toNat from by omega]; exact h1
     by_cases h2 : 13 < (v_1.length : Int)
     ·have hst := Zqj (s := s) (fun q => by have q1 := q.2.1; rw [← hlv] at q1; omega)
      refine x_r [(6, .dec false), (10, .dec true)] [2, 4, 5, 26] [2, 5] [.ref 2 0, slS true v_1, .ref 5 0, Bv true] [some (.box [Zao, Zao]), some (.box [Zao, Zao])] [inR .i64 ((v_1.length : Int) - 1), (0 : Int) ≤ ((v_1.length : Int) - 1) ∧ ((v_1.length : Int) - 1) < (v_1.length : Int), ¬ ((at_ v_1 (((v_1.length : Int) - 1).toNat)) ≠ (⟨#[]⟩ : ByteArray)), 13 < (v_1.length : Int)] ⟨(Zam (by omega) (by omega)), ⟨(by omega), (by omega)⟩, (fun hq => hq h1), h2, trivial⟩ ?_
      refine Zab ?_
      refine Zbq rfl ?_
      refine xR [] [2, 3] [2] [.ref 2 0, Bv false] [some (.box [Zao, Zao])] [] trivial ?_
      refine Zcf ?_
      refine Zbd ?_
      refine Zbn ((Perceptron.mk ([] : List ByteArray) ([] : List (List Int))), false) (show ((Perceptron.mk ([] : List ByteArray) ([] : List (List Int))) = (rsP s).1) ∧ (false = (rsP s).2) ∧ (True) from ⟨(by first | (rw [hst]; done) | (rw [hst, ← hlv]; exact hfin) | (rw [hst, ← hlv, ← hfin]; done)), (by first | (rw [hst]; done) | (rw [hst, ← hlv]; exact hfin) | (rw [hst, ← hlv, ← hfin]; done)), trivial⟩) (trivial) (.tup [.agg [Zao, Zao], Bv false]) (by kernel_rfl) (.inr ⟨⟨⟨rfl, rfl⟩, ⟨⟨rfl, rfl⟩, rfl⟩⟩, ⟨rfl, rfl⟩⟩) (fun _ => rfl) (fun _ => (by simp [Zak, Zah, Zdd, Zer]))
     have hc2 : v_1.length ≤ 13 := by omega
     refine x_r [(6, .dec false), (10, .dec false)] [2, 4, 5, 26] [2, 5] [.ref 2 0, slS true v_1, .ref 5 0, Bv false] [some (.box [Zao, Zao]), some (.box [Zao, Zao])] [inR .i64 ((v_1.length : Int) - 1), (0 : Int) ≤ ((v_1.length : Int) - 1) ∧ ((v_1.length : Int) - 1) < (v_1.length : Int), ¬ ((at_ v_1 (((v_1.length : Int) - 1).toNat)) ≠ (⟨#[]⟩ : ByteArray)), ¬ (13 < (v_1.length : Int))] ⟨(Zam (by omega) (by omega)), ⟨(by omega), (by omega)⟩, (fun hq => hq h1), h2, trivial⟩ ?_
     refine Zab ?_
     refine Zbe rfl ?_
     refine Zca ?_
     refine Zab ?_
     refine Zap ?_
     refine xR [] [2, 4, 5, 6] [2, 5] [.ref 2 0, slS true v_1, .ref 5 0, I 0] [some (.box [Zao, Zao]), some (.box [Zao, Zao])] [] trivial ?_
     refine Zbz ?_
     refine Zkm 5 0 750 1 (fun _ => []) rfl (by kernel_rfl) ?_
     refine Zkm 5 1 751 1 (fun _ => []) rfl (by kernel_rfl) ?_
     refine Zzc 9203 1 (fun _ => 0) (fun _ _ => []) (by kernel_rfl) ?_
     refine Zcz [] (T := [(2, .ref 2 0), (4, slS true v_1), (5, .ref 5 0), (6, I 0)]) (O := [(2, .box [Zao, Zao]), (5, .box [.arr 750, .arr 751]), (750, tAS ([] : List ByteArray)), (751, Zbv 9203 ([] : List (List Int))), (9203, Zbm ([] : List (List Int)))]) rfl (⟨.inl rfl, .inl rfl, .inl rfl, .inl rfl, trivial⟩) (⟨.inl rfl, .inl rfl, .inr ⟨rfl, (by first | rfl | (simp; done) | (simp; omega) | omega), fun i_ hi_ => absurd hi_ (Nat.not_lt_zero _)⟩, .inr ⟨rfl, rfl, fun i hi => absurd hi (Nat.not_lt_zero _)⟩, .inr ⟨rfl, rfl, fun p hp => absurd hp (Nat.not_lt_zero _)⟩, trivial⟩) ?_
     refine Zeh (X := Int × (List ByteArray) × (List (List Int))) (fun x => mkS [(2, .ref 2 0), (4, slS true v_1), (5, .ref 5 0), (6, I x.1)] [(2, .box [Zao, Zao]), (5, .box [.arr 750, .arr 751]), (750, tAS x.2.1), (751, Zbv 9203 x.2.2), (9203, Zbm x.2.2)]) (fun x => (0 ≤ x.1 ∧ x.1 ≤ (v_1.length : Int) - 1) ∧ ((x.2.1.length : Int) = x.1) ∧ ((x.2.2.length : Int) = x.1) ∧ (x.2.1 = (v_1.take x.1.toNat).map Zjg) ∧ (x.2.2 = (v_1.take x.1.toNat).map Zjh) ∧ (∀ j_ : Nat, (j_ : Int) < x.1 → Zom (at_ v_1 j_) = true) ∧ True) (fun x => ((v_1.length : Int) - x.1).toNat) (0, ([] : List ByteArray), ([] : List (List Int))) rfl (show (0 ≤ (0 : Int) ∧ (0 : Int) ≤ (v_1.length : Int) - 1) ∧ ((([] : List ByteArray).length : Int) = (0 : Int)) ∧ ((([] : List (List Int)).length : Int) = (0 : Int)) ∧ (([] : List ByteArray) = (v_1.take (0 : Int).toNat).map Zjg) ∧ (([] : List (List Int)) = (v_1.take (0 : Int).toNat).map Zjh) ∧ (∀ j_ : Nat, (j_ : Int) < (0 : Int) → Zom (at_ v_1 j_) = true) ∧ True from ⟨(by omega), (by rfl), (by rfl), (by rfl), (by rfl), (by intro j_ hj_; omega), trivial⟩) (fun x hI => ?_)
     obtain ⟨i, ls, ws⟩ := x
     obtain ⟨hi0, hl1, hl2, hls, hws, hall0, _⟩ : (0 ≤ i ∧ i ≤ (v_1.length : Int) - 1) ∧ ((ls.length : Int) = i) ∧ ((ws.length : Int) = i) ∧ (ls = (v_1.take i.toNat).map Zjg) ∧ (ws = (v_1.take i.toNat).map Zjh) ∧ (∀ j_ : Nat, (j_ : Int) < i → Zom (at_ v_1 j_) = true) ∧ True := hI
     show XW _ _ _ _ (mkS [(2, .ref 2 0), (4, slS true v_1), (5, .ref 5 0), (6, I i)] [(2, .box [Zao, Zao]), (5, .box [.arr 750, .arr 751]), (750, tAS ls), (751, Zbv 9203 ws), (9203, Zbm ws)]) _ _
     refine Zap ?_
     refine Zap ?_
     by_cases h3 : i < ((v_1.length : Int) - 1)
     ·have hi : i.toNat < v_1.length := by omega
      have hliz : (at_ v_1 i.toNat).size ≤ s.size := by have q := Zct hi; rw [hlv] at q ⊢; exact Zgt q
      refine x_r [(4, .dec true)] [2, 4, 5, 6, 32] [2, 5, 750, 751, 9203] [.ref 2 0, slS true v_1, .ref 5 0, I i, Bv true] [some (.box [Zao, Zao]), some (.box [.arr 750, .arr 751]), some (tAS ls), some (Zbv 9203 ws), some (Zbm ws)] [inR .i64 ((v_1.length : Int) - 1), i < ((v_1.length : Int) - 1)] ⟨(Zam (by omega) (by omega)), h3, trivial⟩ ?_
      refine Zab ?_
      refine Zbq rfl ?_
      refine Zca ?_
      refine Zab ?_
      refine Zap ?_
      refine Zbz ?_
      refine Zap ?_
      obtain ⟨v_2, hx2_0, hc2⟩ := Zoq (at_ v_1 i.toNat) 32 (by omega) (by omega)
      have hwv : v_2 = Zcs ⟨#[32]⟩ (at_ v_1 i.toNat) := by rw [hx2_0]; rfl
      have hwp := Zjt 32 (at_ v_1 i.toNat)
      have hwl := Znc 32 (at_ v_1 i.toNat)
      rw [← hwv] at hwp hwl
      refine x_r [(4, .call [(true, .any), (true, .any)] true (slS true v_2))] [2, 4, 5, 6, 7] [2, 5, 750, 751, 9203] [.ref 2 0, slS true v_1, .ref 5 0, I i, slS true v_2] [some (.box [Zao, Zao]), some (.box [.arr 750, .arr 751]), some (tAS ls), some (Zbv 9203 ws), some (Zbm ws)] [(0 : Int) ≤ i ∧ i < (v_1.length : Int), Con Tryz.prog 33 [Sv (at_ v_1 i.toNat), .val (.int .u8 32)] true (slS true v_2) ∧ True] ⟨⟨(by omega), (by omega)⟩, ⟨hc2, trivial⟩, trivial⟩ ?_
      refine Zab ?_
      refine xR [(0, .new 40)] [2, 4, 5, 6, 7, 8] [2, 5, 40, 750, 751, 9203] [.ref 2 0, slS true v_1, .ref 5 0, I i, slS true v_2, .arr 40] [some (.box [Zao, Zao]), some (.box [.arr 750, .arr 751]), some (.arr 1 0 (Zcw [] 1)), some (tAS ls), some (Zbv 9203 ws), some (Zbm ws)] [] trivial ?_
      refine Zap ?_
      refine xR [] [2, 4, 5, 6, 7, 8, 9] [2, 5, 40, 750, 751, 9203] [.ref 2 0, slS true v_1, .ref 5 0, I i, slS true v_2, .arr 40, I 1] [some (.box [Zao, Zao]), some (.box [.arr 750, .arr 751]), some (.arr 1 0 (Zcw [] 1)), some (tAS ls), some (Zbv 9203 ws), some (Zbm ws)] [] trivial ?_
      refine Zbz ?_
      refine Zcz [] (T := [(2, .ref 2 0), (4, slS true v_1), (5, .ref 5 0), (6, I i), (7, slS true v_2), (8, .arr 40), (9, I 1)]) (O := [(2, .box [Zao, Zao]), (5, .box [.arr 750, .arr 751]), (40, tAI ([] : List Int)), (750, tAS ls), (751, Zbv 9203 ws), (9203, Zbm ws)]) rfl (⟨.inl rfl, .inl rfl, .inl rfl, .inl rfl, .inl rfl, .inl rfl, .inl rfl, trivial⟩) (⟨.inl rfl, .inl rfl, .inr ⟨rfl, (by first | rfl | (simp; done) | (simp; omega) | omega), fun i_ hi_ => absurd hi_ (Nat.not_lt_zero _)⟩, .inl rfl, .inl rfl, .inl rfl, trivial⟩) ?_
      refine Zeh (X := (List Int) × Int) (fun x => mkS [(2, .ref 2 0), (4, slS true v_1), (5, .ref 5 0), (6, I i), (7, slS true v_2), (8, .arr 40), (9, I x.2)] [(2, .box [Zao, Zao]), (5, .box [.arr 750, .arr 751]), (40, tAI x.1), (750, tAS ls), (751, Zbv 9203 ws), (9203, Zbm ws)]) (fun x => (1 ≤ x.2 ∧ x.2 ≤ (v_2.length : Int)) ∧ (x.1 = ((v_2.drop 1).take (x.2 - 1).toNat).map dcN) ∧ (∀ j_ : Nat, (j_ : Int) < x.2 - 1 → dcB (at_ v_2 (j_ + 1)) = true) ∧ True) (fun x => ((v_2.length : Int) - x.2).toNat) (([] : List Int), 1) rfl (show (1 ≤ (1 : Int) ∧ (1 : Int) ≤ (v_2.length : Int)) ∧ (([] : List Int) = ((v_2.drop 1).take ((1 : Int) - 1).toNat).map dcN) ∧ (∀ j_ : Nat, (j_ : Int) < (1 : Int) - 1 → dcB (at_ v_2 (j_ + 1)) = true) ∧ True from ⟨(by omega), (by rfl), (by intro j_ hj_; omega), trivial⟩) (fun x hI => ?_)
      obtain ⟨row, k⟩ := x
      obtain ⟨hk0, hrw, hnum0, _⟩ : (1 ≤ k ∧ k ≤ (v_2.length : Int)) ∧ (row = ((v_2.drop 1).take (k - 1).toNat).map dcN) ∧ (∀ j_ : Nat, (j_ : Int) < k - 1 → dcB (at_ v_2 (j_ + 1)) = true) ∧ True := hI
      show XW _ _ _ _ (mkS [(2, .ref 2 0), (4, slS true v_1), (5, .ref 5 0), (6, I i), (7, slS true v_2), (8, .arr 40), (9, I k)] [(2, .box [Zao, Zao]), (5, .box [.arr 750, .arr 751]), (40, tAI row), (750, tAS ls), (751, Zbv 9203 ws), (9203, Zbm ws)]) _ _
      refine Zap ?_
      refine Zap ?_
      by_cases h4 : k < (v_2.length : Int)
      ·have hk : k.toNat < v_2.length := by omega
       have hkz : (at_ v_2 k.toNat).size ≤ (at_ v_1 i.toNat).size := by have q := Zct hk; rw [hwv] at q ⊢; exact Zgt q
       have hrl : (row.length : Int) = k - 1 := by rw [hrw]; simp only [List.length_map, List.length_take, List.length_drop]; omega
       refine x_r [(3, .dec true)] [2, 4, 5, 6, 7, 8, 9, 44] [2, 5, 40, 750, 751, 9203] [.ref 2 0, slS true v_1, .ref 5 0, I i, slS true v_2, .arr 40, I k, Bv true] [some (.box [Zao, Zao]), some (.box [.arr 750, .arr 751]), some (tAI row), some (tAS ls), some (Zbv 9203 ws), some (Zbm ws)] [k < (v_2.length : Int)] ⟨h4, trivial⟩ ?_
       refine Zab ?_
       refine Zbq rfl ?_
       refine Zca ?_
       refine Zab ?_
       refine Zap ?_
       refine Zbz ?_
       refine Zap ?_
       obtain ⟨v_3, c_3, hx3_0, hx3_1, hc3⟩ := Zui (at_ v_2 k.toNat) (by omega)
       refine x_r [(4, .call [(true, .any)] true (.tup [I v_3, Bv c_3]))] [2, 4, 5, 6, 7, 8, 9, 10, 11] [2, 5, 40, 750, 751, 9203] [.ref 2 0, slS true v_1, .ref 5 0, I i, slS true v_2, .arr 40, I k, I v_3, Bv c_3] [some (.box [Zao, Zao]), some (.box [.arr 750, .arr 751]), some (tAI row), some (tAS ls), some (Zbv 9203 ws), some (Zbm ws)] [(0 : Int) ≤ k ∧ k < (v_2.length : Int), Con Tryz.prog 34 [Sv (at_ v_2 k.toNat)] true (.tup [I v_3, Bv c_3]) ∧ True] ⟨⟨(by omega), (by omega)⟩, ⟨hc3, trivial⟩, trivial⟩ ?_
       refine Zab ?_
       refine Zap ?_
       refine Zap ?_
       rcases Bool.eq_false_or_eq_true c_3 with h5 | h5
       ·subst h5
        have hdb : dcB (at_ v_2 k.toNat) = true := hx3_1.symm
        refine x_r [] [2, 4, 5, 6, 7, 8, 9, 10, 56] [2, 5, 40, 750, 751, 9203] [.ref 2 0, slS true v_1, .ref 5 0, I i, slS true v_2, .arr 40, I k, I v_3, Bv false] [some (.box [Zao, Zao]), some (.box [.arr 750, .arr 751]), some (tAI row), some (tAS ls), some (Zbv 9203 ws), some (Zbm ws)] [] trivial ?_
        refine Zab ?_
        refine Zbe rfl ?_
        refine Zca ?_
        refine Zab ?_
        refine x_r [(2, .new 60), (3, .new 61)] [2, 4, 5, 6, 7, 8, 9] [2, 5, 61, 750, 751, 9203] [.ref 2 0, slS true v_1, .ref 5 0, I i, slS true v_2, .arr 61, I k] [some (.box [Zao, Zao]), some (.box [.arr 750, .arr 751]), some (.arr 1 (row.length + 1) (Zdf row.length (fI row) (Zcw [I v_3] 1))), some (tAS ls), some (Zbv 9203 ws), some (Zbm ws)] [(row.length + 1) * 8 ≤ 140737488355328] ⟨(by omega), trivial⟩ ?_
        refine Zbr 3 ?_
        refine Zab ?_
        refine x_r [] [2, 4, 5, 6, 7, 8, 9] [2, 5, 61, 750, 751, 9203] [.ref 2 0, slS true v_1, .ref 5 0, I i, slS true v_2, .arr 61, I (k + 1)] [some (.box [Zao, Zao]), some (.box [.arr 750, .arr 751]), some (.arr 1 (row.length + 1) (Zdf row.length (fI row) (Zcw [I v_3] 1))), some (tAS ls), some (Zbv 9203 ws), some (Zbm ws)] [inR .i64 (k + 1)] ⟨(Zam (by omega) (by omega)), trivial⟩ ?_
        refine Zcx [(40, 61)] (T := [(2, .ref 2 0), (4, slS true v_1), (5, .ref 5 0), (6, I i), (7, slS true v_2), (8, .arr 40), (9, I (k + 1))]) (O := [(2, .box [Zao, Zao]), (5, .box [.arr 750, .arr 751]), (40, tAI (row ++ [v_3])), (750, tAS ls), (751, Zbv 9203 ws), (9203, Zbm ws)]) rfl (⟨.inl rfl, .inl rfl, .inl rfl, .inl rfl, .inl rfl, .inl rfl, .inl rfl, trivial⟩) (⟨.inl rfl, .inl rfl, .inr ⟨rfl, (by first | rfl | (simp; done) | (simp; omega) | omega), fun i_ hi_ => .inl (Zee (enc := cI) (xs := row) rfl i_ hi_)⟩, .inl rfl, .inl rfl, .inl rfl, trivial⟩) (Zcj ((row ++ [v_3]), (k + 1)) rfl (show (1 ≤ (k + 1) ∧ (k + 1) ≤ (v_2.length : Int)) ∧ ((row ++ [v_3]) = ((v_2.drop 1).take ((k + 1) - 1).toNat).map dcN) ∧ (∀ j_ : Nat, (j_ : Int) < (k + 1) - 1 → dcB (at_ v_2 (j_ + 1)) = true) ∧ True from ⟨(by omega), (by rw [hrw, show k + 1 - 1 = (k - 1) + 1 from by omega]; exact (Zfh (by omega) (by rw [List.length_drop]; omega) (by rw [Zkw, show (k - 1).toNat + 1 = k.toNat from by omega]; assumption)).symm), (by intro j_ hj_; by_cases ej : j_ + 1 = k.toNat; (rw [ej]; exact hdb); exact hnum0 j_ (by omega)), trivial⟩) (by first | (show (((v_2.length : Int) - (k + 1)).toNat : Nat) < ((v_2.length : Int) - k).toNat; omega) | (dsimp only; omega)))
       subst h5
       have hdb : dcB (at_ v_2 k.toNat) = false := hx3_1.symm
       have hst := Zqj (s := s) (fun q => by have q1 := Zhh (q.2.2.1 i.toNat (by rw [← hlv]; omega)) (k := k.toNat - 1) (by rw [← hlv, ← hwv]; omega); rw [← hlv, ← hwv, show k.toNat - 1 + 1 = k.toNat from by omega, hdb] at q1; cases q1)
       refine x_r [] [2, 4, 5, 6, 7, 8, 9, 10, 56] [2, 5, 40, 750, 751, 9203] [.ref 2 0, slS true v_1, .ref 5 0, I i, slS true v_2, .arr 40, I k, I v_3, Bv true] [some (.box [Zao, Zao]), some (.box [.arr 750, .arr 751]), some (tAI row), some (tAS ls), some (Zbv 9203 ws), some (Zbm ws)] [] trivial ?_
       refine Zab ?_
       refine Zbq rfl ?_
       refine xR [] [2, 3] [2] [.ref 2 0, Bv false] [some (.box [Zao, Zao])] [] trivial ?_
       refine Zcf ?_
       refine Zbd (Zdh (Zbd (Zfu (Zdh (Zbd (Zdh (Zbd (Zfu (Zdh (Zbd ?_))))))))))
       refine Zbn ((Perceptron.mk ([] : List ByteArray) ([] : List (List Int))), false) (show ((Perceptron.mk ([] : List ByteArray) ([] : List (List Int))) = (rsP s).1) ∧ (false = (rsP s).2) ∧ (True) from ⟨(by first | (rw [hst]; done) | (rw [hst, ← hlv]; exact hfin) | (rw [hst, ← hlv, ← hfin]; done)), (by first | (rw [hst]; done) | (rw [hst, ← hlv]; exact hfin) | (rw [hst, ← hlv, ← hfin]; done)), trivial⟩) (trivial) (.tup [.agg [Zao, Zao], Bv false]) (by kernel_rfl) (.inr ⟨⟨⟨rfl, rfl⟩, ⟨⟨rfl, rfl⟩, rfl⟩⟩, ⟨rfl, rfl⟩⟩) (fun _ => rfl) (fun _ => (by simp [Zak, Zah, Zdd, Zer]))
      have hrf : row = Zjh (at_ v_1 i.toNat) := by rw [hrw, hwv]; exact Ycq (by rw [List.length_drop, ← hwv]; omega)
      have hrn : Zom (at_ v_1 i.toNat) = true := by unfold Zom; rw [← hwv]; exact Zff fun j_ hj_ => hnum0 j_ (by omega)
      refine x_r [(3, .dec false)] [2, 4, 5, 6, 7, 8, 9, 44] [2, 5, 40, 750, 751, 9203] [.ref 2 0, slS true v_1, .ref 5 0, I i, slS true v_2, .arr 40, I k, Bv false] [some (.box [Zao, Zao]), some (.box [.arr 750, .arr 751]), some (tAI row), some (tAS ls), some (Zbv 9203 ws), some (Zbm ws)] [¬ (k < (v_2.length : Int))] ⟨h4, trivial⟩ ?_
      refine Zab ?_
      refine Zbe rfl ?_
      refine Zeg ?_
      refine Zbs ?_
      refine Zbu ?_
      refine Zbt ?_
      refine Zab ?_
      refine xR [(5, .new 67), (6, .new 68)] [2, 4, 5, 6, 8] [2, 5, 40, 68, 751, 9203] [.ref 2 0, slS true v_1, .ref 5 0, I i, .arr 40] [some (.box [Zao, Zao]), some (.box [.arr 68, .arr 751]), some (tAI row), some (.arr 1 (ls.length + 1) (Zdf ls.length (fS ls) (Zcw [Sv (at_ v_2 0)] 1))), some (Zbv 9203 ws), some (Zbm ws)] [(0 : Int) ≤ 0 ∧ 0 < (v_2.length : Int), (ls.length + 1) * 16 ≤ 140737488355328] ⟨⟨(by omega), (by omega)⟩, (by omega), trivial⟩ ?_
      refine x_r [(3, .new 73), (4, .new 74)] [2, 4, 5, 6] [2, 5, 40, 68, 74, 9203] [.ref 2 0, slS true v_1, .ref 5 0, I i] [some (.box [Zao, Zao]), some (.box [.arr 68, .arr 74]), some (tAI row), some (.arr 1 (ls.length + 1) (Zdf ls.length (fS ls) (Zcw [Sv (at_ v_2 0)] 1))), some (.oar [9203, 40] 1 (ws.length + 1) (Zdf ws.length (oLI 9203 ws) (Zcw [.arr 40] 1))), some (Zbm ws)] [(ws.length + 1) * 24 ≤ 140737488355328] ⟨(by omega), trivial⟩ ?_
      refine Zbr 1 ?_
      refine Zab ?_
      refine x_r [] [2, 4, 5, 6] [2, 5, 40, 68, 74, 9203] [.ref 2 0, slS true v_1, .ref 5 0, I (i + 1)] [some (.box [Zao, Zao]), some (.box [.arr 68, .arr 74]), some (tAI row), some (.arr 1 (ls.length + 1) (Zdf ls.length (fS ls) (Zcw [Sv (at_ v_2 0)] 1))), some (.oar [9203, 40] 1 (ws.length + 1) (Zdf ws.length (oLI 9203 ws) (Zcw [.arr 40] 1))), some (Zbm ws)] [inR .i64 (i + 1)] ⟨(Zam (by omega) (by omega)), trivial⟩ ?_
      refine Zlo 40 9203 rfl rfl rfl ?_
      refine Zcx [(750, 68), (751, 74)] (T := [(2, .ref 2 0), (4, slS true v_1), (5, .ref 5 0), (6, I (i + 1))]) (O := [(2, .box [Zao, Zao]), (5, .box [.arr 750, .arr 751]), (750, tAS (ls ++ [(at_ v_2 0)])), (751, Zbv 9203 (ws ++ [row])), (9203, Zbm (ws ++ [row]))]) rfl (⟨.inl rfl, .inl rfl, .inl rfl, .inl rfl, trivial⟩) (⟨.inl rfl, .inl rfl, .inr ⟨rfl, (by first | rfl | (simp; done) | (simp; omega) | omega), fun i_ hi_ => .inl (Zee (enc := cS) (xs := ls) rfl i_ hi_)⟩, .inr ⟨rfl, rfl, (by simp), fun i hi => .inl (Zqk rfl rfl rfl i hi)⟩, .inr (Zql row (by first | rfl | (simp; done)) (fun i _ => rfl)), trivial⟩) (Zcj ((i + 1), (ls ++ [(at_ v_2 0)]), (ws ++ [row])) rfl (show (0 ≤ (i + 1) ∧ (i + 1) ≤ (v_1.length : Int) - 1) ∧ (((ls ++ [(at_ v_2 0)]).length : Int) = (i + 1)) ∧ (((ws ++ [row]).length : Int) = (i + 1)) ∧ ((ls ++ [(at_ v_2 0)]) = (v_1.take (i + 1).toNat).map Zjg) ∧ ((ws ++ [row]) = (v_1.take (i + 1).toNat).map Zjh) ∧ (∀ j_ : Nat, (j_ : Int) < (i + 1) → Zom (at_ v_1 j_) = true) ∧ True from ⟨(by omega), (by simp; omega), (by simp; omega), (by rw [hls]; exact (Zfh (by omega) hi (by unfold Zjg; rw [hwv])).symm), (by rw [hws]; exact (Zfh (by omega) hi hrf).symm), (by intro j_ hj_; by_cases ej : j_ = i.toNat; (subst ej; exact hrn); exact hall0 j_ (by omega)), trivial⟩) (by first | (show (((v_1.length : Int) - (i + 1)).toNat : Nat) < ((v_1.length : Int) - i).toNat; omega) | (dsimp only; omega)))
     have hie : i.toNat = v_1.length - 1 := by omega
     have hfin : Perceptron.mk ls ws = Zln (v_1.take (v_1.length - 1)) := by rw [hls, hws, hie]; rfl
     have hnum : ∀ j_, j_ < v_1.length - 1 → Zom (at_ v_1 j_) = true := fun j_ hj_ => hall0 j_ (by omega)
     have hsz9 : ∀ y ∈ ls, y.size ≤ 9223372036854775807 := fun y hy => by have q := Ycp (B := s.size) (ls := v_1.take (v_1.length - 1)) (fun l hl => by have q := List.mem_of_mem_take hl; rw [hlv] at q; exact Zgt q) y (by rw [← hfin]; exact hy); omega
     refine x_r [(4, .dec false)] [2, 4, 5, 6, 32] [2, 5, 750, 751, 9203] [.ref 2 0, slS true v_1, .ref 5 0, I i, Bv false] [some (.box [Zao, Zao]), some (.box [.arr 750, .arr 751]), some (tAS ls), some (Zbv 9203 ws), some (Zbm ws)] [inR .i64 ((v_1.length : Int) - 1), ¬ (i < ((v_1.length : Int) - 1))] ⟨(Zam (by omega) (by omega)), h3, trivial⟩ ?_
     refine Zab ?_
     refine Zbe rfl ?_
     refine Zeg ?_
     refine Zbs ?_
     refine Zbu ?_
     refine Zbt ?_
     refine Zab ?_
     refine Zap ?_
     refine Zap ?_
     rcases Bool.eq_false_or_eq_true (Zbb (Perceptron.mk ls ws)) with h6 | h6
     ·have hst := Yco (s := s) (by rw [← hlv]; exact ⟨hc1, hc2, hnum, by rw [← hfin]; exact h6⟩)
      refine x_r [(0, .call [(false, .ptr false [slS false ls, Zbg false ws])] true (Bv true))] [2, 5, 77] [2, 5, 750, 751, 9203] [.ref 2 0, .ref 5 0, Bv false] [some (.box [Zao, Zao]), some (.box [.arr 750, .arr 751]), some (tAS ls), some (Zbv 9203 ws), some (Zbm ws)] [Con Tryz.prog 35 [.ptr false [slS false ls, Zbg false ws]] true (Bv true) ∧ ((false = true → true = true) ∧ AV.idsL [slS false ls, Zbg false ws] = [] ∧ ((false = true → true = true) ∧ 1 = 1 ∧ ls.length = ls.length ∧ ∀ i_, i_ < ls.length → (fS ls) i_ = (fS ls) i_ ∨ (AV.idsL ((fS ls) i_) = [] ∧ leL (fun _ => none) false ((fS ls) i_) ((fS ls) i_))) ∧ ((false = true → true = true) ∧ 1 = 1 ∧ ws.length = ws.length ∧ ∀ i_, i_ < ws.length → AV.idsL ((fLI false ws) i_) = [] ∧ leL (Zaf [(9203, Zbm ws)]) true ((oLI 9203 ws) i_) ((fLI false ws) i_)) ∧ ([] : List AV) = []) ∧ True] ⟨⟨(Zaq h6 (Zew (Perceptron.mk ls ws) hsz9)), ⟨(fun h => by cases h), rfl, ⟨⟨(fun h => by cases h), rfl, rfl, fun i _ => .inl rfl⟩, ⟨⟨(fun h => by cases h), rfl, rfl, Zfw _ _ rfl⟩, rfl⟩⟩⟩, trivial⟩, trivial⟩ ?_
      refine Zab ?_
      refine Zbe rfl ?_
      refine Zca ?_
      refine Zab ?_
      refine xR [] [2, 3] [2, 750, 751, 9203] [.ref 2 0, Bv true] [some (.box [.arr 750, .arr 751]), some (tAS ls), some (Zbv 9203 ws), some (Zbm ws)] [] trivial ?_
      refine Zcf ?_
      refine Zbn ((Perceptron.mk ls ws), true) (show ((Perceptron.mk ls ws) = (rsP s).1) ∧ (true = (rsP s).2) ∧ (True) from ⟨(by first | (rw [hst]; done) | (rw [hst, ← hlv]; exact hfin) | (rw [hst, ← hlv, ← hfin]; done)), (by first | (rw [hst]; done) | (rw [hst, ← hlv]; exact hfin) | (rw [hst, ← hlv, ← hfin]; done)), trivial⟩) (trivial) (.tup [.agg [.arr 750, .arr 751], Bv true]) (by kernel_rfl) (.inr ⟨⟨⟨(fun _ => rfl), rfl, rfl, fun i _ => .inl rfl⟩, ⟨⟨(fun _ => rfl), rfl, rfl, Zfw _ _ rfl⟩, rfl⟩⟩, ⟨rfl, rfl⟩⟩) (fun _ => rfl) (fun _ => (by simp [Zak, Zah, Zdd, Zer]))
     have hst := Zqj (s := s) (fun q => by have q1 := q.2.2.2; rw [← hlv, ← hfin] at q1; rw [h6] at q1; cases q1)
     refine x_r [(0, .call [(false, .ptr false [slS false ls, Zbg false ws])] true (Bv false))] [2, 5, 77] [2, 5, 750, 751, 9203] [.ref 2 0, .ref 5 0, Bv true] [some (.box [Zao, Zao]), some (.box [.arr 750, .arr 751]), some (tAS ls), some (Zbv 9203 ws), some (Zbm ws)] [Con Tryz.prog 35 [.ptr false [slS false ls, Zbg false ws]] true (Bv false) ∧ ((false = true → true = true) ∧ AV.idsL [slS false ls, Zbg false ws] = [] ∧ ((false = true → true = true) ∧ 1 = 1 ∧ ls.length = ls.length ∧ ∀ i_, i_ < ls.length → (fS ls) i_ = (fS ls) i_ ∨ (AV.idsL ((fS ls) i_) = [] ∧ leL (fun _ => none) false ((fS ls) i_) ((fS ls) i_))) ∧ ((false = true → true = true) ∧ 1 = 1 ∧ ws.length = ws.length ∧ ∀ i_, i_ < ws.length → AV.idsL ((fLI false ws) i_) = [] ∧ leL (Zaf [(9203, Zbm ws)]) true ((oLI 9203 ws) i_) ((fLI false ws) i_)) ∧ ([] : List AV) = []) ∧ True] ⟨⟨(Zaq h6 (Zew (Perceptron.mk ls ws) hsz9)), ⟨(fun h => by cases h), rfl, ⟨⟨(fun h => by cases h), rfl, rfl, fun i _ => .inl rfl⟩, ⟨⟨(fun h => by cases h), rfl, rfl, Zfw _ _ rfl⟩, rfl⟩⟩⟩, trivial⟩, trivial⟩ ?_
     refine Zab ?_
     refine Zbq rfl ?_
     refine xR [] [2, 3] [2] [.ref 2 0, Bv false] [some (.box [Zao, Zao])] [] trivial ?_
     refine Zcf ?_
     refine Zbd ?_
     refine Zbn ((Perceptron.mk ([] : List ByteArray) ([] : List (List Int))), false) (show ((Perceptron.mk ([] : List ByteArray) ([] : List (List Int))) = (rsP s).1) ∧ (false = (rsP s).2) ∧ (True) from ⟨(by first | (rw [hst]; done) | (rw [hst, ← hlv]; exact hfin) | (rw [hst, ← hlv, ← hfin]; done)), (by first | (rw [hst]; done) | (rw [hst, ← hlv]; exact hfin) | (rw [hst, ← hlv, ← hfin]; done)), trivial⟩) (trivial) (.tup [.agg [Zao, Zao], Bv false]) (by kernel_rfl) (.inr ⟨⟨⟨rfl, rfl⟩, ⟨⟨rfl, rfl⟩, rfl⟩⟩, ⟨rfl, rfl⟩⟩) (fun _ => rfl) (fun _ => (by simp [Zak, Zah, Zdd, Zer]))
    have hst := Zqj (s := s) (fun q => by have q1 := q.1; rw [← hlv, show v_1.length - 1 = ((v_1.length : Int) - 1).toNat from by omega] at q1; exact h1 q1)
    refine x_r [(6, .dec true)] [2, 4, 5, 26] [2, 5] [.ref 2 0, slS true v_1, .ref 5 0, Bv true] [some (.box [Zao, Zao]), some (.box [Zao, Zao])] [inR .i64 ((v_1.length : Int) - 1), (0 : Int) ≤ ((v_1.length : Int) - 1) ∧ ((v_1.length : Int) - 1) < (v_1.length : Int), (at_ v_1 (((v_1.length : Int) - 1).toNat)) ≠ (⟨#[]⟩ : ByteArray)] ⟨(Zam (by omega) (by omega)), ⟨(by omega), (by omega)⟩, h1, trivial⟩ ?_
    refine Zab ?_
    refine Zbq rfl ?_
    refine xR [] [2, 3] [2] [.ref 2 0, Bv false] [some (.box [Zao, Zao])] [] trivial ?_
    refine Zcf ?_
    refine Zbd ?_
    refine Zbn ((Perceptron.mk ([] : List ByteArray) ([] : List (List Int))), false) (show ((Perceptron.mk ([] : List ByteArray) ([] : List (List Int))) = (rsP s).1) ∧ (false = (rsP s).2) ∧ (True) from ⟨(by first | (rw [hst]; done) | (rw [hst, ← hlv]; exact hfin) | (rw [hst, ← hlv, ← hfin]; done)), (by first | (rw [hst]; done) | (rw [hst, ← hlv]; exact hfin) | (rw [hst, ← hlv, ← hfin]; done)), trivial⟩) (trivial) (.tup [.agg [Zao, Zao], Bv false]) (by kernel_rfl) (.inr ⟨⟨⟨rfl, rfl⟩, ⟨⟨rfl, rfl⟩, rfl⟩⟩, ⟨rfl, rfl⟩⟩) (fun _ => rfl) (fun _ => (by simp [Zak, Zah, Zdd, Zer]))
  obtain ⟨⟨v, c⟩, ⟨hh0, hh1, _⟩, hc⟩ := hh
  exact ⟨v, c, hh0, hh1, hc⟩
theorem Zqq (a : List Int) (b : List Int) : Con Tryz.prog 36 [slI false a, slI false b] true (Bv (Zin a b)) := by
  refine Zdc (fn := Tryz.f36) (nt := 26) Tryz.func36 rfl rfl rfl rfl (by simp [Zah, Zak, Zpg]) fun B hB => ?_
  refine Zcg (x := slI false a) 0 rfl (fun len_a => ?_)
  simp [Zdt, Zgj, cI, fI, slI] at len_a
  refine Zcg (x := slI false b) 1 rfl (fun len_b => ?_)
  simp [Zdt, Zgj, cI, fI, slI] at len_b
  refine aR [] [0, 1] [] [slI false a, slI false b] [] [] hB trivial ?_
  refine Zal ?_
  refine Zal ?_
  by_cases h1 : (a.length : Int) = (b.length : Int)
  ·have hlen : a.length = b.length := by omega
   refine Zby [(4, .dec false)] [0, 1, 10] [] [slI false a, slI false b, Bv false] [] [¬ ((a.length : Int) ≠ (b.length : Int))] hB ⟨(fun hq => hq h1), trivial⟩ ?_
   refine Zac ?_
   refine Zay rfl ?_
   refine Zbf ?_
   refine Zac ?_
   refine Zal ?_
   refine aR [] [0, 1, 5] [] [slI false a, slI false b, I 0] [] [] hB trivial ?_
   refine Zbo ?_
   refine Zdm (fun gn gσ => ∃ (i : Int), gn = ((a.length : Int) - i).toNat ∧ (0 ≤ i ∧ i ≤ (a.length : Int)) ∧ (∀ j : Nat, (j : Int) < i → decide (at_ a j = at_ b j) = true) ∧ gσ = mkS [(0, slI false a), (1, slI false b), (5, I i)] []) (((a.length : Int) - 0).toNat) ⟨0, rfl, (by omega), (by intro j hj; omega), rfl⟩ (fun gn gσ hI => ?_)
   obtain ⟨i, rfl, hi0, hall0, rfl⟩ := hI
   refine Zal ?_
   refine Zal ?_
   by_cases h2 : i < (a.length : Int)
   ·have hi : i.toNat < a.length := by omega
    refine Zby [(3, .dec true)] [0, 1, 5, 14] [] [slI false a, slI false b, I i, Bv true] [] [i < (a.length : Int)] hB ⟨h2, trivial⟩ ?_
    refine Zac ?_
    refine Zbc rfl ?_
    refine Zbf ?_
    refine Zac ?_
    refine Zal ?_
    refine Zbo ?_
    refine Zal ?_
    by_cases h3 : (at_ a i.toNat) = (at_ b i.toNat)
    ·have hok : decide (at_ a i.toNat = at_ b i.toNat) = true := decide_eq_true h3
     refine Zby [(8, .dec false)] [0, 1, 5, 25] [] [slI false a, slI false b, I i, Bv false] [] [(0 : Int) ≤ i ∧ i < (a.length : Int), (0 : Int) ≤ i ∧ i < (b.length : Int), ¬ ((at_ a i.toNat) ≠ (at_ b i.toNat))] hB ⟨⟨(by omega), (by omega)⟩, ⟨(by omega), (by omega)⟩, (fun hq => hq h3), trivial⟩ ?_
     refine Zac ?_
     refine Zay rfl ?_
     refine Zbf ?_
     refine Zco 1 ?_
     refine Zac ?_
     refine Zby [] [0, 1, 5] [] [slI false a, slI false b, I (i + 1)] [] [inR .i64 (i + 1)] hB ⟨(Zam (by omega) (by omega)), trivial⟩ ?_
     exact Zcr _ (by omega) ⟨(i + 1), rfl, (by omega), (by intro j hj; by_cases ej : j = i.toNat; (subst ej; first | assumption | exact hok); exact hall0 j (by omega)), rfl⟩
    have hall : Zim a.length (fun j => decide (at_ a j = at_ b j)) = false := Zfx hi (decide_eq_false h3)
    refine Zby [(8, .dec true)] [0, 1, 5, 25] [] [slI false a, slI false b, I i, Bv true] [] [(0 : Int) ≤ i ∧ i < (a.length : Int), (0 : Int) ≤ i ∧ i < (b.length : Int), (at_ a i.toNat) ≠ (at_ b i.toNat)] hB ⟨⟨(by omega), (by omega)⟩, ⟨(by omega), (by omega)⟩, h3, trivial⟩ ?_
    refine Zac ?_
    refine Zbc rfl ?_
    refine aR [] [4] [] [Bv false] [] [] hB trivial ?_
    refine Zax ?_
    refine Zat (Zai (Zai (Zat (Zai ?_))))
    refine Zba hB (Bv false) (by kernel_rfl) (.inl (by first | (simp [Zin, hlen]; done) | (unfold Zin; rw [hall]; simp [hlen]))) rfl (fun _ => trivial)
   have hall : Zim a.length (fun j => decide (at_ a j = at_ b j)) = true := Zff (fun j hj => hall0 j (by omega))
   refine Zby [(3, .dec false)] [0, 1, 5, 14] [] [slI false a, slI false b, I i, Bv false] [] [¬ (i < (a.length : Int))] hB ⟨h2, trivial⟩ ?_
   refine Zac ?_
   refine Zay rfl ?_
   refine Zdn ?_
   refine Zas ?_
   refine Zas ?_
   refine Zbx ?_
   refine Zac ?_
   refine aR [] [4] [] [Bv true] [] [] hB trivial ?_
   refine Zax ?_
   refine Zba hB (Bv true) (by kernel_rfl) (.inl (by first | (simp [Zin, hlen]; done) | (unfold Zin; rw [hall]; simp [hlen]))) rfl (fun _ => trivial)
  have hlen : ¬ a.length = b.length := by omega
  refine Zby [(4, .dec true)] [0, 1, 10] [] [slI false a, slI false b, Bv true] [] [(a.length : Int) ≠ (b.length : Int)] hB ⟨h1, trivial⟩ ?_
  refine Zac ?_
  refine Zbc rfl ?_
  refine aR [] [4] [] [Bv false] [] [] hB trivial ?_
  refine Zax ?_
  refine Zai ?_
  refine Zba hB (Bv false) (by kernel_rfl) (.inl (by first | (simp [Zin, hlen]; done) | (unfold Zin; rw [hall]; simp [hlen]))) rfl (fun _ => trivial)
theorem Zcv (a : Perceptron) (b : Perceptron) : Con Tryz.prog 12 [Zae a, Zae b] true (Bv (Zla a b)) := by
  refine Zdc (fn := Tryz.f12) (nt := 60) Tryz.func12 rfl rfl rfl rfl (by simp [Zah, Zak, Zdd, Zer]) fun B hB => ?_
  refine Zcg (x := Zae a) 0 rfl (fun len_a => ?_)
  simp [Zdt, Zgj, cI, cLI, cS, fI, fLI, fS, slI, Zbg, slS] at len_a
  refine Zcg (x := Zae b) 1 rfl (fun len_b => ?_)
  simp [Zdt, Zgj, cI, cLI, cS, fI, fLI, fS, slI, Zbg, slS] at len_b
  refine aR [(0, .new 2), (1, .new 3)] [2, 3] [2, 3] [.ref 2 0, .ref 3 0] [some (Zag a), some (Zag b)] [] hB trivial ?_
  refine Zal ?_
  refine Zal ?_
  by_cases h1 : (a.Labels.length : Int) = (b.Labels.length : Int)
  ·have hl1 : a.Labels.length = b.Labels.length := by omega
   by_cases h2 : (a.Weights.length : Int) = (b.Weights.length : Int)
   ·have hl2 : a.Weights.length = b.Weights.length := by omega
    refine Zby [(6, .dec false), (14, .dec false)] [2, 3, 22] [2, 3] [.ref 2 0, .ref 3 0, Bv false] [some (Zag a), some (Zag b)] [¬ ((a.Labels.length : Int) ≠ (b.Labels.length : Int)), ¬ ((a.Weights.length : Int) ≠ (b.Weights.length : Int))] hB ⟨(fun hq => hq h1), (fun hq => hq h2), trivial⟩ ?_
    refine Zac ?_
    refine Zay rfl ?_
    refine Zbf ?_
    refine Zac ?_
    refine Zal ?_
    refine aR [] [2, 3, 5] [2, 3] [.ref 2 0, .ref 3 0, I 0] [some (Zag a), some (Zag b)] [] hB trivial ?_
    refine Zbo ?_
    refine Zdm (fun gn gσ => ∃ (i : Int), gn = ((a.Labels.length : Int) - i).toNat ∧ (0 ≤ i ∧ i ≤ (a.Labels.length : Int)) ∧ (∀ j : Nat, (j : Int) < i → decide (at_ a.Labels j = at_ b.Labels j) = true) ∧ gσ = mkS [(2, .ref 2 0), (3, .ref 3 0), (5, I i)] [(2, Zag a), (3, Zag b)]) (((a.Labels.length : Int) - 0).toNat) ⟨0, rfl, (by omega), (by intro j hj; omega), rfl⟩ (fun gn gσ hI => ?_)
    obtain ⟨i, rfl, hi0, hall0, rfl⟩ := hI
    refine Zal ?_
    refine Zal ?_
    by_cases h3 : i < (a.Labels.length : Int)
    ·have hi : i.toNat < a.Labels.length := by omega
     refine Zby [(4, .dec true)] [2, 3, 5, 27] [2, 3] [.ref 2 0, .ref 3 0, I i, Bv true] [some (Zag a), some (Zag b)] [i < (a.Labels.length : Int)] hB ⟨h3, trivial⟩ ?_
     refine Zac ?_
     refine Zbc rfl ?_
     refine Zbf ?_
     refine Zac ?_
     refine Zal ?_
     refine Zbo ?_
     refine Zal ?_
     by_cases h4 : (at_ a.Labels i.toNat) = (at_ b.Labels i.toNat)
     ·have hok : decide (at_ a.Labels i.toNat = at_ b.Labels i.toNat) = true := decide_eq_true h4
      refine Zby [(10, .dec false)] [2, 3, 5, 40] [2, 3] [.ref 2 0, .ref 3 0, I i, Bv false] [some (Zag a), some (Zag b)] [(0 : Int) ≤ i ∧ i < (a.Labels.length : Int), (0 : Int) ≤ i ∧ i < (b.Labels.length : Int), ¬ ((at_ a.Labels i.toNat) ≠ (at_ b.Labels i.toNat))] hB ⟨⟨(by omega), (by omega)⟩, ⟨(by omega), (by omega)⟩, (fun hq => hq h4), trivial⟩ ?_
      refine Zac ?_
      refine Zay rfl ?_
      refine Zbf ?_
      refine Zco 1 ?_
      refine Zac ?_
      refine Zby [] [2, 3, 5] [2, 3] [.ref 2 0, .ref 3 0, I (i + 1)] [some (Zag a), some (Zag b)] [inR .i64 (i + 1)] hB ⟨(Zam (by omega) (by omega)), trivial⟩ ?_
      exact Zcr _ (by omega) ⟨(i + 1), rfl, (by omega), (by intro j hj; by_cases ej : j = i.toNat; (subst ej; first | assumption | exact hok); exact hall0 j (by omega)), rfl⟩
     have hst : Zla a b = false := by unfold Zla Zin; rw [Zfx hi (decide_eq_false h4)]; simp
     refine Zby [(10, .dec true)] [2, 3, 5, 40] [2, 3] [.ref 2 0, .ref 3 0, I i, Bv true] [some (Zag a), some (Zag b)] [(0 : Int) ≤ i ∧ i < (a.Labels.length : Int), (0 : Int) ≤ i ∧ i < (b.Labels.length : Int), (at_ a.Labels i.toNat) ≠ (at_ b.Labels i.toNat)] hB ⟨⟨(by omega), (by omega)⟩, ⟨(by omega), (by omega)⟩, h4, trivial⟩ ?_
     refine Zac ?_
     refine Zbc rfl ?_
     refine aR [] [4] [] [Bv false] [] [] hB trivial ?_
     refine Zax ?_
     refine Zat (Zai (Zai (Zat (Zai ?_))))
     refine Zba hB (Bv false) (by kernel_rfl) (.inl (by exact congrArg Bv hst.symm)) rfl (fun _ => trivial)
    have hs1 : Zin a.Labels b.Labels = true := by unfold Zin; rw [decide_eq_true hl1, Zff (fun j hj => hall0 j (by omega))]; rfl
    refine Zby [(4, .dec false)] [2, 3, 5, 27] [2, 3] [.ref 2 0, .ref 3 0, I i, Bv false] [some (Zag a), some (Zag b)] [¬ (i < (a.Labels.length : Int))] hB ⟨h3, trivial⟩ ?_
    refine Zac ?_
    refine Zay rfl ?_
    refine Zdn ?_
    refine Zas ?_
    refine Zas ?_
    refine Zbx ?_
    refine Zac ?_
    refine Zal ?_
    refine aR [] [2, 3, 6] [2, 3] [.ref 2 0, .ref 3 0, I 0] [some (Zag a), some (Zag b)] [] hB trivial ?_
    refine Zbo ?_
    refine Zdm (fun gn gσ => ∃ (i' : Int), gn = ((a.Weights.length : Int) - i').toNat ∧ (0 ≤ i' ∧ i' ≤ (a.Weights.length : Int)) ∧ (∀ j : Nat, (j : Int) < i' → Zin (at_ a.Weights j) (at_ b.Weights j) = true) ∧ gσ = mkS [(2, .ref 2 0), (3, .ref 3 0), (6, I i')] [(2, Zag a), (3, Zag b)]) (((a.Weights.length : Int) - 0).toNat) ⟨0, rfl, (by omega), (by intro j hj; omega), rfl⟩ (fun gn gσ hI => ?_)
    obtain ⟨i', rfl, hj0, hall1, rfl⟩ := hI
    refine Zal ?_
    refine Zal ?_
    by_cases h5 : i' < (a.Weights.length : Int)
    ·have hi2 : i'.toNat < a.Weights.length := by omega
     refine Zby [(4, .dec true)] [2, 3, 6, 45] [2, 3] [.ref 2 0, .ref 3 0, I i', Bv true] [some (Zag a), some (Zag b)] [i' < (a.Weights.length : Int)] hB ⟨h5, trivial⟩ ?_
     refine Zac ?_
     refine Zbc rfl ?_
     refine Zbf ?_
     refine Zac ?_
     refine Zal ?_
     refine Zbo ?_
     refine Zal ?_
     rcases Bool.eq_false_or_eq_true (Zin (at_ a.Weights i'.toNat) (at_ b.Weights i'.toNat)) with h6 | h6
     ·have hok2 : Zin (at_ a.Weights i'.toNat) (at_ b.Weights i'.toNat) = true := h6
      refine Zby [(10, .call [(true, .any), (true, .any)] true (Bv true))] [2, 3, 6, 59] [2, 3] [.ref 2 0, .ref 3 0, I i', Bv false] [some (Zag a), some (Zag b)] [(0 : Int) ≤ i' ∧ i' < (a.Weights.length : Int), (0 : Int) ≤ i' ∧ i' < (b.Weights.length : Int), Con Tryz.prog 36 [slI false (at_ a.Weights i'.toNat), slI false (at_ b.Weights i'.toNat)] true (Bv true) ∧ True] hB ⟨⟨(by omega), (by omega)⟩, ⟨(by omega), (by omega)⟩, ⟨(Zaq h6 (Zqq (at_ a.Weights i'.toNat) (at_ b.Weights i'.toNat))), trivial⟩, trivial⟩ ?_
      refine Zac ?_
      refine Zay rfl ?_
      refine Zbf ?_
      refine Zco 3 ?_
      refine Zac ?_
      refine Zby [] [2, 3, 6] [2, 3] [.ref 2 0, .ref 3 0, I (i' + 1)] [some (Zag a), some (Zag b)] [inR .i64 (i' + 1)] hB ⟨(Zam (by omega) (by omega)), trivial⟩ ?_
      exact Zcr _ (by omega) ⟨(i' + 1), rfl, (by omega), (by intro j hj; by_cases ej : j = i'.toNat; (subst ej; exact hok2); exact hall1 j (by omega)), rfl⟩
     have hst : Zla a b = false := by unfold Zla; rw [Zfx hi2 (by simpa using h6)]; simp
     refine Zby [(10, .call [(true, .any), (true, .any)] true (Bv false))] [2, 3, 6, 59] [2, 3] [.ref 2 0, .ref 3 0, I i', Bv true] [some (Zag a), some (Zag b)] [(0 : Int) ≤ i' ∧ i' < (a.Weights.length : Int), (0 : Int) ≤ i' ∧ i' < (b.Weights.length : Int), Con Tryz.prog 36 [slI false (at_ a.Weights i'.toNat), slI false (at_ b.Weights i'.toNat)] true (Bv false) ∧ True] hB ⟨⟨(by omega), (by omega)⟩, ⟨(by omega), (by omega)⟩, ⟨(Zaq h6 (Zqq (at_ a.Weights i'.toNat) (at_ b.Weights i'.toNat))), trivial⟩, trivial⟩ ?_
     refine Zac ?_
     refine Zbc rfl ?_
     refine aR [] [4] [] [Bv false] [] [] hB trivial ?_
     refine Zax ?_
     refine Zat (Zai (Zai (Zat (Zai ?_))))
     refine Zba hB (Bv false) (by kernel_rfl) (.inl (by exact congrArg Bv hst.symm)) rfl (fun _ => trivial)
    have hst : Zla a b = true := by unfold Zla; rw [hs1, decide_eq_true hl2, Zff (fun j hj => hall1 j (by omega))]; rfl
    refine Zby [(4, .dec false)] [2, 3, 6, 45] [2, 3] [.ref 2 0, .ref 3 0, I i', Bv false] [some (Zag a), some (Zag b)] [¬ (i' < (a.Weights.length : Int))] hB ⟨h5, trivial⟩ ?_
    refine Zac ?_
    refine Zay rfl ?_
    refine Zdn ?_
    refine Zas ?_
    refine Zas ?_
    refine Zbx ?_
    refine Zac ?_
    refine aR [] [4] [] [Bv true] [] [] hB trivial ?_
    refine Zax ?_
    refine Zba hB (Bv true) (by kernel_rfl) (.inl (by exact congrArg Bv hst.symm)) rfl (fun _ => trivial)
   have hl2 : ¬ a.Weights.length = b.Weights.length := by omega
   have hst : Zla a b = false := by unfold Zla; rw [decide_eq_false hl2]; simp
   refine Zby [(6, .dec false), (14, .dec true)] [2, 3, 22] [2, 3] [.ref 2 0, .ref 3 0, Bv true] [some (Zag a), some (Zag b)] [¬ ((a.Labels.length : Int) ≠ (b.Labels.length : Int)), (a.Weights.length : Int) ≠ (b.Weights.length : Int)] hB ⟨(fun hq => hq h1), h2, trivial⟩ ?_
   refine Zac ?_
   refine Zbc rfl ?_
   refine aR [] [4] [] [Bv false] [] [] hB trivial ?_
   refine Zax ?_
   refine Zai ?_
   refine Zba hB (Bv false) (by kernel_rfl) (.inl (by exact congrArg Bv hst.symm)) rfl (fun _ => trivial)
  have hl1 : ¬ a.Labels.length = b.Labels.length := by omega
  have hst : Zla a b = false := by unfold Zla Zin; rw [decide_eq_false hl1]; rfl
  refine Zby [(6, .dec true)] [2, 3, 22] [2, 3] [.ref 2 0, .ref 3 0, Bv true] [some (Zag a), some (Zag b)] [(a.Labels.length : Int) ≠ (b.Labels.length : Int)] hB ⟨h1, trivial⟩ ?_
  refine Zac ?_
  refine Zbc rfl ?_
  refine aR [] [4] [] [Bv false] [] [] hB trivial ?_
  refine Zax ?_
  refine Zai ?_
  refine Zba hB (Bv false) (by kernel_rfl) (.inl (by exact congrArg Bv hst.symm)) rfl (fun _ => trivial)
theorem Zet (p : Perceptron) (ok_ : ∀ y ∈ p.Labels, y.size ≤ 9223372036854775807) : Con Tryz.prog 13 [Zae p] true (Sv (Zeq p)) := by
  refine Zdc (fn := Tryz.f13) (nt := 6) Tryz.func13 rfl rfl rfl rfl (by simp [Zah, Zak, Zdd, Zer]) fun B hB => ?_
  refine Zcg (x := Zae p) 0 rfl (fun len_p => ?_)
  simp [Zdt, Zgj, cI, cLI, cS, fI, fLI, fS, slI, Zbg, slS] at len_p
  refine aR [(0, .new 1)] [1] [1] [.ref 1 0] [some (Zag p)] [] hB trivial ?_
  refine Zal ?_
  refine Zal ?_
  rcases Bool.eq_false_or_eq_true (Zbb p) with h1 | h1
  ·refine Zby [(0, .call [(false, .ptr false [slS false p.Labels, Zbg false p.Weights])] true (Bv true))] [1, 4] [1] [.ref 1 0, Bv false] [some (Zag p)] [Con Tryz.prog 35 [.ptr false [slS false p.Labels, Zbg false p.Weights]] true (Bv true) ∧ ((false = true → true = true) ∧ AV.idsL [slS false p.Labels, Zbg false p.Weights] = [] ∧ ((false = true → false = true) ∧ 1 = 1 ∧ p.Labels.length = p.Labels.length ∧ ∀ i_, i_ < p.Labels.length → (fS p.Labels) i_ = (fS p.Labels) i_ ∨ (AV.idsL ((fS p.Labels) i_) = [] ∧ leL (fun _ => none) false ((fS p.Labels) i_) ((fS p.Labels) i_))) ∧ ((false = true → false = true) ∧ 1 = 1 ∧ p.Weights.length = p.Weights.length ∧ ∀ i_, i_ < p.Weights.length → (fLI false p.Weights) i_ = (fLI false p.Weights) i_ ∨ (AV.idsL ((fLI false p.Weights) i_) = [] ∧ leL (fun _ => none) false ((fLI false p.Weights) i_) ((fLI false p.Weights) i_))) ∧ ([] : List AV) = []) ∧ True] hB ⟨⟨(Zaq h1 (Zew p ok_)), ⟨(fun h => by cases h), rfl, ⟨⟨(fun h => by cases h), rfl, rfl, fun i _ => .inl rfl⟩, ⟨⟨(fun h => by cases h), rfl, rfl, fun i _ => .inl rfl⟩, rfl⟩⟩⟩, trivial⟩, trivial⟩ ?_
   refine Zac ?_
   refine Zay rfl ?_
   refine Zbf ?_
   refine Zac ?_
   refine aR [(0, .call [(false, .ptr false [slS false p.Labels, Zbg false p.Weights])] true (Sv (Zeq p)))] [2] [] [Sv (Zeq p)] [] [Con Tryz.prog 30 [.ptr false [slS false p.Labels, Zbg false p.Weights]] true (Sv (Zeq p)) ∧ ((false = true → true = true) ∧ AV.idsL [slS false p.Labels, Zbg false p.Weights] = [] ∧ ((false = true → false = true) ∧ 1 = 1 ∧ p.Labels.length = p.Labels.length ∧ ∀ i_, i_ < p.Labels.length → (fS p.Labels) i_ = (fS p.Labels) i_ ∨ (AV.idsL ((fS p.Labels) i_) = [] ∧ leL (fun _ => none) false ((fS p.Labels) i_) ((fS p.Labels) i_))) ∧ ((false = true → false = true) ∧ 1 = 1 ∧ p.Weights.length = p.Weights.length ∧ ∀ i_, i_ < p.Weights.length → (fLI false p.Weights) i_ = (fLI false p.Weights) i_ ∨ (AV.idsL ((fLI false p.Weights) i_) = [] ∧ leL (fun _ => none) false ((fLI false p.Weights) i_) ((fLI false p.Weights) i_))) ∧ ([] : List AV) = []) ∧ True] hB ⟨⟨(Zqm p (by assumption)), ⟨(fun h => by cases h), rfl, ⟨⟨(fun h => by cases h), rfl, rfl, fun i _ => .inl rfl⟩, ⟨⟨(fun h => by cases h), rfl, rfl, fun i _ => .inl rfl⟩, rfl⟩⟩⟩, trivial⟩, trivial⟩ ?_
   refine Zax ?_
   refine Zba hB (Sv (Zeq p)) (by kernel_rfl) (.inl rfl) rfl (fun _ => trivial)
  refine Zby [(0, .call [(false, .ptr false [slS false p.Labels, Zbg false p.Weights])] true (Bv false))] [1, 4] [1] [.ref 1 0, Bv true] [some (Zag p)] [Con Tryz.prog 35 [.ptr false [slS false p.Labels, Zbg false p.Weights]] true (Bv false) ∧ ((false = true → true = true) ∧ AV.idsL [slS false p.Labels, Zbg false p.Weights] = [] ∧ ((false = true → false = true) ∧ 1 = 1 ∧ p.Labels.length = p.Labels.length ∧ ∀ i_, i_ < p.Labels.length → (fS p.Labels) i_ = (fS p.Labels) i_ ∨ (AV.idsL ((fS p.Labels) i_) = [] ∧ leL (fun _ => none) false ((fS p.Labels) i_) ((fS p.Labels) i_))) ∧ ((false = true → false = true) ∧ 1 = 1 ∧ p.Weights.length = p.Weights.length ∧ ∀ i_, i_ < p.Weights.length → (fLI false p.Weights) i_ = (fLI false p.Weights) i_ ∨ (AV.idsL ((fLI false p.Weights) i_) = [] ∧ leL (fun _ => none) false ((fLI false p.Weights) i_) ((fLI false p.Weights) i_))) ∧ ([] : List AV) = []) ∧ True] hB ⟨⟨(Zaq h1 (Zew p ok_)), ⟨(fun h => by cases h), rfl, ⟨⟨(fun h => by cases h), rfl, rfl, fun i _ => .inl rfl⟩, ⟨⟨(fun h => by cases h), rfl, rfl, fun i _ => .inl rfl⟩, rfl⟩⟩⟩, trivial⟩, trivial⟩ ?_
  refine Zac ?_
  refine Zbc rfl ?_
  refine aR [] [2] [] [Sv (⟨#[]⟩ : ByteArray)] [] [] hB trivial ?_
  refine Zax ?_
  refine Zai ?_
  refine Zba hB (Sv (⟨#[]⟩ : ByteArray)) (by kernel_rfl) (.inl (by first | rfl | (rw [Zeq, if_neg (by simp [*])]; done))) rfl (fun _ => trivial)
theorem Zfs (p : Perceptron) (ok : ∀ y ∈ p.Labels, y.size ≤ 9223372036854775807) : Con Tryz.prog 15 [Zae p] true (Bv (Zbb p)) := by
  refine Zdc (fn := Tryz.f15) (nt := 4) Tryz.func15 rfl rfl rfl rfl (by simp [Zah, Zak, Zdd, Zer]) fun B hB => ?_
  refine Zcg (x := Zae p) 0 rfl (fun len_p => ?_)
  simp [Zdt, Zgj, cI, cLI, cS, fI, fLI, fS, slI, Zbg, slS] at len_p
  refine aR [(0, .new 1)] [1] [1] [.ref 1 0] [some (Zag p)] [] hB trivial ?_
  refine aR [(0, .call [(false, .ptr false [slS false p.Labels, Zbg false p.Weights])] true (Bv (Zbb p)))] [2] [] [Bv (Zbb p)] [] [Con Tryz.prog 35 [.ptr false [slS false p.Labels, Zbg false p.Weights]] true (Bv (Zbb p)) ∧ ((false = true → true = true) ∧ AV.idsL [slS false p.Labels, Zbg false p.Weights] = [] ∧ ((false = true → false = true) ∧ 1 = 1 ∧ p.Labels.length = p.Labels.length ∧ ∀ i_, i_ < p.Labels.length → (fS p.Labels) i_ = (fS p.Labels) i_ ∨ (AV.idsL ((fS p.Labels) i_) = [] ∧ leL (fun _ => none) false ((fS p.Labels) i_) ((fS p.Labels) i_))) ∧ ((false = true → false = true) ∧ 1 = 1 ∧ p.Weights.length = p.Weights.length ∧ ∀ i_, i_ < p.Weights.length → (fLI false p.Weights) i_ = (fLI false p.Weights) i_ ∨ (AV.idsL ((fLI false p.Weights) i_) = [] ∧ leL (fun _ => none) false ((fLI false p.Weights) i_) ((fLI false p.Weights) i_))) ∧ ([] : List AV) = []) ∧ True] hB ⟨⟨(Zew p ok), ⟨(fun h => by cases h), rfl, ⟨⟨(fun h => by cases h), rfl, rfl, fun i _ => .inl rfl⟩, ⟨⟨(fun h => by cases h), rfl, rfl, fun i _ => .inl rfl⟩, rfl⟩⟩⟩, trivial⟩, trivial⟩ ?_
  refine Zax ?_
  refine Zba hB (Bv (Zbb p)) (by kernel_rfl) (.inl rfl) rfl (fun _ => trivial)
theorem Zos (p : Perceptron) (feats : List Feat) (ok : ∀ y ∈ p.Labels, y.size ≤ 9223372036854775807) : ∃ (v : List Int) (c : Int), ((v, c) = Zzt p feats) ∧ Con Tryz.prog 41 [Zae p, Zau false feats] true (.tup [slI true v, I c]) := by
  have hh : ∃ r : (List Int) × Int, (((r.1, r.2) = Zzt p feats) ∧ (True)) ∧ Zaz Tryz.prog 41 [Zae p, Zau false feats] (Zaf []) true (.tup [slI true r.1, I r.2]) (Zaf []) := by
    refine Zde (Φ := fun r : (List Int) × Int => ((r.1, r.2) = Zzt p feats) ∧ (True)) [] (fun r => []) (fn := Tryz.f41) (nt := 18) Tryz.func41 rfl rfl (args := [Zae p, Zau false feats]) rfl (Zbw (.inl ⟨rfl, by simp [Zak, Zah, Zdd, Zer]⟩) (Zbw (.inl ⟨rfl, Zef false _⟩) Zdb)) (res := fun r => .tup [slI true r.1, I r.2]) ?_
    refine xR [(0, .new 2)] [1, 2] [2] [Zau false feats, .ref 2 0] [some (Zag p)] [] trivial ?_
    refine Zap ?_
    refine Zap ?_
    rcases Bool.eq_false_or_eq_true (Zbb p) with h1 | h1
    ·rcases Bool.eq_false_or_eq_true (Zbp feats 384) with h2 | h2
     ·refine x_r [(1, .call [(true, .any)] true (Bv true)), (5, .call [(true, .any)] true (Bv true))] [1, 2, 13] [2] [Zau false feats, .ref 2 0, Bv false] [some (Zag p)] [Con Tryz.prog 14 [Zae p] true (Bv true) ∧ True, Con Tryz.prog 80 [Zau false feats] true (Bv true) ∧ True] ⟨⟨(Zaq h1 (Zbl p ok)), trivial⟩, ⟨(Zaq h2 (Zif feats)), trivial⟩, trivial⟩ ?_
      refine Zab ?_
      refine Zbe rfl ?_
      refine Zca ?_
      refine Zab ?_
      refine Zap ?_
      obtain ⟨v_1, hx1_0, hc1⟩ := Zqr feats (by assumption)
      have hinp := Ycu (by assumption) hx1_0
      have hiv := hx1_0
      obtain ⟨v_2, hx2_0, hc2⟩ := Zot p v_1 (by assumption) hinp
      have hsv := hx2_0
      have hsl : v_2.length = p.Weights.length := by rw [hsv, Zma]
      rw [hiv] at hsv
      refine x_r [(2, .call [(true, .any)] true (slI true v_1)), (3, .call [(true, .any), (false, slI false v_1)] true (slI true v_2))] [4, 5] [] [slI true v_2, I 0] [] [Con Tryz.prog 82 [Zau false feats] true (slI true v_1) ∧ True, Con Tryz.prog 81 [Zae p, slI false v_1] true (slI true v_2) ∧ ((false = true → true = true) ∧ 1 = 1 ∧ v_1.length = v_1.length ∧ ∀ i_, i_ < v_1.length → (fI v_1) i_ = (fI v_1) i_ ∨ (AV.idsL ((fI v_1) i_) = [] ∧ leL (fun _ => none) false ((fI v_1) i_) ((fI v_1) i_))) ∧ True] ⟨⟨hc1, trivial⟩, ⟨hc2, ⟨(fun h => by cases h), rfl, rfl, fun i _ => .inl rfl⟩, trivial⟩, trivial⟩ ?_
      refine Zab ?_
      refine Zcf ?_
      refine Zbn (v_2, 0) (show ((v_2, 0) = Zzt p feats) ∧ (True) from ⟨(by first | (rw [hsv]; exact (Zsm (by assumption) (by assumption)).symm) | exact (Zwn (by assumption)).symm | exact (Zwo (by assumption)).symm), trivial⟩) (trivial) (.tup [slI true v_2, I 0]) (by kernel_rfl) (.inl rfl) (fun _ => rfl) (fun _ => (by simp [Zak, Zah, Zpg]))
     refine x_r [(1, .call [(true, .any)] true (Bv true)), (5, .call [(true, .any)] true (Bv false))] [1, 2, 13] [2] [Zau false feats, .ref 2 0, Bv true] [some (Zag p)] [Con Tryz.prog 14 [Zae p] true (Bv true) ∧ True, Con Tryz.prog 80 [Zau false feats] true (Bv false) ∧ True] ⟨⟨(Zaq h1 (Zbl p ok)), trivial⟩, ⟨(Zaq h2 (Zif feats)), trivial⟩, trivial⟩ ?_
     refine Zab ?_
     refine Zbq rfl ?_
     refine xR [] [4, 5] [] [Zao, I 1] [] [] trivial ?_
     refine Zcf ?_
     refine Zbd ?_
     refine Zbn (([] : List Int), 1) (show ((([] : List Int), 1) = Zzt p feats) ∧ (True) from ⟨(by first | (rw [hsv]; exact (Zsm (by assumption) (by assumption)).symm) | exact (Zwn (by assumption)).symm | exact (Zwo (by assumption)).symm), trivial⟩) (trivial) (.tup [Zao, I 1]) (by kernel_rfl) (.inr ⟨⟨rfl, rfl⟩, ⟨rfl, rfl⟩⟩) (fun _ => rfl) (fun _ => (by simp [Zak, Zah, Zpg]))
    refine x_r [(1, .call [(true, .any)] true (Bv false))] [1, 2, 13] [2] [Zau false feats, .ref 2 0, Bv true] [some (Zag p)] [Con Tryz.prog 14 [Zae p] true (Bv false) ∧ True] ⟨⟨(Zaq h1 (Zbl p ok)), trivial⟩, trivial⟩ ?_
    refine Zab ?_
    refine Zbq rfl ?_
    refine xR [] [4, 5] [] [Zao, I 1] [] [] trivial ?_
    refine Zcf ?_
    refine Zbd ?_
    refine Zbn (([] : List Int), 1) (show ((([] : List Int), 1) = Zzt p feats) ∧ (True) from ⟨(by first | (rw [hsv]; exact (Zsm (by assumption) (by assumption)).symm) | exact (Zwn (by assumption)).symm | exact (Zwo (by assumption)).symm), trivial⟩) (trivial) (.tup [Zao, I 1]) (by kernel_rfl) (.inr ⟨⟨rfl, rfl⟩, ⟨rfl, rfl⟩⟩) (fun _ => rfl) (fun _ => (by simp [Zak, Zah, Zpg]))
  obtain ⟨⟨v, c⟩, ⟨hh0, _⟩, hc⟩ := hh
  exact ⟨v, c, hh0, hc⟩
theorem delI_ok {xs : List Int} {a b : Int} (h0 : 0 ≤ a) (hab : a ≤ b) (hb : b ≤ (xs.length : Int)) (h1 : 1 ≤ xs.length) : Ybj Tryz.prog 43 xs.length (xs.take a.toNat ++ xs.drop b.toNat).length (fI xs) (fI (xs.take a.toNat ++ xs.drop b.toNat)) a b :=
  del_mov (fun blk off cap i j zs w q1 q2 q3 q4 q5 => AnyG.slices_Delete_int Tryz.laysDel blk off cap i j zs w q1 q2 q3 q4 q5) h0 hab hb h1
theorem Znn (p : Perceptron) (feats : List Feat) (ok : ∀ y ∈ p.Labels, y.size ≤ 9223372036854775807) : ∃ (l : ByteArray) (m : Int) (c : Int), (((l, m), c) = Ycv p feats) ∧ Con Tryz.prog 16 [Zae p, Zau false feats] true (.tup [Sv l, I m, I c]) := by
  have hh : ∃ r : ByteArray × Int × Int, ((((r.1, r.2.1), r.2.2) = Ycv p feats) ∧ (True)) ∧ Zaz Tryz.prog 16 [Zae p, Zau false feats] (Zaf []) true (.tup [Sv r.1, I r.2.1, I r.2.2]) (Zaf []) := by
    refine Zde (Φ := fun r : ByteArray × Int × Int => (((r.1, r.2.1), r.2.2) = Ycv p feats) ∧ (True)) [] (fun r => []) (fn := Tryz.f16) (nt := 45) Tryz.func16 rfl rfl (args := [Zae p, Zau false feats]) rfl (Zbw (.inl ⟨rfl, by simp [Zak, Zah, Zdd, Zer]⟩) (Zbw (.inl ⟨rfl, Zef false _⟩) Zdb)) (res := fun r => .tup [Sv r.1, I r.2.1, I r.2.2]) ?_
    refine xR [(0, .new 2)] [1, 2] [2] [Zau false feats, .ref 2 0] [some (Zag p)] [] trivial ?_
    refine Zap ?_
    obtain ⟨v_1, c_1, hx1_0, hc1⟩ := Zos p feats ok
    have hsc := hx1_0
    refine x_r [(2, .call [(true, .any), (true, .any)] true (.tup [slI true v_1, I c_1]))] [2, 7, 8] [2] [.ref 2 0, slI true v_1, I c_1] [some (Zag p)] [Con Tryz.prog 41 [Zae p, Zau false feats] true (.tup [slI true v_1, I c_1]) ∧ True] ⟨⟨hc1, trivial⟩, trivial⟩ ?_
    refine Zab ?_
    refine Zap ?_
    refine Zap ?_
    by_cases h1 : c_1 = 0
    ·have hok := scoR_ok hsc h1
     have hsv := hok.2.2
     have hln := Zfi (Zcd.1 hok.1).1
     have hwl := (Zcd.1 hok.1).2.1
     have hsl : v_1.length = p.Weights.length := by rw [hsv, Zma]
     have hbi := Zjj (l := v_1) (by omega)
     refine x_r [(1, .dec false)] [2, 7, 8, 19] [2] [.ref 2 0, slI true v_1, I c_1, Bv false] [some (Zag p)] [¬ (c_1 ≠ 0)] ⟨(fun hq => hq h1), trivial⟩ ?_
     refine Zab ?_
     refine Zbe rfl ?_
     refine Zca ?_
     refine Zab ?_
     refine xR [(1, .call [(false, slI false v_1)] true (I (Zbk v_1)))] [2, 7, 9] [2] [.ref 2 0, slI true v_1, I (Zbk v_1)] [some (Zag p)] [Con Tryz.prog 42 [slI false v_1] true (I (Zbk v_1)) ∧ ((false = true → true = true) ∧ 1 = 1 ∧ v_1.length = v_1.length ∧ ∀ i_, i_ < v_1.length → (fI v_1) i_ = (fI v_1) i_ ∨ (AV.idsL ((fI v_1) i_) = [] ∧ leL (fun _ => none) false ((fI v_1) i_) ((fI v_1) i_))) ∧ True] ⟨⟨(Zuj v_1 (by omega)), ⟨(fun h => by cases h), rfl, rfl, fun i _ => .inl rfl⟩, trivial⟩, trivial⟩ ?_
     refine xR [] [2, 7, 9, 10] [2] [.ref 2 0, slI true v_1, I (Zbk v_1), I 0] [some (Zag p)] [] trivial ?_
     refine Zap ?_
     obtain ⟨out_2, hx2_0, hc2⟩ := Zuk v_1 (by omega)
     have hcl := hx2_0
     have hcll : out_2.length = v_1.length := by rw [hcl]
     refine x_r [(1, .lend [] [(8211, tAI out_2)] [(false, slI false v_1)] false (.arr 8211)), (5, .mov 8211 8411 out_2.length ((out_2.take (Zbk v_1).toNat ++ out_2.drop ((Zbk v_1) + 1).toNat).length) (fI out_2) (fI (out_2.take (Zbk v_1).toNat ++ out_2.drop ((Zbk v_1) + 1).toNat)) (Zbk v_1) ((Zbk v_1) + 1))] [2, 7, 9, 10, 11] [2, 8411] [.ref 2 0, slI true v_1, I (Zbk v_1), I 0, .arr 8411] [some (Zag p), some (tAI (out_2.take (Zbk v_1).toNat ++ out_2.drop ((Zbk v_1) + 1).toNat))] [Zaz Tryz.prog 44 [slI false v_1] (Zaf []) false (.arr 8211) (Zaf [(8211, tAI out_2)]) ∧ ((false = true → true = true) ∧ 1 = 1 ∧ v_1.length = v_1.length ∧ ∀ i_, i_ < v_1.length → (fI v_1) i_ = (fI v_1) i_ ∨ (AV.idsL ((fI v_1) i_) = [] ∧ leL (fun _ => none) false ((fI v_1) i_) ((fI v_1) i_))) ∧ True, inR .i64 ((Zbk v_1) + 1), (([.arr 8211, I (Zbk v_1), I ((Zbk v_1) + 1)] : List AV) = [.arr 8211, I (Zbk v_1), I ((Zbk v_1) + 1)]) ∧ ((tAI out_2 : Ob) = .arr 1 out_2.length (fI out_2)) ∧ Ybj Tryz.prog 43 out_2.length ((out_2.take (Zbk v_1).toNat ++ out_2.drop ((Zbk v_1) + 1).toNat).length) (fI out_2) (fI (out_2.take (Zbk v_1).toNat ++ out_2.drop ((Zbk v_1) + 1).toNat)) (Zbk v_1) ((Zbk v_1) + 1)] ⟨⟨hc2, ⟨(fun h => by cases h), rfl, rfl, fun i _ => .inl rfl⟩, trivial⟩, (Zam (by omega) (by omega)), ⟨rfl, rfl, delI_ok (by omega) (by omega) (by omega) (by omega)⟩, trivial⟩ ?_
     refine Zab ?_
     refine Zap ?_
     refine Zap ?_
     by_cases h2 : 0 < (((out_2.take (Zbk v_1).toNat ++ out_2.drop ((Zbk v_1) + 1).toNat).length) : Int)
     ·have hpos := h2
      have hrl : (out_2.take (Zbk v_1).toNat ++ out_2.drop ((Zbk v_1) + 1).toNat).length ≤ 12 := by rw [List.length_append, List.length_take, List.length_drop]; omega
      rw [hcl] at hpos
      have hsb := sc_bd hok.1 hok.2.1 (at_ v_1 (Zbk v_1).toNat) (by rw [← hsv]; exact Zct (by omega))
      refine x_r [(2, .dec true)] [2, 7, 9, 10, 11, 31] [2, 8411] [.ref 2 0, slI true v_1, I (Zbk v_1), I 0, .arr 8411, Bv true] [some (Zag p), some (tAI (out_2.take (Zbk v_1).toNat ++ out_2.drop ((Zbk v_1) + 1).toNat))] [0 < (((out_2.take (Zbk v_1).toNat ++ out_2.drop ((Zbk v_1) + 1).toNat).length) : Int)] ⟨h2, trivial⟩ ?_
      refine Zab ?_
      refine Zbq rfl ?_
      obtain ⟨v_3, hx3_0, hc3⟩ := Ycw (out_2.take (Zbk v_1).toNat ++ out_2.drop ((Zbk v_1) + 1).toNat) (by omega)
      have hmx := hx3_0
      have hmb := mx_bd hmx (Int.le_refl _) (fun x hx => sc_bd hok.1 hok.2.1 x (by rw [← hsv, ← hcl]; exact rest_mem hx))
      rw [hcl] at hmx
      have hmg := mg_two (by omega) hpos hmx
      refine x_r [(5, .call [(false, slI false (out_2.take (Zbk v_1).toNat ++ out_2.drop ((Zbk v_1) + 1).toNat))] true (I v_3))] [2, 9, 10] [2] [.ref 2 0, I (Zbk v_1), I ((at_ v_1 ((Zbk v_1).toNat)) - v_3)] [some (Zag p)] [(0 : Int) ≤ (Zbk v_1) ∧ (Zbk v_1) < (v_1.length : Int), Con Tryz.prog 45 [slI false (out_2.take (Zbk v_1).toNat ++ out_2.drop ((Zbk v_1) + 1).toNat)] true (I v_3) ∧ ((false = true → true = true) ∧ 1 = 1 ∧ ((out_2.take (Zbk v_1).toNat ++ out_2.drop ((Zbk v_1) + 1).toNat).length) = ((out_2.take (Zbk v_1).toNat ++ out_2.drop ((Zbk v_1) + 1).toNat).length) ∧ ∀ i_, i_ < ((out_2.take (Zbk v_1).toNat ++ out_2.drop ((Zbk v_1) + 1).toNat).length) → (fI (out_2.take (Zbk v_1).toNat ++ out_2.drop ((Zbk v_1) + 1).toNat)) i_ = (fI (out_2.take (Zbk v_1).toNat ++ out_2.drop ((Zbk v_1) + 1).toNat)) i_ ∨ (AV.idsL ((fI (out_2.take (Zbk v_1).toNat ++ out_2.drop ((Zbk v_1) + 1).toNat)) i_) = [] ∧ leL (fun _ => none) false ((fI (out_2.take (Zbk v_1).toNat ++ out_2.drop ((Zbk v_1) + 1).toNat)) i_) ((fI (out_2.take (Zbk v_1).toNat ++ out_2.drop ((Zbk v_1) + 1).toNat)) i_))) ∧ True, inR .i64 ((at_ v_1 ((Zbk v_1).toNat)) - v_3)] ⟨⟨(by omega), (by omega)⟩, ⟨hc3, ⟨(fun h => by cases h), rfl, rfl, fun i _ => .inl rfl⟩, trivial⟩, (Zam (by omega) (by omega)), trivial⟩ ?_
      refine Zab ?_
      refine xR [] [4, 5, 6] [] [Sv (at_ p.Labels ((Zbk v_1).toNat)), I ((at_ v_1 ((Zbk v_1).toNat)) - v_3), I 0] [] [(0 : Int) ≤ (Zbk v_1) ∧ (Zbk v_1) < (p.Labels.length : Int)] ⟨⟨(by omega), (by omega)⟩, trivial⟩ ?_
      refine Zcf ?_
      refine Zbn ((at_ p.Labels ((Zbk v_1).toNat)), ((at_ v_1 ((Zbk v_1).toNat)) - v_3), 0) (show ((((at_ p.Labels ((Zbk v_1).toNat)), ((at_ v_1 ((Zbk v_1).toNat)) - v_3)), 0) = Ycv p feats) ∧ (True) from ⟨(by first | exact hst.symm | (rw [Zsn hok.1 hok.2.1, ← hsv, ← hmg])), trivial⟩) (trivial) (.tup [Sv (at_ p.Labels ((Zbk v_1).toNat)), I ((at_ v_1 ((Zbk v_1).toNat)) - v_3), I 0]) (by kernel_rfl) (.inl rfl) (fun _ => rfl) (fun _ => (by simp [Zak, Zah]))
     have hpos := h2
     rw [hcl] at hpos
     have hmg := mg_one (l := v_1) (by omega) hpos
     refine x_r [(2, .dec false)] [2, 7, 9, 10, 11, 31] [2, 8411] [.ref 2 0, slI true v_1, I (Zbk v_1), I 0, .arr 8411, Bv false] [some (Zag p), some (tAI (out_2.take (Zbk v_1).toNat ++ out_2.drop ((Zbk v_1) + 1).toNat))] [¬ (0 < (((out_2.take (Zbk v_1).toNat ++ out_2.drop ((Zbk v_1) + 1).toNat).length) : Int))] ⟨h2, trivial⟩ ?_
     refine Zab ?_
     refine Zbe rfl ?_
     refine Zca ?_
     refine Zab ?_
     refine xR [] [4, 5, 6] [] [Sv (at_ p.Labels ((Zbk v_1).toNat)), I 0, I 0] [] [(0 : Int) ≤ (Zbk v_1) ∧ (Zbk v_1) < (p.Labels.length : Int)] ⟨⟨(by omega), (by omega)⟩, trivial⟩ ?_
     refine Zcf ?_
     refine Zbn ((at_ p.Labels ((Zbk v_1).toNat)), 0, 0) (show ((((at_ p.Labels ((Zbk v_1).toNat)), 0), 0) = Ycv p feats) ∧ (True) from ⟨(by first | exact hst.symm | (rw [Zsn hok.1 hok.2.1, ← hsv, ← hmg])), trivial⟩) (trivial) (.tup [Sv (at_ p.Labels ((Zbk v_1).toNat)), I 0, I 0]) (by kernel_rfl) (.inl rfl) (fun _ => rfl) (fun _ => (by simp [Zak, Zah]))
    have hst := clsR_no hsc h1
    refine x_r [(1, .dec true)] [2, 7, 8, 19] [2] [.ref 2 0, slI true v_1, I c_1, Bv true] [some (Zag p)] [c_1 ≠ 0] ⟨h1, trivial⟩ ?_
    refine Zab ?_
    refine Zbq rfl ?_
    refine xR [] [4, 5, 6] [] [Sv (⟨#[]⟩ : ByteArray), I 0, I c_1] [] [] trivial ?_
    refine Zcf ?_
    refine Zbd ?_
    refine Zbn ((⟨#[]⟩ : ByteArray), 0, c_1) (show ((((⟨#[]⟩ : ByteArray), 0), c_1) = Ycv p feats) ∧ (True) from ⟨(by first | exact hst.symm | (rw [Zsn hok.1 hok.2.1, ← hsv, ← hmg])), trivial⟩) (trivial) (.tup [Sv (⟨#[]⟩ : ByteArray), I 0, I c_1]) (by kernel_rfl) (.inl rfl) (fun _ => rfl) (fun _ => (by simp [Zak, Zah]))
  obtain ⟨⟨l, m, c⟩, ⟨hh0, _⟩, hc⟩ := hh
  exact ⟨l, m, c, hh0, hc⟩
theorem jn_words (l : ByteArray) (h : Zom l = true) : Yah (Zjg l) (Zjh l) = l := by
  have hp := Zjt 32 l
  have e : (Zjh l).map Zeb = (Zcs ⟨#[32]⟩ l).drop 1 := by
    unfold Zjh
    rw [List.map_map]
    conv => rhs; rw [← List.map_id ((Zcs ⟨#[32]⟩ l).drop 1)]
    refine List.map_congr_left fun w hw => ?_
    obtain ⟨j, hj, q⟩ := List.getElem_of_mem hw
    rw [List.length_drop] at hj
    have := Zhh h hj
    have e2 : at_ (Zcs ⟨#[32]⟩ l) (j + 1) = w := by rw [← q, Zez (by omega)]; simp [Nat.add_comm]
    rw [e2] at this
    exact dcB_dec this
  have e3 : Zjg l :: (Zcs ⟨#[32]⟩ l).drop 1 = Zcs ⟨#[32]⟩ l := by
    unfold Zjg
    match hq : Zcs ⟨#[32]⟩ l, hp with
    | x :: r, _ => rfl
  unfold Yah
  rw [e, e3]
  exact Zwf 32 l.size l (Nat.le_refl _)
theorem words_pc {l : ByteArray} {ws : List Int} (hl : Zci l = true) (hw : ∀ x ∈ ws, -1000000000000000000 < x ∧ x < 1000000000000000000) (hn : noB 32 l) : Zcs ⟨#[32]⟩ (Yah l ws) = l :: ws.map Zeb := by
  unfold Yah
  refine Znd (c := 32) (by simp) fun y hy => ?_
  rcases List.mem_cons.1 hy with rfl | hy
  · exact hn
  · obtain ⟨x, _, rfl⟩ := List.mem_map.1 hy
    exact Zyo (by decide) x
theorem Ycx {l : ByteArray} (hl : Zci l = true) : noB 32 l ∧ noB 10 l := by
  simp only [Zci, Bool.and_eq_true, decide_eq_true_eq] at hl
  obtain ⟨c, rfl⟩ := one_byte hl.1
  have e : bAt ⟨#[c]⟩ 0 = (c.toNat : Int) := rfl
  rw [e] at hl
  have h2 := hl.2
  simp only [Zfk, decide_eq_true_eq] at h2
  constructor <;> · unfold noB; intro q; simp at q; subst q; revert h2; decide
theorem Zou {p : Perceptron} (h : Zbb p = true) : lnR (Zeq p) = (Zfr p, true) := by
  have hn := Zkk h
  have e : Zeq p = Zek (Zfr p) (Zfr p).length := by rw [Zdy]; exact if_pos h
  have hne : Zfr p ≠ [] := fun q => by have := Zdy p; rw [q] at this; simp at this; omega
  obtain ⟨k, hk, e2⟩ := Zlz hne
  have hq := Zcd.1 h
  unfold lnR
  rw [e]
  rw [if_neg (by rw [hk]; exact Zul), if_pos (Ycy hne), e2, Zsj]
  congr 1
  refine Znd (c := 10) hne fun y hy => ?_
  obtain ⟨j, hj, rfl⟩ := List.mem_map.1 hy
  rw [List.mem_range] at hj
  unfold Yah
  refine noB_join (by simp [noB]) fun z hz => ?_
  rcases List.mem_cons.1 hz with rfl | hz
  · exact (Ycx (Zem hq.1 hj)).2
  · obtain ⟨x, _, rfl⟩ := List.mem_map.1 hz
    exact Zyo (by decide) x
theorem Ycz {p : Perceptron} (h : Zbb p = true) : Zln (Zfr p) = p ∧ ∀ l ∈ Zfr p, Zom l = true := by
  have hn := Zkk h
  have hq := Zcd.1 h
  have hw : ∀ k, k < p.Labels.length → Zcs ⟨#[32]⟩ (Yah (at_ p.Labels k) (at_ p.Weights k)) = at_ p.Labels k :: (at_ p.Weights k).map Zeb := fun k hk => words_pc (Zem hq.1 hk) (Zqn (Zcu hq.2.2 (by omega))) (Ycx (Zem hq.1 hk)).1
  constructor
  · have e1 : (Zfr p).map Zjg = p.Labels := by
      refine Yda (by rw [List.length_map, Zdy]) fun j hj => ?_
      rw [List.length_map, Zdy] at hj
      rw [Zov (by rw [Zdy]; exact hj), Zkz hj]
      unfold Zjg
      rw [hw j hj]; rfl
    have e2 : (Zfr p).map Zjh = p.Weights := by
      refine Yda (by rw [List.length_map, Zdy]; omega) fun j hj => ?_
      rw [List.length_map, Zdy] at hj
      rw [Zov (by rw [Zdy]; exact hj), Zkz hj]
      unfold Zjh
      rw [hw j hj, List.drop_succ_cons, List.drop_zero, List.map_map]
      conv => rhs; rw [← List.map_id (at_ p.Weights j)]
      exact List.map_congr_left fun x hx => dcN_num (Zqn (Zcu hq.2.2 (by omega)) x hx)
    unfold Zln
    rw [e1, e2]
  · intro l hl
    obtain ⟨k, hk, rfl⟩ := List.mem_map.1 hl
    rw [List.mem_range] at hk
    unfold Zom
    rw [hw k hk]
    refine Zff fun j hj => ?_
    simp only [List.length_cons, List.length_map, Nat.add_sub_cancel] at hj
    have e : at_ (at_ p.Labels k :: (at_ p.Weights k).map Zeb) (j + 1) = Zeb (at_ (at_ p.Weights k) j) := by
      rw [← Zov (f := Zeb) hj]; simp [at_]
    rw [e]
    exact dcB_num (Zqn (Zcu hq.2.2 (by omega)) _ (Zct hj))
theorem rp_tx {p : Perceptron} (h : Zbb p = true) : rpI (Zeq p) = (p, true) := by
  have h1 := Zou h
  have h2 := (Ycz h).1
  have e : Zln (lnR (Zeq p)).1 = p := by rw [h1]; exact h2
  rw [Zwj ⟨by rw [h1], by rw [e]; exact h, by rw [e]⟩, e]
theorem rp_eq (s : ByteArray) : rpI s = rsP s := by
  rcases Zwg s with ⟨hl, hr⟩ | ⟨hl, hr⟩
  · by_cases hc : rsC (Zcs ⟨#[10]⟩ s)
    · rw [Yco hc]
      have e : Zln (lnR s).1 = Zln ((Zcs ⟨#[10]⟩ s).take ((Zcs ⟨#[10]⟩ s).length - 1)) := by rw [hr]
      rw [Zwj ⟨by rw [hr], by rw [e]; exact hc.2.2.2, ?_⟩, e]
      rw [e]
      generalize hT : (Zcs ⟨#[10]⟩ s).take ((Zcs ⟨#[10]⟩ s).length - 1) = T at *
      have hok := hc.2.2.2
      rw [hT] at hok
      have e1 : Zfr (Zln T) = T := by
        refine Yda (by rw [Zdy]; show (T.map Zjg).length = _; rw [List.length_map]) fun j hj => ?_
        rw [Zdy] at hj
        have hj2 : j < T.length := by have : (Zln T).Labels.length = T.length := List.length_map _; omega
        rw [Zkz hj]
        show Yah (at_ (T.map Zjg) j) (at_ (T.map Zjh) j) = _
        rw [Zov hj2, Zov hj2]
        refine jn_words _ ?_
        have h5 := hc.2.2.1 j (by have := congrArg List.length hT; rw [List.length_take] at this; omega)
        rwa [← Zue (Zcs ⟨#[10]⟩ s) (show j < (Zcs ⟨#[10]⟩ s).length - 1 by have := congrArg List.length hT; rw [List.length_take] at this; omega), hT] at h5
      have e2 : Zeq (Zln T) = Zek (Zfr (Zln T)) (Zfr (Zln T)).length := by rw [Zdy]; exact if_pos hok
      rw [e2, e1]
      exact linesX_T hr
    · rw [Zqj hc]
      refine Zqi fun q => hc ?_
      have e : Zln (lnR s).1 = Zln ((Zcs ⟨#[10]⟩ s).take ((Zcs ⟨#[10]⟩ s).length - 1)) := by rw [hr]
      rw [e] at q
      have hn := Zkk q.2.1
      have hnum := (Ycz q.2.1).2
      have hsp := Zou q.2.1
      rw [q.2.2, hr] at hsp
      have hT := congrArg Prod.fst hsp
      simp only at hT
      have hlen := congrArg List.length hT
      rw [Zdy, List.length_take] at hlen
      refine ⟨hl, by omega, fun i hi => ?_, q.2.1⟩
      rw [← Zue (Zcs ⟨#[10]⟩ s) hi, hT]
      exact hnum _ (Zct (by rw [Zdy]; omega))
  · rw [Zqj fun q => hl q.1]
    exact Zqi fun q => by rw [hr] at q; exact Bool.false_ne_true q.1
theorem pcTx_or (p : Perceptron) : (Zbb p = true ∧ ¬ Zeq p = ⟨#[]⟩) ∨ (Zbb p = false ∧ Zeq p = ⟨#[]⟩) := by
  cases h : Zbb p with
  | false => exact .inr ⟨rfl, by unfold Zeq; rw [h]; rfl⟩
  | true =>
    refine .inl ⟨rfl, fun e => ?_⟩
    have hn := Zkk h
    have q : Zeq p = Zek (Zfr p) p.Labels.length := if_pos h
    rw [q, show p.Labels.length = (p.Labels.length - 1) + 1 from by omega] at e
    exact Zul e
theorem rp_no0 : rpI ⟨#[]⟩ = (⟨[], []⟩, false) := by
  refine Zqi fun q => ?_
  have h := q.2.1
  have e : lnR ⟨#[]⟩ = ([], true) := if_pos rfl
  rw [e] at h
  have := Zkk h
  have e2 : (Zln []).Labels.length = 0 := rfl
  simp only at this
  omega
theorem cls_one {p : Perceptron} {s : Sample} {l : ByteArray} {m c : Int} (h1 : Zbb p = true) (h2 : Zbp s.Feats 384 = true) (e : ((l, m), c) = Ycv p s.Feats) : l = at_ p.Labels (Zbk (scR p.Weights (Zed s.Feats))).toNat ∧ c = 0 := by
  unfold Ycv at e
  rw [if_pos ⟨h1, h2⟩] at e
  exact ⟨congrArg (fun q => q.1.1) e, congrArg (fun q => q.2) e⟩
end Go.Proofs.YtblhhmcplocepaaGreatDoor.Ax
