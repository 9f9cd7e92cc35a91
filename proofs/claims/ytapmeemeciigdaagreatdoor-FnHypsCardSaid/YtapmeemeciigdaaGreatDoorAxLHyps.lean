/- The statement FnHyps: contracts of what it reaches, and its proof. No conditions. -/
import Derived.Test.YtapmeemeciigdaaGreatDoorAxLHyps1
import Derived.LaidMore
import Derived.Lay
import Derived.Lib.IndexBytes
import Derived.Lib.ItoaNum
import Derived.Lib.ParseIntBCases
import Derived.Lib.SplitLaws
import Derived.OpenShut
import Derived.SevenTiedAt
import Derived.Stop.Joined
import Derived.Test.YtapmeemeciigdaaGreatDoorAxBd
import Derived.Test.YtapmeemeciigdaaGreatDoorAxGr
import Derived.Test.YtapmeemeciigdaaGreatDoorAxGw
import Derived.Test.YtapmeemeciigdaaGreatDoorAxS
import Derived.Test.YtapmeemeciigdaaGreatDoorAxSF
import Derived.Test.YtapmeemeciigdaaGreatDoorGwHypShelf
import Derived.Test.YtapmeemeciigdaaGreatDoorSfHypShelf
namespace Go.Proofs.YtapmeemeciigdaaGreatDoor.Ax
open Go.RowKit Go.ChangeShapes Go.WideShapes
set_option linter.unusedVariables false
set_option linter.unusedSimpArgs false


def jrest (sep : ByteArray) : List ByteArray → ByteArray
  | [] => ⟨#[]⟩
  | y :: l => (sep ++ y) ++ jrest sep l
def jnB (sep : ByteArray) : List ByteArray → ByteArray
  | [] => ⟨#[]⟩
  | x :: l => x ++ jrest sep l
theorem ba_nilT (x : ByteArray) : x ++ (⟨#[]⟩ : ByteArray) = x := by apply ByteArray.ext; simp
theorem nil_ba (x : ByteArray) : (⟨#[]⟩ : ByteArray) ++ x = x := by apply ByteArray.ext; simp
theorem jrest_snoc (sep y : ByteArray) : ∀ l, jrest sep (l ++ [y]) = (jrest sep l ++ sep) ++ y
  | [] => by simp only [List.nil_append, jrest, ba_nilT, nil_ba]
  | x :: l => by simp only [List.cons_append, jrest, jrest_snoc sep y l, ByteArray.append_assoc]
theorem jnB_snoc {sep y : ByteArray} {l : List ByteArray} (h : l ≠ []) : jnB sep (l ++ [y]) = (jnB sep l ++ sep) ++ y := by
  cases l with
  | nil => exact absurd rfl h
  | cons x l => simp only [List.cons_append, jnB, jrest_snoc, ByteArray.append_assoc]
def jnZ (xs : List ByteArray) : Nat → Nat
  | 0 => 0
  | k + 1 => jnZ xs k + (at_ xs k).size
theorem jnZ_cons (x : ByteArray) (xs : List ByteArray) : ∀ k, jnZ (x :: xs) (k + 1) = x.size + jnZ xs k
  | 0 => by simp [jnZ, at_]
  | k + 1 => by rw [jnZ, jnZ_cons x xs k, jnZ]; simp [at_]; omega
theorem jnZ_mono (xs : List ByteArray) {k m : Nat} (h : k ≤ m) : jnZ xs k ≤ jnZ xs m := by
  induction m with
  | zero => have : k = 0 := by omega
            subst this; exact Nat.le_refl _
  | succ m ih =>
    by_cases e : k = m + 1
    · subst e; exact Nat.le_refl _
    · have := ih (by omega); rw [jnZ]; omega
theorem jrest_size (sep : ByteArray) : ∀ xs, (jrest sep xs).size = jnZ xs xs.length + sep.size * xs.length
  | [] => rfl
  | x :: l => by rw [jrest, ByteArray.size_append, ByteArray.size_append, jrest_size sep l, List.length_cons, jnZ_cons, Nat.mul_succ]; omega
theorem jnB_size (sep : ByteArray) {xs : List ByteArray} (h : xs ≠ []) : (jnB sep xs).size = jnZ xs xs.length + sep.size * (xs.length - 1) := by
  cases xs with
  | nil => exact absurd rfl h
  | cons x l => rw [jnB, ByteArray.size_append, jrest_size, List.length_cons, jnZ_cons, Nat.add_sub_cancel]; omega
def noB (c : UInt8) (s : ByteArray) : Prop := c ∉ s.data.toList
def splC (c : UInt8) (s : ByteArray) : List ByteArray := Lib.splitB ⟨#[c]⟩ 0 (Lib.countB s ⟨#[c]⟩) s
theorem indexByte_none (c : UInt8) : ∀ l : List UInt8, c ∉ l → Lib.indexByte l c = -1
  | [], _ => rfl
  | b :: l, h => by
    have h1 : ¬ b = c := fun e => h (by simp [e])
    have h2 := indexByte_none c l (fun e => h (by simp [e]))
    simp [Lib.indexByte, h1, h2]
theorem indexByte_hit (c : UInt8) (r : List UInt8) : ∀ l : List UInt8, c ∉ l → Lib.indexByte (l ++ c :: r) c = (l.length : Int)
  | [], _ => by simp [Lib.indexByte]
  | b :: l, h => by
    have h1 : ¬ b = c := fun e => h (by simp [e])
    have h2 := indexByte_hit c r l (fun e => h (by simp [e]))
    have h3 : ¬ (l.length : Int) = -1 := by omega
    simp [Lib.indexByte, h1, h2, h3]
theorem spl_none {c : UInt8} {s : ByteArray} (h : noB c s) : splC c s = [s] := by
  have hi : Lib.indexB s ⟨#[c]⟩ = -1 := by
    show Lib.index s.data.toList [c] = -1
    rw [Lib.index_one, indexByte_none c _ h]
  unfold splC
  rw [Lib.countB_miss _ _ hi, Lib.splitB_zero]
theorem ext_left (x y : ByteArray) : (x ++ y).extract 0 x.size = x := by
  exact ByteArray.extract_append_eq_left rfl
theorem ext_right (x y : ByteArray) : (x ++ y).extract x.size (x ++ y).size = y := by
  exact ByteArray.extract_append_eq_right rfl ByteArray.size_append
theorem spl_cons {c : UInt8} {x r : ByteArray} (h : noB c x) : splC c ((x ++ ⟨#[c]⟩) ++ r) = x :: splC c r := by
  have hi : Lib.indexB ((x ++ ⟨#[c]⟩) ++ r) ⟨#[c]⟩ = ((x.size : Nat) : Int) := by
    show Lib.index ((x ++ ⟨#[c]⟩) ++ r).data.toList [c] = _
    rw [Lib.index_one]
    have : ((x ++ ⟨#[c]⟩) ++ r).data.toList = x.data.toList ++ c :: r.data.toList := by simp
    rw [this, indexByte_hit c _ _ h]
    rfl
  have hz : (x ++ (⟨#[c]⟩ : ByteArray)).size = x.size + (⟨#[c]⟩ : ByteArray).size := by rw [ByteArray.size_append]
  have he : ((x ++ ⟨#[c]⟩) ++ r).extract (x.size + (⟨#[c]⟩ : ByteArray).size) ((x ++ ⟨#[c]⟩) ++ r).size = r := by
    rw [← hz]; exact ext_right _ _
  have hl : ((x ++ ⟨#[c]⟩) ++ r).extract 0 (x.size + 0) = x := by
    rw [Nat.add_zero, ByteArray.append_assoc]; exact ext_left _ _
  unfold splC
  rw [Lib.countB_hit _ _ _ (show 1 ≤ (⟨#[c]⟩ : ByteArray).size from Nat.le_refl 1) hi, he, Nat.add_comm 1, Lib.splitB_hit _ _ _ _ _ hi, he, hl]
theorem spl_join {c : UInt8} : ∀ {xs : List ByteArray}, xs ≠ [] → (∀ x ∈ xs, noB c x) → splC c (jnB ⟨#[c]⟩ xs) = xs
  | [], h, _ => absurd rfl h
  | [x], _, h => by
    rw [jnB, jrest, ba_nilT]; exact spl_none (h x (by simp))
  | x :: y :: l, _, h => by
    have e : jnB ⟨#[c]⟩ (x :: y :: l) = (x ++ ⟨#[c]⟩) ++ jnB ⟨#[c]⟩ (y :: l) := by simp only [jnB, jrest, ByteArray.append_assoc]
    rw [e, spl_cons (h x (by simp)), spl_join (by simp) fun z hz => h z (by simp [hz])]
theorem decDigits_bytes : ∀ (k u : Nat), u < k → ∀ b ∈ Lib.decDigits u, 48 ≤ b.toNat ∧ b.toNat ≤ 57
  | 0, u, h, _, _ => absurd h (Nat.not_lt_zero _)
  | k + 1, u, h, b, hb => by
    rw [Lib.decDigits] at hb
    split at hb
    · have hb := List.mem_singleton.1 hb; subst hb; rw [UInt8.toNat_ofNat']; omega
    · rcases List.mem_append.1 hb with hb | hb
      · exact decDigits_bytes k (u / 10) (by omega) b hb
      · have hb := List.mem_singleton.1 hb; subst hb; rw [UInt8.toNat_ofNat']; omega
theorem decB_bytes (n : Int) : ∀ b ∈ (decB n).data.toList, b.toNat = 45 ∨ (48 ≤ b.toNat ∧ b.toNat ≤ 57) := fun b hb => by
  have hb : b ∈ Lib.itoa n := by simpa [decB] using hb
  unfold Lib.itoa at hb
  split at hb
  · rcases List.mem_cons.1 hb with e | hb
    · subst e; exact .inl rfl
    · exact .inr (decDigits_bytes _ _ (Nat.lt_succ_self _) b hb)
  · exact .inr (decDigits_bytes _ _ (Nat.lt_succ_self _) b hb)
theorem decB_noB {c : UInt8} (hc : c.toNat < 45 ∨ 57 < c.toNat) (n : Int) : noB c (decB n) := fun h => by
  have := decB_bytes n c h
  omega
theorem decDigits_ne (u : Nat) : Lib.decDigits u ≠ [] := by rw [Lib.decDigits]; split <;> simp
theorem puM_app (M : Nat) : ∀ (l r : List UInt8) (acc : Nat), Lib.parseUintM M acc (l ++ r) = match Lib.parseUintM M acc l with | .ok v => Lib.parseUintM M v r | .«syntax» => .«syntax» | .range => .range
  | [], r, acc => rfl
  | c :: l, r, acc => by
    simp only [List.cons_append, Lib.parseUintM]
    split
    · split
      · rfl
      · split
        · rfl
        · exact puM_app M l r _
    · rfl
theorem puM_dec {M : Nat} (hM : 1000000000000000000 ≤ M) : ∀ (k u : Nat), u < k → u < 1000000000000000000 → Lib.parseUintM M 0 (Lib.decDigits u) = .ok u
  | 0, u, h, _ => absurd h (Nat.not_lt_zero _)
  | k + 1, u, h, h2 => by
    rw [Lib.decDigits]
    split
    · rename_i h3
      have e : (UInt8.ofNat (48 + u)).toNat = 48 + u := by rw [UInt8.toNat_ofNat']; omega
      simp only [Lib.parseUintM, e]
      rw [if_pos (by omega), if_neg (by omega), if_neg (by omega)]
      simp
    · rename_i h3
      rw [puM_app, puM_dec hM k (u / 10) (by omega) (by omega)]
      have e : (UInt8.ofNat (48 + u % 10)).toNat = 48 + u % 10 := by rw [UInt8.toNat_ofNat']; omega
      simp only [Lib.parseUintM, e]
      rw [if_pos (by omega), if_neg (by omega), if_neg (by omega)]
      congr 1
      omega
theorem parse_dec {n : Int} (h : -1000000000000000000 < n ∧ n < 1000000000000000000) : Lib.parseIntB 64 (decB n).data.toList = .ok n := by
  have e : (decB n).data.toList = Lib.itoa n := by simp [decB]
  rw [e]
  unfold Lib.itoa
  split
  · rename_i h0
    rw [Lib.parseIntB_minus]
    unfold Lib.parseUintB
    rw [if_neg (decDigits_ne _), puM_dec (by decide) _ _ (Nat.lt_succ_self _) (by omega)]
    simp only [Lib.signedC]
    rw [if_neg (by omega)]
    congr 1
    omega
  · rename_i h0
    obtain ⟨c, r, hc⟩ : ∃ c r, Lib.decDigits n.toNat = c :: r := by
      cases h : Lib.decDigits n.toNat with
      | nil => exact absurd h (decDigits_ne _)
      | cons c r => exact ⟨c, r, rfl⟩
    have hb := decDigits_bytes _ n.toNat (Nat.lt_succ_self _) c (by rw [hc]; simp)
    rw [hc, Lib.parseIntB_plain 64 c r (by omega) (by omega), ← hc]
    unfold Lib.parseUintB
    rw [if_neg (decDigits_ne _), puM_dec (by decide) _ _ (Nat.lt_succ_self _) (by omega)]
    simp only [Lib.signlessC]
    rw [if_neg (by omega)]
    congr 1
    omega

theorem con_of_calls_sl {P : Program} {f : FuncId} {vals : List Value} {n : Nat} {T : TypeId} {cs : Array Value} {g : Nat → Value} (hn : n ≤ maxLen) (hc : ∀ i, i < n → cs[i]? = some (g i) ∧ (g i).oneCell' = true)
    (h : ∀ w, WX w → Calls P f vals.toArray w fun e w' => e = .returned (.slice (some ⟨w.heap.size, 0, none⟩) n n) ∧ w' = w.alloc (.cells cs T)) : Con P f (vals.map .val) true (.sl true 1 n fun i => [.val (g i)]) := by
  intro B vals' hbo hm hr
  have : vals' = vals := by
    have hl := hr.1
    simp at hl
    apply List.ext_getElem hl.symm
    intro i h1 h2
    have := hr.2 i (.val vals[i]) vals'[i] (by simp [List.getElem?_map, List.getElem?_eq_getElem h2]) (List.getElem?_eq_getElem h1)
    generalize vals[i] = x at *
    generalize vals'[i] = y at *
    cases this with | tree _ _ h => cases h; rfl
  subst this
  refine (h B.w0 (hm.glob _ (Kept.refl _ _))).mono ?_
  rintro e w' ⟨rfl, rfl⟩
  have hk : Kept B.w0 (fun _ => False) (B.w0.alloc (.cells cs T)) := ⟨rfl, rfl, rfl, by simp, fun k hk _ => Go.heap_alloc_old _ _ hk⟩
  have hnew := heap_alloc_new B.w0 (.cells cs T)
  refine ⟨_, B.κ0, rfl, hm.world hk, .tree _ _ (.sl true 1 n _ B.w0.heap.size 0 n (fun i _ => g i) ⟨(Array.getElem?_eq_some_iff.1 hnew).1, ⟨fun _ => .inl (Nat.le_refl _), fun h => absurd (.inl (Nat.le_refl _)) h⟩, fun i hi => absurd rfl hi⟩ (Nat.le_refl _) hn (fun _ _ => rfl) (fun i j hi hj => ?_) fun i j u hi hu => ?_)⟩
  · have : j = 0 := by omega
    subst this
    refine ⟨?_, (hc i hi).2⟩
    have := (hc i hi).1
    rw [Lib.cell_of_heap hnew]
    simpa using this
  · cases j with
    | zero => simp at hu; subst hu; exact .val _
    | succ j => simp at hu
theorem splB_length {sep s : ByteArray} (h1 : sep.size = 1) : (Lib.splitB sep 0 (Lib.countB s sep) s).length = Lib.countB s sep + 1 := Lib.splitB_all sep (by omega) 0 _ s rfl


def jok (sep : ByteArray) (xs : List ByteArray) : Prop := sep.size ≤ 8 ∧ xs.length ≤ 100000 ∧ (xs ≠ [] → jnZ xs xs.length + sep.size * (xs.length - 1) ≤ 1000000000)
theorem jok_room {s n : Nat} (hs : s ≤ 8) (hn : 1 ≤ n ∧ n ≤ 100000) : (s : Int) < (9223372036854775807 : Int) / (n : Int) := by
  have h : (9 : Int) ≤ (9223372036854775807 : Int) / (n : Int) := by
    rw [Int.le_ediv_iff_mul_le (by omega)]
    omega
  omega
theorem jnZ_at (xs : List ByteArray) {k : Nat} : jnZ xs (k + 1) = jnZ xs k + (at_ xs k).size := rfl
theorem jnB_one (sep : ByteArray) {xs : List ByteArray} (h : xs.length = 1) : jnB sep xs = at_ xs 0 := by
  match xs, h with
  | [x], _ => simp [jnB, jrest, ba_nilT, at_]
theorem jnB_take {sep : ByteArray} {xs : List ByteArray} {k : Nat} (h : k + 1 < xs.length) : jnB sep (xs.take (k + 2)) = (jnB sep (xs.take (k + 1)) ++ sep) ++ at_ xs (k + 1) := by
  rw [show xs.take (k + 2) = xs.take (k + 1) ++ [at_ xs (k + 1)] from by rw [List.take_succ_eq_append_getElem h, at_eq h], jnB_snoc]
  intro e
  have h2 : (xs.take (k + 1)).length = k + 1 := by rw [List.length_take]; omega
  rw [e] at h2
  simp at h2
theorem jnB_take1 {sep : ByteArray} {xs : List ByteArray} (h : 1 ≤ xs.length) : jnB sep (xs.take 1) = at_ xs 0 := by
  have e : (xs.take 1).length = 1 := by simp; omega
  rw [jnB_one sep e]
  simp [at_]


-- strings.Join
theorem join_ok (xs : List ByteArray) (sep : ByteArray) (ok : jok sep xs) : Con Tryz.prog 27 [slS false xs, Sv sep] true (Sv (jnB sep xs)) := by
  refine fn_ok (fn := Tryz.f27) (nt := 75) Tryz.func27 rfl rfl rfl rfl (by simp [taggedL, tagged, tagS]) fun B hB => ?_
  refine aw_lens (x := slS false xs) 0 rfl (fun len_xs => ?_)
  simp [LenOK, LenL, cS, fS, slS] at len_xs
  refine aR [] [0, 1] [] [slS false xs, Sv sep] [] [] hB trivial ?_
  refine aw_seq ?_
  refine aR [] [0, 1, 12] [] [slS false xs, Sv sep, I (xs.length : Int)] [] [] hB trivial ?_
  refine aw_block ?_
  refine aw_seq ?_
  by_cases h1 : (xs.length : Int) = 0
  ·have he : xs = [] := List.length_eq_zero_iff.1 (by omega)
   refine aw_r [(0, .dec true)] [0, 1, 12, 13] [] [slS false xs, Sv sep, I (xs.length : Int), Bv true] [] [(xs.length : Int) = 0] hB ⟨h1, trivial⟩ ?_
   refine ae_then ?_
   refine aw_true rfl ?_
   refine aR [] [4] [] [Sv (⟨#[]⟩ : ByteArray)] [] [] hB trivial ?_
   refine aw_ret ?_
   refine ae_ret_block (ae_ret_then ?_)
   refine ae_ret hB (Sv (⟨#[]⟩ : ByteArray)) (by kernel_rfl) (.inl (by first | rfl | (rw [jnB_one _ he]; done) | (rw [htx]; done) | (rw [he]; rfl))) rfl (fun _ => trivial)
  refine aw_r [(0, .dec false)] [0, 1, 12, 13] [] [slS false xs, Sv sep, I (xs.length : Int), Bv false] [] [¬ ((xs.length : Int) = 0)] hB ⟨h1, trivial⟩ ?_
  refine ae_then ?_
  refine aw_false rfl ?_
  refine aw_seq ?_
  by_cases h2 : (xs.length : Int) = 1
  ·have he : xs.length = 1 := by omega
   refine aw_r [(0, .dec true)] [0, 1, 15] [] [slS false xs, Sv sep, Bv true] [] [(xs.length : Int) = 1] hB ⟨h2, trivial⟩ ?_
   refine ae_then ?_
   refine aw_true rfl ?_
   refine aR [] [4] [] [Sv (at_ xs 0)] [] [(0 : Int) ≤ 0 ∧ 0 < (xs.length : Int)] hB ⟨⟨(by omega), (by omega)⟩, trivial⟩ ?_
   refine aw_ret ?_
   refine ae_ret_block (ae_ret_then ?_)
   refine ae_ret hB (Sv (at_ xs 0)) (by kernel_rfl) (.inl (by first | rfl | (rw [jnB_one _ he]; done) | (rw [htx]; done) | (rw [he]; rfl))) rfl (fun _ => trivial)
  have ok3 := ok.2.2 (List.ne_nil_of_length_pos (by omega))
  have okl := ok.2.1
  have oks := ok.1
  obtain ⟨M, hM⟩ : ∃ M : Nat, sep.size * (xs.length - 1) = M := ⟨_, rfl⟩
  rw [hM] at ok3
  have hMi : (sep.size : Int) * ((xs.length : Int) - 1) = (M : Int) := by rw [← hM, Int.natCast_mul, Int.natCast_sub (by omega)]; rfl
  refine aw_r [(0, .dec false)] [0, 1, 15] [] [slS false xs, Sv sep, Bv false] [] [¬ ((xs.length : Int) = 1)] hB ⟨h2, trivial⟩ ?_
  refine ae_then ?_
  refine aw_false rfl ?_
  refine aw_skip ?_
  refine ae_block 0 ?_
  refine ae_then ?_
  refine aR [] [0, 1, 5] [] [slS false xs, Sv sep, I 0] [] [] hB trivial ?_
  refine aw_seq ?_
  refine aw_seq ?_
  by_cases h3 : 0 < (sep.size : Int)
  ·refine aw_r [(2, .dec true)] [0, 1, 5, 22] [] [slS false xs, Sv sep, I 0, Bv true] [] [0 < (sep.size : Int)] hB ⟨h3, trivial⟩ ?_
   refine ae_then ?_
   refine aw_true rfl ?_
   refine aw_seq ?_
   refine aR [(5, .nn), (6, .dec false)] [0, 1, 5, 29] [] [slS false xs, Sv sep, I 0, Bv false] [] [inR .i64 ((xs.length : Int) - 1), (0 : Int) ≤ 9223372036854775807 ∧ (0 : Int) < ((xs.length : Int) - 1) ∧ inR .i64 9223372036854775807, ¬ ((9223372036854775807 / ((xs.length : Int) - 1)) ≤ (sep.size : Int))] hB ⟨(inR_i64 (by omega) (by omega)), ⟨(by omega), (by omega), (inR_i64 (by omega) (by omega))⟩, (by have q := jok_room (s := sep.size) (n := xs.length - 1) ok.1 (by have := ok.2.1; omega); have e : ((xs.length - 1 : Nat) : Int) = (xs.length : Int) - 1 := (by omega); rw [e] at q; omega), trivial⟩ ?_
   refine aw_false rfl ?_
   refine aw_skip ?_
   refine ae_then ?_
   refine aw_r [] [0, 1, 5] [] [slS false xs, Sv sep, I (0 + ((sep.size : Int) * ((xs.length : Int) - 1)))] [] [inR .i64 ((xs.length : Int) - 1), inR .i64 ((sep.size : Int) * ((xs.length : Int) - 1)), inR .i64 (0 + ((sep.size : Int) * ((xs.length : Int) - 1)))] hB ⟨(inR_i64 (by omega) (by omega)), (inR_i64 (by omega) (by omega)), (inR_i64 (by omega) (by omega)), trivial⟩ ?_
   refine ae_then ?_
   refine aw_seq ?_
   refine aR [] [0, 1, 5, 39, 40, 41] [] [slS false xs, Sv sep, I (0 + ((sep.size : Int) * ((xs.length : Int) - 1))), slS false xs, I (xs.length : Int), I 0] [] [] hB trivial ?_
   refine aw_block ?_
   refine aw_loop (fun gn gσ => ∃ (n : Int) (k : Int), gn = ((xs.length : Int) - k).toNat ∧ (0 ≤ k ∧ k ≤ (xs.length : Int)) ∧ (n = (M : Int) + (jnZ xs k.toNat : Int)) ∧ gσ = mkS [(0, slS false xs), (1, Sv sep), (5, I n), (39, slS false xs), (40, I (xs.length : Int)), (41, I k)] []) (((xs.length : Int) - 0).toNat) ⟨(0 + ((sep.size : Int) * ((xs.length : Int) - 1))), 0, rfl, (by omega), (by show _ = (M : Int) + ((0 : Nat) : Int); omega), rfl⟩ (fun gn gσ hI => ?_)
   obtain ⟨n, k, rfl, hk, hn, rfl⟩ := hI
   refine aw_seq ?_
   by_cases h4 : k < (xs.length : Int)
   ·have hi : k.toNat < xs.length := by omega
    have hsm := jnZ_at xs (k := k.toNat)
    have hmo := jnZ_mono xs (show k.toNat + 1 ≤ xs.length from hi)
    have hks : (k + 1).toNat = k.toNat + 1 := by omega
    refine aw_r [(0, .dec true)] [0, 1, 5, 39, 40, 41, 42] [] [slS false xs, Sv sep, I n, slS false xs, I (xs.length : Int), I k, Bv true] [] [k < (xs.length : Int)] hB ⟨h4, trivial⟩ ?_
    refine ae_then ?_
    refine aw_seq ?_
    refine aw_true rfl ?_
    refine aw_skip ?_
    refine ae_then ?_
    refine aw_seq ?_
    refine aw_block ?_
    refine aR [] [0, 1, 5, 7, 39, 40, 41] [] [slS false xs, Sv sep, I n, Sv (at_ xs k.toNat), slS false xs, I (xs.length : Int), I k] [] [(0 : Int) ≤ k ∧ k < (xs.length : Int)] hB ⟨⟨(by omega), (by omega)⟩, trivial⟩ ?_
    refine aw_seq ?_
    refine aR [(4, .dec false)] [0, 1, 5, 7, 39, 40, 41, 49] [] [slS false xs, Sv sep, I n, Sv (at_ xs k.toNat), slS false xs, I (xs.length : Int), I k, Bv false] [] [inR .i64 (9223372036854775807 - n), ¬ ((9223372036854775807 - n) < ((at_ xs k.toNat).size : Int))] hB ⟨(inR_i64 (by omega) (by omega)), (by omega), trivial⟩ ?_
    refine aw_false rfl ?_
    refine aw_skip ?_
    refine ae_then ?_
    refine aw_r [] [0, 1, 5, 39, 40, 41] [] [slS false xs, Sv sep, I (n + ((at_ xs k.toNat).size : Int)), slS false xs, I (xs.length : Int), I k] [] [inR .i64 (n + ((at_ xs k.toNat).size : Int))] hB ⟨(inR_i64 (by omega) (by omega)), trivial⟩ ?_
    refine ae_block 2 ?_
    refine ae_then ?_
    refine aw_r [] [0, 1, 5, 39, 40, 41] [] [slS false xs, Sv sep, I (n + ((at_ xs k.toNat).size : Int)), slS false xs, I (xs.length : Int), I (k + 1)] [] [inR .i64 (k + 1)] hB ⟨(inR_i64 (by omega) (by omega)), trivial⟩ ?_
    exact ae_again _ (by omega) ⟨(n + ((at_ xs k.toNat).size : Int)), (k + 1), rfl, (by omega), (by rw [hks]; omega), rfl⟩
   have hke : k.toNat = xs.length := by omega
   rw [hke] at hn
   have hj1 := jnB_take1 (sep := sep) (xs := xs) (by omega)
   have hs1 := jnZ_mono xs (show 1 ≤ xs.length from by omega)
   have hz0 : (⟨#[]⟩ : ByteArray).size = 0 := rfl
   have hs0 : jnZ xs 1 = (at_ xs 0).size := by simp [jnZ]
   refine aw_r [(0, .dec false)] [0, 1, 5, 39, 40, 41, 42] [] [slS false xs, Sv sep, I n, slS false xs, I (xs.length : Int), I k, Bv false] [] [¬ (k < (xs.length : Int))] hB ⟨h4, trivial⟩ ?_
   refine ae_then ?_
   refine aw_seq ?_
   refine aw_false rfl ?_
   refine aw_exit ?_
   refine ae_exit_then ?_
   refine ae_exit_then ?_
   refine ae_exit_same ?_
   refine ae_then ?_
   refine aR [(0, .newb 8 60016 5)] [0, 1, 5, 8] [8, 60016] [slS false xs, Sv sep, I n, .ref 8 0] [some (.bld 80 60016), some (.buf 5 false (⟨#[]⟩ : ByteArray))] [] hB trivial ?_
   refine aR [(1, .bw 8 60016 60017 (.int .i64 n) true (⟨#[]⟩ : ByteArray))] [0, 1, 8] [8, 60017] [slS false xs, Sv sep, .ref 8 0] [some (.bld 80 60017), some (.buf 5 true ((⟨#[]⟩ : ByteArray) ++ (⟨#[]⟩ : ByteArray)))] [([.ref 8 0, I n] : List AV) = [.ref 8 0, I n] ∧ BwOK Tryz.prog 47 80 5 (.int .i64 n) false (⟨#[]⟩ : ByteArray) true (⟨#[]⟩ : ByteArray)] hB ⟨⟨rfl, bg_ok (by omega) (by omega)⟩, trivial⟩ ?_
   refine aR [(3, .bw 8 60017 60016 (.string (at_ xs 0)) true (at_ xs 0))] [0, 1, 8] [8, 60016] [slS false xs, Sv sep, .ref 8 0] [some (.bld 80 60016), some (.buf 5 true (((⟨#[]⟩ : ByteArray) ++ (⟨#[]⟩ : ByteArray)) ++ (at_ xs 0)))] [(0 : Int) ≤ 0 ∧ 0 < (xs.length : Int), ([.ref 8 0, Sv (at_ xs 0)] : List AV) = [.ref 8 0, Sv (at_ xs 0)] ∧ BwOK Tryz.prog 48 80 5 (.string (at_ xs 0)) true ((⟨#[]⟩ : ByteArray) ++ (⟨#[]⟩ : ByteArray)) true (at_ xs 0)] hB ⟨⟨(by omega), (by omega)⟩, ⟨rfl, bw_ok (by first | omega | (simp only [ByteArray.size_append]; omega) | (simp only [ByteArray.size_append, hat]; omega))⟩, trivial⟩ ?_
   refine aw_seq ?_
   refine aR [] [1, 8, 63, 64, 65] [8, 60016] [Sv sep, .ref 8 0, .sl false 1 ((xs.length : Int).toNat - 1) (cutF 1 (fS xs)), I (((xs.length : Int).toNat - 1 : Nat) : Int), I 0] [some (.bld 80 60016), some (.buf 5 true (((⟨#[]⟩ : ByteArray) ++ (⟨#[]⟩ : ByteArray)) ++ (at_ xs 0)))] [(0 : Int) ≤ 1 ∧ (1 : Int) ≤ (xs.length : Int) ∧ (xs.length : Int) ≤ (xs.length : Int)] hB ⟨⟨(by omega), (by omega), (by omega)⟩, trivial⟩ ?_
   refine aw_block ?_
   refine aw_loop (fun gn gσ => ∃ (j : Int) (tx : ByteArray), gn = ((xs.length : Int) - j).toNat ∧ (0 ≤ j ∧ j + 1 ≤ (xs.length : Int)) ∧ (tx = jnB sep (xs.take (j.toNat + 1))) ∧ (tx.size ≤ jnZ xs (j.toNat + 1) + 8 * j.toNat) ∧ gσ = mkS [(1, Sv sep), (8, .ref 8 0), (63, .sl false 1 ((xs.length : Int).toNat - 1) (cutF 1 (fS xs))), (64, I (((xs.length : Int).toNat - 1 : Nat) : Int)), (65, I j)] [(8, .bld 80 60016), (60016, .buf 5 true tx)]) (((xs.length : Int) - 0).toNat) ⟨0, (((⟨#[]⟩ : ByteArray) ++ (⟨#[]⟩ : ByteArray)) ++ (at_ xs 0)), rfl, (by omega), (by show _ = jnB sep (xs.take 1); rw [hj1, nil_ba, nil_ba]), (by show _ ≤ jnZ xs 1 + _; simp only [ByteArray.size_append]; omega), rfl⟩ (fun gn gσ hI => ?_)
   obtain ⟨j, tx, rfl, hj0, htx, hts, rfl⟩ := hI
   refine aw_seq ?_
   by_cases h5 : j < (((xs.length : Int).toNat - 1 : Nat) : Int)
   ·have hj : j.toNat + 1 < xs.length := by omega
    have hsj := jnZ_at xs (k := j.toNat + 1)
    have hmj := jnZ_mono xs (show j.toNat + 1 + 1 ≤ xs.length from by omega)
    have hmj2 := jnZ_mono xs (show j.toNat + 1 ≤ xs.length from by omega)
    have hjs : (j + 1).toNat = j.toNat + 1 := by omega
    have hjt := jnB_take (sep := sep) hj
    have hat : at_ xs (1 + j.toNat) = at_ xs (j.toNat + 1) := by rw [Nat.add_comm]
    refine aw_r [(0, .dec true)] [1, 8, 63, 64, 65, 66] [8, 60016] [Sv sep, .ref 8 0, .sl false 1 ((xs.length : Int).toNat - 1) (cutF 1 (fS xs)), I (((xs.length : Int).toNat - 1 : Nat) : Int), I j, Bv true] [some (.bld 80 60016), some (.buf 5 true tx)] [j < (((xs.length : Int).toNat - 1 : Nat) : Int)] hB ⟨h5, trivial⟩ ?_
    refine ae_then ?_
    refine aw_seq ?_
    refine aw_true rfl ?_
    refine aw_skip ?_
    refine ae_then ?_
    refine aw_seq ?_
    refine aw_block ?_
    refine aR [] [1, 8, 10, 63, 64, 65] [8, 60016] [Sv sep, .ref 8 0, Sv (at_ xs (1 + j.toNat)), .sl false 1 ((xs.length : Int).toNat - 1) (cutF 1 (fS xs)), I (((xs.length : Int).toNat - 1 : Nat) : Int), I j] [some (.bld 80 60016), some (.buf 5 true tx)] [(0 : Int) ≤ j ∧ j < (((xs.length : Int).toNat - 1 : Nat) : Int)] hB ⟨⟨(by omega), (by omega)⟩, trivial⟩ ?_
    refine aR [(1, .bw 8 60016 60017 (.string sep) true sep)] [1, 8, 10, 63, 64, 65] [8, 60017] [Sv sep, .ref 8 0, Sv (at_ xs (1 + j.toNat)), .sl false 1 ((xs.length : Int).toNat - 1) (cutF 1 (fS xs)), I (((xs.length : Int).toNat - 1 : Nat) : Int), I j] [some (.bld 80 60017), some (.buf 5 true (tx ++ sep))] [([.ref 8 0, Sv sep] : List AV) = [.ref 8 0, Sv sep] ∧ BwOK Tryz.prog 48 80 5 (.string sep) true tx true sep] hB ⟨⟨rfl, bw_ok (by first | omega | (simp only [ByteArray.size_append]; omega) | (simp only [ByteArray.size_append, hat]; omega))⟩, trivial⟩ ?_
    refine aw_r [(1, .bw 8 60017 60016 (.string (at_ xs (1 + j.toNat))) true (at_ xs (1 + j.toNat)))] [1, 8, 63, 64, 65] [8, 60016] [Sv sep, .ref 8 0, .sl false 1 ((xs.length : Int).toNat - 1) (cutF 1 (fS xs)), I (((xs.length : Int).toNat - 1 : Nat) : Int), I j] [some (.bld 80 60016), some (.buf 5 true ((tx ++ sep) ++ (at_ xs (1 + j.toNat))))] [([.ref 8 0, Sv (at_ xs (1 + j.toNat))] : List AV) = [.ref 8 0, Sv (at_ xs (1 + j.toNat))] ∧ BwOK Tryz.prog 48 80 5 (.string (at_ xs (1 + j.toNat))) true (tx ++ sep) true (at_ xs (1 + j.toNat))] hB ⟨⟨rfl, bw_ok (by first | omega | (simp only [ByteArray.size_append]; omega) | (simp only [ByteArray.size_append, hat]; omega))⟩, trivial⟩ ?_
    refine ae_block 4 ?_
    refine ae_then ?_
    refine aw_r [] [1, 8, 63, 64, 65] [8, 60016] [Sv sep, .ref 8 0, .sl false 1 ((xs.length : Int).toNat - 1) (cutF 1 (fS xs)), I (((xs.length : Int).toNat - 1 : Nat) : Int), I (j + 1)] [some (.bld 80 60016), some (.buf 5 true ((tx ++ sep) ++ (at_ xs (1 + j.toNat))))] [inR .i64 (j + 1)] hB ⟨(inR_i64 (by omega) (by omega)), trivial⟩ ?_
    exact ae_again _ (by omega) ⟨(j + 1), ((tx ++ sep) ++ (at_ xs (1 + j.toNat))), rfl, (by omega), (by rw [hjs, hjt, ← htx, hat]), (by rw [hjs, hsj]; simp only [ByteArray.size_append, hat]; omega), rfl⟩
   have hje : j.toNat + 1 = xs.length := by omega
   rw [hje, List.take_length] at htx
   refine aw_r [(0, .dec false)] [1, 8, 63, 64, 65, 66] [8, 60016] [Sv sep, .ref 8 0, .sl false 1 ((xs.length : Int).toNat - 1) (cutF 1 (fS xs)), I (((xs.length : Int).toNat - 1 : Nat) : Int), I j, Bv false] [some (.bld 80 60016), some (.buf 5 true tx)] [¬ (j < (((xs.length : Int).toNat - 1 : Nat) : Int))] hB ⟨h5, trivial⟩ ?_
   refine ae_then ?_
   refine aw_seq ?_
   refine aw_false rfl ?_
   refine aw_exit ?_
   refine ae_exit_then ?_
   refine ae_exit_then ?_
   refine ae_exit_same ?_
   refine ae_then ?_
   refine aR [(0, .bs 8 60016)] [4] [] [Sv tx] [] [([.ref 8 0] : List AV) = [.ref 8 0] ∧ BsOK Tryz.prog 49 80 5] hB ⟨⟨rfl, bs_ok⟩, trivial⟩ ?_
   refine aw_ret ?_
   refine ae_ret hB (Sv tx) (by kernel_rfl) (.inl (by first | rfl | (rw [jnB_one _ he]; done) | (rw [htx]; done) | (rw [he]; rfl))) rfl (fun _ => trivial)
  have hM0 : M = 0 := by rw [← hM, show sep.size = 0 from by omega, Nat.zero_mul]
  refine aw_r [(2, .dec false)] [0, 1, 5, 22] [] [slS false xs, Sv sep, I 0, Bv false] [] [¬ (0 < (sep.size : Int))] hB ⟨h3, trivial⟩ ?_
  refine ae_then ?_
  refine aw_false rfl ?_
  refine aw_skip ?_
  refine ae_then ?_
  refine aw_seq ?_
  refine aR [] [0, 1, 5, 39, 40, 41] [] [slS false xs, Sv sep, I 0, slS false xs, I (xs.length : Int), I 0] [] [] hB trivial ?_
  refine aw_block ?_
  refine aw_loop (fun gn gσ => ∃ (n : Int) (k : Int), gn = ((xs.length : Int) - k).toNat ∧ (0 ≤ k ∧ k ≤ (xs.length : Int)) ∧ (n = (M : Int) + (jnZ xs k.toNat : Int)) ∧ gσ = mkS [(0, slS false xs), (1, Sv sep), (5, I n), (39, slS false xs), (40, I (xs.length : Int)), (41, I k)] []) (((xs.length : Int) - 0).toNat) ⟨0, 0, rfl, (by omega), (by show _ = (M : Int) + ((0 : Nat) : Int); omega), rfl⟩ (fun gn gσ hI => ?_)
  obtain ⟨n, k, rfl, hk, hn, rfl⟩ := hI
  refine aw_seq ?_
  by_cases h6 : k < (xs.length : Int)
  ·have hi : k.toNat < xs.length := by omega
   have hsm := jnZ_at xs (k := k.toNat)
   have hmo := jnZ_mono xs (show k.toNat + 1 ≤ xs.length from hi)
   have hks : (k + 1).toNat = k.toNat + 1 := by omega
   refine aw_r [(0, .dec true)] [0, 1, 5, 39, 40, 41, 42] [] [slS false xs, Sv sep, I n, slS false xs, I (xs.length : Int), I k, Bv true] [] [k < (xs.length : Int)] hB ⟨h6, trivial⟩ ?_
   refine ae_then ?_
   refine aw_seq ?_
   refine aw_true rfl ?_
   refine aw_skip ?_
   refine ae_then ?_
   refine aw_seq ?_
   refine aw_block ?_
   refine aR [] [0, 1, 5, 7, 39, 40, 41] [] [slS false xs, Sv sep, I n, Sv (at_ xs k.toNat), slS false xs, I (xs.length : Int), I k] [] [(0 : Int) ≤ k ∧ k < (xs.length : Int)] hB ⟨⟨(by omega), (by omega)⟩, trivial⟩ ?_
   refine aw_seq ?_
   refine aR [(4, .dec false)] [0, 1, 5, 7, 39, 40, 41, 49] [] [slS false xs, Sv sep, I n, Sv (at_ xs k.toNat), slS false xs, I (xs.length : Int), I k, Bv false] [] [inR .i64 (9223372036854775807 - n), ¬ ((9223372036854775807 - n) < ((at_ xs k.toNat).size : Int))] hB ⟨(inR_i64 (by omega) (by omega)), (by omega), trivial⟩ ?_
   refine aw_false rfl ?_
   refine aw_skip ?_
   refine ae_then ?_
   refine aw_r [] [0, 1, 5, 39, 40, 41] [] [slS false xs, Sv sep, I (n + ((at_ xs k.toNat).size : Int)), slS false xs, I (xs.length : Int), I k] [] [inR .i64 (n + ((at_ xs k.toNat).size : Int))] hB ⟨(inR_i64 (by omega) (by omega)), trivial⟩ ?_
   refine ae_block 2 ?_
   refine ae_then ?_
   refine aw_r [] [0, 1, 5, 39, 40, 41] [] [slS false xs, Sv sep, I (n + ((at_ xs k.toNat).size : Int)), slS false xs, I (xs.length : Int), I (k + 1)] [] [inR .i64 (k + 1)] hB ⟨(inR_i64 (by omega) (by omega)), trivial⟩ ?_
   exact ae_again _ (by omega) ⟨(n + ((at_ xs k.toNat).size : Int)), (k + 1), rfl, (by omega), (by rw [hks]; omega), rfl⟩
  have hke : k.toNat = xs.length := by omega
  rw [hke] at hn
  have hj1 := jnB_take1 (sep := sep) (xs := xs) (by omega)
  have hs1 := jnZ_mono xs (show 1 ≤ xs.length from by omega)
  have hz0 : (⟨#[]⟩ : ByteArray).size = 0 := rfl
  have hs0 : jnZ xs 1 = (at_ xs 0).size := by simp [jnZ]
  refine aw_r [(0, .dec false)] [0, 1, 5, 39, 40, 41, 42] [] [slS false xs, Sv sep, I n, slS false xs, I (xs.length : Int), I k, Bv false] [] [¬ (k < (xs.length : Int))] hB ⟨h6, trivial⟩ ?_
  refine ae_then ?_
  refine aw_seq ?_
  refine aw_false rfl ?_
  refine aw_exit ?_
  refine ae_exit_then ?_
  refine ae_exit_then ?_
  refine ae_exit_same ?_
  refine ae_then ?_
  refine aR [(0, .newb 8 60016 5)] [0, 1, 5, 8] [8, 60016] [slS false xs, Sv sep, I n, .ref 8 0] [some (.bld 80 60016), some (.buf 5 false (⟨#[]⟩ : ByteArray))] [] hB trivial ?_
  refine aR [(1, .bw 8 60016 60017 (.int .i64 n) true (⟨#[]⟩ : ByteArray))] [0, 1, 8] [8, 60017] [slS false xs, Sv sep, .ref 8 0] [some (.bld 80 60017), some (.buf 5 true ((⟨#[]⟩ : ByteArray) ++ (⟨#[]⟩ : ByteArray)))] [([.ref 8 0, I n] : List AV) = [.ref 8 0, I n] ∧ BwOK Tryz.prog 47 80 5 (.int .i64 n) false (⟨#[]⟩ : ByteArray) true (⟨#[]⟩ : ByteArray)] hB ⟨⟨rfl, bg_ok (by omega) (by omega)⟩, trivial⟩ ?_
  refine aR [(3, .bw 8 60017 60016 (.string (at_ xs 0)) true (at_ xs 0))] [0, 1, 8] [8, 60016] [slS false xs, Sv sep, .ref 8 0] [some (.bld 80 60016), some (.buf 5 true (((⟨#[]⟩ : ByteArray) ++ (⟨#[]⟩ : ByteArray)) ++ (at_ xs 0)))] [(0 : Int) ≤ 0 ∧ 0 < (xs.length : Int), ([.ref 8 0, Sv (at_ xs 0)] : List AV) = [.ref 8 0, Sv (at_ xs 0)] ∧ BwOK Tryz.prog 48 80 5 (.string (at_ xs 0)) true ((⟨#[]⟩ : ByteArray) ++ (⟨#[]⟩ : ByteArray)) true (at_ xs 0)] hB ⟨⟨(by omega), (by omega)⟩, ⟨rfl, bw_ok (by first | omega | (simp only [ByteArray.size_append]; omega) | (simp only [ByteArray.size_append, hat]; omega))⟩, trivial⟩ ?_
  refine aw_seq ?_
  refine aR [] [1, 8, 63, 64, 65] [8, 60016] [Sv sep, .ref 8 0, .sl false 1 ((xs.length : Int).toNat - 1) (cutF 1 (fS xs)), I (((xs.length : Int).toNat - 1 : Nat) : Int), I 0] [some (.bld 80 60016), some (.buf 5 true (((⟨#[]⟩ : ByteArray) ++ (⟨#[]⟩ : ByteArray)) ++ (at_ xs 0)))] [(0 : Int) ≤ 1 ∧ (1 : Int) ≤ (xs.length : Int) ∧ (xs.length : Int) ≤ (xs.length : Int)] hB ⟨⟨(by omega), (by omega), (by omega)⟩, trivial⟩ ?_
  refine aw_block ?_
  refine aw_loop (fun gn gσ => ∃ (j : Int) (tx : ByteArray), gn = ((xs.length : Int) - j).toNat ∧ (0 ≤ j ∧ j + 1 ≤ (xs.length : Int)) ∧ (tx = jnB sep (xs.take (j.toNat + 1))) ∧ (tx.size ≤ jnZ xs (j.toNat + 1) + 8 * j.toNat) ∧ gσ = mkS [(1, Sv sep), (8, .ref 8 0), (63, .sl false 1 ((xs.length : Int).toNat - 1) (cutF 1 (fS xs))), (64, I (((xs.length : Int).toNat - 1 : Nat) : Int)), (65, I j)] [(8, .bld 80 60016), (60016, .buf 5 true tx)]) (((xs.length : Int) - 0).toNat) ⟨0, (((⟨#[]⟩ : ByteArray) ++ (⟨#[]⟩ : ByteArray)) ++ (at_ xs 0)), rfl, (by omega), (by show _ = jnB sep (xs.take 1); rw [hj1, nil_ba, nil_ba]), (by show _ ≤ jnZ xs 1 + _; simp only [ByteArray.size_append]; omega), rfl⟩ (fun gn gσ hI => ?_)
  obtain ⟨j, tx, rfl, hj0, htx, hts, rfl⟩ := hI
  refine aw_seq ?_
  by_cases h7 : j < (((xs.length : Int).toNat - 1 : Nat) : Int)
  ·have hj : j.toNat + 1 < xs.length := by omega
   have hsj := jnZ_at xs (k := j.toNat + 1)
   have hmj := jnZ_mono xs (show j.toNat + 1 + 1 ≤ xs.length from by omega)
   have hmj2 := jnZ_mono xs (show j.toNat + 1 ≤ xs.length from by omega)
   have hjs : (j + 1).toNat = j.toNat + 1 := by omega
   have hjt := jnB_take (sep := sep) hj
   have hat : at_ xs (1 + j.toNat) = at_ xs (j.toNat + 1) := by rw [Nat.add_comm]
   refine aw_r [(0, .dec true)] [1, 8, 63, 64, 65, 66] [8, 60016] [Sv sep, .ref 8 0, .sl false 1 ((xs.length : Int).toNat - 1) (cutF 1 (fS xs)), I (((xs.length : Int).toNat - 1 : Nat) : Int), I j, Bv true] [some (.bld 80 60016), some (.buf 5 true tx)] [j < (((xs.length : Int).toNat - 1 : Nat) : Int)] hB ⟨h7, trivial⟩ ?_
   refine ae_then ?_
   refine aw_seq ?_
   refine aw_true rfl ?_
   refine aw_skip ?_
   refine ae_then ?_
   refine aw_seq ?_
   refine aw_block ?_
   refine aR [] [1, 8, 10, 63, 64, 65] [8, 60016] [Sv sep, .ref 8 0, Sv (at_ xs (1 + j.toNat)), .sl false 1 ((xs.length : Int).toNat - 1) (cutF 1 (fS xs)), I (((xs.length : Int).toNat - 1 : Nat) : Int), I j] [some (.bld 80 60016), some (.buf 5 true tx)] [(0 : Int) ≤ j ∧ j < (((xs.length : Int).toNat - 1 : Nat) : Int)] hB ⟨⟨(by omega), (by omega)⟩, trivial⟩ ?_
   refine aR [(1, .bw 8 60016 60017 (.string sep) true sep)] [1, 8, 10, 63, 64, 65] [8, 60017] [Sv sep, .ref 8 0, Sv (at_ xs (1 + j.toNat)), .sl false 1 ((xs.length : Int).toNat - 1) (cutF 1 (fS xs)), I (((xs.length : Int).toNat - 1 : Nat) : Int), I j] [some (.bld 80 60017), some (.buf 5 true (tx ++ sep))] [([.ref 8 0, Sv sep] : List AV) = [.ref 8 0, Sv sep] ∧ BwOK Tryz.prog 48 80 5 (.string sep) true tx true sep] hB ⟨⟨rfl, bw_ok (by first | omega | (simp only [ByteArray.size_append]; omega) | (simp only [ByteArray.size_append, hat]; omega))⟩, trivial⟩ ?_
   refine aw_r [(1, .bw 8 60017 60016 (.string (at_ xs (1 + j.toNat))) true (at_ xs (1 + j.toNat)))] [1, 8, 63, 64, 65] [8, 60016] [Sv sep, .ref 8 0, .sl false 1 ((xs.length : Int).toNat - 1) (cutF 1 (fS xs)), I (((xs.length : Int).toNat - 1 : Nat) : Int), I j] [some (.bld 80 60016), some (.buf 5 true ((tx ++ sep) ++ (at_ xs (1 + j.toNat))))] [([.ref 8 0, Sv (at_ xs (1 + j.toNat))] : List AV) = [.ref 8 0, Sv (at_ xs (1 + j.toNat))] ∧ BwOK Tryz.prog 48 80 5 (.string (at_ xs (1 + j.toNat))) true (tx ++ sep) true (at_ xs (1 + j.toNat))] hB ⟨⟨rfl, bw_ok (by first | omega | (simp only [ByteArray.size_append]; omega) | (simp only [ByteArray.size_append, hat]; omega))⟩, trivial⟩ ?_
   refine ae_block 4 ?_
   refine ae_then ?_
   refine aw_r [] [1, 8, 63, 64, 65] [8, 60016] [Sv sep, .ref 8 0, .sl false 1 ((xs.length : Int).toNat - 1) (cutF 1 (fS xs)), I (((xs.length : Int).toNat - 1 : Nat) : Int), I (j + 1)] [some (.bld 80 60016), some (.buf 5 true ((tx ++ sep) ++ (at_ xs (1 + j.toNat))))] [inR .i64 (j + 1)] hB ⟨(inR_i64 (by omega) (by omega)), trivial⟩ ?_
   exact ae_again _ (by omega) ⟨(j + 1), ((tx ++ sep) ++ (at_ xs (1 + j.toNat))), rfl, (by omega), (by rw [hjs, hjt, ← htx, hat]), (by rw [hjs, hsj]; simp only [ByteArray.size_append, hat]; omega), rfl⟩
  have hje : j.toNat + 1 = xs.length := by omega
  rw [hje, List.take_length] at htx
  refine aw_r [(0, .dec false)] [1, 8, 63, 64, 65, 66] [8, 60016] [Sv sep, .ref 8 0, .sl false 1 ((xs.length : Int).toNat - 1) (cutF 1 (fS xs)), I (((xs.length : Int).toNat - 1 : Nat) : Int), I j, Bv false] [some (.bld 80 60016), some (.buf 5 true tx)] [¬ (j < (((xs.length : Int).toNat - 1 : Nat) : Int))] hB ⟨h7, trivial⟩ ?_
  refine ae_then ?_
  refine aw_seq ?_
  refine aw_false rfl ?_
  refine aw_exit ?_
  refine ae_exit_then ?_
  refine ae_exit_then ?_
  refine ae_exit_same ?_
  refine ae_then ?_
  refine aR [(0, .bs 8 60016)] [4] [] [Sv tx] [] [([.ref 8 0] : List AV) = [.ref 8 0] ∧ BsOK Tryz.prog 49 80 5] hB ⟨⟨rfl, bs_ok⟩, trivial⟩ ?_
  refine aw_ret ?_
  refine ae_ret hB (Sv tx) (by kernel_rfl) (.inl (by first | rfl | (rw [jnB_one _ he]; done) | (rw [htx]; done) | (rw [he]; rfl))) rfl (fun _ => trivial)



def ixB (s sep : ByteArray) : Int := Lib.indexByte s.data.toList (sep.data.toList.getD 0 0)
theorem ixL {c : UInt8} : ∀ {l r : List UInt8}, c ∉ l → Lib.indexByte (l ++ c :: r) c = l.length
  | [], r, _ => by simp [Lib.indexByte]
  | b :: l, r, h => by
    have hb : ¬ b = c := fun e => h (by rw [e]; exact List.mem_cons_self)
    have ih := ixL (l := l) (r := r) (fun q => h (List.mem_cons_of_mem _ q))
    show (if b == c then (0 : Int) else if Lib.indexByte (l ++ c :: r) c == -1 then -1 else Lib.indexByte (l ++ c :: r) c + 1) = _
    rw [ih, if_neg (by simpa using hb), if_neg (by simp), List.length_cons]
    omega
theorem ixB_at {c : UInt8} {x y : ByteArray} (h : noB c x) : ixB ((x ++ ⟨#[c]⟩) ++ y) ⟨#[c]⟩ = x.size := by
  have e : ((x ++ ⟨#[c]⟩) ++ y).data.toList = x.data.toList ++ c :: y.data.toList := by simp
  unfold ixB
  rw [e]
  exact (ixL h).trans (by simp)
theorem cut_ext (x y : ByteArray) (c : UInt8) : ((x ++ ⟨#[c]⟩) ++ y).extract 0 x.size = x ∧ ((x ++ ⟨#[c]⟩) ++ y).extract (x.size + 1) (((x ++ ⟨#[c]⟩) ++ y)).size = y := by
  constructor
  · apply ByteArray.ext
    rw [ByteArray.data_extract]
    exact Array.toList_inj.1 (by simp)
  · apply ByteArray.ext
    rw [ByteArray.data_extract]
    have h1 : (⟨#[c]⟩ : ByteArray).size = 1 := rfl
    have h2 : x.data.toList.length = x.size := by simp
    have h3 : y.data.toList.length = y.size := by simp
    refine Array.toList_inj.1 ?_
    simp
    rw [h1, List.drop_eq_nil_of_le (by rw [List.length_append, h2]; simp), List.take_nil, List.nil_append, List.take_of_length_le (by rw [h3]; omega)]


def splB (sep s : ByteArray) : List ByteArray := Lib.splitB sep 0 (Lib.countB s sep) s
def sufB (s p : ByteArray) : Bool := Lib.hasSuffix s.data.toList p.data.toList
def trsB (s p : ByteArray) : ByteArray := ⟨(Lib.trimSuffix s.data.toList p.data.toList).toArray⟩
def trpB (s p : ByteArray) : ByteArray := ⟨(Lib.trimPrefix s.data.toList p.data.toList).toArray⟩

def isDec (s : ByteArray) : Prop := ∃ n : Int, (-1000000000000000000 < n ∧ n < 1000000000000000000) ∧ s = decB n
def dcV (s : ByteArray) : Int := match Lib.parseIntB 64 s.data.toList with | .ok v => v | _ => 0
theorem dcV_dec {n : Int} (h : -1000000000000000000 < n ∧ n < 1000000000000000000) : dcV (decB n) = n := by unfold dcV; rw [parse_dec h]
theorem ddLen : ∀ (k u : Nat), 1 ≤ k → u < 10 ^ k → (Lib.decDigits u).length ≤ k
  | 0, _, h, _ => absurd h (by decide)
  | k + 1, u, _, h => by
    rw [Lib.decDigits]
    split
    · simp
    · rename_i h3
      rw [List.length_append]
      by_cases hk : k = 0
      · subst hk; omega
      · have := ddLen k (u / 10) (by omega) (by rw [Nat.pow_succ] at h; omega)
        simp only [List.length_cons, List.length_nil]; omega
theorem trp_dec {n : Int} (h : -1000000000000000000 < n ∧ n < 1000000000000000000) : 1 ≤ (Lib.trimPrefix (decB n).data.toList [45]).length ∧ (Lib.trimPrefix (decB n).data.toList [45]).length ≤ 18 := by
  have e : (decB n).data.toList = Lib.itoa n := by simp [decB]
  have hne : ∀ u, 1 ≤ (Lib.decDigits u).length := fun u => List.length_pos_iff.2 (decDigits_ne u)
  rw [e]
  unfold Lib.itoa
  split
  · have : Lib.trimPrefix (45 :: Lib.decDigits n.natAbs) [45] = Lib.decDigits n.natAbs := by simp [Lib.trimPrefix, Lib.hasPrefix]
    rw [this]
    exact ⟨hne _, ddLen 18 _ (by decide) (by omega)⟩
  · have hl := ddLen 18 n.toNat (by decide) (by omega)
    have h1 := hne n.toNat
    obtain ⟨c, r, hc⟩ : ∃ c r, Lib.decDigits n.toNat = c :: r := by
      cases h : Lib.decDigits n.toNat with
      | nil => exact absurd h (decDigits_ne _)
      | cons c r => exact ⟨c, r, rfl⟩
    have hb := decDigits_bytes _ n.toNat (Nat.lt_succ_self _) c (by rw [hc]; simp)
    have : Lib.trimPrefix (Lib.decDigits n.toNat) [45] = Lib.decDigits n.toNat := by
      have h2 : ¬ (45 : UInt8) = c := fun e => by subst e; have : (45 : UInt8).toNat = 45 := rfl; omega
      rw [hc]
      simp [Lib.trimPrefix, Lib.hasPrefix, h2]
    rw [this]
    exact ⟨h1, hl⟩
theorem con_of_calls2 {P : Program} {f : FuncId} {vals : List Value} {v u : Value} {fr : Bool} (h : ∀ w, WX w → Calls P f vals.toArray w fun e w' => e = .returned (.tuple #[v, u]) ∧ Below w.heap.size w w') : Con P f (vals.map .val) fr (.tup [.val v, .val u]) := by
  intro B vals' hbo hm hr
  have h1 := con_of_calls (fr := fr) h B vals' hbo hm hr
  refine h1.mono ?_
  rintro e w' ⟨v', κ', rfl, h2, h3⟩
  refine ⟨v', κ', rfl, h2, ?_⟩
  have e : v' = .tuple #[v, u] := h3.val_of
  subst e
  exact .tup _ _ rfl fun q a x ha hx => by
    match q, ha, hx with
    | 0, ha, hx => simp at ha hx; subst ha; subst hx; exact .tree _ _ (.val _)
    | 1, ha, hx => simp at ha hx; subst ha; subst hx; exact .tree _ _ (.val _)
    | q + 2, ha, _ => simp at ha




def comB (xs : List Int) : ByteArray := jnB ⟨#[44]⟩ (xs.map decB)
def bndI (xs : List Int) : Prop := xs.length ≤ 1000 ∧ ∀ x ∈ xs, -1000000000000000000 < x ∧ x < 1000000000000000000
theorem jnZ_le {B : Nat} {xs : List ByteArray} (h : ∀ x ∈ xs, x.size ≤ B) : ∀ k, k ≤ xs.length → jnZ xs k ≤ B * k
  | 0, _ => Nat.zero_le _
  | k + 1, hk => by
    have h1 := jnZ_le h k (by omega)
    have h2 := h _ (at_mem (show k < xs.length from hk))
    rw [jnZ, Nat.mul_succ]; omega
theorem jok_of {sep : ByteArray} {B n : Nat} {xs : List ByteArray} (hs : sep.size = 1) (hn : xs.length ≤ n) (h : ∀ x ∈ xs, x.size ≤ B) (hB : B * n ≤ 100000000) (hn2 : n ≤ 10000) : jok sep xs := by
  refine ⟨by omega, by omega, fun _ => ?_⟩
  have h1 := jnZ_le h xs.length (Nat.le_refl _)
  have h2 : B * xs.length ≤ B * n := Nat.mul_le_mul_left _ hn
  rw [hs]; omega
theorem jnB_le {sep : ByteArray} {B : Nat} {xs : List ByteArray} (hs : sep.size = 1) (h : ∀ x ∈ xs, x.size ≤ B) : (jnB sep xs).size ≤ (B + 1) * xs.length := by
  by_cases e : xs = []
  · subst e; exact Nat.le_refl _
  · have h1 := jnZ_le h xs.length (Nat.le_refl _)
    rw [jnB_size sep e, hs, Nat.add_mul]; omega
def dcs (s : ByteArray) : List Int := (splB ⟨#[44]⟩ s).map dcV
def linB (s : ByteArray) : List ByteArray := if s = ⟨#[]⟩ then [] else splB ⟨#[10]⟩ (trsB s ⟨#[10]⟩)
def linesX : List ByteArray → Nat → ByteArray
  | _, 0 => ⟨#[]⟩
  | ls, k + 1 => linesX ls k ++ (at_ ls k ++ ⟨#[10]⟩)
def linOk (s : ByteArray) : Prop := s.size ≤ 10000000 ∧ (s = ⟨#[]⟩ ∨ sufB s ⟨#[10]⟩ = true)

def hyW (h : Hyp) : ByteArray := (h.Label ++ ⟨#[58]⟩) ++ decB h.Cost
def noneB : ByteArray := ⟨#[110, 111, 110, 101]⟩
def hyTx (xs : List Hyp) : ByteArray := if (xs.length : Int) = 0 then noneB else jnB ⟨#[32]⟩ (xs.map hyW)
theorem lab_noB {s : ByteArray} (h : okLabel s = true) {c : UInt8} (hc : labB ((c.toNat : Nat) : Int) = false) : noB c s := fun hm => by
  obtain ⟨j, hj, e⟩ := List.getElem_of_mem hm
  have h1 := lab_one h
  have hj2 : j < s.size := by rwa [Array.length_toList] at hj
  have hj0 : j = 0 := by omega
  have e2 : bAt s 0 = ((c.toNat : Nat) : Int) := by
    subst hj0
    unfold bAt; rw [List.getD_eq_getElem?_getD, List.getElem?_eq_getElem hj, e]; rfl
  simp only [okLabel, Bool.and_eq_true] at h
  rw [e2, hc] at h; cases h.2
theorem hyW_list (h : Hyp) : (hyW h).data.toList = h.Label.data.toList ++ 58 :: (decB h.Cost).data.toList := by simp [hyW]
theorem hyW_noB {h : Hyp} (hl : okLabel h.Label = true) : noB 32 (hyW h) := by
  unfold noB
  rw [hyW_list, List.mem_append, List.mem_cons]
  intro q
  rcases q with q | q | q
  · exact lab_noB hl (c := 32) (by decide) q
  · exact absurd q (by decide)
  · exact decB_noB (by decide) _ q
theorem hyW_size {h : Hyp} (hl : okLabel h.Label = true) (hc : 0 ≤ h.Cost ∧ h.Cost ≤ 1000000) : (hyW h).size ≤ 22 := by
  have h1 := lab_one hl
  have h2 := decB_size (n := h.Cost) (by omega)
  have h3 : (⟨#[58]⟩ : ByteArray).size = 1 := rfl
  unfold hyW
  rw [ByteArray.size_append, ByteArray.size_append]
  omega
theorem hy_mem {xs : List Hyp} (ok : okHyps xs) : ∀ h ∈ xs, okLabel h.Label = true ∧ 0 ≤ h.Cost ∧ h.Cost ≤ 1000000 := fun h hm => by
  obtain ⟨j, hj, e⟩ := List.getElem_of_mem hm
  have := ok.2.1 j hj
  rw [at_eq hj, e] at this
  exact this
theorem hy_jok {xs : List Hyp} (ok : okHyps xs) : jok ⟨#[32]⟩ (xs.map hyW) := jok_of (B := 22) (n := 8) rfl (by rw [List.length_map]; exact ok.1) (fun y hy => by
  obtain ⟨h, hm, rfl⟩ := List.mem_map.1 hy
  have := hy_mem ok h hm
  exact hyW_size this.1 this.2) (by decide) (by decide)
theorem hy_size {xs : List Hyp} (ok : okHyps xs) : (hyTx xs).size ≤ 1000 := by
  unfold hyTx
  split
  · decide
  · have := jnB_le (sep := ⟨#[32]⟩) (B := 22) (xs := xs.map hyW) rfl (fun y hy => by
      obtain ⟨h, hm, rfl⟩ := List.mem_map.1 hy
      have := hy_mem ok h hm
      exact hyW_size this.1 this.2)
    rw [List.length_map] at this
    have := ok.1
    omega
theorem hy_words {xs : List Hyp} (ok : okHyps xs) (hn : ¬ (xs.length : Int) = 0) : splB ⟨#[32]⟩ (hyTx xs) = xs.map hyW := by
  unfold hyTx
  rw [if_neg hn]
  refine spl_join (c := 32) (fun e => hn (by have := congrArg List.length e; simp at this; simp [this])) fun y hy => ?_
  obtain ⟨h, hm, rfl⟩ := List.mem_map.1 hy
  exact hyW_noB (hy_mem ok h hm).1
theorem hy_none {xs : List Hyp} (hn : ¬ (xs.length : Int) = 0) : hyTx xs ≠ noneB := fun e => by
  unfold hyTx at e
  rw [if_neg hn] at e
  cases xs with
  | nil => exact hn rfl
  | cons x r =>
    have h1 : (58 : UInt8) ∈ (jnB ⟨#[32]⟩ ((x :: r).map hyW)).data.toList := by
      rw [List.map_cons]
      show (58 : UInt8) ∈ (hyW x ++ jrest ⟨#[32]⟩ (r.map hyW)).data.toList
      rw [ByteArray.data_append, Array.toList_append, hyW_list]
      simp
    rw [e] at h1
    exact absurd h1 (by decide)
def rdW (w : ByteArray) : Hyp := ⟨w.extract 0 1, dcV (w.extract 2 w.size)⟩
theorem rdW_hy {h : Hyp} (hl : okLabel h.Label = true) (hc : 0 ≤ h.Cost ∧ h.Cost ≤ 1000000) : rdW (hyW h) = h := by
  have q := cut_ext h.Label (decB h.Cost) 58
  rw [lab_one hl] at q
  unfold rdW
  show (⟨((h.Label ++ ⟨#[58]⟩) ++ decB h.Cost).extract 0 1, dcV (((h.Label ++ ⟨#[58]⟩) ++ decB h.Cost).extract 2 ((h.Label ++ ⟨#[58]⟩) ++ decB h.Cost).size)⟩ : Hyp) = h
  rw [q.1, q.2, dcV_dec (by omega)]
theorem hy_inj {xs ys : List Hyp} (h : okHyps xs) (h2 : okHyps ys) (e : hyTx xs = hyTx ys) : xs = ys := by
  by_cases hx : (xs.length : Int) = 0
  · by_cases hy : (ys.length : Int) = 0
    · have a := List.eq_nil_of_length_eq_zero (show xs.length = 0 by omega)
      have b := List.eq_nil_of_length_eq_zero (show ys.length = 0 by omega)
      rw [a, b]
    · have q : hyTx xs = noneB := if_pos hx
      exact absurd (e.symm.trans q) (hy_none hy)
  · by_cases hy : (ys.length : Int) = 0
    · have q : hyTx ys = noneB := if_pos hy
      exact absurd (e.trans q) (hy_none hx)
    · have w := hy_words h hx
      rw [e, hy_words h2 hy] at w
      have m := congrArg (List.map rdW) w
      rw [List.map_map, List.map_map] at m
      have a1 : ∀ {zs : List Hyp}, okHyps zs → zs.map (rdW ∘ hyW) = zs := fun {zs} hz => by
        conv => rhs; rw [← List.map_id zs]
        exact List.map_congr_left fun t ht => rdW_hy (hy_mem hz t ht).1 (hy_mem hz t ht).2
      rw [a1 h, a1 h2] at m
      exact m.symm
theorem okHyps_nil : okHyps [] := ⟨by simp, fun i hi => absurd hi (Nat.not_lt_zero _), List.Pairwise.nil, List.Pairwise.nil⟩


-- impl.HypsText
theorem HypsText_ok (list : List Hyp) (ok : okHyps list) : Con Tryz.prog 14 [slHyp false list] true (Sv (hyTx list)) := by
  have hl8 := ok.1
  have h58 : (⟨#[58]⟩ : ByteArray).size = 1 := rfl
  refine fn_ok (fn := Tryz.f14) (nt := 31) Tryz.func14 rfl rfl rfl rfl (by simp [taggedL, tagged, tagHyp]) fun B hB => ?_
  refine aw_lens (x := slHyp false list) 0 rfl (fun len_list => ?_)
  simp [LenOK, LenL, cHyp, fHyp, slHyp] at len_list
  refine aR [] [0] [] [slHyp false list] [] [] hB trivial ?_
  refine aw_seq ?_
  refine aR [(1, .call [(true, .any)] true (Bv true))] [0, 8] [] [slHyp false list, Bv false] [] [Con Tryz.prog 17 [slHyp false list] true (Bv true) ∧ True] hB ⟨⟨(implValidHyps_ok list ok), trivial⟩, trivial⟩ ?_
  refine aw_false rfl ?_
  refine aw_skip ?_
  refine ae_then ?_
  refine aw_seq ?_
  refine aw_seq ?_
  by_cases h1 : (list.length : Int) = 0
  ·have htx : hyTx list = noneB := if_pos h1
   refine aw_r [(2, .dec true)] [0, 11] [] [slHyp false list, Bv true] [] [(list.length : Int) = 0] hB ⟨h1, trivial⟩ ?_
   refine ae_then ?_
   refine aw_true rfl ?_
   refine aR [] [2] [] [Sv (⟨#[110, 111, 110, 101]⟩ : ByteArray)] [] [] hB trivial ?_
   refine aw_ret ?_
   refine ae_ret_then ?_
   refine ae_ret hB (Sv (⟨#[110, 111, 110, 101]⟩ : ByteArray)) (by kernel_rfl) (.inl (by first | (rw [htx]; rfl) | (rw [htx, hfw]))) rfl (fun _ => trivial)
  have htx : hyTx list = jnB ⟨#[32]⟩ (list.map hyW) := if_neg h1
  refine aw_r [(2, .dec false)] [0, 11] [] [slHyp false list, Bv false] [] [¬ ((list.length : Int) = 0)] hB ⟨h1, trivial⟩ ?_
  refine ae_then ?_
  refine aw_false rfl ?_
  refine aw_skip ?_
  refine ae_then ?_
  refine aR [] [0, 3] [] [slHyp false list, nilA] [] [] hB trivial ?_
  refine aw_seq ?_
  refine aR [] [3, 12, 13, 14] [] [nilA, slHyp false list, I (list.length : Int), I 0] [] [] hB trivial ?_
  refine aw_block ?_
  refine aw_nil hB 3 703 1 (fun _ => []) (by kernel_rfl) ?_
  refine aw_weak hB [] (T := [(3, .arr 703), (12, slHyp false list), (13, I (list.length : Int)), (14, I 0)]) (O := [(703, tAS ([] : List ByteArray))]) rfl (⟨.inl rfl, .inl rfl, .inl rfl, .inl rfl, trivial⟩) (⟨.inr ⟨rfl, (by first | rfl | (simp; done) | (simp; omega) | omega), fun i_ hi_ => absurd hi_ (Nat.not_lt_zero _)⟩, trivial⟩) ?_
  refine aw_loop (fun gn gσ => ∃ (words : List ByteArray) (t14 : Int), gn = ((list.length : Int) - t14).toNat ∧ (0 ≤ t14 ∧ t14 ≤ (list.length : Int)) ∧ (words = (list.take t14.toNat).map hyW) ∧ ((words.length : Int) ≤ t14) ∧ gσ = mkS [(3, .arr 703), (12, slHyp false list), (13, I (list.length : Int)), (14, I t14)] [(703, tAS words)]) (((list.length : Int) - 0).toNat) ⟨([] : List ByteArray), 0, rfl, (by omega), (by simp), (by simp), rfl⟩ (fun gn gσ hI => ?_)
  obtain ⟨words, t14, rfl, hi0, hws, hwl, rfl⟩ := hI
  refine aw_seq ?_
  by_cases h2 : t14 < (list.length : Int)
  ·have hi : t14.toNat < list.length := by omega
   have hed := hy_mem ok _ (at_mem hi)
   have hlo := lab_one hed.1
   have hd1 := decB_size (n := (at_ list t14.toNat).Cost) (by omega)
   have hii : (t14 + 1).toNat = t14.toNat + 1 := by omega
   refine aw_r [(0, .dec true)] [3, 12, 13, 14, 15] [703] [.arr 703, slHyp false list, I (list.length : Int), I t14, Bv true] [some (tAS words)] [t14 < (list.length : Int)] hB ⟨h2, trivial⟩ ?_
   refine ae_then ?_
   refine aw_seq ?_
   refine aw_true rfl ?_
   refine aw_skip ?_
   refine ae_then ?_
   refine aw_seq ?_
   refine aw_block ?_
   refine aR [(2, .new 5)] [3, 5, 12, 13, 14] [5, 703] [.arr 703, .ref 5 0, slHyp false list, I (list.length : Int), I t14] [some (bxHyp (at_ list t14.toNat)), some (tAS words)] [(0 : Int) ≤ t14 ∧ t14 < (list.length : Int)] hB ⟨⟨(by omega), (by omega)⟩, trivial⟩ ?_
   refine aw_r [(6, .call [(true, .any)] true (Sv (decB ((at_ list t14.toNat).Cost)))), (8, .new 26), (9, .new 27)] [3, 12, 13, 14] [27] [.arr 27, slHyp false list, I (list.length : Int), I t14] [some (.arr 1 (words.length + 1) (catF words.length (fS words) (litF [Sv ((((at_ list t14.toNat).Label) ++ (⟨#[58]⟩ : ByteArray)) ++ (decB ((at_ list t14.toNat).Cost)))] 1)))] [((at_ list t14.toNat).Label).size + (⟨#[58]⟩ : ByteArray).size ≤ 9223372036854775807, Con Tryz.prog 26 [I ((at_ list t14.toNat).Cost)] true (Sv (decB ((at_ list t14.toNat).Cost))) ∧ True, (((at_ list t14.toNat).Label) ++ (⟨#[58]⟩ : ByteArray)).size + (decB ((at_ list t14.toNat).Cost)).size ≤ 9223372036854775807, (words.length + 1) * 16 ≤ 140737488355328] hB ⟨(by (try simp only [ByteArray.size_append]); omega), ⟨(implDecimal_ok ((at_ list t14.toNat).Cost) (by omega)), trivial⟩, (by (try simp only [ByteArray.size_append]); omega), (by omega), trivial⟩ ?_
   refine ae_block 1 ?_
   refine ae_then ?_
   refine aw_r [] [3, 12, 13, 14] [27] [.arr 27, slHyp false list, I (list.length : Int), I (t14 + 1)] [some (.arr 1 (words.length + 1) (catF words.length (fS words) (litF [Sv ((((at_ list t14.toNat).Label) ++ (⟨#[58]⟩ : ByteArray)) ++ (decB ((at_ list t14.toNat).Cost)))] 1)))] [inR .i64 (t14 + 1)] hB ⟨(inR_i64 (by omega) (by omega)), trivial⟩ ?_
   refine ae_weak hB [(703, 27)] (T := [(3, .arr 703), (12, slHyp false list), (13, I (list.length : Int)), (14, I (t14 + 1))]) (O := [(703, tAS (words ++ [((((at_ list t14.toNat).Label) ++ (⟨#[58]⟩ : ByteArray)) ++ (decB ((at_ list t14.toNat).Cost)))]))]) rfl (⟨.inl rfl, .inl rfl, .inl rfl, .inl rfl, trivial⟩) (⟨.inr ⟨rfl, (by first | rfl | (simp; done) | (simp; omega) | omega), fun i_ hi_ => .inl (cat_snoc (enc := cS) (xs := words) rfl i_ hi_)⟩, trivial⟩) (ae_again _ (by omega) ⟨(words ++ [((((at_ list t14.toNat).Label) ++ (⟨#[58]⟩ : ByteArray)) ++ (decB ((at_ list t14.toNat).Cost)))]), (t14 + 1), rfl, (by omega), (by rw [hws, hii, List.take_succ_eq_append_getElem hi, List.map_append, ← at_eq hi]; rfl), (by (simp; omega)), rfl⟩)
  have hfw : words = list.map hyW := by rw [hws, List.take_of_length_le (by omega)]
  refine aw_r [(0, .dec false)] [3, 12, 13, 14, 15] [703] [.arr 703, slHyp false list, I (list.length : Int), I t14, Bv false] [some (tAS words)] [¬ (t14 < (list.length : Int))] hB ⟨h2, trivial⟩ ?_
  refine ae_then ?_
  refine aw_seq ?_
  refine aw_false rfl ?_
  refine aw_exit ?_
  refine ae_exit_then ?_
  refine ae_exit_then ?_
  refine ae_exit_same ?_
  refine ae_then ?_
  refine aR [(1, .call [(false, slS false words), (true, .any)] true (Sv (jnB (⟨#[32]⟩ : ByteArray) words)))] [2] [] [Sv (jnB (⟨#[32]⟩ : ByteArray) words)] [] [Con Tryz.prog 27 [slS false words, Sv (⟨#[32]⟩ : ByteArray)] true (Sv (jnB (⟨#[32]⟩ : ByteArray) words)) ∧ ((false = true → true = true) ∧ 1 = 1 ∧ words.length = words.length ∧ ∀ i_, i_ < words.length → (fS words) i_ = (fS words) i_ ∨ (AV.idsL ((fS words) i_) = [] ∧ leL (fun _ => none) false ((fS words) i_) ((fS words) i_))) ∧ True] hB ⟨⟨(join_ok words (⟨#[32]⟩ : ByteArray) (by rw [hfw]; exact hy_jok ok)), ⟨(fun h => by cases h), rfl, rfl, fun i _ => .inl rfl⟩, trivial⟩, trivial⟩ ?_
  refine aw_ret ?_
  refine ae_ret hB (Sv (jnB (⟨#[32]⟩ : ByteArray) words)) (by kernel_rfl) (.inl (by first | (rw [htx]; rfl) | (rw [htx, hfw]))) rfl (fun _ => trivial)



-- strings.Split
set_option maxHeartbeats 2000000 in
set_option maxRecDepth 100000 in
theorem split_ok (s sep : ByteArray) (hs : s.size ≤ 140737488 ∧ True) (h1 : sep.size = 1) : Con Tryz.prog 42 [Sv s, Sv sep] true (slS true (splB sep s)) := by
  obtain ⟨c, rfl⟩ := Lib.one_byte sep h1
  have hle := Lib.countB_le ⟨#[c]⟩ (by omega) s.size s (Nat.le_refl _)
  have hlen := splB_length (s := s) h1
  have hcell : ∀ i, i < Lib.countB s ⟨#[c]⟩ + 1 → (((Lib.splitB ⟨#[c]⟩ 0 (Lib.countB s ⟨#[c]⟩) s).map Value.string).toArray)[i]? = some (.string (at_ (splB ⟨#[c]⟩ s) i)) ∧ (Value.string (at_ (splB ⟨#[c]⟩ s) i)).oneCell' = true := fun i hi => by
    have hi2 : i < (Lib.splitB ⟨#[c]⟩ 0 (Lib.countB s ⟨#[c]⟩) s).length := by omega
    refine ⟨?_, rfl⟩
    have e : at_ (splB ⟨#[c]⟩ s) i = (Lib.splitB ⟨#[c]⟩ 0 (Lib.countB s ⟨#[c]⟩) s)[i] := at_eq hi2
    rw [e]
    simp [List.getElem?_eq_getElem hi2]
  have hmain := con_of_calls_sl (P := Tryz.prog) (f := 42) (vals := [.string s, .string ⟨#[c]⟩]) (n := Lib.countB s ⟨#[c]⟩ + 1) (T := 9) (cs := ((Lib.splitB ⟨#[c]⟩ 0 (Lib.countB s ⟨#[c]⟩) s).map Value.string).toArray) (g := fun i => .string (at_ (splB ⟨#[c]⟩ s) i)) (by unfold maxLen; omega) hcell ?_
  · have e : slS true (splB ⟨#[c]⟩ s) = .sl true 1 (Lib.countB s ⟨#[c]⟩ + 1) fun i => [Sv (at_ (splB ⟨#[c]⟩ s) i)] := by
      rw [← hlen]; rfl
    rw [e]
    exact hmain
  · intro w _
    have hI : ∀ (x : ByteArray) (d : Array Value), x.size ≤ s.size → Calls Tryz.prog 68 #[.string x, .string ⟨#[c]⟩] (w.alloc (.cells d 9)) fun e w' => e = .returned (.int .i64 (Lib.indexB x ⟨#[c]⟩)) ∧ w' = w.alloc (.cells d 9) := fun x d _ => by
      have := Tryz.strings_Index_one x c (w.alloc (.cells d 9))
      have e : Lib.indexB x ⟨#[c]⟩ = Lib.indexByte x.data.toList c := Lib.index_one _ _
      rw [e]
      exact this
    have hC : Calls Tryz.prog 83 #[.string s, .string ⟨#[c]⟩] w fun e w' => e = .returned (.int .i64 (Lib.countB s ⟨#[c]⟩)) ∧ w' = w := by
      have := Tryz.strings_Count_one s c w
      have e : Lib.countB s ⟨#[c]⟩ = Lib.countByte s.data.toList c := Lib.count_one c _
      rw [e]
      exact this
    have hcore := Any.strings_genSplit_core Tryz.lays221 (by kernel_rfl) s ⟨#[c]⟩ 0 (-1) (Lib.countB s ⟨#[c]⟩ + 1) w (by omega) (by omega) (Nat.zero_le _) hI hC (by decide) (by decide) (by rw [if_pos (by decide)]; omega)
    rw [Nat.add_sub_cancel, hlen] at hcore
    have e2 : Lib.cellsOf (Lib.splitB ⟨#[c]⟩ 0 (Lib.countB s ⟨#[c]⟩) s) (Lib.countB s ⟨#[c]⟩ + 1) = ((Lib.splitB ⟨#[c]⟩ 0 (Lib.countB s ⟨#[c]⟩) s).map Value.string).toArray := by rw [← hlen]; exact Lib.cellsOf_full _
    rw [e2] at hcore
    go_enter Tryz.func42, Tryz.ntmps42
    go_wp2_with (go_at_call 60; refine hcore.mono ?_; rintro e w' ⟨rfl, hw⟩; rw [hw])
    go_ret
    exact ⟨rfl, rfl⟩



-- impl.wordsOf
theorem wordsOf_ok (s : ByteArray) (hz : s.size ≤ 10000000) : Con Tryz.prog 23 [Sv s] true (slS true (splB ⟨#[32]⟩ s)) := by
  refine fn_ok (fn := Tryz.f23) (nt := 5) Tryz.func23 rfl rfl rfl rfl (by simp [taggedL, tagged]) fun B hB => ?_
  refine aR [] [0] [] [Sv s] [] [] hB trivial ?_
  refine aR [(1, .call [(true, .any), (true, .any)] true (slS true (splB (⟨#[32]⟩ : ByteArray) s)))] [2] [] [slS true (splB (⟨#[32]⟩ : ByteArray) s)] [] [Con Tryz.prog 42 [Sv s, Sv (⟨#[32]⟩ : ByteArray)] true (slS true (splB (⟨#[32]⟩ : ByteArray) s)) ∧ True] hB ⟨⟨(split_ok s (⟨#[32]⟩ : ByteArray) ⟨by omega, trivial⟩ rfl), trivial⟩, trivial⟩ ?_
  refine aw_ret ?_
  refine ae_ret hB (slS true (splB (⟨#[32]⟩ : ByteArray) s)) (by kernel_rfl) (.inr ⟨(fun _ => rfl), rfl, (by first | rfl | (simp; done) | (simp; omega) | omega), fun i_ hi_ => .inl (by first | rfl | fail)⟩) rfl (fun _ => (tagS true _))



-- stringslite.Index
theorem slIndex_ok (s sep : ByteArray) (h1 : sep.size = 1) : Con Tryz.prog 61 [Sv s, Sv sep] true (I (ixB s sep)) := by
  obtain ⟨c, rfl⟩ := Lib.one_byte sep h1
  refine con_of_calls (vals := [.string s, .string ⟨#[c]⟩]) fun w _ => ?_
  refine (Tryz.stringslite_Index_one s c w).mono ?_
  rintro e w' ⟨rfl, rfl⟩
  exact ⟨rfl, Below.refl _ _⟩



-- stringslite.Cut
theorem slCut_ok (s : ByteArray) (sep : ByteArray) (h : ∃ x y : ByteArray, noB 58 x ∧ s = (x ++ ⟨#[58]⟩) ++ y) (hq : sep = ⟨#[58]⟩) (hz : s.size ≤ 1000000) : ∃ (a : ByteArray) (b : ByteArray) (c : Bool), (∀ x y : ByteArray, noB 58 x → s = (x ++ ⟨#[58]⟩) ++ y → a = x ∧ b = y) ∧ (c = true) ∧ Con Tryz.prog 43 [Sv s, Sv sep] true (.tup [Sv a, Sv b, Bv c]) := by
  obtain ⟨x, y, hx, hs⟩ := h
  have hq2 : sep.size = 1 := by rw [hq]; rfl
  have hix : ixB s sep = x.size := by rw [hs, hq]; exact ixB_at hx
  have hsz : s.size = x.size + 1 + y.size := by rw [hs, ByteArray.size_append, ByteArray.size_append]; rfl
  have hh : ∃ r : ByteArray × ByteArray × Bool, ((∀ x y : ByteArray, noB 58 x → s = (x ++ ⟨#[58]⟩) ++ y → r.1 = x ∧ r.2.1 = y) ∧ (r.2.2 = true) ∧ (True)) ∧ CallOK Tryz.prog 43 [Sv s, Sv sep] (lookO []) true (.tup [Sv r.1, Sv r.2.1, Bv r.2.2]) (lookO []) := by
    refine fn_okX (Φ := fun r : ByteArray × ByteArray × Bool => (∀ x y : ByteArray, noB 58 x → s = (x ++ ⟨#[58]⟩) ++ y → r.1 = x ∧ r.2.1 = y) ∧ (r.2.2 = true) ∧ (True)) [] (fun r => []) (fn := Tryz.f43) (nt := 23) Tryz.func43 rfl rfl (args := [Sv s, Sv sep]) rfl (allcons (.inl ⟨rfl, trivial⟩) (allcons (.inl ⟨rfl, trivial⟩) allnil)) (res := fun r => .tup [Sv r.1, Sv r.2.1, Bv r.2.2]) ?_
    refine xR [] [0, 1] [] [Sv s, Sv sep] [] [] trivial ?_
    refine x_seq ?_
    refine xR [(2, .call [(true, .any), (true, .any)] true (I (ixB s sep)))] [0, 1, 7] [] [Sv s, Sv sep, I (ixB s sep)] [] [Con Tryz.prog 61 [Sv s, Sv sep] true (I (ixB s sep)) ∧ True] ⟨⟨(slIndex_ok s sep (by first | rfl | omega)), trivial⟩, trivial⟩ ?_
    refine xR [(1, .dec true)] [0, 1, 7, 12] [] [Sv s, Sv sep, I (ixB s sep), Bv true] [] [0 ≤ (ixB s sep)] ⟨(by rw [hix]; omega), trivial⟩ ?_
    refine x_true rfl ?_
    refine xR [] [4, 5, 6] [] [Sv (s.extract 0 (ixB s sep).toNat), Sv (s.extract ((ixB s sep) + (sep.size : Int)).toNat (s.size : Int).toNat), Bv true] [] [(0 : Int) ≤ 0 ∧ (0 : Int) ≤ (ixB s sep) ∧ (ixB s sep) ≤ (s.size : Int), inR .i64 ((ixB s sep) + (sep.size : Int)), (0 : Int) ≤ ((ixB s sep) + (sep.size : Int)) ∧ ((ixB s sep) + (sep.size : Int)) ≤ (s.size : Int) ∧ (s.size : Int) ≤ (s.size : Int)] ⟨⟨(by omega), (by omega), (by omega)⟩, (inR_i64 (by omega) (by omega)), ⟨(by omega), (by omega), (by omega)⟩, trivial⟩ ?_
    refine x_ret ?_
    refine xe_ret_then ?_
    refine xe_end ((s.extract 0 (ixB s sep).toNat), (s.extract ((ixB s sep) + (sep.size : Int)).toNat (s.size : Int).toNat), true) (show (∀ x y : ByteArray, noB 58 x → s = (x ++ ⟨#[58]⟩) ++ y → (s.extract 0 (ixB s sep).toNat) = x ∧ (s.extract ((ixB s sep) + (sep.size : Int)).toNat (s.size : Int).toNat) = y) ∧ (true = true) ∧ (True) from ⟨(by (intro x2 y2 h2 e2; have hi2 : ixB s sep = x2.size := by (rw [e2, hq]; exact ixB_at h2)); rw [hi2]; have q_ := cut_ext x2 y2 58; rw [← e2] at q_; first | exact q_ | (refine ⟨q_.1, ?_⟩; rw [show ((x2.size : Int) + (sep.size : Int)).toNat = x2.size + 1 from by omega]; first | exact q_.2 | (rw [show ((s.size : Int)).toNat = s.size from by omega]; exact q_.2))), (by rfl), trivial⟩) (trivial) (.tup [Sv (s.extract 0 (ixB s sep).toNat), Sv (s.extract ((ixB s sep) + (sep.size : Int)).toNat (s.size : Int).toNat), Bv true]) (by kernel_rfl) (.inl rfl) (fun _ => rfl) (fun _ => (by simp [tagged, taggedL]))
  obtain ⟨⟨a, b, c⟩, ⟨hh0, hh1, _⟩, hc⟩ := hh
  exact ⟨a, b, c, hh0, hh1, hc⟩



-- strings.Cut
theorem strCut_ok (s : ByteArray) (sep : ByteArray) (h : ∃ x y : ByteArray, noB 58 x ∧ s = (x ++ ⟨#[58]⟩) ++ y) (hq : sep = ⟨#[58]⟩) (hz : s.size ≤ 1000000) : ∃ (a : ByteArray) (b : ByteArray) (c : Bool), (∀ x y : ByteArray, noB 58 x → s = (x ++ ⟨#[58]⟩) ++ y → a = x ∧ b = y) ∧ (c = true) ∧ Con Tryz.prog 24 [Sv s, Sv sep] true (.tup [Sv a, Sv b, Bv c]) := by
  have hh : ∃ r : ByteArray × ByteArray × Bool, ((∀ x y : ByteArray, noB 58 x → s = (x ++ ⟨#[58]⟩) ++ y → r.1 = x ∧ r.2.1 = y) ∧ (r.2.2 = true) ∧ (True)) ∧ CallOK Tryz.prog 24 [Sv s, Sv sep] (lookO []) true (.tup [Sv r.1, Sv r.2.1, Bv r.2.2]) (lookO []) := by
    refine fn_okX (Φ := fun r : ByteArray × ByteArray × Bool => (∀ x y : ByteArray, noB 58 x → s = (x ++ ⟨#[58]⟩) ++ y → r.1 = x ∧ r.2.1 = y) ∧ (r.2.2 = true) ∧ (True)) [] (fun r => []) (fn := Tryz.f24) (nt := 13) Tryz.func24 rfl rfl (args := [Sv s, Sv sep]) rfl (allcons (.inl ⟨rfl, trivial⟩) (allcons (.inl ⟨rfl, trivial⟩) allnil)) (res := fun r => .tup [Sv r.1, Sv r.2.1, Bv r.2.2]) ?_
    refine xR [] [0, 1] [] [Sv s, Sv sep] [] [] trivial ?_
    refine x_seq ?_
    obtain ⟨a_1, b_1, c_1, hx1_0, hx1_1, hc1⟩ := slCut_ok s sep h hq (by omega)
    have hcu := hx1_0
    have hcc := hx1_1
    refine x_r [(2, .call [(true, .any), (true, .any)] true (.tup [Sv a_1, Sv b_1, Bv c_1]))] [4, 5, 6] [] [Sv a_1, Sv b_1, Bv c_1] [] [Con Tryz.prog 43 [Sv s, Sv sep] true (.tup [Sv a_1, Sv b_1, Bv c_1]) ∧ True] ⟨⟨hc1, trivial⟩, trivial⟩ ?_
    refine xe_then ?_
    refine x_ret ?_
    refine xe_end (a_1, b_1, c_1) (show (∀ x y : ByteArray, noB 58 x → s = (x ++ ⟨#[58]⟩) ++ y → a_1 = x ∧ b_1 = y) ∧ (c_1 = true) ∧ (True) from ⟨(by exact hcu), (by first | exact hcc | rfl), trivial⟩) (trivial) (.tup [Sv a_1, Sv b_1, Bv c_1]) (by kernel_rfl) (.inl rfl) (fun _ => rfl) (fun _ => (by simp [tagged, taggedL]))
  obtain ⟨⟨a, b, c⟩, ⟨hh0, hh1, _⟩, hc⟩ := hh
  exact ⟨a, b, c, hh0, hh1, hc⟩



-- impl.ReadDecimal
set_option maxHeartbeats 2000000 in
theorem dec_calls (n : Int) (h : -9223372036854775808 ≤ n ∧ n ≤ 9223372036854775807) (w : World) (hw : WX w) : Calls Tryz.prog 26 #[.int .i64 n] w fun e w' => e = .returned (.string (decB n)) ∧ Below w.heap.size w w' := by
  go_enter Tryz.func26, Tryz.ntmps26
  go_wp2_with (go_at_call 46; refine (Tryz.strconv_FormatInt_10 n h.1 h.2 w (WX_tab hw)).mono ?_; rintro e w' ⟨rfl, k, os, rfl⟩)
  go_ret
  exact ⟨rfl, Lib.below_grow _ _ (Nat.le_refl _) k os⟩
set_option maxHeartbeats 2000000 in
set_option maxRecDepth 100000 in
theorem readDec_ok (s : ByteArray) (hs : isDec s) : Con Tryz.prog 25 [Sv s] true (.tup [I (dcV s), Bv true]) := by
  obtain ⟨n, hn, rfl⟩ := hs
  rw [dcV_dec hn]
  refine con_of_calls2 (vals := [.string (decB n)]) fun w hw => ?_
  have hp := parse_dec hn
  have ht := trp_dec hn
  have hsz := decB_size (n := n) (by omega)
  go_enter Tryz.func25, Tryz.ntmps25
  go_wp2_with (go_at_call 44; refine (Tryz.strings_TrimPrefix (decB n) _ w).mono ?_; rintro e w' ⟨rfl, hw'⟩; rw [hw'])
  clear hw'
  go_wp2_with (go_at_call 45; refine (Tryz.strconv_ParseInt_10_at64_ok (decB n) (by omega) n hp w).mono ?_; rintro e w2 ⟨rfl, hw2⟩)
  have hb : Below w.heap.size w w2 := by
    rcases hw2 with rfl | ⟨t, rfl⟩
    · exact Below.refl _ _
    · exact Lib.bytesWorld_below _ _ _
  have hx := WX_below hw w2 hb
  clear hw2
  go_wp2_with (go_at_call 26; refine (dec_calls n (by omega) w2 hx).mono ?_; rintro e w3 ⟨rfl, hb3⟩)
  go_ret2
  exact ⟨rfl, hb.trans (hb3.mono hb.size)⟩



-- impl.ReadHyps
theorem ReadHyps_ok (s : ByteArray) (ok : ∃ xs, okHyps xs ∧ s = hyTx xs) : ∃ (v : List Hyp) (c : Bool), (∀ xs, okHyps xs → s = hyTx xs → v = xs) ∧ (c = true) ∧ Con Tryz.prog 13 [Sv s] true (.tup [slHyp true v, Bv c]) := by
  obtain ⟨xs0, hok, hsi⟩ := ok
  have huq : ∀ x2, okHyps x2 → s = hyTx x2 → xs0 = x2 := fun x2 h2 q2 => hy_inj hok h2 (hsi.symm.trans q2)
  have hsz : s.size ≤ 1000 := by rw [hsi]; exact hy_size hok
  have hl8 := hok.1
  have hh : ∃ r : (List Hyp) × Bool, ((∀ xs, okHyps xs → s = hyTx xs → r.1 = xs) ∧ (r.2 = true) ∧ (True)) ∧ CallOK Tryz.prog 13 [Sv s] (lookO []) true (.tup [slHyp true r.1, Bv r.2]) (lookO []) := by
    refine fn_okX (Φ := fun r : (List Hyp) × Bool => (∀ xs, okHyps xs → s = hyTx xs → r.1 = xs) ∧ (r.2 = true) ∧ (True)) [] (fun r => []) (fn := Tryz.f13) (nt := 49) Tryz.func13 rfl rfl (args := [Sv s]) rfl (allcons (.inl ⟨rfl, trivial⟩) allnil) (res := fun r => .tup [slHyp true r.1, Bv r.2]) ?_
    refine xR [] [0] [] [Sv s] [] [] trivial ?_
    refine xR [] [0, 4] [] [Sv s, nilA] [] [] trivial ?_
    refine x_seq ?_
    refine x_seq ?_
    by_cases h1 : s = (⟨#[110, 111, 110, 101]⟩ : ByteArray)
    ·have hx0 : xs0 = [] := List.eq_nil_of_length_eq_zero (by have q_ : ¬ ¬ (xs0.length : Int) = 0 := fun q => hy_none q (hsi.symm.trans h1); omega)
     have hsn : hyTx ([] : List Hyp) = s := by rw [← hx0]; exact hsi.symm
     refine x_r [(1, .dec false)] [0, 4, 13] [] [Sv s, nilA, Bv false] [] [¬ (s ≠ (⟨#[110, 111, 110, 101]⟩ : ByteArray))] ⟨(fun hq => hq h1), trivial⟩ ?_
     refine xe_then ?_
     refine x_false rfl ?_
     refine x_skip ?_
     refine xe_then ?_
     refine x_seq ?_
     refine xR [(1, .call [(false, slHyp false ([] : List Hyp))] true (Bv true)), (5, .call [(false, slHyp false ([] : List Hyp))] true (Sv (hyTx ([] : List Hyp)))), (7, .dec false)] [4, 47] [] [nilA, Bv false] [] [Con Tryz.prog 17 [slHyp false ([] : List Hyp)] true (Bv true) ∧ ((([] : List Hyp).length) = 0 ∧ valOf nilA = Value.slice none 0 0) ∧ True, Con Tryz.prog 14 [slHyp false ([] : List Hyp)] true (Sv (hyTx ([] : List Hyp))) ∧ ((([] : List Hyp).length) = 0 ∧ valOf nilA = Value.slice none 0 0) ∧ True, ¬ ((hyTx ([] : List Hyp)) ≠ s)] ⟨⟨(implValidHyps_ok ([] : List Hyp) okHyps_nil), ⟨rfl, rfl⟩, trivial⟩, ⟨(HypsText_ok ([] : List Hyp) okHyps_nil), ⟨rfl, rfl⟩, trivial⟩, (fun hq => hq (by first | (rw [hfin]; exact hsi.symm) | exact hsn)), trivial⟩ ?_
     refine x_false rfl ?_
     refine x_skip ?_
     refine xe_then ?_
     refine xR [] [2, 3] [] [nilA, Bv true] [] [] trivial ?_
     refine x_ret ?_
     refine xe_end (([] : List Hyp), true) (show (∀ xs, okHyps xs → s = hyTx xs → ([] : List Hyp) = xs) ∧ (true = true) ∧ (True) from ⟨(by first | (exact fun x2 h2 q2 => hfin.trans (huq x2 h2 q2)) | (exact fun x2 h2 q2 => hx0.symm.trans (huq x2 h2 q2))), (by rfl), trivial⟩) (trivial) (.tup [nilA, Bv true]) (by kernel_rfl) (.inr ⟨⟨rfl, rfl⟩, ⟨rfl, rfl⟩⟩) (fun _ => rfl) (fun _ => (by simp [tagged, taggedL, tagHyp]))
    have hxn : ¬ (xs0.length : Int) = 0 := fun q => h1 (hsi.trans (if_pos q : hyTx xs0 = noneB))
    have hwd : splB ⟨#[32]⟩ s = xs0.map hyW := by rw [hsi]; exact hy_words hok hxn
    have hwl : (splB ⟨#[32]⟩ s).length = xs0.length := by rw [hwd, List.length_map]
    refine x_r [(1, .dec true)] [0, 4, 13] [] [Sv s, nilA, Bv true] [] [s ≠ (⟨#[110, 111, 110, 101]⟩ : ByteArray)] ⟨h1, trivial⟩ ?_
    refine xe_then ?_
    refine x_true rfl ?_
    refine xR [(1, .call [(true, .any)] true (slS true (splB ⟨#[32]⟩ s)))] [0, 4, 15, 16, 17] [] [Sv s, nilA, slS true (splB ⟨#[32]⟩ s), I (((splB ⟨#[32]⟩ s).length) : Int), I 0] [] [Con Tryz.prog 23 [Sv s] true (slS true (splB ⟨#[32]⟩ s)) ∧ True] ⟨⟨(wordsOf_ok s (by first | omega | (refine ⟨?_, trivial⟩; omega))), trivial⟩, trivial⟩ ?_
    refine x_block ?_
    refine x_nil 4 704 2 (fun _ => []) (by kernel_rfl) ?_
    refine x_weak [] (T := [(0, Sv s), (4, .arr 704), (15, slS true (splB ⟨#[32]⟩ s)), (16, I (((splB ⟨#[32]⟩ s).length) : Int)), (17, I 0)]) (O := [(704, tAHyp ([] : List Hyp))]) rfl (⟨.inl rfl, .inl rfl, .inl rfl, .inl rfl, .inl rfl, trivial⟩) (⟨.inr ⟨rfl, (by first | rfl | (simp; done) | (simp; omega) | omega), fun i_ hi_ => absurd hi_ (Nat.not_lt_zero _)⟩, trivial⟩) ?_
    refine x_loop (X := (List Hyp) × Int) (fun x => mkS [(0, Sv s), (4, .arr 704), (15, slS true (splB ⟨#[32]⟩ s)), (16, I (((splB ⟨#[32]⟩ s).length) : Int)), (17, I x.2)] [(704, tAHyp x.1)]) (fun x => (0 ≤ x.2 ∧ x.2 ≤ ((splB ⟨#[32]⟩ s).length : Int)) ∧ (x.1 = xs0.take x.2.toNat) ∧ ((x.1.length : Int) ≤ x.2) ∧ True) (fun x => (((splB ⟨#[32]⟩ s).length : Int) - x.2).toNat) (([] : List Hyp), 0) rfl (show (0 ≤ (0 : Int) ∧ (0 : Int) ≤ ((splB ⟨#[32]⟩ s).length : Int)) ∧ (([] : List Hyp) = xs0.take (0 : Int).toNat) ∧ ((([] : List Hyp).length : Int) ≤ (0 : Int)) ∧ True from ⟨(by omega), (by simp), (by simp), trivial⟩) (fun x hI => ?_)
    obtain ⟨list, t17⟩ := x
    obtain ⟨hi0, hls, hll, _⟩ : (0 ≤ t17 ∧ t17 ≤ ((splB ⟨#[32]⟩ s).length : Int)) ∧ (list = xs0.take t17.toNat) ∧ ((list.length : Int) ≤ t17) ∧ True := hI
    show XW _ _ _ _ (mkS [(0, Sv s), (4, .arr 704), (15, slS true (splB ⟨#[32]⟩ s)), (16, I (((splB ⟨#[32]⟩ s).length) : Int)), (17, I t17)] [(704, tAHyp list)]) _ _
    refine x_seq ?_
    by_cases h2 : t17 < (((splB ⟨#[32]⟩ s).length) : Int)
    ·have hi : t17.toNat < xs0.length := by omega
     have hwk : at_ (splB ⟨#[32]⟩ s) t17.toNat = ((at_ xs0 t17.toNat).Label ++ ⟨#[58]⟩) ++ decB (at_ xs0 t17.toNat).Cost := by rw [hwd]; have e_ : at_ (xs0.map hyW) t17.toNat = hyW (at_ xs0 t17.toNat) := (by simp [at_, hi]); rw [e_]; rfl
     have hed := hy_mem hok _ (at_mem hi)
     have hnb := lab_noB hed.1 (c := 58) (by decide)
     have hwz : (at_ (splB ⟨#[32]⟩ s) t17.toNat).size ≤ 22 := by rw [hwk]; exact hyW_size hed.1 hed.2
     have hii : (t17 + 1).toNat = t17.toNat + 1 := by omega
     refine x_r [(0, .dec true)] [0, 4, 15, 16, 17, 18] [704] [Sv s, .arr 704, slS true (splB ⟨#[32]⟩ s), I (((splB ⟨#[32]⟩ s).length) : Int), I t17, Bv true] [some (tAHyp list)] [t17 < (((splB ⟨#[32]⟩ s).length) : Int)] ⟨h2, trivial⟩ ?_
     refine xe_then ?_
     refine x_seq ?_
     refine x_true rfl ?_
     refine x_skip ?_
     refine xe_then ?_
     refine x_seq ?_
     refine x_block ?_
     refine xR [] [0, 4, 6, 15, 16, 17] [704] [Sv s, .arr 704, Sv (at_ (splB ⟨#[32]⟩ s) t17.toNat), slS true (splB ⟨#[32]⟩ s), I (((splB ⟨#[32]⟩ s).length) : Int), I t17] [some (tAHyp list)] [(0 : Int) ≤ t17 ∧ t17 < (((splB ⟨#[32]⟩ s).length) : Int)] ⟨⟨(by omega), (by omega)⟩, trivial⟩ ?_
     refine x_seq ?_
     obtain ⟨a_1, b_1, c_1, hx1_0, hx1_1, hc1⟩ := strCut_ok (at_ (splB ⟨#[32]⟩ s) t17.toNat) (⟨#[58]⟩ : ByteArray) ⟨_, _, hnb, hwk⟩ rfl (by omega)
     have hab := hx1_0 _ _ hnb hwk
     have hbd : isDec b_1 := ⟨_, by have q_ := hed.2; omega, hab.2⟩
     refine x_r [(1, .call [(true, .any), (true, .any)] true (.tup [Sv a_1, Sv b_1, Bv c_1]))] [0, 4, 7, 8, 15, 16, 17] [704] [Sv s, .arr 704, Sv a_1, Sv b_1, slS true (splB ⟨#[32]⟩ s), I (((splB ⟨#[32]⟩ s).length) : Int), I t17] [some (tAHyp list)] [Con Tryz.prog 24 [Sv (at_ (splB ⟨#[32]⟩ s) t17.toNat), Sv (⟨#[58]⟩ : ByteArray)] true (.tup [Sv a_1, Sv b_1, Bv c_1]) ∧ True] ⟨⟨hc1, trivial⟩, trivial⟩ ?_
     refine xe_then ?_
     refine xR [(1, .call [(true, .any)] true (.tup [I (dcV b_1), Bv true]))] [0, 4, 7, 10, 15, 16, 17] [704] [Sv s, .arr 704, Sv a_1, I (dcV b_1), slS true (splB ⟨#[32]⟩ s), I (((splB ⟨#[32]⟩ s).length) : Int), I t17] [some (tAHyp list)] [Con Tryz.prog 25 [Sv b_1] true (.tup [I (dcV b_1), Bv true]) ∧ True] ⟨⟨(readDec_ok b_1 hbd), trivial⟩, trivial⟩ ?_
     refine x_r [(4, .new 36), (5, .new 37)] [0, 4, 15, 16, 17] [37] [Sv s, .arr 37, slS true (splB ⟨#[32]⟩ s), I (((splB ⟨#[32]⟩ s).length) : Int), I t17] [some (.arr 2 (list.length + 1) (catF list.length (fHyp list) (litF [Sv a_1, I (dcV b_1)] 2)))] [(list.length + 1) * 24 ≤ 140737488355328] ⟨(by omega), trivial⟩ ?_
     refine xe_block 1 ?_
     refine xe_then ?_
     refine x_r [] [0, 4, 15, 16, 17] [37] [Sv s, .arr 37, slS true (splB ⟨#[32]⟩ s), I (((splB ⟨#[32]⟩ s).length) : Int), I (t17 + 1)] [some (.arr 2 (list.length + 1) (catF list.length (fHyp list) (litF [Sv a_1, I (dcV b_1)] 2)))] [inR .i64 (t17 + 1)] ⟨(inR_i64 (by omega) (by omega)), trivial⟩ ?_
     refine xe_weak [(704, 37)] (T := [(0, Sv s), (4, .arr 704), (15, slS true (splB ⟨#[32]⟩ s)), (16, I (((splB ⟨#[32]⟩ s).length) : Int)), (17, I (t17 + 1))]) (O := [(704, tAHyp (list ++ [(Hyp.mk a_1 (dcV b_1))]))]) rfl (⟨.inl rfl, .inl rfl, .inl rfl, .inl rfl, .inl rfl, trivial⟩) (⟨.inr ⟨rfl, (by first | rfl | (simp; done) | (simp; omega) | omega), fun i_ hi_ => .inl (cat_snoc (enc := cHyp) (xs := list) rfl i_ hi_)⟩, trivial⟩) (xe_again ((list ++ [(Hyp.mk a_1 (dcV b_1))]), (t17 + 1)) rfl (show (0 ≤ (t17 + 1) ∧ (t17 + 1) ≤ ((splB ⟨#[32]⟩ s).length : Int)) ∧ ((list ++ [(Hyp.mk a_1 (dcV b_1))]) = xs0.take (t17 + 1).toNat) ∧ (((list ++ [(Hyp.mk a_1 (dcV b_1))]).length : Int) ≤ (t17 + 1)) ∧ True from ⟨(by omega), (by rw [hls, hii, List.take_succ_eq_append_getElem hi, hab.1, hab.2, dcV_dec (by have q_ := hed.2; omega), ← at_eq hi]), (by (simp; omega)), trivial⟩) (by first | (show ((((splB ⟨#[32]⟩ s).length : Int) - (t17 + 1)).toNat : Nat) < (((splB ⟨#[32]⟩ s).length : Int) - t17).toNat; omega) | (dsimp only; omega)))
    have hfin : list = xs0 := by rw [hls, List.take_of_length_le (by omega)]
    refine x_r [(0, .dec false)] [0, 4, 15, 16, 17, 18] [704] [Sv s, .arr 704, slS true (splB ⟨#[32]⟩ s), I (((splB ⟨#[32]⟩ s).length) : Int), I t17, Bv false] [some (tAHyp list)] [¬ (t17 < (((splB ⟨#[32]⟩ s).length) : Int))] ⟨h2, trivial⟩ ?_
    refine xe_then ?_
    refine x_seq ?_
    refine x_false rfl ?_
    refine x_exit ?_
    refine xe_exit_then ?_
    refine xe_loop_exit ?_
    refine xe_exit_same ?_
    refine xe_then ?_
    refine x_seq ?_
    refine xR [(1, .call [(false, slHyp false list)] true (Bv true)), (5, .call [(false, slHyp false list)] true (Sv (hyTx list))), (7, .dec false)] [4, 47] [704] [.arr 704, Bv false] [some (tAHyp list)] [Con Tryz.prog 17 [slHyp false list] true (Bv true) ∧ ((false = true → true = true) ∧ 2 = 2 ∧ list.length = list.length ∧ ∀ i_, i_ < list.length → (fHyp list) i_ = (fHyp list) i_ ∨ (AV.idsL ((fHyp list) i_) = [] ∧ leL (fun _ => none) false ((fHyp list) i_) ((fHyp list) i_))) ∧ True, Con Tryz.prog 14 [slHyp false list] true (Sv (hyTx list)) ∧ ((false = true → true = true) ∧ 2 = 2 ∧ list.length = list.length ∧ ∀ i_, i_ < list.length → (fHyp list) i_ = (fHyp list) i_ ∨ (AV.idsL ((fHyp list) i_) = [] ∧ leL (fun _ => none) false ((fHyp list) i_) ((fHyp list) i_))) ∧ True, ¬ ((hyTx list) ≠ s)] ⟨⟨(implValidHyps_ok list (by rw [hfin]; exact hok)), ⟨(fun h => by cases h), rfl, rfl, fun i _ => .inl rfl⟩, trivial⟩, ⟨(HypsText_ok list (by rw [hfin]; exact hok)), ⟨(fun h => by cases h), rfl, rfl, fun i _ => .inl rfl⟩, trivial⟩, (fun hq => hq (by first | (rw [hfin]; exact hsi.symm) | exact hsn)), trivial⟩ ?_
    refine x_false rfl ?_
    refine x_skip ?_
    refine xe_then ?_
    refine xR [] [2, 3] [704] [.arr 704, Bv true] [some (tAHyp list)] [] trivial ?_
    refine x_ret ?_
    refine xe_end (list, true) (show (∀ xs, okHyps xs → s = hyTx xs → list = xs) ∧ (true = true) ∧ (True) from ⟨(by first | (exact fun x2 h2 q2 => hfin.trans (huq x2 h2 q2)) | (exact fun x2 h2 q2 => hx0.symm.trans (huq x2 h2 q2))), (by rfl), trivial⟩) (trivial) (.tup [.arr 704, Bv true]) (by kernel_rfl) (.inr ⟨⟨(fun _ => rfl), rfl, rfl, fun i _ => .inl rfl⟩, ⟨rfl, rfl⟩⟩) (fun _ => rfl) (fun _ => (by simp [tagged, taggedL, tagHyp]))
  obtain ⟨⟨v, c⟩, ⟨hh0, hh1, _⟩, hc⟩ := hh
  exact ⟨v, c, hh0, hh1, hc⟩



theorem hasHL_iff {xs : List Hyp} {l : ByteArray} : hasHL xs l = true ↔ ∃ h ∈ xs, h.Label = l := by
  unfold hasHL
  rw [anyN_iff]
  constructor
  · rintro ⟨j, hj, h⟩; exact ⟨_, at_mem hj, of_decide_eq_true h⟩
  · rintro ⟨h, hm, e⟩
    obtain ⟨j, hj, q⟩ := List.getElem_of_mem hm
    exact ⟨j, hj, decide_eq_true (by rw [at_eq hj, q]; exact e)⟩
theorem pick_or (most : Int) (xs : List Hyp) (k : Nat) : (pickH most xs (k + 1) = pickH most xs k ++ [at_ xs k] ∧ ((pickH most xs k).length : Int) < most ∧ hasHL (pickH most xs k) (at_ xs k).Label = false) ∨ (pickH most xs (k + 1) = pickH most xs k ∧ ¬ (((pickH most xs k).length : Int) < most ∧ hasHL (pickH most xs k) (at_ xs k).Label = false)) := by
  by_cases h : ((pickH most xs k).length : Int) < most ∧ hasHL (pickH most xs k) (at_ xs k).Label = false
  · exact .inl ⟨if_pos h, h⟩
  · exact .inr ⟨if_neg h, h⟩
theorem pick_sub (most : Int) (xs : List Hyp) : ∀ k, k ≤ xs.length → List.Sublist (pickH most xs k) (xs.take k)
  | 0, _ => by simp [pickH]
  | k + 1, h => by
    have ih := pick_sub most xs k (by omega)
    rw [List.take_succ_eq_append_getElem (by omega), ← at_eq (by omega)]
    rcases pick_or most xs k with q | q
    · rw [q.1]; exact ih.append (List.Sublist.refl _)
    · rw [q.1]; exact ih.trans (List.sublist_append_left _ _)
theorem pick_le (most : Int) (xs : List Hyp) (hm : 0 ≤ most) : ∀ k, ((pickH most xs k).length : Int) ≤ most
  | 0 => by simpa [pickH] using hm
  | k + 1 => by
    have ih := pick_le most xs hm k
    rcases pick_or most xs k with q | q
    · rw [q.1, List.length_append]; simp; omega
    · rw [q.1]; exact ih
theorem pick_lab (most : Int) (xs : List Hyp) : ∀ k, (pickH most xs k).Pairwise fun x y => x.Label ≠ y.Label
  | 0 => by simp [pickH]
  | k + 1 => by
    have ih := pick_lab most xs k
    rcases pick_or most xs k with q | q
    · rw [q.1, List.pairwise_append]
      refine ⟨ih, by simp, fun a ha b hb => ?_⟩
      rw [List.mem_singleton] at hb
      subst hb
      intro e
      have := hasHL_iff.2 ⟨a, ha, e⟩
      rw [q.2.2] at this; cases this
    · rw [q.1]; exact ih
theorem pick_grow (most : Int) (xs : List Hyp) (k : Nat) : (∀ h ∈ pickH most xs k, h ∈ pickH most xs (k + 1)) ∧ (pickH most xs k).length ≤ (pickH most xs (k + 1)).length := by
  rcases pick_or most xs k with q | q
  · rw [q.1]; exact ⟨fun h hh => List.mem_append_left _ hh, by simp⟩
  · rw [q.1]; exact ⟨fun h hh => hh, Nat.le_refl _⟩
theorem pick_has (most : Int) (xs : List Hyp) : ∀ k j, j < k → ((pickH most xs k).length : Int) < most → hasHL (pickH most xs k) (at_ xs j).Label = true
  | 0, j, h, _ => absurd h (Nat.not_lt_zero _)
  | k + 1, j, h, hl => by
    have g := pick_grow most xs k
    by_cases e : j = k
    · subst e
      rcases pick_or most xs j with q | q
      · exact hasHL_iff.2 ⟨at_ xs j, by rw [q.1]; simp, rfl⟩
      · rw [q.1] at hl ⊢
        cases hq : hasHL (pickH most xs j) (at_ xs j).Label with
        | true => rfl
        | false => exact absurd ⟨hl, hq⟩ q.2
    · obtain ⟨h1, hh, he⟩ := hasHL_iff.1 (pick_has most xs k j (by omega) (by omega))
      exact hasHL_iff.2 ⟨h1, g.1 _ hh, he⟩
theorem pick_min (most : Int) {xs : List Hyp} (hs : xs.Pairwise fun x y => x.Cost ≤ y.Cost) : ∀ k, k ≤ xs.length → ∀ h ∈ pickH most xs k, ∀ j, j < xs.length → (at_ xs j).Label = h.Label → h.Cost ≤ (at_ xs j).Cost
  | 0, _, h, hh, _, _, _ => by simp [pickH] at hh
  | k + 1, hk, h, hh, j, hj, e => by
    have ih := pick_min most hs k (by omega)
    rcases pick_or most xs k with q | q
    · rw [q.1, List.mem_append, List.mem_singleton] at hh
      rcases hh with hh | hh
      · exact ih h hh j hj e
      · subst hh
        by_cases h1 : j < k
        · have := pick_has most xs k j h1 q.2.1
          rw [e, q.2.2] at this; cases this
        · by_cases h2 : j = k
          · subst h2; exact Int.le_refl _
          · exact pw_get hs (show k < j by omega) hj
    · rw [q.1] at hh; exact ih h hh j hj e
theorem hypL_facts {most : Int} {xs : List Hyp} (hm : 0 ≤ most) : (∀ h ∈ hypL most xs, h ∈ xs) ∧ ((hypL most xs).length : Int) ≤ most ∧ ((hypL most xs).Pairwise fun x y => x.Label ≠ y.Label) ∧ ((hypL most xs).Pairwise fun x y => cmpH x y < 0) ∧ (∀ h ∈ hypL most xs, ∀ x ∈ xs, x.Label = h.Label → h.Cost ≤ x.Cost) ∧ (1 ≤ most → 0 < xs.length → 0 < (hypL most xs).length) := by
  have hl := isoL_len cmpH xs xs.length
  have hsub := pick_sub most (isoL cmpH xs xs.length) xs.length (by omega)
  rw [List.take_of_length_le (by omega)] at hsub
  have hmem : ∀ h ∈ hypL most xs, h ∈ isoL cmpH xs xs.length := fun h hh => hsub.subset hh
  have hord := isoL_ord (c := cmpH) cmpH_w (B := fun _ _ => True) (xs := xs) (List.pairwise_of_forall fun _ _ => trivial) xs.length (Nat.le_refl _)
  have hco : (isoL cmpH xs xs.length).Pairwise fun x y => x.Cost ≤ y.Cost := hord.imp fun {x y} h => by
    rcases h with h | h
    · rcases cmpH_neg.1 h with q | q <;> omega
    · have q := h.1
      rw [cmpH_eq] at q
      by_cases e : cmpI x.Cost y.Cost = 0
      · rw [cmpI_zero] at e; omega
      · rw [if_neg e] at q; exact absurd q e
  refine ⟨fun h hh => isoL_mem.1 (hmem h hh), pick_le most _ hm _, pick_lab most _ _, ?_, ?_, ?_⟩
  · have h1 : (hypL most xs).Pairwise (ordR cmpH fun _ _ => True) := hord.sublist hsub
    have h2 := pick_lab most (isoL cmpH xs xs.length) xs.length
    exact (h1.and h2).imp fun {x y} h => by
      rcases h.1 with q | q
      · exact q
      · have q1 := q.1
        rw [cmpH_eq] at q1
        by_cases e : cmpI x.Cost y.Cost = 0
        · rw [if_pos e, cmpS_zero] at q1; exact absurd q1 h.2
        · rw [if_neg e] at q1; exact absurd q1 e
  · intro h hh x hx e
    obtain ⟨j, hj, q⟩ := List.getElem_of_mem (isoL_mem.2 hx)
    have := pick_min most hco xs.length (by omega) h hh j hj (by rw [at_eq hj, q]; exact e)
    rw [at_eq hj, q] at this
    exact this
  · intro h1 h2
    rcases Nat.eq_zero_or_pos (hypL most xs).length with e | e
    · have := pick_has most (isoL cmpH xs xs.length) xs.length 0 h2 (by unfold hypL at e; omega)
      obtain ⟨h, hh, _⟩ := hasHL_iff.1 this
      have : 0 < (hypL most xs).length := List.length_pos_of_mem hh
      omega
    · exact e

theorem pick_0 {most : Int} (hm : 0 < most) (xs : List Hyp) : ∀ k, at_ (pickH most xs (k + 1)) 0 = at_ xs 0 ∧ 0 < (pickH most xs (k + 1)).length
  | 0 => by
    have e : pickH most xs 1 = [] ++ [at_ xs 0] := if_pos ⟨by simpa [pickH] using hm, by unfold hasHL; exact anyN_none fun j hj => absurd hj (Nat.not_lt_zero _)⟩
    rw [e]; exact ⟨rfl, by simp⟩
  | k + 1 => by
    have ih := pick_0 hm xs k
    rcases pick_or most xs (k + 1) with q | q
    · rw [q.1]
      exact ⟨by rw [at_left ih.2]; exact ih.1, by simp⟩
    · rw [q.1]; exact ih
theorem hypL_min {most : Int} (hm : 0 < most) {xs : List Hyp} : ∀ x ∈ xs, (at_ (hypL most xs) 0).Cost ≤ x.Cost := fun x hx => by
  have hlen : 0 < xs.length := List.length_pos_of_mem hx
  have hl := isoL_len cmpH xs xs.length
  obtain ⟨n, hn⟩ : ∃ n, xs.length = n + 1 := ⟨xs.length - 1, by omega⟩
  have e : at_ (hypL most xs) 0 = at_ (isoL cmpH xs xs.length) 0 := by
    unfold hypL
    have := (pick_0 hm (isoL cmpH xs xs.length) n).1
    rw [← hn] at this
    exact this
  rw [e]
  obtain ⟨j, hj, q⟩ := List.getElem_of_mem (isoL_mem (c := cmpH).2 hx)
  rw [← q, ← at_eq hj]
  have hord := isoL_ord (c := cmpH) cmpH_w (B := fun _ _ => True) (xs := xs) (List.pairwise_of_forall fun _ _ => trivial) xs.length (Nat.le_refl _)
  rcases Nat.eq_zero_or_pos j with h0 | h0
  · rw [h0]; exact Int.le_refl _
  · have h := pw_get hord (show 0 < j by omega) hj
    have h2 : cmpH (at_ (isoL cmpH xs xs.length) 0) (at_ (isoL cmpH xs xs.length) j) ≤ 0 := by
      rcases h with h | h
      · omega
      · have := h.1; omega
    by_cases hlt : cmpH (at_ (isoL cmpH xs xs.length) 0) (at_ (isoL cmpH xs xs.length) j) < 0
    · rcases cmpH_neg.1 hlt with q | q <;> omega
    · have := cmpH_tot _ _ (show cmpH (at_ (isoL cmpH xs xs.length) 0) (at_ (isoL cmpH xs xs.length) j) = 0 by omega)
      rw [this]; exact Int.le_refl _
theorem okHyps_merge {a b : List Hyp} (ha : okHb a) (hb : okHb b) : okHyps (hypL 8 (a ++ b)) := by
  have f := hypL_facts (most := 8) (xs := a ++ b) (by decide)
  refine ⟨by have := f.2.1; omega, fun i hi => ?_, f.2.2.2.1, f.2.2.1⟩
  rcases List.mem_append.1 (f.1 _ (at_mem hi)) with q | q
  · have := ha.1 _ q; exact ⟨this.1, this.2.1, by omega⟩
  · have := hb.1 _ q; exact ⟨this.1, this.2.1, by omega⟩


-- laws.FnHyps
theorem fnHyps_con (code : List Int) (more : List Int) (ok_code : ∀ y ∈ code, inR .u8 y) (ok_more : ∀ y ∈ more, inR .u8 y) : Con Tryz.prog 3 [slU8 false code, slU8 false more] true (Bv true) := by
  refine fn_ok (fn := Tryz.f3) (nt := 222) Tryz.func3 rfl rfl rfl rfl (by simp [taggedL, tagged, tagU8]) fun B hB => ?_
  refine aw_lens (x := slU8 false code) 0 rfl (fun len_code => ?_)
  simp [LenOK, LenL, cU8, fU8, slU8] at len_code
  refine aw_lens (x := slU8 false more) 1 rfl (fun len_more => ?_)
  simp [LenOK, LenL, cU8, fU8, slU8] at len_more
  refine aR [] [0, 1] [] [slU8 false code, slU8 false more] [] [] hB trivial ?_
  refine aw_seq ?_
  refine aw_seq ?_
  rcases Bool.eq_false_or_eq_true (decide (3000 < (code.length : Int) ∨ 3000 < (more.length : Int))) with h1 | h1
  ·refine aw_r [(2, .call [(true, .any), (true, .any)] true (Bv true))] [0, 1, 28] [] [slU8 false code, slU8 false more, Bv true] [] [Con Tryz.prog 4 [slU8 false code, slU8 false more] true (Bv true) ∧ True] hB ⟨⟨(con_bool h1 (a2Long_ok code more)), trivial⟩, trivial⟩ ?_
   refine ae_then ?_
   refine aw_true rfl ?_
   refine aR [] [4] [] [Bv true] [] [] hB trivial ?_
   refine aw_ret ?_
   refine ae_ret_then ?_
   refine ae_ret hB (Bv true) (by kernel_rfl) (.inl rfl) rfl (fun _ => trivial)
  have hc : (∀ j, j < code.length → 0 ≤ at_ code j ∧ at_ code j ≤ 255) ∧ code.length ≤ 4611686018427387904 := ⟨fun j hj => ok_code _ (at_mem hj), by first | omega | (simp at h1; omega)⟩
  have hmore : (∀ j, j < more.length → 0 ≤ at_ more j ∧ at_ more j ≤ 255) ∧ more.length ≤ 4611686018427387904 := ⟨fun j hj => ok_more _ (at_mem hj), by first | omega | (simp at h1; omega)⟩
  refine aw_r [(2, .call [(true, .any), (true, .any)] true (Bv false))] [0, 1, 28] [] [slU8 false code, slU8 false more, Bv false] [] [Con Tryz.prog 4 [slU8 false code, slU8 false more] true (Bv false) ∧ True] hB ⟨⟨(con_bool h1 (a2Long_ok code more)), trivial⟩, trivial⟩ ?_
  refine ae_then ?_
  refine aw_false rfl ?_
  refine aw_skip ?_
  refine ae_then ?_
  refine aw_seq ?_
  obtain ⟨v_1, hx1_0, hx1_1, hc1⟩ := A2Hyps_ok code (by assumption)
  have hok0 := hx1_0
  have hln0 := hx1_1
  have hoy0 := okHb_ok hok0 (by omega)
  refine aw_r [(1, .call [(true, .any)] false (slHyp false v_1))] [1, 5] [] [slU8 false more, slHyp false v_1] [] [Con Tryz.prog 5 [slU8 false code] false (slHyp false v_1) ∧ True] hB ⟨⟨hc1, trivial⟩, trivial⟩ ?_
  refine ae_then ?_
  refine aw_seq ?_
  obtain ⟨v_2, hx2_0, hx2_1, hc2⟩ := A2Hyps_ok more (by assumption)
  have hok1 := hx2_0
  have hln1 := hx2_1
  have hoy1 := okHb_ok hok1 (by omega)
  have hdb := a2At_bd more 0 (n := 200) (by decide)
  have hf := hypL_facts (most := 8) (xs := v_1 ++ v_2) (by decide)
  have hmk := okHyps_merge hok0 hok1
  have hm0 := hypL_min (most := 8) (by decide) (xs := v_1 ++ v_2)
  refine aw_r [(1, .call [(true, .any)] false (slHyp false v_2))] [1, 5, 6] [] [slU8 false more, slHyp false v_1, slHyp false v_2] [] [Con Tryz.prog 5 [slU8 false more] false (slHyp false v_2) ∧ True] hB ⟨⟨hc2, trivial⟩, trivial⟩ ?_
  refine ae_then ?_
  refine aw_seq ?_
  obtain ⟨v_3, c_3, hx3_0, hx3_1, hc3⟩ := MergeHyps_ok v_1 v_2 8 hoy0 hoy1 rfl
  have hmv : v_3 = hypL 8 (v_1 ++ v_2) := hx3_0
  have hone := hx3_1
  rw [← hmv] at hf hmk hm0
  refine aw_r [(2, .call [(true, .any), (true, .any), (true, .any)] true (.tup [slHyp true v_3, I c_3]))] [1, 5, 6, 7, 8] [] [slU8 false more, slHyp false v_1, slHyp false v_2, slHyp true v_3, I c_3] [] [Con Tryz.prog 6 [slHyp false v_1, slHyp false v_2, I 8] true (.tup [slHyp true v_3, I c_3]) ∧ True] hB ⟨⟨hc3, trivial⟩, trivial⟩ ?_
  refine ae_then ?_
  refine aw_seq ?_
  refine aR [(1, .dec false), (4, .call [(false, slHyp false v_3)] true (Bv true))] [1, 5, 6, 7, 45] [] [slU8 false more, slHyp false v_1, slHyp false v_2, slHyp true v_3, Bv false] [] [¬ (c_3 ≠ 0), Con Tryz.prog 7 [slHyp false v_3] true (Bv true) ∧ ((false = true → true = true) ∧ 2 = 2 ∧ v_3.length = v_3.length ∧ ∀ i_, i_ < v_3.length → (fHyp v_3) i_ = (fHyp v_3) i_ ∨ (AV.idsL ((fHyp v_3) i_) = [] ∧ leL (fun _ => none) false ((fHyp v_3) i_) ((fHyp v_3) i_))) ∧ True] hB ⟨(fun hq => hq hone), ⟨(specValidHyps_ok v_3 hmk), ⟨(fun h => by cases h), rfl, rfl, fun i _ => .inl rfl⟩, trivial⟩, trivial⟩ ?_
  refine aw_false rfl ?_
  refine aw_skip ?_
  refine ae_then ?_
  refine aw_seq ?_
  refine aR [] [1, 5, 6, 7, 9] [] [slU8 false more, slHyp false v_1, slHyp false v_2, slHyp true v_3, I 0] [] [] hB trivial ?_
  refine aw_block ?_
  refine aw_loop (fun gn gσ => ∃ (i : Int), gn = ((v_3.length : Int) - i).toNat ∧ (0 ≤ i ∧ i ≤ (v_3.length : Int)) ∧ gσ = mkS [(1, slU8 false more), (5, slHyp false v_1), (6, slHyp false v_2), (7, slHyp true v_3), (9, I i)] []) (((v_3.length : Int) - 0).toNat) ⟨0, rfl, (by omega), rfl⟩ (fun gn gσ hI => ?_)
  obtain ⟨i, rfl, hi0, rfl⟩ := hI
  refine aw_seq ?_
  refine aw_seq ?_
  by_cases h2 : i < (v_3.length : Int)
  ·have hi : i.toNat < v_3.length := by omega
   have hmi := at_mem hi
   have hab := List.mem_append.1 (hf.1 _ hmi)
   have hmn := hf.2.2.2.2.1 _ hmi
   refine aw_r [(3, .dec true)] [1, 5, 6, 7, 9, 49] [] [slU8 false more, slHyp false v_1, slHyp false v_2, slHyp true v_3, I i, Bv true] [] [i < (v_3.length : Int)] hB ⟨h2, trivial⟩ ?_
   refine ae_then ?_
   refine aw_true rfl ?_
   refine aw_skip ?_
   refine ae_then ?_
   refine aw_seq ?_
   refine aw_block ?_
   refine aw_seq ?_
   obtain ⟨v_4, c_4, hx4_0, hx4_1, hc4⟩ := specCostOf_ok v_1 ((at_ v_3 i.toNat).Label) hoy0
   have hca0 := hx4_0
   have hcb0 := hx4_1
   refine aw_r [(6, .call [(true, .any), (true, .any)] true (.tup [I v_4, I c_4]))] [1, 5, 6, 7, 9, 10, 11] [] [slU8 false more, slHyp false v_1, slHyp false v_2, slHyp true v_3, I i, I v_4, I c_4] [] [(0 : Int) ≤ i ∧ i < (v_3.length : Int), Con Tryz.prog 8 [slHyp false v_1, Sv ((at_ v_3 i.toNat).Label)] true (.tup [I v_4, I c_4]) ∧ True] hB ⟨⟨(by omega), (by omega)⟩, ⟨hc4, trivial⟩, trivial⟩ ?_
   refine ae_then ?_
   refine aw_seq ?_
   obtain ⟨v_5, c_5, hx5_0, hx5_1, hc5⟩ := specCostOf_ok v_2 ((at_ v_3 i.toNat).Label) hoy1
   have hca1 := hx5_0
   have hcb1 := hx5_1
   refine aw_r [(6, .call [(true, .any), (true, .any)] true (.tup [I v_5, I c_5]))] [1, 5, 6, 7, 9, 10, 11, 12, 13] [] [slU8 false more, slHyp false v_1, slHyp false v_2, slHyp true v_3, I i, I v_4, I c_4, I v_5, I c_5] [] [(0 : Int) ≤ i ∧ i < (v_3.length : Int), Con Tryz.prog 8 [slHyp false v_2, Sv ((at_ v_3 i.toNat).Label)] true (.tup [I v_5, I c_5]) ∧ True] hB ⟨⟨(by omega), (by omega)⟩, ⟨hc5, trivial⟩, trivial⟩ ?_
   refine ae_then ?_
   refine aw_seq ?_
   by_cases h3 : c_4 = 0
   ·have htw0 := h3
    by_cases h4 : c_5 = 0
    ·have htw1 := h4
     refine aw_r [(1, .dec false), (8, .dec true), (16, .dec false), (21, .dec true), (29, .dec false)] [1, 5, 6, 7, 9, 103] [] [slU8 false more, slHyp false v_1, slHyp false v_2, slHyp true v_3, I i, Bv false] [] [¬ (c_4 ≠ 0), c_4 = 0, (0 : Int) ≤ i ∧ i < (v_3.length : Int), ¬ (v_4 < ((at_ v_3 i.toNat).Cost)), c_5 = 0, (0 : Int) ≤ i ∧ i < (v_3.length : Int), ¬ (v_5 < ((at_ v_3 i.toNat).Cost))] hB ⟨(fun hq => hq h3), h3, ⟨(by omega), (by omega)⟩, (by obtain ⟨h_, hm_, q1_, q2_⟩ := hca0 htw0; have q3_ := hmn h_ (List.mem_append_left _ hm_) q1_; omega), h4, ⟨(by omega), (by omega)⟩, (by obtain ⟨h_, hm_, q1_, q2_⟩ := hca1 htw1; have q3_ := hmn h_ (List.mem_append_right _ hm_) q1_; omega), trivial⟩ ?_
     refine ae_then ?_
     refine aw_false rfl ?_
     refine aw_skip ?_
     refine ae_block 1 ?_
     refine ae_then ?_
     refine aw_r [] [1, 5, 6, 7, 9] [] [slU8 false more, slHyp false v_1, slHyp false v_2, slHyp true v_3, I (i + 1)] [] [inR .i64 (i + 1)] hB ⟨(inR_i64 (by omega) (by omega)), trivial⟩ ?_
     exact ae_again _ (by omega) ⟨(i + 1), rfl, (by omega), rfl⟩
    have htw1 := h4
    refine aw_r [(1, .dec false), (8, .dec true), (16, .dec false), (21, .dec false)] [1, 5, 6, 7, 9, 103] [] [slU8 false more, slHyp false v_1, slHyp false v_2, slHyp true v_3, I i, Bv false] [] [¬ (c_4 ≠ 0), c_4 = 0, (0 : Int) ≤ i ∧ i < (v_3.length : Int), ¬ (v_4 < ((at_ v_3 i.toNat).Cost)), ¬ (c_5 = 0)] hB ⟨(fun hq => hq h3), h3, ⟨(by omega), (by omega)⟩, (by obtain ⟨h_, hm_, q1_, q2_⟩ := hca0 htw0; have q3_ := hmn h_ (List.mem_append_left _ hm_) q1_; omega), h4, trivial⟩ ?_
    refine ae_then ?_
    refine aw_false rfl ?_
    refine aw_skip ?_
    refine ae_block 1 ?_
    refine ae_then ?_
    refine aw_r [] [1, 5, 6, 7, 9] [] [slU8 false more, slHyp false v_1, slHyp false v_2, slHyp true v_3, I (i + 1)] [] [inR .i64 (i + 1)] hB ⟨(inR_i64 (by omega) (by omega)), trivial⟩ ?_
    exact ae_again _ (by omega) ⟨(i + 1), rfl, (by omega), rfl⟩
   have htw0 := h3
   by_cases h5 : c_5 = 0
   ·have htw1 := h5
    refine aw_r [(1, .dec true), (4, .dec false), (8, .dec false), (21, .dec true), (29, .dec false)] [1, 5, 6, 7, 9, 103] [] [slU8 false more, slHyp false v_1, slHyp false v_2, slHyp true v_3, I i, Bv false] [] [c_4 ≠ 0, ¬ (c_5 ≠ 0), ¬ (c_4 = 0), c_5 = 0, (0 : Int) ≤ i ∧ i < (v_3.length : Int), ¬ (v_5 < ((at_ v_3 i.toNat).Cost))] hB ⟨h3, (fun hq => hq h5), h3, h5, ⟨(by omega), (by omega)⟩, (by obtain ⟨h_, hm_, q1_, q2_⟩ := hca1 htw1; have q3_ := hmn h_ (List.mem_append_right _ hm_) q1_; omega), trivial⟩ ?_
    refine ae_then ?_
    refine aw_false rfl ?_
    refine aw_skip ?_
    refine ae_block 1 ?_
    refine ae_then ?_
    refine aw_r [] [1, 5, 6, 7, 9] [] [slU8 false more, slHyp false v_1, slHyp false v_2, slHyp true v_3, I (i + 1)] [] [inR .i64 (i + 1)] hB ⟨(inR_i64 (by omega) (by omega)), trivial⟩ ?_
    exact ae_again _ (by omega) ⟨(i + 1), rfl, (by omega), rfl⟩
   have htw1 := h5
   refine aw_r [(1, .dec true), (4, .dec true)] [1, 5, 6, 7, 9, 103] [] [slU8 false more, slHyp false v_1, slHyp false v_2, slHyp true v_3, I i, Bv true] [] [c_4 ≠ 0, c_5 ≠ 0] hB ⟨h3, h5, trivial⟩ ?_
   refine ae_then ?_
   refine aw_true rfl ?_
   refine aR [] [4] [] [Bv false] [] [] hB trivial ?_
   refine aw_ret ?_
   refine ae_ret_block (ae_ret_then (ae_ret_then (ae_ret_block (ae_ret_then ?_))))
   refine ae_ret hB (Bv false) (by kernel_rfl) (.inl (by first | rfl | (refine congrArg Bv ?_; simp [*]; done) | (exfalso; rcases hab with q | q; (exact htw0 (hcb0 ⟨_, q, rfl⟩)); (exact htw1 (hcb1 ⟨_, q, rfl⟩))) | (exfalso; simp_all; done))) rfl (fun _ => trivial)
  refine aw_r [(3, .dec false)] [1, 5, 6, 7, 9, 49] [] [slU8 false more, slHyp false v_1, slHyp false v_2, slHyp true v_3, I i, Bv false] [] [¬ (i < (v_3.length : Int))] hB ⟨h2, trivial⟩ ?_
  refine ae_then ?_
  refine aw_false rfl ?_
  refine aw_exit ?_
  refine ae_exit_then ?_
  refine ae_exit_then ?_
  refine ae_exit_same ?_
  refine ae_then ?_
  refine aw_seq ?_
  obtain ⟨v_6, c_6, hx6_0, hc6⟩ := BestHyp_ok v_3 hmk
  have hbs := hx6_0
  refine aw_r [(1, .call [(false, slHyp false v_3)] false (.tup [agHyp v_6, I c_6])), (5, .new 14)] [1, 5, 14, 15] [14] [slU8 false more, slHyp false v_1, .ref 14 0, I c_6] [some (bxHyp v_6)] [Con Tryz.prog 9 [slHyp false v_3] false (.tup [agHyp v_6, I c_6]) ∧ ((false = true → true = true) ∧ 2 = 2 ∧ v_3.length = v_3.length ∧ ∀ i_, i_ < v_3.length → (fHyp v_3) i_ = (fHyp v_3) i_ ∨ (AV.idsL ((fHyp v_3) i_) = [] ∧ leL (fun _ => none) false ((fHyp v_3) i_) ((fHyp v_3) i_))) ∧ True] hB ⟨⟨hc6, ⟨(fun h => by cases h), rfl, rfl, fun i _ => .inl rfl⟩, trivial⟩, trivial⟩ ?_
  refine ae_then ?_
  refine aw_seq ?_
  refine aw_seq ?_
  by_cases h6 : 0 < (v_1.length : Int)
  ·have hmp : 0 < v_3.length := hf.2.2.2.2.2 (by decide) (by rw [List.length_append]; omega)
   have hbv := hbs hmp
   have hbe : v_6.Cost ≤ (at_ v_1 0).Cost := by rw [hbv.1]; exact hm0 _ (List.mem_append_left _ (at_mem (by omega)))
   refine aw_r [(2, .dec true), (5, .dec false), (13, .dec false)] [1, 5, 124] [] [slU8 false more, slHyp false v_1, Bv false] [] [0 < (v_1.length : Int), ¬ (c_6 ≠ 0), (0 : Int) ≤ 0 ∧ 0 < (v_1.length : Int), ¬ (((at_ v_1 0).Cost) < v_6.Cost)] hB ⟨h6, (fun hq => hq hbv.2), ⟨(by omega), (by omega)⟩, (by omega), trivial⟩ ?_
   refine ae_then ?_
   refine aw_false rfl ?_
   refine aw_skip ?_
   refine ae_then ?_
   refine aR [(1, .call [(true, .any), (true, .any), (true, .any)] true (I (a2AtI more 0 200)))] [5, 16] [] [slHyp false v_1, I (a2AtI more 0 200)] [] [Con Tryz.prog 10 [slU8 false more, I 0, I 200] true (I (a2AtI more 0 200)) ∧ True] hB ⟨⟨(a2At_ok more 0 200 hmore.1 (by omega)), trivial⟩, trivial⟩ ?_
   refine aw_seq ?_
   obtain ⟨v_7, c_7, hx7_0, hx7_1, hc7⟩ := RaiseHyps_ok v_1 (a2AtI more 0 200) hok0 (by omega) (by omega)
   have hup : v_7 = v_1.map (rsH (a2AtI more 0 200)) := hx7_0
   have h5_ := hx7_1
   have huo : okHyps v_7 := by rw [hup]; exact okHyps_rs hok0 (by omega) (by omega)
   have hul : v_7.length = v_1.length := by rw [hup, List.length_map]
   refine aw_r [(2, .call [(true, .any), (true, .any)] true (.tup [slHyp true v_7, I c_7]))] [5, 16, 17, 18] [] [slHyp false v_1, I (a2AtI more 0 200), slHyp true v_7, I c_7] [] [Con Tryz.prog 11 [slHyp false v_1, I (a2AtI more 0 200)] true (.tup [slHyp true v_7, I c_7]) ∧ True] hB ⟨⟨hc7, trivial⟩, trivial⟩ ?_
   refine ae_then ?_
   refine aR [(1, .call [(true, .any)] true (.tup [I ((mgR v_1).1), I ((mgR v_1).2)]))] [5, 16, 17, 18, 19, 20] [] [slHyp false v_1, I (a2AtI more 0 200), slHyp true v_7, I c_7, I ((mgR v_1).1), I ((mgR v_1).2)] [] [Con Tryz.prog 12 [slHyp false v_1] true (.tup [I ((mgR v_1).1), I ((mgR v_1).2)]) ∧ True] hB ⟨⟨(MarginOf_ok v_1 hoy0), trivial⟩, trivial⟩ ?_
   refine aR [(1, .call [(false, slHyp false v_7)] true (.tup [I ((mgR v_7).1), I ((mgR v_7).2)]))] [5, 16, 17, 18, 19, 20, 21, 22] [] [slHyp false v_1, I (a2AtI more 0 200), slHyp true v_7, I c_7, I ((mgR v_1).1), I ((mgR v_1).2), I ((mgR v_7).1), I ((mgR v_7).2)] [] [Con Tryz.prog 12 [slHyp false v_7] true (.tup [I ((mgR v_7).1), I ((mgR v_7).2)]) ∧ ((false = true → true = true) ∧ 2 = 2 ∧ v_7.length = v_7.length ∧ ∀ i_, i_ < v_7.length → (fHyp v_7) i_ = (fHyp v_7) i_ ∨ (AV.idsL ((fHyp v_7) i_) = [] ∧ leL (fun _ => none) false ((fHyp v_7) i_) ((fHyp v_7) i_))) ∧ True] hB ⟨⟨(MarginOf_ok v_7 huo), ⟨(fun h => by cases h), rfl, rfl, fun i _ => .inl rfl⟩, trivial⟩, trivial⟩ ?_
   refine aw_seq ?_
   obtain ⟨v_8, c_8, hx8_0, hx8_1, hc8⟩ := ReadHyps_ok (hyTx v_1) ⟨_, hoy0, rfl⟩
   have hrd : v_8 = v_1 := hx8_0 _ hoy0 rfl
   have hrc := hx8_1
   refine aw_r [(1, .call [(true, .any)] true (Sv (hyTx v_1))), (2, .call [(true, .any)] true (.tup [slHyp true v_8, Bv c_8]))] [5, 16, 17, 18, 19, 20, 21, 22, 23, 24] [] [slHyp false v_1, I (a2AtI more 0 200), slHyp true v_7, I c_7, I ((mgR v_1).1), I ((mgR v_1).2), I ((mgR v_7).1), I ((mgR v_7).2), slHyp true v_8, Bv c_8] [] [Con Tryz.prog 14 [slHyp false v_1] true (Sv (hyTx v_1)) ∧ True, Con Tryz.prog 13 [Sv (hyTx v_1)] true (.tup [slHyp true v_8, Bv c_8]) ∧ True] hB ⟨⟨(HypsText_ok v_1 hoy0), trivial⟩, ⟨hc8, trivial⟩, trivial⟩ ?_
   refine ae_then ?_
   refine aw_seq ?_
   refine aw_seq ?_
   obtain rfl : c_8 = true := hrc
   refine aw_r [(1, .dec false), (5, .dec false), (10, .dec false), (21, .dec false), (28, .dec false)] [5, 16, 17, 23, 178] [] [slHyp false v_1, I (a2AtI more 0 200), slHyp true v_7, slHyp true v_8, Bv false] [] [¬ (c_7 ≠ 0), ¬ (((mgR v_1).2) ≠ ((mgR v_7).2)), ¬ (((mgR v_1).1) ≠ ((mgR v_7).1)), ¬ ((v_8.length : Int) ≠ (v_1.length : Int)), ¬ ((v_7.length : Int) ≠ (v_1.length : Int))] hB ⟨(fun hq => hq h5_), (fun hq => hq (by rw [hup, mgR_rs])), (fun hq => hq (by rw [hup, mgR_rs])), (fun hq => hq (by first | (rw [hrd]; done) | omega | (rw [hrd]; omega))), (fun hq => hq (by first | (rw [hrd]; done) | omega | (rw [hrd]; omega))), trivial⟩ ?_
   refine ae_then ?_
   refine aw_false rfl ?_
   refine aw_skip ?_
   refine ae_then ?_
   refine aw_seq ?_
   refine aR [] [5, 16, 17, 23, 25] [] [slHyp false v_1, I (a2AtI more 0 200), slHyp true v_7, slHyp true v_8, I 0] [] [] hB trivial ?_
   refine aw_block ?_
   refine aw_loop (fun gn gσ => ∃ (jq : Int), gn = ((v_1.length : Int) - jq).toNat ∧ (0 ≤ jq ∧ jq ≤ (v_1.length : Int)) ∧ gσ = mkS [(5, slHyp false v_1), (16, I (a2AtI more 0 200)), (17, slHyp true v_7), (23, slHyp true v_8), (25, I jq)] []) (((v_1.length : Int) - 0).toNat) ⟨0, rfl, (by omega), rfl⟩ (fun gn gσ hI => ?_)
   obtain ⟨jq, rfl, hj0, rfl⟩ := hI
   refine aw_seq ?_
   refine aw_seq ?_
   by_cases h7 : jq < (v_1.length : Int)
   ·have hi : jq.toNat < v_1.length := by omega
    have hui : at_ v_7 jq.toNat = rsH (a2AtI more 0 200) (at_ v_1 jq.toNat) := by rw [hup]; simp [at_, hi]
    have hu1 : (at_ v_7 jq.toNat).Label = (at_ v_1 jq.toNat).Label := by rw [hui]; rfl
    have hu2 : (at_ v_7 jq.toNat).Cost = (at_ v_1 jq.toNat).Cost + a2AtI more 0 200 := by rw [hui]; rfl
    have hcz := (hok0.1 _ (at_mem hi)).2
    have hr1 : at_ v_8 jq.toNat = at_ v_1 jq.toNat := by rw [hrd]
    have hri : jq.toNat < v_8.length := by rw [hrd]; exact hi
    have hui2 : jq.toNat < v_7.length := by omega
    refine aw_r [(3, .dec true)] [5, 16, 17, 23, 25, 182] [] [slHyp false v_1, I (a2AtI more 0 200), slHyp true v_7, slHyp true v_8, I jq, Bv true] [] [jq < (v_1.length : Int)] hB ⟨h7, trivial⟩ ?_
    refine ae_then ?_
    refine aw_true rfl ?_
    refine aw_skip ?_
    refine ae_then ?_
    refine aw_seq ?_
    refine aw_block ?_
    refine aR [(8, .dec false), (20, .dec false), (35, .dec false)] [5, 16, 17, 23, 25, 221] [] [slHyp false v_1, I (a2AtI more 0 200), slHyp true v_7, slHyp true v_8, I jq, Bv false] [] [(0 : Int) ≤ jq ∧ jq < (v_8.length : Int), (0 : Int) ≤ jq ∧ jq < (v_1.length : Int), ¬ (¬ (((at_ v_8 jq.toNat).Label) = ((at_ v_1 jq.toNat).Label) ∧ ((at_ v_8 jq.toNat).Cost) = ((at_ v_1 jq.toNat).Cost) ∧ True)), (0 : Int) ≤ jq ∧ jq < (v_7.length : Int), (0 : Int) ≤ jq ∧ jq < (v_1.length : Int), ¬ (((at_ v_7 jq.toNat).Label) ≠ ((at_ v_1 jq.toNat).Label)), (0 : Int) ≤ jq ∧ jq < (v_7.length : Int), (0 : Int) ≤ jq ∧ jq < (v_1.length : Int), inR .i64 (((at_ v_1 jq.toNat).Cost) + (a2AtI more 0 200)), ¬ (((at_ v_7 jq.toNat).Cost) ≠ (((at_ v_1 jq.toNat).Cost) + (a2AtI more 0 200)))] hB ⟨⟨(by omega), (by omega)⟩, ⟨(by omega), (by omega)⟩, (fun hq => hq (by rw [hr1]; exact ⟨rfl, rfl, trivial⟩)), ⟨(by omega), (by omega)⟩, ⟨(by omega), (by omega)⟩, (fun hq => hq (by first | exact hu1 | (rw [hr1]; done))), ⟨(by omega), (by omega)⟩, ⟨(by omega), (by omega)⟩, (inR_i64 (by omega) (by omega)), (fun hq => hq (by first | exact hu2 | (rw [hr1]; done))), trivial⟩ ?_
    refine aw_false rfl ?_
    refine aw_skip ?_
    refine ae_block 3 ?_
    refine ae_then ?_
    refine aw_r [] [5, 16, 17, 23, 25] [] [slHyp false v_1, I (a2AtI more 0 200), slHyp true v_7, slHyp true v_8, I (jq + 1)] [] [inR .i64 (jq + 1)] hB ⟨(inR_i64 (by omega) (by omega)), trivial⟩ ?_
    exact ae_again _ (by omega) ⟨(jq + 1), rfl, (by omega), rfl⟩
   refine aw_r [(3, .dec false)] [5, 16, 17, 23, 25, 182] [] [slHyp false v_1, I (a2AtI more 0 200), slHyp true v_7, slHyp true v_8, I jq, Bv false] [] [¬ (jq < (v_1.length : Int))] hB ⟨h7, trivial⟩ ?_
   refine ae_then ?_
   refine aw_false rfl ?_
   refine aw_exit ?_
   refine ae_exit_then ?_
   refine ae_exit_then ?_
   refine ae_exit_same ?_
   refine ae_then ?_
   refine aR [] [4] [] [Bv true] [] [] hB trivial ?_
   refine aw_ret ?_
   refine ae_ret hB (Bv true) (by kernel_rfl) (.inl rfl) rfl (fun _ => trivial)
  refine aw_r [(2, .dec false)] [1, 5, 124] [] [slU8 false more, slHyp false v_1, Bv false] [] [¬ (0 < (v_1.length : Int))] hB ⟨h6, trivial⟩ ?_
  refine ae_then ?_
  refine aw_false rfl ?_
  refine aw_skip ?_
  refine ae_then ?_
  refine aR [(1, .call [(true, .any), (true, .any), (true, .any)] true (I (a2AtI more 0 200)))] [5, 16] [] [slHyp false v_1, I (a2AtI more 0 200)] [] [Con Tryz.prog 10 [slU8 false more, I 0, I 200] true (I (a2AtI more 0 200)) ∧ True] hB ⟨⟨(a2At_ok more 0 200 hmore.1 (by omega)), trivial⟩, trivial⟩ ?_
  refine aw_seq ?_
  obtain ⟨v_9, c_9, hx9_0, hx9_1, hc9⟩ := RaiseHyps_ok v_1 (a2AtI more 0 200) hok0 (by omega) (by omega)
  have hup : v_9 = v_1.map (rsH (a2AtI more 0 200)) := hx9_0
  have h5_ := hx9_1
  have huo : okHyps v_9 := by rw [hup]; exact okHyps_rs hok0 (by omega) (by omega)
  have hul : v_9.length = v_1.length := by rw [hup, List.length_map]
  refine aw_r [(2, .call [(true, .any), (true, .any)] true (.tup [slHyp true v_9, I c_9]))] [5, 16, 17, 18] [] [slHyp false v_1, I (a2AtI more 0 200), slHyp true v_9, I c_9] [] [Con Tryz.prog 11 [slHyp false v_1, I (a2AtI more 0 200)] true (.tup [slHyp true v_9, I c_9]) ∧ True] hB ⟨⟨hc9, trivial⟩, trivial⟩ ?_
  refine ae_then ?_
  refine aR [(1, .call [(true, .any)] true (.tup [I ((mgR v_1).1), I ((mgR v_1).2)]))] [5, 16, 17, 18, 19, 20] [] [slHyp false v_1, I (a2AtI more 0 200), slHyp true v_9, I c_9, I ((mgR v_1).1), I ((mgR v_1).2)] [] [Con Tryz.prog 12 [slHyp false v_1] true (.tup [I ((mgR v_1).1), I ((mgR v_1).2)]) ∧ True] hB ⟨⟨(MarginOf_ok v_1 hoy0), trivial⟩, trivial⟩ ?_
  refine aR [(1, .call [(false, slHyp false v_9)] true (.tup [I ((mgR v_9).1), I ((mgR v_9).2)]))] [5, 16, 17, 18, 19, 20, 21, 22] [] [slHyp false v_1, I (a2AtI more 0 200), slHyp true v_9, I c_9, I ((mgR v_1).1), I ((mgR v_1).2), I ((mgR v_9).1), I ((mgR v_9).2)] [] [Con Tryz.prog 12 [slHyp false v_9] true (.tup [I ((mgR v_9).1), I ((mgR v_9).2)]) ∧ ((false = true → true = true) ∧ 2 = 2 ∧ v_9.length = v_9.length ∧ ∀ i_, i_ < v_9.length → (fHyp v_9) i_ = (fHyp v_9) i_ ∨ (AV.idsL ((fHyp v_9) i_) = [] ∧ leL (fun _ => none) false ((fHyp v_9) i_) ((fHyp v_9) i_))) ∧ True] hB ⟨⟨(MarginOf_ok v_9 huo), ⟨(fun h => by cases h), rfl, rfl, fun i _ => .inl rfl⟩, trivial⟩, trivial⟩ ?_
  refine aw_seq ?_
  obtain ⟨v_10, c_10, hx10_0, hx10_1, hc10⟩ := ReadHyps_ok (hyTx v_1) ⟨_, hoy0, rfl⟩
  have hrd : v_10 = v_1 := hx10_0 _ hoy0 rfl
  have hrc := hx10_1
  refine aw_r [(1, .call [(true, .any)] true (Sv (hyTx v_1))), (2, .call [(true, .any)] true (.tup [slHyp true v_10, Bv c_10]))] [5, 16, 17, 18, 19, 20, 21, 22, 23, 24] [] [slHyp false v_1, I (a2AtI more 0 200), slHyp true v_9, I c_9, I ((mgR v_1).1), I ((mgR v_1).2), I ((mgR v_9).1), I ((mgR v_9).2), slHyp true v_10, Bv c_10] [] [Con Tryz.prog 14 [slHyp false v_1] true (Sv (hyTx v_1)) ∧ True, Con Tryz.prog 13 [Sv (hyTx v_1)] true (.tup [slHyp true v_10, Bv c_10]) ∧ True] hB ⟨⟨(HypsText_ok v_1 hoy0), trivial⟩, ⟨hc10, trivial⟩, trivial⟩ ?_
  refine ae_then ?_
  refine aw_seq ?_
  refine aw_seq ?_
  obtain rfl : c_10 = true := hrc
  refine aw_r [(1, .dec false), (5, .dec false), (10, .dec false), (21, .dec false), (28, .dec false)] [5, 16, 17, 23, 178] [] [slHyp false v_1, I (a2AtI more 0 200), slHyp true v_9, slHyp true v_10, Bv false] [] [¬ (c_9 ≠ 0), ¬ (((mgR v_1).2) ≠ ((mgR v_9).2)), ¬ (((mgR v_1).1) ≠ ((mgR v_9).1)), ¬ ((v_10.length : Int) ≠ (v_1.length : Int)), ¬ ((v_9.length : Int) ≠ (v_1.length : Int))] hB ⟨(fun hq => hq h5_), (fun hq => hq (by rw [hup, mgR_rs])), (fun hq => hq (by rw [hup, mgR_rs])), (fun hq => hq (by first | (rw [hrd]; done) | omega | (rw [hrd]; omega))), (fun hq => hq (by first | (rw [hrd]; done) | omega | (rw [hrd]; omega))), trivial⟩ ?_
  refine ae_then ?_
  refine aw_false rfl ?_
  refine aw_skip ?_
  refine ae_then ?_
  refine aw_seq ?_
  refine aR [] [5, 16, 17, 23, 25] [] [slHyp false v_1, I (a2AtI more 0 200), slHyp true v_9, slHyp true v_10, I 0] [] [] hB trivial ?_
  refine aw_block ?_
  refine aw_loop (fun gn gσ => ∃ (jq : Int), gn = ((v_1.length : Int) - jq).toNat ∧ (0 ≤ jq ∧ jq ≤ (v_1.length : Int)) ∧ gσ = mkS [(5, slHyp false v_1), (16, I (a2AtI more 0 200)), (17, slHyp true v_9), (23, slHyp true v_10), (25, I jq)] []) (((v_1.length : Int) - 0).toNat) ⟨0, rfl, (by omega), rfl⟩ (fun gn gσ hI => ?_)
  obtain ⟨jq, rfl, hj0, rfl⟩ := hI
  refine aw_seq ?_
  refine aw_seq ?_
  by_cases h8 : jq < (v_1.length : Int)
  ·have hi : jq.toNat < v_1.length := by omega
   have hui : at_ v_9 jq.toNat = rsH (a2AtI more 0 200) (at_ v_1 jq.toNat) := by rw [hup]; simp [at_, hi]
   have hu1 : (at_ v_9 jq.toNat).Label = (at_ v_1 jq.toNat).Label := by rw [hui]; rfl
   have hu2 : (at_ v_9 jq.toNat).Cost = (at_ v_1 jq.toNat).Cost + a2AtI more 0 200 := by rw [hui]; rfl
   have hcz := (hok0.1 _ (at_mem hi)).2
   have hr1 : at_ v_10 jq.toNat = at_ v_1 jq.toNat := by rw [hrd]
   have hri : jq.toNat < v_10.length := by rw [hrd]; exact hi
   have hui2 : jq.toNat < v_9.length := by omega
   refine aw_r [(3, .dec true)] [5, 16, 17, 23, 25, 182] [] [slHyp false v_1, I (a2AtI more 0 200), slHyp true v_9, slHyp true v_10, I jq, Bv true] [] [jq < (v_1.length : Int)] hB ⟨h8, trivial⟩ ?_
   refine ae_then ?_
   refine aw_true rfl ?_
   refine aw_skip ?_
   refine ae_then ?_
   refine aw_seq ?_
   refine aw_block ?_
   refine aR [(8, .dec false), (20, .dec false), (35, .dec false)] [5, 16, 17, 23, 25, 221] [] [slHyp false v_1, I (a2AtI more 0 200), slHyp true v_9, slHyp true v_10, I jq, Bv false] [] [(0 : Int) ≤ jq ∧ jq < (v_10.length : Int), (0 : Int) ≤ jq ∧ jq < (v_1.length : Int), ¬ (¬ (((at_ v_10 jq.toNat).Label) = ((at_ v_1 jq.toNat).Label) ∧ ((at_ v_10 jq.toNat).Cost) = ((at_ v_1 jq.toNat).Cost) ∧ True)), (0 : Int) ≤ jq ∧ jq < (v_9.length : Int), (0 : Int) ≤ jq ∧ jq < (v_1.length : Int), ¬ (((at_ v_9 jq.toNat).Label) ≠ ((at_ v_1 jq.toNat).Label)), (0 : Int) ≤ jq ∧ jq < (v_9.length : Int), (0 : Int) ≤ jq ∧ jq < (v_1.length : Int), inR .i64 (((at_ v_1 jq.toNat).Cost) + (a2AtI more 0 200)), ¬ (((at_ v_9 jq.toNat).Cost) ≠ (((at_ v_1 jq.toNat).Cost) + (a2AtI more 0 200)))] hB ⟨⟨(by omega), (by omega)⟩, ⟨(by omega), (by omega)⟩, (fun hq => hq (by rw [hr1]; exact ⟨rfl, rfl, trivial⟩)), ⟨(by omega), (by omega)⟩, ⟨(by omega), (by omega)⟩, (fun hq => hq (by first | exact hu1 | (rw [hr1]; done))), ⟨(by omega), (by omega)⟩, ⟨(by omega), (by omega)⟩, (inR_i64 (by omega) (by omega)), (fun hq => hq (by first | exact hu2 | (rw [hr1]; done))), trivial⟩ ?_
   refine aw_false rfl ?_
   refine aw_skip ?_
   refine ae_block 3 ?_
   refine ae_then ?_
   refine aw_r [] [5, 16, 17, 23, 25] [] [slHyp false v_1, I (a2AtI more 0 200), slHyp true v_9, slHyp true v_10, I (jq + 1)] [] [inR .i64 (jq + 1)] hB ⟨(inR_i64 (by omega) (by omega)), trivial⟩ ?_
   exact ae_again _ (by omega) ⟨(jq + 1), rfl, (by omega), rfl⟩
  refine aw_r [(3, .dec false)] [5, 16, 17, 23, 25, 182] [] [slHyp false v_1, I (a2AtI more 0 200), slHyp true v_9, slHyp true v_10, I jq, Bv false] [] [¬ (jq < (v_1.length : Int))] hB ⟨h8, trivial⟩ ?_
  refine ae_then ?_
  refine aw_false rfl ?_
  refine aw_exit ?_
  refine ae_exit_then ?_
  refine ae_exit_then ?_
  refine ae_exit_same ?_
  refine ae_then ?_
  refine aR [] [4] [] [Bv true] [] [] hB trivial ?_
  refine aw_ret ?_
  refine ae_ret hB (Bv true) (by kernel_rfl) (.inl rfl) rfl (fun _ => trivial)





theorem opens_t22 : OpensA Tryz.prog 22 (cLU8 false) (fun xs => ∀ y ∈ xs, inR .u8 y) :=
  opensA_slice (c := cU8) (sz := 1) Tryz.underlying22 (by kernel_rfl) (by decide) (fun x => ⟨rfl, by simp [oneA, cU8]⟩) (opensA_int Tryz.underlying5)


namespace fnHyps
set_option maxRecDepth 100000 in
theorem lifted (os : Os) (started : os.Started) (H : Type) (enc : TypeId × Value → H) :
    ReturnsInHanded {} Tryz.checked os 3 .any (fun w args => (Rows.fnHypsSpec.pre enc Tryz.prog Tryz.f3 Rows.fnHypsRow.domain false w args ∧ laidMetH Tryz.prog Rows.fnHypsRow.laid w) ∧ sizedMet enc Tryz.prog Tryz.f3 (OpenSpec.ofChange Rows.fnHypsSpec) false w args)
      (Rows.fnHypsSpec.post enc Tryz.prog Tryz.f3 false true false false) := by
  refine returnsInHanded_of_change_and (C := Tryz.checked) (X := fun w _ => laidMetH Tryz.prog Rows.fnHypsRow.laid w) (fun _ _ _ hh h => h.of_heap hh) Tryz.own started (by kernel_rfl) Tryz.func3
    (ChangeSpec.witness_shaped (enc := enc) (C := Tryz.checked) (os := os) (X := fun w _ => laidMetH Tryz.prog Rows.fnHypsRow.laid w) false (World.laidAll Tryz.prog os Rows.fnHypsRow.laid) #[.slice none 0 0, .slice none 0 0] 8 (World.laidAll_os _ _ _)
      (World.shaped_of_ZipB (by kernel_rfl) (by kernel_rfl)) (by kernel_rfl) (by kernel_rfl) (by kernel_rfl)
      (by rw [MakeChecks.laidMetH_plain _ _ _ (by kernel_rfl)]; exact laidMet_laidAll _ (by kernel_rfl) (by kernel_rfl))) ?_
  intro W base args ds gs before hval0 hW hcnd hsz hL _
  have hW' := hW
  obtain ⟨p, q, hA0, hV, rfl, hfz, hnd⟩ := hW
  have hval : ∀ (j : Nat) t v, Tryz.f3.params[j]? = some t → args[j]? = some v → Value.okWide Tryz.prog W .any base t v := hval0
  have hA : DataW.TrodAll enc Tryz.prog W 0 (fun _ => true) true Tryz.f3.params.toList args.toList ds p := hA0
  rw [Tryz.params3] at hA hval
  obtain ⟨v0, vs0, d0, ds0, p0, q0, hargs, rfl, rfl, h0, r0⟩ := trodAll_cons hA
  obtain ⟨v1, vs1, d1, ds1, p1, q1, rfl, rfl, rfl, h1, r1⟩ := trodAll_cons r0
  obtain ⟨rfl, rfl, rfl⟩ := trodAll_nil r1
  obtain rfl : args = #[v0, v1] := args_eq hargs
  obtain ⟨rfl, rfl⟩ := trodVars_none hV
  obtain ⟨fuel0, hf0⟩ := h0
  obtain ⟨A0, l0, c0, rfl⟩ := okWide_slice Tryz.underlying22 (hval 0 22 v0 rfl rfl)
  obtain ⟨x0, rx0, ok0⟩ := (opens_t22) enc W 0 _ _ _ _ _ hf0
  obtain ⟨fuel1, hf1⟩ := h1
  obtain ⟨A1, l1, c1, rfl⟩ := okWide_slice Tryz.underlying22 (hval 1 22 v1 rfl rfl)
  obtain ⟨x1, rx1, ok1⟩ := (opens_t22) enc W 0 _ _ _ _ _ hf1
  refine (walk_of0 (fnHyps_con x0 x1 ok0 ok1) (fun w hk => WX_below (WX_laid (by rw [MakeChecks.laidMetH_plain _ _ _ (by kernel_rfl)] at hL; first | exact hL | exact hL.tail | exact hL.tail.tail | exact hL.tail.tail.tail | exact hL.tail.tail.tail.tail | exact hL.tail.tail.tail.tail.tail | exact hL.tail.tail.tail.tail.tail.tail | exact hL.tail.tail.tail.tail.tail.tail.tail | exact hL.tail.tail.tail.tail.tail.tail.tail.tail) (by rw [MakeChecks.laidMetH_plain _ _ _ (by kernel_rfl)] at hL; first | exact hL | exact hL.tail | exact hL.tail.tail | exact hL.tail.tail.tail | exact hL.tail.tail.tail.tail | exact hL.tail.tail.tail.tail.tail | exact hL.tail.tail.tail.tail.tail.tail | exact hL.tail.tail.tail.tail.tail.tail.tail | exact hL.tail.tail.tail.tail.tail.tail.tail.tail) (by rw [MakeChecks.laidMetH_plain _ _ _ (by kernel_rfl)] at hL; first | exact hL | exact hL.tail | exact hL.tail.tail | exact hL.tail.tail.tail | exact hL.tail.tail.tail.tail | exact hL.tail.tail.tail.tail.tail | exact hL.tail.tail.tail.tail.tail.tail | exact hL.tail.tail.tail.tail.tail.tail.tail | exact hL.tail.tail.tail.tail.tail.tail.tail.tail)) w ⟨hk.os, hk.tape, hk.output, hk.size, fun k h1 => hk.block k h1 id⟩) (RelTL.cons (relTL_one rx0) (RelTL.cons (relTL_one rx1) RelTL.nil))).mono fun e W1 ⟨he, hb⟩ => ?_
  subst he
  exact ⟨_, rfl, law_post Tryz.laidOut rfl Tryz.underlying4 (of_decide_eq_true (by kernel_rfl)) rfl hW' hb rfl⟩

theorem jf0 : (Rows.fnHypsRow.inPlace == Tryz.pinned.checked.prog.inPlace 3) = true := by kernel_rfl
theorem jf1 : (Rows.fnHypsRow.unfollowed == Tryz.pinned.checked.prog.unfollowed 3) = true := by kernel_rfl
theorem jf2 : (Rows.fnHypsRow.recurses == Tryz.pinned.checked.prog.recurses 3) = true := by kernel_rfl
theorem jf3 : (Rows.fnHypsRow.named == Tryz.pinned.checked.prog.varsNamed 3) = true := by kernel_rfl
theorem jf : joinedFacts Tryz.pinned.checked.prog 3 Tryz.f3 Rows.fnHypsSpec Rows.fnHypsRow = true := by
  unfold joinedFacts
  rw [jf0, jf1, jf2, jf3]
  kernel_rfl
theorem over : Rows.fnHypsRow.holds Tryz.pinned (OpenSpec.ofChange Rows.fnHypsSpec) :=
  OpenClaim.holds_of_wide 3 Tryz.f3 rfl rfl rfl rfl rfl rfl rfl ⟨rfl, rfl, rfl, rfl, rfl⟩ rfl rfl rfl rfl rfl (by kernel_rfl) Tryz.func3 jf
    (of_decide_eq_true (by kernel_rfl)) (by unfold Func.isWrapper; first | (rw [if_pos (by decide +kernel)]; kernel_rfl) | (rw [if_neg (by decide +kernel)]; exact ⟨rfl, rfl⟩))
    (fun os started H enc _ => lifted os started H enc)

theorem proved : Rows.FnHypsCardSaid :=
  Claim7.holds_tied_plain_at .later [] [.data, .data, .data, .data, .sentinel, .sentinel, .pinned] true (true, "7d20879a5ae9b48ea7e8246f90deaf32a5b86507eeeabf6e62238e13eb0ba75e") true over (fun _ h => by cases h) (by kernel_rfl) (fun _ h => by cases h) fnHyps_row_tie rfl ⟨rfl, rfl⟩ (by kernel_rfl) rfl
    (fun f fn hf hfn => by
      obtain rfl : f = 3 := Option.some.inj ((show Tryz.prog.funcNamed "loop.example/g00918/laws.FnHyps" = some 3 by kernel_rfl).symm.trans hf) |>.symm
      obtain rfl : fn = Tryz.f3 := (Option.some.inj (Tryz.func3.symm.trans hfn)).symm
      exact ⟨by kernel_rfl, fun j t ht => by
        rw [Tryz.params3] at ht
        have hm : t ∈ [22, 22] := by simpa using Array.mem_of_getElem? ht
        have hall : ([22, 22].all fun u => !Tryz.prog.wantsStandIn u) = true := by kernel_rfl
        exact (show Tryz.prog.wantsStandIn t = false by simpa using List.all_eq_true.1 hall t hm)⟩)
    (by kernel_rfl)
#print axioms proved
end fnHyps

end Go.Proofs.YtapmeemeciigdaaGreatDoor.Ax
