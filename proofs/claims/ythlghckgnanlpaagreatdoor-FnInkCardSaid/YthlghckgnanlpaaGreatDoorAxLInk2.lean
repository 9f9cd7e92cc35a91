/- Contracts that the statement FnInk reaches, part 2. No conditions. -/
import Derived.Test.YthlghckgnanlpaaGreatDoorAxLInk1
import Derived.LaidMore
import Derived.Lay
import Derived.Lib.IndexBytes
import Derived.Lib.ItoaNum
import Derived.Lib.ParseIntBCases
import Derived.Lib.SplitLaws
import Derived.OpenShut
import Derived.SevenTiedAt
import Derived.Stop.Joined
import Derived.Test.YthlghckgnanlpaaGreatDoorAxBd
import Derived.Test.YthlghckgnanlpaaGreatDoorAxGr
import Derived.Test.YthlghckgnanlpaaGreatDoorAxS
import Derived.Test.YthlghckgnanlpaaGreatDoorAxY
namespace Go.Proofs.YthlghckgnanlpaaGreatDoor.Ax
open Go.RowKit Go.ChangeShapes Go.WideShapes
set_option linter.unusedVariables false
set_option linter.unusedSimpArgs false


def mpS (f : Point → Point) (s : Stroke) : Stroke := ⟨s.Points.map (f)⟩
/-- Ink at another place. -/
def mpI (f : Point → Point) (x : Ink) : Ink := ⟨x.Strokes.map (mpS f)⟩
theorem mpI_len (f : Point → Point) (x : Ink) : (mpI f x).Strokes.length = x.Strokes.length := by simp [mpI]
theorem mpS_len (f : Point → Point) (s : Stroke) : (mpS f s).Points.length = s.Points.length := by simp [mpS]
theorem mpS_at {f : Point → Point} {s : Stroke} {j : Nat} (h : j < s.Points.length) : at_ (mpS f s).Points j = f (at_ s.Points j) := by simp [at_, mpS, h]
theorem mpI_at {f : Point → Point} {x : Ink} {j : Nat} (h : j < x.Strokes.length) : at_ (mpI f x).Strokes j = mpS f (at_ x.Strokes j) := by simp [at_, mpI, h]
/-- The first k points are moved. -/
def mpTo (f : Point → Point) (k : Nat) (s : Stroke) : Stroke := ⟨(s.Points.take k).map (f) ++ s.Points.drop k⟩
/-- The first i strokes are moved. -/
def mpFst (f : Point → Point) (i : Nat) (xs : List Stroke) : List Stroke := (xs.take i).map (mpS f) ++ xs.drop i
theorem mpTo_zero (f : Point → Point) (s : Stroke) : mpTo f 0 s = s := by simp [mpTo]
theorem mpTo_all {f : Point → Point} {k : Nat} {s : Stroke} (h : s.Points.length ≤ k) : mpTo f k s = mpS f s := by simp [mpTo, mpS, List.take_of_length_le h, List.drop_eq_nil_of_le h]
theorem mpTo_len (f : Point → Point) (k : Nat) (s : Stroke) : (mpTo f k s).Points.length = s.Points.length := by simp [mpTo]; omega
theorem mpTo_at {f : Point → Point} {k : Nat} {s : Stroke} (h : k < s.Points.length) : at_ (mpTo f k s).Points k = at_ s.Points k := by
  simp [at_, mpTo, h, Nat.le_of_lt h, List.getElem?_append]
theorem mpTo_succ {f : Point → Point} {k : Nat} {s : Stroke} (h : k < s.Points.length) : mpTo f (k + 1) s = ⟨(mpTo f k s).Points.set k (f (at_ s.Points k))⟩ := by
  unfold mpTo
  simp only [Stroke.mk.injEq]
  rw [List.take_succ_eq_append_getElem h, List.set_append_right _ _ (by simp [Nat.le_of_lt h]), List.drop_eq_getElem_cons h, at_eq h]
  simp only [List.map_append, List.map_cons, List.map_nil, List.length_map, List.length_take, Nat.min_eq_left (Nat.le_of_lt h), Nat.sub_self, List.set_cons_zero, List.append_assoc, List.cons_append, List.nil_append]
theorem mpFst_zero (f : Point → Point) (xs : List Stroke) : mpFst f 0 xs = xs := by simp [mpFst]
theorem mpFst_len (f : Point → Point) (i : Nat) (xs : List Stroke) : (mpFst f i xs).length = xs.length := by simp [mpFst]; omega
theorem mpFst_all {f : Point → Point} {i : Nat} {xs : List Stroke} (h : xs.length ≤ i) : mpFst f i xs = xs.map (mpS f) := by simp [mpFst, List.take_of_length_le h, List.drop_eq_nil_of_le h]
theorem mpFst_at {f : Point → Point} {i : Nat} {xs : List Stroke} (h : i < xs.length) : at_ (mpFst f i xs) i = at_ xs i := by
  simp [at_, mpFst, h, Nat.le_of_lt h, List.getElem?_append]
theorem mpFst_succ {f : Point → Point} {i : Nat} {xs : List Stroke} (h : i < xs.length) : mpFst f (i + 1) xs = (mpFst f i xs).set i (mpS f (at_ xs i)) := by
  unfold mpFst
  rw [List.take_succ_eq_append_getElem h, List.set_append_right _ _ (by simp [Nat.le_of_lt h]), List.drop_eq_getElem_cons h, at_eq h]
  simp only [List.map_append, List.map_cons, List.map_nil, List.length_map, List.length_take, Nat.min_eq_left (Nat.le_of_lt h), Nat.sub_self, List.set_cons_zero, List.append_assoc, List.cons_append, List.nil_append]
/-- The stroke at i, of which the first k points are moved. -/
def mpIn (f : Point → Point) (i k : Nat) (xs : List Stroke) : List Stroke := (mpFst f i xs).set i (mpTo f k (at_ xs i))
theorem mpIn_zero {f : Point → Point} {i : Nat} {xs : List Stroke} (h : i < xs.length) : mpIn f i 0 xs = mpFst f i xs := by
  have hl : i < (mpFst f i xs).length := by rw [mpFst_len]; exact h
  rw [mpIn, mpTo_zero]
  have := mpFst_at (f := f) h
  conv => lhs; rw [← this]
  simp [at_, hl]
theorem mpIn_len (f : Point → Point) (i k : Nat) (xs : List Stroke) : (mpIn f i k xs).length = xs.length := by simp [mpIn, mpFst_len]
theorem mpIn_at {f : Point → Point} {i k : Nat} {xs : List Stroke} (h : i < xs.length) : at_ (mpIn f i k xs) i = mpTo f k (at_ xs i) := by
  have hl : i < (mpFst f i xs).length := by rw [mpFst_len]; exact h
  simp [mpIn, at_, hl]
theorem mpIn_succ {f : Point → Point} {i k : Nat} {xs : List Stroke} (h : i < xs.length) (hk : k < (at_ xs i).Points.length) : mpIn f i (k + 1) xs = (mpIn f i k xs).set i ⟨(at_ (mpIn f i k xs) i).Points.set k (f (at_ (at_ xs i).Points k))⟩ := by
  rw [mpIn_at h, mpIn, mpTo_succ hk, mpIn, List.set_set]
theorem mpIn_all {f : Point → Point} {i k : Nat} {xs : List Stroke} (h : i < xs.length) (hk : (at_ xs i).Points.length ≤ k) : mpIn f i k xs = mpFst f (i + 1) xs := by
  rw [mpIn, mpTo_all hk, mpFst_succ h]

theorem at_setS' {α : Type} [Inhabited α] {xs : List α} {i : Nat} {y : α} (h : i < xs.length) : at_ (xs.set i y) i = y := by simp [at_, h]
theorem mapTake_succ {α β : Type} [Inhabited α] {xs : List α} {f : α → β} {i : Int} {y : β} (h0 : 0 ≤ i) (h : i.toNat < xs.length) (hy : y = f (at_ xs i.toNat)) : (xs.take (i + 1).toNat).map f = (xs.take i.toNat).map f ++ [y] := by
  have e : (i + 1).toNat = i.toNat + 1 := by omega
  rw [e, List.take_succ_eq_append_getElem h, hy, at_eq h]
  simp only [List.map_append, List.map_cons, List.map_nil]
theorem map_all {α β : Type} {xs : List α} {f : α → β} {i : Int} (h : (xs.length : Int) ≤ i) : (xs.take i.toNat).map f = xs.map f := by
  rw [List.take_of_length_le (by omega)]
section
variable {f : Point → Point} {i k : Int} {xs ys : List Stroke}
theorem mpIn_pt (e : ys = mpIn f i.toNat k.toNat xs) (hi : i.toNat < xs.length) (hk : k.toNat < (at_ xs i.toNat).Points.length) : at_ (at_ ys i.toNat).Points k.toNat = at_ (at_ xs i.toNat).Points k.toNat := by rw [e, mpIn_at hi, mpTo_at hk]
theorem mpIn_next (e : ys = mpIn f i.toNat k.toNat xs) (hk0 : 0 ≤ k) (hi : i.toNat < xs.length) (hk : k.toNat < (at_ xs i.toNat).Points.length) {p : Point} (hp : p = f (at_ (at_ xs i.toNat).Points k.toNat)) :
    ys.set i.toNat ⟨(at_ ys i.toNat).Points.set k.toNat p⟩ = mpIn f i.toNat (k + 1).toNat xs := by
  have ek : (k + 1).toNat = k.toNat + 1 := by omega
  rw [hp, ek, mpIn_succ hi hk, ← e]
theorem mpIn_exit (e : ys = mpIn f i.toNat k.toNat xs) (hi0 : 0 ≤ i) (hi : i.toNat < xs.length) (hk : (at_ xs i.toNat).Points.length ≤ k.toNat) : ys = mpFst f (i + 1).toNat xs := by
  have ei : (i + 1).toNat = i.toNat + 1 := by omega
  rw [e, ei, mpIn_all hi hk]
theorem mpIn_row (e : ys = mpIn f i.toNat k.toNat xs) (hi : i.toNat < xs.length) : (at_ ys i.toNat).Points.length = (at_ xs i.toNat).Points.length := by rw [e, mpIn_at hi, mpTo_len]
theorem mpI_id {x : Ink} (h : ∀ p, f p = p) : mpI f x = x := by
  have hs : ∀ s : Stroke, mpS f s = s := fun s => by
    have e : f = id := funext h
    unfold mpS; rw [e, List.map_id]
  have e2 : mpS f = id := funext hs
  unfold mpI; rw [e2, List.map_id]
end

def comB (xs : List Int) : ByteArray := jnB ⟨#[44]⟩ (xs.map decB)
def bndI (xs : List Int) : Prop := xs.length ≤ 1000 ∧ ∀ x ∈ xs, -1000000000000000000 < x ∧ x < 1000000000000000000
theorem jnZ_le {B : Nat} {xs : List ByteArray} (h : ∀ x ∈ xs, x.size ≤ B) : ∀ k, k ≤ xs.length → jnZ xs k ≤ B * k
  | 0, _ => Nat.zero_le _
  | k + 1, hk => by
    have h1 := jnZ_le h k (by omega)
    have h2 := h _ (at_mem (show k < xs.length from hk))
    rw [jnZ, Nat.mul_succ]; omega
theorem jok_of {sep : ByteArray} {B n : Nat} {xs : List ByteArray} (hs : sep.size = 1) (hn : xs.length ≤ n) (h : ∀ x ∈ xs, x.size ≤ B) (hB : B * n ≤ 100000000) (hn2 : n ≤ 10000) : jok sep xs := by
  refine ⟨by omega, by omega, fun _ => ?_⟩
  have h1 := jnZ_le h xs.length (Nat.le_refl _)
  have h2 : B * xs.length ≤ B * n := Nat.mul_le_mul_left _ hn
  rw [hs]; omega
theorem decs_size {xs : List Int} (h : ∀ x ∈ xs, -1000000000000000000 < x ∧ x < 1000000000000000000) : ∀ y ∈ xs.map decB, y.size ≤ 20 := fun y hy => by
  obtain ⟨x, hx, rfl⟩ := List.mem_map.1 hy
  have := h x hx
  exact decB_size (by omega)
theorem com_jok {xs : List Int} (h : bndI xs) : jok ⟨#[44]⟩ (xs.map decB) := jok_of (B := 20) (n := 1000) rfl (by rw [List.length_map]; exact h.1) (decs_size h.2) (by decide) (by decide)
theorem jnB_le {sep : ByteArray} {B : Nat} {xs : List ByteArray} (hs : sep.size = 1) (h : ∀ x ∈ xs, x.size ≤ B) : (jnB sep xs).size ≤ (B + 1) * xs.length := by
  by_cases e : xs = []
  · subst e; exact Nat.le_refl _
  · have h1 := jnZ_le h xs.length (Nat.le_refl _)
    rw [jnB_size sep e, hs, Nat.add_mul]; omega
theorem com_size {xs : List Int} (h : ∀ x ∈ xs, -1000000000000000000 < x ∧ x < 1000000000000000000) : (comB xs).size ≤ 21 * xs.length := by
  have := jnB_le (sep := ⟨#[44]⟩) rfl (decs_size h)
  rw [List.length_map] at this
  exact this
theorem com_noB {c : UInt8} (hc : c.toNat < 44 ∨ 57 < c.toNat) (xs : List Int) : noB c (comB xs) := by
  refine noB_join (by unfold noB; simp; intro e; subst e; revert hc; decide) fun y hy => ?_
  obtain ⟨x, _, rfl⟩ := List.mem_map.1 hy
  exact decB_noB (by omega) x
theorem com_split {xs : List Int} (h : xs ≠ []) : splC 44 (comB xs) = xs.map decB := by
  refine spl_join (by simpa using h) fun y hy => ?_
  obtain ⟨x, _, rfl⟩ := List.mem_map.1 hy
  exact decB_noB (by decide) x
/-- The numbers between commas. -/
def dcs (s : ByteArray) : List Int := (splB ⟨#[44]⟩ s).map dcV
theorem dcs_com {xs : List Int} (h : xs ≠ []) (hb : ∀ x ∈ xs, -1000000000000000000 < x ∧ x < 1000000000000000000) : dcs (comB xs) = xs := by
  unfold dcs
  rw [splB_C, com_split h, List.map_map]
  conv => rhs; rw [← List.map_id xs]
  exact List.map_congr_left fun x hx => dcV_dec (hb x hx)
theorem com_isDec {xs : List Int} (h : xs ≠ []) (hb : ∀ x ∈ xs, -1000000000000000000 < x ∧ x < 1000000000000000000) : ∀ y ∈ splC 44 (comB xs), isDec y := fun y hy => by
  rw [com_split h] at hy
  obtain ⟨x, hx, rfl⟩ := List.mem_map.1 hy
  exact ⟨x, hb x hx, rfl⟩
theorem splB_len (c : UInt8) (s : ByteArray) : (splB ⟨#[c]⟩ s).length ≤ s.size + 1 := by
  have h1 := Lib.countB_le ⟨#[c]⟩ (Nat.le_refl 1) s.size s (Nat.le_refl _)
  have h2 := splB_length (sep := ⟨#[c]⟩) (s := s) rfl
  show (Lib.splitB ⟨#[c]⟩ 0 (Lib.countB s ⟨#[c]⟩) s).length ≤ _
  omega
theorem trsB_size (s p : ByteArray) : (trsB s p).size ≤ s.size := by
  show (Lib.trimSuffix s.data.toList p.data.toList).toArray.size ≤ s.data.size
  unfold Lib.trimSuffix
  split
  · simp
  · simp
/-- The lines of a text. -/
def linB (s : ByteArray) : List ByteArray := if s = ⟨#[]⟩ then [] else splB ⟨#[10]⟩ (trsB s ⟨#[10]⟩)
/-- Lines, each ended. -/
def linesX : List ByteArray → Nat → ByteArray
  | _, 0 => ⟨#[]⟩
  | ls, k + 1 => linesX ls k ++ (at_ ls k ++ ⟨#[10]⟩)
theorem linesX_join {ls : List ByteArray} : ∀ {k}, k < ls.length → linesX ls (k + 1) = jnB ⟨#[10]⟩ (ls.take (k + 1)) ++ ⟨#[10]⟩
  | 0, h => by rw [linesX, linesX, nil_ba, jnB_take1 h]
  | k + 1, h => by
    rw [linesX, linesX_join (by omega), jnB_take (by omega)]
    simp only [ByteArray.append_assoc]
theorem linesX_ne {ls : List ByteArray} {k : Nat} : linesX ls (k + 1) ≠ ⟨#[]⟩ := fun e => by
  have := congrArg ByteArray.size e
  simp only [linesX, ByteArray.size_append] at this
  have h1 : (⟨#[10]⟩ : ByteArray).size = 1 := rfl
  have h2 : (⟨#[]⟩ : ByteArray).size = 0 := rfl
  omega
theorem linesX_all {ls : List ByteArray} (h : ls ≠ []) : ∃ k, ls.length = k + 1 ∧ linesX ls ls.length = jnB ⟨#[10]⟩ ls ++ ⟨#[10]⟩ := by
  obtain ⟨k, hk⟩ : ∃ k, ls.length = k + 1 := ⟨ls.length - 1, by have := List.length_pos_iff.2 h; omega⟩
  refine ⟨k, hk, ?_⟩
  rw [hk, linesX_join (by omega), ← hk, List.take_length]
theorem lin_lines {ls : List ByteArray} (hl : ∀ l ∈ ls, noB 10 l) : linB (linesX ls ls.length) = ls := by
  by_cases h : ls = []
  · subst h; simp [linB, linesX]
  · obtain ⟨k, hk, e⟩ := linesX_all h
    unfold linB
    rw [if_neg (by rw [hk]; exact linesX_ne), e, trsB_app, splB_C, spl_join h hl]
theorem suf_lines {ls : List ByteArray} (h : ls ≠ []) : sufB (linesX ls ls.length) ⟨#[10]⟩ = true := by
  obtain ⟨k, hk, e⟩ := linesX_all h
  rw [e]; exact sufB_app _ _
/-- Where a text is asked for its lines. -/
def linOk (s : ByteArray) : Prop := s.size ≤ 10000000 ∧ (s = ⟨#[]⟩ ∨ sufB s ⟨#[10]⟩ = true)
theorem linOk_lines {ls : List ByteArray} (hz : (linesX ls ls.length).size ≤ 10000000) : linOk (linesX ls ls.length) := by
  refine ⟨hz, ?_⟩
  by_cases h : ls = []
  · subst h; exact .inl rfl
  · exact .inr (suf_lines h)
theorem linesX_size {ls : List ByteArray} {B : Nat} (h : ∀ l ∈ ls, l.size ≤ B) : ∀ k, k ≤ ls.length → (linesX ls k).size ≤ (B + 1) * k
  | 0, _ => Nat.zero_le _
  | k + 1, hk => by
    have h1 := linesX_size h k (by omega)
    have h2 := h _ (at_mem (show k < ls.length from hk))
    have h3 : (⟨#[10]⟩ : ByteArray).size = 1 := rfl
    rw [linesX, ByteArray.size_append, ByteArray.size_append, Nat.mul_succ]; omega

-- impl.commasOf
theorem commasOf_ok (xs : List Int) (ok : bndI xs) : Con Tryz.prog 72 [slI false xs] true (Sv (comB xs)) := by
  refine fn_ok (fn := Tryz.f72) (nt := 20) Tryz.func72 rfl rfl rfl rfl (by simp [taggedL, tagged, tagI]) fun B hB => ?_
  refine aw_lens (x := slI false xs) 0 rfl (fun len_xs => ?_)
  simp [LenOK, LenL, cI, fI, slI] at len_xs
  refine aR [] [0] [] [slI false xs] [] [] hB trivial ?_
  refine aR [] [0, 3] [] [slI false xs, nilA] [] [] hB trivial ?_
  refine aw_seq ?_
  refine aR [] [3, 6, 7, 8] [] [nilA, slI false xs, I (xs.length : Int), I 0] [] [] hB trivial ?_
  refine aw_block ?_
  refine aw_nil hB 3 703 1 (fun _ => []) (by kernel_rfl) ?_
  refine aw_weak hB [] (T := [(3, .arr 703), (6, slI false xs), (7, I (xs.length : Int)), (8, I 0)]) (O := [(703, tAS ([] : List ByteArray))]) rfl (⟨.inl rfl, .inl rfl, .inl rfl, .inl rfl, trivial⟩) (⟨.inr ⟨rfl, (by first | rfl | (simp; done) | (simp; omega) | omega), fun i_ hi_ => absurd hi_ (Nat.not_lt_zero _)⟩, trivial⟩) ?_
  refine aw_loop (fun gn gσ => ∃ (words : List ByteArray) (k : Int), gn = ((xs.length : Int) - k).toNat ∧ (0 ≤ k ∧ k ≤ (xs.length : Int)) ∧ (words = (xs.take k.toNat).map decB) ∧ gσ = mkS [(3, .arr 703), (6, slI false xs), (7, I (xs.length : Int)), (8, I k)] [(703, tAS words)]) (((xs.length : Int) - 0).toNat) ⟨([] : List ByteArray), 0, rfl, (by omega), (by rfl), rfl⟩ (fun gn gσ hI => ?_)
  obtain ⟨words, k, rfl, hi0, hws, rfl⟩ := hI
  refine aw_seq ?_
  by_cases h1 : k < (xs.length : Int)
  ·have hi : k.toNat < xs.length := by omega
   have hob := ok.2 _ (at_mem hi)
   have okl := ok.1
   have hwl : words.length = k.toNat := by rw [hws]; simp; omega
   refine aw_r [(0, .dec true)] [3, 6, 7, 8, 9] [703] [.arr 703, slI false xs, I (xs.length : Int), I k, Bv true] [some (tAS words)] [k < (xs.length : Int)] hB ⟨h1, trivial⟩ ?_
   refine ae_then ?_
   refine aw_seq ?_
   refine aw_true rfl ?_
   refine aw_skip ?_
   refine ae_then ?_
   refine aw_seq ?_
   refine aw_block ?_
   refine aR [] [3, 5, 6, 7, 8] [703] [.arr 703, I (at_ xs k.toNat), slI false xs, I (xs.length : Int), I k] [some (tAS words)] [(0 : Int) ≤ k ∧ k < (xs.length : Int)] hB ⟨⟨(by omega), (by omega)⟩, trivial⟩ ?_
   refine aw_r [(2, .call [(true, .any)] true (Sv (decB (at_ xs k.toNat)))), (3, .new 15), (4, .new 16)] [3, 6, 7, 8] [16] [.arr 16, slI false xs, I (xs.length : Int), I k] [some (.arr 1 (words.length + 1) (catF words.length (fS words) (litF [Sv (decB (at_ xs k.toNat))] 1)))] [Con Tryz.prog 95 [I (at_ xs k.toNat)] true (Sv (decB (at_ xs k.toNat))) ∧ True, (words.length + 1) * 16 ≤ 140737488355328] hB ⟨⟨(implDecimal_ok (at_ xs k.toNat) (by omega)), trivial⟩, (by omega), trivial⟩ ?_
   refine ae_block 1 ?_
   refine ae_then ?_
   refine aw_r [] [3, 6, 7, 8] [16] [.arr 16, slI false xs, I (xs.length : Int), I (k + 1)] [some (.arr 1 (words.length + 1) (catF words.length (fS words) (litF [Sv (decB (at_ xs k.toNat))] 1)))] [inR .i64 (k + 1)] hB ⟨(inR_i64 (by omega) (by omega)), trivial⟩ ?_
   refine ae_weak hB [(703, 16)] (T := [(3, .arr 703), (6, slI false xs), (7, I (xs.length : Int)), (8, I (k + 1))]) (O := [(703, tAS (words ++ [(decB (at_ xs k.toNat))]))]) rfl (⟨.inl rfl, .inl rfl, .inl rfl, .inl rfl, trivial⟩) (⟨.inr ⟨rfl, (by first | rfl | (simp; done) | (simp; omega) | omega), fun i_ hi_ => .inl (cat_snoc (enc := cS) (xs := words) rfl i_ hi_)⟩, trivial⟩) (ae_again _ (by omega) ⟨(words ++ [(decB (at_ xs k.toNat))]), (k + 1), rfl, (by omega), (by rw [hws]; exact (mapTake_succ (by omega) hi rfl).symm), rfl⟩)
  have hfin : words = xs.map decB := by rw [hws]; exact map_all (by omega)
  refine aw_r [(0, .dec false)] [3, 6, 7, 8, 9] [703] [.arr 703, slI false xs, I (xs.length : Int), I k, Bv false] [some (tAS words)] [¬ (k < (xs.length : Int))] hB ⟨h1, trivial⟩ ?_
  refine ae_then ?_
  refine aw_seq ?_
  refine aw_false rfl ?_
  refine aw_exit ?_
  refine ae_exit_then ?_
  refine ae_exit_then ?_
  refine ae_exit_same ?_
  refine ae_then ?_
  refine aR [(1, .call [(false, slS false words), (true, .any)] true (Sv (jnB (⟨#[44]⟩ : ByteArray) words)))] [2] [] [Sv (jnB (⟨#[44]⟩ : ByteArray) words)] [] [Con Tryz.prog 74 [slS false words, Sv (⟨#[44]⟩ : ByteArray)] true (Sv (jnB (⟨#[44]⟩ : ByteArray) words)) ∧ ((false = true → true = true) ∧ 1 = 1 ∧ words.length = words.length ∧ ∀ i_, i_ < words.length → (fS words) i_ = (fS words) i_ ∨ (AV.idsL ((fS words) i_) = [] ∧ leL (fun _ => none) false ((fS words) i_) ((fS words) i_))) ∧ True] hB ⟨⟨(join_ok words (⟨#[44]⟩ : ByteArray) (by rw [hfin]; exact com_jok ok)), ⟨(fun h => by cases h), rfl, rfl, fun i _ => .inl rfl⟩, trivial⟩, trivial⟩ ?_
  refine aw_ret ?_
  refine ae_ret hB (Sv (jnB (⟨#[44]⟩ : ByteArray) words)) (by kernel_rfl) (.inl (by rw [hfin]; rfl)) rfl (fun _ => trivial)


def ptTx (p : Point) : ByteArray := comB [p.X, p.Y, p.T]
def skLn (s : Stroke) : ByteArray := jnB ⟨#[32]⟩ (s.Points.map ptTx)
/-- The text of ink. -/
def inkTx (x : Ink) : ByteArray := if okInk' x = true then linesX (x.Strokes.map skLn) x.Strokes.length else ⟨#[]⟩
theorem pt_bnd {p : Point} (h : okP p = true) : bndI [p.X, p.Y, p.T] := by
  have := okP_iff.1 h
  refine ⟨show 3 ≤ 1000 by decide, fun x hx => ?_⟩
  simp only [List.mem_cons, List.not_mem_nil, or_false] at hx
  rcases hx with rfl | rfl | rfl <;> omega
theorem ptTx_size {p : Point} (h : okP p = true) : (ptTx p).size ≤ 63 := com_size (pt_bnd h).2
theorem mem_atT {α : Type} [Inhabited α] {xs : List α} {x : α} (h : x ∈ xs) : ∃ i, i < xs.length ∧ at_ xs i = x := by
  obtain ⟨i, hi, e⟩ := List.getElem_of_mem h
  exact ⟨i, hi, by rw [at_eq hi]; exact e⟩
theorem pts_size {s : Stroke} (h : okStroke' s = true) : ∀ y ∈ s.Points.map ptTx, y.size ≤ 63 := fun y hy => by
  obtain ⟨p, hp, rfl⟩ := List.mem_map.1 hy
  obtain ⟨j, hj, rfl⟩ := mem_atT hp
  exact ptTx_size (okS_at h hj)
theorem sk_jok {s : Stroke} (h : okStroke' s = true) : jok ⟨#[32]⟩ (s.Points.map ptTx) := jok_of (B := 63) (n := 60) rfl (by rw [List.length_map]; have := okS_len h; omega) (pts_size h) (by decide) (by decide)
theorem skLn_size {s : Stroke} (h : okStroke' s = true) : (skLn s).size ≤ 3840 := by
  have h1 := jnB_le (sep := ⟨#[32]⟩) rfl (pts_size h)
  have h2 := okS_len h
  rw [List.length_map] at h1
  unfold skLn; omega
theorem lns_size {x : Ink} (h : okInk' x = true) : ∀ y ∈ x.Strokes.map skLn, y.size ≤ 3840 := fun y hy => by
  obtain ⟨s, hs, rfl⟩ := List.mem_map.1 hy
  exact skLn_size (okI_mem h s hs)
theorem inkL_size {x : Ink} (h : okInk' x = true) {k : Nat} (hk : k ≤ x.Strokes.length) : (linesX (x.Strokes.map skLn) k).size ≤ 100000 := by
  have h1 := linesX_size (lns_size h) k (by rw [List.length_map]; exact hk)
  have h2 := okI_len h
  omega
theorem at_map' {α β : Type} [Inhabited α] [Inhabited β] {xs : List α} {f : α → β} {k : Nat} (h : k < xs.length) : at_ (xs.map f) k = f (at_ xs k) := by simp [at_, h]

-- impl.InkText
theorem InkText_ok (ik : Ink) : Con Tryz.prog 11 [.agg [slStroke false ik.Strokes]] true (Sv (inkTx ik)) := by
  refine fn_ok (fn := Tryz.f11) (nt := 44) Tryz.func11 rfl rfl rfl rfl (by simp [taggedL, tagged, tagStroke]) fun B hB => ?_
  refine aw_lens (x := .agg [slStroke false ik.Strokes]) 0 rfl (fun len_ik => ?_)
  simp [LenOK, LenL, cPoint, cStroke, fPoint, fStroke, slPoint, slStroke] at len_ik
  refine aR [(0, .new 1)] [1] [1] [.ref 1 0] [some (.box [slStroke false ik.Strokes])] [] hB trivial ?_
  refine aw_seq ?_
  refine aw_seq ?_
  rcases Bool.eq_false_or_eq_true (okInk' ik) with h1 | h1
  ·have hil := okI_len h1
   have hok := h1
   refine aw_r [(1, .call [(true, .any)] true (Bv true))] [1, 11] [1] [.ref 1 0, Bv false] [some (.box [slStroke false ik.Strokes])] [Con Tryz.prog 13 [.agg [slStroke false ik.Strokes]] true (Bv true) ∧ True] hB ⟨⟨(con_bool h1 (ValidInk_ok ik)), trivial⟩, trivial⟩ ?_
   refine ae_then ?_
   refine aw_false rfl ?_
   refine aw_skip ?_
   refine ae_then ?_
   refine aR [(0, .newb 3 60006 5)] [1, 3] [1, 3, 60006] [.ref 1 0, .ref 3 0] [some (.box [slStroke false ik.Strokes]), some (.bld 134 60006), some (.buf 5 false (⟨#[]⟩ : ByteArray))] [] hB trivial ?_
   refine aw_seq ?_
   refine aR [] [3, 13, 14, 15] [3, 60006] [.ref 3 0, slStroke false ik.Strokes, I (ik.Strokes.length : Int), I 0] [some (.bld 134 60006), some (.buf 5 false (⟨#[]⟩ : ByteArray))] [] hB trivial ?_
   refine aw_block ?_
   refine aw_loop (fun gn gσ => ∃ (k : Int) (tx : ByteArray), gn = ((ik.Strokes.length : Int) - k).toNat ∧ (0 ≤ k ∧ k ≤ (ik.Strokes.length : Int)) ∧ (tx = linesX (ik.Strokes.map skLn) k.toNat) ∧ gσ = mkS [(3, .ref 3 0), (13, slStroke false ik.Strokes), (14, I (ik.Strokes.length : Int)), (15, I k)] [(3, .bld 134 60006), (60006, .buf 5 false tx)]) (((ik.Strokes.length : Int) - 0).toNat) ⟨0, (⟨#[]⟩ : ByteArray), rfl, (by omega), (by rfl), rfl⟩ (fun gn gσ hI => ?_)
   obtain ⟨k, tx, rfl, hi0, htx, rfl⟩ := hI
   refine aw_seq ?_
   by_cases h2 : k < (ik.Strokes.length : Int)
   ·have hi : k.toNat < ik.Strokes.length := by omega
    have hos := okI_all hok _ hi
    have hol := okS_len hos
    have hsl := skLn_size hos
    have hzl := inkL_size hok (k := k.toNat) (by omega)
    rw [← htx] at hzl
    have hks : (k + 1).toNat = k.toNat + 1 := by omega
    refine aw_r [(0, .dec true)] [3, 13, 14, 15, 16] [3, 60006] [.ref 3 0, slStroke false ik.Strokes, I (ik.Strokes.length : Int), I k, Bv true] [some (.bld 134 60006), some (.buf 5 false tx)] [k < (ik.Strokes.length : Int)] hB ⟨h2, trivial⟩ ?_
    refine ae_then ?_
    refine aw_seq ?_
    refine aw_true rfl ?_
    refine aw_skip ?_
    refine ae_then ?_
    refine aw_seq ?_
    refine aw_block ?_
    refine aR [(2, .new 5)] [3, 5, 13, 14, 15] [3, 5, 60006] [.ref 3 0, .ref 5 0, slStroke false ik.Strokes, I (ik.Strokes.length : Int), I k] [some (.bld 134 60006), some (.box [slPoint false ((at_ ik.Strokes k.toNat).Points)]), some (.buf 5 false tx)] [(0 : Int) ≤ k ∧ k < (ik.Strokes.length : Int)] hB ⟨⟨(by omega), (by omega)⟩, trivial⟩ ?_
    refine aR [] [3, 5, 6, 13, 14, 15] [3, 5, 60006] [.ref 3 0, .ref 5 0, nilA, slStroke false ik.Strokes, I (ik.Strokes.length : Int), I k] [some (.bld 134 60006), some (.box [slPoint false ((at_ ik.Strokes k.toNat).Points)]), some (.buf 5 false tx)] [] hB trivial ?_
    refine aw_seq ?_
    refine aR [] [3, 6, 13, 14, 15, 20, 21, 22] [3, 60006] [.ref 3 0, nilA, slStroke false ik.Strokes, I (ik.Strokes.length : Int), I k, slPoint false ((at_ ik.Strokes k.toNat).Points), I ((((at_ ik.Strokes k.toNat).Points).length) : Int), I 0] [some (.bld 134 60006), some (.buf 5 false tx)] [] hB trivial ?_
    refine aw_block ?_
    refine aw_nil hB 6 706 1 (fun _ => []) (by kernel_rfl) ?_
    refine aw_weak hB [] (T := [(3, .ref 3 0), (6, .arr 706), (13, slStroke false ik.Strokes), (14, I (ik.Strokes.length : Int)), (15, I k), (20, slPoint false ((at_ ik.Strokes k.toNat).Points)), (21, I ((((at_ ik.Strokes k.toNat).Points).length) : Int)), (22, I 0)]) (O := [(3, .bld 134 60006), (706, tAS ([] : List ByteArray)), (60006, .buf 5 false tx)]) rfl (⟨.inl rfl, .inl rfl, .inl rfl, .inl rfl, .inl rfl, .inl rfl, .inl rfl, .inl rfl, trivial⟩) (⟨.inl rfl, .inr ⟨rfl, (by first | rfl | (simp; done) | (simp; omega) | omega), fun i_ hi_ => absurd hi_ (Nat.not_lt_zero _)⟩, .inl rfl, trivial⟩) ?_
    refine aw_loop (fun gn gσ => ∃ (words : List ByteArray) (j : Int), gn = (((at_ ik.Strokes k.toNat).Points.length : Int) - j).toNat ∧ (0 ≤ j ∧ j ≤ ((at_ ik.Strokes k.toNat).Points.length : Int)) ∧ (words = ((at_ ik.Strokes k.toNat).Points.take j.toNat).map ptTx) ∧ gσ = mkS [(3, .ref 3 0), (6, .arr 706), (13, slStroke false ik.Strokes), (14, I (ik.Strokes.length : Int)), (15, I k), (20, slPoint false ((at_ ik.Strokes k.toNat).Points)), (21, I ((((at_ ik.Strokes k.toNat).Points).length) : Int)), (22, I j)] [(3, .bld 134 60006), (706, tAS words), (60006, .buf 5 false tx)]) ((((at_ ik.Strokes k.toNat).Points.length : Int) - 0).toNat) ⟨([] : List ByteArray), 0, rfl, (by omega), (by rfl), rfl⟩ (fun gn gσ hI => ?_)
    obtain ⟨words, j, rfl, hj0, hws, rfl⟩ := hI
    refine aw_seq ?_
    by_cases h3 : j < ((((at_ ik.Strokes k.toNat).Points).length) : Int)
    ·have hj : j.toNat < (at_ ik.Strokes k.toNat).Points.length := by omega
     have hpo := okS_at hos hj
     have hwl : words.length = j.toNat := by rw [hws]; simp; omega
     refine aw_r [(0, .dec true)] [3, 6, 13, 14, 15, 20, 21, 22, 23] [3, 706, 60006] [.ref 3 0, .arr 706, slStroke false ik.Strokes, I (ik.Strokes.length : Int), I k, slPoint false ((at_ ik.Strokes k.toNat).Points), I ((((at_ ik.Strokes k.toNat).Points).length) : Int), I j, Bv true] [some (.bld 134 60006), some (tAS words), some (.buf 5 false tx)] [j < ((((at_ ik.Strokes k.toNat).Points).length) : Int)] hB ⟨h3, trivial⟩ ?_
     refine ae_then ?_
     refine aw_seq ?_
     refine aw_true rfl ?_
     refine aw_skip ?_
     refine ae_then ?_
     refine aw_seq ?_
     refine aw_block ?_
     refine aR [(2, .new 8)] [3, 6, 8, 13, 14, 15, 20, 21, 22] [3, 8, 706, 60006] [.ref 3 0, .arr 706, .ref 8 0, slStroke false ik.Strokes, I (ik.Strokes.length : Int), I k, slPoint false ((at_ ik.Strokes k.toNat).Points), I ((((at_ ik.Strokes k.toNat).Points).length) : Int), I j] [some (.bld 134 60006), some (bxPoint (at_ ((at_ ik.Strokes k.toNat).Points) j.toNat)), some (tAS words), some (.buf 5 false tx)] [(0 : Int) ≤ j ∧ j < ((((at_ ik.Strokes k.toNat).Points).length) : Int)] hB ⟨⟨(by omega), (by omega)⟩, trivial⟩ ?_
     refine aw_r [(7, .new 33), (8, .call [(false, slI false ([(at_ ((at_ ik.Strokes k.toNat).Points) j.toNat).X, (at_ ((at_ ik.Strokes k.toNat).Points) j.toNat).Y, (at_ ((at_ ik.Strokes k.toNat).Points) j.toNat).T]))] true (Sv (comB ([(at_ ((at_ ik.Strokes k.toNat).Points) j.toNat).X, (at_ ((at_ ik.Strokes k.toNat).Points) j.toNat).Y, (at_ ((at_ ik.Strokes k.toNat).Points) j.toNat).T])))), (9, .new 35), (10, .new 36)] [3, 6, 13, 14, 15, 20, 21, 22] [3, 36, 60006] [.ref 3 0, .arr 36, slStroke false ik.Strokes, I (ik.Strokes.length : Int), I k, slPoint false ((at_ ik.Strokes k.toNat).Points), I ((((at_ ik.Strokes k.toNat).Points).length) : Int), I j] [some (.bld 134 60006), some (.arr 1 (words.length + 1) (catF words.length (fS words) (litF [Sv (comB ([(at_ ((at_ ik.Strokes k.toNat).Points) j.toNat).X, (at_ ((at_ ik.Strokes k.toNat).Points) j.toNat).Y, (at_ ((at_ ik.Strokes k.toNat).Points) j.toNat).T]))] 1))), some (.buf 5 false tx)] [Con Tryz.prog 72 [slI false ([(at_ ((at_ ik.Strokes k.toNat).Points) j.toNat).X, (at_ ((at_ ik.Strokes k.toNat).Points) j.toNat).Y, (at_ ((at_ ik.Strokes k.toNat).Points) j.toNat).T])] true (Sv (comB ([(at_ ((at_ ik.Strokes k.toNat).Points) j.toNat).X, (at_ ((at_ ik.Strokes k.toNat).Points) j.toNat).Y, (at_ ((at_ ik.Strokes k.toNat).Points) j.toNat).T]))) ∧ ((false = true → true = true) ∧ 1 = 1 ∧ 3 = (([(at_ ((at_ ik.Strokes k.toNat).Points) j.toNat).X, (at_ ((at_ ik.Strokes k.toNat).Points) j.toNat).Y, (at_ ((at_ ik.Strokes k.toNat).Points) j.toNat).T]).length) ∧ ∀ i_, i_ < (([(at_ ((at_ ik.Strokes k.toNat).Points) j.toNat).X, (at_ ((at_ ik.Strokes k.toNat).Points) j.toNat).Y, (at_ ((at_ ik.Strokes k.toNat).Points) j.toNat).T]).length) → (litF [I ((at_ ((at_ ik.Strokes k.toNat).Points) j.toNat).X), I ((at_ ((at_ ik.Strokes k.toNat).Points) j.toNat).Y), I ((at_ ((at_ ik.Strokes k.toNat).Points) j.toNat).T)] 1) i_ = (fI ([(at_ ((at_ ik.Strokes k.toNat).Points) j.toNat).X, (at_ ((at_ ik.Strokes k.toNat).Points) j.toNat).Y, (at_ ((at_ ik.Strokes k.toNat).Points) j.toNat).T])) i_ ∨ (AV.idsL ((fI ([(at_ ((at_ ik.Strokes k.toNat).Points) j.toNat).X, (at_ ((at_ ik.Strokes k.toNat).Points) j.toNat).Y, (at_ ((at_ ik.Strokes k.toNat).Points) j.toNat).T])) i_) = [] ∧ leL (fun _ => none) false ((litF [I ((at_ ((at_ ik.Strokes k.toNat).Points) j.toNat).X), I ((at_ ((at_ ik.Strokes k.toNat).Points) j.toNat).Y), I ((at_ ((at_ ik.Strokes k.toNat).Points) j.toNat).T)] 1) i_) ((fI ([(at_ ((at_ ik.Strokes k.toNat).Points) j.toNat).X, (at_ ((at_ ik.Strokes k.toNat).Points) j.toNat).Y, (at_ ((at_ ik.Strokes k.toNat).Points) j.toNat).T])) i_))) ∧ True, (words.length + 1) * 16 ≤ 140737488355328] hB ⟨⟨(commasOf_ok ([(at_ ((at_ ik.Strokes k.toNat).Points) j.toNat).X, (at_ ((at_ ik.Strokes k.toNat).Points) j.toNat).Y, (at_ ((at_ ik.Strokes k.toNat).Points) j.toNat).T]) (pt_bnd hpo)), ⟨(fun h => by cases h), rfl, (by first | rfl | (simp; done) | (simp; omega) | omega), fun i_ hi_ => .inl (match i_, hi_ with | 0, _ => rfl | 1, _ => rfl | 2, _ => rfl | (i + 3), h => absurd h (by simp))⟩, trivial⟩, (by omega), trivial⟩ ?_
     refine ae_block 3 ?_
     refine ae_then ?_
     refine aw_r [] [3, 6, 13, 14, 15, 20, 21, 22] [3, 36, 60006] [.ref 3 0, .arr 36, slStroke false ik.Strokes, I (ik.Strokes.length : Int), I k, slPoint false ((at_ ik.Strokes k.toNat).Points), I ((((at_ ik.Strokes k.toNat).Points).length) : Int), I (j + 1)] [some (.bld 134 60006), some (.arr 1 (words.length + 1) (catF words.length (fS words) (litF [Sv (comB ([(at_ ((at_ ik.Strokes k.toNat).Points) j.toNat).X, (at_ ((at_ ik.Strokes k.toNat).Points) j.toNat).Y, (at_ ((at_ ik.Strokes k.toNat).Points) j.toNat).T]))] 1))), some (.buf 5 false tx)] [inR .i64 (j + 1)] hB ⟨(inR_i64 (by omega) (by omega)), trivial⟩ ?_
     refine ae_weak hB [(706, 36)] (T := [(3, .ref 3 0), (6, .arr 706), (13, slStroke false ik.Strokes), (14, I (ik.Strokes.length : Int)), (15, I k), (20, slPoint false ((at_ ik.Strokes k.toNat).Points)), (21, I ((((at_ ik.Strokes k.toNat).Points).length) : Int)), (22, I (j + 1))]) (O := [(3, .bld 134 60006), (706, tAS (words ++ [(comB ([(at_ ((at_ ik.Strokes k.toNat).Points) j.toNat).X, (at_ ((at_ ik.Strokes k.toNat).Points) j.toNat).Y, (at_ ((at_ ik.Strokes k.toNat).Points) j.toNat).T]))])), (60006, .buf 5 false tx)]) rfl (⟨.inl rfl, .inl rfl, .inl rfl, .inl rfl, .inl rfl, .inl rfl, .inl rfl, .inl rfl, trivial⟩) (⟨.inl rfl, .inr ⟨rfl, (by first | rfl | (simp; done) | (simp; omega) | omega), fun i_ hi_ => .inl (cat_snoc (enc := cS) (xs := words) rfl i_ hi_)⟩, .inl rfl, trivial⟩) (ae_again _ (by omega) ⟨(words ++ [(comB ([(at_ ((at_ ik.Strokes k.toNat).Points) j.toNat).X, (at_ ((at_ ik.Strokes k.toNat).Points) j.toNat).Y, (at_ ((at_ ik.Strokes k.toNat).Points) j.toNat).T]))]), (j + 1), rfl, (by omega), (by rw [hws]; exact (mapTake_succ (by omega) hj rfl).symm), rfl⟩)
    have hfin : words = (at_ ik.Strokes k.toNat).Points.map ptTx := by rw [hws]; exact map_all (by omega)
    have hjs : jnB ⟨#[32]⟩ words = skLn (at_ ik.Strokes k.toNat) := by rw [hfin]; rfl
    refine aw_r [(0, .dec false)] [3, 6, 13, 14, 15, 20, 21, 22, 23] [3, 706, 60006] [.ref 3 0, .arr 706, slStroke false ik.Strokes, I (ik.Strokes.length : Int), I k, slPoint false ((at_ ik.Strokes k.toNat).Points), I ((((at_ ik.Strokes k.toNat).Points).length) : Int), I j, Bv false] [some (.bld 134 60006), some (tAS words), some (.buf 5 false tx)] [¬ (j < ((((at_ ik.Strokes k.toNat).Points).length) : Int))] hB ⟨h3, trivial⟩ ?_
    refine ae_then ?_
    refine aw_seq ?_
    refine aw_false rfl ?_
    refine aw_exit ?_
    refine ae_exit_then ?_
    refine ae_exit_then ?_
    refine ae_exit_same ?_
    refine ae_then ?_
    refine aw_r [(1, .call [(false, slS false words), (true, .any)] true (Sv (jnB (⟨#[32]⟩ : ByteArray) words))), (3, .bw 3 60006 60007 (.string ((jnB (⟨#[32]⟩ : ByteArray) words) ++ (⟨#[10]⟩ : ByteArray))) false ((jnB (⟨#[32]⟩ : ByteArray) words) ++ (⟨#[10]⟩ : ByteArray)))] [3, 13, 14, 15] [3, 60007] [.ref 3 0, slStroke false ik.Strokes, I (ik.Strokes.length : Int), I k] [some (.bld 134 60007), some (.buf 5 false (tx ++ ((jnB (⟨#[32]⟩ : ByteArray) words) ++ (⟨#[10]⟩ : ByteArray))))] [Con Tryz.prog 74 [slS false words, Sv (⟨#[32]⟩ : ByteArray)] true (Sv (jnB (⟨#[32]⟩ : ByteArray) words)) ∧ ((false = true → true = true) ∧ 1 = 1 ∧ words.length = words.length ∧ ∀ i_, i_ < words.length → (fS words) i_ = (fS words) i_ ∨ (AV.idsL ((fS words) i_) = [] ∧ leL (fun _ => none) false ((fS words) i_) ((fS words) i_))) ∧ True, (jnB (⟨#[32]⟩ : ByteArray) words).size + (⟨#[10]⟩ : ByteArray).size ≤ 9223372036854775807, ([.ref 3 0, Sv ((jnB (⟨#[32]⟩ : ByteArray) words) ++ (⟨#[10]⟩ : ByteArray))] : List AV) = [.ref 3 0, Sv ((jnB (⟨#[32]⟩ : ByteArray) words) ++ (⟨#[10]⟩ : ByteArray))] ∧ BwOK Tryz.prog 73 134 5 (.string ((jnB (⟨#[32]⟩ : ByteArray) words) ++ (⟨#[10]⟩ : ByteArray))) false tx false ((jnB (⟨#[32]⟩ : ByteArray) words) ++ (⟨#[10]⟩ : ByteArray))] hB ⟨⟨(join_ok words (⟨#[32]⟩ : ByteArray) (by rw [hfin]; exact sk_jok hos)), ⟨(fun h => by cases h), rfl, rfl, fun i _ => .inl rfl⟩, trivial⟩, (by have h3 : (⟨#[10]⟩ : ByteArray).size = 1 := rfl; (try rw [hjs]); (try simp only [ByteArray.size_append]); omega), ⟨rfl, bw_ok (by have h3 : (⟨#[10]⟩ : ByteArray).size = 1 := rfl; (try rw [hjs]); (try simp only [ByteArray.size_append]); omega)⟩, trivial⟩ ?_
    refine ae_block 1 ?_
    refine ae_then ?_
    refine aw_r [] [3, 13, 14, 15] [3, 60007] [.ref 3 0, slStroke false ik.Strokes, I (ik.Strokes.length : Int), I (k + 1)] [some (.bld 134 60007), some (.buf 5 false (tx ++ ((jnB (⟨#[32]⟩ : ByteArray) words) ++ (⟨#[10]⟩ : ByteArray))))] [inR .i64 (k + 1)] hB ⟨(inR_i64 (by omega) (by omega)), trivial⟩ ?_
    refine ae_weak hB [(60006, 60007)] (T := [(3, .ref 3 0), (13, slStroke false ik.Strokes), (14, I (ik.Strokes.length : Int)), (15, I (k + 1))]) (O := [(3, .bld 134 60006), (60006, .buf 5 false (tx ++ ((jnB (⟨#[32]⟩ : ByteArray) words) ++ (⟨#[10]⟩ : ByteArray))))]) rfl (⟨.inl rfl, .inl rfl, .inl rfl, .inl rfl, trivial⟩) (⟨.inl rfl, .inl rfl, trivial⟩) (ae_again _ (by omega) ⟨(k + 1), (tx ++ ((jnB (⟨#[32]⟩ : ByteArray) words) ++ (⟨#[10]⟩ : ByteArray))), rfl, (by omega), (by rw [hks, linesX, at_map' hi, hjs, ← htx]), rfl⟩)
   have hke : k.toNat = ik.Strokes.length := by omega
   rw [hke] at htx
   refine aw_r [(0, .dec false)] [3, 13, 14, 15, 16] [3, 60006] [.ref 3 0, slStroke false ik.Strokes, I (ik.Strokes.length : Int), I k, Bv false] [some (.bld 134 60006), some (.buf 5 false tx)] [¬ (k < (ik.Strokes.length : Int))] hB ⟨h2, trivial⟩ ?_
   refine ae_then ?_
   refine aw_seq ?_
   refine aw_false rfl ?_
   refine aw_exit ?_
   refine ae_exit_then ?_
   refine ae_exit_then ?_
   refine ae_exit_same ?_
   refine ae_then ?_
   refine aR [(0, .bs 3 60006)] [2] [] [Sv tx] [] [([.ref 3 0] : List AV) = [.ref 3 0] ∧ BsOK Tryz.prog 75 134 5] hB ⟨⟨rfl, bs_ok⟩, trivial⟩ ?_
   refine aw_ret ?_
   refine ae_ret hB (Sv tx) (by kernel_rfl) (.inl (by first | (rw [inkTx, if_pos hok, htx]; done) | (rw [inkTx, if_neg (by simp [*])]; done))) rfl (fun _ => trivial)
  refine aw_r [(1, .call [(true, .any)] true (Bv false))] [1, 11] [1] [.ref 1 0, Bv true] [some (.box [slStroke false ik.Strokes])] [Con Tryz.prog 13 [.agg [slStroke false ik.Strokes]] true (Bv false) ∧ True] hB ⟨⟨(con_bool h1 (ValidInk_ok ik)), trivial⟩, trivial⟩ ?_
  refine ae_then ?_
  refine aw_true rfl ?_
  refine aR [] [2] [] [Sv (⟨#[]⟩ : ByteArray)] [] [] hB trivial ?_
  refine aw_ret ?_
  refine ae_ret_then ?_
  refine ae_ret hB (Sv (⟨#[]⟩ : ByteArray)) (by kernel_rfl) (.inl (by first | (rw [inkTx, if_pos hok, htx]; done) | (rw [inkTx, if_neg (by simp [*])]; done))) rfl (fun _ => trivial)


-- strings.HasSuffix
theorem hasSuffix_ok (s p : ByteArray) (hs : s.size ≤ 9223372036854775807) : Con Tryz.prog 148 [Sv s, Sv p] true (Bv (sufB s p)) := by
  refine con_of_calls (vals := [.string s, .string p]) fun w _ => ?_
  refine (Tryz.strings_HasSuffix s p w hs).mono ?_
  rintro e w' ⟨rfl, rfl⟩
  exact ⟨rfl, Below.refl _ _⟩


-- strings.TrimSuffix
theorem trimSuffix_ok (s p : ByteArray) (hs : s.size ≤ 9223372036854775807) : Con Tryz.prog 150 [Sv s, Sv p] true (Sv (trsB s p)) := by
  refine con_of_calls (vals := [.string s, .string p]) fun w _ => ?_
  refine (Tryz.strings_TrimSuffix s p w hs).mono ?_
  rintro e w' ⟨rfl, rfl⟩
  exact ⟨rfl, Below.refl _ _⟩


-- strings.Split
set_option maxHeartbeats 2000000 in
set_option maxRecDepth 100000 in
theorem split_ok (s sep : ByteArray) (hs : s.size ≤ 140737488 ∧ True) (h1 : sep.size = 1) : Con Tryz.prog 149 [Sv s, Sv sep] true (slS true (splB sep s)) := by
  obtain ⟨c, rfl⟩ := Lib.one_byte sep h1
  have hle := Lib.countB_le ⟨#[c]⟩ (by omega) s.size s (Nat.le_refl _)
  have hlen := splB_length (s := s) h1
  have hcell : ∀ i, i < Lib.countB s ⟨#[c]⟩ + 1 → (((Lib.splitB ⟨#[c]⟩ 0 (Lib.countB s ⟨#[c]⟩) s).map Value.string).toArray)[i]? = some (.string (at_ (splB ⟨#[c]⟩ s) i)) ∧ (Value.string (at_ (splB ⟨#[c]⟩ s) i)).oneCell' = true := fun i hi => by
    have hi2 : i < (Lib.splitB ⟨#[c]⟩ 0 (Lib.countB s ⟨#[c]⟩) s).length := by omega
    refine ⟨?_, rfl⟩
    have e : at_ (splB ⟨#[c]⟩ s) i = (Lib.splitB ⟨#[c]⟩ 0 (Lib.countB s ⟨#[c]⟩) s)[i] := at_eq hi2
    rw [e]
    simp [List.getElem?_eq_getElem hi2]
  have hmain := con_of_calls_sl (P := Tryz.prog) (f := 149) (vals := [.string s, .string ⟨#[c]⟩]) (n := Lib.countB s ⟨#[c]⟩ + 1) (T := 9) (cs := ((Lib.splitB ⟨#[c]⟩ 0 (Lib.countB s ⟨#[c]⟩) s).map Value.string).toArray) (g := fun i => .string (at_ (splB ⟨#[c]⟩ s) i)) (by unfold maxLen; omega) hcell ?_
  · have e : slS true (splB ⟨#[c]⟩ s) = .sl true 1 (Lib.countB s ⟨#[c]⟩ + 1) fun i => [Sv (at_ (splB ⟨#[c]⟩ s) i)] := by
      rw [← hlen]; rfl
    rw [e]
    exact hmain
  · intro w _
    have hI : ∀ (x : ByteArray) (d : Array Value), x.size ≤ s.size → Calls Tryz.prog 258 #[.string x, .string ⟨#[c]⟩] (w.alloc (.cells d 9)) fun e w' => e = .returned (.int .i64 (Lib.indexB x ⟨#[c]⟩)) ∧ w' = w.alloc (.cells d 9) := fun x d _ => by
      have := Tryz.strings_Index_one x c (w.alloc (.cells d 9))
      have e : Lib.indexB x ⟨#[c]⟩ = Lib.indexByte x.data.toList c := Lib.index_one _ _
      rw [e]
      exact this
    have hC : Calls Tryz.prog 257 #[.string s, .string ⟨#[c]⟩] w fun e w' => e = .returned (.int .i64 (Lib.countB s ⟨#[c]⟩)) ∧ w' = w := by
      have := Tryz.strings_Count_one s c w
      have e : Lib.countB s ⟨#[c]⟩ = Lib.countByte s.data.toList c := Lib.count_one c _
      rw [e]
      exact this
    have hcore := Any.strings_genSplit_core Tryz.lays221 (by kernel_rfl) s ⟨#[c]⟩ 0 (-1) (Lib.countB s ⟨#[c]⟩ + 1) w (by omega) (by omega) (Nat.zero_le _) hI hC (by decide) (by decide) (by rw [if_pos (by decide)]; omega)
    rw [Nat.add_sub_cancel, hlen] at hcore
    have e2 : Lib.cellsOf (Lib.splitB ⟨#[c]⟩ 0 (Lib.countB s ⟨#[c]⟩) s) (Lib.countB s ⟨#[c]⟩ + 1) = ((Lib.splitB ⟨#[c]⟩ 0 (Lib.countB s ⟨#[c]⟩) s).map Value.string).toArray := by rw [← hlen]; exact Lib.cellsOf_full _
    rw [e2] at hcore
    go_enter Tryz.func149, Tryz.ntmps149
    go_wp2_with (go_at_call 212; refine hcore.mono ?_; rintro e w' ⟨rfl, hw⟩; rw [hw])
    go_ret
    exact ⟨rfl, rfl⟩


-- impl.linesOf
theorem linesOf_ok (s : ByteArray) (ok : linOk s) : ∃ (ls : List ByteArray) (k : Bool), (ls = linB s) ∧ (k = true) ∧ Con Tryz.prog 69 [Sv s] true (.tup [slS true ls, Bv k]) := by
  have hz := ok.1
  have hh : ∃ r : (List ByteArray) × Bool, ((r.1 = linB s) ∧ (r.2 = true) ∧ (True)) ∧ CallOK Tryz.prog 69 [Sv s] (lookO []) true (.tup [slS true r.1, Bv r.2]) (lookO []) := by
    refine fn_okX (Φ := fun r : (List ByteArray) × Bool => (r.1 = linB s) ∧ (r.2 = true) ∧ (True)) [] (fun r => []) (fn := Tryz.f69) (nt := 12) Tryz.func69 rfl rfl (args := [Sv s]) rfl (allcons (.inl ⟨rfl, trivial⟩) allnil) (res := fun r => .tup [slS true r.1, Bv r.2]) ?_
    refine xR [] [0] [] [Sv s] [] [] trivial ?_
    refine x_seq ?_
    refine x_seq ?_
    by_cases h1 : s = (⟨#[]⟩ : ByteArray)
    ·have hlb : linB s = [] := by rw [linB, if_pos h1]
     refine x_r [(1, .dec true)] [0, 5] [] [Sv s, Bv true] [] [s = (⟨#[]⟩ : ByteArray)] ⟨h1, trivial⟩ ?_
     refine xe_then ?_
     refine x_true rfl ?_
     refine xR [] [2, 3] [] [nilA, Bv true] [] [] trivial ?_
     refine x_ret ?_
     refine xe_ret_then ?_
     refine xe_end (([] : List ByteArray), true) (show (([] : List ByteArray) = linB s) ∧ (true = true) ∧ (True) from ⟨(by first | exact hlb.symm | rfl), (by first | exact hlb.symm | rfl), trivial⟩) (trivial) (.tup [nilA, Bv true]) (by kernel_rfl) (.inr ⟨⟨rfl, rfl⟩, ⟨rfl, rfl⟩⟩) (fun _ => rfl) (fun _ => (by simp [tagged, taggedL, tagS]))
    have hse := h1
    have hlb : linB s = splB ⟨#[10]⟩ (trsB s ⟨#[10]⟩) := by rw [linB, if_neg hse]
    refine x_r [(1, .dec false)] [0, 5] [] [Sv s, Bv false] [] [¬ (s = (⟨#[]⟩ : ByteArray))] ⟨h1, trivial⟩ ?_
    refine xe_then ?_
    refine x_false rfl ?_
    refine x_skip ?_
    refine xe_then ?_
    refine x_seq ?_
    refine xR [(1, .call [(true, .any), (true, .any)] true (Bv true))] [0, 8] [] [Sv s, Bv false] [] [Con Tryz.prog 148 [Sv s, Sv (⟨#[10]⟩ : ByteArray)] true (Bv true) ∧ True] ⟨⟨(con_bool (ok.2.resolve_left hse) (hasSuffix_ok s (⟨#[10]⟩ : ByteArray) (by omega))), trivial⟩, trivial⟩ ?_
    refine x_false rfl ?_
    refine x_skip ?_
    refine xe_then ?_
    refine xR [(1, .call [(true, .any), (true, .any)] true (Sv (trsB s (⟨#[10]⟩ : ByteArray)))), (2, .call [(true, .any), (true, .any)] true (slS true (splB (⟨#[10]⟩ : ByteArray) (trsB s (⟨#[10]⟩ : ByteArray)))))] [2, 3] [] [slS true (splB (⟨#[10]⟩ : ByteArray) (trsB s (⟨#[10]⟩ : ByteArray))), Bv true] [] [Con Tryz.prog 150 [Sv s, Sv (⟨#[10]⟩ : ByteArray)] true (Sv (trsB s (⟨#[10]⟩ : ByteArray))) ∧ True, Con Tryz.prog 149 [Sv (trsB s (⟨#[10]⟩ : ByteArray)), Sv (⟨#[10]⟩ : ByteArray)] true (slS true (splB (⟨#[10]⟩ : ByteArray) (trsB s (⟨#[10]⟩ : ByteArray)))) ∧ True] ⟨⟨(trimSuffix_ok s (⟨#[10]⟩ : ByteArray) (by omega)), trivial⟩, ⟨(split_ok (trsB s (⟨#[10]⟩ : ByteArray)) (⟨#[10]⟩ : ByteArray) ⟨by have := trsB_size s ⟨#[10]⟩; omega, trivial⟩ rfl), trivial⟩, trivial⟩ ?_
    refine x_ret ?_
    refine xe_end ((splB (⟨#[10]⟩ : ByteArray) (trsB s (⟨#[10]⟩ : ByteArray))), true) (show ((splB (⟨#[10]⟩ : ByteArray) (trsB s (⟨#[10]⟩ : ByteArray))) = linB s) ∧ (true = true) ∧ (True) from ⟨(by first | exact hlb.symm | rfl), (by first | exact hlb.symm | rfl), trivial⟩) (trivial) (.tup [slS true (splB (⟨#[10]⟩ : ByteArray) (trsB s (⟨#[10]⟩ : ByteArray))), Bv true]) (by kernel_rfl) (.inl rfl) (fun _ => rfl) (fun _ => (by simp [tagged, taggedL, tagS]))
  obtain ⟨⟨ls, k⟩, ⟨hh0, hh1, _⟩, hc⟩ := hh
  exact ⟨ls, k, hh0, hh1, hc⟩


-- impl.wordsOf
theorem wordsOf_ok (s : ByteArray) (hz : s.size ≤ 10000000) : Con Tryz.prog 70 [Sv s] true (slS true (splB ⟨#[32]⟩ s)) := by
  refine fn_ok (fn := Tryz.f70) (nt := 5) Tryz.func70 rfl rfl rfl rfl (by simp [taggedL, tagged]) fun B hB => ?_
  refine aR [] [0] [] [Sv s] [] [] hB trivial ?_
  refine aR [(1, .call [(true, .any), (true, .any)] true (slS true (splB (⟨#[32]⟩ : ByteArray) s)))] [2] [] [slS true (splB (⟨#[32]⟩ : ByteArray) s)] [] [Con Tryz.prog 149 [Sv s, Sv (⟨#[32]⟩ : ByteArray)] true (slS true (splB (⟨#[32]⟩ : ByteArray) s)) ∧ True] hB ⟨⟨(split_ok s (⟨#[32]⟩ : ByteArray) ⟨by omega, trivial⟩ rfl), trivial⟩, trivial⟩ ?_
  refine aw_ret ?_
  refine ae_ret hB (slS true (splB (⟨#[32]⟩ : ByteArray) s)) (by kernel_rfl) (.inr ⟨(fun _ => rfl), rfl, (by first | rfl | (simp; done) | (simp; omega) | omega), fun i_ hi_ => .inl (by first | rfl | fail)⟩) rfl (fun _ => (tagS true _))


-- impl.ReadDecimal
set_option maxHeartbeats 2000000 in
theorem dec_calls (n : Int) (h : -9223372036854775808 ≤ n ∧ n ≤ 9223372036854775807) (w : World) (hw : WX w) : Calls Tryz.prog 95 #[.int .i64 n] w fun e w' => e = .returned (.string (decB n)) ∧ Below w.heap.size w w' := by
  go_enter Tryz.func95, Tryz.ntmps95
  go_wp2_with (go_at_call 173; refine (Tryz.strconv_FormatInt_10 n h.1 h.2 w hw).mono ?_; rintro e w' ⟨rfl, k, os, rfl⟩)
  go_ret
  exact ⟨rfl, Lib.below_grow _ _ (Nat.le_refl _) k os⟩
set_option maxHeartbeats 2000000 in
set_option maxRecDepth 100000 in
theorem readDec_ok (s : ByteArray) (hs : isDec s) : Con Tryz.prog 120 [Sv s] true (.tup [I (dcV s), Bv true]) := by
  obtain ⟨n, hn, rfl⟩ := hs
  rw [dcV_dec hn]
  refine con_of_calls2 (vals := [.string (decB n)]) fun w hw => ?_
  have hp := parse_dec hn
  have ht := trp_dec hn
  have hsz := decB_size (n := n) (by omega)
  go_enter Tryz.func120, Tryz.ntmps120
  go_wp2_with (go_at_call 140; refine (Tryz.strings_TrimPrefix (decB n) _ w).mono ?_; rintro e w' ⟨rfl, hw'⟩; rw [hw'])
  clear hw'
  go_wp2_with (go_at_call 193; refine (Tryz.strconv_ParseInt_10_at64_ok (decB n) (by omega) n hp w).mono ?_; rintro e w2 ⟨rfl, hw2⟩)
  have hb : Below w.heap.size w w2 := by
    rcases hw2 with rfl | ⟨t, rfl⟩
    · exact Below.refl _ _
    · exact Lib.bytesWorld_below _ _ _
  have hx := WX_below hw w2 hb
  clear hw2
  go_wp2_with (go_at_call 95; refine (dec_calls n (by omega) w2 hx).mono ?_; rintro e w3 ⟨rfl, hb3⟩)
  go_ret2
  exact ⟨rfl, hb.trans (hb3.mono hb.size)⟩


-- impl.numbersOf
theorem numbersOf_ok (s : ByteArray) (hz : s.size ≤ 10000000) (hs : ∀ y ∈ splB ⟨#[44]⟩ s, isDec y) : ∃ (v : List Int), (v = dcs s) ∧ Con Tryz.prog 71 [Sv s] true (slI true v) := by
  have hh : ∃ r : (List Int), ((r = dcs s) ∧ (True)) ∧ CallOK Tryz.prog 71 [Sv s] (lookO []) true (slI true r) (lookO []) := by
    refine fn_okX (Φ := fun r : (List Int) => (r = dcs s) ∧ (True)) [] (fun r => []) (fn := Tryz.f71) (nt := 26) Tryz.func71 rfl rfl (args := [Sv s]) rfl (allcons (.inl ⟨rfl, trivial⟩) allnil) (res := fun r => slI true r) ?_
    refine xR [] [0] [] [Sv s] [] [] trivial ?_
    refine xR [] [0, 3] [] [Sv s, nilA] [] [] trivial ?_
    refine x_seq ?_
    refine xR [(1, .call [(true, .any), (true, .any)] true (slS true (splB (⟨#[44]⟩ : ByteArray) s)))] [3, 9, 10, 11] [] [nilA, slS true (splB (⟨#[44]⟩ : ByteArray) s), I (((splB (⟨#[44]⟩ : ByteArray) s).length) : Int), I 0] [] [Con Tryz.prog 149 [Sv s, Sv (⟨#[44]⟩ : ByteArray)] true (slS true (splB (⟨#[44]⟩ : ByteArray) s)) ∧ True] ⟨⟨(split_ok s (⟨#[44]⟩ : ByteArray) ⟨by omega, trivial⟩ rfl), trivial⟩, trivial⟩ ?_
    refine x_block ?_
    refine x_nil 3 703 1 (fun _ => []) (by kernel_rfl) ?_
    refine x_weak [] (T := [(3, .arr 703), (9, slS true (splB (⟨#[44]⟩ : ByteArray) s)), (10, I (((splB (⟨#[44]⟩ : ByteArray) s).length) : Int)), (11, I 0)]) (O := [(703, tAI ([] : List Int))]) rfl (⟨.inl rfl, .inl rfl, .inl rfl, .inl rfl, trivial⟩) (⟨.inr ⟨rfl, (by first | rfl | (simp; done) | (simp; omega) | omega), fun i_ hi_ => absurd hi_ (Nat.not_lt_zero _)⟩, trivial⟩) ?_
    refine x_loop (X := (List Int) × Int) (fun x => mkS [(3, .arr 703), (9, slS true (splB (⟨#[44]⟩ : ByteArray) s)), (10, I (((splB (⟨#[44]⟩ : ByteArray) s).length) : Int)), (11, I x.2)] [(703, tAI x.1)]) (fun x => (0 ≤ x.2 ∧ x.2 ≤ ((splB ⟨#[44]⟩ s).length : Int)) ∧ (x.1 = ((splB ⟨#[44]⟩ s).take x.2.toNat).map dcV) ∧ True) (fun x => (((splB ⟨#[44]⟩ s).length : Int) - x.2).toNat) (([] : List Int), 0) rfl (show (0 ≤ (0 : Int) ∧ (0 : Int) ≤ ((splB ⟨#[44]⟩ s).length : Int)) ∧ (([] : List Int) = ((splB ⟨#[44]⟩ s).take (0 : Int).toNat).map dcV) ∧ True from ⟨(by omega), (by rfl), trivial⟩) (fun x hI => ?_)
    obtain ⟨ns, k⟩ := x
    obtain ⟨hi0, hns, _⟩ : (0 ≤ k ∧ k ≤ ((splB ⟨#[44]⟩ s).length : Int)) ∧ (ns = ((splB ⟨#[44]⟩ s).take k.toNat).map dcV) ∧ True := hI
    show XW _ _ _ _ (mkS [(3, .arr 703), (9, slS true (splB (⟨#[44]⟩ : ByteArray) s)), (10, I (((splB (⟨#[44]⟩ : ByteArray) s).length) : Int)), (11, I k)] [(703, tAI ns)]) _ _
    refine x_seq ?_
    by_cases h1 : k < (((splB (⟨#[44]⟩ : ByteArray) s).length) : Int)
    ·have hi : k.toNat < (splB ⟨#[44]⟩ s).length := by omega
     have hnl : ns.length = k.toNat := by rw [hns]; simp; omega
     have hsl := splB_len 44 s
     refine x_r [(0, .dec true)] [3, 9, 10, 11, 12] [703] [.arr 703, slS true (splB (⟨#[44]⟩ : ByteArray) s), I (((splB (⟨#[44]⟩ : ByteArray) s).length) : Int), I k, Bv true] [some (tAI ns)] [k < (((splB (⟨#[44]⟩ : ByteArray) s).length) : Int)] ⟨h1, trivial⟩ ?_
     refine xe_then ?_
     refine x_seq ?_
     refine x_true rfl ?_
     refine x_skip ?_
     refine xe_then ?_
     refine x_seq ?_
     refine x_block ?_
     refine xR [] [3, 5, 9, 10, 11] [703] [.arr 703, Sv (at_ (splB (⟨#[44]⟩ : ByteArray) s) k.toNat), slS true (splB (⟨#[44]⟩ : ByteArray) s), I (((splB (⟨#[44]⟩ : ByteArray) s).length) : Int), I k] [some (tAI ns)] [(0 : Int) ≤ k ∧ k < (((splB (⟨#[44]⟩ : ByteArray) s).length) : Int)] ⟨⟨(by omega), (by omega)⟩, trivial⟩ ?_
     refine xR [(1, .call [(true, .any)] true (.tup [I (dcV (at_ (splB (⟨#[44]⟩ : ByteArray) s) k.toNat)), Bv true]))] [3, 6, 9, 10, 11] [703] [.arr 703, I (dcV (at_ (splB (⟨#[44]⟩ : ByteArray) s) k.toNat)), slS true (splB (⟨#[44]⟩ : ByteArray) s), I (((splB (⟨#[44]⟩ : ByteArray) s).length) : Int), I k] [some (tAI ns)] [Con Tryz.prog 120 [Sv (at_ (splB (⟨#[44]⟩ : ByteArray) s) k.toNat)] true (.tup [I (dcV (at_ (splB (⟨#[44]⟩ : ByteArray) s) k.toNat)), Bv true]) ∧ True] ⟨⟨(readDec_ok (at_ (splB (⟨#[44]⟩ : ByteArray) s) k.toNat) (hs _ (at_mem hi))), trivial⟩, trivial⟩ ?_
     refine x_r [(2, .new 22), (3, .new 23)] [3, 9, 10, 11] [23] [.arr 23, slS true (splB (⟨#[44]⟩ : ByteArray) s), I (((splB (⟨#[44]⟩ : ByteArray) s).length) : Int), I k] [some (.arr 1 (ns.length + 1) (catF ns.length (fI ns) (litF [I (dcV (at_ (splB (⟨#[44]⟩ : ByteArray) s) k.toNat))] 1)))] [(ns.length + 1) * 8 ≤ 140737488355328] ⟨(by omega), trivial⟩ ?_
     refine xe_block 1 ?_
     refine xe_then ?_
     refine x_r [] [3, 9, 10, 11] [23] [.arr 23, slS true (splB (⟨#[44]⟩ : ByteArray) s), I (((splB (⟨#[44]⟩ : ByteArray) s).length) : Int), I (k + 1)] [some (.arr 1 (ns.length + 1) (catF ns.length (fI ns) (litF [I (dcV (at_ (splB (⟨#[44]⟩ : ByteArray) s) k.toNat))] 1)))] [inR .i64 (k + 1)] ⟨(inR_i64 (by omega) (by omega)), trivial⟩ ?_
     refine xe_weak [(703, 23)] (T := [(3, .arr 703), (9, slS true (splB (⟨#[44]⟩ : ByteArray) s)), (10, I (((splB (⟨#[44]⟩ : ByteArray) s).length) : Int)), (11, I (k + 1))]) (O := [(703, tAI (ns ++ [(dcV (at_ (splB (⟨#[44]⟩ : ByteArray) s) k.toNat))]))]) rfl (⟨.inl rfl, .inl rfl, .inl rfl, .inl rfl, trivial⟩) (⟨.inr ⟨rfl, (by first | rfl | (simp; done) | (simp; omega) | omega), fun i_ hi_ => .inl (cat_snoc (enc := cI) (xs := ns) rfl i_ hi_)⟩, trivial⟩) (xe_again ((ns ++ [(dcV (at_ (splB (⟨#[44]⟩ : ByteArray) s) k.toNat))]), (k + 1)) rfl (show (0 ≤ (k + 1) ∧ (k + 1) ≤ ((splB ⟨#[44]⟩ s).length : Int)) ∧ ((ns ++ [(dcV (at_ (splB (⟨#[44]⟩ : ByteArray) s) k.toNat))]) = ((splB ⟨#[44]⟩ s).take (k + 1).toNat).map dcV) ∧ True from ⟨(by omega), (by rw [hns]; exact (mapTake_succ (by omega) hi rfl).symm), trivial⟩) (by first | (show ((((splB ⟨#[44]⟩ s).length : Int) - (k + 1)).toNat : Nat) < (((splB ⟨#[44]⟩ s).length : Int) - k).toNat; omega) | (dsimp only; omega)))
    have hfin : ns = dcs s := by rw [hns]; exact map_all (by omega)
    refine x_r [(0, .dec false)] [3, 9, 10, 11, 12] [703] [.arr 703, slS true (splB (⟨#[44]⟩ : ByteArray) s), I (((splB (⟨#[44]⟩ : ByteArray) s).length) : Int), I k, Bv false] [some (tAI ns)] [¬ (k < (((splB (⟨#[44]⟩ : ByteArray) s).length) : Int))] ⟨h1, trivial⟩ ?_
    refine xe_then ?_
    refine x_seq ?_
    refine x_false rfl ?_
    refine x_exit ?_
    refine xe_exit_then ?_
    refine xe_loop_exit ?_
    refine xe_exit_same ?_
    refine xe_then ?_
    refine xR [] [2] [703] [.arr 703] [some (tAI ns)] [] trivial ?_
    refine x_ret ?_
    refine xe_end ns (show (ns = dcs s) ∧ (True) from ⟨(by exact hfin), trivial⟩) (trivial) (.arr 703) (by kernel_rfl) (.inr ⟨(fun _ => rfl), rfl, rfl, fun i _ => .inl rfl⟩) (fun _ => rfl) (fun _ => (tagI true _))
  obtain ⟨v, ⟨hh0, _⟩, hc⟩ := hh
  exact ⟨v, hh0, hc⟩


theorem take_succ_at {α : Type} [Inhabited α] {xs : List α} {i : Int} {y : α} (h0 : 0 ≤ i) (h : i.toNat < xs.length) (hy : y = at_ xs i.toNat) : xs.take (i + 1).toNat = xs.take i.toNat ++ [y] := by
  have e : (i + 1).toNat = i.toNat + 1 := by omega
  rw [e, List.take_succ_eq_append_getElem h, hy]
  simp [at_, h]

def rdPt (n : List Int) : Point := ⟨at_ n 0, at_ n 1, at_ n 2⟩
def rdSk (l : ByteArray) : Stroke := ⟨(splB ⟨#[32]⟩ l).map fun w => rdPt (dcs w)⟩
/-- The ink that a text tells. -/
def rdInk (s : ByteArray) : Ink := ⟨(linB s).map rdSk⟩
theorem dcs_pt {p : Point} (h : okP p = true) : dcs (ptTx p) = [p.X, p.Y, p.T] := dcs_com (by simp) (pt_bnd h).2
theorem spl_sk {s : Stroke} (h : okStroke' s = true) : splB ⟨#[32]⟩ (skLn s) = s.Points.map ptTx := by
  have hl := okS_len h
  refine splB_C 32 _ ▸ spl_join (fun e => ?_) fun y hy => ?_
  · have h0 : s.Points.length = 0 := by have := congrArg List.length e; rwa [List.length_map] at this
    omega
  · obtain ⟨p, _, rfl⟩ := List.mem_map.1 hy
    exact com_noB (by decide) _
theorem rdSk_tx {s : Stroke} (h : okStroke' s = true) : rdSk (skLn s) = s := by
  unfold rdSk
  rw [spl_sk h, List.map_map]
  have : s.Points.map ((fun w => rdPt (dcs w)) ∘ ptTx) = s.Points := by
    conv => rhs; rw [← List.map_id s.Points]
    refine List.map_congr_left fun p hp => ?_
    obtain ⟨j, hj, rfl⟩ := mem_atT hp
    show rdPt (dcs (ptTx _)) = _
    rw [dcs_pt (okS_at h hj)]
    rfl
  rw [this]
theorem lin_ink {x : Ink} (h : okInk' x = true) : linB (inkTx x) = x.Strokes.map skLn := by
  rw [inkTx, if_pos h]
  have := lin_lines (ls := x.Strokes.map skLn) fun y hy => by
    obtain ⟨s, hs, rfl⟩ := List.mem_map.1 hy
    refine noB_join (by simp [noB]) fun z hz => ?_
    obtain ⟨p, _, rfl⟩ := List.mem_map.1 hz
    exact com_noB (by decide) _
  rw [List.length_map] at this
  exact this
theorem rdInk_tx {x : Ink} (h : okInk' x = true) : rdInk (inkTx x) = x := by
  unfold rdInk
  rw [lin_ink h, List.map_map]
  have : x.Strokes.map (rdSk ∘ skLn) = x.Strokes := by
    conv => rhs; rw [← List.map_id x.Strokes]
    exact List.map_congr_left fun s hs => rdSk_tx (okI_mem h s hs)
  rw [this]
theorem ink_linOk {x : Ink} (h : okInk' x = true) : linOk (inkTx x) := by
  have h1 := inkL_size h (Nat.le_refl _)
  rw [inkTx, if_pos h]
  have := linOk_lines (ls := x.Strokes.map skLn) (by rw [List.length_map]; omega)
  rw [List.length_map] at this
  exact this

-- impl.ReadInk
theorem ReadInk_ok (s : ByteArray) (ok : ∃ ik, okInk' ik = true ∧ s = inkTx ik) : ∃ (v : Ink) (c : Bool), (v = rdInk s) ∧ (c = true) ∧ Con Tryz.prog 10 [Sv s] true (.tup [.agg [slStroke true v.Strokes], Bv c]) := by
  obtain ⟨ik, hok, hsi⟩ := ok
  have hls : linB s = ik.Strokes.map skLn := by rw [hsi]; exact lin_ink hok
  have hlo : linOk s := by rw [hsi]; exact ink_linOk hok
  have hrd : rdInk s = ik := by rw [hsi]; exact rdInk_tx hok
  have hil := okI_len hok
  have hh : ∃ r : Ink × Bool, ((r.1 = rdInk s) ∧ (r.2 = true) ∧ (True)) ∧ CallOK Tryz.prog 10 [Sv s] (lookO []) true (.tup [.agg [slStroke true r.1.Strokes], Bv r.2]) (lookO []) := by
    refine fn_okX (Φ := fun r : Ink × Bool => (r.1 = rdInk s) ∧ (r.2 = true) ∧ (True)) [] (fun r => []) (fn := Tryz.f10) (nt := 74) Tryz.func10 rfl rfl (args := [Sv s]) rfl (allcons (.inl ⟨rfl, trivial⟩) allnil) (res := fun r => .tup [.agg [slStroke true r.1.Strokes], Bv r.2]) ?_
    refine xR [(0, .new 2)] [0, 2] [2] [Sv s, .ref 2 0] [some (.box [nilA])] [] trivial ?_
    refine x_seq ?_
    obtain ⟨ls_1, k_1, hx1_0, hx1_1, hc1⟩ := linesOf_ok s hlo
    have hll : ls_1.length = ik.Strokes.length := by rw [hx1_0, hls, List.length_map]
    have hlk := hx1_1
    have hlv := hx1_0
    refine x_r [(1, .call [(true, .any)] true (.tup [slS true ls_1, Bv k_1]))] [0, 2, 4, 5] [2] [Sv s, .ref 2 0, slS true ls_1, Bv k_1] [some (.box [nilA])] [Con Tryz.prog 69 [Sv s] true (.tup [slS true ls_1, Bv k_1]) ∧ True] ⟨⟨hc1, trivial⟩, trivial⟩ ?_
    refine xe_then ?_
    refine x_seq ?_
    refine x_seq ?_
    obtain rfl : k_1 = true := hlk
    refine x_r [] [0, 2, 4, 19] [2] [Sv s, .ref 2 0, slS true ls_1, Bv false] [some (.box [nilA])] [] trivial ?_
    refine xe_then ?_
    refine x_false rfl ?_
    refine x_skip ?_
    refine xe_then ?_
    refine xR [(0, .new 6)] [0, 2, 4, 6] [2, 6] [Sv s, .ref 2 0, slS true ls_1, .ref 6 0] [some (.box [nilA]), some (.box [nilA])] [] trivial ?_
    refine x_seq ?_
    refine xR [] [0, 2, 6, 21, 22, 23] [2, 6] [Sv s, .ref 2 0, .ref 6 0, slS true ls_1, I (ls_1.length : Int), I 0] [some (.box [nilA]), some (.box [nilA])] [] trivial ?_
    refine x_block ?_
    refine x_nilC 6 0 760 1 (fun _ => []) rfl (by kernel_rfl) ?_
    refine x_fam 8162 3 (fun _ => 0) (fun _ _ => []) (by kernel_rfl) ?_
    refine x_weak [] (T := [(0, Sv s), (2, .ref 2 0), (6, .ref 6 0), (21, slS true ls_1), (22, I (ls_1.length : Int)), (23, I 0)]) (O := [(2, .box [nilA]), (6, .box [.arr 760]), (760, tOStroke 8162 ([] : List Stroke)), (8162, tFStroke ([] : List Stroke))]) rfl (⟨.inl rfl, .inl rfl, .inl rfl, .inl rfl, .inl rfl, .inl rfl, trivial⟩) (⟨.inl rfl, .inl rfl, .inr ⟨rfl, rfl, fun i hi => absurd hi (Nat.not_lt_zero _)⟩, .inr ⟨rfl, rfl, fun p hp => absurd hp (Nat.not_lt_zero _)⟩, trivial⟩) ?_
    refine x_loop (X := Int × (List Stroke)) (fun x => mkS [(0, Sv s), (2, .ref 2 0), (6, .ref 6 0), (21, slS true ls_1), (22, I (ls_1.length : Int)), (23, I x.1)] [(2, .box [nilA]), (6, .box [.arr 760]), (760, tOStroke 8162 x.2), (8162, tFStroke x.2)]) (fun x => (0 ≤ x.1 ∧ x.1 ≤ (ik.Strokes.length : Int)) ∧ ((x.2.length : Int) = x.1) ∧ (x.2 = ik.Strokes.take x.1.toNat) ∧ True) (fun x => ((ik.Strokes.length : Int) - x.1).toNat) (0, ([] : List Stroke)) rfl (show (0 ≤ (0 : Int) ∧ (0 : Int) ≤ (ik.Strokes.length : Int)) ∧ ((([] : List Stroke).length : Int) = (0 : Int)) ∧ (([] : List Stroke) = ik.Strokes.take (0 : Int).toNat) ∧ True from ⟨(by omega), (by rfl), (by rfl), trivial⟩) (fun x hI => ?_)
    obtain ⟨k, ss⟩ := x
    obtain ⟨hi0, hl0, hss, _⟩ : (0 ≤ k ∧ k ≤ (ik.Strokes.length : Int)) ∧ ((ss.length : Int) = k) ∧ (ss = ik.Strokes.take k.toNat) ∧ True := hI
    show XW _ _ _ _ (mkS [(0, Sv s), (2, .ref 2 0), (6, .ref 6 0), (21, slS true ls_1), (22, I (ls_1.length : Int)), (23, I k)] [(2, .box [nilA]), (6, .box [.arr 760]), (760, tOStroke 8162 ss), (8162, tFStroke ss)]) _ _
    refine x_seq ?_
    by_cases h1 : k < (ls_1.length : Int)
    ·have hi : k.toNat < ik.Strokes.length := by omega
     have hos := okI_all hok _ hi
     have hol := okS_len hos
     have hli : at_ ls_1 k.toNat = skLn (at_ ik.Strokes k.toNat) := by rw [hx1_0, hls]; exact at_map' hi
     have hsp : splB ⟨#[32]⟩ (at_ ls_1 k.toNat) = (at_ ik.Strokes k.toNat).Points.map ptTx := by rw [hli]; exact spl_sk hos
     have hspl : (splB ⟨#[32]⟩ (at_ ls_1 k.toNat)).length = (at_ ik.Strokes k.toNat).Points.length := by rw [hsp, List.length_map]
     have hszl := skLn_size hos
     rw [← hli] at hszl
     refine x_r [(0, .dec true)] [0, 2, 6, 21, 22, 23, 24] [2, 6, 760, 8162] [Sv s, .ref 2 0, .ref 6 0, slS true ls_1, I (ls_1.length : Int), I k, Bv true] [some (.box [nilA]), some (.box [.arr 760]), some (tOStroke 8162 ss), some (tFStroke ss)] [k < (ls_1.length : Int)] ⟨h1, trivial⟩ ?_
     refine xe_then ?_
     refine x_seq ?_
     refine x_true rfl ?_
     refine x_skip ?_
     refine xe_then ?_
     refine x_seq ?_
     refine x_block ?_
     refine xR [] [0, 2, 6, 8, 21, 22, 23] [2, 6, 760, 8162] [Sv s, .ref 2 0, .ref 6 0, Sv (at_ ls_1 k.toNat), slS true ls_1, I (ls_1.length : Int), I k] [some (.box [nilA]), some (.box [.arr 760]), some (tOStroke 8162 ss), some (tFStroke ss)] [(0 : Int) ≤ k ∧ k < (ls_1.length : Int)] ⟨⟨(by omega), (by omega)⟩, trivial⟩ ?_
     refine xR [(0, .new 9)] [0, 2, 6, 8, 9, 21, 22, 23] [2, 6, 9, 760, 8162] [Sv s, .ref 2 0, .ref 6 0, Sv (at_ ls_1 k.toNat), .ref 9 0, slS true ls_1, I (ls_1.length : Int), I k] [some (.box [nilA]), some (.box [.arr 760]), some (.box [nilA]), some (tOStroke 8162 ss), some (tFStroke ss)] [] trivial ?_
     refine x_seq ?_
     refine xR [(1, .call [(true, .any)] true (slS true (splB ⟨#[32]⟩ (at_ ls_1 k.toNat))))] [0, 2, 6, 9, 21, 22, 23, 28, 29, 30] [2, 6, 9, 760, 8162] [Sv s, .ref 2 0, .ref 6 0, .ref 9 0, slS true ls_1, I (ls_1.length : Int), I k, slS true (splB ⟨#[32]⟩ (at_ ls_1 k.toNat)), I (((splB ⟨#[32]⟩ (at_ ls_1 k.toNat)).length) : Int), I 0] [some (.box [nilA]), some (.box [.arr 760]), some (.box [nilA]), some (tOStroke 8162 ss), some (tFStroke ss)] [Con Tryz.prog 70 [Sv (at_ ls_1 k.toNat)] true (slS true (splB ⟨#[32]⟩ (at_ ls_1 k.toNat))) ∧ True] ⟨⟨(wordsOf_ok (at_ ls_1 k.toNat) (by omega)), trivial⟩, trivial⟩ ?_
     refine x_block ?_
     refine x_nilC 9 0 790 3 (fun _ => []) rfl (by kernel_rfl) ?_
     refine x_weak [] (T := [(0, Sv s), (2, .ref 2 0), (6, .ref 6 0), (9, .ref 9 0), (21, slS true ls_1), (22, I (ls_1.length : Int)), (23, I k), (28, slS true (splB ⟨#[32]⟩ (at_ ls_1 k.toNat))), (29, I (((splB ⟨#[32]⟩ (at_ ls_1 k.toNat)).length) : Int)), (30, I 0)]) (O := [(2, .box [nilA]), (6, .box [.arr 760]), (9, .box [.arr 790]), (760, tOStroke 8162 ss), (790, tAPoint ([] : List Point)), (8162, tFStroke ss)]) rfl (⟨.inl rfl, .inl rfl, .inl rfl, .inl rfl, .inl rfl, .inl rfl, .inl rfl, .inl rfl, .inl rfl, .inl rfl, trivial⟩) (⟨.inl rfl, .inl rfl, .inl rfl, .inl rfl, .inr ⟨rfl, (by first | rfl | (simp; done) | (simp; omega) | omega), fun i_ hi_ => absurd hi_ (Nat.not_lt_zero _)⟩, .inl rfl, trivial⟩) ?_
     refine x_loop (X := Int × (List Point)) (fun x => mkS [(0, Sv s), (2, .ref 2 0), (6, .ref 6 0), (9, .ref 9 0), (21, slS true ls_1), (22, I (ls_1.length : Int)), (23, I k), (28, slS true (splB ⟨#[32]⟩ (at_ ls_1 k.toNat))), (29, I (((splB ⟨#[32]⟩ (at_ ls_1 k.toNat)).length) : Int)), (30, I x.1)] [(2, .box [nilA]), (6, .box [.arr 760]), (9, .box [.arr 790]), (760, tOStroke 8162 ss), (790, tAPoint x.2), (8162, tFStroke ss)]) (fun x => (0 ≤ x.1 ∧ x.1 ≤ ((at_ ik.Strokes k.toNat).Points.length : Int)) ∧ ((x.2.length : Int) = x.1) ∧ (x.2 = (at_ ik.Strokes k.toNat).Points.take x.1.toNat) ∧ True) (fun x => (((at_ ik.Strokes k.toNat).Points.length : Int) - x.1).toNat) (0, ([] : List Point)) rfl (show (0 ≤ (0 : Int) ∧ (0 : Int) ≤ ((at_ ik.Strokes k.toNat).Points.length : Int)) ∧ ((([] : List Point).length : Int) = (0 : Int)) ∧ (([] : List Point) = (at_ ik.Strokes k.toNat).Points.take (0 : Int).toNat) ∧ True from ⟨(by omega), (by rfl), (by rfl), trivial⟩) (fun x hI => ?_)
     obtain ⟨j, pts⟩ := x
     obtain ⟨hj0, hpl, hpp, _⟩ : (0 ≤ j ∧ j ≤ ((at_ ik.Strokes k.toNat).Points.length : Int)) ∧ ((pts.length : Int) = j) ∧ (pts = (at_ ik.Strokes k.toNat).Points.take j.toNat) ∧ True := hI
     show XW _ _ _ _ (mkS [(0, Sv s), (2, .ref 2 0), (6, .ref 6 0), (9, .ref 9 0), (21, slS true ls_1), (22, I (ls_1.length : Int)), (23, I k), (28, slS true (splB ⟨#[32]⟩ (at_ ls_1 k.toNat))), (29, I (((splB ⟨#[32]⟩ (at_ ls_1 k.toNat)).length) : Int)), (30, I j)] [(2, .box [nilA]), (6, .box [.arr 760]), (9, .box [.arr 790]), (760, tOStroke 8162 ss), (790, tAPoint pts), (8162, tFStroke ss)]) _ _
     refine x_seq ?_
     by_cases h2 : j < (((splB ⟨#[32]⟩ (at_ ls_1 k.toNat)).length) : Int)
     ·have hj : j.toNat < (at_ ik.Strokes k.toNat).Points.length := by omega
      have hpo := okS_at hos hj
      have hw : at_ (splB ⟨#[32]⟩ (at_ ls_1 k.toNat)) j.toNat = ptTx (at_ (at_ ik.Strokes k.toNat).Points j.toNat) := by rw [hsp]; exact at_map' hj
      have hws := ptTx_size hpo
      rw [← hw] at hws
      refine x_r [(0, .dec true)] [0, 2, 6, 9, 21, 22, 23, 28, 29, 30, 31] [2, 6, 9, 760, 790, 8162] [Sv s, .ref 2 0, .ref 6 0, .ref 9 0, slS true ls_1, I (ls_1.length : Int), I k, slS true (splB ⟨#[32]⟩ (at_ ls_1 k.toNat)), I (((splB ⟨#[32]⟩ (at_ ls_1 k.toNat)).length) : Int), I j, Bv true] [some (.box [nilA]), some (.box [.arr 760]), some (.box [.arr 790]), some (tOStroke 8162 ss), some (tAPoint pts), some (tFStroke ss)] [j < (((splB ⟨#[32]⟩ (at_ ls_1 k.toNat)).length) : Int)] ⟨h2, trivial⟩ ?_
      refine xe_then ?_
      refine x_seq ?_
      refine x_true rfl ?_
      refine x_skip ?_
      refine xe_then ?_
      refine x_seq ?_
      refine x_block ?_
      refine xR [] [0, 2, 6, 9, 11, 21, 22, 23, 28, 29, 30] [2, 6, 9, 760, 790, 8162] [Sv s, .ref 2 0, .ref 6 0, .ref 9 0, Sv (at_ (splB ⟨#[32]⟩ (at_ ls_1 k.toNat)) j.toNat), slS true ls_1, I (ls_1.length : Int), I k, slS true (splB ⟨#[32]⟩ (at_ ls_1 k.toNat)), I (((splB ⟨#[32]⟩ (at_ ls_1 k.toNat)).length) : Int), I j] [some (.box [nilA]), some (.box [.arr 760]), some (.box [.arr 790]), some (tOStroke 8162 ss), some (tAPoint pts), some (tFStroke ss)] [(0 : Int) ≤ j ∧ j < (((splB ⟨#[32]⟩ (at_ ls_1 k.toNat)).length) : Int)] ⟨⟨(by omega), (by omega)⟩, trivial⟩ ?_
      refine x_seq ?_
      obtain ⟨v_2, hx2_0, hc2⟩ := numbersOf_ok (at_ (splB ⟨#[32]⟩ (at_ ls_1 k.toNat)) j.toNat) (by omega) (by rw [hw]; exact com_isDec (by simp) (pt_bnd hpo).2)
      have hnn : v_2 = [(at_ (at_ ik.Strokes k.toNat).Points j.toNat).X, (at_ (at_ ik.Strokes k.toNat).Points j.toNat).Y, (at_ (at_ ik.Strokes k.toNat).Points j.toNat).T] := by rw [hx2_0, hw]; exact dcs_pt hpo
      have hnl : v_2.length = 3 := by rw [hnn]; rfl
      have hpt : (⟨at_ v_2 0, at_ v_2 1, at_ v_2 2⟩ : Point) = at_ (at_ ik.Strokes k.toNat).Points j.toNat := by rw [hnn]; rfl
      refine x_r [(1, .call [(true, .any)] true (slI true v_2))] [0, 2, 6, 9, 12, 21, 22, 23, 28, 29, 30] [2, 6, 9, 760, 790, 8162] [Sv s, .ref 2 0, .ref 6 0, .ref 9 0, slI true v_2, slS true ls_1, I (ls_1.length : Int), I k, slS true (splB ⟨#[32]⟩ (at_ ls_1 k.toNat)), I (((splB ⟨#[32]⟩ (at_ ls_1 k.toNat)).length) : Int), I j] [some (.box [nilA]), some (.box [.arr 760]), some (.box [.arr 790]), some (tOStroke 8162 ss), some (tAPoint pts), some (tFStroke ss)] [Con Tryz.prog 71 [Sv (at_ (splB ⟨#[32]⟩ (at_ ls_1 k.toNat)) j.toNat)] true (slI true v_2) ∧ True] ⟨⟨hc2, trivial⟩, trivial⟩ ?_
      refine xe_then ?_
      refine x_seq ?_
      refine xR [(2, .dec false)] [0, 2, 6, 9, 12, 21, 22, 23, 28, 29, 30, 38] [2, 6, 9, 760, 790, 8162] [Sv s, .ref 2 0, .ref 6 0, .ref 9 0, slI true v_2, slS true ls_1, I (ls_1.length : Int), I k, slS true (splB ⟨#[32]⟩ (at_ ls_1 k.toNat)), I (((splB ⟨#[32]⟩ (at_ ls_1 k.toNat)).length) : Int), I j, Bv false] [some (.box [nilA]), some (.box [.arr 760]), some (.box [.arr 790]), some (tOStroke 8162 ss), some (tAPoint pts), some (tFStroke ss)] [¬ ((v_2.length : Int) ≠ 3)] ⟨(fun hq => hq (by omega)), trivial⟩ ?_
      refine x_false rfl ?_
      refine x_skip ?_
      refine xe_then ?_
      refine x_r [(12, .new 52), (13, .new 53)] [0, 2, 6, 9, 21, 22, 23, 28, 29, 30] [2, 6, 9, 53, 760, 8162] [Sv s, .ref 2 0, .ref 6 0, .ref 9 0, slS true ls_1, I (ls_1.length : Int), I k, slS true (splB ⟨#[32]⟩ (at_ ls_1 k.toNat)), I (((splB ⟨#[32]⟩ (at_ ls_1 k.toNat)).length) : Int), I j] [some (.box [nilA]), some (.box [.arr 760]), some (.box [.arr 53]), some (.arr 3 (pts.length + 1) (catF pts.length (fPoint pts) (litF [I (at_ v_2 0), I (at_ v_2 1), I (at_ v_2 2)] 3))), some (tOStroke 8162 ss), some (tFStroke ss)] [(0 : Int) ≤ 0 ∧ 0 < (v_2.length : Int), (0 : Int) ≤ 1 ∧ 1 < (v_2.length : Int), (0 : Int) ≤ 2 ∧ 2 < (v_2.length : Int), (pts.length + 1) * 24 ≤ 140737488355328] ⟨⟨(by omega), (by omega)⟩, ⟨(by omega), (by omega)⟩, ⟨(by omega), (by omega)⟩, (by omega), trivial⟩ ?_
      refine xe_block 3 ?_
      refine xe_then ?_
      refine x_r [] [0, 2, 6, 9, 21, 22, 23, 28, 29, 30] [2, 6, 9, 53, 760, 8162] [Sv s, .ref 2 0, .ref 6 0, .ref 9 0, slS true ls_1, I (ls_1.length : Int), I k, slS true (splB ⟨#[32]⟩ (at_ ls_1 k.toNat)), I (((splB ⟨#[32]⟩ (at_ ls_1 k.toNat)).length) : Int), I (j + 1)] [some (.box [nilA]), some (.box [.arr 760]), some (.box [.arr 53]), some (.arr 3 (pts.length + 1) (catF pts.length (fPoint pts) (litF [I (at_ v_2 0), I (at_ v_2 1), I (at_ v_2 2)] 3))), some (tOStroke 8162 ss), some (tFStroke ss)] [inR .i64 (j + 1)] ⟨(inR_i64 (by omega) (by omega)), trivial⟩ ?_
      refine xe_weak [(790, 53)] (T := [(0, Sv s), (2, .ref 2 0), (6, .ref 6 0), (9, .ref 9 0), (21, slS true ls_1), (22, I (ls_1.length : Int)), (23, I k), (28, slS true (splB ⟨#[32]⟩ (at_ ls_1 k.toNat))), (29, I (((splB ⟨#[32]⟩ (at_ ls_1 k.toNat)).length) : Int)), (30, I (j + 1))]) (O := [(2, .box [nilA]), (6, .box [.arr 760]), (9, .box [.arr 790]), (760, tOStroke 8162 ss), (790, tAPoint (pts ++ [(Point.mk (at_ v_2 0) (at_ v_2 1) (at_ v_2 2))])), (8162, tFStroke ss)]) rfl (⟨.inl rfl, .inl rfl, .inl rfl, .inl rfl, .inl rfl, .inl rfl, .inl rfl, .inl rfl, .inl rfl, .inl rfl, trivial⟩) (⟨.inl rfl, .inl rfl, .inl rfl, .inl rfl, .inr ⟨rfl, (by first | rfl | (simp; done) | (simp; omega) | omega), fun i_ hi_ => .inl (cat_snoc (enc := cPoint) (xs := pts) rfl i_ hi_)⟩, .inl rfl, trivial⟩) (xe_again ((j + 1), (pts ++ [(Point.mk (at_ v_2 0) (at_ v_2 1) (at_ v_2 2))])) rfl (show (0 ≤ (j + 1) ∧ (j + 1) ≤ ((at_ ik.Strokes k.toNat).Points.length : Int)) ∧ (((pts ++ [(Point.mk (at_ v_2 0) (at_ v_2 1) (at_ v_2 2))]).length : Int) = (j + 1)) ∧ ((pts ++ [(Point.mk (at_ v_2 0) (at_ v_2 1) (at_ v_2 2))]) = (at_ ik.Strokes k.toNat).Points.take (j + 1).toNat) ∧ True from ⟨(by omega), (by simp; omega), (by rw [hpp]; exact (take_succ_at (by omega) hj hpt).symm), trivial⟩) (by first | (show ((((at_ ik.Strokes k.toNat).Points.length : Int) - (j + 1)).toNat : Nat) < (((at_ ik.Strokes k.toNat).Points.length : Int) - j).toNat; omega) | (dsimp only; omega)))
     have hpf : pts = (at_ ik.Strokes k.toNat).Points := by rw [hpp]; exact List.take_of_length_le (by omega)
     refine x_r [(0, .dec false)] [0, 2, 6, 9, 21, 22, 23, 28, 29, 30, 31] [2, 6, 9, 760, 790, 8162] [Sv s, .ref 2 0, .ref 6 0, .ref 9 0, slS true ls_1, I (ls_1.length : Int), I k, slS true (splB ⟨#[32]⟩ (at_ ls_1 k.toNat)), I (((splB ⟨#[32]⟩ (at_ ls_1 k.toNat)).length) : Int), I j, Bv false] [some (.box [nilA]), some (.box [.arr 760]), some (.box [.arr 790]), some (tOStroke 8162 ss), some (tAPoint pts), some (tFStroke ss)] [¬ (j < (((splB ⟨#[32]⟩ (at_ ls_1 k.toNat)).length) : Int))] ⟨h2, trivial⟩ ?_
     refine xe_then ?_
     refine x_seq ?_
     refine x_false rfl ?_
     refine x_exit ?_
     refine xe_exit_then ?_
     refine xe_loop_exit ?_
     refine xe_exit_same ?_
     refine xe_then ?_
     refine x_r [(3, .new 59), (4, .new 60)] [0, 2, 6, 21, 22, 23] [2, 6, 60, 790, 8162] [Sv s, .ref 2 0, .ref 6 0, slS true ls_1, I (ls_1.length : Int), I k] [some (.box [nilA]), some (.box [.arr 60]), some (.oar [8162, 790] 1 (ss.length + 1) (catF ss.length (oStroke 8162 ss) (litF [.arr 790] 1))), some (tAPoint pts), some (tFStroke ss)] [(ss.length + 1) * 24 ≤ 140737488355328] ⟨(by omega), trivial⟩ ?_
     refine xe_block 1 ?_
     refine xe_then ?_
     refine x_r [] [0, 2, 6, 21, 22, 23] [2, 6, 60, 790, 8162] [Sv s, .ref 2 0, .ref 6 0, slS true ls_1, I (ls_1.length : Int), I (k + 1)] [some (.box [nilA]), some (.box [.arr 60]), some (.oar [8162, 790] 1 (ss.length + 1) (catF ss.length (oStroke 8162 ss) (litF [.arr 790] 1))), some (tAPoint pts), some (tFStroke ss)] [inR .i64 (k + 1)] ⟨(inR_i64 (by omega) (by omega)), trivial⟩ ?_
     refine xe_join 790 8162 rfl rfl rfl ?_
     refine xe_weak [(760, 60)] (T := [(0, Sv s), (2, .ref 2 0), (6, .ref 6 0), (21, slS true ls_1), (22, I (ls_1.length : Int)), (23, I (k + 1))]) (O := [(2, .box [nilA]), (6, .box [.arr 760]), (760, tOStroke 8162 (ss ++ [(Stroke.mk pts)])), (8162, tFStroke (ss ++ [(Stroke.mk pts)]))]) rfl (⟨.inl rfl, .inl rfl, .inl rfl, .inl rfl, .inl rfl, .inl rfl, trivial⟩) (⟨.inl rfl, .inl rfl, .inr ⟨rfl, rfl, (by simp), fun i hi => .inl (ocatStroke rfl rfl rfl i hi)⟩, .inr (fcatStroke (Stroke.mk pts) (by first | rfl | (simp; done)) (fun i_ hi_ => (by first | rfl | fail))), trivial⟩) (xe_again ((k + 1), (ss ++ [(Stroke.mk pts)])) rfl (show (0 ≤ (k + 1) ∧ (k + 1) ≤ (ik.Strokes.length : Int)) ∧ (((ss ++ [(Stroke.mk pts)]).length : Int) = (k + 1)) ∧ ((ss ++ [(Stroke.mk pts)]) = ik.Strokes.take (k + 1).toNat) ∧ True from ⟨(by omega), (by simp; omega), (by rw [hss]; exact (take_succ_at (by omega) hi (by rw [hpf])).symm), trivial⟩) (by first | (show (((ik.Strokes.length : Int) - (k + 1)).toNat : Nat) < ((ik.Strokes.length : Int) - k).toNat; omega) | (dsimp only; omega)))
    have hfin : ss = ik.Strokes := by rw [hss]; exact List.take_of_length_le (by omega)
    refine x_r [(0, .dec false)] [0, 2, 6, 21, 22, 23, 24] [2, 6, 760, 8162] [Sv s, .ref 2 0, .ref 6 0, slS true ls_1, I (ls_1.length : Int), I k, Bv false] [some (.box [nilA]), some (.box [.arr 760]), some (tOStroke 8162 ss), some (tFStroke ss)] [¬ (k < (ls_1.length : Int))] ⟨h1, trivial⟩ ?_
    refine xe_then ?_
    refine x_seq ?_
    refine x_false rfl ?_
    refine x_exit ?_
    refine xe_exit_then ?_
    refine xe_loop_exit ?_
    refine xe_exit_same ?_
    refine xe_then ?_
    refine x_seq ?_
    refine xR [(1, .call [(false, .agg [slStroke false ss])] true (Bv true)), (5, .call [(false, .agg [slStroke false ss])] true (Sv (inkTx (Ink.mk ss)))), (7, .dec false)] [2, 6, 71] [2, 6, 760, 8162] [.ref 2 0, .ref 6 0, Bv false] [some (.box [nilA]), some (.box [.arr 760]), some (tOStroke 8162 ss), some (tFStroke ss)] [Con Tryz.prog 13 [.agg [slStroke false ss]] true (Bv true) ∧ (((false = true → true = true) ∧ 1 = 1 ∧ ss.length = ss.length ∧ ∀ i_, i_ < ss.length → AV.idsL ((fStroke false ss) i_) = [] ∧ leL (lookO [(8162, tFStroke ss)]) true ((oStroke 8162 ss) i_) ((fStroke false ss) i_)) ∧ ([] : List AV) = []) ∧ True, Con Tryz.prog 11 [.agg [slStroke false ss]] true (Sv (inkTx (Ink.mk ss))) ∧ (((false = true → true = true) ∧ 1 = 1 ∧ ss.length = ss.length ∧ ∀ i_, i_ < ss.length → AV.idsL ((fStroke false ss) i_) = [] ∧ leL (lookO [(8162, tFStroke ss)]) true ((oStroke 8162 ss) i_) ((fStroke false ss) i_)) ∧ ([] : List AV) = []) ∧ True, ¬ ((inkTx (Ink.mk ss)) ≠ s)] ⟨⟨(con_bool (by rw [hfin]; exact hok) (ValidInk_ok (Ink.mk ss))), ⟨⟨(fun h => by cases h), rfl, rfl, oleStroke _ _ rfl⟩, rfl⟩, trivial⟩, ⟨(InkText_ok (Ink.mk ss)), ⟨⟨(fun h => by cases h), rfl, rfl, oleStroke _ _ rfl⟩, rfl⟩, trivial⟩, (fun hq => hq (by rw [hfin]; exact hsi.symm)), trivial⟩ ?_
    refine x_false rfl ?_
    refine x_skip ?_
    refine xe_then ?_
    refine xR [] [2, 3] [2, 760, 8162] [.ref 2 0, Bv true] [some (.box [.arr 760]), some (tOStroke 8162 ss), some (tFStroke ss)] [] trivial ?_
    refine x_ret ?_
    refine xe_end ((Ink.mk ss), true) (show ((Ink.mk ss) = rdInk s) ∧ (true = true) ∧ (True) from ⟨(by first | (rw [hrd]; simp only [hfin]; done) | rfl), (by first | (rw [hrd]; simp only [hfin]; done) | rfl), trivial⟩) (trivial) (.tup [.agg [.arr 760], Bv true]) (by kernel_rfl) (.inr ⟨⟨⟨(fun _ => rfl), rfl, rfl, oleStroke _ _ rfl⟩, rfl⟩, ⟨rfl, rfl⟩⟩) (fun _ => rfl) (fun _ => (by simp [tagged, taggedL, tagStroke]))
  obtain ⟨⟨v, c⟩, ⟨hh0, hh1, _⟩, hc⟩ := hh
  exact ⟨v, c, hh0, hh1, hc⟩


theorem down_spec (n : Int) {d : Int} (hd : 0 < d) : (Int.tmod n d < 0 → Int.tdiv n d - 1 = n / d) ∧ (¬ Int.tmod n d < 0 → Int.tdiv n d = n / d) := by
  have h1 := Int.mul_tdiv_add_tmod n d
  have h2 := Int.tmod_lt_of_pos n hd
  have h3 := Int.lt_tmod_of_pos n hd
  generalize Int.tdiv n d = q at *
  generalize Int.tmod n d = r at *
  subst h1
  constructor
  · intro h
    have e : d * q + r = (r + d) + d * (q - 1) := by rw [Int.mul_sub, Int.mul_one]; omega
    rw [e, Int.add_mul_ediv_left _ _ (by omega), Int.ediv_eq_zero_of_lt (by omega) (by omega)]; omega
  · intro h
    rw [Int.add_comm, Int.add_mul_ediv_left _ _ (by omega), Int.ediv_eq_zero_of_lt (by omega) (by omega)]; omega
theorem quo_bd {n r : Int} (h : 0 ≤ n) (hr : 0 < r) : 0 ≤ n / r ∧ n / r ≤ n := ⟨Int.ediv_nonneg h (by omega), Int.ediv_le_self _ h⟩
theorem tdiv_bd (n d : Int) : ((Int.tdiv n d).natAbs : Int) ≤ (n.natAbs : Int) := by
  rw [Int.natAbs_tdiv]
  exact Int.ofNat_le.2 (Nat.div_le_self _ _)

/-- The integer nearest to a quotient by a positive number, halves up. -/
def nearI (n d : Int) : Int := (2 * n + d) / (2 * d)
theorem near_spec (n : Int) {d : Int} (hd : 0 < d) : (d - (n - n / d * d) ≤ n - n / d * d → n / d + 1 = nearI n d) ∧ (¬ d - (n - n / d * d) ≤ n - n / d * d → n / d = nearI n d) := by
  have h1 := Int.mul_ediv_add_emod n d
  have h2 := Int.emod_nonneg n (b := d) (by omega)
  have h3 := Int.emod_lt_of_pos n hd
  unfold nearI
  generalize n / d = q at *
  generalize n % d = r at *
  have e0 : q * d = d * q := Int.mul_comm _ _
  have e3 : 2 * d * q = 2 * (d * q) := Int.mul_assoc _ _ _
  constructor
  · intro h
    have e : 2 * n + d = (2 * r - d) + 2 * d * (q + 1) := by rw [Int.mul_add, e3]; omega
    rw [e, Int.add_mul_ediv_left _ _ (by omega), Int.ediv_eq_zero_of_lt (by omega) (by omega)]; omega
  · intro h
    have e : 2 * n + d = (2 * r + d) + 2 * d * q := by rw [e3]; omega
    rw [e, Int.add_mul_ediv_left _ _ (by omega), Int.ediv_eq_zero_of_lt (by omega) (by omega)]; omega
theorem rest_bd (n : Int) {d : Int} (hd : 0 < d) : 0 ≤ n - n / d * d ∧ n - n / d * d < d := by
  have h1 := Int.mul_ediv_add_emod n d
  have h2 := Int.emod_nonneg n (b := d) (by omega)
  have h3 := Int.emod_lt_of_pos n hd
  rw [Int.mul_comm] at h1
  omega
theorem ediv_bd (n : Int) {d : Int} (hd : 0 < d) : -(n.natAbs : Int) ≤ n / d ∧ n / d ≤ (n.natAbs : Int) := by
  constructor
  · rw [Int.le_ediv_iff_mul_le hd]
    have : (n.natAbs : Int) * 1 ≤ (n.natAbs : Int) * d := Int.mul_le_mul_of_nonneg_left (by omega) (by omega)
    rw [Int.neg_mul]; omega
  · have h1 : (n.natAbs : Int) * 1 ≤ (n.natAbs : Int) * d := Int.mul_le_mul_of_nonneg_left (by omega) (by omega)
    have b : n / d < (n.natAbs : Int) + 1 := Int.ediv_lt_of_lt_mul hd (by rw [Int.add_mul, Int.one_mul]; omega)
    omega
theorem near_between {x r d : Int} (hd : 0 < d) (h0 : 0 ≤ r) (h1 : r ≤ d) : (0 ≤ x → 0 ≤ nearI (x * r) d ∧ nearI (x * r) d ≤ x) ∧ (x ≤ 0 → x ≤ nearI (x * r) d ∧ nearI (x * r) d ≤ 0) := by
  unfold nearI
  constructor
  · intro hx
    have a1 : x * r ≤ x * d := Int.mul_le_mul_of_nonneg_left h1 hx
    have a2 : 0 ≤ x * r := Int.mul_nonneg hx h0
    have e : (x + 1) * (2 * d) = 2 * (x * d) + 2 * d := by rw [Int.add_mul, Int.one_mul, Int.mul_left_comm]
    have b : (2 * (x * r) + d) / (2 * d) < x + 1 := Int.ediv_lt_of_lt_mul (by omega) (by rw [e]; omega)
    exact ⟨Int.ediv_nonneg (by omega) (by omega), by omega⟩
  · intro hx
    have a1 : x * d ≤ x * r := Int.mul_le_mul_of_nonpos_left hx h1
    have a2 : x * r ≤ 0 := Int.mul_nonpos_of_nonpos_of_nonneg hx h0
    have e : x * (2 * d) = 2 * (x * d) := Int.mul_left_comm _ _ _
    have b : (2 * (x * r) + d) / (2 * d) < 0 + 1 := Int.ediv_lt_of_lt_mul (by omega) (by omega)
    exact ⟨Int.le_ediv_of_mul_le (by omega) (by rw [e]; omega), by omega⟩
theorem near_zero {x d : Int} (hd : 0 < d) : nearI (x * 0) d = 0 := by
  have := near_between (x := x) hd (Int.le_refl 0) (by omega)
  simp only [nearI, Int.mul_zero, Int.zero_add]
  exact Int.ediv_eq_zero_of_lt (by omega) (by omega)
theorem near_full {x d : Int} (hd : 0 < d) : nearI (x * d) d = x := by
  have e : 2 * (x * d) + d = d + 2 * d * x := by rw [Int.mul_comm x d, Int.mul_assoc]; omega
  rw [nearI, e, Int.add_mul_ediv_left _ _ (by omega), Int.ediv_eq_zero_of_lt (by omega) (by omega)]; omega
theorem mulP_bd {x y A B : Int} (h0 : 0 ≤ x) (h1 : x ≤ A) (h2 : 0 ≤ y) (h3 : y ≤ B) : 0 ≤ x * y ∧ x * y ≤ A * B :=
  ⟨Int.mul_nonneg h0 h2, Int.mul_le_mul h1 h3 h2 (by omega)⟩
theorem mulS_bd {x y A B : Int} (h0 : -A ≤ x) (h1 : x ≤ A) (h2 : 0 ≤ y) (h3 : y ≤ B) : -(A * B) ≤ x * y ∧ x * y ≤ A * B := by
  rcases Int.le_total 0 x with h | h
  · have := mulP_bd h h1 h2 h3; omega
  · have := mulP_bd (x := -x) (by omega) (by omega : -x ≤ A) h2 h3
    rw [Int.neg_mul] at this; omega

theorem bitLen_spec (x : Nat) (h : x < 2 ^ 64) : x < 2 ^ Lib.bitLen x ∧ ∀ k, x < 2 ^ k → Lib.bitLen x ≤ k := by
  induction x using Nat.strongRecOn with
  | _ x ih =>
    by_cases h0 : x = 0
    · subst h0
      have : Lib.bitLen 0 = 0 := by decide
      rw [this]
      exact ⟨by decide, fun k _ => Nat.zero_le _⟩
    · have e := Lib.bitLen_half x h0 h
      obtain ⟨h1, h2⟩ := ih (x / 2) (by omega) (by omega)
      rw [e]
      refine ⟨by rw [Nat.pow_add]; omega, fun k hk => ?_⟩
      cases k with
      | zero => simp at hk; omega
      | succ k =>
        have := h2 k (by rw [Nat.pow_succ] at hk; omega)
        omega
theorem sq_le {a b : Int} (h0 : 0 ≤ a) (h : a ≤ b) : a * a ≤ b * b := Int.mul_le_mul h h h0 (by omega)
theorem sq_lt {a b : Int} (h0 : 0 ≤ b) (h : a * a < b * b) : a < b := by
  by_cases h' : a < b
  · exact h'
  · have := sq_le h0 (Int.not_lt.1 h'); omega
def rootN : Nat → Nat
  | 0 => 0
  | n + 1 => if (rootN n + 1) * (rootN n + 1) ≤ n + 1 then rootN n + 1 else rootN n
theorem rootN_spec (n : Nat) : rootN n * rootN n ≤ n ∧ n < (rootN n + 1) * (rootN n + 1) := by
  induction n with
  | zero => simp [rootN]
  | succ n ih =>
    unfold rootN
    split
    · rename_i h
      refine ⟨h, ?_⟩
      have : (rootN n + 1 + 1) * (rootN n + 1 + 1) = (rootN n + 1) * (rootN n + 1) + 2 * (rootN n + 1) + 1 := by
        generalize rootN n + 1 = a
        rw [Nat.add_mul, Nat.mul_add]; omega
      omega
    · omega
/-- The greatest number whose square is at most n. -/
def rootI (n : Int) : Int := (rootN n.toNat : Int)
theorem rootI_spec {n : Int} (h : 0 ≤ n) : 0 ≤ rootI n ∧ rootI n * rootI n ≤ n ∧ n < (rootI n + 1) * (rootI n + 1) := by
  have := rootN_spec n.toNat
  unfold rootI
  refine ⟨by omega, ?_, ?_⟩
  · have h1 : ((rootN n.toNat * rootN n.toNat : Nat) : Int) ≤ (n.toNat : Int) := Int.ofNat_le.2 this.1
    rw [Int.natCast_mul] at h1; omega
  · have h1 : ((n.toNat : Nat) : Int) < (((rootN n.toNat + 1) * (rootN n.toNat + 1) : Nat) : Int) := Int.ofNat_lt.2 this.2
    rw [Int.natCast_mul] at h1
    have e : ((rootN n.toNat + 1 : Nat) : Int) = (rootN n.toNat : Int) + 1 := by omega
    rw [e] at h1; omega
theorem rootI_eq {n r : Int} (h0 : 0 ≤ r) (h1 : r * r ≤ n) (h2 : n < (r + 1) * (r + 1)) : rootI n = r := by
  have hn : 0 ≤ n := Int.le_trans (Int.mul_nonneg h0 h0) h1
  obtain ⟨a, b, c⟩ := rootI_spec hn
  have e1 : rootI n < r + 1 := sq_lt (by omega) (by omega)
  have e2 : r < rootI n + 1 := sq_lt (by omega) (by omega)
  omega
theorem rootI_bd {n B : Int} (h : 0 ≤ n) (hB : 0 ≤ B) (h2 : n < (B + 1) * (B + 1)) : 0 ≤ rootI n ∧ rootI n ≤ B := by
  obtain ⟨a, b, c⟩ := rootI_spec h
  have : rootI n < B + 1 := sq_lt (by omega) (by omega)
  omega
/-- A step of the way down. -/
theorem newton {n r : Int} (hr : 0 < r) : n < ((r + n / r) / 2 + 1) * ((r + n / r) / 2 + 1) := by
  obtain ⟨m, hm⟩ : ∃ m, m = n / r := ⟨_, rfl⟩
  have h1 : n < r * (m + 1) := by
    have := Int.lt_mul_ediv_self_add (x := n) hr
    rw [← hm] at this; rw [Int.mul_add]; omega
  rw [← hm]
  obtain ⟨q, hq⟩ : ∃ q, q = (r + m) / 2 := ⟨_, rfl⟩
  rw [← hq]
  have h2 : r + m + 1 ≤ 2 * (q + 1) := by omega
  by_cases h0 : n < 0
  · have : 0 ≤ (q + 1) * (q + 1) := by
      rcases Int.le_total 0 (q + 1) with h | h
      · exact Int.mul_nonneg h h
      · exact Int.mul_nonneg_of_nonpos_of_nonpos h h
    omega
  have h0 := Int.not_lt.1 h0
  have hm0 : 0 ≤ m := by rw [hm]; exact Int.ediv_nonneg h0 (by omega)
  have h3 := sq_le (show 0 ≤ r + m + 1 by omega) h2
  have h4 : (2 * (q + 1)) * (2 * (q + 1)) = 4 * ((q + 1) * (q + 1)) := by
    generalize q + 1 = a
    rw [show (2 * a) * (2 * a) = (2 * 2) * (a * a) by rw [Int.mul_assoc, Int.mul_left_comm a 2 a, ← Int.mul_assoc]]; omega
  have h5 : 4 * (r * (m + 1)) ≤ (r + m + 1) * (r + m + 1) := by
    have h6 : 0 ≤ (r - (m + 1)) * (r - (m + 1)) := by
      rcases Int.le_total 0 (r - (m + 1)) with h | h
      · exact Int.mul_nonneg h h
      · exact Int.mul_nonneg_of_nonpos_of_nonpos h h
    have e : r + m + 1 = r + (m + 1) := by omega
    rw [e]
    generalize m + 1 = k at h6 ⊢
    have e1 : (r - k) * (r - k) = r * r - 2 * (r * k) + k * k := by rw [Int.sub_mul, Int.mul_sub, Int.mul_sub, Int.mul_comm k r]; omega
    have e2 : (r + k) * (r + k) = r * r + 2 * (r * k) + k * k := by rw [Int.add_mul, Int.mul_add, Int.mul_add, Int.mul_comm k r]; omega
    omega
  omega
theorem newton_end {n r : Int} (hr : 0 < r) (h : ¬ (r + n / r) / 2 < r) : r * r ≤ n := by
  have h1 : r ≤ n / r := by omega
  have h2 := Int.mul_ediv_self_le (x := n) (k := r) (by omega)
  exact Int.le_trans (Int.mul_le_mul_of_nonneg_left h1 (by omega)) h2

theorem root0 {n : Int} (h0 : 0 ≤ n) (h1 : n ≤ 1000000000000000) : (Lib.bitLen n.toNat ≤ 50) ∧ (1 ≤ 1 * ((2 ^ ((((Lib.bitLen n.toNat : Nat) : Int) + 1) / 2).toNat : Nat) : Int) ∧ 1 * ((2 ^ ((((Lib.bitLen n.toNat : Nat) : Int) + 1) / 2).toNat : Nat) : Int) ≤ 33554432) ∧
    n < (1 * ((2 ^ ((((Lib.bitLen n.toNat : Nat) : Int) + 1) / 2).toNat : Nat) : Int) + 1) * (1 * ((2 ^ ((((Lib.bitLen n.toNat : Nat) : Int) + 1) / 2).toNat : Nat) : Int) + 1) := by
  obtain ⟨a, b⟩ := bitLen_spec n.toNat (by omega)
  have hL := b 50 (by omega)
  generalize Lib.bitLen n.toNat = L at *
  have e : (((L : Int) + 1) / 2).toNat = (L + 1) / 2 := by omega
  rw [e]
  have hk : (L + 1) / 2 ≤ 25 := by omega
  have h3 : 2 ^ ((L + 1) / 2) ≤ 2 ^ 25 := Nat.pow_le_pow_right (by decide) hk
  have h4 : 1 ≤ 2 ^ ((L + 1) / 2) := Nat.one_le_two_pow
  have h5 : 2 ^ L ≤ 2 ^ ((L + 1) / 2) * 2 ^ ((L + 1) / 2) := by rw [← Nat.pow_add]; exact Nat.pow_le_pow_right (by decide) (by omega)
  generalize 2 ^ ((L + 1) / 2) = R at *
  have h6 : n.toNat < R * R := Nat.lt_of_lt_of_le a h5
  have h7 : ((n.toNat : Nat) : Int) < ((R * R : Nat) : Int) := Int.ofNat_lt.2 h6
  rw [Int.natCast_mul] at h7
  refine ⟨hL, by omega, ?_⟩
  have e2 : (1 * (R : Int) + 1) * (1 * (R : Int) + 1) = (R : Int) * R + 2 * R + 1 := by rw [Int.one_mul, Int.add_mul, Int.mul_add]; omega
  omega
theorem div_bd {n r : Int} (h : 0 ≤ n) (hr : 0 < r) : 0 ≤ n / r ∧ n / r ≤ n := ⟨Int.ediv_nonneg h (by omega), Int.ediv_le_self _ h⟩
theorem newton_pos {n q : Int} (h : 0 < n) (hq : 0 ≤ q) (h2 : n < (q + 1) * (q + 1)) : 0 < q := by
  by_cases e : q = 0
  · subst e; omega
  · omega

def farI (a b : Point) : Int := (a.X - b.X) * (a.X - b.X) + (a.Y - b.Y) * (a.Y - b.Y)
theorem sq_bd {x B : Int} (h1 : -B ≤ x) (h2 : x ≤ B) : 0 ≤ x * x ∧ x * x ≤ B * B := by
  rcases Int.le_total 0 x with h | h
  · exact ⟨Int.mul_nonneg h h, sq_le h h2⟩
  · have := sq_le (a := -x) (b := B) (by omega) (by omega)
    rw [Int.neg_mul_neg] at this
    exact ⟨Int.mul_nonneg_of_nonpos_of_nonpos h h, this⟩
theorem far_bd {a b : Point} (ha : okP a = true) (hb : okP b = true) : (0 ≤ (a.X - b.X) * (a.X - b.X) ∧ (a.X - b.X) * (a.X - b.X) ≤ 16769025) ∧ (0 ≤ (a.Y - b.Y) * (a.Y - b.Y) ∧ (a.Y - b.Y) * (a.Y - b.Y) ≤ 16769025) := by
  have h1 := okP_iff.1 ha
  have h2 := okP_iff.1 hb
  exact ⟨sq_bd (B := 4095) (by omega) (by omega), sq_bd (B := 4095) (by omega) (by omega)⟩
/-- The length of a segment. -/
def segI (a b : Point) : Int := rootI (256 * farI a b)
theorem segI_bd {a b : Point} (ha : okP a = true) (hb : okP b = true) : (0 ≤ farI a b ∧ farI a b ≤ 33538050) ∧ 0 ≤ segI a b ∧ segI a b ≤ 92659 := by
  have := far_bd ha hb
  have h : 0 ≤ farI a b ∧ farI a b ≤ 33538050 := by unfold farI; omega
  exact ⟨h, rootI_bd (by omega) (by decide) (by omega)⟩

def sameL {α : Type} [Inhabited α] [DecidableEq α] (a b : List α) : Bool := decide (a.length = b.length) && allN a.length (fun j => decide (at_ a j = at_ b j))
theorem sameL_refl {α : Type} [Inhabited α] [DecidableEq α] (a : List α) : sameL a a = true := by simp [sameL, allN_iff]

def joinB (a b : Box) : Box := ⟨min a.X1 b.X1, min a.Y1 b.Y1, max a.X2 b.X2, max a.Y2 b.Y2⟩

def ptB (p : Point) : Box := ⟨p.X, p.Y, p.X, p.Y⟩
/-- The box of the first point and the first k points. -/
def boxS (xs : List Point) : Nat → Box
  | 0 => ptB (at_ xs 0)
  | k + 1 => joinB (boxS xs k) (ptB (at_ xs k))
theorem boxS_succ {xs : List Point} {i : Int} (h : 0 ≤ i) : boxS xs (i + 1).toNat = joinB (boxS xs i.toNat) (ptB (at_ xs i.toNat)) := by
  have : (i + 1).toNat = i.toNat + 1 := by omega
  rw [this]; rfl
theorem boxS_one (xs : List Point) : boxS xs 1 = ptB (at_ xs 0) := by simp [boxS, joinB, ptB]
/-- A box that is one. -/
def okBox (b : Box) : Prop := (0 ≤ b.X1 ∧ b.X1 ≤ b.X2 ∧ b.X2 ≤ 4095) ∧ 0 ≤ b.Y1 ∧ b.Y1 ≤ b.Y2 ∧ b.Y2 ≤ 4095
theorem joinB_ok {a b : Box} (ha : okBox a) (hb : okBox b) : okBox (joinB a b) := by unfold okBox joinB at *; simp only; omega
theorem ptB_ok {p : Point} (h : okP p = true) : okBox (ptB p) := by have := okP_iff.1 h; unfold okBox ptB; simp only; omega
theorem boxS_ok {s : Stroke} (ok : okStroke' s = true) : ∀ k : Nat, k ≤ s.Points.length → okBox (boxS s.Points k)
  | 0, _ => ptB_ok (okS_at ok (by have := okS_len ok; omega))
  | k + 1, h => joinB_ok (boxS_ok ok k (by omega)) (ptB_ok (okS_at ok (by omega)))
theorem boxS_all {s : Stroke} (ok : okStroke' s = true) : okBox (boxS s.Points s.Points.length) := boxS_ok ok _ (Nat.le_refl _)

/-- The length of the first points' way: segments that end ahead of the k-th point. -/
def sumS (xs : List Point) : Nat → Int
  | 0 => 0
  | k + 1 => sumS xs k + (if k = 0 then 0 else segI (at_ xs (k - 1)) (at_ xs k))
theorem sumS_succ {xs : List Point} {i : Int} (h : 1 ≤ i) : sumS xs (i + 1).toNat = sumS xs i.toNat + segI (at_ xs (i - 1).toNat) (at_ xs i.toNat) := by
  have e1 : (i + 1).toNat = i.toNat + 1 := by omega
  have e2 : (i - 1).toNat = i.toNat - 1 := by omega
  have e3 : ¬ i.toNat = 0 := by omega
  rw [e1, e2]; simp [sumS, e3]
/-- How often the way changes between left and right, and the last difference: over the segments that end ahead of the k-th point. -/
def revS (xs : List Point) : Nat → Int × Int
  | 0 => (0, 0)
  | k + 1 => if k = 0 then (0, 0) else
    let dx := (at_ xs k).X - (at_ xs (k - 1)).X
    let p := revS xs k
    if dx = 0 then p else (if p.2 ≠ 0 ∧ ¬ (0 < dx ↔ 0 < p.2) then p.1 + 1 else p.1, dx)

theorem revS_1 {xs : List Point} {i : Int} (h : 1 ≤ i) : (revS xs (i + 1).toNat).1 = if (at_ xs i.toNat).X - (at_ xs (i - 1).toNat).X ≠ 0 ∧ (revS xs i.toNat).2 ≠ 0 ∧ ¬ (0 < (at_ xs i.toNat).X - (at_ xs (i - 1).toNat).X ↔ 0 < (revS xs i.toNat).2) then (revS xs i.toNat).1 + 1 else (revS xs i.toNat).1 := by
  have e1 : (i + 1).toNat = i.toNat + 1 := by omega
  have e2 : (i - 1).toNat = i.toNat - 1 := by omega
  have e3 : ¬ i.toNat = 0 := by omega
  rw [e1, e2]; simp only [revS, if_neg e3]
  by_cases h : (at_ xs i.toNat).X - (at_ xs (i.toNat - 1)).X = 0 <;> simp [h]
theorem revS_2 {xs : List Point} {i : Int} (h : 1 ≤ i) : (revS xs (i + 1).toNat).2 = if (at_ xs i.toNat).X - (at_ xs (i - 1).toNat).X = 0 then (revS xs i.toNat).2 else (at_ xs i.toNat).X - (at_ xs (i - 1).toNat).X := by
  have e1 : (i + 1).toNat = i.toNat + 1 := by omega
  have e2 : (i - 1).toNat = i.toNat - 1 := by omega
  have e3 : ¬ i.toNat = 0 := by omega
  rw [e1, e2]; simp only [revS, if_neg e3]
  by_cases h : (at_ xs i.toNat).X - (at_ xs (i.toNat - 1)).X = 0 <;> simp [h]

/-- The direction of a difference that is not zero. -/
def dirI (dx dy : Int) : Int :=
  if ((dx.natAbs : Int) + (dy.natAbs : Int)) * ((dx.natAbs : Int) + (dy.natAbs : Int)) ≤ (2 * (dx.natAbs : Int)) * (dx.natAbs : Int) then (if 0 < dx then 0 else 4)
  else if ((dx.natAbs : Int) + (dy.natAbs : Int)) * ((dx.natAbs : Int) + (dy.natAbs : Int)) ≤ (2 * (dy.natAbs : Int)) * (dy.natAbs : Int) then (if 0 < dy then 2 else 6)
  else if 0 < dx ∧ 0 < dy then 1 else if dx < 0 ∧ 0 < dy then 3 else if dx < 0 then 5 else 7
theorem dirI_bd (dx dy : Int) : 0 ≤ dirI dx dy ∧ dirI dx dy ≤ 7 := by unfold dirI; (repeat' split) <;> omega
theorem two_sq {x : Int} (h : 0 ≤ x) (h2 : x ≤ 4095) : 0 ≤ (2 * x) * x ∧ (2 * x) * x ≤ 33538050 := by
  have := sq_bd (x := x) (B := 4095) (by omega) h2
  rw [Int.mul_assoc]; omega
theorem dir_zero {dx dy : Int} (h : dx = 0) : ((dx.natAbs : Int) + (dy.natAbs : Int)) * ((dx.natAbs : Int) + (dy.natAbs : Int)) ≤ (2 * (dy.natAbs : Int)) * (dy.natAbs : Int) := by
  subst h
  have := sq_bd (x := (dy.natAbs : Int)) (B := (dy.natAbs : Int)) (by omega) (by omega)
  rw [Int.mul_assoc]; simp at this ⊢; omega

/-- The directions of the segments that have a length and end ahead of the k-th point. -/
def dirsL (xs : List Point) : Nat → List Int
  | 0 => []
  | k + 1 => if k = 0 ∨ ((at_ xs k).X - (at_ xs (k - 1)).X = 0 ∧ (at_ xs k).Y - (at_ xs (k - 1)).Y = 0) then dirsL xs k
    else dirsL xs k ++ [dirI ((at_ xs k).X - (at_ xs (k - 1)).X) ((at_ xs k).Y - (at_ xs (k - 1)).Y)]
theorem dirsL_len (xs : List Point) : ∀ k : Nat, (dirsL xs k).length ≤ k
  | 0 => Nat.le_refl _
  | k + 1 => by
    have := dirsL_len xs k
    unfold dirsL
    split
    · omega
    · simp; omega
theorem dirsL_one (xs : List Point) : dirsL xs 1 = [] := by simp [dirsL]
theorem dirsL_same {xs : List Point} {i : Int} (h : 1 ≤ i) (hx : (at_ xs i.toNat).X - (at_ xs (i - 1).toNat).X = 0) (hy : (at_ xs i.toNat).Y - (at_ xs (i - 1).toNat).Y = 0) : dirsL xs (i + 1).toNat = dirsL xs i.toNat := by
  have e1 : (i + 1).toNat = i.toNat + 1 := by omega
  have e2 : (i - 1).toNat = i.toNat - 1 := by omega
  rw [e2] at hx hy
  rw [e1]
  conv => lhs; unfold dirsL
  rw [if_pos (.inr ⟨hx, hy⟩)]
theorem dirsL_more {xs : List Point} {i : Int} (h : 1 ≤ i) (hn : ¬ ((at_ xs i.toNat).X - (at_ xs (i - 1).toNat).X = 0 ∧ (at_ xs i.toNat).Y - (at_ xs (i - 1).toNat).Y = 0)) :
    dirsL xs (i + 1).toNat = dirsL xs i.toNat ++ [dirI ((at_ xs i.toNat).X - (at_ xs (i - 1).toNat).X) ((at_ xs i.toNat).Y - (at_ xs (i - 1).toNat).Y)] := by
  have e1 : (i + 1).toNat = i.toNat + 1 := by omega
  have e2 : (i - 1).toNat = i.toNat - 1 := by omega
  rw [e2] at hn ⊢
  rw [e1]
  conv => lhs; unfold dirsL
  rw [if_neg (by rintro (h' | h'); omega; exact hn h')]

/-- f 0 + .. + f (n - 1). -/
def sumN : Nat → (Nat → Int) → Int
  | 0, _ => 0
  | n + 1, f => sumN n f + f n
theorem sumN_succ {n : Int} (h : 0 ≤ n) (f : Nat → Int) : sumN (n + 1).toNat f = sumN n.toNat f + f n.toNat := by
  have : (n + 1).toNat = n.toNat + 1 := by omega
  rw [this]; rfl

def bendI (a b : Int) : Int := (b - a + 11) % 8 - 3
theorem bendI_bd (a b : Int) : -3 ≤ bendI a b ∧ bendI a b ≤ 4 := by unfold bendI; omega
def bendS (l : List Int) (k : Nat) : Int := sumN k fun j => if j = 0 then 0 else bendI (at_ l (j - 1)) (at_ l j)
theorem bendS_succ {l : List Int} {i : Int} (h : 1 ≤ i) : bendS l (i + 1).toNat = bendS l i.toNat + bendI (at_ l (i - 1).toNat) (at_ l i.toNat) := by
  unfold bendS
  rw [sumN_succ (by omega), if_neg (by omega)]
  have e2 : (i - 1).toNat = i.toNat - 1 := by omega
  rw [e2]
theorem bendS_one (l : List Int) (k : Nat) (h : k ≤ 1) : bendS l k = 0 := by
  have : k = 0 ∨ k = 1 := by omega
  rcases this with rfl | rfl <;> simp [bendS, sumN]
theorem bendS_bd (l : List Int) (k : Nat) : -3 * (k : Int) ≤ bendS l k ∧ bendS l k ≤ 4 * (k : Int) := by
  induction k with
  | zero => simp [bendS, sumN]
  | succ k ih =>
    have := bendI_bd (at_ l (k - 1)) (at_ l k)
    unfold bendS at ih ⊢
    simp only [sumN]
    split <;> omega
theorem dirsL_bd (xs : List Point) : ∀ (k j : Nat), j < (dirsL xs k).length → 0 ≤ at_ (dirsL xs k) j ∧ at_ (dirsL xs k) j ≤ 7 := by
  intro k
  induction k with
  | zero => intro j h; simp [dirsL] at h
  | succ k ih =>
    unfold dirsL
    split
    · exact ih
    · intro j h
      simp only [List.length_append, List.length_singleton] at h
      by_cases e : j < (dirsL xs k).length
      · have := ih j e
        simp only [at_, List.getD_eq_getElem?_getD, List.getElem?_append_left e] at this ⊢
        exact this
      · have e2 : j = (dirsL xs k).length := by omega
        subst e2
        simp [at_]
        exact dirI_bd _ _
/-- The sum of a stroke's turns. -/
def bendT (s : Stroke) : Int := bendS (dirsL s.Points s.Points.length) (dirsL s.Points s.Points.length).length
theorem bendT_bd {s : Stroke} (ok : okStroke' s = true) : -180 ≤ bendT s ∧ bendT s ≤ 240 := by
  have h := okS_len ok
  have h1 := dirsL_len s.Points s.Points.length
  have h2 := bendS_bd (dirsL s.Points s.Points.length) (dirsL s.Points s.Points.length).length
  unfold bendT; omega

/-- The lengths up to the first k points. -/
def arcsL (xs : List Point) (k : Nat) : List Int := (List.range k).map fun j => sumS xs (j + 1)
theorem arcsL_len (xs : List Point) (k : Nat) : (arcsL xs k).length = k := by simp [arcsL]
theorem arcsL_at {xs : List Point} {k j : Nat} (h : j < k) : at_ (arcsL xs k) j = sumS xs (j + 1) := by simp [at_, arcsL, h]
theorem arcsL_succ (xs : List Point) (k : Nat) : arcsL xs (k + 1) = arcsL xs k ++ [sumS xs (k + 1)] := by simp [arcsL, List.range_succ]
theorem sumS_bd {s : Stroke} (ok : okStroke' s = true) : ∀ k : Nat, k ≤ s.Points.length → 0 ≤ sumS s.Points k ∧ sumS s.Points k ≤ 92659 * k
  | 0, _ => by simp [sumS]
  | k + 1, h => by
    have ih := sumS_bd ok k (by omega)
    unfold sumS
    split
    · omega
    · have := segI_bd (okS_at ok (j := k - 1) (by omega)) (okS_at ok (j := k) (by omega))
      omega

def caretB (s : Stroke) : Bool :=
  let b := boxS s.Points s.Points.length
  decide (0 < b.Y2 - b.Y1) && (decide (b.Y2 - b.Y1 ≤ 2 * ((at_ s.Points 0).Y - b.Y1)) && (decide (b.Y2 - b.Y1 ≤ 2 * ((at_ s.Points (s.Points.length - 1)).Y - b.Y1)) && decide ((revS s.Points s.Points.length).1 = 0)))
/-- The segment from a stroke's first point to its last one. -/
def endsI (s : Stroke) : Int := segI (at_ s.Points 0) (at_ s.Points (s.Points.length - 1))
def strI (s : Stroke) : Int := if sumS s.Points s.Points.length = 0 then 1000 else min 1000 (1000 * endsI s / sumS s.Points s.Points.length)
/-- The gesture of a stroke. -/
def gestI (s : Stroke) : Int :=
  if sumS s.Points s.Points.length ≤ 160 then 1 else if 3 ≤ (revS s.Points s.Points.length).1 then 2
  else if 6 ≤ ((bendT s).natAbs : Int) ∧ 4 * endsI s ≤ sumS s.Points s.Points.length then 3 else if caretB s = true then 4 else if 900 ≤ strI s then 5 else 0
def gestR (s : Stroke) : Int × Int := if okStroke' s then (gestI s, 0) else (0, 1)
theorem ends_bd {s : Stroke} (ok : okStroke' s = true) : 0 ≤ endsI s ∧ endsI s ≤ 92659 := by
  have := okS_len ok
  exact (segI_bd (okS_at ok (by omega)) (okS_at ok (by omega))).2

def mvP (dx dy : Int) (p : Point) : Point := ⟨p.X + dx, p.Y + dy, p.T⟩
def mvS (dx dy : Int) (s : Stroke) : Stroke := ⟨s.Points.map (mvP dx dy)⟩
/-- Ink at another place. -/
def mvI (dx dy : Int) (x : Ink) : Ink := ⟨x.Strokes.map (mvS dx dy)⟩
theorem mvI_len (dx dy : Int) (x : Ink) : (mvI dx dy x).Strokes.length = x.Strokes.length := by simp [mvI]
theorem mvS_len (dx dy : Int) (s : Stroke) : (mvS dx dy s).Points.length = s.Points.length := by simp [mvS]
theorem mvS_at {dx dy : Int} {s : Stroke} {j : Nat} (h : j < s.Points.length) : at_ (mvS dx dy s).Points j = mvP dx dy (at_ s.Points j) := by simp [at_, mvS, h]
theorem mvI_at {dx dy : Int} {x : Ink} {j : Nat} (h : j < x.Strokes.length) : at_ (mvI dx dy x).Strokes j = mvS dx dy (at_ x.Strokes j) := by simp [at_, mvI, h]
/-- The first k points are moved. -/
def mvTo (dx dy : Int) (k : Nat) (s : Stroke) : Stroke := ⟨(s.Points.take k).map (mvP dx dy) ++ s.Points.drop k⟩
/-- The first i strokes are moved. -/
def mvFst (dx dy : Int) (i : Nat) (xs : List Stroke) : List Stroke := (xs.take i).map (mvS dx dy) ++ xs.drop i
theorem mvTo_zero (dx dy : Int) (s : Stroke) : mvTo dx dy 0 s = s := by simp [mvTo]
theorem mvTo_all {dx dy : Int} {k : Nat} {s : Stroke} (h : s.Points.length ≤ k) : mvTo dx dy k s = mvS dx dy s := by simp [mvTo, mvS, List.take_of_length_le h, List.drop_eq_nil_of_le h]
theorem mvTo_len (dx dy : Int) (k : Nat) (s : Stroke) : (mvTo dx dy k s).Points.length = s.Points.length := by simp [mvTo]; omega
theorem mvTo_at {dx dy : Int} {k : Nat} {s : Stroke} (h : k < s.Points.length) : at_ (mvTo dx dy k s).Points k = at_ s.Points k := by
  simp [at_, mvTo, h, Nat.le_of_lt h, List.getElem?_append]
theorem mvTo_succ {dx dy : Int} {k : Nat} {s : Stroke} (h : k < s.Points.length) : mvTo dx dy (k + 1) s = ⟨(mvTo dx dy k s).Points.set k (mvP dx dy (at_ s.Points k))⟩ := by
  unfold mvTo
  simp only [Stroke.mk.injEq]
  rw [List.take_succ_eq_append_getElem h, List.set_append_right _ _ (by simp [Nat.le_of_lt h]), List.drop_eq_getElem_cons h, at_eq h]
  simp only [List.map_append, List.map_cons, List.map_nil, List.length_map, List.length_take, Nat.min_eq_left (Nat.le_of_lt h), Nat.sub_self, List.set_cons_zero, List.append_assoc, List.cons_append, List.nil_append]
theorem mvFst_zero (dx dy : Int) (xs : List Stroke) : mvFst dx dy 0 xs = xs := by simp [mvFst]
theorem mvFst_len (dx dy : Int) (i : Nat) (xs : List Stroke) : (mvFst dx dy i xs).length = xs.length := by simp [mvFst]; omega
theorem mvFst_all {dx dy : Int} {i : Nat} {xs : List Stroke} (h : xs.length ≤ i) : mvFst dx dy i xs = xs.map (mvS dx dy) := by simp [mvFst, List.take_of_length_le h, List.drop_eq_nil_of_le h]
theorem mvFst_at {dx dy : Int} {i : Nat} {xs : List Stroke} (h : i < xs.length) : at_ (mvFst dx dy i xs) i = at_ xs i := by
  simp [at_, mvFst, h, Nat.le_of_lt h, List.getElem?_append]
theorem mvFst_succ {dx dy : Int} {i : Nat} {xs : List Stroke} (h : i < xs.length) : mvFst dx dy (i + 1) xs = (mvFst dx dy i xs).set i (mvS dx dy (at_ xs i)) := by
  unfold mvFst
  rw [List.take_succ_eq_append_getElem h, List.set_append_right _ _ (by simp [Nat.le_of_lt h]), List.drop_eq_getElem_cons h, at_eq h]
  simp only [List.map_append, List.map_cons, List.map_nil, List.length_map, List.length_take, Nat.min_eq_left (Nat.le_of_lt h), Nat.sub_self, List.set_cons_zero, List.append_assoc, List.cons_append, List.nil_append]
/-- The stroke at i, of which the first k points are moved. -/
def mvIn (dx dy : Int) (i k : Nat) (xs : List Stroke) : List Stroke := (mvFst dx dy i xs).set i (mvTo dx dy k (at_ xs i))
theorem mvIn_zero {dx dy : Int} {i : Nat} {xs : List Stroke} (h : i < xs.length) : mvIn dx dy i 0 xs = mvFst dx dy i xs := by
  have hl : i < (mvFst dx dy i xs).length := by rw [mvFst_len]; exact h
  rw [mvIn, mvTo_zero]
  have := mvFst_at (dx := dx) (dy := dy) h
  conv => lhs; rw [← this]
  simp [at_, hl]
theorem mvIn_len (dx dy : Int) (i k : Nat) (xs : List Stroke) : (mvIn dx dy i k xs).length = xs.length := by simp [mvIn, mvFst_len]
theorem mvIn_at {dx dy : Int} {i k : Nat} {xs : List Stroke} (h : i < xs.length) : at_ (mvIn dx dy i k xs) i = mvTo dx dy k (at_ xs i) := by
  have hl : i < (mvFst dx dy i xs).length := by rw [mvFst_len]; exact h
  simp [mvIn, at_, hl]
theorem mvIn_succ {dx dy : Int} {i k : Nat} {xs : List Stroke} (h : i < xs.length) (hk : k < (at_ xs i).Points.length) : mvIn dx dy i (k + 1) xs = (mvIn dx dy i k xs).set i ⟨(at_ (mvIn dx dy i k xs) i).Points.set k (mvP dx dy (at_ (at_ xs i).Points k))⟩ := by
  rw [mvIn_at h, mvIn, mvTo_succ hk, mvIn, List.set_set]
theorem mvIn_all {dx dy : Int} {i k : Nat} {xs : List Stroke} (h : i < xs.length) (hk : (at_ xs i).Points.length ≤ k) : mvIn dx dy i k xs = mvFst dx dy (i + 1) xs := by
  rw [mvIn, mvTo_all hk, mvFst_succ h]
section
variable {dx dy : Int} {s : Stroke}
theorem far_mv (a b : Point) : farI (mvP dx dy a) (mvP dx dy b) = farI a b := by
  have e1 : a.X + dx - (b.X + dx) = a.X - b.X := by omega
  have e2 : a.Y + dy - (b.Y + dy) = a.Y - b.Y := by omega
  simp only [farI, mvP, e1, e2]
theorem seg_mv (a b : Point) : segI (mvP dx dy a) (mvP dx dy b) = segI a b := by rw [segI, far_mv]; rfl
theorem sum_mv : ∀ k, k ≤ s.Points.length → sumS (mvS dx dy s).Points k = sumS s.Points k
  | 0, _ => rfl
  | k + 1, h => by
    rw [sumS, sumS, sum_mv k (by omega)]
    split
    · rfl
    · rw [mvS_at (by omega), mvS_at (by omega), seg_mv]
theorem rev_mv : ∀ k, k ≤ s.Points.length → revS (mvS dx dy s).Points k = revS s.Points k
  | 0, _ => rfl
  | k + 1, h => by
    rw [revS, revS, rev_mv k (by omega)]
    split
    · rfl
    · rw [mvS_at (by omega), mvS_at (by omega)]
      have e1 : (at_ s.Points k).X + dx - ((at_ s.Points (k - 1)).X + dx) = (at_ s.Points k).X - (at_ s.Points (k - 1)).X := by omega
      simp only [mvP, e1]
theorem dirs_mv : ∀ k, k ≤ s.Points.length → dirsL (mvS dx dy s).Points k = dirsL s.Points k
  | 0, _ => rfl
  | k + 1, h => by
    rw [dirsL, dirsL, dirs_mv k (by omega)]
    by_cases hk : k = 0
    · subst hk; simp
    · rw [mvS_at (by omega), mvS_at (by omega)]
      have e1 : (at_ s.Points k).X + dx - ((at_ s.Points (k - 1)).X + dx) = (at_ s.Points k).X - (at_ s.Points (k - 1)).X := by omega
      have e2 : (at_ s.Points k).Y + dy - ((at_ s.Points (k - 1)).Y + dy) = (at_ s.Points k).Y - (at_ s.Points (k - 1)).Y := by omega
      simp only [mvP, e1, e2]
def mvB (dx dy : Int) (b : Box) : Box := ⟨b.X1 + dx, b.Y1 + dy, b.X2 + dx, b.Y2 + dy⟩
theorem box_mv (h1 : 1 ≤ s.Points.length) : ∀ k, k ≤ s.Points.length → boxS (mvS dx dy s).Points k = mvB dx dy (boxS s.Points k)
  | 0, _ => by rw [boxS, boxS, mvS_at (by omega)]; rfl
  | k + 1, h => by
    rw [boxS, boxS, box_mv h1 k (by omega), mvS_at (by omega)]
    simp only [joinB, mvB, ptB, mvP, Box.mk.injEq]
    omega
theorem caret_mv (h1 : 1 ≤ s.Points.length) : caretB (mvS dx dy s) = caretB s := by
  unfold caretB
  simp only [mvS_len]
  rw [box_mv h1 _ (Nat.le_refl _), rev_mv _ (Nat.le_refl _), mvS_at (by omega), mvS_at (by omega)]
  generalize boxS s.Points s.Points.length = b
  generalize at_ s.Points 0 = p
  generalize at_ s.Points (s.Points.length - 1) = q
  have e1 : (mvB dx dy b).Y2 - (mvB dx dy b).Y1 = b.Y2 - b.Y1 := by simp only [mvB]; omega
  have e2 : (mvP dx dy p).Y - (mvB dx dy b).Y1 = p.Y - b.Y1 := by simp only [mvB, mvP]; omega
  have e3 : (mvP dx dy q).Y - (mvB dx dy b).Y1 = q.Y - b.Y1 := by simp only [mvB, mvP]; omega
  rw [e1, e2, e3]
theorem ends_mv (h1 : 1 ≤ s.Points.length) : endsI (mvS dx dy s) = endsI s := by
  unfold endsI
  rw [mvS_len, mvS_at (by omega), mvS_at (by omega), seg_mv]
theorem bendT_mv : bendT (mvS dx dy s) = bendT s := by
  unfold bendT
  rw [mvS_len, dirs_mv _ (Nat.le_refl _)]
/-- A gesture does not depend on where it is made. -/
theorem gest_mv (h1 : 1 ≤ s.Points.length) : gestI (mvS dx dy s) = gestI s := by
  unfold gestI strI
  rw [mvS_len, sum_mv _ (Nat.le_refl _), rev_mv _ (Nat.le_refl _), bendT_mv, ends_mv h1, caret_mv h1]
end



/-- A point without a slant. -/
def strP (slant base : Int) (p : Point) : Point := ⟨p.X - nearI (slant * (base - p.Y)) 256, p.Y, p.T⟩
theorem mulA_bd {x y A B : Int} (h0 : -A ≤ x) (h1 : x ≤ A) (h2 : -B ≤ y) (h3 : y ≤ B) : -(A * B) ≤ x * y ∧ x * y ≤ A * B := by
  rcases Int.le_total 0 y with h | h
  · exact mulS_bd h0 h1 h h3
  · have := mulS_bd h0 h1 (by omega : 0 ≤ -y) (by omega : -y ≤ B)
    rw [Int.mul_neg] at this; omega
theorem near_abs (n : Int) {d : Int} (hd : 0 < d) : -(((2 * n + d).natAbs : Nat) : Int) ≤ nearI n d ∧ nearI n d ≤ (((2 * n + d).natAbs : Nat) : Int) := ediv_bd _ (by omega)
/-- What an ink becomes without a slant, and a code. -/
def strgR (x : Ink) (slant base : Int) : Ink × Int :=
  if okInk' x = true then (if inB slant (-256) 256 = true ∧ inB base 0 4095 = true then (if okInk' (mpI (strP slant base) x) = true then (mpI (strP slant base) x, 0) else (⟨[]⟩, 6)) else (⟨[]⟩, 2)) else (⟨[]⟩, 1)
theorem strg_inv {x : Ink} {a b : Int} (h : okInk' x = false) : strgR x a b = (⟨[]⟩, 1) := by simp [strgR, h]
theorem strg_rng {x : Ink} {a b : Int} (h : okInk' x = true) (h2 : ¬ (inB a (-256) 256 = true ∧ inB b 0 4095 = true)) : strgR x a b = (⟨[]⟩, 2) := by rw [strgR, if_pos h, if_neg h2]
theorem strg_st {x : Ink} {a b : Int} (h : okInk' x = true) (h2 : inB a (-256) 256 = true ∧ inB b 0 4095 = true) (h3 : okInk' (mpI (strP a b) x) = false) : strgR x a b = (⟨[]⟩, 6) := by rw [strgR, if_pos h, if_pos h2, if_neg (by simp [h3])]
theorem strg_yes {x : Ink} {a b : Int} (h : okInk' x = true) (h2 : inB a (-256) 256 = true ∧ inB b 0 4095 = true) (h3 : okInk' (mpI (strP a b) x) = true) : strgR x a b = (mpI (strP a b) x, 0) := by rw [strgR, if_pos h, if_pos h2, if_pos h3]
theorem strP_zero (p : Point) : strP 0 0 p = p := by
  have e : nearI (0 * (0 - p.Y)) 256 = 0 := by rw [Int.zero_mul]; decide
  unfold strP; rw [e]; simp
theorem strg_zero {x : Ink} (h : okInk' x = true) : strgR x 0 0 = (x, 0) := by
  have e := mpI_id (x := x) strP_zero
  have := strg_yes h (a := 0) (b := 0) ⟨by decide, by decide⟩ (by rw [e]; exact h)
  rw [this, e]
/-- What a segment gives to the slant. -/
def slaA (a b : Point) : Int := if ((b.X - a.X).natAbs : Int) < ((b.Y - a.Y).natAbs : Int) then (b.X - a.X) * (b.Y - a.Y) else 0
def slaD (a b : Point) : Int := if ((b.X - a.X).natAbs : Int) < ((b.Y - a.Y).natAbs : Int) then (b.Y - a.Y) * (b.Y - a.Y) else 0
def slaS (xs : List Point) : Nat → Int × Int
  | 0 => (0, 0)
  | k + 1 => if k = 0 then (0, 0) else ((slaS xs k).1 - slaA (at_ xs (k - 1)) (at_ xs k), (slaS xs k).2 + slaD (at_ xs (k - 1)) (at_ xs k))
def slaI (xs : List Stroke) : Nat → Int × Int
  | 0 => (0, 0)
  | k + 1 => ((slaI xs k).1 + (slaS (at_ xs k).Points (at_ xs k).Points.length).1, (slaI xs k).2 + (slaS (at_ xs k).Points (at_ xs k).Points.length).2)
def slantR (x : Ink) : Int × Int := if okInk' x = true then (if (slaI x.Strokes x.Strokes.length).2 = 0 then (0, 6) else (nearI (256 * (slaI x.Strokes x.Strokes.length).1) (slaI x.Strokes x.Strokes.length).2, 0)) else (0, 1)
theorem slaS_one (xs : List Point) (k : Nat) (h : k ≤ 1) : slaS xs k = (0, 0) := by
  have : k = 0 ∨ k = 1 := by omega
  rcases this with rfl | rfl <;> simp [slaS]
theorem slaS_1 {xs : List Point} {i : Int} (h : 1 ≤ i) : (slaS xs (i + 1).toNat).1 = (slaS xs i.toNat).1 - slaA (at_ xs (i - 1).toNat) (at_ xs i.toNat) := by
  have e1 : (i + 1).toNat = i.toNat + 1 := by omega
  have e2 : (i - 1).toNat = i.toNat - 1 := by omega
  rw [e1, e2, slaS, if_neg (by omega)]
theorem slaS_2 {xs : List Point} {i : Int} (h : 1 ≤ i) : (slaS xs (i + 1).toNat).2 = (slaS xs i.toNat).2 + slaD (at_ xs (i - 1).toNat) (at_ xs i.toNat) := by
  have e1 : (i + 1).toNat = i.toNat + 1 := by omega
  have e2 : (i - 1).toNat = i.toNat - 1 := by omega
  rw [e1, e2, slaS, if_neg (by omega)]
theorem slaI_1 {xs : List Stroke} {i : Int} (h : 0 ≤ i) : (slaI xs (i + 1).toNat).1 = (slaI xs i.toNat).1 + (slaS (at_ xs i.toNat).Points (at_ xs i.toNat).Points.length).1 := by
  have e1 : (i + 1).toNat = i.toNat + 1 := by omega
  rw [e1]; rfl
theorem slaI_2 {xs : List Stroke} {i : Int} (h : 0 ≤ i) : (slaI xs (i + 1).toNat).2 = (slaI xs i.toNat).2 + (slaS (at_ xs i.toNat).Points (at_ xs i.toNat).Points.length).2 := by
  have e1 : (i + 1).toNat = i.toNat + 1 := by omega
  rw [e1]; rfl
theorem sla_seg {a b : Point} (ha : okP a = true) (hb : okP b = true) : (-(slaD a b) ≤ slaA a b ∧ slaA a b ≤ slaD a b) ∧ 0 ≤ slaD a b ∧ slaD a b ≤ 16769025 := by
  have h1 := okP_iff.1 ha
  have h2 := okP_iff.1 hb
  unfold slaA slaD
  split
  · rename_i h
    have h3 := sq_bd (x := b.Y - a.Y) (B := 4095) (by omega) (by omega)
    refine ⟨?_, h3.1, by omega⟩
    have e : (b.Y - a.Y) * (b.Y - a.Y) = ((b.Y - a.Y).natAbs : Int) * ((b.Y - a.Y).natAbs : Int) := by rw [← Int.natCast_mul, Int.natAbs_mul_self]
    rw [e]
    exact mulA_bd (by omega) (by omega) (by omega) (by omega)
  · omega
theorem sla_bd {s : Stroke} (ok : okStroke' s = true) : ∀ k, k ≤ s.Points.length → (-(slaS s.Points k).2 ≤ (slaS s.Points k).1 ∧ (slaS s.Points k).1 ≤ (slaS s.Points k).2) ∧ 0 ≤ (slaS s.Points k).2 ∧ (slaS s.Points k).2 ≤ 16769025 * (k : Int)
  | 0, _ => by simp [slaS]
  | k + 1, h => by
    have ih := sla_bd ok k (by omega)
    rw [slaS]
    split
    · simp only; omega
    · have := sla_seg (okS_at ok (j := k - 1) (by omega)) (okS_at ok (j := k) (by omega))
      simp only; omega
theorem slaI_bd {x : Ink} (ok : okInk' x = true) : ∀ k, k ≤ x.Strokes.length → (-(slaI x.Strokes k).2 ≤ (slaI x.Strokes k).1 ∧ (slaI x.Strokes k).1 ≤ (slaI x.Strokes k).2) ∧ 0 ≤ (slaI x.Strokes k).2 ∧ (slaI x.Strokes k).2 ≤ 1006141500 * (k : Int)
  | 0, _ => by simp [slaI]
  | k + 1, h => by
    have ih := slaI_bd ok k (by omega)
    have ho := okI_all ok k (by omega)
    have h1 := sla_bd ho _ (Nat.le_refl _)
    have h2 := okS_len ho
    simp only [slaI]
    omega
theorem near_in {n d : Int} (hd : 0 < d) (h1 : -d ≤ n) (h2 : n ≤ d) : -256 ≤ nearI (256 * n) d ∧ nearI (256 * n) d ≤ 256 := by
  unfold nearI
  constructor
  · exact Int.le_ediv_of_mul_le (by omega) (by omega)
  · have b : (2 * (256 * n) + d) / (2 * d) < 257 := Int.ediv_lt_of_lt_mul (by omega) (by omega)
    omega
theorem slant_in {x : Ink} (h : (slantR x).2 = 0) : -256 ≤ (slantR x).1 ∧ (slantR x).1 ≤ 256 := by
  unfold slantR at h ⊢
  split at h
  · rename_i ok
    rw [if_pos ok]
    split at h
    · cases h
    · rename_i hd
      rw [if_neg hd]
      have := slaI_bd ok _ (Nat.le_refl _)
      exact near_in (by omega) this.1.1 this.1.2
  · cases h
theorem slaS_mv {dx dy : Int} {s : Stroke} : ∀ k, k ≤ s.Points.length → slaS (mvS dx dy s).Points k = slaS s.Points k
  | 0, _ => rfl
  | k + 1, h => by
    rw [slaS, slaS, slaS_mv k (by omega)]
    by_cases hk : k = 0
    · subst hk; rfl
    · rw [if_neg hk, if_neg hk, mvS_at (by omega), mvS_at (by omega)]
      have e1 : (at_ s.Points k).X + dx - ((at_ s.Points (k - 1)).X + dx) = (at_ s.Points k).X - (at_ s.Points (k - 1)).X := by omega
      have e2 : (at_ s.Points k).Y + dy - ((at_ s.Points (k - 1)).Y + dy) = (at_ s.Points k).Y - (at_ s.Points (k - 1)).Y := by omega
      simp only [slaA, slaD, mvP, e1, e2]
theorem slaI_mv {dx dy : Int} {x : Ink} : ∀ k, k ≤ x.Strokes.length → slaI (mvI dx dy x).Strokes k = slaI x.Strokes k
  | 0, _ => rfl
  | k + 1, h => by
    rw [slaI, slaI, slaI_mv k (by omega), mvI_at (by omega), mvS_len, slaS_mv _ (Nat.le_refl _)]
theorem slant_mv {dx dy : Int} {x : Ink} (h1 : okInk' x = true) (h2 : okInk' (mvI dx dy x) = true) : slantR (mvI dx dy x) = slantR x := by
  unfold slantR
  rw [if_pos h1, if_pos h2, mvI_len, slaI_mv _ (Nat.le_refl _)]
def sameS (a b : Stroke) : Bool := sameL a.Points b.Points
def sameI (a b : Ink) : Bool := decide (a.Strokes.length = b.Strokes.length) && allN a.Strokes.length (fun j => sameS (at_ a.Strokes j) (at_ b.Strokes j))
theorem sameI_refl (a : Ink) : sameI a a = true := by simp [sameI, sameS, sameL_refl, allN_iff]
theorem sameI_of {a b : Ink} (h : a = b) : sameI a b = true := by rw [h]; exact sameI_refl b
theorem pt_ext {a b : Point} (h1 : a.X = b.X) (h2 : a.Y = b.Y) (h3 : a.T = b.T) : a = b := by
  cases a; cases b; simp_all

-- spec.l02SameStroke
theorem l02SameStroke_ok (a : Stroke) (b : Stroke) : Con Tryz.prog 153 [.ptr false [slPoint false a.Points], .ptr false [slPoint false b.Points]] true (Bv (sameS a b)) := by
  refine fn_ok (fn := Tryz.f153) (nt := 41) Tryz.func153 rfl rfl rfl rfl (by simp [taggedL, tagged, tagPoint]) fun B hB => ?_
  refine aw_lens (x := .ptr false [slPoint false a.Points]) 0 rfl (fun len_a => ?_)
  simp [LenOK, LenL, cPoint, fPoint, slPoint] at len_a
  refine aw_lens (x := .ptr false [slPoint false b.Points]) 1 rfl (fun len_b => ?_)
  simp [LenOK, LenL, cPoint, fPoint, slPoint] at len_b
  refine aR [] [0, 1] [] [.ptr false [slPoint false a.Points], .ptr false [slPoint false b.Points]] [] [] hB trivial ?_
  refine aw_seq ?_
  refine aw_seq ?_
  by_cases h1 : (a.Points.length : Int) = (b.Points.length : Int)
  ·have hlen : a.Points.length = b.Points.length := by omega
   refine aw_r [(10, .dec false)] [0, 1, 16] [] [.ptr false [slPoint false a.Points], .ptr false [slPoint false b.Points], Bv false] [] [¬ ((a.Points.length : Int) ≠ (b.Points.length : Int))] hB ⟨(fun hq => hq h1), trivial⟩ ?_
   refine ae_then ?_
   refine aw_false rfl ?_
   refine aw_skip ?_
   refine ae_then ?_
   refine aw_seq ?_
   refine aR [] [0, 1, 5] [] [.ptr false [slPoint false a.Points], .ptr false [slPoint false b.Points], I 0] [] [] hB trivial ?_
   refine aw_block ?_
   refine aw_loop (fun gn gσ => ∃ (i : Int), gn = ((a.Points.length : Int) - i).toNat ∧ (0 ≤ i ∧ i ≤ (a.Points.length : Int)) ∧ (∀ j : Nat, (j : Int) < i → decide (at_ a.Points j = at_ b.Points j) = true) ∧ gσ = mkS [(0, .ptr false [slPoint false a.Points]), (1, .ptr false [slPoint false b.Points]), (5, I i)] []) (((a.Points.length : Int) - 0).toNat) ⟨0, rfl, (by omega), (by intro j hj; omega), rfl⟩ (fun gn gσ hI => ?_)
   obtain ⟨i, rfl, hi0, hall0, rfl⟩ := hI
   refine aw_seq ?_
   refine aw_seq ?_
   by_cases h2 : i < (a.Points.length : Int)
   ·have hi : i.toNat < a.Points.length := by omega
    refine aw_r [(6, .dec true)] [0, 1, 5, 23] [] [.ptr false [slPoint false a.Points], .ptr false [slPoint false b.Points], I i, Bv true] [] [i < (a.Points.length : Int)] hB ⟨h2, trivial⟩ ?_
    refine ae_then ?_
    refine aw_true rfl ?_
    refine aw_skip ?_
    refine ae_then ?_
    refine aw_seq ?_
    refine aw_block ?_
    refine aw_seq ?_
    by_cases h3 : ((at_ a.Points i.toNat).X) = ((at_ b.Points i.toNat).X) ∧ ((at_ a.Points i.toNat).Y) = ((at_ b.Points i.toNat).Y) ∧ ((at_ a.Points i.toNat).T) = ((at_ b.Points i.toNat).T) ∧ True
    ·have hok : decide (at_ a.Points i.toNat = at_ b.Points i.toNat) = true := decide_eq_true (pt_ext h3.1 h3.2.1 h3.2.2.1)
     refine aw_r [(14, .dec false)] [0, 1, 5, 40] [] [.ptr false [slPoint false a.Points], .ptr false [slPoint false b.Points], I i, Bv false] [] [(0 : Int) ≤ i ∧ i < (a.Points.length : Int), (0 : Int) ≤ i ∧ i < (b.Points.length : Int), ¬ (¬ (((at_ a.Points i.toNat).X) = ((at_ b.Points i.toNat).X) ∧ ((at_ a.Points i.toNat).Y) = ((at_ b.Points i.toNat).Y) ∧ ((at_ a.Points i.toNat).T) = ((at_ b.Points i.toNat).T) ∧ True))] hB ⟨⟨(by omega), (by omega)⟩, ⟨(by omega), (by omega)⟩, (fun hq => hq h3), trivial⟩ ?_
     refine ae_then ?_
     refine aw_false rfl ?_
     refine aw_skip ?_
     refine ae_block 1 ?_
     refine ae_then ?_
     refine aw_r [] [0, 1, 5] [] [.ptr false [slPoint false a.Points], .ptr false [slPoint false b.Points], I (i + 1)] [] [inR .i64 (i + 1)] hB ⟨(inR_i64 (by omega) (by omega)), trivial⟩ ?_
     exact ae_again _ (by omega) ⟨(i + 1), rfl, (by omega), (by intro j hj; by_cases ej : j = i.toNat; (subst ej; first | assumption | exact hok); exact hall0 j (by omega)), rfl⟩
    have hall : allN a.Points.length (fun j => decide (at_ a.Points j = at_ b.Points j)) = false := allN_not hi (decide_eq_false (fun e => h3 ⟨by rw [e], by rw [e], by rw [e], trivial⟩))
    refine aw_r [(14, .dec true)] [0, 1, 5, 40] [] [.ptr false [slPoint false a.Points], .ptr false [slPoint false b.Points], I i, Bv true] [] [(0 : Int) ≤ i ∧ i < (a.Points.length : Int), (0 : Int) ≤ i ∧ i < (b.Points.length : Int), ¬ (((at_ a.Points i.toNat).X) = ((at_ b.Points i.toNat).X) ∧ ((at_ a.Points i.toNat).Y) = ((at_ b.Points i.toNat).Y) ∧ ((at_ a.Points i.toNat).T) = ((at_ b.Points i.toNat).T) ∧ True)] hB ⟨⟨(by omega), (by omega)⟩, ⟨(by omega), (by omega)⟩, h3, trivial⟩ ?_
    refine ae_then ?_
    refine aw_true rfl ?_
    refine aR [] [4] [] [Bv false] [] [] hB trivial ?_
    refine aw_ret ?_
    refine ae_ret_block (ae_ret_then (ae_ret_then (ae_ret_block (ae_ret_then ?_))))
    refine ae_ret hB (Bv false) (by kernel_rfl) (.inl (by first | (simp [sameS, sameL, hlen]; done) | (unfold sameS sameL; rw [hall]; simp [hlen]))) rfl (fun _ => trivial)
   have hall : allN a.Points.length (fun j => decide (at_ a.Points j = at_ b.Points j)) = true := allN_at (fun j hj => hall0 j (by omega))
   refine aw_r [(6, .dec false)] [0, 1, 5, 23] [] [.ptr false [slPoint false a.Points], .ptr false [slPoint false b.Points], I i, Bv false] [] [¬ (i < (a.Points.length : Int))] hB ⟨h2, trivial⟩ ?_
   refine ae_then ?_
   refine aw_false rfl ?_
   refine aw_exit ?_
   refine ae_exit_then ?_
   refine ae_exit_then ?_
   refine ae_exit_same ?_
   refine ae_then ?_
   refine aR [] [4] [] [Bv true] [] [] hB trivial ?_
   refine aw_ret ?_
   refine ae_ret hB (Bv true) (by kernel_rfl) (.inl (by first | (simp [sameS, sameL, hlen]; done) | (unfold sameS sameL; rw [hall]; simp [hlen]))) rfl (fun _ => trivial)
  have hlen : ¬ a.Points.length = b.Points.length := by omega
  refine aw_r [(10, .dec true)] [0, 1, 16] [] [.ptr false [slPoint false a.Points], .ptr false [slPoint false b.Points], Bv true] [] [(a.Points.length : Int) ≠ (b.Points.length : Int)] hB ⟨h1, trivial⟩ ?_
  refine ae_then ?_
  refine aw_true rfl ?_
  refine aR [] [4] [] [Bv false] [] [] hB trivial ?_
  refine aw_ret ?_
  refine ae_ret_then ?_
  refine ae_ret hB (Bv false) (by kernel_rfl) (.inl (by first | (simp [sameS, sameL, hlen]; done) | (unfold sameS sameL; rw [hall]; simp [hlen]))) rfl (fun _ => trivial)


-- spec.l02Same
theorem l02Same_ok (a : Ink) (b : Ink) : Con Tryz.prog 76 [.ptr false [slStroke false a.Strokes], .ptr false [slStroke false b.Strokes]] true (Bv (sameI a b)) := by
  refine fn_ok (fn := Tryz.f76) (nt := 40) Tryz.func76 rfl rfl rfl rfl (by simp [taggedL, tagged, tagStroke]) fun B hB => ?_
  refine aw_lens (x := .ptr false [slStroke false a.Strokes]) 0 rfl (fun len_a => ?_)
  simp [LenOK, LenL, cPoint, cStroke, fPoint, fStroke, slPoint, slStroke] at len_a
  refine aw_lens (x := .ptr false [slStroke false b.Strokes]) 1 rfl (fun len_b => ?_)
  simp [LenOK, LenL, cPoint, cStroke, fPoint, fStroke, slPoint, slStroke] at len_b
  refine aR [] [0, 1] [] [.ptr false [slStroke false a.Strokes], .ptr false [slStroke false b.Strokes]] [] [] hB trivial ?_
  refine aw_seq ?_
  refine aw_seq ?_
  by_cases h1 : (a.Strokes.length : Int) = (b.Strokes.length : Int)
  ·have hlen : a.Strokes.length = b.Strokes.length := by omega
   refine aw_r [(10, .dec false)] [0, 1, 16] [] [.ptr false [slStroke false a.Strokes], .ptr false [slStroke false b.Strokes], Bv false] [] [¬ ((a.Strokes.length : Int) ≠ (b.Strokes.length : Int))] hB ⟨(fun hq => hq h1), trivial⟩ ?_
   refine ae_then ?_
   refine aw_false rfl ?_
   refine aw_skip ?_
   refine ae_then ?_
   refine aw_seq ?_
   refine aR [] [0, 1, 5] [] [.ptr false [slStroke false a.Strokes], .ptr false [slStroke false b.Strokes], I 0] [] [] hB trivial ?_
   refine aw_block ?_
   refine aw_loop (fun gn gσ => ∃ (i : Int), gn = ((a.Strokes.length : Int) - i).toNat ∧ (0 ≤ i ∧ i ≤ (a.Strokes.length : Int)) ∧ (∀ j : Nat, (j : Int) < i → sameS (at_ a.Strokes j) (at_ b.Strokes j) = true) ∧ gσ = mkS [(0, .ptr false [slStroke false a.Strokes]), (1, .ptr false [slStroke false b.Strokes]), (5, I i)] []) (((a.Strokes.length : Int) - 0).toNat) ⟨0, rfl, (by omega), (by intro j hj; omega), rfl⟩ (fun gn gσ hI => ?_)
   obtain ⟨i, rfl, hi0, hall0, rfl⟩ := hI
   refine aw_seq ?_
   refine aw_seq ?_
   by_cases h2 : i < (a.Strokes.length : Int)
   ·have hi : i.toNat < a.Strokes.length := by omega
    have hi2 : i.toNat < b.Strokes.length := by omega
    refine aw_r [(6, .dec true)] [0, 1, 5, 23] [] [.ptr false [slStroke false a.Strokes], .ptr false [slStroke false b.Strokes], I i, Bv true] [] [i < (a.Strokes.length : Int)] hB ⟨h2, trivial⟩ ?_
    refine ae_then ?_
    refine aw_true rfl ?_
    refine aw_skip ?_
    refine ae_then ?_
    refine aw_seq ?_
    refine aw_block ?_
    refine aw_seq ?_
    rcases Bool.eq_false_or_eq_true (sameS (at_ a.Strokes i.toNat) (at_ b.Strokes i.toNat)) with h3 | h3
    ·have hok : sameS (at_ a.Strokes i.toNat) (at_ b.Strokes i.toNat) = true := h3
     refine aw_r [(12, .call [(true, .any), (true, .any)] true (Bv true))] [0, 1, 5, 39] [] [.ptr false [slStroke false a.Strokes], .ptr false [slStroke false b.Strokes], I i, Bv false] [] [(0 : Int) ≤ i ∧ i < (a.Strokes.length : Int), (0 : Int) ≤ i ∧ i < (b.Strokes.length : Int), Con Tryz.prog 153 [.ptr false [slPoint false ((at_ a.Strokes i.toNat).Points)], .ptr false [slPoint false ((at_ b.Strokes i.toNat).Points)]] true (Bv true) ∧ True] hB ⟨⟨(by omega), (by omega)⟩, ⟨(by omega), (by omega)⟩, ⟨(con_bool h3 (l02SameStroke_ok (at_ a.Strokes i.toNat) (at_ b.Strokes i.toNat))), trivial⟩, trivial⟩ ?_
     refine ae_then ?_
     refine aw_false rfl ?_
     refine aw_skip ?_
     refine ae_block 1 ?_
     refine ae_then ?_
     refine aw_r [] [0, 1, 5] [] [.ptr false [slStroke false a.Strokes], .ptr false [slStroke false b.Strokes], I (i + 1)] [] [inR .i64 (i + 1)] hB ⟨(inR_i64 (by omega) (by omega)), trivial⟩ ?_
     exact ae_again _ (by omega) ⟨(i + 1), rfl, (by omega), (by intro j hj; by_cases ej : j = i.toNat; (subst ej; first | assumption | exact hok); exact hall0 j (by omega)), rfl⟩
    have hall : allN a.Strokes.length (fun j => sameS (at_ a.Strokes j) (at_ b.Strokes j)) = false := allN_not hi (by simpa using h3)
    refine aw_r [(12, .call [(true, .any), (true, .any)] true (Bv false))] [0, 1, 5, 39] [] [.ptr false [slStroke false a.Strokes], .ptr false [slStroke false b.Strokes], I i, Bv true] [] [(0 : Int) ≤ i ∧ i < (a.Strokes.length : Int), (0 : Int) ≤ i ∧ i < (b.Strokes.length : Int), Con Tryz.prog 153 [.ptr false [slPoint false ((at_ a.Strokes i.toNat).Points)], .ptr false [slPoint false ((at_ b.Strokes i.toNat).Points)]] true (Bv false) ∧ True] hB ⟨⟨(by omega), (by omega)⟩, ⟨(by omega), (by omega)⟩, ⟨(con_bool h3 (l02SameStroke_ok (at_ a.Strokes i.toNat) (at_ b.Strokes i.toNat))), trivial⟩, trivial⟩ ?_
    refine ae_then ?_
    refine aw_true rfl ?_
    refine aR [] [4] [] [Bv false] [] [] hB trivial ?_
    refine aw_ret ?_
    refine ae_ret_block (ae_ret_then (ae_ret_then (ae_ret_block (ae_ret_then ?_))))
    refine ae_ret hB (Bv false) (by kernel_rfl) (.inl (by first | (simp [sameI, hlen]; done) | (unfold sameI; rw [hall]; simp [hlen]))) rfl (fun _ => trivial)
   have hall : allN a.Strokes.length (fun j => sameS (at_ a.Strokes j) (at_ b.Strokes j)) = true := allN_at (fun j hj => hall0 j (by omega))
   refine aw_r [(6, .dec false)] [0, 1, 5, 23] [] [.ptr false [slStroke false a.Strokes], .ptr false [slStroke false b.Strokes], I i, Bv false] [] [¬ (i < (a.Strokes.length : Int))] hB ⟨h2, trivial⟩ ?_
   refine ae_then ?_
   refine aw_false rfl ?_
   refine aw_exit ?_
   refine ae_exit_then ?_
   refine ae_exit_then ?_
   refine ae_exit_same ?_
   refine ae_then ?_
   refine aR [] [4] [] [Bv true] [] [] hB trivial ?_
   refine aw_ret ?_
   refine ae_ret hB (Bv true) (by kernel_rfl) (.inl (by first | (simp [sameI, hlen]; done) | (unfold sameI; rw [hall]; simp [hlen]))) rfl (fun _ => trivial)
  have hlen : ¬ a.Strokes.length = b.Strokes.length := by omega
  refine aw_r [(10, .dec true)] [0, 1, 16] [] [.ptr false [slStroke false a.Strokes], .ptr false [slStroke false b.Strokes], Bv true] [] [(a.Strokes.length : Int) ≠ (b.Strokes.length : Int)] hB ⟨h1, trivial⟩ ?_
  refine ae_then ?_
  refine aw_true rfl ?_
  refine aR [] [4] [] [Bv false] [] [] hB trivial ?_
  refine aw_ret ?_
  refine ae_ret_then ?_
  refine ae_ret hB (Bv false) (by kernel_rfl) (.inl (by first | (simp [sameI, hlen]; done) | (unfold sameI; rw [hall]; simp [hlen]))) rfl (fun _ => trivial)


-- spec.SameInk
theorem specSameInk_ok (a : Ink) (b : Ink) : Con Tryz.prog 12 [.agg [slStroke false a.Strokes], .agg [slStroke false b.Strokes]] true (Bv (sameI a b)) := by
  refine fn_ok (fn := Tryz.f12) (nt := 6) Tryz.func12 rfl rfl rfl rfl (by simp [taggedL, tagged, tagStroke]) fun B hB => ?_
  refine aw_lens (x := .agg [slStroke false a.Strokes]) 0 rfl (fun len_a => ?_)
  simp [LenOK, LenL, cPoint, cStroke, fPoint, fStroke, slPoint, slStroke] at len_a
  refine aw_lens (x := .agg [slStroke false b.Strokes]) 1 rfl (fun len_b => ?_)
  simp [LenOK, LenL, cPoint, cStroke, fPoint, fStroke, slPoint, slStroke] at len_b
  refine aR [(0, .new 2), (1, .new 3)] [2, 3] [2, 3] [.ref 2 0, .ref 3 0] [some (.box [slStroke false a.Strokes]), some (.box [slStroke false b.Strokes])] [] hB trivial ?_
  refine aR [(0, .call [(false, .ptr false [slStroke false a.Strokes]), (false, .ptr false [slStroke false b.Strokes])] true (Bv (sameI a b)))] [4] [] [Bv (sameI a b)] [] [Con Tryz.prog 76 [.ptr false [slStroke false a.Strokes], .ptr false [slStroke false b.Strokes]] true (Bv (sameI a b)) ∧ ((false = true → true = true) ∧ AV.idsL [slStroke false a.Strokes] = [] ∧ ((false = true → false = true) ∧ 1 = 1 ∧ a.Strokes.length = a.Strokes.length ∧ ∀ i_, i_ < a.Strokes.length → (fStroke false a.Strokes) i_ = (fStroke false a.Strokes) i_ ∨ (AV.idsL ((fStroke false a.Strokes) i_) = [] ∧ leL (fun _ => none) false ((fStroke false a.Strokes) i_) ((fStroke false a.Strokes) i_))) ∧ ([] : List AV) = []) ∧ ((false = true → true = true) ∧ AV.idsL [slStroke false b.Strokes] = [] ∧ ((false = true → false = true) ∧ 1 = 1 ∧ b.Strokes.length = b.Strokes.length ∧ ∀ i_, i_ < b.Strokes.length → (fStroke false b.Strokes) i_ = (fStroke false b.Strokes) i_ ∨ (AV.idsL ((fStroke false b.Strokes) i_) = [] ∧ leL (fun _ => none) false ((fStroke false b.Strokes) i_) ((fStroke false b.Strokes) i_))) ∧ ([] : List AV) = []) ∧ True] hB ⟨⟨(l02Same_ok a b), ⟨(fun h => by cases h), rfl, ⟨⟨(fun h => by cases h), rfl, rfl, fun i _ => .inl rfl⟩, rfl⟩⟩, ⟨(fun h => by cases h), rfl, ⟨⟨(fun h => by cases h), rfl, rfl, fun i _ => .inl rfl⟩, rfl⟩⟩, trivial⟩, trivial⟩ ?_
  refine aw_ret ?_
  refine ae_ret hB (Bv (sameI a b)) (by kernel_rfl) (.inl rfl) rfl (fun _ => trivial)


def a2AtI (code : List Int) (i n : Int) : Int := if (code.length : Int) ≤ i ∨ n < 1 then 0 else at_ code i.toNat % n
theorem a2At_bd (code : List Int) (i : Int) {n : Int} (hn : 1 ≤ n) : 0 ≤ a2AtI code i n ∧ a2AtI code i n < n := by
  unfold a2AtI
  split
  · omega
  · exact ⟨Int.emod_nonneg _ (by omega), Int.emod_lt_of_pos _ (by omega)⟩

-- laws.a2At
theorem a2At_ok (code : List Int) (i : Int) (n : Int) (hc : (∀ j, j < code.length → 0 ≤ at_ code j ∧ at_ code j ≤ 255)) (ha : 0 ≤ i) : Con Tryz.prog 14 [slU8 false code, I i, I n] true (I (a2AtI code i n)) := by
  refine fn_ok (fn := Tryz.f14) (nt := 22) Tryz.func14 rfl rfl rfl rfl (by simp [taggedL, tagged, tagU8]) fun B hB => ?_
  refine aw_lens (x := slU8 false code) 0 rfl (fun len_code => ?_)
  simp [LenOK, LenL, cU8, fU8, slU8] at len_code
  refine aR [] [0, 1, 2] [] [slU8 false code, I i, I n] [] [] hB trivial ?_
  refine aw_seq ?_
  refine aw_seq ?_
  by_cases h1 : (code.length : Int) ≤ i
  ·refine aw_r [(3, .dec true)] [0, 1, 2, 14] [] [slU8 false code, I i, I n, Bv true] [] [(code.length : Int) ≤ i] hB ⟨h1, trivial⟩ ?_
   refine ae_then ?_
   refine aw_true rfl ?_
   refine aR [] [6] [] [I 0] [] [] hB trivial ?_
   refine aw_ret ?_
   refine ae_ret_then ?_
   refine ae_ret hB (I 0) (by kernel_rfl) (.inl (by simp [a2AtI, *])) rfl (fun _ => trivial)
  have hq := hc i.toNat (by omega)
  by_cases h2 : n < 1
  ·refine aw_r [(3, .dec false), (6, .dec true)] [0, 1, 2, 14] [] [slU8 false code, I i, I n, Bv true] [] [¬ ((code.length : Int) ≤ i), n < 1] hB ⟨h1, h2, trivial⟩ ?_
   refine ae_then ?_
   refine aw_true rfl ?_
   refine aR [] [6] [] [I 0] [] [] hB trivial ?_
   refine aw_ret ?_
   refine ae_ret_then ?_
   refine ae_ret hB (I 0) (by kernel_rfl) (.inl (by simp [a2AtI, *])) rfl (fun _ => trivial)
  refine aw_r [(3, .dec false), (6, .dec false)] [0, 1, 2, 14] [] [slU8 false code, I i, I n, Bv false] [] [¬ ((code.length : Int) ≤ i), ¬ (n < 1)] hB ⟨h1, h2, trivial⟩ ?_
  refine ae_then ?_
  refine aw_false rfl ?_
  refine aw_skip ?_
  refine ae_then ?_
  refine aR [(6, .nn)] [6] [] [I ((at_ code i.toNat) % n)] [] [(0 : Int) ≤ i ∧ i < (code.length : Int), inR .i64 (at_ code i.toNat), (0 : Int) ≤ (at_ code i.toNat) ∧ (0 : Int) < n] hB ⟨⟨(by omega), (by omega)⟩, (inR_i64 (by omega) (by omega)), ⟨(by omega), (by omega)⟩, trivial⟩ ?_
  refine aw_ret ?_
  refine ae_ret hB (I ((at_ code i.toNat) % n)) (by kernel_rfl) (.inl (by simp [a2AtI, *])) rfl (fun _ => trivial)


-- impl.copyInk$1
theorem copy1_ok (p : Point) : Con Tryz.prog 155 [agPoint p] true (agPoint p) := by
  refine fn_ok (fn := Tryz.f155) (nt := 4) Tryz.func155 rfl rfl rfl rfl (by simp [taggedL, tagged]) fun B hB => ?_
  refine aR [(0, .new 1), (1, .new 2)] [1, 2] [1, 2] [.ref 1 0, .ref 2 0] [some (bxPoint p), some (.box [I 0, I 0, I 0])] [] hB trivial ?_
  refine aR [] [2] [2] [.ref 2 0] [some (bxPoint p)] [] hB trivial ?_
  refine aw_ret ?_
  refine ae_ret hB (agPoint p) (by kernel_rfl) (.inl rfl) rfl (fun _ => (by simp [tagged, taggedL]))


theorem mp_id (x : Ink) : mpI (fun p => p) x = x := by
  have e : (mpS fun p => p) = id := funext fun s => by cases s; simp [mpS]
  rw [mpI, e]; simp

-- impl.copyInk
-- impl.mapInk at a closure
theorem mapInk_copy (ik : Ink) (hx : ∀ s ∈ ik.Strokes, okStroke' s = true) (hl : ik.Strokes.length ≤ 16)  : ∃ (ss : List Stroke), (ss = (mpI (fun p => p) ik).Strokes) ∧ CallOK Tryz.prog 83 [.agg [slStroke false ik.Strokes], .fn 155 []] (lookO []) false (.agg [.arr 8061]) (lookO [(8061, tOStroke 8062 ss), (8062, tFStroke ss)]) := by
  have hh : ∃ r : (List Stroke), ((r = (mpI (fun p => p) ik).Strokes) ∧ (True)) ∧ CallOK Tryz.prog 83 [.agg [slStroke false ik.Strokes], .fn 155 []] (lookO []) false (.agg [.arr 8061]) (lookO [(8061, tOStroke 8062 r), (8062, tFStroke r)]) := by
    refine fn_okX (Φ := fun r : (List Stroke) => (r = (mpI (fun p => p) ik).Strokes) ∧ (True)) [] (fun r => [(8061, tOStroke 8062 r), (8062, tFStroke r)]) (fn := Tryz.f83) (nt := 42) Tryz.func83 rfl rfl (args := [.agg [slStroke false ik.Strokes], .fn 155 []]) rfl (allcons (.inl ⟨rfl, by simp [tagged, taggedL, tagStroke]⟩) (allcons (.inl ⟨rfl, trivial⟩) allnil)) (res := fun r => .agg [.arr 8061]) ?_
    refine xR [(0, .new 2), (1, .new 4)] [1, 2, 4] [2, 4] [.fn 155 [], .ref 2 0, .ref 4 0] [some (.box [slStroke false ik.Strokes]), some (.box [nilA])] [] trivial ?_
    refine xR [(0, .new 5)] [1, 2, 4, 5] [2, 4, 5] [.fn 155 [], .ref 2 0, .ref 4 0, .ref 5 0] [some (.box [slStroke false ik.Strokes]), some (.box [nilA]), some (.box [nilA])] [] trivial ?_
    refine x_seq ?_
    refine xR [] [1, 4, 5, 12, 13, 14] [4, 5] [.fn 155 [], .ref 4 0, .ref 5 0, slStroke false ik.Strokes, I (ik.Strokes.length : Int), I 0] [some (.box [nilA]), some (.box [nilA])] [] trivial ?_
    refine x_block ?_
    refine x_nilC 5 0 750 1 (fun _ => []) rfl (by kernel_rfl) ?_
    refine x_fam 8062 3 (fun _ => 0) (fun _ _ => []) (by kernel_rfl) ?_
    refine x_weak [] (T := [(1, .fn 155 []), (4, .ref 4 0), (5, .ref 5 0), (12, slStroke false ik.Strokes), (13, I (ik.Strokes.length : Int)), (14, I 0)]) (O := [(4, .box [nilA]), (5, .box [.arr 750]), (750, tOStroke 8062 ([] : List Stroke)), (8062, tFStroke ([] : List Stroke))]) rfl (⟨.inl rfl, .inl rfl, .inl rfl, .inl rfl, .inl rfl, .inl rfl, trivial⟩) (⟨.inl rfl, .inl rfl, .inr ⟨rfl, rfl, fun i hi => absurd hi (Nat.not_lt_zero _)⟩, .inr ⟨rfl, rfl, fun p hp => absurd hp (Nat.not_lt_zero _)⟩, trivial⟩) ?_
    refine x_loop (X := Int × (List Stroke)) (fun x => mkS [(1, .fn 155 []), (4, .ref 4 0), (5, .ref 5 0), (12, slStroke false ik.Strokes), (13, I (ik.Strokes.length : Int)), (14, I x.1)] [(4, .box [nilA]), (5, .box [.arr 750]), (750, tOStroke 8062 x.2), (8062, tFStroke x.2)]) (fun x => (0 ≤ x.1 ∧ x.1 ≤ (ik.Strokes.length : Int)) ∧ ((x.2.length : Int) = x.1) ∧ (x.2 = (ik.Strokes.take x.1.toNat).map (mpS (fun p => p))) ∧ True) (fun x => ((ik.Strokes.length : Int) - x.1).toNat) (0, ([] : List Stroke)) rfl (show (0 ≤ (0 : Int) ∧ (0 : Int) ≤ (ik.Strokes.length : Int)) ∧ ((([] : List Stroke).length : Int) = (0 : Int)) ∧ (([] : List Stroke) = (ik.Strokes.take (0 : Int).toNat).map (mpS (fun p => p))) ∧ True from ⟨(by omega), (by rfl), (by rfl), trivial⟩) (fun x hI => ?_)
    obtain ⟨t14, ss⟩ := x
    obtain ⟨hi0, hl0, hs0, _⟩ : (0 ≤ t14 ∧ t14 ≤ (ik.Strokes.length : Int)) ∧ ((ss.length : Int) = t14) ∧ (ss = (ik.Strokes.take t14.toNat).map (mpS (fun p => p))) ∧ True := hI
    show XW _ _ _ _ (mkS [(1, .fn 155 []), (4, .ref 4 0), (5, .ref 5 0), (12, slStroke false ik.Strokes), (13, I (ik.Strokes.length : Int)), (14, I t14)] [(4, .box [nilA]), (5, .box [.arr 750]), (750, tOStroke 8062 ss), (8062, tFStroke ss)]) _ _
    refine x_seq ?_
    by_cases h1 : t14 < (ik.Strokes.length : Int)
    ·have hi : t14.toNat < ik.Strokes.length := by omega
     have hos := hx _ (at_mem hi)
     have hol := okS_len hos
     refine x_r [(0, .dec true)] [1, 4, 5, 12, 13, 14, 15] [4, 5, 750, 8062] [.fn 155 [], .ref 4 0, .ref 5 0, slStroke false ik.Strokes, I (ik.Strokes.length : Int), I t14, Bv true] [some (.box [nilA]), some (.box [.arr 750]), some (tOStroke 8062 ss), some (tFStroke ss)] [t14 < (ik.Strokes.length : Int)] ⟨h1, trivial⟩ ?_
     refine xe_then ?_
     refine x_seq ?_
     refine x_true rfl ?_
     refine x_skip ?_
     refine xe_then ?_
     refine x_seq ?_
     refine x_block ?_
     refine xR [(2, .new 7)] [1, 4, 5, 7, 12, 13, 14] [4, 5, 7, 750, 8062] [.fn 155 [], .ref 4 0, .ref 5 0, .ref 7 0, slStroke false ik.Strokes, I (ik.Strokes.length : Int), I t14] [some (.box [nilA]), some (.box [.arr 750]), some (.box [slPoint false ((at_ ik.Strokes t14.toNat).Points)]), some (tOStroke 8062 ss), some (tFStroke ss)] [(0 : Int) ≤ t14 ∧ t14 < (ik.Strokes.length : Int)] ⟨⟨(by omega), (by omega)⟩, trivial⟩ ?_
     refine xR [(0, .new 8)] [1, 4, 5, 7, 8, 12, 13, 14] [4, 5, 7, 8, 750, 8062] [.fn 155 [], .ref 4 0, .ref 5 0, .ref 7 0, .ref 8 0, slStroke false ik.Strokes, I (ik.Strokes.length : Int), I t14] [some (.box [nilA]), some (.box [.arr 750]), some (.box [slPoint false ((at_ ik.Strokes t14.toNat).Points)]), some (.box [nilA]), some (tOStroke 8062 ss), some (tFStroke ss)] [] trivial ?_
     refine x_seq ?_
     refine xR [] [1, 4, 5, 8, 12, 13, 14, 19, 20, 21] [4, 5, 8, 750, 8062] [.fn 155 [], .ref 4 0, .ref 5 0, .ref 8 0, slStroke false ik.Strokes, I (ik.Strokes.length : Int), I t14, slPoint false ((at_ ik.Strokes t14.toNat).Points), I ((((at_ ik.Strokes t14.toNat).Points).length) : Int), I 0] [some (.box [nilA]), some (.box [.arr 750]), some (.box [nilA]), some (tOStroke 8062 ss), some (tFStroke ss)] [] trivial ?_
     refine x_block ?_
     refine x_nilC 8 0 780 3 (fun _ => []) rfl (by kernel_rfl) ?_
     refine x_weak [] (T := [(1, .fn 155 []), (4, .ref 4 0), (5, .ref 5 0), (8, .ref 8 0), (12, slStroke false ik.Strokes), (13, I (ik.Strokes.length : Int)), (14, I t14), (19, slPoint false ((at_ ik.Strokes t14.toNat).Points)), (20, I ((((at_ ik.Strokes t14.toNat).Points).length) : Int)), (21, I 0)]) (O := [(4, .box [nilA]), (5, .box [.arr 750]), (8, .box [.arr 780]), (750, tOStroke 8062 ss), (780, tAPoint ([] : List Point)), (8062, tFStroke ss)]) rfl (⟨.inl rfl, .inl rfl, .inl rfl, .inl rfl, .inl rfl, .inl rfl, .inl rfl, .inl rfl, .inl rfl, .inl rfl, trivial⟩) (⟨.inl rfl, .inl rfl, .inl rfl, .inl rfl, .inr ⟨rfl, (by first | rfl | (simp; done) | (simp; omega) | omega), fun i_ hi_ => absurd hi_ (Nat.not_lt_zero _)⟩, .inl rfl, trivial⟩) ?_
     refine x_loop (X := Int × (List Point)) (fun x => mkS [(1, .fn 155 []), (4, .ref 4 0), (5, .ref 5 0), (8, .ref 8 0), (12, slStroke false ik.Strokes), (13, I (ik.Strokes.length : Int)), (14, I t14), (19, slPoint false ((at_ ik.Strokes t14.toNat).Points)), (20, I ((((at_ ik.Strokes t14.toNat).Points).length) : Int)), (21, I x.1)] [(4, .box [nilA]), (5, .box [.arr 750]), (8, .box [.arr 780]), (750, tOStroke 8062 ss), (780, tAPoint x.2), (8062, tFStroke ss)]) (fun x => (0 ≤ x.1 ∧ x.1 ≤ ((at_ ik.Strokes t14.toNat).Points.length : Int)) ∧ ((x.2.length : Int) = x.1) ∧ (x.2 = ((at_ ik.Strokes t14.toNat).Points.take x.1.toNat).map (fun p => p)) ∧ True) (fun x => (((at_ ik.Strokes t14.toNat).Points.length : Int) - x.1).toNat) (0, ([] : List Point)) rfl (show (0 ≤ (0 : Int) ∧ (0 : Int) ≤ ((at_ ik.Strokes t14.toNat).Points.length : Int)) ∧ ((([] : List Point).length : Int) = (0 : Int)) ∧ (([] : List Point) = ((at_ ik.Strokes t14.toNat).Points.take (0 : Int).toNat).map (fun p => p)) ∧ True from ⟨(by omega), (by rfl), (by rfl), trivial⟩) (fun x hI => ?_)
     obtain ⟨t21, pts⟩ := x
     obtain ⟨hk0, hm0, hp1, _⟩ : (0 ≤ t21 ∧ t21 ≤ ((at_ ik.Strokes t14.toNat).Points.length : Int)) ∧ ((pts.length : Int) = t21) ∧ (pts = ((at_ ik.Strokes t14.toNat).Points.take t21.toNat).map (fun p => p)) ∧ True := hI
     show XW _ _ _ _ (mkS [(1, .fn 155 []), (4, .ref 4 0), (5, .ref 5 0), (8, .ref 8 0), (12, slStroke false ik.Strokes), (13, I (ik.Strokes.length : Int)), (14, I t14), (19, slPoint false ((at_ ik.Strokes t14.toNat).Points)), (20, I ((((at_ ik.Strokes t14.toNat).Points).length) : Int)), (21, I t21)] [(4, .box [nilA]), (5, .box [.arr 750]), (8, .box [.arr 780]), (750, tOStroke 8062 ss), (780, tAPoint pts), (8062, tFStroke ss)]) _ _
     refine x_seq ?_
     by_cases h2 : t21 < ((((at_ ik.Strokes t14.toNat).Points).length) : Int)
     ·have hk : t21.toNat < (at_ ik.Strokes t14.toNat).Points.length := by omega
      have hpo := okS_at hos hk
      refine x_r [(0, .dec true)] [1, 4, 5, 8, 12, 13, 14, 19, 20, 21, 22] [4, 5, 8, 750, 780, 8062] [.fn 155 [], .ref 4 0, .ref 5 0, .ref 8 0, slStroke false ik.Strokes, I (ik.Strokes.length : Int), I t14, slPoint false ((at_ ik.Strokes t14.toNat).Points), I ((((at_ ik.Strokes t14.toNat).Points).length) : Int), I t21, Bv true] [some (.box [nilA]), some (.box [.arr 750]), some (.box [.arr 780]), some (tOStroke 8062 ss), some (tAPoint pts), some (tFStroke ss)] [t21 < ((((at_ ik.Strokes t14.toNat).Points).length) : Int)] ⟨h2, trivial⟩ ?_
      refine xe_then ?_
      refine x_seq ?_
      refine x_true rfl ?_
      refine x_skip ?_
      refine xe_then ?_
      refine x_seq ?_
      refine x_block ?_
      refine xR [(2, .new 10)] [1, 4, 5, 8, 10, 12, 13, 14, 19, 20, 21] [4, 5, 8, 10, 750, 780, 8062] [.fn 155 [], .ref 4 0, .ref 5 0, .ref 8 0, .ref 10 0, slStroke false ik.Strokes, I (ik.Strokes.length : Int), I t14, slPoint false ((at_ ik.Strokes t14.toNat).Points), I ((((at_ ik.Strokes t14.toNat).Points).length) : Int), I t21] [some (.box [nilA]), some (.box [.arr 750]), some (.box [.arr 780]), some (bxPoint (at_ ((at_ ik.Strokes t14.toNat).Points) t21.toNat)), some (tOStroke 8062 ss), some (tAPoint pts), some (tFStroke ss)] [(0 : Int) ≤ t21 ∧ t21 < ((((at_ ik.Strokes t14.toNat).Points).length) : Int)] ⟨⟨(by omega), (by omega)⟩, trivial⟩ ?_
      refine x_r [(4, .call [(true, .any)] true (agPoint (at_ ((at_ ik.Strokes t14.toNat).Points) t21.toNat))), (5, .new 30), (6, .new 31)] [1, 4, 5, 8, 12, 13, 14, 19, 20, 21] [4, 5, 8, 31, 750, 8062] [.fn 155 [], .ref 4 0, .ref 5 0, .ref 8 0, slStroke false ik.Strokes, I (ik.Strokes.length : Int), I t14, slPoint false ((at_ ik.Strokes t14.toNat).Points), I ((((at_ ik.Strokes t14.toNat).Points).length) : Int), I t21] [some (.box [nilA]), some (.box [.arr 750]), some (.box [.arr 31]), some (.arr 3 (pts.length + 1) (catF pts.length (fPoint pts) (litF [I ((at_ ((at_ ik.Strokes t14.toNat).Points) t21.toNat).X), I ((at_ ((at_ ik.Strokes t14.toNat).Points) t21.toNat).Y), I ((at_ ((at_ ik.Strokes t14.toNat).Points) t21.toNat).T)] 3))), some (tOStroke 8062 ss), some (tFStroke ss)] [Con Tryz.prog 155 [agPoint (at_ ((at_ ik.Strokes t14.toNat).Points) t21.toNat)] true (agPoint (at_ ((at_ ik.Strokes t14.toNat).Points) t21.toNat)) ∧ True, (pts.length + 1) * 24 ≤ 140737488355328] ⟨⟨(copy1_ok (at_ ((at_ ik.Strokes t14.toNat).Points) t21.toNat)), trivial⟩, (by omega), trivial⟩ ?_
      refine xe_block 3 ?_
      refine xe_then ?_
      refine x_r [] [1, 4, 5, 8, 12, 13, 14, 19, 20, 21] [4, 5, 8, 31, 750, 8062] [.fn 155 [], .ref 4 0, .ref 5 0, .ref 8 0, slStroke false ik.Strokes, I (ik.Strokes.length : Int), I t14, slPoint false ((at_ ik.Strokes t14.toNat).Points), I ((((at_ ik.Strokes t14.toNat).Points).length) : Int), I (t21 + 1)] [some (.box [nilA]), some (.box [.arr 750]), some (.box [.arr 31]), some (.arr 3 (pts.length + 1) (catF pts.length (fPoint pts) (litF [I ((at_ ((at_ ik.Strokes t14.toNat).Points) t21.toNat).X), I ((at_ ((at_ ik.Strokes t14.toNat).Points) t21.toNat).Y), I ((at_ ((at_ ik.Strokes t14.toNat).Points) t21.toNat).T)] 3))), some (tOStroke 8062 ss), some (tFStroke ss)] [inR .i64 (t21 + 1)] ⟨(inR_i64 (by omega) (by omega)), trivial⟩ ?_
      refine xe_weak [(780, 31)] (T := [(1, .fn 155 []), (4, .ref 4 0), (5, .ref 5 0), (8, .ref 8 0), (12, slStroke false ik.Strokes), (13, I (ik.Strokes.length : Int)), (14, I t14), (19, slPoint false ((at_ ik.Strokes t14.toNat).Points)), (20, I ((((at_ ik.Strokes t14.toNat).Points).length) : Int)), (21, I (t21 + 1))]) (O := [(4, .box [nilA]), (5, .box [.arr 750]), (8, .box [.arr 780]), (750, tOStroke 8062 ss), (780, tAPoint (pts ++ [(at_ ((at_ ik.Strokes t14.toNat).Points) t21.toNat)])), (8062, tFStroke ss)]) rfl (⟨.inl rfl, .inl rfl, .inl rfl, .inl rfl, .inl rfl, .inl rfl, .inl rfl, .inl rfl, .inl rfl, .inl rfl, trivial⟩) (⟨.inl rfl, .inl rfl, .inl rfl, .inl rfl, .inr ⟨rfl, (by first | rfl | (simp; done) | (simp; omega) | omega), fun i_ hi_ => .inl (cat_snoc (enc := cPoint) (xs := pts) rfl i_ hi_)⟩, .inl rfl, trivial⟩) (xe_again ((t21 + 1), (pts ++ [(at_ ((at_ ik.Strokes t14.toNat).Points) t21.toNat)])) rfl (show (0 ≤ (t21 + 1) ∧ (t21 + 1) ≤ ((at_ ik.Strokes t14.toNat).Points.length : Int)) ∧ (((pts ++ [(at_ ((at_ ik.Strokes t14.toNat).Points) t21.toNat)]).length : Int) = (t21 + 1)) ∧ ((pts ++ [(at_ ((at_ ik.Strokes t14.toNat).Points) t21.toNat)]) = ((at_ ik.Strokes t14.toNat).Points.take (t21 + 1).toNat).map (fun p => p)) ∧ True from ⟨(by omega), (by simp; omega), (by rw [hp1]; exact (mapTake_succ (by omega) hk rfl).symm), trivial⟩) (by first | (show ((((at_ ik.Strokes t14.toNat).Points.length : Int) - (t21 + 1)).toNat : Nat) < (((at_ ik.Strokes t14.toNat).Points.length : Int) - t21).toNat; omega) | (dsimp only; omega)))
     refine x_r [(0, .dec false)] [1, 4, 5, 8, 12, 13, 14, 19, 20, 21, 22] [4, 5, 8, 750, 780, 8062] [.fn 155 [], .ref 4 0, .ref 5 0, .ref 8 0, slStroke false ik.Strokes, I (ik.Strokes.length : Int), I t14, slPoint false ((at_ ik.Strokes t14.toNat).Points), I ((((at_ ik.Strokes t14.toNat).Points).length) : Int), I t21, Bv false] [some (.box [nilA]), some (.box [.arr 750]), some (.box [.arr 780]), some (tOStroke 8062 ss), some (tAPoint pts), some (tFStroke ss)] [¬ (t21 < ((((at_ ik.Strokes t14.toNat).Points).length) : Int))] ⟨h2, trivial⟩ ?_
     refine xe_then ?_
     refine x_seq ?_
     refine x_false rfl ?_
     refine x_exit ?_
     refine xe_exit_then ?_
     refine xe_loop_exit ?_
     refine xe_exit_same ?_
     refine xe_then ?_
     refine x_r [(3, .new 37), (4, .new 38)] [1, 4, 5, 12, 13, 14] [4, 5, 38, 780, 8062] [.fn 155 [], .ref 4 0, .ref 5 0, slStroke false ik.Strokes, I (ik.Strokes.length : Int), I t14] [some (.box [nilA]), some (.box [.arr 38]), some (.oar [8062, 780] 1 (ss.length + 1) (catF ss.length (oStroke 8062 ss) (litF [.arr 780] 1))), some (tAPoint pts), some (tFStroke ss)] [(ss.length + 1) * 24 ≤ 140737488355328] ⟨(by omega), trivial⟩ ?_
     refine xe_block 1 ?_
     refine xe_then ?_
     refine x_r [] [1, 4, 5, 12, 13, 14] [4, 5, 38, 780, 8062] [.fn 155 [], .ref 4 0, .ref 5 0, slStroke false ik.Strokes, I (ik.Strokes.length : Int), I (t14 + 1)] [some (.box [nilA]), some (.box [.arr 38]), some (.oar [8062, 780] 1 (ss.length + 1) (catF ss.length (oStroke 8062 ss) (litF [.arr 780] 1))), some (tAPoint pts), some (tFStroke ss)] [inR .i64 (t14 + 1)] ⟨(inR_i64 (by omega) (by omega)), trivial⟩ ?_
     refine xe_join 780 8062 rfl rfl rfl ?_
     refine xe_weak [(750, 38)] (T := [(1, .fn 155 []), (4, .ref 4 0), (5, .ref 5 0), (12, slStroke false ik.Strokes), (13, I (ik.Strokes.length : Int)), (14, I (t14 + 1))]) (O := [(4, .box [nilA]), (5, .box [.arr 750]), (750, tOStroke 8062 (ss ++ [(Stroke.mk pts)])), (8062, tFStroke (ss ++ [(Stroke.mk pts)]))]) rfl (⟨.inl rfl, .inl rfl, .inl rfl, .inl rfl, .inl rfl, .inl rfl, trivial⟩) (⟨.inl rfl, .inl rfl, .inr ⟨rfl, rfl, (by simp), fun i hi => .inl (ocatStroke rfl rfl rfl i hi)⟩, .inr (fcatStroke (Stroke.mk pts) (by first | rfl | (simp; done)) (fun i_ hi_ => (by first | rfl | fail))), trivial⟩) (xe_again ((t14 + 1), (ss ++ [(Stroke.mk pts)])) rfl (show (0 ≤ (t14 + 1) ∧ (t14 + 1) ≤ (ik.Strokes.length : Int)) ∧ (((ss ++ [(Stroke.mk pts)]).length : Int) = (t14 + 1)) ∧ ((ss ++ [(Stroke.mk pts)]) = (ik.Strokes.take (t14 + 1).toNat).map (mpS (fun p => p))) ∧ True from ⟨(by omega), (by simp; omega), (by rw [hs0]; exact (mapTake_succ (by omega) hi (by rw [hp1]; unfold mpS; rw [map_all (by omega)])).symm), trivial⟩) (by first | (show (((ik.Strokes.length : Int) - (t14 + 1)).toNat : Nat) < ((ik.Strokes.length : Int) - t14).toNat; omega) | (dsimp only; omega)))
    refine x_r [(0, .dec false)] [1, 4, 5, 12, 13, 14, 15] [4, 5, 750, 8062] [.fn 155 [], .ref 4 0, .ref 5 0, slStroke false ik.Strokes, I (ik.Strokes.length : Int), I t14, Bv false] [some (.box [nilA]), some (.box [.arr 750]), some (tOStroke 8062 ss), some (tFStroke ss)] [¬ (t14 < (ik.Strokes.length : Int))] ⟨h1, trivial⟩ ?_
    refine xe_then ?_
    refine x_seq ?_
    refine x_false rfl ?_
    refine x_exit ?_
    refine xe_exit_then ?_
    refine xe_loop_exit ?_
    refine xe_exit_same ?_
    refine xe_then ?_
    refine xR [] [4] [4, 750, 8062] [.ref 4 0] [some (.box [.arr 750]), some (tOStroke 8062 ss), some (tFStroke ss)] [] trivial ?_
    refine x_ret ?_
    refine xe_weak [(8061, 750)] (T := [(4, .ref 4 0)]) (O := [(4, .box [.arr 8061]), (8061, tOStroke 8062 ss), (8062, tFStroke ss)]) rfl (⟨.inl rfl, trivial⟩) (⟨.inl rfl, .inl rfl, .inl rfl, trivial⟩) ?_
    refine xe_end ss (show (ss = (mpI (fun p => p) ik).Strokes) ∧ (True) from ⟨(by rw [hs0]; unfold mpI; rw [map_all (by omega)]), trivial⟩) (⟨.inl rfl, .inl rfl, trivial⟩) (.agg [.arr 8061]) (by kernel_rfl) (.inl rfl) (fun h => by cases h) (fun h => by cases h)
  obtain ⟨ss, ⟨hh0, _⟩, hc⟩ := hh
  exact ⟨ss, hh0, hc⟩

theorem copyInk_ok (ik : Ink) (ok : ∀ s ∈ ik.Strokes, okStroke' s = true) (hl : ik.Strokes.length ≤ 16) : ∃ (ss : List Stroke), (ss = ik.Strokes) ∧ CallOK Tryz.prog 81 [.agg [slStroke false ik.Strokes]] (lookO []) false (.agg [.arr 8061]) (lookO [(8061, tOStroke 8062 ss), (8062, tFStroke ss)]) := by
  have hh : ∃ r : (List Stroke), ((r = ik.Strokes) ∧ (True)) ∧ CallOK Tryz.prog 81 [.agg [slStroke false ik.Strokes]] (lookO []) false (.agg [.arr 8061]) (lookO [(8061, tOStroke 8062 r), (8062, tFStroke r)]) := by
    refine fn_okX (Φ := fun r : (List Stroke) => (r = ik.Strokes) ∧ (True)) [] (fun r => [(8061, tOStroke 8062 r), (8062, tFStroke r)]) (fn := Tryz.f81) (nt := 5) Tryz.func81 rfl rfl (args := [.agg [slStroke false ik.Strokes]]) rfl (allcons (.inl ⟨rfl, by simp [tagged, taggedL, tagStroke]⟩) allnil) (res := fun r => .agg [.arr 8061]) ?_
    refine xR [(0, .new 1), (1, .new 2)] [1, 2] [1, 2] [.ref 1 0, .ref 2 0] [some (.box [slStroke false ik.Strokes]), some (.box [nilA])] [] trivial ?_
    refine x_seq ?_
    obtain ⟨ss_1, hx1_0, hc1⟩ := mapInk_copy ik ok hl
    refine x_r [(1, .lend [] [(8061, tOStroke 8062 ss_1), (8062, tFStroke ss_1)] [(true, .any), (true, .any)] false (.agg [.arr 8061]))] [2] [2, 8061, 8062] [.ref 2 0] [some (.box [.arr 8061]), some (tOStroke 8062 ss_1), some (tFStroke ss_1)] [CallOK Tryz.prog 83 [.agg [slStroke false ik.Strokes], .fn 155 []] (lookO []) false (.agg [.arr 8061]) (lookO [(8061, tOStroke 8062 ss_1), (8062, tFStroke ss_1)]) ∧ True] ⟨⟨hc1, trivial⟩, trivial⟩ ?_
    refine xe_then ?_
    refine x_ret ?_
    refine xe_end ss_1 (show (ss_1 = ik.Strokes) ∧ (True) from ⟨(by rw [hx1_0, mp_id]), trivial⟩) (⟨.inl rfl, .inl rfl, trivial⟩) (.agg [.arr 8061]) (by kernel_rfl) (.inl rfl) (fun h => by cases h) (fun h => by cases h)
  obtain ⟨ss, ⟨hh0, _⟩, hc⟩ := hh
  exact ⟨ss, hh0, hc⟩


/-- The first number below n that p holds of, or -1. -/
def firstN (n : Nat) (p : Nat → Bool) : Int := match (List.range n).find? p with
  | some i => i
  | none => -1
theorem firstN_hit {n : Nat} {p : Nat → Bool} {k : Nat} (hk : k < n) (hp : p k = true) (hn : ∀ i, i < k → p i = false) : firstN n p = k := by
  have h : (List.range n).find? p = some k := by
    rw [List.find?_range_eq_some]
    exact ⟨hp, List.mem_range.2 hk, fun j hj => by simpa using hn j hj⟩
  simp [firstN, h]
theorem firstN_none {n : Nat} {p : Nat → Bool} (hn : ∀ i, i < n → p i = false) : firstN n p = -1 := by
  have h : (List.range n).find? p = none := by
    rw [List.find?_range_eq_none]
    intro i hi; simpa using hn i hi
  simp [firstN, h]
theorem firstN_cases (n : Nat) (p : Nat → Bool) : (firstN n p = -1 ∧ ∀ i, i < n → p i = false) ∨ ∃ k : Nat, firstN n p = k ∧ k < n ∧ p k = true ∧ ∀ i, i < k → p i = false := by
  by_cases h : ∃ k, k < n ∧ p k = true
  · right
    obtain ⟨k, hk, hp⟩ := h
    cases e : (List.range n).find? p with
    | none => rw [List.find?_range_eq_none] at e; exact absurd hp (by simpa using e k hk)
    | some i =>
      have e' := e
      rw [List.find?_range_eq_some] at e
      exact ⟨i, by simp [firstN, e'], List.mem_range.1 e.2.1, e.1, fun j hj => by simpa using e.2.2 j hj⟩
  · left
    have h' : ∀ i, i < n → p i = false := fun i hi => by rw [← Bool.not_eq_true]; exact fun hp => h ⟨i, hi, hp⟩
    exact ⟨firstN_none h', h'⟩
theorem firstN_any (n : Nat) (p : Nat → Bool) : decide (0 ≤ firstN n p) = anyN n p := by
  rcases firstN_cases n p with ⟨h1, h2⟩ | ⟨k, h1, h2, h3, _⟩
  · rw [h1, anyN_none h2]; decide
  · rw [h1, anyN_at h2 h3]; simp

/-- The length up to the k-th point. -/
def arcI (s : Stroke) (k : Nat) : Int := sumS s.Points (k + 1)
/-- Whether the place looked for is on the segment ahead of the k-th point, at the latest. -/
def stopB (s : Stroke) (part parts : Int) (k : Nat) : Bool := decide (1 ≤ k) && (!decide (arcI s k = arcI s (k - 1)) && !decide (arcI s k * parts < arcI s (s.Points.length - 1) * part))
def spotK (s : Stroke) (part parts : Int) (k : Nat) : Spot :=
  ⟨(at_ s.Points (k - 1)).X + nearI (((at_ s.Points k).X - (at_ s.Points (k - 1)).X) * (arcI s (s.Points.length - 1) * part - arcI s (k - 1) * parts)) ((arcI s k - arcI s (k - 1)) * parts),
   (at_ s.Points (k - 1)).Y + nearI (((at_ s.Points k).Y - (at_ s.Points (k - 1)).Y) * (arcI s (s.Points.length - 1) * part - arcI s (k - 1) * parts)) ((arcI s k - arcI s (k - 1)) * parts)⟩
/-- The place at a part of the length. -/
def spotI (s : Stroke) (part parts : Int) : Spot :=
  let k := firstN s.Points.length (stopB s part parts)
  if k < 0 then ⟨(at_ s.Points 0).X, (at_ s.Points 0).Y⟩ else spotK s part parts k.toNat
theorem spotI_at {s : Stroke} {part parts : Int} {k : Nat} (hk : k < s.Points.length) (h : stopB s part parts k = true) (hn : ∀ j, j < k → stopB s part parts j = false) : spotI s part parts = spotK s part parts k := by
  have e := firstN_hit hk h hn
  simp only [spotI, e]
  rw [if_neg (by omega)]; rfl
theorem spotI_none {s : Stroke} {part parts : Int} (hn : ∀ j, j < s.Points.length → stopB s part parts j = false) : spotI s part parts = ⟨(at_ s.Points 0).X, (at_ s.Points 0).Y⟩ := by
  have e := firstN_none hn
  simp only [spotI, e]; rfl
theorem arcI_step {s : Stroke} {k : Nat} (h : 1 ≤ k) : arcI s k = arcI s (k - 1) + segI (at_ s.Points (k - 1)) (at_ s.Points k) := by
  obtain ⟨m, rfl⟩ : ∃ m, k = m + 1 := ⟨k - 1, by omega⟩
  show sumS s.Points (m + 1 + 1) = sumS s.Points (m + 1) + _
  conv => lhs; rw [sumS]
  rw [if_neg (by omega)]
theorem arcI_zero (s : Stroke) : arcI s 0 = 0 := by simp [arcI, sumS]
theorem arcI_bd {s : Stroke} (ok : okStroke' s = true) {k : Nat} (h : k < s.Points.length) : 0 ≤ arcI s k ∧ arcI s k ≤ 5559540 := by
  have h1 := sumS_bd ok (k + 1) h
  have h2 := okS_len ok
  unfold arcI; omega
theorem arcI_up {s : Stroke} (ok : okStroke' s = true) {k : Nat} (h : k < s.Points.length) (h1 : 1 ≤ k) : arcI s (k - 1) ≤ arcI s k := by
  have := segI_bd (okS_at ok (j := k - 1) (by omega)) (okS_at ok (j := k) (by omega))
  rw [arcI_step h1]; omega
theorem arcI_mono {s : Stroke} (ok : okStroke' s = true) {m : Nat} : ∀ k, m ≤ k → k < s.Points.length → arcI s m ≤ arcI s k := by
  intro k hm hk
  induction k with
  | zero => have : m = 0 := by omega
            subst this; exact Int.le_refl _
  | succ k ih =>
    by_cases e : m = k + 1
    · subst e; exact Int.le_refl _
    · have a := ih (by omega) (by omega)
      have b := arcI_up ok (k := k + 1) hk (by omega)
      simp only [Nat.add_sub_cancel] at b
      omega
theorem stop_iff {s : Stroke} {part parts : Int} {k : Nat} : stopB s part parts k = true ↔ 1 ≤ k ∧ arcI s k ≠ arcI s (k - 1) ∧ ¬ arcI s k * parts < arcI s (s.Points.length - 1) * part := by simp [stopB]
theorem stop_no {s : Stroke} {part parts : Int} {k : Nat} (h : ¬ (1 ≤ k ∧ arcI s k ≠ arcI s (k - 1) ∧ ¬ arcI s k * parts < arcI s (s.Points.length - 1) * part)) : stopB s part parts k = false := by
  rw [← Bool.not_eq_true, stop_iff]; exact h
section
variable {s : Stroke} {part parts : Int}
theorem behind (ok : okStroke' s = true) (hp : 0 ≤ part) : ∀ k, k < s.Points.length → (∀ j, j ≤ k → stopB s part parts j = false) → arcI s k * parts ≤ arcI s (s.Points.length - 1) * part
  | 0, h, _ => by
    have h1 := (arcI_bd ok (k := s.Points.length - 1) (by omega)).1
    rw [arcI_zero, Int.zero_mul]
    exact Int.mul_nonneg h1 hp
  | k + 1, h, hn => by
    have ih := behind ok hp k (by omega) (fun j hj => hn j (by omega))
    have h1 := hn (k + 1) (Nat.le_refl _)
    rw [← Bool.not_eq_true, stop_iff] at h1
    by_cases e : arcI s (k + 1) = arcI s k
    · rw [e]; exact ih
    · apply Int.le_of_lt
      apply Classical.byContradiction
      intro hc
      exact h1 ⟨by omega, e, hc⟩
/-- How far the place is along its segment. -/
theorem spot_rest (ok : okStroke' s = true) (hp : 0 ≤ part ∧ 1 ≤ parts) {k : Nat} (hk : k < s.Points.length) (h : stopB s part parts k = true) (hn : ∀ j, j < k → stopB s part parts j = false) :
    (0 ≤ arcI s (s.Points.length - 1) * part - arcI s (k - 1) * parts ∧ arcI s (s.Points.length - 1) * part - arcI s (k - 1) * parts ≤ (arcI s k - arcI s (k - 1)) * parts) ∧ 0 < (arcI s k - arcI s (k - 1)) * parts := by
  obtain ⟨h1, h2, h3⟩ := stop_iff.1 h
  have a := behind ok hp.1 (k - 1) (by omega) (fun j hj => hn j (by omega))
  have b := arcI_up ok hk h1
  have c : 0 < (arcI s k - arcI s (k - 1)) * parts := Int.mul_pos (by omega) (by omega)
  have e : (arcI s k - arcI s (k - 1)) * parts = arcI s k * parts - arcI s (k - 1) * parts := Int.sub_mul _ _ _
  omega
theorem box_has (xs : List Point) : ∀ n j, j < n → (boxS xs n).X1 ≤ (at_ xs j).X ∧ (at_ xs j).X ≤ (boxS xs n).X2 ∧ (boxS xs n).Y1 ≤ (at_ xs j).Y ∧ (at_ xs j).Y ≤ (boxS xs n).Y2
  | n + 1, j, h => by
    simp only [boxS, joinB, ptB]
    by_cases e : j = n
    · subst e; omega
    · have := box_has xs n j (by omega); omega
/-- Places lie in the box. -/
theorem spot_in (ok : okStroke' s = true) (hp : 0 ≤ part ∧ 1 ≤ parts) :
    (boxS s.Points s.Points.length).X1 ≤ (spotI s part parts).X ∧ (spotI s part parts).X ≤ (boxS s.Points s.Points.length).X2 ∧ (boxS s.Points s.Points.length).Y1 ≤ (spotI s part parts).Y ∧ (spotI s part parts).Y ≤ (boxS s.Points s.Points.length).Y2 := by
  have hl := okS_len ok
  rcases firstN_cases s.Points.length (stopB s part parts) with ⟨_, h⟩ | ⟨k, _, hk, hs, hn⟩
  · rw [spotI_none h]; exact box_has s.Points _ 0 (by omega)
  · rw [spotI_at hk hs hn]
    have h1 := (stop_iff.1 hs).1
    have hr := spot_rest ok hp hk hs hn
    have b0 := box_has s.Points s.Points.length (k - 1) (by omega)
    have b1 := box_has s.Points s.Points.length k hk
    have nx := near_between (x := (at_ s.Points k).X - (at_ s.Points (k - 1)).X) hr.2 hr.1.1 hr.1.2
    have ny := near_between (x := (at_ s.Points k).Y - (at_ s.Points (k - 1)).Y) hr.2 hr.1.1 hr.1.2
    simp only [spotK]
    omega
theorem rootI_zero {n : Int} (h0 : 0 ≤ n) (h : rootI n = 0) : n = 0 := by
  have hs := rootN_spec n.toNat
  unfold rootI at h
  have e : rootN n.toNat = 0 := by omega
  rw [e] at hs
  omega
theorem seg_zero {a b : Point} (ha : okP a = true) (hb : okP b = true) (h : segI a b = 0) : a.X = b.X ∧ a.Y = b.Y := by
  have h1 := far_bd ha hb
  unfold segI at h
  have h2 := rootI_zero (by unfold farI; omega) h
  unfold farI at h2
  have hx : (a.X - b.X) * (a.X - b.X) = 0 := by omega
  have hy : (a.Y - b.Y) * (a.Y - b.Y) = 0 := by omega
  have hx' : a.X - b.X = 0 := by rcases Int.mul_eq_zero.1 hx with h | h <;> exact h
  have hy' : a.Y - b.Y = 0 := by rcases Int.mul_eq_zero.1 hy with h | h <;> exact h
  omega
/-- Between two points with no length between them nothing moves. -/
theorem arc_same (ok : okStroke' s = true) {m : Nat} : ∀ k, m ≤ k → k < s.Points.length → arcI s k = arcI s m → (at_ s.Points k).X = (at_ s.Points m).X ∧ (at_ s.Points k).Y = (at_ s.Points m).Y := by
  intro k hm hk he
  induction k with
  | zero => have : m = 0 := by omega
            subst this; exact ⟨rfl, rfl⟩
  | succ k ih =>
    by_cases e : m = k + 1
    · subst e; exact ⟨rfl, rfl⟩
    · have a := arcI_mono ok (m := m) k (by omega) (by omega)
      have b := arcI_step (s := s) (k := k + 1) (by omega)
      have c := segI_bd (okS_at ok (j := k) (by omega)) (okS_at ok (j := k + 1) hk)
      simp only [Nat.add_sub_cancel] at b
      have d := ih (by omega) (by omega) (by omega)
      have f := seg_zero (okS_at ok (j := k) (by omega)) (okS_at ok (j := k + 1) hk) (by omega)
      omega
/-- The first place is the first point's. -/
theorem spot_first (ok : okStroke' s = true) (hp : 1 ≤ parts) : spotI s 0 parts = ⟨(at_ s.Points 0).X, (at_ s.Points 0).Y⟩ := by
  rcases firstN_cases s.Points.length (stopB s 0 parts) with ⟨_, h⟩ | ⟨k, _, hk, hs, hn⟩
  · exact spotI_none h
  · rw [spotI_at hk hs hn]
    have h1 := (stop_iff.1 hs).1
    have hr := spot_rest ok ⟨Int.le_refl 0, hp⟩ hk hs hn
    have ha := (arcI_bd ok (k := k - 1) (by omega)).1
    have h0 : arcI s (k - 1) * parts = 0 := by
      have := Int.mul_nonneg ha (by omega : (0 : Int) ≤ parts)
      have := hr.1.1
      rw [Int.mul_zero] at this; omega
    have hz : arcI s (k - 1) = 0 := by
      rcases Int.mul_eq_zero.1 h0 with h | h
      · exact h
      · omega
    have hsame := arc_same ok (m := 0) (k - 1) (by omega) (by omega) (by rw [hz, arcI_zero])
    simp only [spotK]
    rw [h0, Int.mul_zero, Int.sub_zero, near_zero hr.2, near_zero hr.2, hsame.1, hsame.2]
    simp
/-- The last place is the last point's. -/
theorem spot_last (ok : okStroke' s = true) (hp : 1 ≤ parts) : spotI s parts parts = ⟨(at_ s.Points (s.Points.length - 1)).X, (at_ s.Points (s.Points.length - 1)).Y⟩ := by
  have hl := okS_len ok
  rcases firstN_cases s.Points.length (stopB s parts parts) with ⟨_, h⟩ | ⟨k, _, hk, hs, hn⟩
  · rw [spotI_none h]
    have hz : ∀ k, k < s.Points.length → arcI s k = 0 := by
      have hb := behind ok (by omega : 0 ≤ parts) (parts := parts)
      intro k hk
      induction k with
      | zero => exact arcI_zero s
      | succ k ih =>
        have ih := ih (by omega)
        have h1 := h (k + 1) hk
        rw [← Bool.not_eq_true, stop_iff] at h1
        apply Classical.byContradiction
        intro hc
        -- the last length change is at a point that reaches the end
        have hup := arcI_mono ok (m := k + 1) (s.Points.length - 1) (by omega) (by omega)
        have hpos := (arcI_bd ok (k := k + 1) hk).1
        -- least point whose length is the whole one
        have : ∃ q, q < s.Points.length ∧ arcI s q = arcI s (s.Points.length - 1) ∧ 1 ≤ q ∧ arcI s q ≠ arcI s (q - 1) := by
          have hne : ∀ m, m < s.Points.length → arcI s m = arcI s (s.Points.length - 1) → ∃ q, q < s.Points.length ∧ arcI s q = arcI s (s.Points.length - 1) ∧ 1 ≤ q ∧ arcI s q ≠ arcI s (q - 1) := by
            intro m
            induction m with
            | zero => intro _ h2; rw [arcI_zero] at h2; omega
            | succ m ihm =>
              intro hm h2
              by_cases e : arcI s (m + 1) = arcI s m
              · exact ihm (by omega) (by rw [← e]; exact h2)
              · exact ⟨m + 1, hm, h2, by omega, e⟩
          exact hne (s.Points.length - 1) (by omega) rfl
        obtain ⟨q, q1, q2, q3, q4⟩ := this
        have h3 := h q q1
        rw [← Bool.not_eq_true, stop_iff, q2] at h3
        exact h3 ⟨q3, by rw [← q2]; exact q4, Int.lt_irrefl _⟩
    have := arc_same ok (m := 0) (s.Points.length - 1) (by omega) (by omega) (by rw [hz _ (by omega), arcI_zero])
    rw [this.1, this.2]
  · rw [spotI_at hk hs hn]
    have h1 := stop_iff.1 hs
    have hr := spot_rest ok (by omega) hk hs hn
    have hm := arcI_mono ok (m := k) (s.Points.length - 1) (by omega) (by omega)
    have he : arcI s (s.Points.length - 1) = arcI s k := by
      apply Classical.byContradiction
      intro hc
      exact h1.2.2 (Int.mul_lt_mul_of_pos_right (by omega) (by omega))
    have hsame := arc_same ok (m := k) (s.Points.length - 1) (by omega) (by omega) he
    have e : arcI s (s.Points.length - 1) * parts - arcI s (k - 1) * parts = (arcI s k - arcI s (k - 1)) * parts := by rw [he, Int.sub_mul]
    simp only [spotK]
    rw [e, near_full hr.2, near_full hr.2, hsame.1, hsame.2]
    simp only [Spot.mk.injEq]; omega
end

def spotR (s : Stroke) (part parts : Int) : Spot × Int := if okStroke' s = true then (if inB parts 1 1000 = true ∧ inB part 0 parts = true then (spotI s part parts, 0) else (⟨0, 0⟩, 2)) else (⟨0, 0⟩, 1)
/-- The first k of n places at equal distances. -/
def resK (s : Stroke) (n : Int) (k : Nat) : List Spot := (List.range k).map fun j : Nat => spotI s (j : Int) (n - 1)
def resQ (s : Stroke) (n : Int) : List Spot := resK s n n.toNat
def resR (s : Stroke) (n : Int) : List Spot × Int := if okStroke' s = true then (if inB n 2 24 = true then (resQ s n, 0) else ([], 2)) else ([], 1)
theorem resK_succ {s : Stroke} {n k : Int} (h : 0 ≤ k) : resK s n (k + 1).toNat = resK s n k.toNat ++ [spotI s k (n - 1)] := by
  have e : (k + 1).toNat = k.toNat + 1 := by omega
  have e2 : ((k.toNat : Nat) : Int) = k := by omega
  rw [e]; simp [resK, List.range_succ, e2]
theorem spot_ext {a b : Spot} (h1 : a.X = b.X) (h2 : a.Y = b.Y) : a = b := by
  cases a; cases b; simp_all
theorem resR_no {s : Stroke} {n : Int} (h : okStroke' s = false) : resR s n = ([], 1) := by simp [resR, h]
theorem resR_rng {s : Stroke} {n : Int} (h : okStroke' s = true) (h2 : inB n 2 24 = false) : resR s n = ([], 2) := by simp [resR, h, h2]
theorem resR_yes {s : Stroke} {n : Int} (h : okStroke' s = true) (h2 : inB n 2 24 = true) : resR s n = (resQ s n, 0) := by simp [resR, h, h2]
theorem resQ_len (s : Stroke) (n : Int) : (resQ s n).length = n.toNat := by simp [resQ, resK]
theorem resQ_at {s : Stroke} {n : Int} {j : Nat} (h : j < n.toNat) : at_ (resQ s n) j = spotI s j (n - 1) := by simp [at_, resQ, resK, h]
def boxR (s : Stroke) : Box × Int := if okStroke' s = true then (boxS s.Points s.Points.length, 0) else (⟨0, 0, 0, 0⟩, 1)

def okF (p : Feat) : Bool := inB p.X 0 255 && (inB p.Y 0 255 && inB p.D 0 7)
theorem okF_iff {p : Feat} : okF p = true ↔ (0 ≤ p.X ∧ p.X ≤ 255) ∧ (0 ≤ p.Y ∧ p.Y ≤ 255) ∧ (0 ≤ p.D ∧ p.D ≤ 7) := by simp [okF, inB, and_assoc]
/-- Whether all are features, and they are 1 to m. -/
def okFeats (xs : List Feat) (m : Int) : Bool := decide (1 ≤ (xs.length : Int) ∧ (xs.length : Int) ≤ m) && allN xs.length (fun j => okF (at_ xs j))
theorem okFeats_n {xs : List Feat} {m : Int} (h : okFeats xs m = true) : 1 ≤ xs.length ∧ (xs.length : Int) ≤ m := by
  simp only [okFeats, Bool.and_eq_true, decide_eq_true_eq] at h; omega
theorem okFeats_at {xs : List Feat} {m : Int} (h : okFeats xs m = true) {j : Nat} (hj : j < xs.length) : okF (at_ xs j) = true := by
  simp only [okFeats, Bool.and_eq_true] at h
  exact allN_get h.2 hj

def skB (s : Stroke) : Box := boxS s.Points s.Points.length
/-- The box of the first stroke and the first k strokes. -/
def inkB (xs : List Stroke) : Nat → Box
  | 0 => skB (at_ xs 0)
  | k + 1 => joinB (inkB xs k) (skB (at_ xs k))
def inBox (a b : Box) : Prop := (b.X1 ≤ a.X1 ∧ a.X2 ≤ b.X2) ∧ b.Y1 ≤ a.Y1 ∧ a.Y2 ≤ b.Y2
theorem inkB_succ {xs : List Stroke} {i : Int} (h : 0 ≤ i) : inkB xs (i + 1).toNat = joinB (inkB xs i.toNat) (skB (at_ xs i.toNat)) := by
  have : (i + 1).toNat = i.toNat + 1 := by omega
  rw [this]; rfl
theorem inkB_one (xs : List Stroke) : inkB xs 1 = skB (at_ xs 0) := by simp [inkB, joinB]
theorem inkB_ok {x : Ink} (ok : okInk' x = true) (h0 : 1 ≤ x.Strokes.length) : ∀ k, k ≤ x.Strokes.length → okBox (inkB x.Strokes k)
  | 0, _ => boxS_all (okI_all ok 0 (by omega))
  | k + 1, h => joinB_ok (inkB_ok ok h0 k (by omega)) (boxS_all (okI_all ok k (by omega)))
theorem inkB_has (xs : List Stroke) : ∀ n j, j < n → inBox (skB (at_ xs j)) (inkB xs n)
  | n + 1, j, h => by
    by_cases e : j = n
    · subst e; simp only [inkB, joinB, inBox]; omega
    · have := inkB_has xs n j (by omega)
      simp only [inkB, joinB, inBox] at this ⊢; omega
def sideB (b : Box) : Int := max 1 (max (b.X2 - b.X1) (b.Y2 - b.Y1))
def normP (p : Spot) (b : Box) : Spot := ⟨(255 - (b.X2 - b.X1) * 255 / sideB b) / 2 + nearI ((p.X - b.X1) * 255) (sideB b), (255 - (b.Y2 - b.Y1) * 255 / sideB b) / 2 + nearI ((p.Y - b.Y1) * 255) (sideB b)⟩
theorem quo255 {w d : Int} (h0 : 0 ≤ w) (h1 : w ≤ d) (hd : 1 ≤ d) : 0 ≤ w * 255 / d ∧ w * 255 / d ≤ 255 := by
  refine ⟨Int.ediv_nonneg (by omega) (by omega), ?_⟩
  have : w * 255 / d < 256 := Int.ediv_lt_of_lt_mul (by omega) (by omega)
  omega
/-- A place scaled into the square lies in the square. -/
theorem norm1 {x w d : Int} (hx : 0 ≤ x ∧ x ≤ w) (h1 : w ≤ d) (hd : 1 ≤ d) : 0 ≤ (255 - w * 255 / d) / 2 + nearI (x * 255) d ∧ (255 - w * 255 / d) / 2 + nearI (x * 255) d ≤ 255 := by
  have hq := quo255 (w := w) (d := d) (by omega) h1 hd
  have hn := (near_between (x := 255) (r := x) (d := d) (by omega) hx.1 (by omega)).1 (by omega)
  rw [Int.mul_comm 255 x] at hn
  have hs := near_spec (x * 255) (d := d) (by omega)
  have hm : x * 255 / d ≤ w * 255 / d := Int.ediv_le_ediv (by omega) (by omega)
  have hle : nearI (x * 255) d ≤ w * 255 / d + 1 := by
    by_cases hc : d - (x * 255 - x * 255 / d * d) ≤ x * 255 - x * 255 / d * d
    · have := hs.1 hc; omega
    · have := hs.2 hc; omega
  omega
theorem side_bd {b : Box} (hb : okBox b) : (1 ≤ sideB b ∧ sideB b ≤ 4095) ∧ b.X2 - b.X1 ≤ sideB b ∧ b.Y2 - b.Y1 ≤ sideB b := by
  unfold okBox at hb; unfold sideB; omega
theorem norm_in {p : Spot} {b : Box} (hb : okBox b) (hp : (b.X1 ≤ p.X ∧ p.X ≤ b.X2) ∧ b.Y1 ≤ p.Y ∧ p.Y ≤ b.Y2) : (0 ≤ (normP p b).X ∧ (normP p b).X ≤ 255) ∧ 0 ≤ (normP p b).Y ∧ (normP p b).Y ≤ 255 := by
  have hs := side_bd hb
  exact ⟨norm1 (by omega) hs.2.1 hs.1.1, norm1 (by omega) hs.2.2 hs.1.1⟩
/-- The direction behind the first k places. -/
def dirQ (l : List Spot) : Nat → Int
  | 0 => 0
  | k + 1 => if k + 1 < l.length ∧ ¬ ((at_ l (k + 1)).X - (at_ l k).X = 0 ∧ (at_ l (k + 1)).Y - (at_ l k).Y = 0) then dirI ((at_ l (k + 1)).X - (at_ l k).X) ((at_ l (k + 1)).Y - (at_ l k).Y) else dirQ l k
theorem dirQ_bd (l : List Spot) : ∀ k, 0 ≤ dirQ l k ∧ dirQ l k ≤ 7
  | 0 => by simp [dirQ]
  | k + 1 => by
    rw [dirQ]; split
    · exact dirI_bd _ _
    · exact dirQ_bd l k
theorem dirQ_yes {l : List Spot} {k : Int} (h0 : 0 ≤ k) (h : k + 1 < (l.length : Int)) (hn : ¬ ((at_ l (k + 1).toNat).X - (at_ l k.toNat).X = 0 ∧ (at_ l (k + 1).toNat).Y - (at_ l k.toNat).Y = 0)) :
    dirQ l (k + 1).toNat = dirI ((at_ l (k + 1).toNat).X - (at_ l k.toNat).X) ((at_ l (k + 1).toNat).Y - (at_ l k.toNat).Y) := by
  have e : (k + 1).toNat = k.toNat + 1 := by omega
  rw [e] at hn ⊢
  rw [dirQ, if_pos ⟨by omega, hn⟩]
theorem dirQ_no {l : List Spot} {k : Int} (h0 : 0 ≤ k) (h : ¬ (k + 1 < (l.length : Int) ∧ ¬ ((at_ l (k + 1).toNat).X - (at_ l k.toNat).X = 0 ∧ (at_ l (k + 1).toNat).Y - (at_ l k.toNat).Y = 0))) : dirQ l (k + 1).toNat = dirQ l k.toNat := by
  have e : (k + 1).toNat = k.toNat + 1 := by omega
  rw [e] at h ⊢
  rw [dirQ, if_neg (fun q => h ⟨by omega, q.2⟩)]
def featAt (l : List Spot) (b : Box) (k : Nat) : Feat := ⟨(normP (at_ l k) b).X, (normP (at_ l k) b).Y, dirQ l (k + 1)⟩
/-- The features of the first k places. -/
def featK (l : List Spot) (b : Box) (k : Nat) : List Feat := (List.range k).map (featAt l b)
theorem featK_succ {l : List Spot} {b : Box} {k : Int} (h : 0 ≤ k) : featK l b (k + 1).toNat = featK l b k.toNat ++ [⟨(normP (at_ l k.toNat) b).X, (normP (at_ l k.toNat) b).Y, dirQ l (k + 1).toNat⟩] := by
  have e : (k + 1).toNat = k.toNat + 1 := by omega
  rw [e]; simp [featK, List.range_succ, featAt]
def featQ (s : Stroke) (n : Int) (b : Box) : List Feat := featK (resQ s n) b (resQ s n).length
theorem featK_len (l : List Spot) (b : Box) (k : Nat) : (featK l b k).length = k := by simp [featK]
theorem featQ_len (s : Stroke) (n : Int) (b : Box) : (featQ s n b).length = n.toNat := by rw [featQ, featK_len, resQ_len]
/-- The features of the first strokes. -/
def featI (xs : List Stroke) (n : Int) (b : Box) : Nat → List Feat
  | 0 => []
  | i + 1 => featI xs n b i ++ featQ (at_ xs i) n b
theorem featI_succ {xs : List Stroke} {n : Int} {b : Box} {i : Int} (h : 0 ≤ i) : featI xs n b (i + 1).toNat = featI xs n b i.toNat ++ featQ (at_ xs i.toNat) n b := by
  have e : (i + 1).toNat = i.toNat + 1 := by omega
  rw [e]; rfl
theorem featI_len (xs : List Stroke) (n : Int) (b : Box) : ∀ i, (featI xs n b i).length = i * n.toNat
  | 0 => by simp [featI]
  | i + 1 => by rw [featI, List.length_append, featI_len, featQ_len, Nat.succ_mul]
def feA (x : Ink) (n : Int) : List Feat := featI x.Strokes n (inkB x.Strokes x.Strokes.length) x.Strokes.length
def feR (x : Ink) (n : Int) : List Feat × Int := if okInk' x = true then (if inB n 2 24 = true then (if (x.Strokes.length : Int) = 0 then ([], 6) else (feA x n, 0)) else ([], 2)) else ([], 1)
theorem feR_inv {x : Ink} {n : Int} (h : okInk' x = false) : feR x n = ([], 1) := by simp [feR, h]
theorem feR_rng {x : Ink} {n : Int} (h : okInk' x = true) (h2 : inB n 2 24 = false) : feR x n = ([], 2) := by simp [feR, h, h2]
theorem feR_st {x : Ink} {n : Int} (h : okInk' x = true) (h2 : inB n 2 24 = true) (h3 : (x.Strokes.length : Int) = 0) : feR x n = ([], 6) := by rw [feR, if_pos h, if_pos h2, if_pos h3]
theorem feR_yes {x : Ink} {n : Int} (h : okInk' x = true) (h2 : inB n 2 24 = true) (h3 : ¬ (x.Strokes.length : Int) = 0) : feR x n = (feA x n, 0) := by rw [feR, if_pos h, if_pos h2, if_neg h3]
theorem feR_ok {x : Ink} {n : Int} (h : (feR x n).2 = 0) : okInk' x = true ∧ inB n 2 24 = true ∧ ¬ (x.Strokes.length : Int) = 0 ∧ feR x n = (feA x n, 0) := by
  unfold feR at h ⊢
  split at h
  · rename_i h1
    split at h
    · rename_i h2
      split at h
      · cases h
      · rename_i h3
        exact ⟨h1, h2, h3, by rw [if_pos h1, if_pos h2, if_neg h3]⟩
    · cases h
  · cases h
theorem spot_box {s : Stroke} {b : Box} {part parts : Int} (ok : okStroke' s = true) (hp : 0 ≤ part ∧ 1 ≤ parts) (hb : inBox (skB s) b) : (b.X1 ≤ (spotI s part parts).X ∧ (spotI s part parts).X ≤ b.X2) ∧ b.Y1 ≤ (spotI s part parts).Y ∧ (spotI s part parts).Y ≤ b.Y2 := by
  have h := spot_in ok hp
  unfold inBox skB at hb; omega
theorem resQ_box {s : Stroke} {b : Box} {n : Int} (ok : okStroke' s = true) (hn : 2 ≤ n) (hb : inBox (skB s) b) {j : Nat} (hj : j < (resQ s n).length) : (b.X1 ≤ (at_ (resQ s n) j).X ∧ (at_ (resQ s n) j).X ≤ b.X2) ∧ b.Y1 ≤ (at_ (resQ s n) j).Y ∧ (at_ (resQ s n) j).Y ≤ b.Y2 := by
  rw [resQ_len] at hj
  rw [resQ_at hj]
  exact spot_box ok (by omega) hb
theorem featK_in {l : List Spot} {b : Box} (hb : okBox b) (h : ∀ j, j < l.length → (b.X1 ≤ (at_ l j).X ∧ (at_ l j).X ≤ b.X2) ∧ b.Y1 ≤ (at_ l j).Y ∧ (at_ l j).Y ≤ b.Y2) : ∀ f ∈ featK l b l.length, okF f = true := by
  intro f hf
  simp only [featK, List.mem_map, List.mem_range] at hf
  obtain ⟨j, hj, rfl⟩ := hf
  have h1 := norm_in hb (h j hj)
  have h2 := dirQ_bd l (j + 1)
  simp only [okF, featAt, Bool.and_eq_true, inB_iff]
  omega
theorem featI_in {x : Ink} {n : Int} {b : Box} (ok : okInk' x = true) (hn : 2 ≤ n) (hb : okBox b) (hi : ∀ j, j < x.Strokes.length → inBox (skB (at_ x.Strokes j)) b) : ∀ i, i ≤ x.Strokes.length → ∀ f ∈ featI x.Strokes n b i, okF f = true
  | 0, _, f, hf => by simp [featI] at hf
  | i + 1, h, f, hf => by
    rw [featI, List.mem_append] at hf
    rcases hf with hf | hf
    · exact featI_in ok hn hb hi i (by omega) f hf
    · exact featK_in hb (fun j hj => resQ_box (okI_all ok i (by omega)) hn (hi i (by omega)) hj) f hf
/-- Features are valid, and as many as told. -/
theorem fe_valid {x : Ink} {n : Int} (h : (feR x n).2 = 0) : okFeats (feR x n).1 384 = true ∧ ((feR x n).1.length : Int) = n * (x.Strokes.length : Int) := by
  obtain ⟨ok, hn, h0, e⟩ := feR_ok h
  have hn' := inB_iff.1 hn
  have hl := okI_len ok
  rw [e]
  have hlen : (feA x n).length = x.Strokes.length * n.toNat := featI_len _ _ _ _
  have hint : ((feA x n).length : Int) = n * (x.Strokes.length : Int) := by
    rw [hlen, Int.natCast_mul, Int.mul_comm, show ((n.toNat : Nat) : Int) = n by omega]
  refine ⟨?_, hint⟩
  have hm := mulP_bd (x := n) (y := (x.Strokes.length : Int)) (A := 24) (B := 16) (by omega) (by omega) (by omega) hl
  have hm2 : 1 * 1 ≤ n * (x.Strokes.length : Int) := Int.mul_le_mul (by omega) (by omega) (by omega) (by omega)
  simp only [okFeats, Bool.and_eq_true, decide_eq_true_eq]
  refine ⟨by show 1 ≤ ((feA x n).length : Int) ∧ ((feA x n).length : Int) ≤ 384; omega, allN_iff.2 fun j hj => ?_⟩
  exact featI_in ok (by omega) (inkB_ok ok (by omega) _ (Nat.le_refl _)) (fun j hj => inkB_has x.Strokes _ j hj) _ (Nat.le_refl _) _ (at_mem hj)
section
variable {dx dy : Int}
def mvQ (dx dy : Int) (p : Spot) : Spot := ⟨p.X + dx, p.Y + dy⟩
theorem arc_mv {s : Stroke} {k : Nat} (h : k < s.Points.length) : arcI (mvS dx dy s) k = arcI s k := sum_mv _ h
theorem stop_mv {s : Stroke} {part parts : Int} {k : Nat} (h : k < s.Points.length) : stopB (mvS dx dy s) part parts k = stopB s part parts k := by
  unfold stopB
  rw [mvS_len, arc_mv h, arc_mv (by omega), arc_mv (by omega)]
theorem spot_mv {s : Stroke} {part parts : Int} (ok : 1 ≤ s.Points.length) : spotI (mvS dx dy s) part parts = mvQ dx dy (spotI s part parts) := by
  rcases firstN_cases s.Points.length (stopB s part parts) with ⟨_, h⟩ | ⟨k, _, hk, hs, hn⟩
  · rw [spotI_none h, spotI_none (fun j hj => by rw [mvS_len] at hj; rw [stop_mv hj]; exact h j hj), mvS_at (by omega)]; rfl
  · have h1 := (stop_iff.1 hs).1
    rw [spotI_at hk hs hn, spotI_at (by rw [mvS_len]; exact hk) (by rw [stop_mv hk]; exact hs) (fun j hj => by rw [stop_mv (by omega)]; exact hn j hj)]
    unfold spotK
    rw [mvS_len, arc_mv hk, arc_mv (by omega), arc_mv (by omega), mvS_at hk, mvS_at (by omega)]
    generalize at_ s.Points k = p
    generalize at_ s.Points (k - 1) = q
    have e1 : (mvP dx dy p).X - (mvP dx dy q).X = p.X - q.X := by simp only [mvP]; omega
    have e2 : (mvP dx dy p).Y - (mvP dx dy q).Y = p.Y - q.Y := by simp only [mvP]; omega
    rw [e1, e2]
    simp only [mvQ, mvP, Spot.mk.injEq]
    omega
theorem resQ_mv {s : Stroke} {n : Int} (ok : 1 ≤ s.Points.length) : resQ (mvS dx dy s) n = (resQ s n).map (mvQ dx dy) := by
  simp only [resQ, resK, List.map_map]
  exact List.map_congr_left fun j _ => spot_mv ok
theorem dirQ_mv {l : List Spot} : ∀ k, k ≤ l.length → dirQ (l.map (mvQ dx dy)) k = dirQ l k
  | 0, _ => rfl
  | k + 1, h => by
    rw [dirQ, dirQ, dirQ_mv k (by omega), List.length_map]
    by_cases hk : k + 1 < l.length
    · have e1 : at_ (l.map (mvQ dx dy)) (k + 1) = mvQ dx dy (at_ l (k + 1)) := by simp [at_, hk]
      have e2 : at_ (l.map (mvQ dx dy)) k = mvQ dx dy (at_ l k) := by simp [at_, show k < l.length by omega]
      rw [e1, e2]
      generalize at_ l (k + 1) = p
      generalize at_ l k = q
      have e1 : (mvQ dx dy p).X - (mvQ dx dy q).X = p.X - q.X := by simp only [mvQ]; omega
      have e2 : (mvQ dx dy p).Y - (mvQ dx dy q).Y = p.Y - q.Y := by simp only [mvQ]; omega
      rw [e1, e2]
    · rw [if_neg (fun q => hk q.1), if_neg (fun q => hk q.1)]
theorem norm_mv {p : Spot} {b : Box} : normP (mvQ dx dy p) (mvB dx dy b) = normP p b := by
  have e1 : (mvB dx dy b).X2 - (mvB dx dy b).X1 = b.X2 - b.X1 := by simp only [mvB]; omega
  have e2 : (mvB dx dy b).Y2 - (mvB dx dy b).Y1 = b.Y2 - b.Y1 := by simp only [mvB]; omega
  have e3 : (mvQ dx dy p).X - (mvB dx dy b).X1 = p.X - b.X1 := by simp only [mvB, mvQ]; omega
  have e4 : (mvQ dx dy p).Y - (mvB dx dy b).Y1 = p.Y - b.Y1 := by simp only [mvB, mvQ]; omega
  unfold normP sideB
  rw [e1, e2, e3, e4]
theorem featQ_mv {s : Stroke} {n : Int} {b : Box} (ok : 1 ≤ s.Points.length) : featQ (mvS dx dy s) n (mvB dx dy b) = featQ s n b := by
  unfold featQ
  rw [resQ_mv ok, List.length_map]
  unfold featK
  refine List.map_congr_left fun j hj => ?_
  have hj := List.mem_range.1 hj
  have e : at_ ((resQ s n).map (mvQ dx dy)) j = mvQ dx dy (at_ (resQ s n) j) := by simp [at_, hj]
  unfold featAt
  rw [e, norm_mv, dirQ_mv _ (by omega)]
theorem skB_mv {s : Stroke} (ok : 1 ≤ s.Points.length) : skB (mvS dx dy s) = mvB dx dy (skB s) := by
  unfold skB; rw [mvS_len, box_mv ok _ (Nat.le_refl _)]
theorem inkB_mv {x : Ink} (ok : okInk' x = true) (h0 : 1 ≤ x.Strokes.length) : ∀ k, k ≤ x.Strokes.length → inkB (mvI dx dy x).Strokes k = mvB dx dy (inkB x.Strokes k)
  | 0, _ => by
    have := okS_len (okI_all ok 0 (by omega))
    rw [inkB, inkB, mvI_at (by omega), skB_mv (by omega)]
  | k + 1, h => by
    have := okS_len (okI_all ok k (by omega))
    rw [inkB, inkB, inkB_mv ok h0 k (by omega), mvI_at (by omega), skB_mv (by omega)]
    simp only [joinB, mvB, Box.mk.injEq]
    omega
theorem featI_mv {x : Ink} {n : Int} {b : Box} (ok : okInk' x = true) : ∀ i, i ≤ x.Strokes.length → featI (mvI dx dy x).Strokes n (mvB dx dy b) i = featI x.Strokes n b i
  | 0, _ => rfl
  | i + 1, h => by
    have := okS_len (okI_all ok i (by omega))
    rw [featI, featI, featI_mv ok i (by omega), mvI_at (by omega), featQ_mv (by omega)]
/-- Features do not depend on where the ink is. -/
theorem fe_mv {x y : Ink} {n : Int} (h : (feR x n).2 = 0) (e : y = mvI dx dy x) (ok2 : okInk' y = true) : feR y n = feR x n := by
  obtain ⟨ok, hn, h0, e1⟩ := feR_ok h
  subst e
  rw [feR_yes ok2 hn (by rw [mvI_len]; exact h0), e1]
  unfold feA
  rw [mvI_len, inkB_mv ok (by omega) _ (Nat.le_refl _), featI_mv ok _ (Nat.le_refl _)]
end



/-- The number in the middle, the lesser one of two. -/
def medI (xs : List Int) : Int := at_ (sortL xs) ((xs.length - 1) / 2)
theorem medI_mem {xs : List Int} (h : 1 ≤ xs.length) : medI xs ∈ xs := sortL_mem.1 (at_mem (by rw [sortL_len]; omega))

theorem sortL_pw (xs : List Int) : (sortL xs).Pairwise fun x y => x ≤ y := by
  have h := List.pairwise_mergeSort (le := fun (x y : Int) => decide (x ≤ y)) (fun a b c h1 h2 => by simp only [decide_eq_true_eq] at *; omega) (fun a b => by simp only [Bool.or_eq_true, decide_eq_true_eq]; omega) xs
  exact h.imp fun h => by simpa using h
theorem sortL_perm (xs : List Int) : List.Perm (sortL xs) xs := List.mergeSort_perm _ _
theorem sort_uniq {a b : List Int} (ha : a.Pairwise fun x y => x ≤ y) (hb : b.Pairwise fun x y => x ≤ y) (h : List.Perm a b) : a = b :=
  List.Perm.eq_of_pairwise (le := fun x y => x ≤ y) (fun x y _ _ h1 h2 => Int.le_antisymm h1 h2) ha hb h
/-- A number put to its place. -/
theorem ins_sort {p : List Int} {x : Int} {k : Nat} (hk : k ≤ (sortL p).length) (h1 : ∀ j, k ≤ j → j < (sortL p).length → x < at_ (sortL p) j) (h2 : k = 0 ∨ at_ (sortL p) (k - 1) ≤ x) :
    (sortL p).take k ++ [x] ++ (sortL p).drop k = sortL (p ++ [x]) := by
  have hs := sortL_pw p
  generalize hl : sortL p = l at *
  refine sort_uniq ?_ (sortL_pw _) ?_
  · have ht := hs
    rw [← List.take_append_drop k l, List.pairwise_append] at ht
    obtain ⟨ta, tb, tc⟩ := ht
    have hlow : ∀ a ∈ l.take k, a ≤ x := fun a ha => by
      obtain ⟨j, hj, e⟩ := List.getElem_of_mem ha
      rcases h2 with h2 | h2
      · subst h2; simp at ha
      · have hjk : j < k := by simp at hj; omega
        have hjl : j < l.length := by simp at hj; omega
        have he : a = at_ l j := by rw [← e, at_eq hjl]; simp
        by_cases e2 : j = k - 1
        · rw [he, e2]; exact h2
        · have := List.pairwise_iff_getElem.1 hs j (k - 1) hjl (by omega) (by omega)
          rw [he, at_eq hjl]
          rw [at_eq (by omega)] at h2
          omega
    have hhigh : ∀ b ∈ l.drop k, x ≤ b := fun b hb => by
      obtain ⟨j, hj, e⟩ := List.getElem_of_mem hb
      simp at hj
      have h := h1 (k + j) (by omega) (by omega)
      rw [at_eq (by omega)] at h
      rw [← e]; simp; omega
    rw [List.append_assoc, List.pairwise_append]
    refine ⟨ta, ?_, ?_⟩
    · rw [List.singleton_append, List.pairwise_cons]
      exact ⟨hhigh, tb⟩
    · intro a ha b hb
      simp at hb
      rcases hb with rfl | hb
      · exact hlow a ha
      · exact tc a ha b hb
  · have e : List.Perm l p := by rw [← hl]; exact sortL_perm p
    refine List.Perm.trans ?_ (sortL_perm (p ++ [x])).symm
    refine List.Perm.trans ?_ (e.append_right [x])
    rw [List.append_assoc]
    refine List.Perm.trans (List.perm_append_comm.append_left _) ?_
    rw [← List.append_assoc, List.take_append_drop]
theorem sortL_nil : sortL [] = [] := by simp [sortL]
theorem sorted_le {p : List Int} {i j : Nat} (hij : i ≤ j) (hj : j < (sortL p).length) : at_ (sortL p) i ≤ at_ (sortL p) j := by
  by_cases e : i = j
  · subst e; exact Int.le_refl _
  · have := List.pairwise_iff_getElem.1 (sortL_pw p) i j (by omega) hj (by omega)
    rw [at_eq (by omega), at_eq hj]; exact this

/-- A point of ink that is fitted: b is its box, d the box's side. -/
def fitP (b : Box) (d side : Int) (p : Point) : Point := ⟨nearI ((p.X - b.X1) * side) d, nearI ((p.Y - b.Y1) * side) d, p.T⟩
def fitA (x : Ink) (side : Int) : Ink := mpI (fitP (inkB x.Strokes x.Strokes.length) (sideB (inkB x.Strokes x.Strokes.length)) side) x
def fitR (x : Ink) (side : Int) : Ink × Int := if okInk' x = true then (if inB side 1 4095 = true then (if (x.Strokes.length : Int) = 0 then (⟨[]⟩, 6) else (fitA x side, 0)) else (⟨[]⟩, 2)) else (⟨[]⟩, 1)
theorem fitR_inv {x : Ink} {n : Int} (h : okInk' x = false) : fitR x n = (⟨[]⟩, 1) := by simp [fitR, h]
theorem fitR_rng {x : Ink} {n : Int} (h : okInk' x = true) (h2 : inB n 1 4095 = false) : fitR x n = (⟨[]⟩, 2) := by simp [fitR, h, h2]
theorem fitR_st {x : Ink} {n : Int} (h : okInk' x = true) (h2 : inB n 1 4095 = true) (h3 : (x.Strokes.length : Int) = 0) : fitR x n = (⟨[]⟩, 6) := by rw [fitR, if_pos h, if_pos h2, if_pos h3]
theorem fitR_yes {x : Ink} {n : Int} (h : okInk' x = true) (h2 : inB n 1 4095 = true) (h3 : ¬ (x.Strokes.length : Int) = 0) : fitR x n = (fitA x n, 0) := by rw [fitR, if_pos h, if_pos h2, if_neg h3]
theorem fitR_ok {x : Ink} {n : Int} (h : (fitR x n).2 = 0) : okInk' x = true ∧ inB n 1 4095 = true ∧ (¬ (x.Strokes.length : Int) = 0) ∧ fitR x n = (fitA x n, 0) := by
  unfold fitR at h ⊢
  split at h
  · rename_i h1
    split at h
    · rename_i h2
      split at h
      · cases h
      · rename_i h3
        exact ⟨h1, h2, h3, by rw [if_pos h1, if_pos h2, if_neg h3]⟩
    · cases h
  · cases h
/-- A number of all strokes' boxes, in the middle. -/
def ovR (f : Box → Int) (x : Ink) : Int × Int := if okInk' x = true then (if (x.Strokes.length : Int) = 0 then (0, 6) else (medI (x.Strokes.map fun s => f (skB s)), 0)) else (0, 1)
theorem ovR_inv {f : Box → Int} {x : Ink} (h : okInk' x = false) : ovR f x = (0, 1) := by simp [ovR, h]
theorem ovR_st {f : Box → Int} {x : Ink} (h : okInk' x = true) (h3 : (x.Strokes.length : Int) = 0) : ovR f x = (0, 6) := by rw [ovR, if_pos h, if_pos h3]
theorem ovR_yes {f : Box → Int} {x : Ink} (h : okInk' x = true) (h3 : ¬ (x.Strokes.length : Int) = 0) : ovR f x = (medI (x.Strokes.map fun s => f (skB s)), 0) := by rw [ovR, if_pos h, if_neg h3]
def cnS (xs : List Point) : Nat → Int × Int
  | 0 => (0, 0)
  | k + 1 => ((cnS xs k).1 + (at_ xs k).X, (cnS xs k).2 + (at_ xs k).Y)
def cnI (xs : List Stroke) : Nat → Int × Int
  | 0 => (0, 0)
  | k + 1 => ((cnI xs k).1 + (cnS (at_ xs k).Points (at_ xs k).Points.length).1, (cnI xs k).2 + (cnS (at_ xs k).Points (at_ xs k).Points.length).2)
def ctI (xs : List Stroke) : Nat → Int
  | 0 => 0
  | k + 1 => ctI xs k + ((at_ xs k).Points.length : Int)
theorem cnS_1 {xs : List Point} {i : Int} (h : 0 ≤ i) : cnS xs (i + 1).toNat = ((cnS xs i.toNat).1 + (at_ xs i.toNat).X, (cnS xs i.toNat).2 + (at_ xs i.toNat).Y) := by
  have e1 : (i + 1).toNat = i.toNat + 1 := by omega
  rw [e1]; rfl
theorem cnI_1 {xs : List Stroke} {i : Int} (h : 0 ≤ i) : cnI xs (i + 1).toNat = ((cnI xs i.toNat).1 + (cnS (at_ xs i.toNat).Points (at_ xs i.toNat).Points.length).1, (cnI xs i.toNat).2 + (cnS (at_ xs i.toNat).Points (at_ xs i.toNat).Points.length).2) := by
  have e1 : (i + 1).toNat = i.toNat + 1 := by omega
  rw [e1]; rfl
theorem ctI_1 {xs : List Stroke} {i : Int} (h : 0 ≤ i) : ctI xs (i + 1).toNat = ctI xs i.toNat + ((at_ xs i.toNat).Points.length : Int) := by
  have e1 : (i + 1).toNat = i.toNat + 1 := by omega
  rw [e1]; rfl
/-- The sums lie between as many times the box's ends. -/
theorem cnS_bd {s : Stroke} {b : Box} (hb : inBox (skB s) b) : ∀ k, k ≤ s.Points.length → (b.X1 * (k : Int) ≤ (cnS s.Points k).1 ∧ (cnS s.Points k).1 ≤ b.X2 * (k : Int)) ∧ b.Y1 * (k : Int) ≤ (cnS s.Points k).2 ∧ (cnS s.Points k).2 ≤ b.Y2 * (k : Int)
  | 0, _ => by simp [cnS]
  | k + 1, h => by
    have ih := cnS_bd hb k (by omega)
    have hp := box_has s.Points s.Points.length k (by omega)
    unfold inBox skB at hb
    have e : ∀ z : Int, z * ((k + 1 : Nat) : Int) = z * (k : Int) + z := fun z => by rw [Int.natCast_add, Int.mul_add]; simp
    simp only [cnS, e]
    omega
theorem cnI_bd {x : Ink} {b : Box} (hb : ∀ j, j < x.Strokes.length → inBox (skB (at_ x.Strokes j)) b) : ∀ k, k ≤ x.Strokes.length → (b.X1 * ctI x.Strokes k ≤ (cnI x.Strokes k).1 ∧ (cnI x.Strokes k).1 ≤ b.X2 * ctI x.Strokes k) ∧ b.Y1 * ctI x.Strokes k ≤ (cnI x.Strokes k).2 ∧ (cnI x.Strokes k).2 ≤ b.Y2 * ctI x.Strokes k
  | 0, _ => by simp [cnI, ctI]
  | k + 1, h => by
    have ih := cnI_bd hb k (by omega)
    have hs := cnS_bd (hb k (by omega)) _ (Nat.le_refl _)
    simp only [cnI, ctI, Int.mul_add]
    omega
theorem ctI_bd {x : Ink} (ok : okInk' x = true) : ∀ k, k ≤ x.Strokes.length → (k : Int) ≤ ctI x.Strokes k ∧ ctI x.Strokes k ≤ 60 * (k : Int)
  | 0, _ => by simp [ctI]
  | k + 1, h => by
    have ih := ctI_bd ok k (by omega)
    have hl := okS_len (okI_all ok k (by omega))
    simp only [ctI]; omega
/-- Bounds for the sums over valid ink. -/
theorem cnI_num {x : Ink} (ok : okInk' x = true) (k : Nat) (hk : k ≤ x.Strokes.length) (h1 : 1 ≤ x.Strokes.length) : (0 ≤ (cnI x.Strokes k).1 ∧ (cnI x.Strokes k).1 ≤ 3931200) ∧ 0 ≤ (cnI x.Strokes k).2 ∧ (cnI x.Strokes k).2 ≤ 3931200 := by
  have hb : ∀ j, j < x.Strokes.length → inBox (skB (at_ x.Strokes j)) ⟨0, 0, 4095, 4095⟩ := fun j hj => by
    have := boxS_all (okI_all ok j hj)
    unfold okBox at this; unfold inBox skB; simp only; omega
  have h := cnI_bd hb k hk
  have hc := ctI_bd ok k hk
  have hl := okI_len ok
  simp only at h
  omega
theorem cnS_num {s : Stroke} (ok : okStroke' s = true) (k : Nat) (hk : k ≤ s.Points.length) : (0 ≤ (cnS s.Points k).1 ∧ (cnS s.Points k).1 ≤ 245700) ∧ 0 ≤ (cnS s.Points k).2 ∧ (cnS s.Points k).2 ≤ 245700 := by
  have hb : inBox (skB s) ⟨0, 0, 4095, 4095⟩ := by
    have := boxS_all ok
    unfold okBox at this; unfold inBox skB; simp only; omega
  have h := cnS_bd hb k hk
  have hl := okS_len ok
  simp only at h
  omega
def cenR (x : Ink) : Spot × Int := if okInk' x = true then (if (x.Strokes.length : Int) = 0 then (⟨0, 0⟩, 6) else (⟨nearI (cnI x.Strokes x.Strokes.length).1 (ctI x.Strokes x.Strokes.length), nearI (cnI x.Strokes x.Strokes.length).2 (ctI x.Strokes x.Strokes.length)⟩, 0)) else (⟨0, 0⟩, 1)
def bxiR (x : Ink) : Box × Int := if okInk' x = true then (if (x.Strokes.length : Int) = 0 then (⟨0, 0, 0, 0⟩, 6) else (inkB x.Strokes x.Strokes.length, 0)) else (⟨0, 0, 0, 0⟩, 1)
/-- A mean lies between the ends. -/
theorem near_mean {n d l h : Int} (hd : 0 < d) (h1 : l * d ≤ n) (h2 : n ≤ h * d) : l ≤ nearI n d ∧ nearI n d ≤ h := by
  unfold nearI
  have e1 : l * (2 * d) = 2 * (l * d) := Int.mul_left_comm _ _ _
  have e2 : (h + 1) * (2 * d) = 2 * (h * d) + 2 * d := by rw [Int.add_mul, Int.one_mul, Int.mul_left_comm]
  constructor
  · exact Int.le_ediv_of_mul_le (by omega) (by rw [e1]; omega)
  · have : (2 * n + d) / (2 * d) < h + 1 := Int.ediv_lt_of_lt_mul (by omega) (by rw [e2]; omega)
    omega
theorem near_mono {m n d : Int} (hd : 0 < d) (h : m ≤ n) : nearI m d ≤ nearI n d := Int.ediv_le_ediv (by omega) (by omega)

def ptcR (x : Ink) : Int × Int := if okInk' x = true then (ctI x.Strokes x.Strokes.length, 0) else (0, 1)
theorem ptc_yes {x : Ink} (h : okInk' x = true) : ptcR x = (ctI x.Strokes x.Strokes.length, 0) := by simp [ptcR, h]
theorem ptc_no {x : Ink} (h : okInk' x = false) : ptcR x = (0, 1) := by simp [ptcR, h]
theorem ptc_ok {x : Ink} (h : (ptcR x).2 = 0) : okInk' x = true := by
  unfold ptcR at h
  split at h
  · assumption
  · cases h
theorem ptc_bad {x : Ink} (h : ¬ (ptcR x).2 = 0) : okInk' x = false ∧ (ptcR x).2 = 1 := by
  cases e : okInk' x with
  | true => rw [ptc_yes e] at h; exact absurd rfl h
  | false => exact ⟨rfl, by rw [ptc_no e]⟩
theorem cen_inv {x : Ink} (h : okInk' x = false) : cenR x = (⟨0, 0⟩, 1) := by simp [cenR, h]
theorem cen_st {x : Ink} (h : okInk' x = true) (h3 : (x.Strokes.length : Int) = 0) : cenR x = (⟨0, 0⟩, 6) := by rw [cenR, if_pos h, if_pos h3]
theorem cen_yes {x : Ink} (h : okInk' x = true) (h3 : ¬ (x.Strokes.length : Int) = 0) : cenR x = (⟨nearI (cnI x.Strokes x.Strokes.length).1 (ctI x.Strokes x.Strokes.length), nearI (cnI x.Strokes x.Strokes.length).2 (ctI x.Strokes x.Strokes.length)⟩, 0) := by rw [cenR, if_pos h, if_neg h3]
theorem bxi_inv {x : Ink} (h : okInk' x = false) : bxiR x = (⟨0, 0, 0, 0⟩, 1) := by simp [bxiR, h]
theorem bxi_st {x : Ink} (h : okInk' x = true) (h3 : (x.Strokes.length : Int) = 0) : bxiR x = (⟨0, 0, 0, 0⟩, 6) := by rw [bxiR, if_pos h, if_pos h3]
theorem bxi_yes {x : Ink} (h : okInk' x = true) (h3 : ¬ (x.Strokes.length : Int) = 0) : bxiR x = (inkB x.Strokes x.Strokes.length, 0) := by rw [bxiR, if_pos h, if_neg h3]
theorem ct_len {x : Ink} (ok : okInk' x = true) : ctI x.Strokes x.Strokes.length = 0 ↔ (x.Strokes.length : Int) = 0 := by
  have := ctI_bd ok _ (Nat.le_refl _)
  omega

theorem at_setS {α : Type} [Inhabited α] {xs : List α} {i : Nat} {y : α} (h : i < xs.length) : at_ (xs.set i y) i = y := by simp [at_, h]
section
variable {dx dy i k : Int} {xs ys : List Stroke}
theorem mvIn_next (e : ys = mvIn dx dy i.toNat k.toNat xs) (hk0 : 0 ≤ k) (hi : i.toNat < xs.length) (hk : k.toNat < (at_ xs i.toNat).Points.length) :
    ys.set i.toNat ⟨(at_ ys i.toNat).Points.set k.toNat ⟨(at_ (at_ ys i.toNat).Points k.toNat).X + dx, (at_ (at_ ys i.toNat).Points k.toNat).Y + dy, (at_ (at_ ys i.toNat).Points k.toNat).T⟩⟩ = mvIn dx dy i.toNat (k + 1).toNat xs := by
  have ek : (k + 1).toNat = k.toNat + 1 := by omega
  have hp : at_ (at_ ys i.toNat).Points k.toNat = at_ (at_ xs i.toNat).Points k.toNat := by rw [e, mvIn_at hi, mvTo_at hk]
  rw [hp, ek, mvIn_succ hi hk, ← e]; rfl
theorem mvIn_exit (e : ys = mvIn dx dy i.toNat k.toNat xs) (hi0 : 0 ≤ i) (hi : i.toNat < xs.length) (hk : (at_ xs i.toNat).Points.length ≤ k.toNat) : ys = mvFst dx dy (i + 1).toNat xs := by
  have ei : (i + 1).toNat = i.toNat + 1 := by omega
  rw [e, ei, mvIn_all hi hk]
theorem mvIn_pt (e : ys = mvIn dx dy i.toNat k.toNat xs) (hi : i.toNat < xs.length) (hk : k.toNat < (at_ xs i.toNat).Points.length) (hx : ∀ s ∈ xs, okStroke' s = true) :
    (0 ≤ (at_ (at_ ys i.toNat).Points k.toNat).X ∧ (at_ (at_ ys i.toNat).Points k.toNat).X ≤ 4095) ∧ (0 ≤ (at_ (at_ ys i.toNat).Points k.toNat).Y ∧ (at_ (at_ ys i.toNat).Points k.toNat).Y ≤ 4095) := by
  have hp : at_ (at_ ys i.toNat).Points k.toNat = at_ (at_ xs i.toNat).Points k.toNat := by rw [e, mvIn_at hi, mvTo_at hk]
  have := okP_iff.1 (okS_at (hx _ (at_mem hi)) hk)
  rw [hp]; exact ⟨this.1, this.2.1⟩
theorem mvIn_row (e : ys = mvIn dx dy i.toNat k.toNat xs) (hi : i.toNat < xs.length) : (at_ ys i.toNat).Points.length = (at_ xs i.toNat).Points.length := by rw [e, mvIn_at hi, mvTo_len]
theorem mv_hd {n : Nat} (hn : xs.length = n) (h : n = 0 ∨ (-4095 ≤ dx ∧ dx ≤ 4095 ∧ -4095 ≤ dy ∧ dy ≤ 4095)) : xs = [] ∨ (-4095 ≤ dx ∧ dx ≤ 4095 ∧ -4095 ≤ dy ∧ dy ≤ 4095) := by
  rcases h with h | h
  · left; exact List.eq_nil_of_length_eq_zero (by omega)
  · right; exact h
end

theorem at_takeT {α : Type} [Inhabited α] (xs : List α) {k j : Nat} (h : j < k) : at_ (xs.take k) j = at_ xs j := by simp [at_, List.getElem?_take, h]
theorem at_dropT {α : Type} [Inhabited α] (xs : List α) (f j : Nat) : at_ (xs.drop f) j = at_ xs (f + j) := by simp [at_]
theorem okI_iff {x : Ink} : okInk' x = true ↔ x.Strokes.length ≤ 16 ∧ ∀ j, j < x.Strokes.length → okSA x.Strokes j = true := by
  simp only [okInk', Bool.and_eq_true, decide_eq_true_eq]
  exact ⟨fun h => ⟨by omega, fun j hj => allN_get h.2 hj⟩, fun h => ⟨by omega, allN_at fun j hj => h.2 j hj⟩⟩
theorem okI_take {x : Ink} (h : okInk' x = true) (k : Nat) : okInk' ⟨x.Strokes.take k⟩ = true := by
  have q := okI_iff.1 h
  refine okI_iff.2 ⟨by simp only [List.length_take]; omega, fun j hj => ?_⟩
  simp only [List.length_take] at hj
  have := q.2 j (by omega)
  unfold okSA at *
  rw [at_takeT _ (show j < k by omega), at_takeT _ (show j - 1 < k by omega)]
  exact this
theorem okI_drop {x : Ink} (h : okInk' x = true) (f : Nat) : okInk' ⟨x.Strokes.drop f⟩ = true := by
  have q := okI_iff.1 h
  refine okI_iff.2 ⟨by simp only [List.length_drop]; omega, fun j hj => ?_⟩
  simp only [List.length_drop] at hj
  have := q.2 (f + j) (by omega)
  unfold okSA at *
  simp only [Bool.and_eq_true, Bool.or_eq_true, decide_eq_true_eq] at this ⊢
  rw [at_dropT]
  refine ⟨this.1, ?_⟩
  by_cases e : j = 0
  · exact .inl e
  · rw [at_dropT]
    rcases this.2 with h2 | h2
    · omega
    · rw [show f + j - 1 = f + (j - 1) from by omega] at h2; exact .inr h2
theorem ctI_take (xs : List Stroke) {k : Nat} : ∀ j, j ≤ k → ctI (xs.take k) j = ctI xs j
  | 0, _ => rfl
  | j + 1, h => by rw [ctI, ctI, ctI_take xs j (by omega), at_takeT _ (show j < k from h)]
theorem ctI_drop (xs : List Stroke) (f : Nat) : ∀ j, ctI xs f + ctI (xs.drop f) j = ctI xs (f + j)
  | 0 => by rw [ctI]; simp
  | j + 1 => by rw [ctI, ← Int.add_assoc, ctI_drop xs f j, at_dropT]; rfl
theorem mv_back (dx : Int) (x : Ink) : mpI (mvP (-dx) 0) (mpI (mvP dx 0) x) = x := by
  have e : (fun s => mpS (mvP (-dx) 0) (mpS (mvP dx 0) s)) = id := funext fun s => by
    cases s with
    | mk pts =>
      simp only [mpS, List.map_map]
      have : (mvP (-dx) 0 ∘ mvP dx 0) = id := funext fun p => by
        cases p
        simp only [Function.comp, mvP, id, Point.mk.injEq, and_true]
        omega
      rw [this]; simp
  unfold mpI
  rw [List.map_map]
  show (⟨x.Strokes.map (fun s => mpS (mvP (-dx) 0) (mpS (mvP dx 0) s))⟩ : Ink) = x
  rw [e]; simp
/-- Moved ink. -/
def mvR (dx dy : Int) (x : Ink) : Ink × Int := if (x.Strokes.length : Int) = 0 then (⟨[]⟩, 0) else if okInk' (mpI (mvP dx dy) x) = true then (mpI (mvP dx dy) x, 0) else (⟨[]⟩, 2)

-- impl.CutInk
theorem CutInk_ok (ik : Ink) (f : Int) (t : Int) (ok : okInk' ik = true) (hft : (0 ≤ f ∧ f ≤ t) ∧ t ≤ (ik.Strokes.length : Int)) : ∃ (v : Ink) (c : Int), (v = (⟨(ik.Strokes.take t.toNat).drop f.toNat⟩ : Ink)) ∧ (c = 0) ∧ Con Tryz.prog 15 [.agg [slStroke false ik.Strokes], I f, I t] true (.tup [.agg [slStroke true v.Strokes], I c]) := by
  have hil := okI_len ok
  have hh : ∃ r : Ink × Int, ((r.1 = (⟨(ik.Strokes.take t.toNat).drop f.toNat⟩ : Ink)) ∧ (r.2 = 0) ∧ (True)) ∧ CallOK Tryz.prog 15 [.agg [slStroke false ik.Strokes], I f, I t] (lookO []) true (.tup [.agg [slStroke true r.1.Strokes], I r.2]) (lookO []) := by
    refine fn_okX (Φ := fun r : Ink × Int => (r.1 = (⟨(ik.Strokes.take t.toNat).drop f.toNat⟩ : Ink)) ∧ (r.2 = 0) ∧ (True)) [] (fun r => []) (fn := Tryz.f15) (nt := 31) Tryz.func15 rfl rfl (args := [.agg [slStroke false ik.Strokes], I f, I t]) rfl (allcons (.inl ⟨rfl, by simp [tagged, taggedL, tagStroke]⟩) (allcons (.inl ⟨rfl, trivial⟩) (allcons (.inl ⟨rfl, trivial⟩) allnil))) (res := fun r => .tup [.agg [slStroke true r.1.Strokes], I r.2]) ?_
    refine xR [(0, .new 3), (1, .new 6)] [1, 2, 3, 6] [3, 6] [I f, I t, .ref 3 0, .ref 6 0] [some (.box [slStroke false ik.Strokes]), some (.box [nilA])] [] trivial ?_
    refine x_seq ?_
    refine xR [(1, .call [(true, .any)] true (Bv true))] [1, 2, 3, 6, 10] [3, 6] [I f, I t, .ref 3 0, .ref 6 0, Bv false] [some (.box [slStroke false ik.Strokes]), some (.box [nilA])] [Con Tryz.prog 13 [.agg [slStroke false ik.Strokes]] true (Bv true) ∧ True] ⟨⟨(con_bool ok (ValidInk_ok ik)), trivial⟩, trivial⟩ ?_
    refine x_false rfl ?_
    refine x_skip ?_
    refine xe_then ?_
    refine x_seq ?_
    refine xR [(2, .call [(true, .any), (true, .any), (true, .any)] true (Bv true)), (9, .dec false)] [1, 2, 3, 6, 22] [3, 6] [I f, I t, .ref 3 0, .ref 6 0, Bv false] [some (.box [slStroke false ik.Strokes]), some (.box [nilA])] [Con Tryz.prog 80 [I f, I 0, I t] true (Bv true) ∧ True, ¬ ((ik.Strokes.length : Int) < t)] ⟨⟨(con_bool (inB_iff.2 hft.1) (within_ok f 0 t)), trivial⟩, (by omega), trivial⟩ ?_
    refine x_false rfl ?_
    refine x_skip ?_
    refine xe_then ?_
    refine x_seq ?_
    obtain ⟨ss_1, hx1_0, hc1⟩ := copyInk_ok (Ink.mk ((ik.Strokes.take t.toNat).drop f.toNat)) (okI_mem (okI_drop (okI_take ok t.toNat) f.toNat)) (by first | omega | (dsimp only; omega) | (simp only [List.length_drop, List.length_take]; omega))
    refine x_r [(6, .lend [] [(8061, tOStroke 8062 ss_1), (8062, tFStroke ss_1)] [(false, .agg [slStroke false ((ik.Strokes.take t.toNat).drop f.toNat)])] false (.agg [.arr 8061]))] [6, 7] [6, 8061, 8062] [.ref 6 0, I 0] [some (.box [.arr 8061]), some (tOStroke 8062 ss_1), some (tFStroke ss_1)] [(0 : Int) ≤ f ∧ f ≤ t ∧ t ≤ (ik.Strokes.length : Int), CallOK Tryz.prog 81 [.agg [slStroke false ((ik.Strokes.take t.toNat).drop f.toNat)]] (lookO []) false (.agg [.arr 8061]) (lookO [(8061, tOStroke 8062 ss_1), (8062, tFStroke ss_1)]) ∧ (((false = true → false = true) ∧ 1 = 1 ∧ (t.toNat - f.toNat) = (((ik.Strokes.take t.toNat).drop f.toNat).length) ∧ ∀ i_, i_ < (((ik.Strokes.take t.toNat).drop f.toNat).length) → (cutF f.toNat (fStroke false ik.Strokes)) i_ = (fStroke false ((ik.Strokes.take t.toNat).drop f.toNat)) i_ ∨ (AV.idsL ((fStroke false ((ik.Strokes.take t.toNat).drop f.toNat)) i_) = [] ∧ leL (fun _ => none) false ((cutF f.toNat (fStroke false ik.Strokes)) i_) ((fStroke false ((ik.Strokes.take t.toNat).drop f.toNat)) i_))) ∧ ([] : List AV) = []) ∧ True] ⟨⟨(by omega), (by omega), (by omega)⟩, ⟨hc1, ⟨⟨(fun h => by cases h), rfl, (by first | rfl | (simp; done) | (simp; omega) | omega), fun i_ hi_ => .inl (cut_both (enc := (cStroke false)) hi_)⟩, rfl⟩, trivial⟩, trivial⟩ ?_
    refine xe_then ?_
    refine x_ret ?_
    refine xe_end ((Ink.mk ss_1), 0) (show ((Ink.mk ss_1) = (⟨(ik.Strokes.take t.toNat).drop f.toNat⟩ : Ink)) ∧ (0 = 0) ∧ (True) from ⟨(by first | rfl | (simp only [hx1_0]; done)), (by first | rfl | (simp only [hx1_0]; done)), trivial⟩) (trivial) (.tup [.agg [.arr 8061], I 0]) (by kernel_rfl) (.inr ⟨⟨⟨(fun _ => rfl), rfl, rfl, oleStroke _ _ rfl⟩, rfl⟩, ⟨rfl, rfl⟩⟩) (fun _ => rfl) (fun _ => (by simp [tagged, taggedL, tagStroke]))
  obtain ⟨⟨v, c⟩, ⟨hh0, hh1, _⟩, hc⟩ := hh
  exact ⟨v, c, hh0, hh1, hc⟩


-- impl.Point]
theorem cloneP0_ok (s : List Point) (hl : s.length ≤ 100000) : ∃ (out : List Point), (out = s) ∧ CallOK Tryz.prog 82 [slPoint false s] (lookO []) false (.arr 8391) (lookO [(8391, .arr 3 out.length (fPoint out))]) := by
  refine ⟨s, rfl, ?_⟩
  refine fn_okL [] [(8391, .arr 3 s.length (fPoint s))] (fn := Tryz.f82) (nt := 8) Tryz.func82 rfl rfl (args := [slPoint false s]) rfl (allcons (.inl ⟨rfl, tagPoint false _⟩) allnil) (res := .arr 8391) (fun B hB => ?_)
  refine aw_seq ?_
  refine aw_reg [] [0] [] [slPoint false s] [] [] (by kernel_rfl) hB trivial ?_
  refine ae_then ?_
  refine aw_seq ?_
  refine aw_seq ?_
  refine aw_reg [] [0, 4] [] [slPoint false s, .nilq s.length] [] [] (by kernel_rfl) hB trivial ?_
  refine ae_then ?_
  refine aw_nilq (n := s.length) rfl (fun h1 => ?_) ?_
  · refine aw_seq ?_
    refine aw_reg [] [2] [] [nilA] [] [] (by kernel_rfl) hB trivial ?_
    refine ae_then ?_
    refine aw_ret ?_
    refine ae_ret_then ?_
    refine ae_nil hB 2 8391 3 (fun _ => []) (by kernel_rfl) ?_
    refine ae_weak hB [] (T := [(2, .arr 8391)]) (O := [(8391, .arr 3 s.length (fPoint s))]) rfl (⟨.inl rfl, trivial⟩) (⟨.inr ⟨rfl, (by omega), fun i_ hi_ => absurd hi_ (by omega)⟩, trivial⟩) ?_
    refine ae_retL hB [(8391, .arr 3 s.length (fPoint s))] (⟨.inl rfl, trivial⟩) (.arr 8391) (by kernel_rfl) (.inl rfl) (fun h => by cases h) (fun h => by cases h)
  · refine aw_skip ?_
    refine ae_then ?_
    refine aw_seq ?_
    refine aw_reg [(0, .new 5), (2, .new 7)] [2] [7] [.arr 7] [some (.arr 3 (0 + s.length) (catF 0 (litF [] 3) (fPoint s)))] [(0 + s.length) * 24 ≤ 140737488355328] (by kernel_rfl) hB ⟨(by omega), trivial⟩ ?_
    refine ae_then ?_
    refine aw_ret ?_
    refine ae_weak hB [(8391, 7)] (T := [(2, .arr 8391)]) (O := [(8391, .arr 3 s.length (fPoint s))]) rfl (⟨.inl rfl, trivial⟩) (⟨.inr ⟨rfl, (by simp), fun i_ hi_ => .inl (cat_nil i_)⟩, trivial⟩) ?_
    refine ae_retL hB [(8391, .arr 3 s.length (fPoint s))] (⟨.inl rfl, trivial⟩) (.arr 8391) (by kernel_rfl) (.inl rfl) (fun h => by cases h) (fun h => by cases h)

theorem cloneP1_ok (s : List Point) (hl : s.length ≤ 100000) : ∃ (out : List Point), (out = s) ∧ CallOK Tryz.prog 82 [slPoint false s] (lookO []) false (.arr 8392) (lookO [(8392, .arr 3 out.length (fPoint out))]) := by
  refine ⟨s, rfl, ?_⟩
  refine fn_okL [] [(8392, .arr 3 s.length (fPoint s))] (fn := Tryz.f82) (nt := 8) Tryz.func82 rfl rfl (args := [slPoint false s]) rfl (allcons (.inl ⟨rfl, tagPoint false _⟩) allnil) (res := .arr 8392) (fun B hB => ?_)
  refine aw_seq ?_
  refine aw_reg [] [0] [] [slPoint false s] [] [] (by kernel_rfl) hB trivial ?_
  refine ae_then ?_
  refine aw_seq ?_
  refine aw_seq ?_
  refine aw_reg [] [0, 4] [] [slPoint false s, .nilq s.length] [] [] (by kernel_rfl) hB trivial ?_
  refine ae_then ?_
  refine aw_nilq (n := s.length) rfl (fun h1 => ?_) ?_
  · refine aw_seq ?_
    refine aw_reg [] [2] [] [nilA] [] [] (by kernel_rfl) hB trivial ?_
    refine ae_then ?_
    refine aw_ret ?_
    refine ae_ret_then ?_
    refine ae_nil hB 2 8392 3 (fun _ => []) (by kernel_rfl) ?_
    refine ae_weak hB [] (T := [(2, .arr 8392)]) (O := [(8392, .arr 3 s.length (fPoint s))]) rfl (⟨.inl rfl, trivial⟩) (⟨.inr ⟨rfl, (by omega), fun i_ hi_ => absurd hi_ (by omega)⟩, trivial⟩) ?_
    refine ae_retL hB [(8392, .arr 3 s.length (fPoint s))] (⟨.inl rfl, trivial⟩) (.arr 8392) (by kernel_rfl) (.inl rfl) (fun h => by cases h) (fun h => by cases h)
  · refine aw_skip ?_
    refine ae_then ?_
    refine aw_seq ?_
    refine aw_reg [(0, .new 5), (2, .new 7)] [2] [7] [.arr 7] [some (.arr 3 (0 + s.length) (catF 0 (litF [] 3) (fPoint s)))] [(0 + s.length) * 24 ≤ 140737488355328] (by kernel_rfl) hB ⟨(by omega), trivial⟩ ?_
    refine ae_then ?_
    refine aw_ret ?_
    refine ae_weak hB [(8392, 7)] (T := [(2, .arr 8392)]) (O := [(8392, .arr 3 s.length (fPoint s))]) rfl (⟨.inl rfl, trivial⟩) (⟨.inr ⟨rfl, (by simp), fun i_ hi_ => .inl (cat_nil i_)⟩, trivial⟩) ?_
    refine ae_retL hB [(8392, .arr 3 s.length (fPoint s))] (⟨.inl rfl, trivial⟩) (.arr 8392) (by kernel_rfl) (.inl rfl) (fun h => by cases h) (fun h => by cases h)


-- impl.AddStroke
theorem AddStroke_ok (ik : Ink) (sk : Stroke) (ok : okInk' ik = true) (oks : okStroke' sk = true) (okn : okInk' ⟨ik.Strokes ++ [sk]⟩ = true) (hl : ik.Strokes.length < 16) : ∃ (v : Ink) (c : Int), (v = (⟨ik.Strokes ++ [sk]⟩ : Ink)) ∧ (c = 0) ∧ Con Tryz.prog 16 [.agg [slStroke false ik.Strokes], .agg [slPoint false sk.Points]] true (.tup [.agg [slStroke true v.Strokes], I c]) := by
  have hpl := okS_len oks
  have hh : ∃ r : Ink × Int, ((r.1 = (⟨ik.Strokes ++ [sk]⟩ : Ink)) ∧ (r.2 = 0) ∧ (True)) ∧ CallOK Tryz.prog 16 [.agg [slStroke false ik.Strokes], .agg [slPoint false sk.Points]] (lookO []) true (.tup [.agg [slStroke true r.1.Strokes], I r.2]) (lookO []) := by
    refine fn_okX (Φ := fun r : Ink × Int => (r.1 = (⟨ik.Strokes ++ [sk]⟩ : Ink)) ∧ (r.2 = 0) ∧ (True)) [] (fun r => []) (fn := Tryz.f16) (nt := 39) Tryz.func16 rfl rfl (args := [.agg [slStroke false ik.Strokes], .agg [slPoint false sk.Points]]) rfl (allcons (.inl ⟨rfl, by simp [tagged, taggedL, tagStroke]⟩) (allcons (.inl ⟨rfl, by simp [tagged, taggedL, tagPoint]⟩) allnil)) (res := fun r => .tup [.agg [slStroke true r.1.Strokes], I r.2]) ?_
    refine xR [(0, .new 2), (1, .new 3), (2, .new 4)] [2, 3, 4] [2, 3, 4] [.ref 2 0, .ref 3 0, .ref 4 0] [some (.box [slStroke false ik.Strokes]), some (.box [slPoint false sk.Points]), some (.box [nilA])] [] trivial ?_
    refine x_seq ?_
    refine x_block ?_
    refine xR [(1, .call [(true, .any)] true (Bv true)), (5, .call [(true, .any)] true (Bv true))] [2, 3, 4, 7] [2, 3, 4] [.ref 2 0, .ref 3 0, .ref 4 0, Bv false] [some (.box [slStroke false ik.Strokes]), some (.box [slPoint false sk.Points]), some (.box [nilA])] [Con Tryz.prog 13 [.agg [slStroke false ik.Strokes]] true (Bv true) ∧ True, Con Tryz.prog 77 [.agg [slPoint false sk.Points]] true (Bv true) ∧ True] ⟨⟨(con_bool ok (ValidInk_ok ik)), trivial⟩, ⟨(con_bool oks (ValidStroke_ok sk)), trivial⟩, trivial⟩ ?_
    refine x_false rfl ?_
    refine xR [(3, .dec false)] [2, 3, 4, 17] [2, 3, 4] [.ref 2 0, .ref 3 0, .ref 4 0, Bv false] [some (.box [slStroke false ik.Strokes]), some (.box [slPoint false sk.Points]), some (.box [nilA])] [¬ (16 ≤ (ik.Strokes.length : Int))] ⟨(by omega), trivial⟩ ?_
    refine x_false rfl ?_
    refine x_skip ?_
    refine xe_block 0 ?_
    refine xe_then ?_
    refine x_seq ?_
    obtain ⟨ss_1, hx1_0, hc1⟩ := copyInk_ok ik (okI_mem ok) (by first | omega | (dsimp only; omega) | (simp only [List.length_drop, List.length_take]; omega))
    have hcl : ss_1.length = ik.Strokes.length := by rw [hx1_0]
    refine x_r [(1, .lend [] [(8061, tOStroke 8062 ss_1), (8062, tFStroke ss_1)] [(true, .any)] false (.agg [.arr 8061])), (2, .new 6)] [3, 4, 6] [3, 4, 6, 8061, 8062] [.ref 3 0, .ref 4 0, .ref 6 0] [some (.box [slPoint false sk.Points]), some (.box [nilA]), some (.box [.arr 8061]), some (tOStroke 8062 ss_1), some (tFStroke ss_1)] [CallOK Tryz.prog 81 [.agg [slStroke false ik.Strokes]] (lookO []) false (.agg [.arr 8061]) (lookO [(8061, tOStroke 8062 ss_1), (8062, tFStroke ss_1)]) ∧ True] ⟨⟨hc1, trivial⟩, trivial⟩ ?_
    refine xe_then ?_
    refine x_cut (X := (List Stroke)) (fun x => mkS [(4, .ref 4 0), (6, .ref 6 0)] [(4, .box [nilA]), (6, .box [.arr 8061]), (8061, tOStroke 8062 x), (8062, tFStroke x)]) (fun x => (x = ik.Strokes ++ [sk]) ∧ True) ?_ (fun x hI => ?_)
    ·obtain ⟨out_2, hx2_0, hc2⟩ := cloneP0_ok sk.Points (by omega)
     refine x_r [(4, .lend [] [(8391, tAPoint out_2)] [(true, .any)] false (.arr 8391)), (6, .new 31), (7, .new 32)] [4, 6] [4, 6, 32, 8062, 8391] [.ref 4 0, .ref 6 0] [some (.box [nilA]), some (.box [.arr 32]), some (.oar [8062, 8391] 1 (ss_1.length + 1) (catF ss_1.length (oStroke 8062 ss_1) (litF [.arr 8391] 1))), some (tFStroke ss_1), some (tAPoint out_2)] [CallOK Tryz.prog 82 [slPoint false sk.Points] (lookO []) false (.arr 8391) (lookO [(8391, tAPoint out_2)]) ∧ True, (ss_1.length + 1) * 24 ≤ 140737488355328] ⟨⟨hc2, trivial⟩, (by omega), trivial⟩ ?_
     refine xe_join 8391 8062 rfl rfl rfl ?_
     refine xe_weak [(8061, 32)] (T := [(4, .ref 4 0), (6, .ref 6 0)]) (O := [(4, .box [nilA]), (6, .box [.arr 8061]), (8061, tOStroke 8062 (ss_1 ++ [(Stroke.mk out_2)])), (8062, tFStroke (ss_1 ++ [(Stroke.mk out_2)]))]) rfl (⟨.inl rfl, .inl rfl, trivial⟩) (⟨.inl rfl, .inl rfl, .inr ⟨rfl, rfl, (by simp), fun i hi => .inl (ocatStroke rfl rfl rfl i hi)⟩, .inr (fcatStroke (Stroke.mk out_2) (by first | rfl | (simp; done)) (fun i_ hi_ => (by first | rfl | fail))), trivial⟩) (xe_cut (ss_1 ++ [(Stroke.mk out_2)]) rfl (show ((ss_1 ++ [(Stroke.mk out_2)]) = ik.Strokes ++ [sk]) ∧ True from ⟨(by simp only [*]), trivial⟩))
    obtain ⟨ss, hxx⟩ : ∃ ss : List Stroke, ss = x := ⟨x, rfl⟩
    subst hxx
    obtain ⟨hss, _⟩ : (ss = ik.Strokes ++ [sk]) ∧ True := hI
    show XW _ _ _ _ (mkS [(4, .ref 4 0), (6, .ref 6 0)] [(4, .box [nilA]), (6, .box [.arr 8061]), (8061, tOStroke 8062 ss), (8062, tFStroke ss)]) _ _
    refine x_seq ?_
    refine xR [(1, .call [(false, .agg [slStroke false ss])] true (Bv true))] [4, 6, 36] [4, 6, 8061, 8062] [.ref 4 0, .ref 6 0, Bv false] [some (.box [nilA]), some (.box [.arr 8061]), some (tOStroke 8062 ss), some (tFStroke ss)] [Con Tryz.prog 13 [.agg [slStroke false ss]] true (Bv true) ∧ (((false = true → true = true) ∧ 1 = 1 ∧ ss.length = ss.length ∧ ∀ i_, i_ < ss.length → AV.idsL ((fStroke false ss) i_) = [] ∧ leL (lookO [(8062, tFStroke ss)]) true ((oStroke 8062 ss) i_) ((fStroke false ss) i_)) ∧ ([] : List AV) = []) ∧ True] ⟨⟨(con_bool (by first | (simp only [*]; done) | (simp only [*]; exact okn)) (ValidInk_ok (Ink.mk ss))), ⟨⟨(fun h => by cases h), rfl, rfl, oleStroke _ _ rfl⟩, rfl⟩, trivial⟩, trivial⟩ ?_
    refine x_false rfl ?_
    refine x_skip ?_
    refine xe_then ?_
    refine xR [] [4, 5] [4, 8061, 8062] [.ref 4 0, I 0] [some (.box [.arr 8061]), some (tOStroke 8062 ss), some (tFStroke ss)] [] trivial ?_
    refine x_ret ?_
    refine xe_end ((Ink.mk ss), 0) (show ((Ink.mk ss) = (⟨ik.Strokes ++ [sk]⟩ : Ink)) ∧ (0 = 0) ∧ (True) from ⟨(by first | rfl | (simp only [*]; done)), (by first | rfl | (simp only [*]; done)), trivial⟩) (trivial) (.tup [.agg [.arr 8061], I 0]) (by kernel_rfl) (.inr ⟨⟨⟨(fun _ => rfl), rfl, rfl, oleStroke _ _ rfl⟩, rfl⟩, ⟨rfl, rfl⟩⟩) (fun _ => rfl) (fun _ => (by simp [tagged, taggedL, tagStroke]))
  obtain ⟨⟨v, c⟩, ⟨hh0, hh1, _⟩, hc⟩ := hh
  exact ⟨v, c, hh0, hh1, hc⟩


-- impl.PointCount
theorem PointCount_ok (ik : Ink) : Con Tryz.prog 17 [.agg [slStroke false ik.Strokes]] true (.tup [I ((ptcR ik).1), I ((ptcR ik).2)]) := by
  refine fn_ok (fn := Tryz.f17) (nt := 24) Tryz.func17 rfl rfl rfl rfl (by simp [taggedL, tagged, tagStroke]) fun B hB => ?_
  refine aw_lens (x := .agg [slStroke false ik.Strokes]) 0 rfl (fun len_ik => ?_)
  simp [LenOK, LenL, cPoint, cStroke, fPoint, fStroke, slPoint, slStroke] at len_ik
  refine aR [(0, .new 1)] [1] [1] [.ref 1 0] [some (.box [slStroke false ik.Strokes])] [] hB trivial ?_
  refine aw_seq ?_
  refine aw_seq ?_
  rcases Bool.eq_false_or_eq_true (okInk' ik) with h1 | h1
  ·have hil := okI_len h1
   refine aw_r [(1, .call [(true, .any)] true (Bv true))] [1, 9] [1] [.ref 1 0, Bv false] [some (.box [slStroke false ik.Strokes])] [Con Tryz.prog 13 [.agg [slStroke false ik.Strokes]] true (Bv true) ∧ True] hB ⟨⟨(con_bool h1 (ValidInk_ok ik)), trivial⟩, trivial⟩ ?_
   refine ae_then ?_
   refine aw_false rfl ?_
   refine aw_skip ?_
   refine ae_then ?_
   refine aR [] [1, 4] [1] [.ref 1 0, I 0] [some (.box [slStroke false ik.Strokes])] [] hB trivial ?_
   refine aw_seq ?_
   refine aR [] [4, 11, 12, 13] [] [I 0, slStroke false ik.Strokes, I (ik.Strokes.length : Int), I 0] [] [] hB trivial ?_
   refine aw_block ?_
   refine aw_loop (fun gn gσ => ∃ (count : Int) (t13 : Int), gn = ((ik.Strokes.length : Int) - t13).toNat ∧ (0 ≤ t13 ∧ t13 ≤ (ik.Strokes.length : Int)) ∧ (count = ctI ik.Strokes t13.toNat) ∧ gσ = mkS [(4, I count), (11, slStroke false ik.Strokes), (12, I (ik.Strokes.length : Int)), (13, I t13)] []) (((ik.Strokes.length : Int) - 0).toNat) ⟨0, 0, rfl, (by omega), (by rfl), rfl⟩ (fun gn gσ hI => ?_)
   obtain ⟨count, t13, rfl, hi0, hs0, rfl⟩ := hI
   refine aw_seq ?_
   by_cases h2 : t13 < (ik.Strokes.length : Int)
   ·have hi : t13.toNat < ik.Strokes.length := by omega
    have hcb := ctI_bd h1 t13.toNat (by omega)
    have hos := okI_all h1 _ hi
    have hol := okS_len hos
    refine aw_r [(0, .dec true)] [4, 11, 12, 13, 14] [] [I count, slStroke false ik.Strokes, I (ik.Strokes.length : Int), I t13, Bv true] [] [t13 < (ik.Strokes.length : Int)] hB ⟨h2, trivial⟩ ?_
    refine ae_then ?_
    refine aw_seq ?_
    refine aw_true rfl ?_
    refine aw_skip ?_
    refine ae_then ?_
    refine aw_seq ?_
    refine aw_block ?_
    refine aR [(2, .new 6)] [4, 6, 11, 12, 13] [6] [I count, .ref 6 0, slStroke false ik.Strokes, I (ik.Strokes.length : Int), I t13] [some (.box [slPoint false ((at_ ik.Strokes t13.toNat).Points)])] [(0 : Int) ≤ t13 ∧ t13 < (ik.Strokes.length : Int)] hB ⟨⟨(by omega), (by omega)⟩, trivial⟩ ?_
    refine aw_r [] [4, 11, 12, 13] [] [I (count + ((((at_ ik.Strokes t13.toNat).Points).length) : Int)), slStroke false ik.Strokes, I (ik.Strokes.length : Int), I t13] [] [inR .i64 (count + ((((at_ ik.Strokes t13.toNat).Points).length) : Int))] hB ⟨(inR_i64 (by omega) (by omega)), trivial⟩ ?_
    refine ae_block 1 ?_
    refine ae_then ?_
    refine aw_r [] [4, 11, 12, 13] [] [I (count + ((((at_ ik.Strokes t13.toNat).Points).length) : Int)), slStroke false ik.Strokes, I (ik.Strokes.length : Int), I (t13 + 1)] [] [inR .i64 (t13 + 1)] hB ⟨(inR_i64 (by omega) (by omega)), trivial⟩ ?_
    exact ae_again _ (by omega) ⟨(count + ((((at_ ik.Strokes t13.toNat).Points).length) : Int)), (t13 + 1), rfl, (by omega), (by rw [ctI_1 hi0.1, ← hs0]), rfl⟩
   have hie : t13.toNat = ik.Strokes.length := by omega
   rw [hie] at hs0
   refine aw_r [(0, .dec false)] [4, 11, 12, 13, 14] [] [I count, slStroke false ik.Strokes, I (ik.Strokes.length : Int), I t13, Bv false] [] [¬ (t13 < (ik.Strokes.length : Int))] hB ⟨h2, trivial⟩ ?_
   refine ae_then ?_
   refine aw_seq ?_
   refine aw_false rfl ?_
   refine aw_exit ?_
   refine ae_exit_then ?_
   refine ae_exit_then ?_
   refine ae_exit_same ?_
   refine ae_then ?_
   refine aR [] [2, 3] [] [I count, I 0] [] [] hB trivial ?_
   refine aw_ret ?_
   refine ae_ret hB (.tup [I count, I 0]) (by kernel_rfl) (.inl (by first | (simp [ptcR, *]; done) | (rw [hs0] at *; simp [ptcR, *]))) rfl (fun _ => (by simp [tagged, taggedL]))
  refine aw_r [(1, .call [(true, .any)] true (Bv false))] [1, 9] [1] [.ref 1 0, Bv true] [some (.box [slStroke false ik.Strokes])] [Con Tryz.prog 13 [.agg [slStroke false ik.Strokes]] true (Bv false) ∧ True] hB ⟨⟨(con_bool h1 (ValidInk_ok ik)), trivial⟩, trivial⟩ ?_
  refine ae_then ?_
  refine aw_true rfl ?_
  refine aR [] [2, 3] [] [I 0, I 1] [] [] hB trivial ?_
  refine aw_ret ?_
  refine ae_ret_then ?_
  refine ae_ret hB (.tup [I 0, I 1]) (by kernel_rfl) (.inl (by first | (simp [ptcR, *]; done) | (rw [hs0] at *; simp [ptcR, *]))) rfl (fun _ => (by simp [tagged, taggedL]))


-- impl.MoveInk$1
theorem moveInk1_ok (p : Point) (dx : Int) (dy : Int) (hd : (-4095 ≤ dx ∧ dx ≤ 4095) ∧ -4095 ≤ dy ∧ dy ≤ 4095) (hp : okP p = true) : Con Tryz.prog 84 [agPoint p, .ptr false [I dx], .ptr false [I dy]] true (agPoint (mvP dx dy p)) := by
  have hpp := okP_iff.1 hp
  refine fn_ok (fn := Tryz.f84) (nt := 16) Tryz.func84 rfl rfl rfl rfl (by simp [taggedL, tagged]) fun B hB => ?_
  refine aR [(0, .new 3), (1, .new 4)] [1, 2, 3, 4] [3, 4] [.ptr false [I dx], .ptr false [I dy], .ref 3 0, .ref 4 0] [some (bxPoint p), some (.box [I 0, I 0, I 0])] [] hB trivial ?_
  refine aR [] [4] [4] [.ref 4 0] [some (.box [I (p.X + dx), I (p.Y + dy), I p.T])] [inR .i64 (p.X + dx), inR .i64 (p.Y + dy)] hB ⟨(inR_i64 (by omega) (by omega)), (inR_i64 (by omega) (by omega)), trivial⟩ ?_
  refine aw_ret ?_
  refine ae_ret hB (.agg [I (p.X + dx), I (p.Y + dy), I p.T]) (by kernel_rfl) (.inl (by first | rfl | (refine congrArg Bv ?_; simp [*]; done) | (refine congrArg Bv ?_; simp [*]; omega) | (refine congrArg Bv ?_; simp_all []; done) | (refine congrArg Bv ?_; simp_all []; omega))) rfl (fun _ => (by simp [tagged, taggedL]))

end Go.Proofs.YthlghckgnanlpaaGreatDoor.Ax
