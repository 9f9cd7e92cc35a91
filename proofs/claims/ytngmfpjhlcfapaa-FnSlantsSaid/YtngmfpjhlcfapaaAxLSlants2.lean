/- Contracts that the statement FnSlants reaches, part 2. No conditions. -/
import Derived.Test.YtngmfpjhlcfapaaAxLSlants1
namespace Go.Proofs.Ytngmfpjhlcfapaa.Ax
open Go.RowKit Go.ChangeShapes Go.WideShapes
set_option linter.unusedVariables false
set_option linter.unusedSimpArgs false


/-- The lengths up to the first k points. -/
def arcsL (xs : List Point) (k : Nat) : List Int := (List.range k).map fun j => sumS xs (j + 1)
theorem arcsL_len (xs : List Point) (k : Nat) : (arcsL xs k).length = k := by simp [arcsL]
theorem arcsL_at {xs : List Point} {k j : Nat} (h : j < k) : at_ (arcsL xs k) j = sumS xs (j + 1) := by simp [at_, arcsL, h]
theorem arcsL_succ (xs : List Point) (k : Nat) : arcsL xs (k + 1) = arcsL xs k ++ [sumS xs (k + 1)] := by simp [arcsL, List.range_succ]
theorem sumS_bd {s : Stroke} (ok : okStroke' s = true) : ∀ k : Nat, k ≤ s.Points.length → 0 ≤ sumS s.Points k ∧ sumS s.Points k ≤ 92659 * k
  | 0, _ => by simp [sumS]
  | k + 1, h => by
    have ih := sumS_bd ok k (by omega)
    unfold sumS
    split
    · omega
    · have := segI_bd (okS_at ok (j := k - 1) (by omega)) (okS_at ok (j := k) (by omega))
      omega

def caretB (s : Stroke) : Bool :=
  let b := boxS s.Points s.Points.length
  decide (0 < b.Y2 - b.Y1) && (decide (b.Y2 - b.Y1 ≤ 2 * ((at_ s.Points 0).Y - b.Y1)) && (decide (b.Y2 - b.Y1 ≤ 2 * ((at_ s.Points (s.Points.length - 1)).Y - b.Y1)) && decide ((revS s.Points s.Points.length).1 = 0)))
/-- The segment from a stroke's first point to its last one. -/
def endsI (s : Stroke) : Int := segI (at_ s.Points 0) (at_ s.Points (s.Points.length - 1))
def strI (s : Stroke) : Int := if sumS s.Points s.Points.length = 0 then 1000 else min 1000 (1000 * endsI s / sumS s.Points s.Points.length)
/-- The gesture of a stroke. -/
def gestI (s : Stroke) : Int :=
  if sumS s.Points s.Points.length ≤ 160 then 1 else if 3 ≤ (revS s.Points s.Points.length).1 then 2
  else if 6 ≤ ((bendT s).natAbs : Int) ∧ 4 * endsI s ≤ sumS s.Points s.Points.length then 3 else if caretB s = true then 4 else if 900 ≤ strI s then 5 else 0
def gestR (s : Stroke) : Int × Int := if okStroke' s then (gestI s, 0) else (0, 1)
theorem ends_bd {s : Stroke} (ok : okStroke' s = true) : 0 ≤ endsI s ∧ endsI s ≤ 92659 := by
  have := okS_len ok
  exact (segI_bd (okS_at ok (by omega)) (okS_at ok (by omega))).2

def mvP (dx dy : Int) (p : Point) : Point := ⟨p.X + dx, p.Y + dy, p.T⟩
def mvS (dx dy : Int) (s : Stroke) : Stroke := ⟨s.Points.map (mvP dx dy)⟩
/-- Ink at another place. -/
def mvI (dx dy : Int) (x : Ink) : Ink := ⟨x.Strokes.map (mvS dx dy)⟩
theorem mvI_len (dx dy : Int) (x : Ink) : (mvI dx dy x).Strokes.length = x.Strokes.length := by simp [mvI]
theorem mvS_len (dx dy : Int) (s : Stroke) : (mvS dx dy s).Points.length = s.Points.length := by simp [mvS]
theorem mvS_at {dx dy : Int} {s : Stroke} {j : Nat} (h : j < s.Points.length) : at_ (mvS dx dy s).Points j = mvP dx dy (at_ s.Points j) := by simp [at_, mvS, h]
theorem mvI_at {dx dy : Int} {x : Ink} {j : Nat} (h : j < x.Strokes.length) : at_ (mvI dx dy x).Strokes j = mvS dx dy (at_ x.Strokes j) := by simp [at_, mvI, h]
/-- The first k points are moved. -/
def mvTo (dx dy : Int) (k : Nat) (s : Stroke) : Stroke := ⟨(s.Points.take k).map (mvP dx dy) ++ s.Points.drop k⟩
/-- The first i strokes are moved. -/
def mvFst (dx dy : Int) (i : Nat) (xs : List Stroke) : List Stroke := (xs.take i).map (mvS dx dy) ++ xs.drop i
theorem mvTo_zero (dx dy : Int) (s : Stroke) : mvTo dx dy 0 s = s := by simp [mvTo]
theorem mvTo_all {dx dy : Int} {k : Nat} {s : Stroke} (h : s.Points.length ≤ k) : mvTo dx dy k s = mvS dx dy s := by simp [mvTo, mvS, List.take_of_length_le h, List.drop_eq_nil_of_le h]
theorem mvTo_len (dx dy : Int) (k : Nat) (s : Stroke) : (mvTo dx dy k s).Points.length = s.Points.length := by simp [mvTo]; omega
theorem mvTo_at {dx dy : Int} {k : Nat} {s : Stroke} (h : k < s.Points.length) : at_ (mvTo dx dy k s).Points k = at_ s.Points k := by
  simp [at_, mvTo, h, Nat.le_of_lt h, List.getElem?_append]
theorem mvTo_succ {dx dy : Int} {k : Nat} {s : Stroke} (h : k < s.Points.length) : mvTo dx dy (k + 1) s = ⟨(mvTo dx dy k s).Points.set k (mvP dx dy (at_ s.Points k))⟩ := by
  unfold mvTo
  simp only [Stroke.mk.injEq]
  rw [List.take_succ_eq_append_getElem h, List.set_append_right _ _ (by simp [Nat.le_of_lt h]), List.drop_eq_getElem_cons h, at_eq h]
  simp only [List.map_append, List.map_cons, List.map_nil, List.length_map, List.length_take, Nat.min_eq_left (Nat.le_of_lt h), Nat.sub_self, List.set_cons_zero, List.append_assoc, List.cons_append, List.nil_append]
theorem mvFst_zero (dx dy : Int) (xs : List Stroke) : mvFst dx dy 0 xs = xs := by simp [mvFst]
theorem mvFst_len (dx dy : Int) (i : Nat) (xs : List Stroke) : (mvFst dx dy i xs).length = xs.length := by simp [mvFst]; omega
theorem mvFst_all {dx dy : Int} {i : Nat} {xs : List Stroke} (h : xs.length ≤ i) : mvFst dx dy i xs = xs.map (mvS dx dy) := by simp [mvFst, List.take_of_length_le h, List.drop_eq_nil_of_le h]
theorem mvFst_at {dx dy : Int} {i : Nat} {xs : List Stroke} (h : i < xs.length) : at_ (mvFst dx dy i xs) i = at_ xs i := by
  simp [at_, mvFst, h, Nat.le_of_lt h, List.getElem?_append]
theorem mvFst_succ {dx dy : Int} {i : Nat} {xs : List Stroke} (h : i < xs.length) : mvFst dx dy (i + 1) xs = (mvFst dx dy i xs).set i (mvS dx dy (at_ xs i)) := by
  unfold mvFst
  rw [List.take_succ_eq_append_getElem h, List.set_append_right _ _ (by simp [Nat.le_of_lt h]), List.drop_eq_getElem_cons h, at_eq h]
  simp only [List.map_append, List.map_cons, List.map_nil, List.length_map, List.length_take, Nat.min_eq_left (Nat.le_of_lt h), Nat.sub_self, List.set_cons_zero, List.append_assoc, List.cons_append, List.nil_append]
/-- The stroke at i, of which the first k points are moved. -/
def mvIn (dx dy : Int) (i k : Nat) (xs : List Stroke) : List Stroke := (mvFst dx dy i xs).set i (mvTo dx dy k (at_ xs i))
theorem mvIn_zero {dx dy : Int} {i : Nat} {xs : List Stroke} (h : i < xs.length) : mvIn dx dy i 0 xs = mvFst dx dy i xs := by
  have hl : i < (mvFst dx dy i xs).length := by rw [mvFst_len]; exact h
  rw [mvIn, mvTo_zero]
  have := mvFst_at (dx := dx) (dy := dy) h
  conv => lhs; rw [← this]
  simp [at_, hl]
theorem mvIn_len (dx dy : Int) (i k : Nat) (xs : List Stroke) : (mvIn dx dy i k xs).length = xs.length := by simp [mvIn, mvFst_len]
theorem mvIn_at {dx dy : Int} {i k : Nat} {xs : List Stroke} (h : i < xs.length) : at_ (mvIn dx dy i k xs) i = mvTo dx dy k (at_ xs i) := by
  have hl : i < (mvFst dx dy i xs).length := by rw [mvFst_len]; exact h
  simp [mvIn, at_, hl]
theorem mvIn_succ {dx dy : Int} {i k : Nat} {xs : List Stroke} (h : i < xs.length) (hk : k < (at_ xs i).Points.length) : mvIn dx dy i (k + 1) xs = (mvIn dx dy i k xs).set i ⟨(at_ (mvIn dx dy i k xs) i).Points.set k (mvP dx dy (at_ (at_ xs i).Points k))⟩ := by
  rw [mvIn_at h, mvIn, mvTo_succ hk, mvIn, List.set_set]
theorem mvIn_all {dx dy : Int} {i k : Nat} {xs : List Stroke} (h : i < xs.length) (hk : (at_ xs i).Points.length ≤ k) : mvIn dx dy i k xs = mvFst dx dy (i + 1) xs := by
  rw [mvIn, mvTo_all hk, mvFst_succ h]
section
variable {dx dy : Int} {s : Stroke}
theorem far_mv (a b : Point) : farI (mvP dx dy a) (mvP dx dy b) = farI a b := by
  have e1 : a.X + dx - (b.X + dx) = a.X - b.X := by omega
  have e2 : a.Y + dy - (b.Y + dy) = a.Y - b.Y := by omega
  simp only [farI, mvP, e1, e2]
theorem seg_mv (a b : Point) : segI (mvP dx dy a) (mvP dx dy b) = segI a b := by rw [segI, far_mv]; rfl
theorem sum_mv : ∀ k, k ≤ s.Points.length → sumS (mvS dx dy s).Points k = sumS s.Points k
  | 0, _ => rfl
  | k + 1, h => by
    rw [sumS, sumS, sum_mv k (by omega)]
    split
    · rfl
    · rw [mvS_at (by omega), mvS_at (by omega), seg_mv]
theorem rev_mv : ∀ k, k ≤ s.Points.length → revS (mvS dx dy s).Points k = revS s.Points k
  | 0, _ => rfl
  | k + 1, h => by
    rw [revS, revS, rev_mv k (by omega)]
    split
    · rfl
    · rw [mvS_at (by omega), mvS_at (by omega)]
      have e1 : (at_ s.Points k).X + dx - ((at_ s.Points (k - 1)).X + dx) = (at_ s.Points k).X - (at_ s.Points (k - 1)).X := by omega
      simp only [mvP, e1]
theorem dirs_mv : ∀ k, k ≤ s.Points.length → dirsL (mvS dx dy s).Points k = dirsL s.Points k
  | 0, _ => rfl
  | k + 1, h => by
    rw [dirsL, dirsL, dirs_mv k (by omega)]
    by_cases hk : k = 0
    · subst hk; simp
    · rw [mvS_at (by omega), mvS_at (by omega)]
      have e1 : (at_ s.Points k).X + dx - ((at_ s.Points (k - 1)).X + dx) = (at_ s.Points k).X - (at_ s.Points (k - 1)).X := by omega
      have e2 : (at_ s.Points k).Y + dy - ((at_ s.Points (k - 1)).Y + dy) = (at_ s.Points k).Y - (at_ s.Points (k - 1)).Y := by omega
      simp only [mvP, e1, e2]
def mvB (dx dy : Int) (b : Box) : Box := ⟨b.X1 + dx, b.Y1 + dy, b.X2 + dx, b.Y2 + dy⟩
theorem box_mv (h1 : 1 ≤ s.Points.length) : ∀ k, k ≤ s.Points.length → boxS (mvS dx dy s).Points k = mvB dx dy (boxS s.Points k)
  | 0, _ => by rw [boxS, boxS, mvS_at (by omega)]; rfl
  | k + 1, h => by
    rw [boxS, boxS, box_mv h1 k (by omega), mvS_at (by omega)]
    simp only [joinB, mvB, ptB, mvP, Box.mk.injEq]
    omega
theorem caret_mv (h1 : 1 ≤ s.Points.length) : caretB (mvS dx dy s) = caretB s := by
  unfold caretB
  simp only [mvS_len]
  rw [box_mv h1 _ (Nat.le_refl _), rev_mv _ (Nat.le_refl _), mvS_at (by omega), mvS_at (by omega)]
  generalize boxS s.Points s.Points.length = b
  generalize at_ s.Points 0 = p
  generalize at_ s.Points (s.Points.length - 1) = q
  have e1 : (mvB dx dy b).Y2 - (mvB dx dy b).Y1 = b.Y2 - b.Y1 := by simp only [mvB]; omega
  have e2 : (mvP dx dy p).Y - (mvB dx dy b).Y1 = p.Y - b.Y1 := by simp only [mvB, mvP]; omega
  have e3 : (mvP dx dy q).Y - (mvB dx dy b).Y1 = q.Y - b.Y1 := by simp only [mvB, mvP]; omega
  rw [e1, e2, e3]
theorem ends_mv (h1 : 1 ≤ s.Points.length) : endsI (mvS dx dy s) = endsI s := by
  unfold endsI
  rw [mvS_len, mvS_at (by omega), mvS_at (by omega), seg_mv]
theorem bendT_mv : bendT (mvS dx dy s) = bendT s := by
  unfold bendT
  rw [mvS_len, dirs_mv _ (Nat.le_refl _)]
/-- A gesture does not depend on where it is made. -/
theorem gest_mv (h1 : 1 ≤ s.Points.length) : gestI (mvS dx dy s) = gestI s := by
  unfold gestI strI
  rw [mvS_len, sum_mv _ (Nat.le_refl _), rev_mv _ (Nat.le_refl _), bendT_mv, ends_mv h1, caret_mv h1]
end

def sameL {α : Type} [Inhabited α] [DecidableEq α] (a b : List α) : Bool := decide (a.length = b.length) && allN a.length (fun j => decide (at_ a j = at_ b j))
theorem sameL_refl {α : Type} [Inhabited α] [DecidableEq α] (a : List α) : sameL a a = true := by simp [sameL, allN_iff]

/-- A point without a slant. -/
def strP (slant base : Int) (p : Point) : Point := ⟨p.X - nearI (slant * (base - p.Y)) 256, p.Y, p.T⟩
theorem mulA_bd {x y A B : Int} (h0 : -A ≤ x) (h1 : x ≤ A) (h2 : -B ≤ y) (h3 : y ≤ B) : -(A * B) ≤ x * y ∧ x * y ≤ A * B := by
  rcases Int.le_total 0 y with h | h
  · exact mulS_bd h0 h1 h h3
  · have := mulS_bd h0 h1 (by omega : 0 ≤ -y) (by omega : -y ≤ B)
    rw [Int.mul_neg] at this; omega
theorem near_abs (n : Int) {d : Int} (hd : 0 < d) : -(((2 * n + d).natAbs : Nat) : Int) ≤ nearI n d ∧ nearI n d ≤ (((2 * n + d).natAbs : Nat) : Int) := ediv_bd _ (by omega)
/-- What an ink becomes without a slant, and a code. -/
def strgR (x : Ink) (slant base : Int) : Ink × Int :=
  if okInk' x = true then (if inB slant (-256) 256 = true ∧ inB base 0 4095 = true then (if okInk' (mpI (strP slant base) x) = true then (mpI (strP slant base) x, 0) else (⟨[]⟩, 6)) else (⟨[]⟩, 2)) else (⟨[]⟩, 1)
theorem strg_inv {x : Ink} {a b : Int} (h : okInk' x = false) : strgR x a b = (⟨[]⟩, 1) := by simp [strgR, h]
theorem strg_rng {x : Ink} {a b : Int} (h : okInk' x = true) (h2 : ¬ (inB a (-256) 256 = true ∧ inB b 0 4095 = true)) : strgR x a b = (⟨[]⟩, 2) := by rw [strgR, if_pos h, if_neg h2]
theorem strg_st {x : Ink} {a b : Int} (h : okInk' x = true) (h2 : inB a (-256) 256 = true ∧ inB b 0 4095 = true) (h3 : okInk' (mpI (strP a b) x) = false) : strgR x a b = (⟨[]⟩, 6) := by rw [strgR, if_pos h, if_pos h2, if_neg (by simp [h3])]
theorem strg_yes {x : Ink} {a b : Int} (h : okInk' x = true) (h2 : inB a (-256) 256 = true ∧ inB b 0 4095 = true) (h3 : okInk' (mpI (strP a b) x) = true) : strgR x a b = (mpI (strP a b) x, 0) := by rw [strgR, if_pos h, if_pos h2, if_pos h3]
theorem strP_zero (p : Point) : strP 0 0 p = p := by
  have e : nearI (0 * (0 - p.Y)) 256 = 0 := by rw [Int.zero_mul]; decide
  unfold strP; rw [e]; simp
theorem strg_zero {x : Ink} (h : okInk' x = true) : strgR x 0 0 = (x, 0) := by
  have e := mpI_id (x := x) strP_zero
  have := strg_yes h (a := 0) (b := 0) ⟨by decide, by decide⟩ (by rw [e]; exact h)
  rw [this, e]
/-- What a segment gives to the slant. -/
def slaA (a b : Point) : Int := if ((b.X - a.X).natAbs : Int) < ((b.Y - a.Y).natAbs : Int) then (b.X - a.X) * (b.Y - a.Y) else 0
def slaD (a b : Point) : Int := if ((b.X - a.X).natAbs : Int) < ((b.Y - a.Y).natAbs : Int) then (b.Y - a.Y) * (b.Y - a.Y) else 0
def slaS (xs : List Point) : Nat → Int × Int
  | 0 => (0, 0)
  | k + 1 => if k = 0 then (0, 0) else ((slaS xs k).1 - slaA (at_ xs (k - 1)) (at_ xs k), (slaS xs k).2 + slaD (at_ xs (k - 1)) (at_ xs k))
def slaI (xs : List Stroke) : Nat → Int × Int
  | 0 => (0, 0)
  | k + 1 => ((slaI xs k).1 + (slaS (at_ xs k).Points (at_ xs k).Points.length).1, (slaI xs k).2 + (slaS (at_ xs k).Points (at_ xs k).Points.length).2)
def slantR (x : Ink) : Int × Int := if okInk' x = true then (if (slaI x.Strokes x.Strokes.length).2 = 0 then (0, 6) else (nearI (256 * (slaI x.Strokes x.Strokes.length).1) (slaI x.Strokes x.Strokes.length).2, 0)) else (0, 1)
theorem slaS_one (xs : List Point) (k : Nat) (h : k ≤ 1) : slaS xs k = (0, 0) := by
  have : k = 0 ∨ k = 1 := by omega
  rcases this with rfl | rfl <;> simp [slaS]
theorem slaS_1 {xs : List Point} {i : Int} (h : 1 ≤ i) : (slaS xs (i + 1).toNat).1 = (slaS xs i.toNat).1 - slaA (at_ xs (i - 1).toNat) (at_ xs i.toNat) := by
  have e1 : (i + 1).toNat = i.toNat + 1 := by omega
  have e2 : (i - 1).toNat = i.toNat - 1 := by omega
  rw [e1, e2, slaS, if_neg (by omega)]
theorem slaS_2 {xs : List Point} {i : Int} (h : 1 ≤ i) : (slaS xs (i + 1).toNat).2 = (slaS xs i.toNat).2 + slaD (at_ xs (i - 1).toNat) (at_ xs i.toNat) := by
  have e1 : (i + 1).toNat = i.toNat + 1 := by omega
  have e2 : (i - 1).toNat = i.toNat - 1 := by omega
  rw [e1, e2, slaS, if_neg (by omega)]
theorem slaI_1 {xs : List Stroke} {i : Int} (h : 0 ≤ i) : (slaI xs (i + 1).toNat).1 = (slaI xs i.toNat).1 + (slaS (at_ xs i.toNat).Points (at_ xs i.toNat).Points.length).1 := by
  have e1 : (i + 1).toNat = i.toNat + 1 := by omega
  rw [e1]; rfl
theorem slaI_2 {xs : List Stroke} {i : Int} (h : 0 ≤ i) : (slaI xs (i + 1).toNat).2 = (slaI xs i.toNat).2 + (slaS (at_ xs i.toNat).Points (at_ xs i.toNat).Points.length).2 := by
  have e1 : (i + 1).toNat = i.toNat + 1 := by omega
  rw [e1]; rfl
theorem sla_seg {a b : Point} (ha : okP a = true) (hb : okP b = true) : (-(slaD a b) ≤ slaA a b ∧ slaA a b ≤ slaD a b) ∧ 0 ≤ slaD a b ∧ slaD a b ≤ 16769025 := by
  have h1 := okP_iff.1 ha
  have h2 := okP_iff.1 hb
  unfold slaA slaD
  split
  · rename_i h
    have h3 := sq_bd (x := b.Y - a.Y) (B := 4095) (by omega) (by omega)
    refine ⟨?_, h3.1, by omega⟩
    have e : (b.Y - a.Y) * (b.Y - a.Y) = ((b.Y - a.Y).natAbs : Int) * ((b.Y - a.Y).natAbs : Int) := by rw [← Int.natCast_mul, Int.natAbs_mul_self]
    rw [e]
    exact mulA_bd (by omega) (by omega) (by omega) (by omega)
  · omega
theorem sla_bd {s : Stroke} (ok : okStroke' s = true) : ∀ k, k ≤ s.Points.length → (-(slaS s.Points k).2 ≤ (slaS s.Points k).1 ∧ (slaS s.Points k).1 ≤ (slaS s.Points k).2) ∧ 0 ≤ (slaS s.Points k).2 ∧ (slaS s.Points k).2 ≤ 16769025 * (k : Int)
  | 0, _ => by simp [slaS]
  | k + 1, h => by
    have ih := sla_bd ok k (by omega)
    rw [slaS]
    split
    · simp only; omega
    · have := sla_seg (okS_at ok (j := k - 1) (by omega)) (okS_at ok (j := k) (by omega))
      simp only; omega
theorem slaI_bd {x : Ink} (ok : okInk' x = true) : ∀ k, k ≤ x.Strokes.length → (-(slaI x.Strokes k).2 ≤ (slaI x.Strokes k).1 ∧ (slaI x.Strokes k).1 ≤ (slaI x.Strokes k).2) ∧ 0 ≤ (slaI x.Strokes k).2 ∧ (slaI x.Strokes k).2 ≤ 1006141500 * (k : Int)
  | 0, _ => by simp [slaI]
  | k + 1, h => by
    have ih := slaI_bd ok k (by omega)
    have ho := okI_all ok k (by omega)
    have h1 := sla_bd ho _ (Nat.le_refl _)
    have h2 := okS_len ho
    simp only [slaI]
    omega
theorem near_in {n d : Int} (hd : 0 < d) (h1 : -d ≤ n) (h2 : n ≤ d) : -256 ≤ nearI (256 * n) d ∧ nearI (256 * n) d ≤ 256 := by
  unfold nearI
  constructor
  · exact Int.le_ediv_of_mul_le (by omega) (by omega)
  · have b : (2 * (256 * n) + d) / (2 * d) < 257 := Int.ediv_lt_of_lt_mul (by omega) (by omega)
    omega
theorem slant_in {x : Ink} (h : (slantR x).2 = 0) : -256 ≤ (slantR x).1 ∧ (slantR x).1 ≤ 256 := by
  unfold slantR at h ⊢
  split at h
  · rename_i ok
    rw [if_pos ok]
    split at h
    · cases h
    · rename_i hd
      rw [if_neg hd]
      have := slaI_bd ok _ (Nat.le_refl _)
      exact near_in (by omega) this.1.1 this.1.2
  · cases h
theorem slaS_mv {dx dy : Int} {s : Stroke} : ∀ k, k ≤ s.Points.length → slaS (mvS dx dy s).Points k = slaS s.Points k
  | 0, _ => rfl
  | k + 1, h => by
    rw [slaS, slaS, slaS_mv k (by omega)]
    by_cases hk : k = 0
    · subst hk; rfl
    · rw [if_neg hk, if_neg hk, mvS_at (by omega), mvS_at (by omega)]
      have e1 : (at_ s.Points k).X + dx - ((at_ s.Points (k - 1)).X + dx) = (at_ s.Points k).X - (at_ s.Points (k - 1)).X := by omega
      have e2 : (at_ s.Points k).Y + dy - ((at_ s.Points (k - 1)).Y + dy) = (at_ s.Points k).Y - (at_ s.Points (k - 1)).Y := by omega
      simp only [slaA, slaD, mvP, e1, e2]
theorem slaI_mv {dx dy : Int} {x : Ink} : ∀ k, k ≤ x.Strokes.length → slaI (mvI dx dy x).Strokes k = slaI x.Strokes k
  | 0, _ => rfl
  | k + 1, h => by
    rw [slaI, slaI, slaI_mv k (by omega), mvI_at (by omega), mvS_len, slaS_mv _ (Nat.le_refl _)]
theorem slant_mv {dx dy : Int} {x : Ink} (h1 : okInk' x = true) (h2 : okInk' (mvI dx dy x) = true) : slantR (mvI dx dy x) = slantR x := by
  unfold slantR
  rw [if_pos h1, if_pos h2, mvI_len, slaI_mv _ (Nat.le_refl _)]
def sameS (a b : Stroke) : Bool := sameL a.Points b.Points
def sameI (a b : Ink) : Bool := decide (a.Strokes.length = b.Strokes.length) && allN a.Strokes.length (fun j => sameS (at_ a.Strokes j) (at_ b.Strokes j))
theorem sameI_refl (a : Ink) : sameI a a = true := by simp [sameI, sameS, sameL_refl, allN_iff]
theorem sameI_of {a b : Ink} (h : a = b) : sameI a b = true := by rw [h]; exact sameI_refl b
theorem pt_ext {a b : Point} (h1 : a.X = b.X) (h2 : a.Y = b.Y) (h3 : a.T = b.T) : a = b := by
  cases a; cases b; simp_all

-- impl.StraightenInk$1
theorem straighten1_ok (p : Point) (slant : Int) (base : Int) (hsb : (-256 ≤ slant ∧ slant ≤ 256) ∧ 0 ≤ base ∧ base ≤ 4095) (hp : okP p = true) : Con Try.prog 33 [agPoint p, .ptr false [I slant], .ptr false [I base]] true (agPoint (strP slant base p)) := by
  have hpp := okP_iff.1 hp
  have hmm := mulA_bd (x := slant) (y := base - p.Y) (A := 256) (B := 4095) (by omega) (by omega) (by omega) (by omega)
  have hna := near_abs (slant * (base - p.Y)) (d := 256) (by decide)
  refine fn_ok (fn := Try.f33) (nt := 20) Try.func33 rfl rfl rfl rfl (by simp [taggedL, tagged]) fun B hB => ?_
  refine aw_seq ?_
  refine aw_reg [(0, .new 3), (1, .new 4)] [1, 2, 3, 4] [3, 4] [.ptr false [I slant], .ptr false [I base], .ref 3 0, .ref 4 0] [some (bxPoint p), some (.box [I 0, I 0, I 0])] [] (by kernel_rfl) hB trivial ?_
  refine ae_then ?_
  refine aw_seq ?_
  refine aw_reg [(8, .call [(true, I (slant * (base - p.Y))), (true, I 256)] true (I (nearI (slant * (base - p.Y)) 256)))] [4] [4] [.ref 4 0] [some (.box [I (p.X - (nearI (slant * (base - p.Y)) 256)), I p.Y, I p.T])] [inR .i64 (base - p.Y), inR .i64 (slant * (base - p.Y)), Con Try.prog 34 [I (slant * (base - p.Y)), I 256] true (I (nearI (slant * (base - p.Y)) 256)) ∧ ((I (slant * (base - p.Y)) : AV) = I (slant * (base - p.Y))) ∧ ((I 256 : AV) = I 256) ∧ True, inR .i64 (p.X - (nearI (slant * (base - p.Y)) 256))] (by kernel_rfl) hB ⟨(inR_i64 (by omega) (by omega)), (inR_i64 (by omega) (by omega)), ⟨(nearestDiv_ok (slant * (base - p.Y)) 256 (by omega)), rfl, rfl, trivial⟩, (inR_i64 (by omega) (by omega)), trivial⟩ ?_
  refine ae_then ?_
  refine aw_ret ?_
  refine ae_ret hB (.agg [I (p.X - (nearI (slant * (base - p.Y)) 256)), I p.Y, I p.T]) (by kernel_rfl) (.inl (by first | rfl | (refine congrArg Bv ?_; simp [*]; done) | (refine congrArg Bv ?_; simp [*]; omega) | (refine congrArg Bv ?_; simp_all []; done) | (refine congrArg Bv ?_; simp_all []; omega))) rfl (fun _ => (by simp [tagged, taggedL]))


-- impl.StraightenInk
-- impl.mapInk at a closure
theorem mapInk_straighten (ik : Ink) (slant : Int) (base : Int) (hx : ∀ s ∈ ik.Strokes, okStroke' s = true) (hl : ik.Strokes.length ≤ 16) (hsb : (-256 ≤ slant ∧ slant ≤ 256) ∧ 0 ≤ base ∧ base ≤ 4095) : ∃ (v : Ink), (v = mpI (strP slant base) ik) ∧ Con Try.prog 32 [.agg [slStroke false ik.Strokes], .fn 33 [.ptr false [I slant], .ptr false [I base]]] true (.agg [slStroke true v.Strokes]) := by
  have hh : ∃ r : Ink, ((r = mpI (strP slant base) ik) ∧ (True)) ∧ CallOK Try.prog 32 [.agg [slStroke false ik.Strokes], .fn 33 [.ptr false [I slant], .ptr false [I base]]] (lookO []) true (.agg [slStroke true r.Strokes]) (lookO []) := by
    refine fn_okX (Φ := fun r : Ink => (r = mpI (strP slant base) ik) ∧ (True)) [] (fun r => []) (fn := Try.f32) (nt := 42) Try.func32 rfl rfl (args := [.agg [slStroke false ik.Strokes], .fn 33 [.ptr false [I slant], .ptr false [I base]]]) rfl (allcons (.inl ⟨rfl, by simp [tagged, taggedL, tagStroke]⟩) (allcons (.inl ⟨rfl, by simp [tagged, taggedL]⟩) allnil)) (res := fun r => .agg [slStroke true r.Strokes]) ?_
    refine x_seq ?_
    refine x_reg [(0, .new 2), (1, .new 4)] [1, 2, 4] [2, 4] [.fn 33 [.ptr false [I slant], .ptr false [I base]], .ref 2 0, .ref 4 0] [some (.box [slStroke false ik.Strokes]), some (.box [nilA])] [] (by kernel_rfl) trivial ?_
    refine xe_then ?_
    refine x_seq ?_
    refine x_reg [(0, .new 5)] [1, 2, 4, 5] [2, 4, 5] [.fn 33 [.ptr false [I slant], .ptr false [I base]], .ref 2 0, .ref 4 0, .ref 5 0] [some (.box [slStroke false ik.Strokes]), some (.box [nilA]), some (.box [nilA])] [] (by kernel_rfl) trivial ?_
    refine xe_then ?_
    refine x_seq ?_
    refine x_seq ?_
    refine x_reg [] [1, 4, 5, 12, 13, 14] [4, 5] [.fn 33 [.ptr false [I slant], .ptr false [I base]], .ref 4 0, .ref 5 0, slStroke false ik.Strokes, I (ik.Strokes.length : Int), I 0] [some (.box [nilA]), some (.box [nilA])] [] (by kernel_rfl) trivial ?_
    refine xe_then ?_
    refine x_block ?_
    refine x_nilC 5 0 750 1 (fun _ => []) rfl (by kernel_rfl) ?_
    refine x_fam 8062 3 (fun _ => 0) (fun _ _ => []) (by kernel_rfl) ?_
    refine x_weak [] (T := [(1, .fn 33 [.ptr false [I slant], .ptr false [I base]]), (4, .ref 4 0), (5, .ref 5 0), (12, slStroke false ik.Strokes), (13, I (ik.Strokes.length : Int)), (14, I 0)]) (O := [(4, .box [nilA]), (5, .box [.arr 750]), (750, .oar [8062] 1 (([] : List Stroke).length) (oStroke 8062 ([] : List Stroke))), (8062, .fam ([] : List Stroke).length 3 (mStroke ([] : List Stroke)) (gStroke ([] : List Stroke)))]) rfl (⟨.inl rfl, .inl rfl, .inl rfl, .inl rfl, .inl rfl, .inl rfl, trivial⟩) (⟨.inl rfl, .inl rfl, .inr ⟨rfl, rfl, fun i hi => absurd hi (Nat.not_lt_zero _)⟩, .inr ⟨rfl, rfl, fun p hp => absurd hp (Nat.not_lt_zero _)⟩, trivial⟩) ?_
    refine x_loop (X := Int × (List Stroke)) (fun x => mkS [(1, .fn 33 [.ptr false [I slant], .ptr false [I base]]), (4, .ref 4 0), (5, .ref 5 0), (12, slStroke false ik.Strokes), (13, I (ik.Strokes.length : Int)), (14, I x.1)] [(4, .box [nilA]), (5, .box [.arr 750]), (750, .oar [8062] 1 x.2.length (oStroke 8062 x.2)), (8062, .fam x.2.length 3 (mStroke x.2) (gStroke x.2))]) (fun x => (0 ≤ x.1 ∧ x.1 ≤ (ik.Strokes.length : Int)) ∧ ((x.2.length : Int) = x.1) ∧ (x.2 = (ik.Strokes.take x.1.toNat).map (mpS (strP slant base))) ∧ True) (fun x => ((ik.Strokes.length : Int) - x.1).toNat) (0, ([] : List Stroke)) rfl (show (0 ≤ (0 : Int) ∧ (0 : Int) ≤ (ik.Strokes.length : Int)) ∧ ((([] : List Stroke).length : Int) = (0 : Int)) ∧ (([] : List Stroke) = (ik.Strokes.take (0 : Int).toNat).map (mpS (strP slant base))) ∧ True from ⟨(by omega), (by rfl), (by rfl), trivial⟩) (fun x hI => ?_)
    obtain ⟨t14, ss⟩ := x
    obtain ⟨hi0, hl0, hs0, _⟩ : (0 ≤ t14 ∧ t14 ≤ (ik.Strokes.length : Int)) ∧ ((ss.length : Int) = t14) ∧ (ss = (ik.Strokes.take t14.toNat).map (mpS (strP slant base))) ∧ True := hI
    show XW _ _ _ _ (mkS [(1, .fn 33 [.ptr false [I slant], .ptr false [I base]]), (4, .ref 4 0), (5, .ref 5 0), (12, slStroke false ik.Strokes), (13, I (ik.Strokes.length : Int)), (14, I t14)] [(4, .box [nilA]), (5, .box [.arr 750]), (750, .oar [8062] 1 ss.length (oStroke 8062 ss)), (8062, .fam ss.length 3 (mStroke ss) (gStroke ss))]) _ _
    refine x_seq ?_
    by_cases h1 : t14 < (ik.Strokes.length : Int)
    ·have hi : t14.toNat < ik.Strokes.length := by omega
     have hos := hx _ (at_mem hi)
     have hol := okS_len hos
     refine x_reg [(0, .dec true)] [1, 4, 5, 12, 13, 14, 15] [4, 5, 750, 8062] [.fn 33 [.ptr false [I slant], .ptr false [I base]], .ref 4 0, .ref 5 0, slStroke false ik.Strokes, I (ik.Strokes.length : Int), I t14, Bv true] [some (.box [nilA]), some (.box [.arr 750]), some (.oar [8062] 1 ss.length (oStroke 8062 ss)), some (.fam ss.length 3 (mStroke ss) (gStroke ss))] [t14 < (ik.Strokes.length : Int)] (by kernel_rfl) ⟨h1, trivial⟩ ?_
     refine xe_then ?_
     refine x_seq ?_
     refine x_true rfl ?_
     refine x_skip ?_
     refine xe_then ?_
     refine x_seq ?_
     refine x_block ?_
     refine x_seq ?_
     refine x_reg [(2, .new 7)] [1, 4, 5, 7, 12, 13, 14] [4, 5, 7, 750, 8062] [.fn 33 [.ptr false [I slant], .ptr false [I base]], .ref 4 0, .ref 5 0, .ref 7 0, slStroke false ik.Strokes, I (ik.Strokes.length : Int), I t14] [some (.box [nilA]), some (.box [.arr 750]), some (.box [slPoint false ((at_ ik.Strokes t14.toNat).Points)]), some (.oar [8062] 1 ss.length (oStroke 8062 ss)), some (.fam ss.length 3 (mStroke ss) (gStroke ss))] [(0 : Int) ≤ t14 ∧ t14 < (ik.Strokes.length : Int)] (by kernel_rfl) ⟨⟨(by omega), (by omega)⟩, trivial⟩ ?_
     refine xe_then ?_
     refine x_seq ?_
     refine x_reg [(0, .new 8)] [1, 4, 5, 7, 8, 12, 13, 14] [4, 5, 7, 8, 750, 8062] [.fn 33 [.ptr false [I slant], .ptr false [I base]], .ref 4 0, .ref 5 0, .ref 7 0, .ref 8 0, slStroke false ik.Strokes, I (ik.Strokes.length : Int), I t14] [some (.box [nilA]), some (.box [.arr 750]), some (.box [slPoint false ((at_ ik.Strokes t14.toNat).Points)]), some (.box [nilA]), some (.oar [8062] 1 ss.length (oStroke 8062 ss)), some (.fam ss.length 3 (mStroke ss) (gStroke ss))] [] (by kernel_rfl) trivial ?_
     refine xe_then ?_
     refine x_seq ?_
     refine x_seq ?_
     refine x_reg [] [1, 4, 5, 8, 12, 13, 14, 19, 20, 21] [4, 5, 8, 750, 8062] [.fn 33 [.ptr false [I slant], .ptr false [I base]], .ref 4 0, .ref 5 0, .ref 8 0, slStroke false ik.Strokes, I (ik.Strokes.length : Int), I t14, slPoint false ((at_ ik.Strokes t14.toNat).Points), I ((((at_ ik.Strokes t14.toNat).Points).length) : Int), I 0] [some (.box [nilA]), some (.box [.arr 750]), some (.box [nilA]), some (.oar [8062] 1 ss.length (oStroke 8062 ss)), some (.fam ss.length 3 (mStroke ss) (gStroke ss))] [] (by kernel_rfl) trivial ?_
     refine xe_then ?_
     refine x_block ?_
     refine x_nilC 8 0 780 3 (fun _ => []) rfl (by kernel_rfl) ?_
     refine x_weak [] (T := [(1, .fn 33 [.ptr false [I slant], .ptr false [I base]]), (4, .ref 4 0), (5, .ref 5 0), (8, .ref 8 0), (12, slStroke false ik.Strokes), (13, I (ik.Strokes.length : Int)), (14, I t14), (19, slPoint false ((at_ ik.Strokes t14.toNat).Points)), (20, I ((((at_ ik.Strokes t14.toNat).Points).length) : Int)), (21, I 0)]) (O := [(4, .box [nilA]), (5, .box [.arr 750]), (8, .box [.arr 780]), (750, .oar [8062] 1 ss.length (oStroke 8062 ss)), (780, .arr 3 (([] : List Point).length) (fPoint ([] : List Point))), (8062, .fam ss.length 3 (mStroke ss) (gStroke ss))]) rfl (⟨.inl rfl, .inl rfl, .inl rfl, .inl rfl, .inl rfl, .inl rfl, .inl rfl, .inl rfl, .inl rfl, .inl rfl, trivial⟩) (⟨.inl rfl, .inl rfl, .inl rfl, .inl rfl, .inr ⟨rfl, (by first | rfl | (simp; done) | (simp; omega) | omega), fun i hi => absurd hi (Nat.not_lt_zero _)⟩, .inl rfl, trivial⟩) ?_
     refine x_loop (X := Int × (List Point)) (fun x => mkS [(1, .fn 33 [.ptr false [I slant], .ptr false [I base]]), (4, .ref 4 0), (5, .ref 5 0), (8, .ref 8 0), (12, slStroke false ik.Strokes), (13, I (ik.Strokes.length : Int)), (14, I t14), (19, slPoint false ((at_ ik.Strokes t14.toNat).Points)), (20, I ((((at_ ik.Strokes t14.toNat).Points).length) : Int)), (21, I x.1)] [(4, .box [nilA]), (5, .box [.arr 750]), (8, .box [.arr 780]), (750, .oar [8062] 1 ss.length (oStroke 8062 ss)), (780, .arr 3 x.2.length (fPoint x.2)), (8062, .fam ss.length 3 (mStroke ss) (gStroke ss))]) (fun x => (0 ≤ x.1 ∧ x.1 ≤ ((at_ ik.Strokes t14.toNat).Points.length : Int)) ∧ ((x.2.length : Int) = x.1) ∧ (x.2 = ((at_ ik.Strokes t14.toNat).Points.take x.1.toNat).map (strP slant base)) ∧ True) (fun x => (((at_ ik.Strokes t14.toNat).Points.length : Int) - x.1).toNat) (0, ([] : List Point)) rfl (show (0 ≤ (0 : Int) ∧ (0 : Int) ≤ ((at_ ik.Strokes t14.toNat).Points.length : Int)) ∧ ((([] : List Point).length : Int) = (0 : Int)) ∧ (([] : List Point) = ((at_ ik.Strokes t14.toNat).Points.take (0 : Int).toNat).map (strP slant base)) ∧ True from ⟨(by omega), (by rfl), (by rfl), trivial⟩) (fun x hI => ?_)
     obtain ⟨t21, pts⟩ := x
     obtain ⟨hk0, hm0, hp1, _⟩ : (0 ≤ t21 ∧ t21 ≤ ((at_ ik.Strokes t14.toNat).Points.length : Int)) ∧ ((pts.length : Int) = t21) ∧ (pts = ((at_ ik.Strokes t14.toNat).Points.take t21.toNat).map (strP slant base)) ∧ True := hI
     show XW _ _ _ _ (mkS [(1, .fn 33 [.ptr false [I slant], .ptr false [I base]]), (4, .ref 4 0), (5, .ref 5 0), (8, .ref 8 0), (12, slStroke false ik.Strokes), (13, I (ik.Strokes.length : Int)), (14, I t14), (19, slPoint false ((at_ ik.Strokes t14.toNat).Points)), (20, I ((((at_ ik.Strokes t14.toNat).Points).length) : Int)), (21, I t21)] [(4, .box [nilA]), (5, .box [.arr 750]), (8, .box [.arr 780]), (750, .oar [8062] 1 ss.length (oStroke 8062 ss)), (780, .arr 3 pts.length (fPoint pts)), (8062, .fam ss.length 3 (mStroke ss) (gStroke ss))]) _ _
     refine x_seq ?_
     by_cases h2 : t21 < ((((at_ ik.Strokes t14.toNat).Points).length) : Int)
     ·have hk : t21.toNat < (at_ ik.Strokes t14.toNat).Points.length := by omega
      have hpo := okS_at hos hk
      refine x_reg [(0, .dec true)] [1, 4, 5, 8, 12, 13, 14, 19, 20, 21, 22] [4, 5, 8, 750, 780, 8062] [.fn 33 [.ptr false [I slant], .ptr false [I base]], .ref 4 0, .ref 5 0, .ref 8 0, slStroke false ik.Strokes, I (ik.Strokes.length : Int), I t14, slPoint false ((at_ ik.Strokes t14.toNat).Points), I ((((at_ ik.Strokes t14.toNat).Points).length) : Int), I t21, Bv true] [some (.box [nilA]), some (.box [.arr 750]), some (.box [.arr 780]), some (.oar [8062] 1 ss.length (oStroke 8062 ss)), some (.arr 3 pts.length (fPoint pts)), some (.fam ss.length 3 (mStroke ss) (gStroke ss))] [t21 < ((((at_ ik.Strokes t14.toNat).Points).length) : Int)] (by kernel_rfl) ⟨h2, trivial⟩ ?_
      refine xe_then ?_
      refine x_seq ?_
      refine x_true rfl ?_
      refine x_skip ?_
      refine xe_then ?_
      refine x_seq ?_
      refine x_block ?_
      refine x_seq ?_
      refine x_reg [(2, .new 10)] [1, 4, 5, 8, 10, 12, 13, 14, 19, 20, 21] [4, 5, 8, 10, 750, 780, 8062] [.fn 33 [.ptr false [I slant], .ptr false [I base]], .ref 4 0, .ref 5 0, .ref 8 0, .ref 10 0, slStroke false ik.Strokes, I (ik.Strokes.length : Int), I t14, slPoint false ((at_ ik.Strokes t14.toNat).Points), I ((((at_ ik.Strokes t14.toNat).Points).length) : Int), I t21] [some (.box [nilA]), some (.box [.arr 750]), some (.box [.arr 780]), some (bxPoint (at_ ((at_ ik.Strokes t14.toNat).Points) t21.toNat)), some (.oar [8062] 1 ss.length (oStroke 8062 ss)), some (.arr 3 pts.length (fPoint pts)), some (.fam ss.length 3 (mStroke ss) (gStroke ss))] [(0 : Int) ≤ t21 ∧ t21 < ((((at_ ik.Strokes t14.toNat).Points).length) : Int)] (by kernel_rfl) ⟨⟨(by omega), (by omega)⟩, trivial⟩ ?_
      refine xe_then ?_
      refine x_reg [(4, .call [(true, agPoint (at_ ((at_ ik.Strokes t14.toNat).Points) t21.toNat)), (true, .ptr false [I slant]), (true, .ptr false [I base])] true (agPoint (strP slant base (at_ ((at_ ik.Strokes t14.toNat).Points) t21.toNat)))), (5, .new 30), (6, .new 31)] [1, 4, 5, 8, 12, 13, 14, 19, 20, 21] [4, 5, 8, 31, 750, 8062] [.fn 33 [.ptr false [I slant], .ptr false [I base]], .ref 4 0, .ref 5 0, .ref 8 0, slStroke false ik.Strokes, I (ik.Strokes.length : Int), I t14, slPoint false ((at_ ik.Strokes t14.toNat).Points), I ((((at_ ik.Strokes t14.toNat).Points).length) : Int), I t21] [some (.box [nilA]), some (.box [.arr 750]), some (.box [.arr 31]), some (.arr 3 (pts.length + 1) (catF pts.length (fPoint pts) (litF [I ((strP slant base (at_ ((at_ ik.Strokes t14.toNat).Points) t21.toNat)).X), I ((strP slant base (at_ ((at_ ik.Strokes t14.toNat).Points) t21.toNat)).Y), I ((strP slant base (at_ ((at_ ik.Strokes t14.toNat).Points) t21.toNat)).T)] 3))), some (.oar [8062] 1 ss.length (oStroke 8062 ss)), some (.fam ss.length 3 (mStroke ss) (gStroke ss))] [Con Try.prog 33 [agPoint (at_ ((at_ ik.Strokes t14.toNat).Points) t21.toNat), .ptr false [I slant], .ptr false [I base]] true (agPoint (strP slant base (at_ ((at_ ik.Strokes t14.toNat).Points) t21.toNat))) ∧ ((agPoint (at_ ((at_ ik.Strokes t14.toNat).Points) t21.toNat) : AV) = agPoint (at_ ((at_ ik.Strokes t14.toNat).Points) t21.toNat)) ∧ ((.ptr false [I slant] : AV) = .ptr false [I slant]) ∧ ((.ptr false [I base] : AV) = .ptr false [I base]) ∧ True, (pts.length + 1) * 24 ≤ 140737488355328] (by kernel_rfl) ⟨⟨(straighten1_ok (at_ ((at_ ik.Strokes t14.toNat).Points) t21.toNat) slant base hsb hpo), rfl, rfl, rfl, trivial⟩, (by omega), trivial⟩ ?_
      refine xe_block 3 ?_
      refine xe_then ?_
      refine x_reg [] [1, 4, 5, 8, 12, 13, 14, 19, 20, 21] [4, 5, 8, 31, 750, 8062] [.fn 33 [.ptr false [I slant], .ptr false [I base]], .ref 4 0, .ref 5 0, .ref 8 0, slStroke false ik.Strokes, I (ik.Strokes.length : Int), I t14, slPoint false ((at_ ik.Strokes t14.toNat).Points), I ((((at_ ik.Strokes t14.toNat).Points).length) : Int), I (t21 + 1)] [some (.box [nilA]), some (.box [.arr 750]), some (.box [.arr 31]), some (.arr 3 (pts.length + 1) (catF pts.length (fPoint pts) (litF [I ((strP slant base (at_ ((at_ ik.Strokes t14.toNat).Points) t21.toNat)).X), I ((strP slant base (at_ ((at_ ik.Strokes t14.toNat).Points) t21.toNat)).Y), I ((strP slant base (at_ ((at_ ik.Strokes t14.toNat).Points) t21.toNat)).T)] 3))), some (.oar [8062] 1 ss.length (oStroke 8062 ss)), some (.fam ss.length 3 (mStroke ss) (gStroke ss))] [inR .i64 (t21 + 1)] (by kernel_rfl) ⟨(inR_i64 (by omega) (by omega)), trivial⟩ ?_
      refine xe_weak [(780, 31)] (T := [(1, .fn 33 [.ptr false [I slant], .ptr false [I base]]), (4, .ref 4 0), (5, .ref 5 0), (8, .ref 8 0), (12, slStroke false ik.Strokes), (13, I (ik.Strokes.length : Int)), (14, I t14), (19, slPoint false ((at_ ik.Strokes t14.toNat).Points)), (20, I ((((at_ ik.Strokes t14.toNat).Points).length) : Int)), (21, I (t21 + 1))]) (O := [(4, .box [nilA]), (5, .box [.arr 750]), (8, .box [.arr 780]), (750, .oar [8062] 1 ss.length (oStroke 8062 ss)), (780, .arr 3 ((pts ++ [(strP slant base (at_ ((at_ ik.Strokes t14.toNat).Points) t21.toNat))]).length) (fPoint (pts ++ [(strP slant base (at_ ((at_ ik.Strokes t14.toNat).Points) t21.toNat))]))), (8062, .fam ss.length 3 (mStroke ss) (gStroke ss))]) rfl (⟨.inl rfl, .inl rfl, .inl rfl, .inl rfl, .inl rfl, .inl rfl, .inl rfl, .inl rfl, .inl rfl, .inl rfl, trivial⟩) (⟨.inl rfl, .inl rfl, .inl rfl, .inl rfl, .inr ⟨rfl, (by first | rfl | (simp; done) | (simp; omega) | omega), fun i hi => .inl (cat_snoc (enc := cPoint) (xs := pts) rfl i hi)⟩, .inl rfl, trivial⟩) (xe_again ((t21 + 1), (pts ++ [(strP slant base (at_ ((at_ ik.Strokes t14.toNat).Points) t21.toNat))])) rfl (show (0 ≤ (t21 + 1) ∧ (t21 + 1) ≤ ((at_ ik.Strokes t14.toNat).Points.length : Int)) ∧ (((pts ++ [(strP slant base (at_ ((at_ ik.Strokes t14.toNat).Points) t21.toNat))]).length : Int) = (t21 + 1)) ∧ ((pts ++ [(strP slant base (at_ ((at_ ik.Strokes t14.toNat).Points) t21.toNat))]) = ((at_ ik.Strokes t14.toNat).Points.take (t21 + 1).toNat).map (strP slant base)) ∧ True from ⟨(by omega), (by simp; omega), (by rw [hp1]; exact (mapTake_succ (by omega) hk rfl).symm), trivial⟩) (by show ((((at_ ik.Strokes t14.toNat).Points.length : Int) - (t21 + 1)).toNat : Nat) < (((at_ ik.Strokes t14.toNat).Points.length : Int) - t21).toNat; omega))
     ·refine x_reg [(0, .dec false)] [1, 4, 5, 8, 12, 13, 14, 19, 20, 21, 22] [4, 5, 8, 750, 780, 8062] [.fn 33 [.ptr false [I slant], .ptr false [I base]], .ref 4 0, .ref 5 0, .ref 8 0, slStroke false ik.Strokes, I (ik.Strokes.length : Int), I t14, slPoint false ((at_ ik.Strokes t14.toNat).Points), I ((((at_ ik.Strokes t14.toNat).Points).length) : Int), I t21, Bv false] [some (.box [nilA]), some (.box [.arr 750]), some (.box [.arr 780]), some (.oar [8062] 1 ss.length (oStroke 8062 ss)), some (.arr 3 pts.length (fPoint pts)), some (.fam ss.length 3 (mStroke ss) (gStroke ss))] [¬ (t21 < ((((at_ ik.Strokes t14.toNat).Points).length) : Int))] (by kernel_rfl) ⟨h2, trivial⟩ ?_
      refine xe_then ?_
      refine x_seq ?_
      refine x_false rfl ?_
      refine x_exit ?_
      refine xe_exit_then ?_
      refine xe_loop_exit ?_
      refine xe_exit_same ?_
      refine xe_then ?_
      refine x_reg [(3, .new 37), (4, .new 38)] [1, 4, 5, 12, 13, 14] [4, 5, 38, 780, 8062] [.fn 33 [.ptr false [I slant], .ptr false [I base]], .ref 4 0, .ref 5 0, slStroke false ik.Strokes, I (ik.Strokes.length : Int), I t14] [some (.box [nilA]), some (.box [.arr 38]), some (.oar [8062, 780] 1 (ss.length + 1) (catF ss.length (oStroke 8062 ss) (litF [.arr 780] 1))), some (.arr 3 pts.length (fPoint pts)), some (.fam ss.length 3 (mStroke ss) (gStroke ss))] [(ss.length + 1) * 24 ≤ 140737488355328] (by kernel_rfl) ⟨(by omega), trivial⟩ ?_
      refine xe_block 1 ?_
      refine xe_then ?_
      refine x_reg [] [1, 4, 5, 12, 13, 14] [4, 5, 38, 780, 8062] [.fn 33 [.ptr false [I slant], .ptr false [I base]], .ref 4 0, .ref 5 0, slStroke false ik.Strokes, I (ik.Strokes.length : Int), I (t14 + 1)] [some (.box [nilA]), some (.box [.arr 38]), some (.oar [8062, 780] 1 (ss.length + 1) (catF ss.length (oStroke 8062 ss) (litF [.arr 780] 1))), some (.arr 3 pts.length (fPoint pts)), some (.fam ss.length 3 (mStroke ss) (gStroke ss))] [inR .i64 (t14 + 1)] (by kernel_rfl) ⟨(inR_i64 (by omega) (by omega)), trivial⟩ ?_
      refine xe_join 780 8062 rfl rfl rfl ?_
      refine xe_weak [(750, 38)] (T := [(1, .fn 33 [.ptr false [I slant], .ptr false [I base]]), (4, .ref 4 0), (5, .ref 5 0), (12, slStroke false ik.Strokes), (13, I (ik.Strokes.length : Int)), (14, I (t14 + 1))]) (O := [(4, .box [nilA]), (5, .box [.arr 750]), (750, .oar [8062] 1 ((ss ++ [(Stroke.mk pts)]).length) (oStroke 8062 (ss ++ [(Stroke.mk pts)]))), (8062, .fam (ss ++ [(Stroke.mk pts)]).length 3 (mStroke (ss ++ [(Stroke.mk pts)])) (gStroke (ss ++ [(Stroke.mk pts)])))]) rfl (⟨.inl rfl, .inl rfl, .inl rfl, .inl rfl, .inl rfl, .inl rfl, trivial⟩) (⟨.inl rfl, .inl rfl, .inr ⟨rfl, rfl, (by simp), fun i hi => .inl (ocatStroke rfl rfl rfl i hi)⟩, .inr (fcatStroke (Stroke.mk pts) (by first | rfl | (simp; done)) (fun i hi => (by first | rfl | fail))), trivial⟩) (xe_again ((t14 + 1), (ss ++ [(Stroke.mk pts)])) rfl (show (0 ≤ (t14 + 1) ∧ (t14 + 1) ≤ (ik.Strokes.length : Int)) ∧ (((ss ++ [(Stroke.mk pts)]).length : Int) = (t14 + 1)) ∧ ((ss ++ [(Stroke.mk pts)]) = (ik.Strokes.take (t14 + 1).toNat).map (mpS (strP slant base))) ∧ True from ⟨(by omega), (by simp; omega), (by rw [hs0]; exact (mapTake_succ (by omega) hi (by rw [hp1]; unfold mpS; rw [map_all (by omega)])).symm), trivial⟩) (by show (((ik.Strokes.length : Int) - (t14 + 1)).toNat : Nat) < ((ik.Strokes.length : Int) - t14).toNat; omega))
    ·refine x_reg [(0, .dec false)] [1, 4, 5, 12, 13, 14, 15] [4, 5, 750, 8062] [.fn 33 [.ptr false [I slant], .ptr false [I base]], .ref 4 0, .ref 5 0, slStroke false ik.Strokes, I (ik.Strokes.length : Int), I t14, Bv false] [some (.box [nilA]), some (.box [.arr 750]), some (.oar [8062] 1 ss.length (oStroke 8062 ss)), some (.fam ss.length 3 (mStroke ss) (gStroke ss))] [¬ (t14 < (ik.Strokes.length : Int))] (by kernel_rfl) ⟨h1, trivial⟩ ?_
     refine xe_then ?_
     refine x_seq ?_
     refine x_false rfl ?_
     refine x_exit ?_
     refine xe_exit_then ?_
     refine xe_loop_exit ?_
     refine xe_exit_same ?_
     refine xe_then ?_
     refine x_seq ?_
     refine x_reg [] [4] [4, 750, 8062] [.ref 4 0] [some (.box [.arr 750]), some (.oar [8062] 1 ss.length (oStroke 8062 ss)), some (.fam ss.length 3 (mStroke ss) (gStroke ss))] [] (by kernel_rfl) trivial ?_
     refine xe_then ?_
     refine x_ret ?_
     refine xe_end (Ink.mk ss) (show ((Ink.mk ss) = mpI (strP slant base) ik) ∧ (True) from ⟨(by rw [hs0]; unfold mpI; rw [map_all (by omega)]), trivial⟩) (trivial) (.agg [.arr 750]) (by kernel_rfl) (.inr ⟨⟨(fun _ => rfl), rfl, rfl, oleStroke _ _ rfl⟩, rfl⟩) (fun _ => rfl) (fun _ => (by simp [tagged, taggedL, tagStroke]))
  obtain ⟨v, ⟨hh0, _⟩, hc⟩ := hh
  exact ⟨v, hh0, hc⟩

theorem implStraighten_ok (ik : Ink) (slant : Int) (base : Int) : ∃ (v : Ink) (c : Int), (v = (strgR ik slant base).1) ∧ (c = (strgR ik slant base).2) ∧ Con Try.prog 7 [.agg [slStroke false ik.Strokes], I slant, I base] true (.tup [.agg [slStroke true v.Strokes], I c]) := by
  have hh : ∃ r : Ink × Int, ((r.1 = (strgR ik slant base).1) ∧ (r.2 = (strgR ik slant base).2) ∧ (True)) ∧ CallOK Try.prog 7 [.agg [slStroke false ik.Strokes], I slant, I base] (lookO []) true (.tup [.agg [slStroke true r.1.Strokes], I r.2]) (lookO []) := by
    refine fn_okX (Φ := fun r : Ink × Int => (r.1 = (strgR ik slant base).1) ∧ (r.2 = (strgR ik slant base).2) ∧ (True)) [] (fun r => []) (fn := Try.f7) (nt := 30) Try.func7 rfl rfl (args := [.agg [slStroke false ik.Strokes], I slant, I base]) rfl (allcons (.inl ⟨rfl, by simp [tagged, taggedL, tagStroke]⟩) (allcons (.inl ⟨rfl, trivial⟩) (allcons (.inl ⟨rfl, trivial⟩) allnil))) (res := fun r => .tup [.agg [slStroke true r.1.Strokes], I r.2]) ?_
    refine x_seq ?_
    refine x_reg [(0, .new 3), (1, .new 4), (2, .new 5), (3, .new 6)] [3, 4, 5, 6] [3, 4, 5, 6] [.ref 3 0, .ref 4 0, .ref 5 0, .ref 6 0] [some (.box [slStroke false ik.Strokes]), some (.box [I slant]), some (.box [I base]), some (.box [nilA])] [] (by kernel_rfl) trivial ?_
    refine xe_then ?_
    refine x_seq ?_
    refine x_seq ?_
    rcases Bool.eq_false_or_eq_true (okInk' ik) with h1 | h1
    ·have hil := okI_len h1
     refine x_reg [(1, .call [(true, .agg [slStroke false ik.Strokes])] true (Bv true))] [3, 4, 5, 6, 11] [3, 4, 5, 6] [.ref 3 0, .ref 4 0, .ref 5 0, .ref 6 0, Bv false] [some (.box [slStroke false ik.Strokes]), some (.box [I slant]), some (.box [I base]), some (.box [nilA])] [Con Try.prog 29 [.agg [slStroke false ik.Strokes]] true (Bv true) ∧ ((.agg [slStroke false ik.Strokes] : AV) = .agg [slStroke false ik.Strokes]) ∧ True] (by kernel_rfl) ⟨⟨(con_bool h1 (ValidInk_ok ik)), rfl, trivial⟩, trivial⟩ ?_
     refine xe_then ?_
     refine x_false rfl ?_
     refine x_skip ?_
     refine xe_then ?_
     refine x_seq ?_
     refine x_seq ?_
     rcases Bool.eq_false_or_eq_true (inB slant (-256) 256) with h2 | h2
     ·have hqa := h2
      have hqa2 := inB_iff.1 h2
      rcases Bool.eq_false_or_eq_true (inB base 0 4095) with h3 | h3
      ·have hqb := h3
       have hqb2 := inB_iff.1 h3
       refine x_reg [(1, .call [(true, I slant), (true, I (-256)), (true, I 256)] true (Bv true)), (5, .call [(true, I base)] true (Bv true))] [3, 4, 5, 6, 20] [3, 4, 5, 6] [.ref 3 0, .ref 4 0, .ref 5 0, .ref 6 0, Bv false] [some (.box [slStroke false ik.Strokes]), some (.box [I slant]), some (.box [I base]), some (.box [nilA])] [Con Try.prog 30 [I slant, I (-256), I 256] true (Bv true) ∧ ((I slant : AV) = I slant) ∧ ((I (-256) : AV) = I (-256)) ∧ ((I 256 : AV) = I 256) ∧ True, Con Try.prog 31 [I base] true (Bv true) ∧ ((I base : AV) = I base) ∧ True] (by kernel_rfl) ⟨⟨(con_bool h2 (within_ok slant (-256) 256)), rfl, rfl, rfl, trivial⟩, ⟨(con_bool h3 (isCoord_ok base)), rfl, trivial⟩, trivial⟩ ?_
       refine xe_then ?_
       refine x_false rfl ?_
       refine x_skip ?_
       refine xe_then ?_
       refine x_seq ?_
       obtain ⟨v_1, hx1_0, hc1⟩ := mapInk_straighten ik slant base (okI_mem h1) (by omega) (by omega)
       refine x_reg [(2, .call [(true, .agg [slStroke false ik.Strokes]), (false, .fn 33 [.ptr false [I slant], .ptr false [I base]])] true (.agg [slStroke true v_1.Strokes])), (3, .new 8)] [6, 8] [6, 8] [.ref 6 0, .ref 8 0] [some (.box [nilA]), some (.box [slStroke true v_1.Strokes])] [Con Try.prog 32 [.agg [slStroke false ik.Strokes], .fn 33 [.ptr false [I slant], .ptr false [I base]]] true (.agg [slStroke true v_1.Strokes]) ∧ ((.agg [slStroke false ik.Strokes] : AV) = .agg [slStroke false ik.Strokes]) ∧ (33 = 33 ∧ ((false = true → true = true) ∧ AV.idsL [I slant] = [] ∧ (valOf (I slant) = valOf (I slant)) ∧ ([] : List AV) = []) ∧ ((false = true → true = true) ∧ AV.idsL [I base] = [] ∧ (valOf (I base) = valOf (I base)) ∧ ([] : List AV) = []) ∧ ([] : List AV) = []) ∧ True] (by kernel_rfl) ⟨⟨hc1, rfl, ⟨rfl, ⟨⟨(fun h => by cases h), rfl, ⟨rfl, rfl⟩⟩, ⟨⟨(fun h => by cases h), rfl, ⟨rfl, rfl⟩⟩, rfl⟩⟩⟩, trivial⟩, trivial⟩ ?_
       refine xe_then ?_
       refine x_seq ?_
       refine x_seq ?_
       rcases Bool.eq_false_or_eq_true (okInk' v_1) with h4 | h4
       ·have hst := strg_yes h1 ⟨hqa, hqb⟩ (by first | (rw [hx1_0] at *; assumption) | (simpa [*] using h4))
        refine x_reg [(1, .call [(false, .agg [slStroke false v_1.Strokes])] true (Bv true))] [6, 8, 27] [6, 8] [.ref 6 0, .ref 8 0, Bv false] [some (.box [nilA]), some (.box [slStroke true v_1.Strokes])] [Con Try.prog 29 [.agg [slStroke false v_1.Strokes]] true (Bv true) ∧ (((false = true → true = true) ∧ 1 = 1 ∧ v_1.Strokes.length = v_1.Strokes.length ∧ ∀ i, i < v_1.Strokes.length → (fStroke true v_1.Strokes) i = (fStroke false v_1.Strokes) i ∨ (AV.idsL ((fStroke false v_1.Strokes) i) = [] ∧ leL (fun _ => none) false ((fStroke true v_1.Strokes) i) ((fStroke false v_1.Strokes) i))) ∧ ([] : List AV) = []) ∧ True] (by kernel_rfl) ⟨⟨(con_bool h4 (ValidInk_ok v_1)), ⟨⟨(fun h => by cases h), rfl, rfl, fun i _ => .inr ⟨idsStroke _ _, leStroke _ _ _⟩⟩, rfl⟩, trivial⟩, trivial⟩ ?_
        refine xe_then ?_
        refine x_false rfl ?_
        refine x_skip ?_
        refine xe_then ?_
        refine x_seq ?_
        refine x_reg [] [6, 7] [6] [.ref 6 0, I 0] [some (.box [slStroke true v_1.Strokes])] [] (by kernel_rfl) trivial ?_
        refine xe_then ?_
        refine x_ret ?_
        refine xe_end (v_1, 0) (show (v_1 = (strgR ik slant base).1) ∧ (0 = (strgR ik slant base).2) ∧ (True) from ⟨(by first | (rw [hst]; done) | (rw [hst, hfin]; done) | (simp only [*]; done) | (rw [hst]; assumption) | (rw [hst]; exact hx1_0)), (by first | (rw [hst]; done) | (rw [hst, hfin]; done) | (simp only [*]; done) | (rw [hst]; assumption) | (rw [hst]; exact hx1_0)), trivial⟩) (trivial) (.tup [.agg [slStroke true v_1.Strokes], I 0]) (by kernel_rfl) (.inl rfl) (fun _ => rfl) (fun _ => (by simp [tagged, taggedL, tagStroke]))
       ·have hst := strg_st h1 ⟨hqa, hqb⟩ (by first | (rw [hx1_0] at *; assumption) | (simpa [*] using h4))
        refine x_reg [(1, .call [(false, .agg [slStroke false v_1.Strokes])] true (Bv false))] [6, 8, 27] [6, 8] [.ref 6 0, .ref 8 0, Bv true] [some (.box [nilA]), some (.box [slStroke true v_1.Strokes])] [Con Try.prog 29 [.agg [slStroke false v_1.Strokes]] true (Bv false) ∧ (((false = true → true = true) ∧ 1 = 1 ∧ v_1.Strokes.length = v_1.Strokes.length ∧ ∀ i, i < v_1.Strokes.length → (fStroke true v_1.Strokes) i = (fStroke false v_1.Strokes) i ∨ (AV.idsL ((fStroke false v_1.Strokes) i) = [] ∧ leL (fun _ => none) false ((fStroke true v_1.Strokes) i) ((fStroke false v_1.Strokes) i))) ∧ ([] : List AV) = []) ∧ True] (by kernel_rfl) ⟨⟨(con_bool h4 (ValidInk_ok v_1)), ⟨⟨(fun h => by cases h), rfl, rfl, fun i _ => .inr ⟨idsStroke _ _, leStroke _ _ _⟩⟩, rfl⟩, trivial⟩, trivial⟩ ?_
        refine xe_then ?_
        refine x_true rfl ?_
        refine x_seq ?_
        refine x_reg [] [6, 7] [6] [.ref 6 0, I 6] [some (.box [nilA])] [] (by kernel_rfl) trivial ?_
        refine xe_then ?_
        refine x_ret ?_
        refine xe_ret_then ?_
        refine xe_end ((Ink.mk ([] : List Stroke)), 6) (show ((Ink.mk ([] : List Stroke)) = (strgR ik slant base).1) ∧ (6 = (strgR ik slant base).2) ∧ (True) from ⟨(by first | (rw [hst]; done) | (rw [hst, hfin]; done) | (simp only [*]; done) | (rw [hst]; assumption) | (rw [hst]; exact hx1_0)), (by first | (rw [hst]; done) | (rw [hst, hfin]; done) | (simp only [*]; done) | (rw [hst]; assumption) | (rw [hst]; exact hx1_0)), trivial⟩) (trivial) (.tup [.agg [nilA], I 6]) (by kernel_rfl) (.inr ⟨⟨⟨rfl, rfl⟩, rfl⟩, ⟨rfl, rfl⟩⟩) (fun _ => rfl) (fun _ => (by simp [tagged, taggedL, tagStroke]))
      ·have hst := strg_rng (a := slant) h1 (fun q => by rw [q.2] at h3; cases h3)
       refine x_reg [(1, .call [(true, I slant), (true, I (-256)), (true, I 256)] true (Bv true)), (5, .call [(true, I base)] true (Bv false))] [3, 4, 5, 6, 20] [3, 4, 5, 6] [.ref 3 0, .ref 4 0, .ref 5 0, .ref 6 0, Bv true] [some (.box [slStroke false ik.Strokes]), some (.box [I slant]), some (.box [I base]), some (.box [nilA])] [Con Try.prog 30 [I slant, I (-256), I 256] true (Bv true) ∧ ((I slant : AV) = I slant) ∧ ((I (-256) : AV) = I (-256)) ∧ ((I 256 : AV) = I 256) ∧ True, Con Try.prog 31 [I base] true (Bv false) ∧ ((I base : AV) = I base) ∧ True] (by kernel_rfl) ⟨⟨(con_bool h2 (within_ok slant (-256) 256)), rfl, rfl, rfl, trivial⟩, ⟨(con_bool h3 (isCoord_ok base)), rfl, trivial⟩, trivial⟩ ?_
       refine xe_then ?_
       refine x_true rfl ?_
       refine x_seq ?_
       refine x_reg [] [6, 7] [6] [.ref 6 0, I 2] [some (.box [nilA])] [] (by kernel_rfl) trivial ?_
       refine xe_then ?_
       refine x_ret ?_
       refine xe_ret_then ?_
       refine xe_end ((Ink.mk ([] : List Stroke)), 2) (show ((Ink.mk ([] : List Stroke)) = (strgR ik slant base).1) ∧ (2 = (strgR ik slant base).2) ∧ (True) from ⟨(by first | (rw [hst]; done) | (rw [hst, hfin]; done) | (simp only [*]; done) | (rw [hst]; assumption) | (rw [hst]; exact hx1_0)), (by first | (rw [hst]; done) | (rw [hst, hfin]; done) | (simp only [*]; done) | (rw [hst]; assumption) | (rw [hst]; exact hx1_0)), trivial⟩) (trivial) (.tup [.agg [nilA], I 2]) (by kernel_rfl) (.inr ⟨⟨⟨rfl, rfl⟩, rfl⟩, ⟨rfl, rfl⟩⟩) (fun _ => rfl) (fun _ => (by simp [tagged, taggedL, tagStroke]))
     ·have hst := strg_rng (b := base) h1 (fun q => by rw [q.1] at h2; cases h2)
      refine x_reg [(1, .call [(true, I slant), (true, I (-256)), (true, I 256)] true (Bv false))] [3, 4, 5, 6, 20] [3, 4, 5, 6] [.ref 3 0, .ref 4 0, .ref 5 0, .ref 6 0, Bv true] [some (.box [slStroke false ik.Strokes]), some (.box [I slant]), some (.box [I base]), some (.box [nilA])] [Con Try.prog 30 [I slant, I (-256), I 256] true (Bv false) ∧ ((I slant : AV) = I slant) ∧ ((I (-256) : AV) = I (-256)) ∧ ((I 256 : AV) = I 256) ∧ True] (by kernel_rfl) ⟨⟨(con_bool h2 (within_ok slant (-256) 256)), rfl, rfl, rfl, trivial⟩, trivial⟩ ?_
      refine xe_then ?_
      refine x_true rfl ?_
      refine x_seq ?_
      refine x_reg [] [6, 7] [6] [.ref 6 0, I 2] [some (.box [nilA])] [] (by kernel_rfl) trivial ?_
      refine xe_then ?_
      refine x_ret ?_
      refine xe_ret_then ?_
      refine xe_end ((Ink.mk ([] : List Stroke)), 2) (show ((Ink.mk ([] : List Stroke)) = (strgR ik slant base).1) ∧ (2 = (strgR ik slant base).2) ∧ (True) from ⟨(by first | (rw [hst]; done) | (rw [hst, hfin]; done) | (simp only [*]; done) | (rw [hst]; assumption) | (rw [hst]; exact hx1_0)), (by first | (rw [hst]; done) | (rw [hst, hfin]; done) | (simp only [*]; done) | (rw [hst]; assumption) | (rw [hst]; exact hx1_0)), trivial⟩) (trivial) (.tup [.agg [nilA], I 2]) (by kernel_rfl) (.inr ⟨⟨⟨rfl, rfl⟩, rfl⟩, ⟨rfl, rfl⟩⟩) (fun _ => rfl) (fun _ => (by simp [tagged, taggedL, tagStroke]))
    ·have hst := strg_inv (a := slant) (b := base) h1
     refine x_reg [(1, .call [(true, .agg [slStroke false ik.Strokes])] true (Bv false))] [3, 4, 5, 6, 11] [3, 4, 5, 6] [.ref 3 0, .ref 4 0, .ref 5 0, .ref 6 0, Bv true] [some (.box [slStroke false ik.Strokes]), some (.box [I slant]), some (.box [I base]), some (.box [nilA])] [Con Try.prog 29 [.agg [slStroke false ik.Strokes]] true (Bv false) ∧ ((.agg [slStroke false ik.Strokes] : AV) = .agg [slStroke false ik.Strokes]) ∧ True] (by kernel_rfl) ⟨⟨(con_bool h1 (ValidInk_ok ik)), rfl, trivial⟩, trivial⟩ ?_
     refine xe_then ?_
     refine x_true rfl ?_
     refine x_seq ?_
     refine x_reg [] [6, 7] [6] [.ref 6 0, I 1] [some (.box [nilA])] [] (by kernel_rfl) trivial ?_
     refine xe_then ?_
     refine x_ret ?_
     refine xe_ret_then ?_
     refine xe_end ((Ink.mk ([] : List Stroke)), 1) (show ((Ink.mk ([] : List Stroke)) = (strgR ik slant base).1) ∧ (1 = (strgR ik slant base).2) ∧ (True) from ⟨(by first | (rw [hst]; done) | (rw [hst, hfin]; done) | (simp only [*]; done) | (rw [hst]; assumption) | (rw [hst]; exact hx1_0)), (by first | (rw [hst]; done) | (rw [hst, hfin]; done) | (simp only [*]; done) | (rw [hst]; assumption) | (rw [hst]; exact hx1_0)), trivial⟩) (trivial) (.tup [.agg [nilA], I 1]) (by kernel_rfl) (.inr ⟨⟨⟨rfl, rfl⟩, rfl⟩, ⟨rfl, rfl⟩⟩) (fun _ => rfl) (fun _ => (by simp [tagged, taggedL, tagStroke]))
  obtain ⟨⟨v, c⟩, ⟨hh0, hh1, _⟩, hc⟩ := hh
  exact ⟨v, c, hh0, hh1, hc⟩


-- spec.l00In
theorem l00In_ok (n : Int) (low : Int) (high : Int) : Con Try.prog 36 [I n, I low, I high] true (Bv (inB n low high)) := by
  refine fn_ok (fn := Try.f36) (nt := 15) Try.func36 rfl rfl rfl rfl (by simp [taggedL, tagged]) fun B hB => ?_
  refine aw_seq ?_
  refine aw_reg [] [0, 1, 2] [] [I n, I low, I high] [] [] (by kernel_rfl) hB trivial ?_
  refine ae_then ?_
  refine aw_seq ?_
  by_cases h1 : low ≤ n
  ·refine aw_reg [(2, .dec true)] [6] [] [Bv (decide (n ≤ high))] [] [low ≤ n] (by kernel_rfl) hB ⟨h1, trivial⟩ ?_
   refine ae_then ?_
   refine aw_ret ?_
   refine ae_ret hB (Bv (decide (n ≤ high))) (by kernel_rfl) (.inl (by first | rfl | (refine congrArg Bv ?_; simp [inB, *]; done) | (refine congrArg Bv ?_; simp [inB, *]; omega) | (refine congrArg Bv ?_; simp_all [inB]; done) | (refine congrArg Bv ?_; simp_all [inB]; omega))) rfl (fun _ => trivial)
  ·refine aw_reg [(2, .dec false)] [6] [] [Bv false] [] [¬ (low ≤ n)] (by kernel_rfl) hB ⟨h1, trivial⟩ ?_
   refine ae_then ?_
   refine aw_ret ?_
   refine ae_ret hB (Bv false) (by kernel_rfl) (.inl (by first | rfl | (refine congrArg Bv ?_; simp [inB, *]; done) | (refine congrArg Bv ?_; simp [inB, *]; omega) | (refine congrArg Bv ?_; simp_all [inB]; done) | (refine congrArg Bv ?_; simp_all [inB]; omega))) rfl (fun _ => trivial)


-- spec.l02Point
theorem l02Point_ok (p : Point) : Con Try.prog 69 [agPoint p] true (Bv (okP p)) := by
  refine fn_ok (fn := Try.f69) (nt := 16) Try.func69 rfl rfl rfl rfl (by simp [taggedL, tagged]) fun B hB => ?_
  refine aw_seq ?_
  refine aw_reg [(0, .new 1)] [1] [1] [.ref 1 0] [some (bxPoint p)] [] (by kernel_rfl) hB trivial ?_
  refine ae_then ?_
  refine aw_seq ?_
  rcases Bool.eq_false_or_eq_true (inB p.X 0 4095) with h1 | h1
  ·rcases Bool.eq_false_or_eq_true (inB p.Y 0 4095) with h2 | h2
   ·refine aw_reg [(2, .call [(true, I p.X), (true, I 0), (true, I 4095)] true (Bv true)), (6, .call [(true, I p.Y), (true, I 0), (true, I 4095)] true (Bv true)), (11, .call [(true, I p.T), (true, I 0), (true, I 3600000)] true (Bv (inB p.T 0 3600000)))] [2] [] [Bv (inB p.T 0 3600000)] [] [Con Try.prog 36 [I p.X, I 0, I 4095] true (Bv true) ∧ ((I p.X : AV) = I p.X) ∧ ((I 0 : AV) = I 0) ∧ ((I 4095 : AV) = I 4095) ∧ True, Con Try.prog 36 [I p.Y, I 0, I 4095] true (Bv true) ∧ ((I p.Y : AV) = I p.Y) ∧ ((I 0 : AV) = I 0) ∧ ((I 4095 : AV) = I 4095) ∧ True, Con Try.prog 36 [I p.T, I 0, I 3600000] true (Bv (inB p.T 0 3600000)) ∧ ((I p.T : AV) = I p.T) ∧ ((I 0 : AV) = I 0) ∧ ((I 3600000 : AV) = I 3600000) ∧ True] (by kernel_rfl) hB ⟨⟨(con_bool h1 (l00In_ok p.X 0 4095)), rfl, rfl, rfl, trivial⟩, ⟨(con_bool h2 (l00In_ok p.Y 0 4095)), rfl, rfl, rfl, trivial⟩, ⟨(l00In_ok p.T 0 3600000), rfl, rfl, rfl, trivial⟩, trivial⟩ ?_
    refine ae_then ?_
    refine aw_ret ?_
    refine ae_ret hB (Bv (inB p.T 0 3600000)) (by kernel_rfl) (.inl (by first | rfl | (refine congrArg Bv ?_; simp [okP, *]; done) | (refine congrArg Bv ?_; simp [okP, *]; omega) | (refine congrArg Bv ?_; simp_all [okP]; done) | (refine congrArg Bv ?_; simp_all [okP]; omega))) rfl (fun _ => trivial)
   ·refine aw_reg [(2, .call [(true, I p.X), (true, I 0), (true, I 4095)] true (Bv true)), (6, .call [(true, I p.Y), (true, I 0), (true, I 4095)] true (Bv false))] [2] [] [Bv false] [] [Con Try.prog 36 [I p.X, I 0, I 4095] true (Bv true) ∧ ((I p.X : AV) = I p.X) ∧ ((I 0 : AV) = I 0) ∧ ((I 4095 : AV) = I 4095) ∧ True, Con Try.prog 36 [I p.Y, I 0, I 4095] true (Bv false) ∧ ((I p.Y : AV) = I p.Y) ∧ ((I 0 : AV) = I 0) ∧ ((I 4095 : AV) = I 4095) ∧ True] (by kernel_rfl) hB ⟨⟨(con_bool h1 (l00In_ok p.X 0 4095)), rfl, rfl, rfl, trivial⟩, ⟨(con_bool h2 (l00In_ok p.Y 0 4095)), rfl, rfl, rfl, trivial⟩, trivial⟩ ?_
    refine ae_then ?_
    refine aw_ret ?_
    refine ae_ret hB (Bv false) (by kernel_rfl) (.inl (by first | rfl | (refine congrArg Bv ?_; simp [okP, *]; done) | (refine congrArg Bv ?_; simp [okP, *]; omega) | (refine congrArg Bv ?_; simp_all [okP]; done) | (refine congrArg Bv ?_; simp_all [okP]; omega))) rfl (fun _ => trivial)
  ·refine aw_reg [(2, .call [(true, I p.X), (true, I 0), (true, I 4095)] true (Bv false))] [2] [] [Bv false] [] [Con Try.prog 36 [I p.X, I 0, I 4095] true (Bv false) ∧ ((I p.X : AV) = I p.X) ∧ ((I 0 : AV) = I 0) ∧ ((I 4095 : AV) = I 4095) ∧ True] (by kernel_rfl) hB ⟨⟨(con_bool h1 (l00In_ok p.X 0 4095)), rfl, rfl, rfl, trivial⟩, trivial⟩ ?_
   refine ae_then ?_
   refine aw_ret ?_
   refine ae_ret hB (Bv false) (by kernel_rfl) (.inl (by first | rfl | (refine congrArg Bv ?_; simp [okP, *]; done) | (refine congrArg Bv ?_; simp [okP, *]; omega) | (refine congrArg Bv ?_; simp_all [okP]; done) | (refine congrArg Bv ?_; simp_all [okP]; omega))) rfl (fun _ => trivial)


-- spec.l02Stroke
theorem l02Stroke_ok (s : Stroke) : Con Try.prog 47 [.ptr false [slPoint false s.Points]] true (Bv (okStroke' s)) := by
  refine fn_ok (fn := Try.f47) (nt := 52) Try.func47 rfl rfl rfl rfl (by simp [taggedL, tagged, tagPoint]) fun B hB => ?_
  refine aw_lens (x := .ptr false [slPoint false s.Points]) 0 rfl (fun len_s => ?_)
  simp [LenOK, LenL, cPoint, fPoint, slPoint] at len_s
  refine aw_seq ?_
  refine aw_reg [] [0] [] [.ptr false [slPoint false s.Points]] [] [] (by kernel_rfl) hB trivial ?_
  refine ae_then ?_
  refine aw_seq ?_
  refine aw_seq ?_
  refine aw_reg [] [0, 3] [] [.ptr false [slPoint false s.Points], I 0] [] [] (by kernel_rfl) hB trivial ?_
  refine ae_then ?_
  refine aw_block ?_
  refine aw_loop (fun gn gσ => ∃ (i : Int), gn = ((s.Points.length : Int) - i).toNat ∧ (0 ≤ i ∧ i ≤ (s.Points.length : Int)) ∧ (∀ j : Nat, (j : Int) < i → okPt s.Points j = true) ∧ gσ = mkS [(0, .ptr false [slPoint false s.Points]), (3, I i)] []) (((s.Points.length : Int) - 0).toNat) ⟨0, rfl, (by omega), (by intro j hj; omega), rfl⟩ (fun gn gσ hI => ?_)
  obtain ⟨i, rfl, hi0, hall0, rfl⟩ := hI
  refine aw_seq ?_
  refine aw_seq ?_
  by_cases h1 : i < (s.Points.length : Int)
  ·have hi : i.toNat < s.Points.length := by omega
   refine aw_reg [(6, .dec true)] [0, 3, 10] [] [.ptr false [slPoint false s.Points], I i, Bv true] [] [i < (s.Points.length : Int)] (by kernel_rfl) hB ⟨h1, trivial⟩ ?_
   refine ae_then ?_
   refine aw_true rfl ?_
   refine aw_skip ?_
   refine ae_then ?_
   refine aw_seq ?_
   refine aw_block ?_
   refine aw_seq ?_
   rcases Bool.eq_false_or_eq_true (okP (at_ s.Points i.toNat)) with h2 | h2
   ·by_cases h3 : 0 < i
    ·by_cases h4 : ((at_ s.Points i.toNat).T) ≤ ((at_ s.Points ((i - 1).toNat)).T)
     ·have hall : allN s.Points.length (okPt s.Points) = false := allN_not hi (okPt_no h3 h4)
      refine aw_reg [(7, .call [(true, agPoint (at_ s.Points i.toNat))] true (Bv true)), (11, .dec true), (30, .dec true)] [0, 3, 45] [] [.ptr false [slPoint false s.Points], I i, Bv true] [] [(0 : Int) ≤ i ∧ i < (s.Points.length : Int), Con Try.prog 69 [agPoint (at_ s.Points i.toNat)] true (Bv true) ∧ ((agPoint (at_ s.Points i.toNat) : AV) = agPoint (at_ s.Points i.toNat)) ∧ True, 0 < i, (0 : Int) ≤ i ∧ i < (s.Points.length : Int), inR .i64 (i - 1), (0 : Int) ≤ (i - 1) ∧ (i - 1) < (s.Points.length : Int), ((at_ s.Points i.toNat).T) ≤ ((at_ s.Points ((i - 1).toNat)).T)] (by kernel_rfl) hB ⟨⟨(by omega), (by omega)⟩, ⟨(con_bool h2 (l02Point_ok (at_ s.Points i.toNat))), rfl, trivial⟩, h3, ⟨(by omega), (by omega)⟩, (inR_i64 (by omega) (by omega)), ⟨(by omega), (by omega)⟩, h4, trivial⟩ ?_
      refine ae_then ?_
      refine aw_true rfl ?_
      refine aw_seq ?_
      refine aw_reg [] [2] [] [Bv false] [] [] (by kernel_rfl) hB trivial ?_
      refine ae_then ?_
      refine aw_ret ?_
      refine ae_ret_block (ae_ret_then (ae_ret_then (ae_ret_block (ae_ret_then ?_))))
      refine ae_ret hB (Bv false) (by kernel_rfl) (.inl (by first | rfl | (refine congrArg Bv ?_; simp [okStroke', inB, *]; done) | (refine congrArg Bv ?_; simp [okStroke', inB, *]; omega) | (refine congrArg Bv ?_; simp_all [okStroke', inB]; done) | (refine congrArg Bv ?_; simp_all [okStroke', inB]; omega))) rfl (fun _ => trivial)
     ·have hok := okPt_yes h2 h3 h4
      refine aw_reg [(7, .call [(true, agPoint (at_ s.Points i.toNat))] true (Bv true)), (11, .dec true), (30, .dec false)] [0, 3, 45] [] [.ptr false [slPoint false s.Points], I i, Bv false] [] [(0 : Int) ≤ i ∧ i < (s.Points.length : Int), Con Try.prog 69 [agPoint (at_ s.Points i.toNat)] true (Bv true) ∧ ((agPoint (at_ s.Points i.toNat) : AV) = agPoint (at_ s.Points i.toNat)) ∧ True, 0 < i, (0 : Int) ≤ i ∧ i < (s.Points.length : Int), inR .i64 (i - 1), (0 : Int) ≤ (i - 1) ∧ (i - 1) < (s.Points.length : Int), ¬ (((at_ s.Points i.toNat).T) ≤ ((at_ s.Points ((i - 1).toNat)).T))] (by kernel_rfl) hB ⟨⟨(by omega), (by omega)⟩, ⟨(con_bool h2 (l02Point_ok (at_ s.Points i.toNat))), rfl, trivial⟩, h3, ⟨(by omega), (by omega)⟩, (inR_i64 (by omega) (by omega)), ⟨(by omega), (by omega)⟩, h4, trivial⟩ ?_
      refine ae_then ?_
      refine aw_false rfl ?_
      refine aw_skip ?_
      refine ae_block 1 ?_
      refine ae_then ?_
      refine aw_reg [] [0, 3] [] [.ptr false [slPoint false s.Points], I (i + 1)] [] [inR .i64 (i + 1)] (by kernel_rfl) hB ⟨(inR_i64 (by omega) (by omega)), trivial⟩ ?_
      exact ae_again _ (by omega) ⟨(i + 1), rfl, (by omega), (by intro j hj; by_cases ej : j = i.toNat; (subst ej; first | assumption | exact hok); exact hall0 j (by omega)), rfl⟩
    ·have hok := okPt_zero h2 hi0.1 h3
     refine aw_reg [(7, .call [(true, agPoint (at_ s.Points i.toNat))] true (Bv true)), (11, .dec false)] [0, 3, 45] [] [.ptr false [slPoint false s.Points], I i, Bv false] [] [(0 : Int) ≤ i ∧ i < (s.Points.length : Int), Con Try.prog 69 [agPoint (at_ s.Points i.toNat)] true (Bv true) ∧ ((agPoint (at_ s.Points i.toNat) : AV) = agPoint (at_ s.Points i.toNat)) ∧ True, ¬ (0 < i)] (by kernel_rfl) hB ⟨⟨(by omega), (by omega)⟩, ⟨(con_bool h2 (l02Point_ok (at_ s.Points i.toNat))), rfl, trivial⟩, h3, trivial⟩ ?_
     refine ae_then ?_
     refine aw_false rfl ?_
     refine aw_skip ?_
     refine ae_block 1 ?_
     refine ae_then ?_
     refine aw_reg [] [0, 3] [] [.ptr false [slPoint false s.Points], I (i + 1)] [] [inR .i64 (i + 1)] (by kernel_rfl) hB ⟨(inR_i64 (by omega) (by omega)), trivial⟩ ?_
     exact ae_again _ (by omega) ⟨(i + 1), rfl, (by omega), (by intro j hj; by_cases ej : j = i.toNat; (subst ej; first | assumption | exact hok); exact hall0 j (by omega)), rfl⟩
   ·have hall : allN s.Points.length (okPt s.Points) = false := allN_not hi (okPt_bad h2)
    refine aw_reg [(7, .call [(true, agPoint (at_ s.Points i.toNat))] true (Bv false))] [0, 3, 45] [] [.ptr false [slPoint false s.Points], I i, Bv true] [] [(0 : Int) ≤ i ∧ i < (s.Points.length : Int), Con Try.prog 69 [agPoint (at_ s.Points i.toNat)] true (Bv false) ∧ ((agPoint (at_ s.Points i.toNat) : AV) = agPoint (at_ s.Points i.toNat)) ∧ True] (by kernel_rfl) hB ⟨⟨(by omega), (by omega)⟩, ⟨(con_bool h2 (l02Point_ok (at_ s.Points i.toNat))), rfl, trivial⟩, trivial⟩ ?_
    refine ae_then ?_
    refine aw_true rfl ?_
    refine aw_seq ?_
    refine aw_reg [] [2] [] [Bv false] [] [] (by kernel_rfl) hB trivial ?_
    refine ae_then ?_
    refine aw_ret ?_
    refine ae_ret_block (ae_ret_then (ae_ret_then (ae_ret_block (ae_ret_then ?_))))
    refine ae_ret hB (Bv false) (by kernel_rfl) (.inl (by first | rfl | (refine congrArg Bv ?_; simp [okStroke', inB, *]; done) | (refine congrArg Bv ?_; simp [okStroke', inB, *]; omega) | (refine congrArg Bv ?_; simp_all [okStroke', inB]; done) | (refine congrArg Bv ?_; simp_all [okStroke', inB]; omega))) rfl (fun _ => trivial)
  ·have hall : allN s.Points.length (okPt s.Points) = true := allN_at (fun j hj => hall0 j (by omega))
   refine aw_reg [(6, .dec false)] [0, 3, 10] [] [.ptr false [slPoint false s.Points], I i, Bv false] [] [¬ (i < (s.Points.length : Int))] (by kernel_rfl) hB ⟨h1, trivial⟩ ?_
   refine ae_then ?_
   refine aw_false rfl ?_
   refine aw_exit ?_
   refine ae_exit_then ?_
   refine ae_exit_then ?_
   refine ae_exit_same ?_
   refine ae_then ?_
   refine aw_seq ?_
   refine aw_reg [(5, .call [(true, I (s.Points.length : Int)), (true, I 1), (true, I 60)] true (Bv (inB (s.Points.length : Int) 1 60)))] [2] [] [Bv (inB (s.Points.length : Int) 1 60)] [] [Con Try.prog 36 [I (s.Points.length : Int), I 1, I 60] true (Bv (inB (s.Points.length : Int) 1 60)) ∧ ((I (s.Points.length : Int) : AV) = I (s.Points.length : Int)) ∧ ((I 1 : AV) = I 1) ∧ ((I 60 : AV) = I 60) ∧ True] (by kernel_rfl) hB ⟨⟨(l00In_ok (s.Points.length : Int) 1 60), rfl, rfl, rfl, trivial⟩, trivial⟩ ?_
   refine ae_then ?_
   refine aw_ret ?_
   refine ae_ret hB (Bv (inB (s.Points.length : Int) 1 60)) (by kernel_rfl) (.inl (by first | rfl | (refine congrArg Bv ?_; simp [okStroke', inB, *]; done) | (refine congrArg Bv ?_; simp [okStroke', inB, *]; omega) | (refine congrArg Bv ?_; simp_all [okStroke', inB]; done) | (refine congrArg Bv ?_; simp_all [okStroke', inB]; omega))) rfl (fun _ => trivial)


-- spec.l02Ok
theorem l02Ok_ok (x : Ink) : Con Try.prog 35 [.ptr false [slStroke false x.Strokes]] true (Bv (okInk' x)) := by
  refine fn_ok (fn := Try.f35) (nt := 53) Try.func35 rfl rfl rfl rfl (by simp [taggedL, tagged, tagStroke]) fun B hB => ?_
  refine aw_lens (x := .ptr false [slStroke false x.Strokes]) 0 rfl (fun len_x => ?_)
  simp [LenOK, LenL, cPoint, cStroke, fPoint, fStroke, slPoint, slStroke] at len_x
  refine aw_seq ?_
  refine aw_reg [] [0] [] [.ptr false [slStroke false x.Strokes]] [] [] (by kernel_rfl) hB trivial ?_
  refine ae_then ?_
  refine aw_seq ?_
  refine aw_seq ?_
  refine aw_reg [] [0, 3] [] [.ptr false [slStroke false x.Strokes], I 0] [] [] (by kernel_rfl) hB trivial ?_
  refine ae_then ?_
  refine aw_block ?_
  refine aw_loop (fun gn gσ => ∃ (i : Int), gn = ((x.Strokes.length : Int) - i).toNat ∧ (0 ≤ i ∧ i ≤ (x.Strokes.length : Int)) ∧ (∀ j : Nat, (j : Int) < i → okSA x.Strokes j = true) ∧ gσ = mkS [(0, .ptr false [slStroke false x.Strokes]), (3, I i)] []) (((x.Strokes.length : Int) - 0).toNat) ⟨0, rfl, (by omega), (by intro j hj; omega), rfl⟩ (fun gn gσ hI => ?_)
  obtain ⟨i, rfl, hi0, hall0, rfl⟩ := hI
  refine aw_seq ?_
  refine aw_seq ?_
  by_cases h1 : i < (x.Strokes.length : Int)
  ·have hi : i.toNat < x.Strokes.length := by omega
   refine aw_reg [(6, .dec true)] [0, 3, 10] [] [.ptr false [slStroke false x.Strokes], I i, Bv true] [] [i < (x.Strokes.length : Int)] (by kernel_rfl) hB ⟨h1, trivial⟩ ?_
   refine ae_then ?_
   refine aw_true rfl ?_
   refine aw_skip ?_
   refine ae_then ?_
   refine aw_seq ?_
   refine aw_block ?_
   refine aw_seq ?_
   rcases Bool.eq_false_or_eq_true (okStroke' (at_ x.Strokes i.toNat)) with h2 | h2
   ·have hln := okS_len h2
    by_cases h3 : 0 < i
    ·have hpr := okS_len (okSA_ok (hall0 (i - 1).toNat (by omega)))
     by_cases h4 : ((at_ ((at_ x.Strokes i.toNat).Points) 0).T) ≤ ((at_ (at_ x.Strokes ((i - 1).toNat)).Points ((at_ x.Strokes ((i - 1).toNat)).Points.length - 1)).T)
     ·have hall : allN x.Strokes.length (okSA x.Strokes) = false := allN_not hi (okSA_no h3 h4)
      refine aw_reg [(6, .call [(true, .ptr false [slPoint false ((at_ x.Strokes i.toNat).Points)])] true (Bv true)), (10, .dec true), (30, .call [(true, .ptr false [slPoint false ((at_ x.Strokes ((i - 1).toNat)).Points)])] true (I ((at_ (at_ x.Strokes ((i - 1).toNat)).Points ((at_ x.Strokes ((i - 1).toNat)).Points.length - 1)).T))), (31, .dec true)] [0, 3, 46] [] [.ptr false [slStroke false x.Strokes], I i, Bv true] [] [(0 : Int) ≤ i ∧ i < (x.Strokes.length : Int), Con Try.prog 47 [.ptr false [slPoint false ((at_ x.Strokes i.toNat).Points)]] true (Bv true) ∧ ((.ptr false [slPoint false ((at_ x.Strokes i.toNat).Points)] : AV) = .ptr false [slPoint false ((at_ x.Strokes i.toNat).Points)]) ∧ True, 0 < i, (0 : Int) ≤ i ∧ i < (x.Strokes.length : Int), (0 : Int) ≤ 0 ∧ 0 < ((((at_ x.Strokes i.toNat).Points).length) : Int), inR .i64 (i - 1), (0 : Int) ≤ (i - 1) ∧ (i - 1) < (x.Strokes.length : Int), Con Try.prog 62 [.ptr false [slPoint false ((at_ x.Strokes ((i - 1).toNat)).Points)]] true (I ((at_ (at_ x.Strokes ((i - 1).toNat)).Points ((at_ x.Strokes ((i - 1).toNat)).Points.length - 1)).T)) ∧ ((.ptr false [slPoint false ((at_ x.Strokes ((i - 1).toNat)).Points)] : AV) = .ptr false [slPoint false ((at_ x.Strokes ((i - 1).toNat)).Points)]) ∧ True, ((at_ ((at_ x.Strokes i.toNat).Points) 0).T) ≤ ((at_ (at_ x.Strokes ((i - 1).toNat)).Points ((at_ x.Strokes ((i - 1).toNat)).Points.length - 1)).T)] (by kernel_rfl) hB ⟨⟨(by omega), (by omega)⟩, ⟨(con_bool h2 (l02Stroke_ok (at_ x.Strokes i.toNat))), rfl, trivial⟩, h3, ⟨(by omega), (by omega)⟩, ⟨(by omega), (by omega)⟩, (inR_i64 (by omega) (by omega)), ⟨(by omega), (by omega)⟩, ⟨(l02Last_ok (at_ x.Strokes ((i - 1).toNat)) (by omega)), rfl, trivial⟩, h4, trivial⟩ ?_
      refine ae_then ?_
      refine aw_true rfl ?_
      refine aw_seq ?_
      refine aw_reg [] [2] [] [Bv false] [] [] (by kernel_rfl) hB trivial ?_
      refine ae_then ?_
      refine aw_ret ?_
      refine ae_ret_block (ae_ret_then (ae_ret_then (ae_ret_block (ae_ret_then ?_))))
      refine ae_ret hB (Bv false) (by kernel_rfl) (.inl (by first | rfl | (refine congrArg Bv ?_; simp [okInk', *]; done) | (refine congrArg Bv ?_; simp [okInk', *]; omega) | (refine congrArg Bv ?_; simp_all [okInk']; done) | (refine congrArg Bv ?_; simp_all [okInk']; omega))) rfl (fun _ => trivial)
     ·have hok := okSA_yes h2 h3 h4
      refine aw_reg [(6, .call [(true, .ptr false [slPoint false ((at_ x.Strokes i.toNat).Points)])] true (Bv true)), (10, .dec true), (30, .call [(true, .ptr false [slPoint false ((at_ x.Strokes ((i - 1).toNat)).Points)])] true (I ((at_ (at_ x.Strokes ((i - 1).toNat)).Points ((at_ x.Strokes ((i - 1).toNat)).Points.length - 1)).T))), (31, .dec false)] [0, 3, 46] [] [.ptr false [slStroke false x.Strokes], I i, Bv false] [] [(0 : Int) ≤ i ∧ i < (x.Strokes.length : Int), Con Try.prog 47 [.ptr false [slPoint false ((at_ x.Strokes i.toNat).Points)]] true (Bv true) ∧ ((.ptr false [slPoint false ((at_ x.Strokes i.toNat).Points)] : AV) = .ptr false [slPoint false ((at_ x.Strokes i.toNat).Points)]) ∧ True, 0 < i, (0 : Int) ≤ i ∧ i < (x.Strokes.length : Int), (0 : Int) ≤ 0 ∧ 0 < ((((at_ x.Strokes i.toNat).Points).length) : Int), inR .i64 (i - 1), (0 : Int) ≤ (i - 1) ∧ (i - 1) < (x.Strokes.length : Int), Con Try.prog 62 [.ptr false [slPoint false ((at_ x.Strokes ((i - 1).toNat)).Points)]] true (I ((at_ (at_ x.Strokes ((i - 1).toNat)).Points ((at_ x.Strokes ((i - 1).toNat)).Points.length - 1)).T)) ∧ ((.ptr false [slPoint false ((at_ x.Strokes ((i - 1).toNat)).Points)] : AV) = .ptr false [slPoint false ((at_ x.Strokes ((i - 1).toNat)).Points)]) ∧ True, ¬ (((at_ ((at_ x.Strokes i.toNat).Points) 0).T) ≤ ((at_ (at_ x.Strokes ((i - 1).toNat)).Points ((at_ x.Strokes ((i - 1).toNat)).Points.length - 1)).T))] (by kernel_rfl) hB ⟨⟨(by omega), (by omega)⟩, ⟨(con_bool h2 (l02Stroke_ok (at_ x.Strokes i.toNat))), rfl, trivial⟩, h3, ⟨(by omega), (by omega)⟩, ⟨(by omega), (by omega)⟩, (inR_i64 (by omega) (by omega)), ⟨(by omega), (by omega)⟩, ⟨(l02Last_ok (at_ x.Strokes ((i - 1).toNat)) (by omega)), rfl, trivial⟩, h4, trivial⟩ ?_
      refine ae_then ?_
      refine aw_false rfl ?_
      refine aw_skip ?_
      refine ae_block 1 ?_
      refine ae_then ?_
      refine aw_reg [] [0, 3] [] [.ptr false [slStroke false x.Strokes], I (i + 1)] [] [inR .i64 (i + 1)] (by kernel_rfl) hB ⟨(inR_i64 (by omega) (by omega)), trivial⟩ ?_
      exact ae_again _ (by omega) ⟨(i + 1), rfl, (by omega), (by intro j hj; by_cases ej : j = i.toNat; (subst ej; first | assumption | exact hok); exact hall0 j (by omega)), rfl⟩
    ·have hok := okSA_zero h2 hi0.1 h3
     refine aw_reg [(6, .call [(true, .ptr false [slPoint false ((at_ x.Strokes i.toNat).Points)])] true (Bv true)), (10, .dec false)] [0, 3, 46] [] [.ptr false [slStroke false x.Strokes], I i, Bv false] [] [(0 : Int) ≤ i ∧ i < (x.Strokes.length : Int), Con Try.prog 47 [.ptr false [slPoint false ((at_ x.Strokes i.toNat).Points)]] true (Bv true) ∧ ((.ptr false [slPoint false ((at_ x.Strokes i.toNat).Points)] : AV) = .ptr false [slPoint false ((at_ x.Strokes i.toNat).Points)]) ∧ True, ¬ (0 < i)] (by kernel_rfl) hB ⟨⟨(by omega), (by omega)⟩, ⟨(con_bool h2 (l02Stroke_ok (at_ x.Strokes i.toNat))), rfl, trivial⟩, h3, trivial⟩ ?_
     refine ae_then ?_
     refine aw_false rfl ?_
     refine aw_skip ?_
     refine ae_block 1 ?_
     refine ae_then ?_
     refine aw_reg [] [0, 3] [] [.ptr false [slStroke false x.Strokes], I (i + 1)] [] [inR .i64 (i + 1)] (by kernel_rfl) hB ⟨(inR_i64 (by omega) (by omega)), trivial⟩ ?_
     exact ae_again _ (by omega) ⟨(i + 1), rfl, (by omega), (by intro j hj; by_cases ej : j = i.toNat; (subst ej; first | assumption | exact hok); exact hall0 j (by omega)), rfl⟩
   ·have hall : allN x.Strokes.length (okSA x.Strokes) = false := allN_not hi (okSA_bad (by simpa using h2))
    refine aw_reg [(6, .call [(true, .ptr false [slPoint false ((at_ x.Strokes i.toNat).Points)])] true (Bv false))] [0, 3, 46] [] [.ptr false [slStroke false x.Strokes], I i, Bv true] [] [(0 : Int) ≤ i ∧ i < (x.Strokes.length : Int), Con Try.prog 47 [.ptr false [slPoint false ((at_ x.Strokes i.toNat).Points)]] true (Bv false) ∧ ((.ptr false [slPoint false ((at_ x.Strokes i.toNat).Points)] : AV) = .ptr false [slPoint false ((at_ x.Strokes i.toNat).Points)]) ∧ True] (by kernel_rfl) hB ⟨⟨(by omega), (by omega)⟩, ⟨(con_bool h2 (l02Stroke_ok (at_ x.Strokes i.toNat))), rfl, trivial⟩, trivial⟩ ?_
    refine ae_then ?_
    refine aw_true rfl ?_
    refine aw_seq ?_
    refine aw_reg [] [2] [] [Bv false] [] [] (by kernel_rfl) hB trivial ?_
    refine ae_then ?_
    refine aw_ret ?_
    refine ae_ret_block (ae_ret_then (ae_ret_then (ae_ret_block (ae_ret_then ?_))))
    refine ae_ret hB (Bv false) (by kernel_rfl) (.inl (by first | rfl | (refine congrArg Bv ?_; simp [okInk', *]; done) | (refine congrArg Bv ?_; simp [okInk', *]; omega) | (refine congrArg Bv ?_; simp_all [okInk']; done) | (refine congrArg Bv ?_; simp_all [okInk']; omega))) rfl (fun _ => trivial)
  ·have hall : allN x.Strokes.length (okSA x.Strokes) = true := allN_at (fun j hj => hall0 j (by omega))
   refine aw_reg [(6, .dec false)] [0, 3, 10] [] [.ptr false [slStroke false x.Strokes], I i, Bv false] [] [¬ (i < (x.Strokes.length : Int))] (by kernel_rfl) hB ⟨h1, trivial⟩ ?_
   refine ae_then ?_
   refine aw_false rfl ?_
   refine aw_exit ?_
   refine ae_exit_then ?_
   refine ae_exit_then ?_
   refine ae_exit_same ?_
   refine ae_then ?_
   refine aw_seq ?_
   refine aw_reg [] [2] [] [Bv (decide ((x.Strokes.length : Int) ≤ 16))] [] [] (by kernel_rfl) hB trivial ?_
   refine ae_then ?_
   refine aw_ret ?_
   refine ae_ret hB (Bv (decide ((x.Strokes.length : Int) ≤ 16))) (by kernel_rfl) (.inl (by first | rfl | (refine congrArg Bv ?_; simp [okInk', *]; done) | (refine congrArg Bv ?_; simp [okInk', *]; omega) | (refine congrArg Bv ?_; simp_all [okInk']; done) | (refine congrArg Bv ?_; simp_all [okInk']; omega))) rfl (fun _ => trivial)


-- spec.l02OwnStroke
theorem l02OwnStroke_ok (s : Stroke) (hl : s.Points.length ≤ 100000) : ∃ (pts : List Point), (pts = s.Points) ∧ CallOK Try.prog 63 [.ptr false [slPoint false s.Points]] (lookO []) false (.agg [.arr 8041]) (lookO [(8041, .arr 3 pts.length (fPoint pts))]) := by
  have hh : ∃ r : (List Point), ((r = s.Points) ∧ (True)) ∧ CallOK Try.prog 63 [.ptr false [slPoint false s.Points]] (lookO []) false (.agg [.arr 8041]) (lookO [(8041, .arr 3 r.length (fPoint r))]) := by
    refine fn_okX (Φ := fun r : (List Point) => (r = s.Points) ∧ (True)) [] (fun r => [(8041, .arr 3 r.length (fPoint r))]) (fn := Try.f63) (nt := 10) Try.func63 rfl rfl (args := [.ptr false [slPoint false s.Points]]) rfl (allcons (.inl ⟨rfl, by simp [tagged, taggedL, tagPoint]⟩) allnil) (res := fun r => .agg [.arr 8041]) ?_
    refine x_seq ?_
    refine x_reg [(0, .new 2)] [0, 2] [2] [.ptr false [slPoint false s.Points], .ref 2 0] [some (.box [nilA])] [] (by kernel_rfl) trivial ?_
    refine xe_then ?_
    refine x_seq ?_
    refine x_reg [(0, .new 3), (5, .new 8)] [2] [2, 8] [.ref 2 0] [some (.box [.arr 8]), some (.arr 3 (0 + s.Points.length) (catF 0 (litF [] 3) (fPoint s.Points)))] [(0 + s.Points.length) * 24 ≤ 140737488355328] (by kernel_rfl) ⟨(by omega), trivial⟩ ?_
    refine xe_then ?_
    refine x_ret ?_
    refine xe_weak [(8041, 8)] (T := [(2, .ref 2 0)]) (O := [(2, .box [.arr 8041]), (8041, .arr 3 ((([] : List Point) ++ s.Points).length) (fPoint (([] : List Point) ++ s.Points)))]) rfl (⟨.inl rfl, trivial⟩) (⟨.inl rfl, .inr ⟨rfl, (by first | rfl | (simp; done) | (simp; omega) | omega), fun i hi => .inl (by first | rfl | fail)⟩, trivial⟩) ?_
    refine xe_end (([] : List Point) ++ s.Points) (show ((([] : List Point) ++ s.Points) = s.Points) ∧ (True) from ⟨(by first | rfl | simp), trivial⟩) (⟨.inl rfl, trivial⟩) (.agg [.arr 8041]) (by kernel_rfl) (.inl rfl) (fun h => by cases h) (fun h => by cases h)
  obtain ⟨pts, ⟨hh0, _⟩, hc⟩ := hh
  exact ⟨pts, hh0, hc⟩


theorem take_succ_at {α : Type} [Inhabited α] {xs : List α} {i : Int} {y : α} (h0 : 0 ≤ i) (h : i.toNat < xs.length) (hy : y = at_ xs i.toNat) : xs.take (i + 1).toNat = xs.take i.toNat ++ [y] := by
  have e : (i + 1).toNat = i.toNat + 1 := by omega
  rw [e, List.take_succ_eq_append_getElem h, hy]
  simp [at_, h]

-- spec.l02Own
theorem l02Own_ok (ik : Ink) (hx : ∀ s ∈ ik.Strokes, s.Points.length ≤ 100000) (hl : ik.Strokes.length ≤ 100000) : ∃ (ss : List Stroke), (ss = ik.Strokes) ∧ CallOK Try.prog 37 [.ptr false [slStroke false ik.Strokes]] (lookO []) false (.agg [.arr 8031]) (lookO [(8031, .oar [8032] 1 ss.length (oStroke 8032 ss)), (8032, .fam ss.length 3 (mStroke ss) (gStroke ss))]) := by
  have hh : ∃ r : (List Stroke), ((r = ik.Strokes) ∧ (True)) ∧ CallOK Try.prog 37 [.ptr false [slStroke false ik.Strokes]] (lookO []) false (.agg [.arr 8031]) (lookO [(8031, .oar [8032] 1 r.length (oStroke 8032 r)), (8032, .fam r.length 3 (mStroke r) (gStroke r))]) := by
    refine fn_okX (Φ := fun r : (List Stroke) => (r = ik.Strokes) ∧ (True)) [] (fun r => [(8031, .oar [8032] 1 r.length (oStroke 8032 r)), (8032, .fam r.length 3 (mStroke r) (gStroke r))]) (fn := Try.f37) (nt := 28) Try.func37 rfl rfl (args := [.ptr false [slStroke false ik.Strokes]]) rfl (allcons (.inl ⟨rfl, by simp [tagged, taggedL, tagStroke]⟩) allnil) (res := fun r => .agg [.arr 8031]) ?_
    refine x_seq ?_
    refine x_reg [(0, .new 2)] [0, 2] [2] [.ptr false [slStroke false ik.Strokes], .ref 2 0] [some (.box [nilA])] [] (by kernel_rfl) trivial ?_
    refine xe_then ?_
    refine x_seq ?_
    refine x_reg [(1, .new 3)] [0, 2, 3] [2, 3] [.ptr false [slStroke false ik.Strokes], .ref 2 0, .ref 3 0] [some (.box [nilA]), some (.box [nilA])] [] (by kernel_rfl) trivial ?_
    refine xe_then ?_
    refine x_seq ?_
    refine x_seq ?_
    refine x_reg [] [0, 2, 3, 4] [2, 3] [.ptr false [slStroke false ik.Strokes], .ref 2 0, .ref 3 0, I 0] [some (.box [nilA]), some (.box [nilA])] [] (by kernel_rfl) trivial ?_
    refine xe_then ?_
    refine x_block ?_
    refine x_nilC 3 0 730 1 (fun _ => []) rfl (by kernel_rfl) ?_
    refine x_fam 8032 3 (fun _ => 0) (fun _ _ => []) (by kernel_rfl) ?_
    refine x_weak [] (T := [(0, .ptr false [slStroke false ik.Strokes]), (2, .ref 2 0), (3, .ref 3 0), (4, I 0)]) (O := [(2, .box [nilA]), (3, .box [.arr 730]), (730, .oar [8032] 1 (([] : List Stroke).length) (oStroke 8032 ([] : List Stroke))), (8032, .fam ([] : List Stroke).length 3 (mStroke ([] : List Stroke)) (gStroke ([] : List Stroke)))]) rfl (⟨.inl rfl, .inl rfl, .inl rfl, .inl rfl, trivial⟩) (⟨.inl rfl, .inl rfl, .inr ⟨rfl, rfl, fun i hi => absurd hi (Nat.not_lt_zero _)⟩, .inr ⟨rfl, rfl, fun p hp => absurd hp (Nat.not_lt_zero _)⟩, trivial⟩) ?_
    refine x_loop (X := Int × (List Stroke)) (fun x => mkS [(0, .ptr false [slStroke false ik.Strokes]), (2, .ref 2 0), (3, .ref 3 0), (4, I x.1)] [(2, .box [nilA]), (3, .box [.arr 730]), (730, .oar [8032] 1 x.2.length (oStroke 8032 x.2)), (8032, .fam x.2.length 3 (mStroke x.2) (gStroke x.2))]) (fun x => (0 ≤ x.1 ∧ x.1 ≤ (ik.Strokes.length : Int)) ∧ ((x.2.length : Int) = x.1) ∧ (x.2 = ik.Strokes.take x.1.toNat) ∧ True) (fun x => ((ik.Strokes.length : Int) - x.1).toNat) (0, ([] : List Stroke)) rfl (show (0 ≤ (0 : Int) ∧ (0 : Int) ≤ (ik.Strokes.length : Int)) ∧ ((([] : List Stroke).length : Int) = (0 : Int)) ∧ (([] : List Stroke) = ik.Strokes.take (0 : Int).toNat) ∧ True from ⟨(by omega), (by rfl), (by rfl), trivial⟩) (fun x hI => ?_)
    obtain ⟨i, ss⟩ := x
    obtain ⟨hi0, hl0, hs0, _⟩ : (0 ≤ i ∧ i ≤ (ik.Strokes.length : Int)) ∧ ((ss.length : Int) = i) ∧ (ss = ik.Strokes.take i.toNat) ∧ True := hI
    show XW _ _ _ _ (mkS [(0, .ptr false [slStroke false ik.Strokes]), (2, .ref 2 0), (3, .ref 3 0), (4, I i)] [(2, .box [nilA]), (3, .box [.arr 730]), (730, .oar [8032] 1 ss.length (oStroke 8032 ss)), (8032, .fam ss.length 3 (mStroke ss) (gStroke ss))]) _ _
    refine x_seq ?_
    refine x_seq ?_
    by_cases h1 : i < (ik.Strokes.length : Int)
    ·refine x_reg [(6, .dec true)] [0, 2, 3, 4, 12] [2, 3, 730, 8032] [.ptr false [slStroke false ik.Strokes], .ref 2 0, .ref 3 0, I i, Bv true] [some (.box [nilA]), some (.box [.arr 730]), some (.oar [8032] 1 ss.length (oStroke 8032 ss)), some (.fam ss.length 3 (mStroke ss) (gStroke ss))] [i < (ik.Strokes.length : Int)] (by kernel_rfl) ⟨h1, trivial⟩ ?_
     refine xe_then ?_
     refine x_true rfl ?_
     refine x_skip ?_
     refine xe_then ?_
     refine x_seq ?_
     refine x_block ?_
     obtain ⟨pts_1, hx1_0, hc1⟩ := l02OwnStroke_ok (at_ ik.Strokes i.toNat) (hx _ (at_mem (by omega)))
     refine x_reg [(8, .lend [] [(8041, .arr 3 pts_1.length (fPoint pts_1))] [(true, .ptr false [slPoint false ((at_ ik.Strokes i.toNat).Points)])] false (.agg [.arr 8041])), (9, .new 24), (10, .new 25)] [0, 2, 3, 4] [2, 3, 25, 8032, 8041] [.ptr false [slStroke false ik.Strokes], .ref 2 0, .ref 3 0, I i] [some (.box [nilA]), some (.box [.arr 25]), some (.oar [8032, 8041] 1 (ss.length + 1) (catF ss.length (oStroke 8032 ss) (litF [.arr 8041] 1))), some (.fam ss.length 3 (mStroke ss) (gStroke ss)), some (.arr 3 pts_1.length (fPoint pts_1))] [(0 : Int) ≤ i ∧ i < (ik.Strokes.length : Int), CallOK Try.prog 63 [.ptr false [slPoint false ((at_ ik.Strokes i.toNat).Points)]] (lookO []) false (.agg [.arr 8041]) (lookO [(8041, .arr 3 pts_1.length (fPoint pts_1))]) ∧ ((.ptr false [slPoint false ((at_ ik.Strokes i.toNat).Points)] : AV) = .ptr false [slPoint false ((at_ ik.Strokes i.toNat).Points)]) ∧ True, (ss.length + 1) * 24 ≤ 140737488355328] (by kernel_rfl) ⟨⟨(by omega), (by omega)⟩, ⟨hc1, rfl, trivial⟩, (by omega), trivial⟩ ?_
     refine xe_block 1 ?_
     refine xe_then ?_
     refine x_reg [] [0, 2, 3, 4] [2, 3, 25, 8032, 8041] [.ptr false [slStroke false ik.Strokes], .ref 2 0, .ref 3 0, I (i + 1)] [some (.box [nilA]), some (.box [.arr 25]), some (.oar [8032, 8041] 1 (ss.length + 1) (catF ss.length (oStroke 8032 ss) (litF [.arr 8041] 1))), some (.fam ss.length 3 (mStroke ss) (gStroke ss)), some (.arr 3 pts_1.length (fPoint pts_1))] [inR .i64 (i + 1)] (by kernel_rfl) ⟨(inR_i64 (by omega) (by omega)), trivial⟩ ?_
     refine xe_join 8041 8032 rfl rfl rfl ?_
     refine xe_weak [(730, 25)] (T := [(0, .ptr false [slStroke false ik.Strokes]), (2, .ref 2 0), (3, .ref 3 0), (4, I (i + 1))]) (O := [(2, .box [nilA]), (3, .box [.arr 730]), (730, .oar [8032] 1 ((ss ++ [(Stroke.mk pts_1)]).length) (oStroke 8032 (ss ++ [(Stroke.mk pts_1)]))), (8032, .fam (ss ++ [(Stroke.mk pts_1)]).length 3 (mStroke (ss ++ [(Stroke.mk pts_1)])) (gStroke (ss ++ [(Stroke.mk pts_1)])))]) rfl (⟨.inl rfl, .inl rfl, .inl rfl, .inl rfl, trivial⟩) (⟨.inl rfl, .inl rfl, .inr ⟨rfl, rfl, (by simp), fun i hi => .inl (ocatStroke rfl rfl rfl i hi)⟩, .inr (fcatStroke (Stroke.mk pts_1) (by first | rfl | (simp; done)) (fun i hi => (by first | rfl | fail))), trivial⟩) (xe_again ((i + 1), (ss ++ [(Stroke.mk pts_1)])) rfl (show (0 ≤ (i + 1) ∧ (i + 1) ≤ (ik.Strokes.length : Int)) ∧ (((ss ++ [(Stroke.mk pts_1)]).length : Int) = (i + 1)) ∧ ((ss ++ [(Stroke.mk pts_1)]) = ik.Strokes.take (i + 1).toNat) ∧ True from ⟨(by omega), (by simp; omega), (by rw [hs0]; exact (take_succ_at (by omega) (by omega) (by first | rfl | assumption | (simp only [*]; done))).symm), trivial⟩) (by show (((ik.Strokes.length : Int) - (i + 1)).toNat : Nat) < ((ik.Strokes.length : Int) - i).toNat; omega))
    ·refine x_reg [(6, .dec false)] [0, 2, 3, 4, 12] [2, 3, 730, 8032] [.ptr false [slStroke false ik.Strokes], .ref 2 0, .ref 3 0, I i, Bv false] [some (.box [nilA]), some (.box [.arr 730]), some (.oar [8032] 1 ss.length (oStroke 8032 ss)), some (.fam ss.length 3 (mStroke ss) (gStroke ss))] [¬ (i < (ik.Strokes.length : Int))] (by kernel_rfl) ⟨h1, trivial⟩ ?_
     refine xe_then ?_
     refine x_false rfl ?_
     refine x_exit ?_
     refine xe_exit_then ?_
     refine xe_loop_exit ?_
     refine xe_exit_same ?_
     refine xe_then ?_
     refine x_seq ?_
     refine x_reg [] [2] [2, 730, 8032] [.ref 2 0] [some (.box [.arr 730]), some (.oar [8032] 1 ss.length (oStroke 8032 ss)), some (.fam ss.length 3 (mStroke ss) (gStroke ss))] [] (by kernel_rfl) trivial ?_
     refine xe_then ?_
     refine x_ret ?_
     refine xe_weak [(8031, 730)] (T := [(2, .ref 2 0)]) (O := [(2, .box [.arr 8031]), (8031, .oar [8032] 1 ss.length (oStroke 8032 ss)), (8032, .fam ss.length 3 (mStroke ss) (gStroke ss))]) rfl (⟨.inl rfl, trivial⟩) (⟨.inl rfl, .inl rfl, .inl rfl, trivial⟩) ?_
     refine xe_end ss (show (ss = ik.Strokes) ∧ (True) from ⟨(by rw [hs0]; exact List.take_of_length_le (by omega)), trivial⟩) (⟨.inl rfl, .inl rfl, trivial⟩) (.agg [.arr 8031]) (by kernel_rfl) (.inl rfl) (fun h => by cases h) (fun h => by cases h)
  obtain ⟨ss, ⟨hh0, _⟩, hc⟩ := hh
  exact ⟨ss, hh0, hc⟩


-- spec.l05Down
theorem l05Down_ok (n : Int) (d : Int) (hn : (-4611686018427387904 ≤ n ∧ n ≤ 4611686018427387904) ∧ 0 < d) : Con Try.prog 64 [I n, I d] true (I (n / d)) := by
  have hq := tdiv_bd n d
  have hs := down_spec n hn.2
  refine fn_ok (fn := Try.f64) (nt := 16) Try.func64 rfl rfl rfl rfl (by simp [taggedL, tagged]) fun B hB => ?_
  refine aw_seq ?_
  refine aw_reg [] [0, 1] [] [I n, I d] [] [] (by kernel_rfl) hB trivial ?_
  refine ae_then ?_
  refine aw_seq ?_
  refine aw_reg [] [0, 1, 5] [] [I n, I d, I (Int.tdiv n d)] [] [(d : Int) ≠ 0 ∧ inR .i64 (Int.tdiv n d)] (by kernel_rfl) hB ⟨⟨by omega, (inR_i64 (by omega) (by omega))⟩, trivial⟩ ?_
  refine ae_then ?_
  refine aw_seq ?_
  refine aw_seq ?_
  by_cases h1 : (Int.tmod n d) < 0
  ·refine aw_reg [(3, .dec true)] [5, 12] [] [I (Int.tdiv n d), Bv true] [] [(d : Int) ≠ 0, (Int.tmod n d) < 0] (by kernel_rfl) hB ⟨(by omega), h1, trivial⟩ ?_
   refine ae_then ?_
   refine aw_true rfl ?_
   refine aw_reg [] [5] [] [I ((Int.tdiv n d) - 1)] [] [inR .i64 ((Int.tdiv n d) - 1)] (by kernel_rfl) hB ⟨(inR_i64 (by omega) (by omega)), trivial⟩ ?_
   refine ae_then ?_
   refine aw_seq ?_
   refine aw_reg [] [4] [] [I ((Int.tdiv n d) - 1)] [] [] (by kernel_rfl) hB trivial ?_
   refine ae_then ?_
   refine aw_ret ?_
   refine ae_ret hB (I ((Int.tdiv n d) - 1)) (by kernel_rfl) (.inl (by refine congrArg I ?_; first | exact hs.1 (by assumption) | exact hs.2 (by assumption))) rfl (fun _ => trivial)
  ·refine aw_reg [(3, .dec false)] [5, 12] [] [I (Int.tdiv n d), Bv false] [] [(d : Int) ≠ 0, ¬ ((Int.tmod n d) < 0)] (by kernel_rfl) hB ⟨(by omega), h1, trivial⟩ ?_
   refine ae_then ?_
   refine aw_false rfl ?_
   refine aw_skip ?_
   refine ae_then ?_
   refine aw_seq ?_
   refine aw_reg [] [4] [] [I (Int.tdiv n d)] [] [] (by kernel_rfl) hB trivial ?_
   refine ae_then ?_
   refine aw_ret ?_
   refine ae_ret hB (I (Int.tdiv n d)) (by kernel_rfl) (.inl (by refine congrArg I ?_; first | exact hs.1 (by assumption) | exact hs.2 (by assumption))) rfl (fun _ => trivial)


-- spec.l05Near
theorem l05Near_ok (n : Int) (d : Int) (hn : (-1000000000000000000 ≤ n ∧ n ≤ 1000000000000000000) ∧ 0 < d ∧ d ≤ 1000000000000000000) : Con Try.prog 38 [I n, I d] true (I (nearI n d)) := by
  refine fn_ok (fn := Try.f38) (nt := 12) Try.func38 rfl rfl rfl rfl (by simp [taggedL, tagged]) fun B hB => ?_
  refine aw_seq ?_
  refine aw_reg [] [0, 1] [] [I n, I d] [] [] (by kernel_rfl) hB trivial ?_
  refine ae_then ?_
  refine aw_seq ?_
  refine aw_reg [(6, .call [(true, I ((2 * n) + d)), (true, I (2 * d))] true (I (((2 * n) + d) / (2 * d))))] [4] [] [I (((2 * n) + d) / (2 * d))] [] [inR .i64 (2 * n), inR .i64 ((2 * n) + d), inR .i64 (2 * d), Con Try.prog 64 [I ((2 * n) + d), I (2 * d)] true (I (((2 * n) + d) / (2 * d))) ∧ ((I ((2 * n) + d) : AV) = I ((2 * n) + d)) ∧ ((I (2 * d) : AV) = I (2 * d)) ∧ True] (by kernel_rfl) hB ⟨(inR_i64 (by omega) (by omega)), (inR_i64 (by omega) (by omega)), (inR_i64 (by omega) (by omega)), ⟨(l05Down_ok ((2 * n) + d) (2 * d) (by omega)), rfl, rfl, trivial⟩, trivial⟩ ?_
  refine ae_then ?_
  refine aw_ret ?_
  refine ae_ret hB (I (((2 * n) + d) / (2 * d))) (by kernel_rfl) (.inl (by rfl)) rfl (fun _ => trivial)


-- spec.StraightenInk
theorem specStraighten_ok (ik : Ink) (slant : Int) (base : Int) : ∃ (v : Ink) (c : Int), (v = (strgR ik slant base).1) ∧ (c = (strgR ik slant base).2) ∧ Con Try.prog 8 [.agg [slStroke false ik.Strokes], I slant, I base] true (.tup [.agg [slStroke true v.Strokes], I c]) := by
  have hh : ∃ r : Ink × Int, ((r.1 = (strgR ik slant base).1) ∧ (r.2 = (strgR ik slant base).2) ∧ (True)) ∧ CallOK Try.prog 8 [.agg [slStroke false ik.Strokes], I slant, I base] (lookO []) true (.tup [.agg [slStroke true r.1.Strokes], I r.2]) (lookO []) := by
    refine fn_okX (Φ := fun r : Ink × Int => (r.1 = (strgR ik slant base).1) ∧ (r.2 = (strgR ik slant base).2) ∧ (True)) [] (fun r => []) (fn := Try.f8) (nt := 71) Try.func8 rfl rfl (args := [.agg [slStroke false ik.Strokes], I slant, I base]) rfl (allcons (.inl ⟨rfl, by simp [tagged, taggedL, tagStroke]⟩) (allcons (.inl ⟨rfl, trivial⟩) (allcons (.inl ⟨rfl, trivial⟩) allnil))) (res := fun r => .tup [.agg [slStroke true r.1.Strokes], I r.2]) ?_
    refine x_seq ?_
    refine x_reg [(0, .new 3), (1, .new 6)] [1, 2, 3, 6] [3, 6] [I slant, I base, .ref 3 0, .ref 6 0] [some (.box [slStroke false ik.Strokes]), some (.box [nilA])] [] (by kernel_rfl) trivial ?_
    refine xe_then ?_
    refine x_seq ?_
    refine x_seq ?_
    rcases Bool.eq_false_or_eq_true (okInk' ik) with h1 | h1
    ·have hil := okI_len h1
     refine x_reg [(0, .call [(false, .ptr false [slStroke false ik.Strokes])] true (Bv true))] [1, 2, 3, 6, 14] [3, 6] [I slant, I base, .ref 3 0, .ref 6 0, Bv false] [some (.box [slStroke false ik.Strokes]), some (.box [nilA])] [Con Try.prog 35 [.ptr false [slStroke false ik.Strokes]] true (Bv true) ∧ ((false = true → true = true) ∧ AV.idsL [slStroke false ik.Strokes] = [] ∧ ((false = true → false = true) ∧ 1 = 1 ∧ ik.Strokes.length = ik.Strokes.length ∧ ∀ i, i < ik.Strokes.length → (fStroke false ik.Strokes) i = (fStroke false ik.Strokes) i ∨ (AV.idsL ((fStroke false ik.Strokes) i) = [] ∧ leL (fun _ => none) false ((fStroke false ik.Strokes) i) ((fStroke false ik.Strokes) i))) ∧ ([] : List AV) = []) ∧ True] (by kernel_rfl) ⟨⟨(con_bool h1 (l02Ok_ok ik)), ⟨(fun h => by cases h), rfl, ⟨⟨(fun h => by cases h), rfl, rfl, fun i _ => .inl rfl⟩, rfl⟩⟩, trivial⟩, trivial⟩ ?_
     refine xe_then ?_
     refine x_false rfl ?_
     refine x_skip ?_
     refine xe_then ?_
     refine x_seq ?_
     refine x_seq ?_
     rcases Bool.eq_false_or_eq_true (inB slant (-256) 256) with h2 | h2
     ·have hqa := h2
      have hqa2 := inB_iff.1 h2
      rcases Bool.eq_false_or_eq_true (inB base 0 4095) with h3 | h3
      ·have hqb := h3
       have hqb2 := inB_iff.1 h3
       refine x_reg [(1, .call [(true, I slant), (true, I (-256)), (true, I 256)] true (Bv true)), (5, .call [(true, I base), (true, I 0), (true, I 4095)] true (Bv true))] [1, 2, 3, 6, 23] [3, 6] [I slant, I base, .ref 3 0, .ref 6 0, Bv false] [some (.box [slStroke false ik.Strokes]), some (.box [nilA])] [Con Try.prog 36 [I slant, I (-256), I 256] true (Bv true) ∧ ((I slant : AV) = I slant) ∧ ((I (-256) : AV) = I (-256)) ∧ ((I 256 : AV) = I 256) ∧ True, Con Try.prog 36 [I base, I 0, I 4095] true (Bv true) ∧ ((I base : AV) = I base) ∧ ((I 0 : AV) = I 0) ∧ ((I 4095 : AV) = I 4095) ∧ True] (by kernel_rfl) ⟨⟨(con_bool h2 (l00In_ok slant (-256) 256)), rfl, rfl, rfl, trivial⟩, ⟨(con_bool h3 (l00In_ok base 0 4095)), rfl, rfl, rfl, trivial⟩, trivial⟩ ?_
       refine xe_then ?_
       refine x_false rfl ?_
       refine x_skip ?_
       refine xe_then ?_
       refine x_seq ?_
       refine x_weak [] (T := [(1, I slant), (2, I base), (3, .ptr true [slStroke false ik.Strokes]), (6, .ref 6 0), (23, Bv false)]) (O := [(6, .box [nilA])]) rfl (⟨.inl rfl, .inl rfl, .inr ⟨(fun _ => rfl), rfl, ⟨⟨(fun h => by cases h), rfl, rfl, fun i _ => .inl rfl⟩, rfl⟩⟩, .inl rfl, .inl rfl, trivial⟩) (⟨.inl rfl, trivial⟩) ?_
       obtain ⟨ss_1, hx1_0, hc1⟩ := l02Own_ok ik (fun s hs => by have := okS_len (okI_mem h1 s hs); omega) (by omega)
       refine x_reg [(0, .lend [] [(8031, .oar [8032] 1 ss_1.length (oStroke 8032 ss_1)), (8032, .fam ss_1.length 3 (mStroke ss_1) (gStroke ss_1))] [(false, .ptr false [slStroke false ik.Strokes])] false (.agg [.arr 8031])), (1, .new 8)] [1, 2, 6, 8] [6, 8, 8031, 8032] [I slant, I base, .ref 6 0, .ref 8 0] [some (.box [nilA]), some (.box [.arr 8031]), some (.oar [8032] 1 ss_1.length (oStroke 8032 ss_1)), some (.fam ss_1.length 3 (mStroke ss_1) (gStroke ss_1))] [CallOK Try.prog 37 [.ptr false [slStroke false ik.Strokes]] (lookO []) false (.agg [.arr 8031]) (lookO [(8031, .oar [8032] 1 ss_1.length (oStroke 8032 ss_1)), (8032, .fam ss_1.length 3 (mStroke ss_1) (gStroke ss_1))]) ∧ ((false = true → true = true) ∧ AV.idsL [slStroke false ik.Strokes] = [] ∧ ((false = true → false = true) ∧ 1 = 1 ∧ ik.Strokes.length = ik.Strokes.length ∧ ∀ i, i < ik.Strokes.length → (fStroke false ik.Strokes) i = (fStroke false ik.Strokes) i ∨ (AV.idsL ((fStroke false ik.Strokes) i) = [] ∧ leL (fun _ => none) false ((fStroke false ik.Strokes) i) ((fStroke false ik.Strokes) i))) ∧ ([] : List AV) = []) ∧ True] (by kernel_rfl) ⟨⟨hc1, ⟨(fun h => by cases h), rfl, ⟨⟨(fun h => by cases h), rfl, rfl, fun i _ => .inl rfl⟩, rfl⟩⟩, trivial⟩, trivial⟩ ?_
       refine xe_then ?_
       refine x_seq ?_
       refine x_seq ?_
       refine x_reg [] [1, 2, 6, 8, 9] [6, 8, 8031, 8032] [I slant, I base, .ref 6 0, .ref 8 0, I 0] [some (.box [nilA]), some (.box [.arr 8031]), some (.oar [8032] 1 ss_1.length (oStroke 8032 ss_1)), some (.fam ss_1.length 3 (mStroke ss_1) (gStroke ss_1))] [] (by kernel_rfl) trivial ?_
       refine xe_then ?_
       refine x_block ?_
       refine x_loop (X := Int × (List Stroke)) (fun x => mkS [(1, I slant), (2, I base), (6, .ref 6 0), (8, .ref 8 0), (9, I x.1)] [(6, .box [nilA]), (8, .box [.arr 8031]), (8031, .oar [8032] 1 x.2.length (oStroke 8032 x.2)), (8032, .fam x.2.length 3 (mStroke x.2) (gStroke x.2))]) (fun x => (0 ≤ x.1 ∧ x.1 ≤ (ik.Strokes.length : Int)) ∧ (x.2 = mpFst (strP slant base) x.1.toNat ik.Strokes) ∧ (x.2.length = ik.Strokes.length) ∧ True) (fun x => ((ik.Strokes.length : Int) - x.1).toNat) (0, ss_1) rfl (show (0 ≤ (0 : Int) ∧ (0 : Int) ≤ (ik.Strokes.length : Int)) ∧ (ss_1 = mpFst (strP slant base) (0 : Int).toNat ik.Strokes) ∧ (ss_1.length = ik.Strokes.length) ∧ True from ⟨(by omega), (by rw [show (0 : Int).toNat = 0 from rfl, mpFst_zero]; assumption), (by simp only [*]), trivial⟩) (fun x hI => ?_)
       obtain ⟨k, ss⟩ := x
       obtain ⟨hi0, hs0, hl0, _⟩ : (0 ≤ k ∧ k ≤ (ik.Strokes.length : Int)) ∧ (ss = mpFst (strP slant base) k.toNat ik.Strokes) ∧ (ss.length = ik.Strokes.length) ∧ True := hI
       show XW _ _ _ _ (mkS [(1, I slant), (2, I base), (6, .ref 6 0), (8, .ref 8 0), (9, I k)] [(6, .box [nilA]), (8, .box [.arr 8031]), (8031, .oar [8032] 1 ss.length (oStroke 8032 ss)), (8032, .fam ss.length 3 (mStroke ss) (gStroke ss))]) _ _
       refine x_seq ?_
       refine x_seq ?_
       by_cases h4 : k < (ss.length : Int)
       ·have hi : k.toNat < ik.Strokes.length := by omega
        have hos := okI_all h1 _ hi
        have hol := okS_len hos
        have hlx : k.toNat < ss.length := by omega
        refine x_reg [(4, .dec true)] [1, 2, 6, 8, 9, 30] [6, 8, 8031, 8032] [I slant, I base, .ref 6 0, .ref 8 0, I k, Bv true] [some (.box [nilA]), some (.box [.arr 8031]), some (.oar [8032] 1 ss.length (oStroke 8032 ss)), some (.fam ss.length 3 (mStroke ss) (gStroke ss))] [k < (ss.length : Int)] (by kernel_rfl) ⟨h4, trivial⟩ ?_
        refine xe_then ?_
        refine x_true rfl ?_
        refine x_skip ?_
        refine xe_then ?_
        refine x_seq ?_
        refine x_block ?_
        refine x_seq ?_
        refine x_reg [] [1, 2, 6, 8, 9, 10] [6, 8, 8031, 8032] [I slant, I base, .ref 6 0, .ref 8 0, I k, .row 8032 k.toNat] [some (.box [nilA]), some (.box [.arr 8031]), some (.oar [8032] 1 ss.length (oStroke 8032 ss)), some (.fam ss.length 3 (mStroke ss) (gStroke ss))] [(0 : Int) ≤ k ∧ k < (ss.length : Int), k.toNat < ss.length] (by kernel_rfl) ⟨⟨(by omega), (by omega)⟩, (by omega), trivial⟩ ?_
        refine xe_then ?_
        refine x_seq ?_
        refine x_reg [] [1, 2, 6, 8, 9, 10, 11] [6, 8, 8031, 8032] [I slant, I base, .ref 6 0, .ref 8 0, I k, .row 8032 k.toNat, I 0] [some (.box [nilA]), some (.box [.arr 8031]), some (.oar [8032] 1 ss.length (oStroke 8032 ss)), some (.fam ss.length 3 (mStroke ss) (gStroke ss))] [] (by kernel_rfl) trivial ?_
        refine xe_then ?_
        refine x_block ?_
        refine x_loop (X := Int × (List Stroke)) (fun x => mkS [(1, I slant), (2, I base), (6, .ref 6 0), (8, .ref 8 0), (9, I k), (10, .row 8032 k.toNat), (11, I x.1)] [(6, .box [nilA]), (8, .box [.arr 8031]), (8031, .oar [8032] 1 x.2.length (oStroke 8032 x.2)), (8032, .fam x.2.length 3 (mStroke x.2) (gStroke x.2))]) (fun x => (0 ≤ x.1 ∧ x.1 ≤ ((at_ ik.Strokes k.toNat).Points.length : Int)) ∧ (x.2 = mpIn (strP slant base) k.toNat x.1.toNat ik.Strokes) ∧ (x.2.length = ik.Strokes.length) ∧ ((at_ x.2 k.toNat).Points.length = (at_ ik.Strokes k.toNat).Points.length) ∧ True) (fun x => (((at_ ik.Strokes k.toNat).Points.length : Int) - x.1).toNat) (0, ss) rfl (show (0 ≤ (0 : Int) ∧ (0 : Int) ≤ ((at_ ik.Strokes k.toNat).Points.length : Int)) ∧ (ss = mpIn (strP slant base) k.toNat (0 : Int).toNat ik.Strokes) ∧ (ss.length = ik.Strokes.length) ∧ ((at_ ss k.toNat).Points.length = (at_ ik.Strokes k.toNat).Points.length) ∧ True from ⟨(by omega), (by exact (show ss = mpIn (strP slant base) k.toNat 0 ik.Strokes from hs0.trans (mpIn_zero hi).symm)), (by omega), (by exact mpIn_row (f := strP slant base) (k := 0) (show ss = mpIn (strP slant base) k.toNat 0 ik.Strokes from hs0.trans (mpIn_zero hi).symm) hi), trivial⟩) (fun x hI => ?_)
        obtain ⟨j, ss'⟩ := x
        obtain ⟨hk0, hs1, hl1, hr1, _⟩ : (0 ≤ j ∧ j ≤ ((at_ ik.Strokes k.toNat).Points.length : Int)) ∧ (ss' = mpIn (strP slant base) k.toNat j.toNat ik.Strokes) ∧ (ss'.length = ik.Strokes.length) ∧ ((at_ ss' k.toNat).Points.length = (at_ ik.Strokes k.toNat).Points.length) ∧ True := hI
        show XW _ _ _ _ (mkS [(1, I slant), (2, I base), (6, .ref 6 0), (8, .ref 8 0), (9, I k), (10, .row 8032 k.toNat), (11, I j)] [(6, .box [nilA]), (8, .box [.arr 8031]), (8031, .oar [8032] 1 ss'.length (oStroke 8032 ss')), (8032, .fam ss'.length 3 (mStroke ss') (gStroke ss'))]) _ _
        refine x_seq ?_
        refine x_seq ?_
        by_cases h5 : j < ((((at_ ss' k.toNat).Points).length) : Int)
        ·have hk : j.toNat < (at_ ik.Strokes k.toNat).Points.length := by omega
         have hpt := mpIn_pt hs1 hi hk
         have hpo := okP_iff.1 (okS_at hos hk)
         rw [← hpt] at hpo
         have hlx : k.toNat < ss'.length := by omega
         have hlk : j.toNat < (at_ ss' k.toNat).Points.length := by omega
         have hmm := mulA_bd (x := slant) (y := base - (at_ (at_ ss' k.toNat).Points j.toNat).Y) (A := 256) (B := 4095) (by omega) (by omega) (by omega) (by omega)
         have hna := near_abs (slant * (base - (at_ (at_ ss' k.toNat).Points j.toNat).Y)) (d := 256) (by decide)
         refine x_reg [(3, .dec true)] [1, 2, 6, 8, 9, 10, 11, 42] [6, 8, 8031, 8032] [I slant, I base, .ref 6 0, .ref 8 0, I k, .row 8032 k.toNat, I j, Bv true] [some (.box [nilA]), some (.box [.arr 8031]), some (.oar [8032] 1 ss'.length (oStroke 8032 ss')), some (.fam ss'.length 3 (mStroke ss') (gStroke ss'))] [k.toNat < ss'.length, j < ((((at_ ss' k.toNat).Points).length) : Int)] (by kernel_rfl) ⟨(by omega), h5, trivial⟩ ?_
         refine xe_then ?_
         refine x_true rfl ?_
         refine x_skip ?_
         refine xe_then ?_
         refine x_seq ?_
         refine x_block ?_
         refine x_seq ?_
         refine x_reg [(4, .new 12)] [1, 2, 6, 8, 9, 10, 11, 12] [6, 8, 12, 8031, 8032] [I slant, I base, .ref 6 0, .ref 8 0, I k, .row 8032 k.toNat, I j, .ref 12 0] [some (.box [nilA]), some (.box [.arr 8031]), some (bxPoint (at_ ((at_ ss' k.toNat).Points) j.toNat)), some (.oar [8032] 1 ss'.length (oStroke 8032 ss')), some (.fam ss'.length 3 (mStroke ss') (gStroke ss'))] [k.toNat < ss'.length ∧ (0 : Int) ≤ j ∧ j < ((((at_ ss' k.toNat).Points).length) : Int), k.toNat < ss'.length ∧ j.toNat < ((at_ ss' k.toNat).Points).length] (by kernel_rfl) ⟨⟨(by omega), (by omega), (by omega)⟩, ⟨(by omega), (by omega)⟩, trivial⟩ ?_
         refine xe_then ?_
         refine x_reg [(10, .call [(true, I (slant * (base - ((at_ ((at_ ss' k.toNat).Points) j.toNat).Y)))), (true, I 256)] true (I (nearI (slant * (base - ((at_ ((at_ ss' k.toNat).Points) j.toNat).Y))) 256)))] [1, 2, 6, 8, 9, 10, 11] [6, 8, 8031, 8032] [I slant, I base, .ref 6 0, .ref 8 0, I k, .row 8032 k.toNat, I j] [some (.box [nilA]), some (.box [.arr 8031]), some (.oar [8032] 1 ss'.length (oStroke 8032 ss')), some (.fam ss'.length 3 (mStroke ss') (fun q => bif Nat.beq q k.toNat then (fun q => bif Nat.beq q j.toNat then [I (((at_ ((at_ ss' k.toNat).Points) j.toNat).X) - (nearI (slant * (base - ((at_ ((at_ ss' k.toNat).Points) j.toNat).Y))) 256)), I ((at_ ((at_ ss' k.toNat).Points) j.toNat).Y), I ((at_ ((at_ ss' k.toNat).Points) j.toNat).T)] else (gStroke ss') k.toNat q) else (gStroke ss') q))] [inR .i64 (base - ((at_ ((at_ ss' k.toNat).Points) j.toNat).Y)), inR .i64 (slant * (base - ((at_ ((at_ ss' k.toNat).Points) j.toNat).Y))), Con Try.prog 38 [I (slant * (base - ((at_ ((at_ ss' k.toNat).Points) j.toNat).Y))), I 256] true (I (nearI (slant * (base - ((at_ ((at_ ss' k.toNat).Points) j.toNat).Y))) 256)) ∧ ((I (slant * (base - ((at_ ((at_ ss' k.toNat).Points) j.toNat).Y))) : AV) = I (slant * (base - ((at_ ((at_ ss' k.toNat).Points) j.toNat).Y)))) ∧ ((I 256 : AV) = I 256) ∧ True, inR .i64 (((at_ ((at_ ss' k.toNat).Points) j.toNat).X) - (nearI (slant * (base - ((at_ ((at_ ss' k.toNat).Points) j.toNat).Y))) 256)), k.toNat < ss'.length ∧ (0 : Int) ≤ j ∧ j < ((((at_ ss' k.toNat).Points).length) : Int), k.toNat < ss'.length ∧ j.toNat < ((at_ ss' k.toNat).Points).length] (by kernel_rfl) ⟨(inR_i64 (by omega) (by omega)), (inR_i64 (by omega) (by omega)), ⟨(l05Near_ok (slant * (base - ((at_ ((at_ ss' k.toNat).Points) j.toNat).Y))) 256 (by omega)), rfl, rfl, trivial⟩, (inR_i64 (by omega) (by omega)), ⟨(by omega), (by omega), (by omega)⟩, ⟨(by omega), (by omega)⟩, trivial⟩ ?_
         refine xe_block 3 ?_
         refine xe_then ?_
         refine x_weak [] (T := [(1, I slant), (2, I base), (6, .ref 6 0), (8, .ref 8 0), (9, I k), (10, .row 8032 k.toNat), (11, I j)]) (O := [(6, .box [nilA]), (8, .box [.arr 8031]), (8031, .oar [8032] 1 ((ss'.set k.toNat (Stroke.withPoints (at_ ss' k.toNat) (((at_ ss' k.toNat).Points).set j.toNat (Point.mk (((at_ ((at_ ss' k.toNat).Points) j.toNat).X) - (nearI (slant * (base - ((at_ ((at_ ss' k.toNat).Points) j.toNat).Y))) 256)) ((at_ ((at_ ss' k.toNat).Points) j.toNat).Y) ((at_ ((at_ ss' k.toNat).Points) j.toNat).T))))).length) (oStroke 8032 (ss'.set k.toNat (Stroke.withPoints (at_ ss' k.toNat) (((at_ ss' k.toNat).Points).set j.toNat (Point.mk (((at_ ((at_ ss' k.toNat).Points) j.toNat).X) - (nearI (slant * (base - ((at_ ((at_ ss' k.toNat).Points) j.toNat).Y))) 256)) ((at_ ((at_ ss' k.toNat).Points) j.toNat).Y) ((at_ ((at_ ss' k.toNat).Points) j.toNat).T))))))), (8032, .fam (ss'.set k.toNat (Stroke.withPoints (at_ ss' k.toNat) (((at_ ss' k.toNat).Points).set j.toNat (Point.mk (((at_ ((at_ ss' k.toNat).Points) j.toNat).X) - (nearI (slant * (base - ((at_ ((at_ ss' k.toNat).Points) j.toNat).Y))) 256)) ((at_ ((at_ ss' k.toNat).Points) j.toNat).Y) ((at_ ((at_ ss' k.toNat).Points) j.toNat).T))))).length 3 (mStroke (ss'.set k.toNat (Stroke.withPoints (at_ ss' k.toNat) (((at_ ss' k.toNat).Points).set j.toNat (Point.mk (((at_ ((at_ ss' k.toNat).Points) j.toNat).X) - (nearI (slant * (base - ((at_ ((at_ ss' k.toNat).Points) j.toNat).Y))) 256)) ((at_ ((at_ ss' k.toNat).Points) j.toNat).Y) ((at_ ((at_ ss' k.toNat).Points) j.toNat).T)))))) (gStroke (ss'.set k.toNat (Stroke.withPoints (at_ ss' k.toNat) (((at_ ss' k.toNat).Points).set j.toNat (Point.mk (((at_ ((at_ ss' k.toNat).Points) j.toNat).X) - (nearI (slant * (base - ((at_ ((at_ ss' k.toNat).Points) j.toNat).Y))) 256)) ((at_ ((at_ ss' k.toNat).Points) j.toNat).Y) ((at_ ((at_ ss' k.toNat).Points) j.toNat).T)))))))]) rfl (⟨.inl rfl, .inl rfl, .inl rfl, .inl rfl, .inl rfl, .inl rfl, .inl rfl, trivial⟩) (⟨.inl rfl, .inl rfl, .inr ⟨rfl, rfl, (by first | rfl | (simp; done) | omega), fun i_ hi_ => .inl (osetStroke 8032 k.toNat ss' (((at_ ss' k.toNat).Points).set j.toNat (Point.mk (((at_ ((at_ ss' k.toNat).Points) j.toNat).X) - (nearI (slant * (base - ((at_ ((at_ ss' k.toNat).Points) j.toNat).Y))) 256)) ((at_ ((at_ ss' k.toNat).Points) j.toNat).Y) ((at_ ((at_ ss' k.toNat).Points) j.toNat).T))) i_)⟩, .inr (fsetStroke (P := k.toNat) (k := j.toNat) ((by omega)) ((by omega)) (by simp only [Nat.beq_refl, cond_true]; try rfl) (by intro i hi; simp only [Nat.beq_refl, cond_true, beq_ne hi, cond_false]; try rfl) (by intro p hp; simp only [beq_ne hp, cond_false])), trivial⟩) ?_
         refine x_reg [] [1, 2, 6, 8, 9, 10, 11] [6, 8, 8031, 8032] [I slant, I base, .ref 6 0, .ref 8 0, I k, .row 8032 k.toNat, I (j + 1)] [some (.box [nilA]), some (.box [.arr 8031]), some (.oar [8032] 1 ((ss'.set k.toNat (Stroke.withPoints (at_ ss' k.toNat) (((at_ ss' k.toNat).Points).set j.toNat (Point.mk (((at_ ((at_ ss' k.toNat).Points) j.toNat).X) - (nearI (slant * (base - ((at_ ((at_ ss' k.toNat).Points) j.toNat).Y))) 256)) ((at_ ((at_ ss' k.toNat).Points) j.toNat).Y) ((at_ ((at_ ss' k.toNat).Points) j.toNat).T))))).length) (oStroke 8032 (ss'.set k.toNat (Stroke.withPoints (at_ ss' k.toNat) (((at_ ss' k.toNat).Points).set j.toNat (Point.mk (((at_ ((at_ ss' k.toNat).Points) j.toNat).X) - (nearI (slant * (base - ((at_ ((at_ ss' k.toNat).Points) j.toNat).Y))) 256)) ((at_ ((at_ ss' k.toNat).Points) j.toNat).Y) ((at_ ((at_ ss' k.toNat).Points) j.toNat).T))))))), some (.fam (ss'.set k.toNat (Stroke.withPoints (at_ ss' k.toNat) (((at_ ss' k.toNat).Points).set j.toNat (Point.mk (((at_ ((at_ ss' k.toNat).Points) j.toNat).X) - (nearI (slant * (base - ((at_ ((at_ ss' k.toNat).Points) j.toNat).Y))) 256)) ((at_ ((at_ ss' k.toNat).Points) j.toNat).Y) ((at_ ((at_ ss' k.toNat).Points) j.toNat).T))))).length 3 (mStroke (ss'.set k.toNat (Stroke.withPoints (at_ ss' k.toNat) (((at_ ss' k.toNat).Points).set j.toNat (Point.mk (((at_ ((at_ ss' k.toNat).Points) j.toNat).X) - (nearI (slant * (base - ((at_ ((at_ ss' k.toNat).Points) j.toNat).Y))) 256)) ((at_ ((at_ ss' k.toNat).Points) j.toNat).Y) ((at_ ((at_ ss' k.toNat).Points) j.toNat).T)))))) (gStroke (ss'.set k.toNat (Stroke.withPoints (at_ ss' k.toNat) (((at_ ss' k.toNat).Points).set j.toNat (Point.mk (((at_ ((at_ ss' k.toNat).Points) j.toNat).X) - (nearI (slant * (base - ((at_ ((at_ ss' k.toNat).Points) j.toNat).Y))) 256)) ((at_ ((at_ ss' k.toNat).Points) j.toNat).Y) ((at_ ((at_ ss' k.toNat).Points) j.toNat).T)))))))] [inR .i64 (j + 1)] (by kernel_rfl) ⟨(inR_i64 (by omega) (by omega)), trivial⟩ ?_
         exact xe_again ((j + 1), (ss'.set k.toNat (Stroke.withPoints (at_ ss' k.toNat) (((at_ ss' k.toNat).Points).set j.toNat (Point.mk (((at_ ((at_ ss' k.toNat).Points) j.toNat).X) - (nearI (slant * (base - ((at_ ((at_ ss' k.toNat).Points) j.toNat).Y))) 256)) ((at_ ((at_ ss' k.toNat).Points) j.toNat).Y) ((at_ ((at_ ss' k.toNat).Points) j.toNat).T)))))) rfl (show (0 ≤ (j + 1) ∧ (j + 1) ≤ ((at_ ik.Strokes k.toNat).Points.length : Int)) ∧ ((ss'.set k.toNat (Stroke.withPoints (at_ ss' k.toNat) (((at_ ss' k.toNat).Points).set j.toNat (Point.mk (((at_ ((at_ ss' k.toNat).Points) j.toNat).X) - (nearI (slant * (base - ((at_ ((at_ ss' k.toNat).Points) j.toNat).Y))) 256)) ((at_ ((at_ ss' k.toNat).Points) j.toNat).Y) ((at_ ((at_ ss' k.toNat).Points) j.toNat).T))))) = mpIn (strP slant base) k.toNat (j + 1).toNat ik.Strokes) ∧ ((ss'.set k.toNat (Stroke.withPoints (at_ ss' k.toNat) (((at_ ss' k.toNat).Points).set j.toNat (Point.mk (((at_ ((at_ ss' k.toNat).Points) j.toNat).X) - (nearI (slant * (base - ((at_ ((at_ ss' k.toNat).Points) j.toNat).Y))) 256)) ((at_ ((at_ ss' k.toNat).Points) j.toNat).Y) ((at_ ((at_ ss' k.toNat).Points) j.toNat).T))))).length = ik.Strokes.length) ∧ ((at_ (ss'.set k.toNat (Stroke.withPoints (at_ ss' k.toNat) (((at_ ss' k.toNat).Points).set j.toNat (Point.mk (((at_ ((at_ ss' k.toNat).Points) j.toNat).X) - (nearI (slant * (base - ((at_ ((at_ ss' k.toNat).Points) j.toNat).Y))) 256)) ((at_ ((at_ ss' k.toNat).Points) j.toNat).Y) ((at_ ((at_ ss' k.toNat).Points) j.toNat).T))))) k.toNat).Points.length = (at_ ik.Strokes k.toNat).Points.length) ∧ True from ⟨(by omega), (by (try simp only [List.length_set, at_setS' hlx, at_setS' hlk, Stroke.withPoints, List.set_set]); exact mpIn_next hs1 hk0.1 hi hk (by rw [← hpt]; rfl)), (by simp; omega), (by (try simp only [List.length_set, at_setS' hlx, at_setS' hlk, Stroke.withPoints, List.set_set]); exact hr1), trivial⟩) (by show ((((at_ ik.Strokes k.toNat).Points.length : Int) - (j + 1)).toNat : Nat) < (((at_ ik.Strokes k.toNat).Points.length : Int) - j).toNat; omega)
        ·refine x_reg [(3, .dec false)] [1, 2, 6, 8, 9, 10, 11, 42] [6, 8, 8031, 8032] [I slant, I base, .ref 6 0, .ref 8 0, I k, .row 8032 k.toNat, I j, Bv false] [some (.box [nilA]), some (.box [.arr 8031]), some (.oar [8032] 1 ss'.length (oStroke 8032 ss')), some (.fam ss'.length 3 (mStroke ss') (gStroke ss'))] [k.toNat < ss'.length, ¬ (j < ((((at_ ss' k.toNat).Points).length) : Int))] (by kernel_rfl) ⟨(by omega), h5, trivial⟩ ?_
         refine xe_then ?_
         refine x_false rfl ?_
         refine x_exit ?_
         refine xe_exit_then ?_
         refine xe_loop_exit ?_
         refine xe_exit_same ?_
         refine xe_block 1 ?_
         refine xe_then ?_
         refine x_reg [] [1, 2, 6, 8, 9] [6, 8, 8031, 8032] [I slant, I base, .ref 6 0, .ref 8 0, I (k + 1)] [some (.box [nilA]), some (.box [.arr 8031]), some (.oar [8032] 1 ss'.length (oStroke 8032 ss')), some (.fam ss'.length 3 (mStroke ss') (gStroke ss'))] [inR .i64 (k + 1)] (by kernel_rfl) ⟨(inR_i64 (by omega) (by omega)), trivial⟩ ?_
         exact xe_again ((k + 1), ss') rfl (show (0 ≤ (k + 1) ∧ (k + 1) ≤ (ik.Strokes.length : Int)) ∧ (ss' = mpFst (strP slant base) (k + 1).toNat ik.Strokes) ∧ (ss'.length = ik.Strokes.length) ∧ True from ⟨(by omega), (by exact mpIn_exit hs1 (by omega) hi (by omega)), (by omega), trivial⟩) (by show (((ik.Strokes.length : Int) - (k + 1)).toNat : Nat) < ((ik.Strokes.length : Int) - k).toNat; omega)
       ·have hfin : ss = (mpI (strP slant base) ik).Strokes := by rw [hs0]; exact mpFst_all (by omega)
        refine x_reg [(4, .dec false)] [1, 2, 6, 8, 9, 30] [6, 8, 8031, 8032] [I slant, I base, .ref 6 0, .ref 8 0, I k, Bv false] [some (.box [nilA]), some (.box [.arr 8031]), some (.oar [8032] 1 ss.length (oStroke 8032 ss)), some (.fam ss.length 3 (mStroke ss) (gStroke ss))] [¬ (k < (ss.length : Int))] (by kernel_rfl) ⟨h4, trivial⟩ ?_
        refine xe_then ?_
        refine x_false rfl ?_
        refine x_exit ?_
        refine xe_exit_then ?_
        refine xe_loop_exit ?_
        refine xe_exit_same ?_
        refine xe_then ?_
        refine x_seq ?_
        refine x_seq ?_
        rcases Bool.eq_false_or_eq_true (okInk' (Ink.mk ss)) with h6 | h6
        ·have hst := strg_yes h1 ⟨hqa, hqb⟩ (by first | (rw [hfin] at *; assumption) | (simpa [*] using h6))
         refine x_reg [(0, .call [(false, .ptr false [slStroke false ss])] true (Bv true))] [6, 8, 68] [6, 8, 8031, 8032] [.ref 6 0, .ref 8 0, Bv false] [some (.box [nilA]), some (.box [.arr 8031]), some (.oar [8032] 1 ss.length (oStroke 8032 ss)), some (.fam ss.length 3 (mStroke ss) (gStroke ss))] [Con Try.prog 35 [.ptr false [slStroke false ss]] true (Bv true) ∧ ((false = true → true = true) ∧ AV.idsL [slStroke false ss] = [] ∧ ((false = true → true = true) ∧ 1 = 1 ∧ ss.length = ss.length ∧ ∀ i, i < ss.length → AV.idsL ((fStroke false ss) i) = [] ∧ leL (lookO [(8032, .fam ss.length 3 (mStroke ss) (gStroke ss))]) true ((oStroke 8032 ss) i) ((fStroke false ss) i)) ∧ ([] : List AV) = []) ∧ True] (by kernel_rfl) ⟨⟨(con_bool h6 (l02Ok_ok (Ink.mk ss))), ⟨(fun h => by cases h), rfl, ⟨⟨(fun h => by cases h), rfl, rfl, oleStroke _ _ rfl⟩, rfl⟩⟩, trivial⟩, trivial⟩ ?_
         refine xe_then ?_
         refine x_false rfl ?_
         refine x_skip ?_
         refine xe_then ?_
         refine x_seq ?_
         refine x_reg [] [6, 7] [6, 8031, 8032] [.ref 6 0, I 0] [some (.box [.arr 8031]), some (.oar [8032] 1 ss.length (oStroke 8032 ss)), some (.fam ss.length 3 (mStroke ss) (gStroke ss))] [] (by kernel_rfl) trivial ?_
         refine xe_then ?_
         refine x_ret ?_
         refine xe_end ((Ink.mk ss), 0) (show ((Ink.mk ss) = (strgR ik slant base).1) ∧ (0 = (strgR ik slant base).2) ∧ (True) from ⟨(by first | (rw [hst]; done) | (rw [hst, hfin]; done) | (simp only [*]; done) | (rw [hst]; assumption) | (rw [hst]; exact hx1_0)), (by first | (rw [hst]; done) | (rw [hst, hfin]; done) | (simp only [*]; done) | (rw [hst]; assumption) | (rw [hst]; exact hx1_0)), trivial⟩) (trivial) (.tup [.agg [.arr 8031], I 0]) (by kernel_rfl) (.inr ⟨⟨⟨(fun _ => rfl), rfl, rfl, oleStroke _ _ rfl⟩, rfl⟩, ⟨rfl, rfl⟩⟩) (fun _ => rfl) (fun _ => (by simp [tagged, taggedL, tagStroke]))
        ·have hst := strg_st h1 ⟨hqa, hqb⟩ (by first | (rw [hfin] at *; assumption) | (simpa [*] using h6))
         refine x_reg [(0, .call [(false, .ptr false [slStroke false ss])] true (Bv false))] [6, 8, 68] [6, 8, 8031, 8032] [.ref 6 0, .ref 8 0, Bv true] [some (.box [nilA]), some (.box [.arr 8031]), some (.oar [8032] 1 ss.length (oStroke 8032 ss)), some (.fam ss.length 3 (mStroke ss) (gStroke ss))] [Con Try.prog 35 [.ptr false [slStroke false ss]] true (Bv false) ∧ ((false = true → true = true) ∧ AV.idsL [slStroke false ss] = [] ∧ ((false = true → true = true) ∧ 1 = 1 ∧ ss.length = ss.length ∧ ∀ i, i < ss.length → AV.idsL ((fStroke false ss) i) = [] ∧ leL (lookO [(8032, .fam ss.length 3 (mStroke ss) (gStroke ss))]) true ((oStroke 8032 ss) i) ((fStroke false ss) i)) ∧ ([] : List AV) = []) ∧ True] (by kernel_rfl) ⟨⟨(con_bool h6 (l02Ok_ok (Ink.mk ss))), ⟨(fun h => by cases h), rfl, ⟨⟨(fun h => by cases h), rfl, rfl, oleStroke _ _ rfl⟩, rfl⟩⟩, trivial⟩, trivial⟩ ?_
         refine xe_then ?_
         refine x_true rfl ?_
         refine x_seq ?_
         refine x_reg [] [6, 7] [6] [.ref 6 0, I 6] [some (.box [nilA])] [] (by kernel_rfl) trivial ?_
         refine xe_then ?_
         refine x_ret ?_
         refine xe_ret_then ?_
         refine xe_end ((Ink.mk ([] : List Stroke)), 6) (show ((Ink.mk ([] : List Stroke)) = (strgR ik slant base).1) ∧ (6 = (strgR ik slant base).2) ∧ (True) from ⟨(by first | (rw [hst]; done) | (rw [hst, hfin]; done) | (simp only [*]; done) | (rw [hst]; assumption) | (rw [hst]; exact hx1_0)), (by first | (rw [hst]; done) | (rw [hst, hfin]; done) | (simp only [*]; done) | (rw [hst]; assumption) | (rw [hst]; exact hx1_0)), trivial⟩) (trivial) (.tup [.agg [nilA], I 6]) (by kernel_rfl) (.inr ⟨⟨⟨rfl, rfl⟩, rfl⟩, ⟨rfl, rfl⟩⟩) (fun _ => rfl) (fun _ => (by simp [tagged, taggedL, tagStroke]))
      ·have hst := strg_rng (a := slant) h1 (fun q => by rw [q.2] at h3; cases h3)
       refine x_reg [(1, .call [(true, I slant), (true, I (-256)), (true, I 256)] true (Bv true)), (5, .call [(true, I base), (true, I 0), (true, I 4095)] true (Bv false))] [1, 2, 3, 6, 23] [3, 6] [I slant, I base, .ref 3 0, .ref 6 0, Bv true] [some (.box [slStroke false ik.Strokes]), some (.box [nilA])] [Con Try.prog 36 [I slant, I (-256), I 256] true (Bv true) ∧ ((I slant : AV) = I slant) ∧ ((I (-256) : AV) = I (-256)) ∧ ((I 256 : AV) = I 256) ∧ True, Con Try.prog 36 [I base, I 0, I 4095] true (Bv false) ∧ ((I base : AV) = I base) ∧ ((I 0 : AV) = I 0) ∧ ((I 4095 : AV) = I 4095) ∧ True] (by kernel_rfl) ⟨⟨(con_bool h2 (l00In_ok slant (-256) 256)), rfl, rfl, rfl, trivial⟩, ⟨(con_bool h3 (l00In_ok base 0 4095)), rfl, rfl, rfl, trivial⟩, trivial⟩ ?_
       refine xe_then ?_
       refine x_true rfl ?_
       refine x_seq ?_
       refine x_reg [] [6, 7] [6] [.ref 6 0, I 2] [some (.box [nilA])] [] (by kernel_rfl) trivial ?_
       refine xe_then ?_
       refine x_ret ?_
       refine xe_ret_then ?_
       refine xe_end ((Ink.mk ([] : List Stroke)), 2) (show ((Ink.mk ([] : List Stroke)) = (strgR ik slant base).1) ∧ (2 = (strgR ik slant base).2) ∧ (True) from ⟨(by first | (rw [hst]; done) | (rw [hst, hfin]; done) | (simp only [*]; done) | (rw [hst]; assumption) | (rw [hst]; exact hx1_0)), (by first | (rw [hst]; done) | (rw [hst, hfin]; done) | (simp only [*]; done) | (rw [hst]; assumption) | (rw [hst]; exact hx1_0)), trivial⟩) (trivial) (.tup [.agg [nilA], I 2]) (by kernel_rfl) (.inr ⟨⟨⟨rfl, rfl⟩, rfl⟩, ⟨rfl, rfl⟩⟩) (fun _ => rfl) (fun _ => (by simp [tagged, taggedL, tagStroke]))
     ·have hst := strg_rng (b := base) h1 (fun q => by rw [q.1] at h2; cases h2)
      refine x_reg [(1, .call [(true, I slant), (true, I (-256)), (true, I 256)] true (Bv false))] [1, 2, 3, 6, 23] [3, 6] [I slant, I base, .ref 3 0, .ref 6 0, Bv true] [some (.box [slStroke false ik.Strokes]), some (.box [nilA])] [Con Try.prog 36 [I slant, I (-256), I 256] true (Bv false) ∧ ((I slant : AV) = I slant) ∧ ((I (-256) : AV) = I (-256)) ∧ ((I 256 : AV) = I 256) ∧ True] (by kernel_rfl) ⟨⟨(con_bool h2 (l00In_ok slant (-256) 256)), rfl, rfl, rfl, trivial⟩, trivial⟩ ?_
      refine xe_then ?_
      refine x_true rfl ?_
      refine x_seq ?_
      refine x_reg [] [6, 7] [6] [.ref 6 0, I 2] [some (.box [nilA])] [] (by kernel_rfl) trivial ?_
      refine xe_then ?_
      refine x_ret ?_
      refine xe_ret_then ?_
      refine xe_end ((Ink.mk ([] : List Stroke)), 2) (show ((Ink.mk ([] : List Stroke)) = (strgR ik slant base).1) ∧ (2 = (strgR ik slant base).2) ∧ (True) from ⟨(by first | (rw [hst]; done) | (rw [hst, hfin]; done) | (simp only [*]; done) | (rw [hst]; assumption) | (rw [hst]; exact hx1_0)), (by first | (rw [hst]; done) | (rw [hst, hfin]; done) | (simp only [*]; done) | (rw [hst]; assumption) | (rw [hst]; exact hx1_0)), trivial⟩) (trivial) (.tup [.agg [nilA], I 2]) (by kernel_rfl) (.inr ⟨⟨⟨rfl, rfl⟩, rfl⟩, ⟨rfl, rfl⟩⟩) (fun _ => rfl) (fun _ => (by simp [tagged, taggedL, tagStroke]))
    ·have hst := strg_inv (a := slant) (b := base) h1
     refine x_reg [(0, .call [(false, .ptr false [slStroke false ik.Strokes])] true (Bv false))] [1, 2, 3, 6, 14] [3, 6] [I slant, I base, .ref 3 0, .ref 6 0, Bv true] [some (.box [slStroke false ik.Strokes]), some (.box [nilA])] [Con Try.prog 35 [.ptr false [slStroke false ik.Strokes]] true (Bv false) ∧ ((false = true → true = true) ∧ AV.idsL [slStroke false ik.Strokes] = [] ∧ ((false = true → false = true) ∧ 1 = 1 ∧ ik.Strokes.length = ik.Strokes.length ∧ ∀ i, i < ik.Strokes.length → (fStroke false ik.Strokes) i = (fStroke false ik.Strokes) i ∨ (AV.idsL ((fStroke false ik.Strokes) i) = [] ∧ leL (fun _ => none) false ((fStroke false ik.Strokes) i) ((fStroke false ik.Strokes) i))) ∧ ([] : List AV) = []) ∧ True] (by kernel_rfl) ⟨⟨(con_bool h1 (l02Ok_ok ik)), ⟨(fun h => by cases h), rfl, ⟨⟨(fun h => by cases h), rfl, rfl, fun i _ => .inl rfl⟩, rfl⟩⟩, trivial⟩, trivial⟩ ?_
     refine xe_then ?_
     refine x_true rfl ?_
     refine x_seq ?_
     refine x_reg [] [6, 7] [6] [.ref 6 0, I 1] [some (.box [nilA])] [] (by kernel_rfl) trivial ?_
     refine xe_then ?_
     refine x_ret ?_
     refine xe_ret_then ?_
     refine xe_end ((Ink.mk ([] : List Stroke)), 1) (show ((Ink.mk ([] : List Stroke)) = (strgR ik slant base).1) ∧ (1 = (strgR ik slant base).2) ∧ (True) from ⟨(by first | (rw [hst]; done) | (rw [hst, hfin]; done) | (simp only [*]; done) | (rw [hst]; assumption) | (rw [hst]; exact hx1_0)), (by first | (rw [hst]; done) | (rw [hst, hfin]; done) | (simp only [*]; done) | (rw [hst]; assumption) | (rw [hst]; exact hx1_0)), trivial⟩) (trivial) (.tup [.agg [nilA], I 1]) (by kernel_rfl) (.inr ⟨⟨⟨rfl, rfl⟩, rfl⟩, ⟨rfl, rfl⟩⟩) (fun _ => rfl) (fun _ => (by simp [tagged, taggedL, tagStroke]))
  obtain ⟨⟨v, c⟩, ⟨hh0, hh1, _⟩, hc⟩ := hh
  exact ⟨v, c, hh0, hh1, hc⟩


-- impl.abs
theorem abs_ok (n : Int) (hn : -9223372036854775807 ≤ n ∧ n ≤ 9223372036854775807) : Con Try.prog 39 [I n] true (I (n.natAbs : Int)) := by
  refine fn_ok (fn := Try.f39) (nt := 8) Try.func39 rfl rfl rfl rfl (by simp [taggedL, tagged]) fun B hB => ?_
  refine aw_seq ?_
  refine aw_reg [] [0] [] [I n] [] [] (by kernel_rfl) hB trivial ?_
  refine ae_then ?_
  refine aw_seq ?_
  refine aw_seq ?_
  by_cases h1 : n < 0
  ·refine aw_reg [(1, .dec true)] [0, 4] [] [I n, Bv true] [] [n < 0] (by kernel_rfl) hB ⟨h1, trivial⟩ ?_
   refine ae_then ?_
   refine aw_true rfl ?_
   refine aw_seq ?_
   refine aw_reg [] [2] [] [I (-n)] [] [inR .i64 (-n)] (by kernel_rfl) hB ⟨(inR_i64 (by omega) (by omega)), trivial⟩ ?_
   refine ae_then ?_
   refine aw_ret ?_
   refine ae_ret_then ?_
   refine ae_ret hB (I (-n)) (by kernel_rfl) (.inl (by refine congrArg I ?_; omega)) rfl (fun _ => trivial)
  ·refine aw_reg [(1, .dec false)] [0, 4] [] [I n, Bv false] [] [¬ (n < 0)] (by kernel_rfl) hB ⟨h1, trivial⟩ ?_
   refine ae_then ?_
   refine aw_false rfl ?_
   refine aw_skip ?_
   refine ae_then ?_
   refine aw_seq ?_
   refine aw_reg [] [2] [] [I n] [] [] (by kernel_rfl) hB trivial ?_
   refine ae_then ?_
   refine aw_ret ?_
   refine ae_ret hB (I n) (by kernel_rfl) (.inl (by refine congrArg I ?_; omega)) rfl (fun _ => trivial)


-- impl.SlantOf
theorem implSlantOf_ok (ik : Ink) : Con Try.prog 9 [.agg [slStroke false ik.Strokes]] true (.tup [I ((slantR ik).1), I ((slantR ik).2)]) := by
  refine fn_ok (fn := Try.f9) (nt := 78) Try.func9 rfl rfl rfl rfl (by simp [taggedL, tagged, tagStroke]) fun B hB => ?_
  refine aw_lens (x := .agg [slStroke false ik.Strokes]) 0 rfl (fun len_ik => ?_)
  simp [LenOK, LenL, cPoint, cStroke, fPoint, fStroke, slPoint, slStroke] at len_ik
  refine aw_seq ?_
  refine aw_reg [(0, .new 1)] [1] [1] [.ref 1 0] [some (.box [slStroke false ik.Strokes])] [] (by kernel_rfl) hB trivial ?_
  refine ae_then ?_
  refine aw_seq ?_
  refine aw_seq ?_
  rcases Bool.eq_false_or_eq_true (okInk' ik) with h1 | h1
  ·have hbi := slaI_bd h1 ik.Strokes.length (Nat.le_refl _)
   have hil := okI_len h1
   have ok := h1
   refine aw_reg [(1, .call [(true, .agg [slStroke false ik.Strokes])] true (Bv true))] [1, 13] [1] [.ref 1 0, Bv false] [some (.box [slStroke false ik.Strokes])] [Con Try.prog 29 [.agg [slStroke false ik.Strokes]] true (Bv true) ∧ ((.agg [slStroke false ik.Strokes] : AV) = .agg [slStroke false ik.Strokes]) ∧ True] (by kernel_rfl) hB ⟨⟨(con_bool h1 (ValidInk_ok ik)), rfl, trivial⟩, trivial⟩ ?_
   refine ae_then ?_
   refine aw_false rfl ?_
   refine aw_skip ?_
   refine ae_then ?_
   refine aw_seq ?_
   refine aw_reg [] [1, 4, 5] [1] [.ref 1 0, I 0, I 0] [some (.box [slStroke false ik.Strokes])] [] (by kernel_rfl) hB trivial ?_
   refine ae_then ?_
   refine aw_seq ?_
   refine aw_seq ?_
   refine aw_reg [] [4, 5, 15, 16, 17] [] [I 0, I 0, slStroke false ik.Strokes, I (ik.Strokes.length : Int), I 0] [] [] (by kernel_rfl) hB trivial ?_
   refine ae_then ?_
   refine aw_block ?_
   refine aw_loop (fun gn gσ => ∃ (across : Int) (down : Int) (t17 : Int), gn = ((ik.Strokes.length : Int) - t17).toNat ∧ (0 ≤ t17 ∧ t17 ≤ (ik.Strokes.length : Int)) ∧ (across = (slaI ik.Strokes t17.toNat).1 ∧ down = (slaI ik.Strokes t17.toNat).2) ∧ gσ = mkS [(4, I across), (5, I down), (15, slStroke false ik.Strokes), (16, I (ik.Strokes.length : Int)), (17, I t17)] []) (((ik.Strokes.length : Int) - 0).toNat) ⟨0, 0, 0, rfl, (by omega), (by exact ⟨rfl, rfl⟩), rfl⟩ (fun gn gσ hI => ?_)
   obtain ⟨across, down, t17, rfl, hi0, hs0, rfl⟩ := hI
   refine aw_seq ?_
   by_cases h2 : t17 < (ik.Strokes.length : Int)
   ·have hi : t17.toNat < ik.Strokes.length := by omega
    have hos := okI_all ok _ hi
    have hol := okS_len hos
    have hbi := slaI_bd ok t17.toNat (by omega)
    have hil := okI_len ok
    refine aw_reg [(0, .dec true)] [4, 5, 15, 16, 17, 18] [] [I across, I down, slStroke false ik.Strokes, I (ik.Strokes.length : Int), I t17, Bv true] [] [t17 < (ik.Strokes.length : Int)] (by kernel_rfl) hB ⟨h2, trivial⟩ ?_
    refine ae_then ?_
    refine aw_seq ?_
    refine aw_true rfl ?_
    refine aw_skip ?_
    refine ae_then ?_
    refine aw_seq ?_
    refine aw_block ?_
    refine aw_seq ?_
    refine aw_reg [(2, .new 7)] [4, 5, 7, 15, 16, 17] [7] [I across, I down, .ref 7 0, slStroke false ik.Strokes, I (ik.Strokes.length : Int), I t17] [some (.box [slPoint false ((at_ ik.Strokes t17.toNat).Points)])] [(0 : Int) ≤ t17 ∧ t17 < (ik.Strokes.length : Int)] (by kernel_rfl) hB ⟨⟨(by omega), (by omega)⟩, trivial⟩ ?_
    refine ae_then ?_
    refine aw_seq ?_
    refine aw_reg [] [4, 5, 7, 8, 15, 16, 17] [7] [I across, I down, .ref 7 0, I 1, slStroke false ik.Strokes, I (ik.Strokes.length : Int), I t17] [some (.box [slPoint false ((at_ ik.Strokes t17.toNat).Points)])] [] (by kernel_rfl) hB trivial ?_
    refine ae_then ?_
    refine aw_block ?_
    refine aw_loop (fun gn gσ => ∃ (across' : Int) (down' : Int) (k : Int), gn = (((at_ ik.Strokes t17.toNat).Points.length : Int) - k).toNat ∧ (1 ≤ k ∧ (k ≤ ((at_ ik.Strokes t17.toNat).Points.length : Int) ∨ k = 1)) ∧ (across' = across + (slaS (at_ ik.Strokes t17.toNat).Points k.toNat).1 ∧ down' = down + (slaS (at_ ik.Strokes t17.toNat).Points k.toNat).2) ∧ gσ = mkS [(4, I across'), (5, I down'), (7, .ref 7 0), (8, I k), (15, slStroke false ik.Strokes), (16, I (ik.Strokes.length : Int)), (17, I t17)] [(7, .box [slPoint false ((at_ ik.Strokes t17.toNat).Points)])]) ((((at_ ik.Strokes t17.toNat).Points.length : Int) - 1).toNat) ⟨across, down, 1, rfl, (by omega), (by rw [slaS_one _ _ (by decide)]; omega), rfl⟩ (fun gn gσ hI => ?_)
    obtain ⟨across', down', k, rfl, hk0, hs1, rfl⟩ := hI
    refine aw_seq ?_
    refine aw_seq ?_
    by_cases h3 : k < ((((at_ ik.Strokes t17.toNat).Points).length) : Int)
    ·have hk : k.toNat < (at_ ik.Strokes t17.toNat).Points.length := by omega
     have hk2 : (k - 1).toNat < (at_ ik.Strokes t17.toNat).Points.length := by omega
     have hp1 := okP_iff.1 (okS_at hos hk)
     have hp2 := okP_iff.1 (okS_at hos hk2)
     have hbk := sla_bd hos k.toNat (by omega)
     have hm1 := mulA_bd (x := (at_ (at_ ik.Strokes t17.toNat).Points k.toNat).X - (at_ (at_ ik.Strokes t17.toNat).Points (k - 1).toNat).X) (y := (at_ (at_ ik.Strokes t17.toNat).Points k.toNat).Y - (at_ (at_ ik.Strokes t17.toNat).Points (k - 1).toNat).Y) (A := 4095) (B := 4095) (by omega) (by omega) (by omega) (by omega)
     have hm2 := mulA_bd (x := (at_ (at_ ik.Strokes t17.toNat).Points k.toNat).Y - (at_ (at_ ik.Strokes t17.toNat).Points (k - 1).toNat).Y) (y := (at_ (at_ ik.Strokes t17.toNat).Points k.toNat).Y - (at_ (at_ ik.Strokes t17.toNat).Points (k - 1).toNat).Y) (A := 4095) (B := 4095) (by omega) (by omega) (by omega) (by omega)
     refine aw_reg [(4, .dec true)] [4, 5, 7, 8, 15, 16, 17, 25] [7] [I across', I down', .ref 7 0, I k, slStroke false ik.Strokes, I (ik.Strokes.length : Int), I t17, Bv true] [some (.box [slPoint false ((at_ ik.Strokes t17.toNat).Points)])] [k < ((((at_ ik.Strokes t17.toNat).Points).length) : Int)] (by kernel_rfl) hB ⟨h3, trivial⟩ ?_
     refine ae_then ?_
     refine aw_true rfl ?_
     refine aw_skip ?_
     refine ae_then ?_
     refine aw_seq ?_
     refine aw_block ?_
     refine aw_seq ?_
     refine aw_reg [] [4, 5, 7, 8, 9, 10, 15, 16, 17] [7] [I across', I down', .ref 7 0, I k, I (((at_ ((at_ ik.Strokes t17.toNat).Points) k.toNat).X) - ((at_ ((at_ ik.Strokes t17.toNat).Points) ((k - 1).toNat)).X)), I (((at_ ((at_ ik.Strokes t17.toNat).Points) k.toNat).Y) - ((at_ ((at_ ik.Strokes t17.toNat).Points) ((k - 1).toNat)).Y)), slStroke false ik.Strokes, I (ik.Strokes.length : Int), I t17] [some (.box [slPoint false ((at_ ik.Strokes t17.toNat).Points)])] [(0 : Int) ≤ k ∧ k < ((((at_ ik.Strokes t17.toNat).Points).length) : Int), inR .i64 (k - 1), (0 : Int) ≤ (k - 1) ∧ (k - 1) < ((((at_ ik.Strokes t17.toNat).Points).length) : Int), inR .i64 (((at_ ((at_ ik.Strokes t17.toNat).Points) k.toNat).X) - ((at_ ((at_ ik.Strokes t17.toNat).Points) ((k - 1).toNat)).X)), (0 : Int) ≤ k ∧ k < ((((at_ ik.Strokes t17.toNat).Points).length) : Int), inR .i64 (k - 1), (0 : Int) ≤ (k - 1) ∧ (k - 1) < ((((at_ ik.Strokes t17.toNat).Points).length) : Int), inR .i64 (((at_ ((at_ ik.Strokes t17.toNat).Points) k.toNat).Y) - ((at_ ((at_ ik.Strokes t17.toNat).Points) ((k - 1).toNat)).Y))] (by kernel_rfl) hB ⟨⟨(by omega), (by omega)⟩, (inR_i64 (by omega) (by omega)), ⟨(by omega), (by omega)⟩, (inR_i64 (by omega) (by omega)), ⟨(by omega), (by omega)⟩, (inR_i64 (by omega) (by omega)), ⟨(by omega), (by omega)⟩, (inR_i64 (by omega) (by omega)), trivial⟩ ?_
     refine ae_then ?_
     refine aw_seq ?_
     by_cases h4 : ((((at_ ((at_ ik.Strokes t17.toNat).Points) k.toNat).X) - ((at_ ((at_ ik.Strokes t17.toNat).Points) ((k - 1).toNat)).X)).natAbs : Int) < ((((at_ ((at_ ik.Strokes t17.toNat).Points) k.toNat).Y) - ((at_ ((at_ ik.Strokes t17.toNat).Points) ((k - 1).toNat)).Y)).natAbs : Int)
     ·refine aw_reg [(1, .call [(true, I (((at_ ((at_ ik.Strokes t17.toNat).Points) k.toNat).Y) - ((at_ ((at_ ik.Strokes t17.toNat).Points) ((k - 1).toNat)).Y)))] true (I ((((at_ ((at_ ik.Strokes t17.toNat).Points) k.toNat).Y) - ((at_ ((at_ ik.Strokes t17.toNat).Points) ((k - 1).toNat)).Y)).natAbs : Int))), (3, .call [(true, I (((at_ ((at_ ik.Strokes t17.toNat).Points) k.toNat).X) - ((at_ ((at_ ik.Strokes t17.toNat).Points) ((k - 1).toNat)).X)))] true (I ((((at_ ((at_ ik.Strokes t17.toNat).Points) k.toNat).X) - ((at_ ((at_ ik.Strokes t17.toNat).Points) ((k - 1).toNat)).X)).natAbs : Int))), (4, .dec true)] [4, 5, 7, 8, 9, 10, 15, 16, 17, 60] [7] [I across', I down', .ref 7 0, I k, I (((at_ ((at_ ik.Strokes t17.toNat).Points) k.toNat).X) - ((at_ ((at_ ik.Strokes t17.toNat).Points) ((k - 1).toNat)).X)), I (((at_ ((at_ ik.Strokes t17.toNat).Points) k.toNat).Y) - ((at_ ((at_ ik.Strokes t17.toNat).Points) ((k - 1).toNat)).Y)), slStroke false ik.Strokes, I (ik.Strokes.length : Int), I t17, Bv true] [some (.box [slPoint false ((at_ ik.Strokes t17.toNat).Points)])] [Con Try.prog 39 [I (((at_ ((at_ ik.Strokes t17.toNat).Points) k.toNat).Y) - ((at_ ((at_ ik.Strokes t17.toNat).Points) ((k - 1).toNat)).Y))] true (I ((((at_ ((at_ ik.Strokes t17.toNat).Points) k.toNat).Y) - ((at_ ((at_ ik.Strokes t17.toNat).Points) ((k - 1).toNat)).Y)).natAbs : Int)) ∧ ((I (((at_ ((at_ ik.Strokes t17.toNat).Points) k.toNat).Y) - ((at_ ((at_ ik.Strokes t17.toNat).Points) ((k - 1).toNat)).Y)) : AV) = I (((at_ ((at_ ik.Strokes t17.toNat).Points) k.toNat).Y) - ((at_ ((at_ ik.Strokes t17.toNat).Points) ((k - 1).toNat)).Y))) ∧ True, Con Try.prog 39 [I (((at_ ((at_ ik.Strokes t17.toNat).Points) k.toNat).X) - ((at_ ((at_ ik.Strokes t17.toNat).Points) ((k - 1).toNat)).X))] true (I ((((at_ ((at_ ik.Strokes t17.toNat).Points) k.toNat).X) - ((at_ ((at_ ik.Strokes t17.toNat).Points) ((k - 1).toNat)).X)).natAbs : Int)) ∧ ((I (((at_ ((at_ ik.Strokes t17.toNat).Points) k.toNat).X) - ((at_ ((at_ ik.Strokes t17.toNat).Points) ((k - 1).toNat)).X)) : AV) = I (((at_ ((at_ ik.Strokes t17.toNat).Points) k.toNat).X) - ((at_ ((at_ ik.Strokes t17.toNat).Points) ((k - 1).toNat)).X))) ∧ True, ((((at_ ((at_ ik.Strokes t17.toNat).Points) k.toNat).X) - ((at_ ((at_ ik.Strokes t17.toNat).Points) ((k - 1).toNat)).X)).natAbs : Int) < ((((at_ ((at_ ik.Strokes t17.toNat).Points) k.toNat).Y) - ((at_ ((at_ ik.Strokes t17.toNat).Points) ((k - 1).toNat)).Y)).natAbs : Int)] (by kernel_rfl) hB ⟨⟨(abs_ok (((at_ ((at_ ik.Strokes t17.toNat).Points) k.toNat).Y) - ((at_ ((at_ ik.Strokes t17.toNat).Points) ((k - 1).toNat)).Y)) (by omega)), rfl, trivial⟩, ⟨(abs_ok (((at_ ((at_ ik.Strokes t17.toNat).Points) k.toNat).X) - ((at_ ((at_ ik.Strokes t17.toNat).Points) ((k - 1).toNat)).X)) (by omega)), rfl, trivial⟩, h4, trivial⟩ ?_
      refine ae_then ?_
      refine aw_true rfl ?_
      refine aw_seq ?_
      refine aw_reg [] [4, 5, 7, 8, 10, 15, 16, 17] [7] [I (across' - ((((at_ ((at_ ik.Strokes t17.toNat).Points) k.toNat).X) - ((at_ ((at_ ik.Strokes t17.toNat).Points) ((k - 1).toNat)).X)) * (((at_ ((at_ ik.Strokes t17.toNat).Points) k.toNat).Y) - ((at_ ((at_ ik.Strokes t17.toNat).Points) ((k - 1).toNat)).Y)))), I down', .ref 7 0, I k, I (((at_ ((at_ ik.Strokes t17.toNat).Points) k.toNat).Y) - ((at_ ((at_ ik.Strokes t17.toNat).Points) ((k - 1).toNat)).Y)), slStroke false ik.Strokes, I (ik.Strokes.length : Int), I t17] [some (.box [slPoint false ((at_ ik.Strokes t17.toNat).Points)])] [inR .i64 ((((at_ ((at_ ik.Strokes t17.toNat).Points) k.toNat).X) - ((at_ ((at_ ik.Strokes t17.toNat).Points) ((k - 1).toNat)).X)) * (((at_ ((at_ ik.Strokes t17.toNat).Points) k.toNat).Y) - ((at_ ((at_ ik.Strokes t17.toNat).Points) ((k - 1).toNat)).Y))), inR .i64 (across' - ((((at_ ((at_ ik.Strokes t17.toNat).Points) k.toNat).X) - ((at_ ((at_ ik.Strokes t17.toNat).Points) ((k - 1).toNat)).X)) * (((at_ ((at_ ik.Strokes t17.toNat).Points) k.toNat).Y) - ((at_ ((at_ ik.Strokes t17.toNat).Points) ((k - 1).toNat)).Y))))] (by kernel_rfl) hB ⟨(inR_i64 (by omega) (by omega)), (inR_i64 (by omega) (by omega)), trivial⟩ ?_
      refine ae_then ?_
      refine aw_reg [] [4, 5, 7, 8, 15, 16, 17] [7] [I (across' - ((((at_ ((at_ ik.Strokes t17.toNat).Points) k.toNat).X) - ((at_ ((at_ ik.Strokes t17.toNat).Points) ((k - 1).toNat)).X)) * (((at_ ((at_ ik.Strokes t17.toNat).Points) k.toNat).Y) - ((at_ ((at_ ik.Strokes t17.toNat).Points) ((k - 1).toNat)).Y)))), I (down' + ((((at_ ((at_ ik.Strokes t17.toNat).Points) k.toNat).Y) - ((at_ ((at_ ik.Strokes t17.toNat).Points) ((k - 1).toNat)).Y)) * (((at_ ((at_ ik.Strokes t17.toNat).Points) k.toNat).Y) - ((at_ ((at_ ik.Strokes t17.toNat).Points) ((k - 1).toNat)).Y)))), .ref 7 0, I k, slStroke false ik.Strokes, I (ik.Strokes.length : Int), I t17] [some (.box [slPoint false ((at_ ik.Strokes t17.toNat).Points)])] [inR .i64 ((((at_ ((at_ ik.Strokes t17.toNat).Points) k.toNat).Y) - ((at_ ((at_ ik.Strokes t17.toNat).Points) ((k - 1).toNat)).Y)) * (((at_ ((at_ ik.Strokes t17.toNat).Points) k.toNat).Y) - ((at_ ((at_ ik.Strokes t17.toNat).Points) ((k - 1).toNat)).Y))), inR .i64 (down' + ((((at_ ((at_ ik.Strokes t17.toNat).Points) k.toNat).Y) - ((at_ ((at_ ik.Strokes t17.toNat).Points) ((k - 1).toNat)).Y)) * (((at_ ((at_ ik.Strokes t17.toNat).Points) k.toNat).Y) - ((at_ ((at_ ik.Strokes t17.toNat).Points) ((k - 1).toNat)).Y))))] (by kernel_rfl) hB ⟨(inR_i64 (by omega) (by omega)), (inR_i64 (by omega) (by omega)), trivial⟩ ?_
      refine ae_block 3 ?_
      refine ae_then ?_
      refine aw_reg [] [4, 5, 7, 8, 15, 16, 17] [7] [I (across' - ((((at_ ((at_ ik.Strokes t17.toNat).Points) k.toNat).X) - ((at_ ((at_ ik.Strokes t17.toNat).Points) ((k - 1).toNat)).X)) * (((at_ ((at_ ik.Strokes t17.toNat).Points) k.toNat).Y) - ((at_ ((at_ ik.Strokes t17.toNat).Points) ((k - 1).toNat)).Y)))), I (down' + ((((at_ ((at_ ik.Strokes t17.toNat).Points) k.toNat).Y) - ((at_ ((at_ ik.Strokes t17.toNat).Points) ((k - 1).toNat)).Y)) * (((at_ ((at_ ik.Strokes t17.toNat).Points) k.toNat).Y) - ((at_ ((at_ ik.Strokes t17.toNat).Points) ((k - 1).toNat)).Y)))), .ref 7 0, I (k + 1), slStroke false ik.Strokes, I (ik.Strokes.length : Int), I t17] [some (.box [slPoint false ((at_ ik.Strokes t17.toNat).Points)])] [inR .i64 (k + 1)] (by kernel_rfl) hB ⟨(inR_i64 (by omega) (by omega)), trivial⟩ ?_
      exact ae_again _ (by omega) ⟨(across' - ((((at_ ((at_ ik.Strokes t17.toNat).Points) k.toNat).X) - ((at_ ((at_ ik.Strokes t17.toNat).Points) ((k - 1).toNat)).X)) * (((at_ ((at_ ik.Strokes t17.toNat).Points) k.toNat).Y) - ((at_ ((at_ ik.Strokes t17.toNat).Points) ((k - 1).toNat)).Y)))), (down' + ((((at_ ((at_ ik.Strokes t17.toNat).Points) k.toNat).Y) - ((at_ ((at_ ik.Strokes t17.toNat).Points) ((k - 1).toNat)).Y)) * (((at_ ((at_ ik.Strokes t17.toNat).Points) k.toNat).Y) - ((at_ ((at_ ik.Strokes t17.toNat).Points) ((k - 1).toNat)).Y)))), (k + 1), rfl, (by omega), (by rw [slaS_1 hk0.1, slaS_2 hk0.1, slaA, slaD]; first | (rw [if_pos (by omega), if_pos (by omega)]; omega) | (rw [if_neg (by omega), if_neg (by omega)]; omega)), rfl⟩
     ·refine aw_reg [(1, .call [(true, I (((at_ ((at_ ik.Strokes t17.toNat).Points) k.toNat).Y) - ((at_ ((at_ ik.Strokes t17.toNat).Points) ((k - 1).toNat)).Y)))] true (I ((((at_ ((at_ ik.Strokes t17.toNat).Points) k.toNat).Y) - ((at_ ((at_ ik.Strokes t17.toNat).Points) ((k - 1).toNat)).Y)).natAbs : Int))), (3, .call [(true, I (((at_ ((at_ ik.Strokes t17.toNat).Points) k.toNat).X) - ((at_ ((at_ ik.Strokes t17.toNat).Points) ((k - 1).toNat)).X)))] true (I ((((at_ ((at_ ik.Strokes t17.toNat).Points) k.toNat).X) - ((at_ ((at_ ik.Strokes t17.toNat).Points) ((k - 1).toNat)).X)).natAbs : Int))), (4, .dec false)] [4, 5, 7, 8, 9, 10, 15, 16, 17, 60] [7] [I across', I down', .ref 7 0, I k, I (((at_ ((at_ ik.Strokes t17.toNat).Points) k.toNat).X) - ((at_ ((at_ ik.Strokes t17.toNat).Points) ((k - 1).toNat)).X)), I (((at_ ((at_ ik.Strokes t17.toNat).Points) k.toNat).Y) - ((at_ ((at_ ik.Strokes t17.toNat).Points) ((k - 1).toNat)).Y)), slStroke false ik.Strokes, I (ik.Strokes.length : Int), I t17, Bv false] [some (.box [slPoint false ((at_ ik.Strokes t17.toNat).Points)])] [Con Try.prog 39 [I (((at_ ((at_ ik.Strokes t17.toNat).Points) k.toNat).Y) - ((at_ ((at_ ik.Strokes t17.toNat).Points) ((k - 1).toNat)).Y))] true (I ((((at_ ((at_ ik.Strokes t17.toNat).Points) k.toNat).Y) - ((at_ ((at_ ik.Strokes t17.toNat).Points) ((k - 1).toNat)).Y)).natAbs : Int)) ∧ ((I (((at_ ((at_ ik.Strokes t17.toNat).Points) k.toNat).Y) - ((at_ ((at_ ik.Strokes t17.toNat).Points) ((k - 1).toNat)).Y)) : AV) = I (((at_ ((at_ ik.Strokes t17.toNat).Points) k.toNat).Y) - ((at_ ((at_ ik.Strokes t17.toNat).Points) ((k - 1).toNat)).Y))) ∧ True, Con Try.prog 39 [I (((at_ ((at_ ik.Strokes t17.toNat).Points) k.toNat).X) - ((at_ ((at_ ik.Strokes t17.toNat).Points) ((k - 1).toNat)).X))] true (I ((((at_ ((at_ ik.Strokes t17.toNat).Points) k.toNat).X) - ((at_ ((at_ ik.Strokes t17.toNat).Points) ((k - 1).toNat)).X)).natAbs : Int)) ∧ ((I (((at_ ((at_ ik.Strokes t17.toNat).Points) k.toNat).X) - ((at_ ((at_ ik.Strokes t17.toNat).Points) ((k - 1).toNat)).X)) : AV) = I (((at_ ((at_ ik.Strokes t17.toNat).Points) k.toNat).X) - ((at_ ((at_ ik.Strokes t17.toNat).Points) ((k - 1).toNat)).X))) ∧ True, ¬ (((((at_ ((at_ ik.Strokes t17.toNat).Points) k.toNat).X) - ((at_ ((at_ ik.Strokes t17.toNat).Points) ((k - 1).toNat)).X)).natAbs : Int) < ((((at_ ((at_ ik.Strokes t17.toNat).Points) k.toNat).Y) - ((at_ ((at_ ik.Strokes t17.toNat).Points) ((k - 1).toNat)).Y)).natAbs : Int))] (by kernel_rfl) hB ⟨⟨(abs_ok (((at_ ((at_ ik.Strokes t17.toNat).Points) k.toNat).Y) - ((at_ ((at_ ik.Strokes t17.toNat).Points) ((k - 1).toNat)).Y)) (by omega)), rfl, trivial⟩, ⟨(abs_ok (((at_ ((at_ ik.Strokes t17.toNat).Points) k.toNat).X) - ((at_ ((at_ ik.Strokes t17.toNat).Points) ((k - 1).toNat)).X)) (by omega)), rfl, trivial⟩, h4, trivial⟩ ?_
      refine ae_then ?_
      refine aw_false rfl ?_
      refine aw_skip ?_
      refine ae_block 3 ?_
      refine ae_then ?_
      refine aw_reg [] [4, 5, 7, 8, 15, 16, 17] [7] [I across', I down', .ref 7 0, I (k + 1), slStroke false ik.Strokes, I (ik.Strokes.length : Int), I t17] [some (.box [slPoint false ((at_ ik.Strokes t17.toNat).Points)])] [inR .i64 (k + 1)] (by kernel_rfl) hB ⟨(inR_i64 (by omega) (by omega)), trivial⟩ ?_
      exact ae_again _ (by omega) ⟨across', down', (k + 1), rfl, (by omega), (by rw [slaS_1 hk0.1, slaS_2 hk0.1, slaA, slaD]; first | (rw [if_pos (by omega), if_pos (by omega)]; omega) | (rw [if_neg (by omega), if_neg (by omega)]; omega)), rfl⟩
    ·have hke : (at_ ik.Strokes t17.toNat).Points.length = k.toNat := by omega
     refine aw_reg [(4, .dec false)] [4, 5, 7, 8, 15, 16, 17, 25] [7] [I across', I down', .ref 7 0, I k, slStroke false ik.Strokes, I (ik.Strokes.length : Int), I t17, Bv false] [some (.box [slPoint false ((at_ ik.Strokes t17.toNat).Points)])] [¬ (k < ((((at_ ik.Strokes t17.toNat).Points).length) : Int))] (by kernel_rfl) hB ⟨h3, trivial⟩ ?_
     refine ae_then ?_
     refine aw_false rfl ?_
     refine aw_exit ?_
     refine ae_exit_then ?_
     refine ae_exit_then ?_
     refine ae_exit_same ?_
     refine ae_block 1 ?_
     refine ae_then ?_
     refine aw_reg [] [4, 5, 15, 16, 17] [] [I across', I down', slStroke false ik.Strokes, I (ik.Strokes.length : Int), I (t17 + 1)] [] [inR .i64 (t17 + 1)] (by kernel_rfl) hB ⟨(inR_i64 (by omega) (by omega)), trivial⟩ ?_
     exact ae_again _ (by omega) ⟨across', down', (t17 + 1), rfl, (by omega), (by rw [slaI_1 hi0.1, slaI_2 hi0.1, hke]; omega), rfl⟩
   ·have hie : t17.toNat = ik.Strokes.length := by omega
    rw [hie] at hs0
    refine aw_reg [(0, .dec false)] [4, 5, 15, 16, 17, 18] [] [I across, I down, slStroke false ik.Strokes, I (ik.Strokes.length : Int), I t17, Bv false] [] [¬ (t17 < (ik.Strokes.length : Int))] (by kernel_rfl) hB ⟨h2, trivial⟩ ?_
    refine ae_then ?_
    refine aw_seq ?_
    refine aw_false rfl ?_
    refine aw_exit ?_
    refine ae_exit_then ?_
    refine ae_exit_then ?_
    refine ae_exit_same ?_
    refine ae_then ?_
    refine aw_seq ?_
    refine aw_seq ?_
    by_cases h5 : down = 0
    ·refine aw_reg [(1, .dec true)] [4, 5, 73] [] [I across, I down, Bv true] [] [down = 0] (by kernel_rfl) hB ⟨h5, trivial⟩ ?_
     refine ae_then ?_
     refine aw_true rfl ?_
     refine aw_seq ?_
     refine aw_reg [] [2, 3] [] [I 0, I 6] [] [] (by kernel_rfl) hB trivial ?_
     refine ae_then ?_
     refine aw_ret ?_
     refine ae_ret_then ?_
     refine ae_ret hB (.tup [I 0, I 6]) (by kernel_rfl) (.inl (by first | (simp [slantR, *]; done) | (rw [hs0.1, hs0.2] at *; simp [slantR, *]))) rfl (fun _ => (by simp [tagged, taggedL]))
    ·refine aw_reg [(1, .dec false)] [4, 5, 73] [] [I across, I down, Bv false] [] [¬ (down = 0)] (by kernel_rfl) hB ⟨h5, trivial⟩ ?_
     refine ae_then ?_
     refine aw_false rfl ?_
     refine aw_skip ?_
     refine ae_then ?_
     refine aw_seq ?_
     refine aw_reg [(3, .call [(true, I (256 * across)), (true, I down)] true (I (nearI (256 * across) down)))] [2, 3] [] [I (nearI (256 * across) down), I 0] [] [inR .i64 (256 * across), Con Try.prog 34 [I (256 * across), I down] true (I (nearI (256 * across) down)) ∧ ((I (256 * across) : AV) = I (256 * across)) ∧ ((I down : AV) = I down) ∧ True] (by kernel_rfl) hB ⟨(inR_i64 (by omega) (by omega)), ⟨(nearestDiv_ok (256 * across) down (by omega)), rfl, rfl, trivial⟩, trivial⟩ ?_
     refine ae_then ?_
     refine aw_ret ?_
     refine ae_ret hB (.tup [I (nearI (256 * across) down), I 0]) (by kernel_rfl) (.inl (by first | (simp [slantR, *]; done) | (rw [hs0.1, hs0.2] at *; simp [slantR, *]))) rfl (fun _ => (by simp [tagged, taggedL]))
  ·refine aw_reg [(1, .call [(true, .agg [slStroke false ik.Strokes])] true (Bv false))] [1, 13] [1] [.ref 1 0, Bv true] [some (.box [slStroke false ik.Strokes])] [Con Try.prog 29 [.agg [slStroke false ik.Strokes]] true (Bv false) ∧ ((.agg [slStroke false ik.Strokes] : AV) = .agg [slStroke false ik.Strokes]) ∧ True] (by kernel_rfl) hB ⟨⟨(con_bool h1 (ValidInk_ok ik)), rfl, trivial⟩, trivial⟩ ?_
   refine ae_then ?_
   refine aw_true rfl ?_
   refine aw_seq ?_
   refine aw_reg [] [2, 3] [] [I 0, I 1] [] [] (by kernel_rfl) hB trivial ?_
   refine ae_then ?_
   refine aw_ret ?_
   refine ae_ret_then ?_
   refine ae_ret hB (.tup [I 0, I 1]) (by kernel_rfl) (.inl (by first | (simp [slantR, *]; done) | (rw [hs0.1, hs0.2] at *; simp [slantR, *]))) rfl (fun _ => (by simp [tagged, taggedL]))


-- spec.l05Size
theorem l05Size_ok (n : Int) (hn : -9223372036854775807 ≤ n ∧ n ≤ 9223372036854775807) : Con Try.prog 65 [I n] true (I (n.natAbs : Int)) := by
  refine fn_ok (fn := Try.f65) (nt := 8) Try.func65 rfl rfl rfl rfl (by simp [taggedL, tagged]) fun B hB => ?_
  refine aw_seq ?_
  refine aw_reg [] [0] [] [I n] [] [] (by kernel_rfl) hB trivial ?_
  refine ae_then ?_
  refine aw_seq ?_
  refine aw_seq ?_
  by_cases h1 : n < 0
  ·refine aw_reg [(1, .dec true)] [0, 4] [] [I n, Bv true] [] [n < 0] (by kernel_rfl) hB ⟨h1, trivial⟩ ?_
   refine ae_then ?_
   refine aw_true rfl ?_
   refine aw_seq ?_
   refine aw_reg [] [2] [] [I (-n)] [] [inR .i64 (-n)] (by kernel_rfl) hB ⟨(inR_i64 (by omega) (by omega)), trivial⟩ ?_
   refine ae_then ?_
   refine aw_ret ?_
   refine ae_ret_then ?_
   refine ae_ret hB (I (-n)) (by kernel_rfl) (.inl (by refine congrArg I ?_; omega)) rfl (fun _ => trivial)
  ·refine aw_reg [(1, .dec false)] [0, 4] [] [I n, Bv false] [] [¬ (n < 0)] (by kernel_rfl) hB ⟨h1, trivial⟩ ?_
   refine ae_then ?_
   refine aw_false rfl ?_
   refine aw_skip ?_
   refine ae_then ?_
   refine aw_seq ?_
   refine aw_reg [] [2] [] [I n] [] [] (by kernel_rfl) hB trivial ?_
   refine ae_then ?_
   refine aw_ret ?_
   refine ae_ret hB (I n) (by kernel_rfl) (.inl (by refine congrArg I ?_; omega)) rfl (fun _ => trivial)


-- spec.l07Slant
theorem l07Slant_ok (ik : Ink) (ok : okInk' ik = true) : Con Try.prog 40 [.ptr false [slStroke false ik.Strokes]] true (.tup [I ((slaI ik.Strokes ik.Strokes.length).1), I ((slaI ik.Strokes ik.Strokes.length).2)]) := by
  refine fn_ok (fn := Try.f40) (nt := 75) Try.func40 rfl rfl rfl rfl (by simp [taggedL, tagged, tagStroke]) fun B hB => ?_
  refine aw_lens (x := .ptr false [slStroke false ik.Strokes]) 0 rfl (fun len_ik => ?_)
  simp [LenOK, LenL, cPoint, cStroke, fPoint, fStroke, slPoint, slStroke] at len_ik
  refine aw_seq ?_
  refine aw_reg [] [0] [] [.ptr false [slStroke false ik.Strokes]] [] [] (by kernel_rfl) hB trivial ?_
  refine ae_then ?_
  refine aw_seq ?_
  refine aw_reg [] [0, 4] [] [.ptr false [slStroke false ik.Strokes], I 0] [] [] (by kernel_rfl) hB trivial ?_
  refine ae_then ?_
  refine aw_seq ?_
  refine aw_reg [] [0, 4, 5] [] [.ptr false [slStroke false ik.Strokes], I 0, I 0] [] [] (by kernel_rfl) hB trivial ?_
  refine ae_then ?_
  refine aw_seq ?_
  refine aw_seq ?_
  refine aw_reg [] [0, 4, 5, 6] [] [.ptr false [slStroke false ik.Strokes], I 0, I 0, I 0] [] [] (by kernel_rfl) hB trivial ?_
  refine ae_then ?_
  refine aw_block ?_
  refine aw_loop (fun gn gσ => ∃ (n : Int) (d : Int) (i : Int), gn = ((ik.Strokes.length : Int) - i).toNat ∧ (0 ≤ i ∧ i ≤ (ik.Strokes.length : Int)) ∧ (n = (slaI ik.Strokes i.toNat).1 ∧ d = (slaI ik.Strokes i.toNat).2) ∧ gσ = mkS [(0, .ptr false [slStroke false ik.Strokes]), (4, I n), (5, I d), (6, I i)] []) (((ik.Strokes.length : Int) - 0).toNat) ⟨0, 0, 0, rfl, (by omega), (by exact ⟨rfl, rfl⟩), rfl⟩ (fun gn gσ hI => ?_)
  obtain ⟨n, d, i, rfl, hi0, hs0, rfl⟩ := hI
  refine aw_seq ?_
  refine aw_seq ?_
  by_cases h1 : i < (ik.Strokes.length : Int)
  ·have hi : i.toNat < ik.Strokes.length := by omega
   have hos := okI_all ok _ hi
   have hol := okS_len hos
   have hbi := slaI_bd ok i.toNat (by omega)
   have hil := okI_len ok
   refine aw_reg [(6, .dec true)] [0, 4, 5, 6, 17] [] [.ptr false [slStroke false ik.Strokes], I n, I d, I i, Bv true] [] [i < (ik.Strokes.length : Int)] (by kernel_rfl) hB ⟨h1, trivial⟩ ?_
   refine ae_then ?_
   refine aw_true rfl ?_
   refine aw_skip ?_
   refine ae_then ?_
   refine aw_seq ?_
   refine aw_block ?_
   refine aw_seq ?_
   refine aw_reg [] [0, 4, 5, 6, 7] [] [.ptr false [slStroke false ik.Strokes], I n, I d, I i, slPoint false ((at_ ik.Strokes i.toNat).Points)] [] [(0 : Int) ≤ i ∧ i < (ik.Strokes.length : Int)] (by kernel_rfl) hB ⟨⟨(by omega), (by omega)⟩, trivial⟩ ?_
   refine ae_then ?_
   refine aw_seq ?_
   refine aw_reg [] [0, 4, 5, 6, 7, 8] [] [.ptr false [slStroke false ik.Strokes], I n, I d, I i, slPoint false ((at_ ik.Strokes i.toNat).Points), I 1] [] [] (by kernel_rfl) hB trivial ?_
   refine ae_then ?_
   refine aw_block ?_
   refine aw_loop (fun gn gσ => ∃ (n' : Int) (d' : Int) (k : Int), gn = (((at_ ik.Strokes i.toNat).Points.length : Int) - k).toNat ∧ (1 ≤ k ∧ (k ≤ ((at_ ik.Strokes i.toNat).Points.length : Int) ∨ k = 1)) ∧ (n' = n + (slaS (at_ ik.Strokes i.toNat).Points k.toNat).1 ∧ d' = d + (slaS (at_ ik.Strokes i.toNat).Points k.toNat).2) ∧ gσ = mkS [(0, .ptr false [slStroke false ik.Strokes]), (4, I n'), (5, I d'), (6, I i), (7, slPoint false ((at_ ik.Strokes i.toNat).Points)), (8, I k)] []) ((((at_ ik.Strokes i.toNat).Points.length : Int) - 1).toNat) ⟨n, d, 1, rfl, (by omega), (by rw [slaS_one _ _ (by decide)]; omega), rfl⟩ (fun gn gσ hI => ?_)
   obtain ⟨n', d', k, rfl, hk0, hs1, rfl⟩ := hI
   refine aw_seq ?_
   refine aw_seq ?_
   by_cases h2 : k < ((((at_ ik.Strokes i.toNat).Points).length) : Int)
   ·have hk : k.toNat < (at_ ik.Strokes i.toNat).Points.length := by omega
    have hk2 : (k - 1).toNat < (at_ ik.Strokes i.toNat).Points.length := by omega
    have hp1 := okP_iff.1 (okS_at hos hk)
    have hp2 := okP_iff.1 (okS_at hos hk2)
    have hbk := sla_bd hos k.toNat (by omega)
    have hm1 := mulA_bd (x := (at_ (at_ ik.Strokes i.toNat).Points k.toNat).X - (at_ (at_ ik.Strokes i.toNat).Points (k - 1).toNat).X) (y := (at_ (at_ ik.Strokes i.toNat).Points k.toNat).Y - (at_ (at_ ik.Strokes i.toNat).Points (k - 1).toNat).Y) (A := 4095) (B := 4095) (by omega) (by omega) (by omega) (by omega)
    have hm2 := mulA_bd (x := (at_ (at_ ik.Strokes i.toNat).Points k.toNat).Y - (at_ (at_ ik.Strokes i.toNat).Points (k - 1).toNat).Y) (y := (at_ (at_ ik.Strokes i.toNat).Points k.toNat).Y - (at_ (at_ ik.Strokes i.toNat).Points (k - 1).toNat).Y) (A := 4095) (B := 4095) (by omega) (by omega) (by omega) (by omega)
    refine aw_reg [(3, .dec true)] [0, 4, 5, 6, 7, 8, 31] [] [.ptr false [slStroke false ik.Strokes], I n', I d', I i, slPoint false ((at_ ik.Strokes i.toNat).Points), I k, Bv true] [] [k < ((((at_ ik.Strokes i.toNat).Points).length) : Int)] (by kernel_rfl) hB ⟨h2, trivial⟩ ?_
    refine ae_then ?_
    refine aw_true rfl ?_
    refine aw_skip ?_
    refine ae_then ?_
    refine aw_seq ?_
    refine aw_block ?_
    refine aw_seq ?_
    refine aw_reg [] [0, 4, 5, 6, 7, 8, 9] [] [.ptr false [slStroke false ik.Strokes], I n', I d', I i, slPoint false ((at_ ik.Strokes i.toNat).Points), I k, I (((at_ ((at_ ik.Strokes i.toNat).Points) k.toNat).X) - ((at_ ((at_ ik.Strokes i.toNat).Points) ((k - 1).toNat)).X))] [] [(0 : Int) ≤ k ∧ k < ((((at_ ik.Strokes i.toNat).Points).length) : Int), inR .i64 (k - 1), (0 : Int) ≤ (k - 1) ∧ (k - 1) < ((((at_ ik.Strokes i.toNat).Points).length) : Int), inR .i64 (((at_ ((at_ ik.Strokes i.toNat).Points) k.toNat).X) - ((at_ ((at_ ik.Strokes i.toNat).Points) ((k - 1).toNat)).X))] (by kernel_rfl) hB ⟨⟨(by omega), (by omega)⟩, (inR_i64 (by omega) (by omega)), ⟨(by omega), (by omega)⟩, (inR_i64 (by omega) (by omega)), trivial⟩ ?_
    refine ae_then ?_
    refine aw_seq ?_
    refine aw_reg [] [0, 4, 5, 6, 7, 8, 9, 10] [] [.ptr false [slStroke false ik.Strokes], I n', I d', I i, slPoint false ((at_ ik.Strokes i.toNat).Points), I k, I (((at_ ((at_ ik.Strokes i.toNat).Points) k.toNat).X) - ((at_ ((at_ ik.Strokes i.toNat).Points) ((k - 1).toNat)).X)), I (((at_ ((at_ ik.Strokes i.toNat).Points) k.toNat).Y) - ((at_ ((at_ ik.Strokes i.toNat).Points) ((k - 1).toNat)).Y))] [] [(0 : Int) ≤ k ∧ k < ((((at_ ik.Strokes i.toNat).Points).length) : Int), inR .i64 (k - 1), (0 : Int) ≤ (k - 1) ∧ (k - 1) < ((((at_ ik.Strokes i.toNat).Points).length) : Int), inR .i64 (((at_ ((at_ ik.Strokes i.toNat).Points) k.toNat).Y) - ((at_ ((at_ ik.Strokes i.toNat).Points) ((k - 1).toNat)).Y))] (by kernel_rfl) hB ⟨⟨(by omega), (by omega)⟩, (inR_i64 (by omega) (by omega)), ⟨(by omega), (by omega)⟩, (inR_i64 (by omega) (by omega)), trivial⟩ ?_
    refine ae_then ?_
    refine aw_seq ?_
    by_cases h3 : ((((at_ ((at_ ik.Strokes i.toNat).Points) k.toNat).X) - ((at_ ((at_ ik.Strokes i.toNat).Points) ((k - 1).toNat)).X)).natAbs : Int) < ((((at_ ((at_ ik.Strokes i.toNat).Points) k.toNat).Y) - ((at_ ((at_ ik.Strokes i.toNat).Points) ((k - 1).toNat)).Y)).natAbs : Int)
    ·refine aw_reg [(1, .call [(true, I (((at_ ((at_ ik.Strokes i.toNat).Points) k.toNat).Y) - ((at_ ((at_ ik.Strokes i.toNat).Points) ((k - 1).toNat)).Y)))] true (I ((((at_ ((at_ ik.Strokes i.toNat).Points) k.toNat).Y) - ((at_ ((at_ ik.Strokes i.toNat).Points) ((k - 1).toNat)).Y)).natAbs : Int))), (3, .call [(true, I (((at_ ((at_ ik.Strokes i.toNat).Points) k.toNat).X) - ((at_ ((at_ ik.Strokes i.toNat).Points) ((k - 1).toNat)).X)))] true (I ((((at_ ((at_ ik.Strokes i.toNat).Points) k.toNat).X) - ((at_ ((at_ ik.Strokes i.toNat).Points) ((k - 1).toNat)).X)).natAbs : Int))), (4, .dec true)] [0, 4, 5, 6, 7, 8, 9, 10, 62] [] [.ptr false [slStroke false ik.Strokes], I n', I d', I i, slPoint false ((at_ ik.Strokes i.toNat).Points), I k, I (((at_ ((at_ ik.Strokes i.toNat).Points) k.toNat).X) - ((at_ ((at_ ik.Strokes i.toNat).Points) ((k - 1).toNat)).X)), I (((at_ ((at_ ik.Strokes i.toNat).Points) k.toNat).Y) - ((at_ ((at_ ik.Strokes i.toNat).Points) ((k - 1).toNat)).Y)), Bv true] [] [Con Try.prog 65 [I (((at_ ((at_ ik.Strokes i.toNat).Points) k.toNat).Y) - ((at_ ((at_ ik.Strokes i.toNat).Points) ((k - 1).toNat)).Y))] true (I ((((at_ ((at_ ik.Strokes i.toNat).Points) k.toNat).Y) - ((at_ ((at_ ik.Strokes i.toNat).Points) ((k - 1).toNat)).Y)).natAbs : Int)) ∧ ((I (((at_ ((at_ ik.Strokes i.toNat).Points) k.toNat).Y) - ((at_ ((at_ ik.Strokes i.toNat).Points) ((k - 1).toNat)).Y)) : AV) = I (((at_ ((at_ ik.Strokes i.toNat).Points) k.toNat).Y) - ((at_ ((at_ ik.Strokes i.toNat).Points) ((k - 1).toNat)).Y))) ∧ True, Con Try.prog 65 [I (((at_ ((at_ ik.Strokes i.toNat).Points) k.toNat).X) - ((at_ ((at_ ik.Strokes i.toNat).Points) ((k - 1).toNat)).X))] true (I ((((at_ ((at_ ik.Strokes i.toNat).Points) k.toNat).X) - ((at_ ((at_ ik.Strokes i.toNat).Points) ((k - 1).toNat)).X)).natAbs : Int)) ∧ ((I (((at_ ((at_ ik.Strokes i.toNat).Points) k.toNat).X) - ((at_ ((at_ ik.Strokes i.toNat).Points) ((k - 1).toNat)).X)) : AV) = I (((at_ ((at_ ik.Strokes i.toNat).Points) k.toNat).X) - ((at_ ((at_ ik.Strokes i.toNat).Points) ((k - 1).toNat)).X))) ∧ True, ((((at_ ((at_ ik.Strokes i.toNat).Points) k.toNat).X) - ((at_ ((at_ ik.Strokes i.toNat).Points) ((k - 1).toNat)).X)).natAbs : Int) < ((((at_ ((at_ ik.Strokes i.toNat).Points) k.toNat).Y) - ((at_ ((at_ ik.Strokes i.toNat).Points) ((k - 1).toNat)).Y)).natAbs : Int)] (by kernel_rfl) hB ⟨⟨(l05Size_ok (((at_ ((at_ ik.Strokes i.toNat).Points) k.toNat).Y) - ((at_ ((at_ ik.Strokes i.toNat).Points) ((k - 1).toNat)).Y)) (by omega)), rfl, trivial⟩, ⟨(l05Size_ok (((at_ ((at_ ik.Strokes i.toNat).Points) k.toNat).X) - ((at_ ((at_ ik.Strokes i.toNat).Points) ((k - 1).toNat)).X)) (by omega)), rfl, trivial⟩, h3, trivial⟩ ?_
     refine ae_then ?_
     refine aw_true rfl ?_
     refine aw_seq ?_
     refine aw_reg [] [0, 4, 5, 6, 7, 8, 10] [] [.ptr false [slStroke false ik.Strokes], I (n' - ((((at_ ((at_ ik.Strokes i.toNat).Points) k.toNat).X) - ((at_ ((at_ ik.Strokes i.toNat).Points) ((k - 1).toNat)).X)) * (((at_ ((at_ ik.Strokes i.toNat).Points) k.toNat).Y) - ((at_ ((at_ ik.Strokes i.toNat).Points) ((k - 1).toNat)).Y)))), I d', I i, slPoint false ((at_ ik.Strokes i.toNat).Points), I k, I (((at_ ((at_ ik.Strokes i.toNat).Points) k.toNat).Y) - ((at_ ((at_ ik.Strokes i.toNat).Points) ((k - 1).toNat)).Y))] [] [inR .i64 ((((at_ ((at_ ik.Strokes i.toNat).Points) k.toNat).X) - ((at_ ((at_ ik.Strokes i.toNat).Points) ((k - 1).toNat)).X)) * (((at_ ((at_ ik.Strokes i.toNat).Points) k.toNat).Y) - ((at_ ((at_ ik.Strokes i.toNat).Points) ((k - 1).toNat)).Y))), inR .i64 (n' - ((((at_ ((at_ ik.Strokes i.toNat).Points) k.toNat).X) - ((at_ ((at_ ik.Strokes i.toNat).Points) ((k - 1).toNat)).X)) * (((at_ ((at_ ik.Strokes i.toNat).Points) k.toNat).Y) - ((at_ ((at_ ik.Strokes i.toNat).Points) ((k - 1).toNat)).Y))))] (by kernel_rfl) hB ⟨(inR_i64 (by omega) (by omega)), (inR_i64 (by omega) (by omega)), trivial⟩ ?_
     refine ae_then ?_
     refine aw_reg [] [0, 4, 5, 6, 7, 8] [] [.ptr false [slStroke false ik.Strokes], I (n' - ((((at_ ((at_ ik.Strokes i.toNat).Points) k.toNat).X) - ((at_ ((at_ ik.Strokes i.toNat).Points) ((k - 1).toNat)).X)) * (((at_ ((at_ ik.Strokes i.toNat).Points) k.toNat).Y) - ((at_ ((at_ ik.Strokes i.toNat).Points) ((k - 1).toNat)).Y)))), I (d' + ((((at_ ((at_ ik.Strokes i.toNat).Points) k.toNat).Y) - ((at_ ((at_ ik.Strokes i.toNat).Points) ((k - 1).toNat)).Y)) * (((at_ ((at_ ik.Strokes i.toNat).Points) k.toNat).Y) - ((at_ ((at_ ik.Strokes i.toNat).Points) ((k - 1).toNat)).Y)))), I i, slPoint false ((at_ ik.Strokes i.toNat).Points), I k] [] [inR .i64 ((((at_ ((at_ ik.Strokes i.toNat).Points) k.toNat).Y) - ((at_ ((at_ ik.Strokes i.toNat).Points) ((k - 1).toNat)).Y)) * (((at_ ((at_ ik.Strokes i.toNat).Points) k.toNat).Y) - ((at_ ((at_ ik.Strokes i.toNat).Points) ((k - 1).toNat)).Y))), inR .i64 (d' + ((((at_ ((at_ ik.Strokes i.toNat).Points) k.toNat).Y) - ((at_ ((at_ ik.Strokes i.toNat).Points) ((k - 1).toNat)).Y)) * (((at_ ((at_ ik.Strokes i.toNat).Points) k.toNat).Y) - ((at_ ((at_ ik.Strokes i.toNat).Points) ((k - 1).toNat)).Y))))] (by kernel_rfl) hB ⟨(inR_i64 (by omega) (by omega)), (inR_i64 (by omega) (by omega)), trivial⟩ ?_
     refine ae_block 3 ?_
     refine ae_then ?_
     refine aw_reg [] [0, 4, 5, 6, 7, 8] [] [.ptr false [slStroke false ik.Strokes], I (n' - ((((at_ ((at_ ik.Strokes i.toNat).Points) k.toNat).X) - ((at_ ((at_ ik.Strokes i.toNat).Points) ((k - 1).toNat)).X)) * (((at_ ((at_ ik.Strokes i.toNat).Points) k.toNat).Y) - ((at_ ((at_ ik.Strokes i.toNat).Points) ((k - 1).toNat)).Y)))), I (d' + ((((at_ ((at_ ik.Strokes i.toNat).Points) k.toNat).Y) - ((at_ ((at_ ik.Strokes i.toNat).Points) ((k - 1).toNat)).Y)) * (((at_ ((at_ ik.Strokes i.toNat).Points) k.toNat).Y) - ((at_ ((at_ ik.Strokes i.toNat).Points) ((k - 1).toNat)).Y)))), I i, slPoint false ((at_ ik.Strokes i.toNat).Points), I (k + 1)] [] [inR .i64 (k + 1)] (by kernel_rfl) hB ⟨(inR_i64 (by omega) (by omega)), trivial⟩ ?_
     exact ae_again _ (by omega) ⟨(n' - ((((at_ ((at_ ik.Strokes i.toNat).Points) k.toNat).X) - ((at_ ((at_ ik.Strokes i.toNat).Points) ((k - 1).toNat)).X)) * (((at_ ((at_ ik.Strokes i.toNat).Points) k.toNat).Y) - ((at_ ((at_ ik.Strokes i.toNat).Points) ((k - 1).toNat)).Y)))), (d' + ((((at_ ((at_ ik.Strokes i.toNat).Points) k.toNat).Y) - ((at_ ((at_ ik.Strokes i.toNat).Points) ((k - 1).toNat)).Y)) * (((at_ ((at_ ik.Strokes i.toNat).Points) k.toNat).Y) - ((at_ ((at_ ik.Strokes i.toNat).Points) ((k - 1).toNat)).Y)))), (k + 1), rfl, (by omega), (by rw [slaS_1 hk0.1, slaS_2 hk0.1, slaA, slaD]; first | (rw [if_pos (by omega), if_pos (by omega)]; omega) | (rw [if_neg (by omega), if_neg (by omega)]; omega)), rfl⟩
    ·refine aw_reg [(1, .call [(true, I (((at_ ((at_ ik.Strokes i.toNat).Points) k.toNat).Y) - ((at_ ((at_ ik.Strokes i.toNat).Points) ((k - 1).toNat)).Y)))] true (I ((((at_ ((at_ ik.Strokes i.toNat).Points) k.toNat).Y) - ((at_ ((at_ ik.Strokes i.toNat).Points) ((k - 1).toNat)).Y)).natAbs : Int))), (3, .call [(true, I (((at_ ((at_ ik.Strokes i.toNat).Points) k.toNat).X) - ((at_ ((at_ ik.Strokes i.toNat).Points) ((k - 1).toNat)).X)))] true (I ((((at_ ((at_ ik.Strokes i.toNat).Points) k.toNat).X) - ((at_ ((at_ ik.Strokes i.toNat).Points) ((k - 1).toNat)).X)).natAbs : Int))), (4, .dec false)] [0, 4, 5, 6, 7, 8, 9, 10, 62] [] [.ptr false [slStroke false ik.Strokes], I n', I d', I i, slPoint false ((at_ ik.Strokes i.toNat).Points), I k, I (((at_ ((at_ ik.Strokes i.toNat).Points) k.toNat).X) - ((at_ ((at_ ik.Strokes i.toNat).Points) ((k - 1).toNat)).X)), I (((at_ ((at_ ik.Strokes i.toNat).Points) k.toNat).Y) - ((at_ ((at_ ik.Strokes i.toNat).Points) ((k - 1).toNat)).Y)), Bv false] [] [Con Try.prog 65 [I (((at_ ((at_ ik.Strokes i.toNat).Points) k.toNat).Y) - ((at_ ((at_ ik.Strokes i.toNat).Points) ((k - 1).toNat)).Y))] true (I ((((at_ ((at_ ik.Strokes i.toNat).Points) k.toNat).Y) - ((at_ ((at_ ik.Strokes i.toNat).Points) ((k - 1).toNat)).Y)).natAbs : Int)) ∧ ((I (((at_ ((at_ ik.Strokes i.toNat).Points) k.toNat).Y) - ((at_ ((at_ ik.Strokes i.toNat).Points) ((k - 1).toNat)).Y)) : AV) = I (((at_ ((at_ ik.Strokes i.toNat).Points) k.toNat).Y) - ((at_ ((at_ ik.Strokes i.toNat).Points) ((k - 1).toNat)).Y))) ∧ True, Con Try.prog 65 [I (((at_ ((at_ ik.Strokes i.toNat).Points) k.toNat).X) - ((at_ ((at_ ik.Strokes i.toNat).Points) ((k - 1).toNat)).X))] true (I ((((at_ ((at_ ik.Strokes i.toNat).Points) k.toNat).X) - ((at_ ((at_ ik.Strokes i.toNat).Points) ((k - 1).toNat)).X)).natAbs : Int)) ∧ ((I (((at_ ((at_ ik.Strokes i.toNat).Points) k.toNat).X) - ((at_ ((at_ ik.Strokes i.toNat).Points) ((k - 1).toNat)).X)) : AV) = I (((at_ ((at_ ik.Strokes i.toNat).Points) k.toNat).X) - ((at_ ((at_ ik.Strokes i.toNat).Points) ((k - 1).toNat)).X))) ∧ True, ¬ (((((at_ ((at_ ik.Strokes i.toNat).Points) k.toNat).X) - ((at_ ((at_ ik.Strokes i.toNat).Points) ((k - 1).toNat)).X)).natAbs : Int) < ((((at_ ((at_ ik.Strokes i.toNat).Points) k.toNat).Y) - ((at_ ((at_ ik.Strokes i.toNat).Points) ((k - 1).toNat)).Y)).natAbs : Int))] (by kernel_rfl) hB ⟨⟨(l05Size_ok (((at_ ((at_ ik.Strokes i.toNat).Points) k.toNat).Y) - ((at_ ((at_ ik.Strokes i.toNat).Points) ((k - 1).toNat)).Y)) (by omega)), rfl, trivial⟩, ⟨(l05Size_ok (((at_ ((at_ ik.Strokes i.toNat).Points) k.toNat).X) - ((at_ ((at_ ik.Strokes i.toNat).Points) ((k - 1).toNat)).X)) (by omega)), rfl, trivial⟩, h3, trivial⟩ ?_
     refine ae_then ?_
     refine aw_false rfl ?_
     refine aw_skip ?_
     refine ae_block 3 ?_
     refine ae_then ?_
     refine aw_reg [] [0, 4, 5, 6, 7, 8] [] [.ptr false [slStroke false ik.Strokes], I n', I d', I i, slPoint false ((at_ ik.Strokes i.toNat).Points), I (k + 1)] [] [inR .i64 (k + 1)] (by kernel_rfl) hB ⟨(inR_i64 (by omega) (by omega)), trivial⟩ ?_
     exact ae_again _ (by omega) ⟨n', d', (k + 1), rfl, (by omega), (by rw [slaS_1 hk0.1, slaS_2 hk0.1, slaA, slaD]; first | (rw [if_pos (by omega), if_pos (by omega)]; omega) | (rw [if_neg (by omega), if_neg (by omega)]; omega)), rfl⟩
   ·have hke : (at_ ik.Strokes i.toNat).Points.length = k.toNat := by omega
    refine aw_reg [(3, .dec false)] [0, 4, 5, 6, 7, 8, 31] [] [.ptr false [slStroke false ik.Strokes], I n', I d', I i, slPoint false ((at_ ik.Strokes i.toNat).Points), I k, Bv false] [] [¬ (k < ((((at_ ik.Strokes i.toNat).Points).length) : Int))] (by kernel_rfl) hB ⟨h2, trivial⟩ ?_
    refine ae_then ?_
    refine aw_false rfl ?_
    refine aw_exit ?_
    refine ae_exit_then ?_
    refine ae_exit_then ?_
    refine ae_exit_same ?_
    refine ae_block 1 ?_
    refine ae_then ?_
    refine aw_reg [] [0, 4, 5, 6] [] [.ptr false [slStroke false ik.Strokes], I n', I d', I (i + 1)] [] [inR .i64 (i + 1)] (by kernel_rfl) hB ⟨(inR_i64 (by omega) (by omega)), trivial⟩ ?_
    exact ae_again _ (by omega) ⟨n', d', (i + 1), rfl, (by omega), (by rw [slaI_1 hi0.1, slaI_2 hi0.1, hke]; omega), rfl⟩
  ·have hie : i.toNat = ik.Strokes.length := by omega
   rw [hie] at hs0
   refine aw_reg [(6, .dec false)] [0, 4, 5, 6, 17] [] [.ptr false [slStroke false ik.Strokes], I n, I d, I i, Bv false] [] [¬ (i < (ik.Strokes.length : Int))] (by kernel_rfl) hB ⟨h1, trivial⟩ ?_
   refine ae_then ?_
   refine aw_false rfl ?_
   refine aw_exit ?_
   refine ae_exit_then ?_
   refine ae_exit_then ?_
   refine ae_exit_same ?_
   refine ae_then ?_
   refine aw_seq ?_
   refine aw_reg [] [2, 3] [] [I n, I d] [] [] (by kernel_rfl) hB trivial ?_
   refine ae_then ?_
   refine aw_ret ?_
   refine ae_ret hB (.tup [I n, I d]) (by kernel_rfl) (.inl (by rw [hs0.1, hs0.2])) rfl (fun _ => (by simp [tagged, taggedL]))


-- spec.SlantOf
theorem specSlantOf_ok (ik : Ink) : Con Try.prog 10 [.agg [slStroke false ik.Strokes]] true (.tup [I ((slantR ik).1), I ((slantR ik).2)]) := by
  refine fn_ok (fn := Try.f10) (nt := 18) Try.func10 rfl rfl rfl rfl (by simp [taggedL, tagged, tagStroke]) fun B hB => ?_
  refine aw_lens (x := .agg [slStroke false ik.Strokes]) 0 rfl (fun len_ik => ?_)
  simp [LenOK, LenL, cPoint, cStroke, fPoint, fStroke, slPoint, slStroke] at len_ik
  refine aw_seq ?_
  refine aw_reg [(0, .new 1)] [1] [1] [.ref 1 0] [some (.box [slStroke false ik.Strokes])] [] (by kernel_rfl) hB trivial ?_
  refine ae_then ?_
  refine aw_seq ?_
  refine aw_seq ?_
  rcases Bool.eq_false_or_eq_true (okInk' ik) with h1 | h1
  ·have hbi := slaI_bd h1 ik.Strokes.length (Nat.le_refl _)
   have hil := okI_len h1
   refine aw_reg [(0, .call [(false, .ptr false [slStroke false ik.Strokes])] true (Bv true))] [1, 7] [1] [.ref 1 0, Bv false] [some (.box [slStroke false ik.Strokes])] [Con Try.prog 35 [.ptr false [slStroke false ik.Strokes]] true (Bv true) ∧ ((false = true → true = true) ∧ AV.idsL [slStroke false ik.Strokes] = [] ∧ ((false = true → false = true) ∧ 1 = 1 ∧ ik.Strokes.length = ik.Strokes.length ∧ ∀ i, i < ik.Strokes.length → (fStroke false ik.Strokes) i = (fStroke false ik.Strokes) i ∨ (AV.idsL ((fStroke false ik.Strokes) i) = [] ∧ leL (fun _ => none) false ((fStroke false ik.Strokes) i) ((fStroke false ik.Strokes) i))) ∧ ([] : List AV) = []) ∧ True] (by kernel_rfl) hB ⟨⟨(con_bool h1 (l02Ok_ok ik)), ⟨(fun h => by cases h), rfl, ⟨⟨(fun h => by cases h), rfl, rfl, fun i _ => .inl rfl⟩, rfl⟩⟩, trivial⟩, trivial⟩ ?_
   refine ae_then ?_
   refine aw_false rfl ?_
   refine aw_skip ?_
   refine ae_then ?_
   refine aw_seq ?_
   refine aw_reg [(0, .call [(false, .ptr false [slStroke false ik.Strokes])] true (.tup [I ((slaI ik.Strokes ik.Strokes.length).1), I ((slaI ik.Strokes ik.Strokes.length).2)]))] [4, 5] [] [I ((slaI ik.Strokes ik.Strokes.length).1), I ((slaI ik.Strokes ik.Strokes.length).2)] [] [Con Try.prog 40 [.ptr false [slStroke false ik.Strokes]] true (.tup [I ((slaI ik.Strokes ik.Strokes.length).1), I ((slaI ik.Strokes ik.Strokes.length).2)]) ∧ ((false = true → true = true) ∧ AV.idsL [slStroke false ik.Strokes] = [] ∧ ((false = true → false = true) ∧ 1 = 1 ∧ ik.Strokes.length = ik.Strokes.length ∧ ∀ i, i < ik.Strokes.length → (fStroke false ik.Strokes) i = (fStroke false ik.Strokes) i ∨ (AV.idsL ((fStroke false ik.Strokes) i) = [] ∧ leL (fun _ => none) false ((fStroke false ik.Strokes) i) ((fStroke false ik.Strokes) i))) ∧ ([] : List AV) = []) ∧ True] (by kernel_rfl) hB ⟨⟨(l07Slant_ok ik h1), ⟨(fun h => by cases h), rfl, ⟨⟨(fun h => by cases h), rfl, rfl, fun i _ => .inl rfl⟩, rfl⟩⟩, trivial⟩, trivial⟩ ?_
   refine ae_then ?_
   refine aw_seq ?_
   refine aw_seq ?_
   by_cases h2 : ((slaI ik.Strokes ik.Strokes.length).2) = 0
   ·refine aw_reg [(1, .dec true)] [4, 5, 13] [] [I ((slaI ik.Strokes ik.Strokes.length).1), I ((slaI ik.Strokes ik.Strokes.length).2), Bv true] [] [((slaI ik.Strokes ik.Strokes.length).2) = 0] (by kernel_rfl) hB ⟨h2, trivial⟩ ?_
    refine ae_then ?_
    refine aw_true rfl ?_
    refine aw_seq ?_
    refine aw_reg [] [2, 3] [] [I 0, I 6] [] [] (by kernel_rfl) hB trivial ?_
    refine ae_then ?_
    refine aw_ret ?_
    refine ae_ret_then ?_
    refine ae_ret hB (.tup [I 0, I 6]) (by kernel_rfl) (.inl (by simp [slantR, *])) rfl (fun _ => (by simp [tagged, taggedL]))
   ·refine aw_reg [(1, .dec false)] [4, 5, 13] [] [I ((slaI ik.Strokes ik.Strokes.length).1), I ((slaI ik.Strokes ik.Strokes.length).2), Bv false] [] [¬ (((slaI ik.Strokes ik.Strokes.length).2) = 0)] (by kernel_rfl) hB ⟨h2, trivial⟩ ?_
    refine ae_then ?_
    refine aw_false rfl ?_
    refine aw_skip ?_
    refine ae_then ?_
    refine aw_seq ?_
    refine aw_reg [(3, .call [(true, I (256 * ((slaI ik.Strokes ik.Strokes.length).1))), (true, I ((slaI ik.Strokes ik.Strokes.length).2))] true (I (nearI (256 * ((slaI ik.Strokes ik.Strokes.length).1)) ((slaI ik.Strokes ik.Strokes.length).2))))] [2, 3] [] [I (nearI (256 * ((slaI ik.Strokes ik.Strokes.length).1)) ((slaI ik.Strokes ik.Strokes.length).2)), I 0] [] [inR .i64 (256 * ((slaI ik.Strokes ik.Strokes.length).1)), Con Try.prog 38 [I (256 * ((slaI ik.Strokes ik.Strokes.length).1)), I ((slaI ik.Strokes ik.Strokes.length).2)] true (I (nearI (256 * ((slaI ik.Strokes ik.Strokes.length).1)) ((slaI ik.Strokes ik.Strokes.length).2))) ∧ ((I (256 * ((slaI ik.Strokes ik.Strokes.length).1)) : AV) = I (256 * ((slaI ik.Strokes ik.Strokes.length).1))) ∧ ((I ((slaI ik.Strokes ik.Strokes.length).2) : AV) = I ((slaI ik.Strokes ik.Strokes.length).2)) ∧ True] (by kernel_rfl) hB ⟨(inR_i64 (by omega) (by omega)), ⟨(l05Near_ok (256 * ((slaI ik.Strokes ik.Strokes.length).1)) ((slaI ik.Strokes ik.Strokes.length).2) (by omega)), rfl, rfl, trivial⟩, trivial⟩ ?_
    refine ae_then ?_
    refine aw_ret ?_
    refine ae_ret hB (.tup [I (nearI (256 * ((slaI ik.Strokes ik.Strokes.length).1)) ((slaI ik.Strokes ik.Strokes.length).2)), I 0]) (by kernel_rfl) (.inl (by simp [slantR, *])) rfl (fun _ => (by simp [tagged, taggedL]))
  ·refine aw_reg [(0, .call [(false, .ptr false [slStroke false ik.Strokes])] true (Bv false))] [1, 7] [1] [.ref 1 0, Bv true] [some (.box [slStroke false ik.Strokes])] [Con Try.prog 35 [.ptr false [slStroke false ik.Strokes]] true (Bv false) ∧ ((false = true → true = true) ∧ AV.idsL [slStroke false ik.Strokes] = [] ∧ ((false = true → false = true) ∧ 1 = 1 ∧ ik.Strokes.length = ik.Strokes.length ∧ ∀ i, i < ik.Strokes.length → (fStroke false ik.Strokes) i = (fStroke false ik.Strokes) i ∨ (AV.idsL ((fStroke false ik.Strokes) i) = [] ∧ leL (fun _ => none) false ((fStroke false ik.Strokes) i) ((fStroke false ik.Strokes) i))) ∧ ([] : List AV) = []) ∧ True] (by kernel_rfl) hB ⟨⟨(con_bool h1 (l02Ok_ok ik)), ⟨(fun h => by cases h), rfl, ⟨⟨(fun h => by cases h), rfl, rfl, fun i _ => .inl rfl⟩, rfl⟩⟩, trivial⟩, trivial⟩ ?_
   refine ae_then ?_
   refine aw_true rfl ?_
   refine aw_seq ?_
   refine aw_reg [] [2, 3] [] [I 0, I 1] [] [] (by kernel_rfl) hB trivial ?_
   refine ae_then ?_
   refine aw_ret ?_
   refine ae_ret_then ?_
   refine ae_ret hB (.tup [I 0, I 1]) (by kernel_rfl) (.inl (by simp [slantR, *])) rfl (fun _ => (by simp [tagged, taggedL]))


-- spec.l02SameStroke
theorem l02SameStroke_ok (a : Stroke) (b : Stroke) : Con Try.prog 66 [.ptr false [slPoint false a.Points], .ptr false [slPoint false b.Points]] true (Bv (sameS a b)) := by
  refine fn_ok (fn := Try.f66) (nt := 41) Try.func66 rfl rfl rfl rfl (by simp [taggedL, tagged, tagPoint]) fun B hB => ?_
  refine aw_lens (x := .ptr false [slPoint false a.Points]) 0 rfl (fun len_a => ?_)
  simp [LenOK, LenL, cPoint, fPoint, slPoint] at len_a
  refine aw_lens (x := .ptr false [slPoint false b.Points]) 1 rfl (fun len_b => ?_)
  simp [LenOK, LenL, cPoint, fPoint, slPoint] at len_b
  refine aw_seq ?_
  refine aw_reg [] [0, 1] [] [.ptr false [slPoint false a.Points], .ptr false [slPoint false b.Points]] [] [] (by kernel_rfl) hB trivial ?_
  refine ae_then ?_
  refine aw_seq ?_
  refine aw_seq ?_
  by_cases h1 : (a.Points.length : Int) = (b.Points.length : Int)
  ·have hlen : a.Points.length = b.Points.length := by omega
   refine aw_reg [(10, .dec false)] [0, 1, 16] [] [.ptr false [slPoint false a.Points], .ptr false [slPoint false b.Points], Bv false] [] [¬ ((a.Points.length : Int) ≠ (b.Points.length : Int))] (by kernel_rfl) hB ⟨(fun hq => hq h1), trivial⟩ ?_
   refine ae_then ?_
   refine aw_false rfl ?_
   refine aw_skip ?_
   refine ae_then ?_
   refine aw_seq ?_
   refine aw_seq ?_
   refine aw_reg [] [0, 1, 5] [] [.ptr false [slPoint false a.Points], .ptr false [slPoint false b.Points], I 0] [] [] (by kernel_rfl) hB trivial ?_
   refine ae_then ?_
   refine aw_block ?_
   refine aw_loop (fun gn gσ => ∃ (i : Int), gn = ((a.Points.length : Int) - i).toNat ∧ (0 ≤ i ∧ i ≤ (a.Points.length : Int)) ∧ (∀ j : Nat, (j : Int) < i → decide (at_ a.Points j = at_ b.Points j) = true) ∧ gσ = mkS [(0, .ptr false [slPoint false a.Points]), (1, .ptr false [slPoint false b.Points]), (5, I i)] []) (((a.Points.length : Int) - 0).toNat) ⟨0, rfl, (by omega), (by intro j hj; omega), rfl⟩ (fun gn gσ hI => ?_)
   obtain ⟨i, rfl, hi0, hall0, rfl⟩ := hI
   refine aw_seq ?_
   refine aw_seq ?_
   by_cases h2 : i < (a.Points.length : Int)
   ·have hi : i.toNat < a.Points.length := by omega
    refine aw_reg [(6, .dec true)] [0, 1, 5, 23] [] [.ptr false [slPoint false a.Points], .ptr false [slPoint false b.Points], I i, Bv true] [] [i < (a.Points.length : Int)] (by kernel_rfl) hB ⟨h2, trivial⟩ ?_
    refine ae_then ?_
    refine aw_true rfl ?_
    refine aw_skip ?_
    refine ae_then ?_
    refine aw_seq ?_
    refine aw_block ?_
    refine aw_seq ?_
    by_cases h3 : ((at_ a.Points i.toNat).X) = ((at_ b.Points i.toNat).X) ∧ ((at_ a.Points i.toNat).Y) = ((at_ b.Points i.toNat).Y) ∧ ((at_ a.Points i.toNat).T) = ((at_ b.Points i.toNat).T) ∧ True
    ·have hok : decide (at_ a.Points i.toNat = at_ b.Points i.toNat) = true := decide_eq_true (pt_ext h3.1 h3.2.1 h3.2.2.1)
     refine aw_reg [(14, .dec false)] [0, 1, 5, 40] [] [.ptr false [slPoint false a.Points], .ptr false [slPoint false b.Points], I i, Bv false] [] [(0 : Int) ≤ i ∧ i < (a.Points.length : Int), (0 : Int) ≤ i ∧ i < (b.Points.length : Int), ¬ (¬ (((at_ a.Points i.toNat).X) = ((at_ b.Points i.toNat).X) ∧ ((at_ a.Points i.toNat).Y) = ((at_ b.Points i.toNat).Y) ∧ ((at_ a.Points i.toNat).T) = ((at_ b.Points i.toNat).T) ∧ True))] (by kernel_rfl) hB ⟨⟨(by omega), (by omega)⟩, ⟨(by omega), (by omega)⟩, (fun hq => hq h3), trivial⟩ ?_
     refine ae_then ?_
     refine aw_false rfl ?_
     refine aw_skip ?_
     refine ae_block 1 ?_
     refine ae_then ?_
     refine aw_reg [] [0, 1, 5] [] [.ptr false [slPoint false a.Points], .ptr false [slPoint false b.Points], I (i + 1)] [] [inR .i64 (i + 1)] (by kernel_rfl) hB ⟨(inR_i64 (by omega) (by omega)), trivial⟩ ?_
     exact ae_again _ (by omega) ⟨(i + 1), rfl, (by omega), (by intro j hj; by_cases ej : j = i.toNat; (subst ej; first | assumption | exact hok); exact hall0 j (by omega)), rfl⟩
    ·have hall : allN a.Points.length (fun j => decide (at_ a.Points j = at_ b.Points j)) = false := allN_not hi (decide_eq_false (fun e => h3 ⟨by rw [e], by rw [e], by rw [e], trivial⟩))
     refine aw_reg [(14, .dec true)] [0, 1, 5, 40] [] [.ptr false [slPoint false a.Points], .ptr false [slPoint false b.Points], I i, Bv true] [] [(0 : Int) ≤ i ∧ i < (a.Points.length : Int), (0 : Int) ≤ i ∧ i < (b.Points.length : Int), ¬ (((at_ a.Points i.toNat).X) = ((at_ b.Points i.toNat).X) ∧ ((at_ a.Points i.toNat).Y) = ((at_ b.Points i.toNat).Y) ∧ ((at_ a.Points i.toNat).T) = ((at_ b.Points i.toNat).T) ∧ True)] (by kernel_rfl) hB ⟨⟨(by omega), (by omega)⟩, ⟨(by omega), (by omega)⟩, h3, trivial⟩ ?_
     refine ae_then ?_
     refine aw_true rfl ?_
     refine aw_seq ?_
     refine aw_reg [] [4] [] [Bv false] [] [] (by kernel_rfl) hB trivial ?_
     refine ae_then ?_
     refine aw_ret ?_
     refine ae_ret_block (ae_ret_then (ae_ret_then (ae_ret_block (ae_ret_then ?_))))
     refine ae_ret hB (Bv false) (by kernel_rfl) (.inl (by first | (simp [sameS, sameL, hlen]; done) | (unfold sameS sameL; rw [hall]; simp [hlen]))) rfl (fun _ => trivial)
   ·have hall : allN a.Points.length (fun j => decide (at_ a.Points j = at_ b.Points j)) = true := allN_at (fun j hj => hall0 j (by omega))
    refine aw_reg [(6, .dec false)] [0, 1, 5, 23] [] [.ptr false [slPoint false a.Points], .ptr false [slPoint false b.Points], I i, Bv false] [] [¬ (i < (a.Points.length : Int))] (by kernel_rfl) hB ⟨h2, trivial⟩ ?_
    refine ae_then ?_
    refine aw_false rfl ?_
    refine aw_exit ?_
    refine ae_exit_then ?_
    refine ae_exit_then ?_
    refine ae_exit_same ?_
    refine ae_then ?_
    refine aw_seq ?_
    refine aw_reg [] [4] [] [Bv true] [] [] (by kernel_rfl) hB trivial ?_
    refine ae_then ?_
    refine aw_ret ?_
    refine ae_ret hB (Bv true) (by kernel_rfl) (.inl (by first | (simp [sameS, sameL, hlen]; done) | (unfold sameS sameL; rw [hall]; simp [hlen]))) rfl (fun _ => trivial)
  ·have hlen : ¬ a.Points.length = b.Points.length := by omega
   refine aw_reg [(10, .dec true)] [0, 1, 16] [] [.ptr false [slPoint false a.Points], .ptr false [slPoint false b.Points], Bv true] [] [(a.Points.length : Int) ≠ (b.Points.length : Int)] (by kernel_rfl) hB ⟨h1, trivial⟩ ?_
   refine ae_then ?_
   refine aw_true rfl ?_
   refine aw_seq ?_
   refine aw_reg [] [4] [] [Bv false] [] [] (by kernel_rfl) hB trivial ?_
   refine ae_then ?_
   refine aw_ret ?_
   refine ae_ret_then ?_
   refine ae_ret hB (Bv false) (by kernel_rfl) (.inl (by first | (simp [sameS, sameL, hlen]; done) | (unfold sameS sameL; rw [hall]; simp [hlen]))) rfl (fun _ => trivial)


-- spec.l02Same
theorem l02Same_ok (a : Ink) (b : Ink) : Con Try.prog 41 [.ptr false [slStroke false a.Strokes], .ptr false [slStroke false b.Strokes]] true (Bv (sameI a b)) := by
  refine fn_ok (fn := Try.f41) (nt := 40) Try.func41 rfl rfl rfl rfl (by simp [taggedL, tagged, tagStroke]) fun B hB => ?_
  refine aw_lens (x := .ptr false [slStroke false a.Strokes]) 0 rfl (fun len_a => ?_)
  simp [LenOK, LenL, cPoint, cStroke, fPoint, fStroke, slPoint, slStroke] at len_a
  refine aw_lens (x := .ptr false [slStroke false b.Strokes]) 1 rfl (fun len_b => ?_)
  simp [LenOK, LenL, cPoint, cStroke, fPoint, fStroke, slPoint, slStroke] at len_b
  refine aw_seq ?_
  refine aw_reg [] [0, 1] [] [.ptr false [slStroke false a.Strokes], .ptr false [slStroke false b.Strokes]] [] [] (by kernel_rfl) hB trivial ?_
  refine ae_then ?_
  refine aw_seq ?_
  refine aw_seq ?_
  by_cases h1 : (a.Strokes.length : Int) = (b.Strokes.length : Int)
  ·have hlen : a.Strokes.length = b.Strokes.length := by omega
   refine aw_reg [(10, .dec false)] [0, 1, 16] [] [.ptr false [slStroke false a.Strokes], .ptr false [slStroke false b.Strokes], Bv false] [] [¬ ((a.Strokes.length : Int) ≠ (b.Strokes.length : Int))] (by kernel_rfl) hB ⟨(fun hq => hq h1), trivial⟩ ?_
   refine ae_then ?_
   refine aw_false rfl ?_
   refine aw_skip ?_
   refine ae_then ?_
   refine aw_seq ?_
   refine aw_seq ?_
   refine aw_reg [] [0, 1, 5] [] [.ptr false [slStroke false a.Strokes], .ptr false [slStroke false b.Strokes], I 0] [] [] (by kernel_rfl) hB trivial ?_
   refine ae_then ?_
   refine aw_block ?_
   refine aw_loop (fun gn gσ => ∃ (i : Int), gn = ((a.Strokes.length : Int) - i).toNat ∧ (0 ≤ i ∧ i ≤ (a.Strokes.length : Int)) ∧ (∀ j : Nat, (j : Int) < i → sameS (at_ a.Strokes j) (at_ b.Strokes j) = true) ∧ gσ = mkS [(0, .ptr false [slStroke false a.Strokes]), (1, .ptr false [slStroke false b.Strokes]), (5, I i)] []) (((a.Strokes.length : Int) - 0).toNat) ⟨0, rfl, (by omega), (by intro j hj; omega), rfl⟩ (fun gn gσ hI => ?_)
   obtain ⟨i, rfl, hi0, hall0, rfl⟩ := hI
   refine aw_seq ?_
   refine aw_seq ?_
   by_cases h2 : i < (a.Strokes.length : Int)
   ·have hi : i.toNat < a.Strokes.length := by omega
    have hi2 : i.toNat < b.Strokes.length := by omega
    refine aw_reg [(6, .dec true)] [0, 1, 5, 23] [] [.ptr false [slStroke false a.Strokes], .ptr false [slStroke false b.Strokes], I i, Bv true] [] [i < (a.Strokes.length : Int)] (by kernel_rfl) hB ⟨h2, trivial⟩ ?_
    refine ae_then ?_
    refine aw_true rfl ?_
    refine aw_skip ?_
    refine ae_then ?_
    refine aw_seq ?_
    refine aw_block ?_
    refine aw_seq ?_
    rcases Bool.eq_false_or_eq_true (sameS (at_ a.Strokes i.toNat) (at_ b.Strokes i.toNat)) with h3 | h3
    ·have hok : sameS (at_ a.Strokes i.toNat) (at_ b.Strokes i.toNat) = true := h3
     refine aw_reg [(12, .call [(true, .ptr false [slPoint false ((at_ a.Strokes i.toNat).Points)]), (true, .ptr false [slPoint false ((at_ b.Strokes i.toNat).Points)])] true (Bv true))] [0, 1, 5, 39] [] [.ptr false [slStroke false a.Strokes], .ptr false [slStroke false b.Strokes], I i, Bv false] [] [(0 : Int) ≤ i ∧ i < (a.Strokes.length : Int), (0 : Int) ≤ i ∧ i < (b.Strokes.length : Int), Con Try.prog 66 [.ptr false [slPoint false ((at_ a.Strokes i.toNat).Points)], .ptr false [slPoint false ((at_ b.Strokes i.toNat).Points)]] true (Bv true) ∧ ((.ptr false [slPoint false ((at_ a.Strokes i.toNat).Points)] : AV) = .ptr false [slPoint false ((at_ a.Strokes i.toNat).Points)]) ∧ ((.ptr false [slPoint false ((at_ b.Strokes i.toNat).Points)] : AV) = .ptr false [slPoint false ((at_ b.Strokes i.toNat).Points)]) ∧ True] (by kernel_rfl) hB ⟨⟨(by omega), (by omega)⟩, ⟨(by omega), (by omega)⟩, ⟨(con_bool h3 (l02SameStroke_ok (at_ a.Strokes i.toNat) (at_ b.Strokes i.toNat))), rfl, rfl, trivial⟩, trivial⟩ ?_
     refine ae_then ?_
     refine aw_false rfl ?_
     refine aw_skip ?_
     refine ae_block 1 ?_
     refine ae_then ?_
     refine aw_reg [] [0, 1, 5] [] [.ptr false [slStroke false a.Strokes], .ptr false [slStroke false b.Strokes], I (i + 1)] [] [inR .i64 (i + 1)] (by kernel_rfl) hB ⟨(inR_i64 (by omega) (by omega)), trivial⟩ ?_
     exact ae_again _ (by omega) ⟨(i + 1), rfl, (by omega), (by intro j hj; by_cases ej : j = i.toNat; (subst ej; first | assumption | exact hok); exact hall0 j (by omega)), rfl⟩
    ·have hall : allN a.Strokes.length (fun j => sameS (at_ a.Strokes j) (at_ b.Strokes j)) = false := allN_not hi (by simpa using h3)
     refine aw_reg [(12, .call [(true, .ptr false [slPoint false ((at_ a.Strokes i.toNat).Points)]), (true, .ptr false [slPoint false ((at_ b.Strokes i.toNat).Points)])] true (Bv false))] [0, 1, 5, 39] [] [.ptr false [slStroke false a.Strokes], .ptr false [slStroke false b.Strokes], I i, Bv true] [] [(0 : Int) ≤ i ∧ i < (a.Strokes.length : Int), (0 : Int) ≤ i ∧ i < (b.Strokes.length : Int), Con Try.prog 66 [.ptr false [slPoint false ((at_ a.Strokes i.toNat).Points)], .ptr false [slPoint false ((at_ b.Strokes i.toNat).Points)]] true (Bv false) ∧ ((.ptr false [slPoint false ((at_ a.Strokes i.toNat).Points)] : AV) = .ptr false [slPoint false ((at_ a.Strokes i.toNat).Points)]) ∧ ((.ptr false [slPoint false ((at_ b.Strokes i.toNat).Points)] : AV) = .ptr false [slPoint false ((at_ b.Strokes i.toNat).Points)]) ∧ True] (by kernel_rfl) hB ⟨⟨(by omega), (by omega)⟩, ⟨(by omega), (by omega)⟩, ⟨(con_bool h3 (l02SameStroke_ok (at_ a.Strokes i.toNat) (at_ b.Strokes i.toNat))), rfl, rfl, trivial⟩, trivial⟩ ?_
     refine ae_then ?_
     refine aw_true rfl ?_
     refine aw_seq ?_
     refine aw_reg [] [4] [] [Bv false] [] [] (by kernel_rfl) hB trivial ?_
     refine ae_then ?_
     refine aw_ret ?_
     refine ae_ret_block (ae_ret_then (ae_ret_then (ae_ret_block (ae_ret_then ?_))))
     refine ae_ret hB (Bv false) (by kernel_rfl) (.inl (by first | (simp [sameI, hlen]; done) | (unfold sameI; rw [hall]; simp [hlen]))) rfl (fun _ => trivial)
   ·have hall : allN a.Strokes.length (fun j => sameS (at_ a.Strokes j) (at_ b.Strokes j)) = true := allN_at (fun j hj => hall0 j (by omega))
    refine aw_reg [(6, .dec false)] [0, 1, 5, 23] [] [.ptr false [slStroke false a.Strokes], .ptr false [slStroke false b.Strokes], I i, Bv false] [] [¬ (i < (a.Strokes.length : Int))] (by kernel_rfl) hB ⟨h2, trivial⟩ ?_
    refine ae_then ?_
    refine aw_false rfl ?_
    refine aw_exit ?_
    refine ae_exit_then ?_
    refine ae_exit_then ?_
    refine ae_exit_same ?_
    refine ae_then ?_
    refine aw_seq ?_
    refine aw_reg [] [4] [] [Bv true] [] [] (by kernel_rfl) hB trivial ?_
    refine ae_then ?_
    refine aw_ret ?_
    refine ae_ret hB (Bv true) (by kernel_rfl) (.inl (by first | (simp [sameI, hlen]; done) | (unfold sameI; rw [hall]; simp [hlen]))) rfl (fun _ => trivial)
  ·have hlen : ¬ a.Strokes.length = b.Strokes.length := by omega
   refine aw_reg [(10, .dec true)] [0, 1, 16] [] [.ptr false [slStroke false a.Strokes], .ptr false [slStroke false b.Strokes], Bv true] [] [(a.Strokes.length : Int) ≠ (b.Strokes.length : Int)] (by kernel_rfl) hB ⟨h1, trivial⟩ ?_
   refine ae_then ?_
   refine aw_true rfl ?_
   refine aw_seq ?_
   refine aw_reg [] [4] [] [Bv false] [] [] (by kernel_rfl) hB trivial ?_
   refine ae_then ?_
   refine aw_ret ?_
   refine ae_ret_then ?_
   refine ae_ret hB (Bv false) (by kernel_rfl) (.inl (by first | (simp [sameI, hlen]; done) | (unfold sameI; rw [hall]; simp [hlen]))) rfl (fun _ => trivial)


-- spec.SameInk
theorem specSameInk_ok (a : Ink) (b : Ink) : Con Try.prog 11 [.agg [slStroke false a.Strokes], .agg [slStroke false b.Strokes]] true (Bv (sameI a b)) := by
  refine fn_ok (fn := Try.f11) (nt := 6) Try.func11 rfl rfl rfl rfl (by simp [taggedL, tagged, tagStroke]) fun B hB => ?_
  refine aw_lens (x := .agg [slStroke false a.Strokes]) 0 rfl (fun len_a => ?_)
  simp [LenOK, LenL, cPoint, cStroke, fPoint, fStroke, slPoint, slStroke] at len_a
  refine aw_lens (x := .agg [slStroke false b.Strokes]) 1 rfl (fun len_b => ?_)
  simp [LenOK, LenL, cPoint, cStroke, fPoint, fStroke, slPoint, slStroke] at len_b
  refine aw_seq ?_
  refine aw_reg [(0, .new 2), (1, .new 3)] [2, 3] [2, 3] [.ref 2 0, .ref 3 0] [some (.box [slStroke false a.Strokes]), some (.box [slStroke false b.Strokes])] [] (by kernel_rfl) hB trivial ?_
  refine ae_then ?_
  refine aw_seq ?_
  refine aw_reg [(0, .call [(false, .ptr false [slStroke false a.Strokes]), (false, .ptr false [slStroke false b.Strokes])] true (Bv (sameI a b)))] [4] [] [Bv (sameI a b)] [] [Con Try.prog 41 [.ptr false [slStroke false a.Strokes], .ptr false [slStroke false b.Strokes]] true (Bv (sameI a b)) ∧ ((false = true → true = true) ∧ AV.idsL [slStroke false a.Strokes] = [] ∧ ((false = true → false = true) ∧ 1 = 1 ∧ a.Strokes.length = a.Strokes.length ∧ ∀ i, i < a.Strokes.length → (fStroke false a.Strokes) i = (fStroke false a.Strokes) i ∨ (AV.idsL ((fStroke false a.Strokes) i) = [] ∧ leL (fun _ => none) false ((fStroke false a.Strokes) i) ((fStroke false a.Strokes) i))) ∧ ([] : List AV) = []) ∧ ((false = true → true = true) ∧ AV.idsL [slStroke false b.Strokes] = [] ∧ ((false = true → false = true) ∧ 1 = 1 ∧ b.Strokes.length = b.Strokes.length ∧ ∀ i, i < b.Strokes.length → (fStroke false b.Strokes) i = (fStroke false b.Strokes) i ∨ (AV.idsL ((fStroke false b.Strokes) i) = [] ∧ leL (fun _ => none) false ((fStroke false b.Strokes) i) ((fStroke false b.Strokes) i))) ∧ ([] : List AV) = []) ∧ True] (by kernel_rfl) hB ⟨⟨(l02Same_ok a b), ⟨(fun h => by cases h), rfl, ⟨⟨(fun h => by cases h), rfl, rfl, fun i _ => .inl rfl⟩, rfl⟩⟩, ⟨(fun h => by cases h), rfl, ⟨⟨(fun h => by cases h), rfl, rfl, fun i _ => .inl rfl⟩, rfl⟩⟩, trivial⟩, trivial⟩ ?_
  refine ae_then ?_
  refine aw_ret ?_
  refine ae_ret hB (Bv (sameI a b)) (by kernel_rfl) (.inl rfl) rfl (fun _ => trivial)


-- laws.f6size
theorem f6size_ok (n : Int) (hn : -9223372036854775807 ≤ n ∧ n ≤ 9223372036854775807) : Con Try.prog 12 [I n] true (I (n.natAbs : Int)) := by
  refine fn_ok (fn := Try.f12) (nt := 8) Try.func12 rfl rfl rfl rfl (by simp [taggedL, tagged]) fun B hB => ?_
  refine aw_seq ?_
  refine aw_reg [] [0] [] [I n] [] [] (by kernel_rfl) hB trivial ?_
  refine ae_then ?_
  refine aw_seq ?_
  refine aw_seq ?_
  by_cases h1 : n < 0
  ·refine aw_reg [(1, .dec true)] [0, 4] [] [I n, Bv true] [] [n < 0] (by kernel_rfl) hB ⟨h1, trivial⟩ ?_
   refine ae_then ?_
   refine aw_true rfl ?_
   refine aw_seq ?_
   refine aw_reg [] [2] [] [I (-n)] [] [inR .i64 (-n)] (by kernel_rfl) hB ⟨(inR_i64 (by omega) (by omega)), trivial⟩ ?_
   refine ae_then ?_
   refine aw_ret ?_
   refine ae_ret_then ?_
   refine ae_ret hB (I (-n)) (by kernel_rfl) (.inl (by refine congrArg I ?_; omega)) rfl (fun _ => trivial)
  ·refine aw_reg [(1, .dec false)] [0, 4] [] [I n, Bv false] [] [¬ (n < 0)] (by kernel_rfl) hB ⟨h1, trivial⟩ ?_
   refine ae_then ?_
   refine aw_false rfl ?_
   refine aw_skip ?_
   refine ae_then ?_
   refine aw_seq ?_
   refine aw_reg [] [2] [] [I n] [] [] (by kernel_rfl) hB trivial ?_
   refine ae_then ?_
   refine aw_ret ?_
   refine ae_ret hB (I n) (by kernel_rfl) (.inl (by refine congrArg I ?_; omega)) rfl (fun _ => trivial)


-- spec.ValidInk
theorem specValidInk_ok (ik : Ink) : Con Try.prog 13 [.agg [slStroke false ik.Strokes]] true (Bv (okInk' ik)) := by
  refine fn_ok (fn := Try.f13) (nt := 4) Try.func13 rfl rfl rfl rfl (by simp [taggedL, tagged, tagStroke]) fun B hB => ?_
  refine aw_lens (x := .agg [slStroke false ik.Strokes]) 0 rfl (fun len_ik => ?_)
  simp [LenOK, LenL, cPoint, cStroke, fPoint, fStroke, slPoint, slStroke] at len_ik
  refine aw_seq ?_
  refine aw_reg [(0, .new 1)] [1] [1] [.ref 1 0] [some (.box [slStroke false ik.Strokes])] [] (by kernel_rfl) hB trivial ?_
  refine ae_then ?_
  refine aw_seq ?_
  refine aw_reg [(0, .call [(false, .ptr false [slStroke false ik.Strokes])] true (Bv (okInk' ik)))] [2] [] [Bv (okInk' ik)] [] [Con Try.prog 35 [.ptr false [slStroke false ik.Strokes]] true (Bv (okInk' ik)) ∧ ((false = true → true = true) ∧ AV.idsL [slStroke false ik.Strokes] = [] ∧ ((false = true → false = true) ∧ 1 = 1 ∧ ik.Strokes.length = ik.Strokes.length ∧ ∀ i, i < ik.Strokes.length → (fStroke false ik.Strokes) i = (fStroke false ik.Strokes) i ∨ (AV.idsL ((fStroke false ik.Strokes) i) = [] ∧ leL (fun _ => none) false ((fStroke false ik.Strokes) i) ((fStroke false ik.Strokes) i))) ∧ ([] : List AV) = []) ∧ True] (by kernel_rfl) hB ⟨⟨(l02Ok_ok ik), ⟨(fun h => by cases h), rfl, ⟨⟨(fun h => by cases h), rfl, rfl, fun i _ => .inl rfl⟩, rfl⟩⟩, trivial⟩, trivial⟩ ?_
  refine ae_then ?_
  refine aw_ret ?_
  refine ae_ret hB (Bv (okInk' ik)) (by kernel_rfl) (.inl rfl) rfl (fun _ => trivial)


theorem and_16777215 (a : Int) : 0 ≤ bitsI .and .u64 a 16777215 ∧ bitsI .and .u64 a 16777215 ≤ 16777215 := by
  obtain ⟨n, hn⟩ : ∃ n : Nat, n = (BitVec.ofInt 64 a &&& BitVec.ofInt 64 16777215).toNat := ⟨_, rfl⟩
  have h : n ≤ 16777215 := by rw [hn, BitVec.toNat_and]; exact Nat.and_le_right
  have e : bitsI .and .u64 a 16777215 = IntKind.u64.wrap (n : Int) := by rw [hn]; rfl
  have w : IntKind.u64.wrap (n : Int) = n := wrap_in (inR_u64 (by omega) (by omega))
  rw [e, w]; omega
/-- A dice in order. -/
def okDice (d : f6dice) : Prop := (∀ j, j < d.b.length → 0 ≤ at_ d.b j ∧ at_ d.b j ≤ 255) ∧ (0 ≤ d.i ∧ d.i ≤ (d.b.length : Int)) ∧ d.b.length ≤ 4611686018427387904

-- laws.f6roll
theorem f6roll_ok (code : List Int) (seed : Int) (hc : (∀ j, j < code.length → 0 ≤ at_ code j ∧ at_ code j ≤ 255) ∧ code.length ≤ 4611686018427387904) (hsd : 0 ≤ seed ∧ seed ≤ 18446744073709551615) : ∃ (d' : f6dice), (okDice d') ∧ CallOK Try.prog 14 [slU8 false code, .val (.int .u64 seed)] (lookO []) false (.ref 7002 0) (lookO [(7002, bxf6dice d')]) := by
  have hh : ∃ r : f6dice, ((okDice r) ∧ (True)) ∧ CallOK Try.prog 14 [slU8 false code, .val (.int .u64 seed)] (lookO []) false (.ref 7002 0) (lookO [(7002, bxf6dice r)]) := by
    refine fn_okX (Φ := fun r : f6dice => (okDice r) ∧ (True)) [] (fun r => [(7002, bxf6dice r)]) (fn := Try.f14) (nt := 38) Try.func14 rfl rfl (args := [slU8 false code, .val (.int .u64 seed)]) rfl (allcons (.inl ⟨rfl, tagU8 false _⟩) (allcons (.inl ⟨rfl, trivial⟩) allnil)) (res := fun r => .ref 7002 0) ?_
    refine x_seq ?_
    refine x_reg [] [0, 1] [] [slU8 false code, .val (.int .u64 seed)] [] [] (by kernel_rfl) trivial ?_
    refine xe_then ?_
    refine x_seq ?_
    refine x_reg [(2, .wrap), (6, .wrap), (8, .new 7002)] [0, 5] [7002] [slU8 false code, .ref 7002 0] [some (.box [slU8 false code, I 0, .val (.int .u64 (IntKind.u64.wrap ((IntKind.u64.wrap (seed * 7919)) + (code.length : Int))))])] [inR .u64 (code.length : Int)] (by kernel_rfl) ⟨(inR_u64 (by omega) (by omega)), trivial⟩ ?_
    refine xe_then ?_
    refine x_seq ?_
    refine x_seq ?_
    refine x_reg [] [0, 5, 6] [7002] [slU8 false code, .ref 7002 0, I 0] [some (.box [slU8 false code, I 0, .val (.int .u64 (IntKind.u64.wrap ((IntKind.u64.wrap (seed * 7919)) + (code.length : Int))))])] [] (by kernel_rfl) trivial ?_
    refine xe_then ?_
    refine x_block ?_
    refine x_weak [] (T := [(0, slU8 false code), (5, .ref 7002 0), (6, I 0)]) (O := [(7002, .box [.sl false 1 ((f6dice.mk code 0 (IntKind.u64.wrap ((IntKind.u64.wrap (seed * 7919)) + (code.length : Int)))).b.length) (fU8 ((f6dice.mk code 0 (IntKind.u64.wrap ((IntKind.u64.wrap (seed * 7919)) + (code.length : Int)))).b)), I ((f6dice.mk code 0 (IntKind.u64.wrap ((IntKind.u64.wrap (seed * 7919)) + (code.length : Int)))).i), .val (.int .u64 ((f6dice.mk code 0 (IntKind.u64.wrap ((IntKind.u64.wrap (seed * 7919)) + (code.length : Int)))).h))])]) rfl (⟨.inl rfl, .inl rfl, .inl rfl, trivial⟩) (⟨.inr ⟨⟨(fun h => by cases h), rfl, (by first | rfl | (simp; done) | (simp; omega) | omega), fun i hi => .inl (by first | rfl | fail)⟩, ⟨(by first | rfl | (simp [valOf]; done) | (simp [valOf]; omega)), ⟨(by first | rfl | (simp [valOf]; done) | (simp [valOf]; omega)), rfl⟩⟩⟩, trivial⟩) ?_
    refine x_loop (X := Int × f6dice) (fun x => mkS [(0, slU8 false code), (5, .ref 7002 0), (6, I x.1)] [(7002, bxf6dice x.2)]) (fun x => (0 ≤ x.1 ∧ x.1 ≤ (code.length : Int)) ∧ (x.2.b = code ∧ x.2.i = 0) ∧ True) (fun x => ((code.length : Int) - x.1).toNat) (0, (f6dice.mk code 0 (IntKind.u64.wrap ((IntKind.u64.wrap (seed * 7919)) + (code.length : Int))))) rfl (show (0 ≤ (0 : Int) ∧ (0 : Int) ≤ (code.length : Int)) ∧ ((f6dice.mk code 0 (IntKind.u64.wrap ((IntKind.u64.wrap (seed * 7919)) + (code.length : Int)))).b = code ∧ (f6dice.mk code 0 (IntKind.u64.wrap ((IntKind.u64.wrap (seed * 7919)) + (code.length : Int)))).i = 0) ∧ True from ⟨(by omega), (by exact ⟨rfl, rfl⟩), trivial⟩) (fun x hI => ?_)
    obtain ⟨i, di⟩ := x
    obtain ⟨hi0, hd0, _⟩ : (0 ≤ i ∧ i ≤ (code.length : Int)) ∧ (di.b = code ∧ di.i = 0) ∧ True := hI
    show XW _ _ _ _ (mkS [(0, slU8 false code), (5, .ref 7002 0), (6, I i)] [(7002, bxf6dice di)]) _ _
    refine x_seq ?_
    refine x_seq ?_
    by_cases h1 : i < (code.length : Int)
    ·have hbt := hc.1 i.toNat (by omega)
     refine x_reg [(3, .dec true)] [0, 5, 6, 19] [7002] [slU8 false code, .ref 7002 0, I i, Bv true] [some (bxf6dice di)] [i < (code.length : Int)] (by kernel_rfl) ⟨h1, trivial⟩ ?_
     refine xe_then ?_
     refine x_true rfl ?_
     refine x_skip ?_
     refine xe_then ?_
     refine x_seq ?_
     refine x_block ?_
     refine x_reg [(5, .wrap), (11, .wrap), (12, .wrap)] [0, 5, 6] [7002] [slU8 false code, .ref 7002 0, I i] [some (.box [slU8 false di.b, I di.i, .val (.int .u64 (IntKind.u64.wrap ((IntKind.u64.wrap ((IntKind.u64.wrap (di.h * 1099511628211)) + (at_ code i.toNat))) + 3)))])] [(0 : Int) ≤ i ∧ i < (code.length : Int), inR .u64 (at_ code i.toNat)] (by kernel_rfl) ⟨⟨(by omega), (by omega)⟩, (inR_u64 (by omega) (by omega)), trivial⟩ ?_
     refine xe_block 1 ?_
     refine xe_then ?_
     refine x_reg [] [0, 5, 6] [7002] [slU8 false code, .ref 7002 0, I (i + 1)] [some (.box [slU8 false di.b, I di.i, .val (.int .u64 (IntKind.u64.wrap ((IntKind.u64.wrap ((IntKind.u64.wrap (di.h * 1099511628211)) + (at_ code i.toNat))) + 3)))])] [inR .i64 (i + 1)] (by kernel_rfl) ⟨(inR_i64 (by omega) (by omega)), trivial⟩ ?_
     refine xe_weak [] (T := [(0, slU8 false code), (5, .ref 7002 0), (6, I (i + 1))]) (O := [(7002, .box [.sl false 1 ((f6dice.mk di.b di.i (IntKind.u64.wrap ((IntKind.u64.wrap ((IntKind.u64.wrap (di.h * 1099511628211)) + (at_ code i.toNat))) + 3))).b.length) (fU8 ((f6dice.mk di.b di.i (IntKind.u64.wrap ((IntKind.u64.wrap ((IntKind.u64.wrap (di.h * 1099511628211)) + (at_ code i.toNat))) + 3))).b)), I ((f6dice.mk di.b di.i (IntKind.u64.wrap ((IntKind.u64.wrap ((IntKind.u64.wrap (di.h * 1099511628211)) + (at_ code i.toNat))) + 3))).i), .val (.int .u64 ((f6dice.mk di.b di.i (IntKind.u64.wrap ((IntKind.u64.wrap ((IntKind.u64.wrap (di.h * 1099511628211)) + (at_ code i.toNat))) + 3))).h))])]) rfl (⟨.inl rfl, .inl rfl, .inl rfl, trivial⟩) (⟨.inr ⟨⟨(fun h => by cases h), rfl, (by first | rfl | (simp; done) | (simp; omega) | omega), fun i hi => .inl (by first | rfl | fail)⟩, ⟨(by first | rfl | (simp [valOf]; done) | (simp [valOf]; omega)), ⟨(by first | rfl | (simp [valOf]; done) | (simp [valOf]; omega)), rfl⟩⟩⟩, trivial⟩) (xe_again ((i + 1), (f6dice.mk di.b di.i (IntKind.u64.wrap ((IntKind.u64.wrap ((IntKind.u64.wrap (di.h * 1099511628211)) + (at_ code i.toNat))) + 3)))) rfl (show (0 ≤ (i + 1) ∧ (i + 1) ≤ (code.length : Int)) ∧ ((f6dice.mk di.b di.i (IntKind.u64.wrap ((IntKind.u64.wrap ((IntKind.u64.wrap (di.h * 1099511628211)) + (at_ code i.toNat))) + 3))).b = code ∧ (f6dice.mk di.b di.i (IntKind.u64.wrap ((IntKind.u64.wrap ((IntKind.u64.wrap (di.h * 1099511628211)) + (at_ code i.toNat))) + 3))).i = 0) ∧ True from ⟨(by omega), (by exact hd0), trivial⟩) (by show (((code.length : Int) - (i + 1)).toNat : Nat) < ((code.length : Int) - i).toNat; omega))
    ·refine x_reg [(3, .dec false)] [0, 5, 6, 19] [7002] [slU8 false code, .ref 7002 0, I i, Bv false] [some (bxf6dice di)] [¬ (i < (code.length : Int))] (by kernel_rfl) ⟨h1, trivial⟩ ?_
     refine xe_then ?_
     refine x_false rfl ?_
     refine x_exit ?_
     refine xe_exit_then ?_
     refine xe_loop_exit ?_
     refine xe_exit_same ?_
     refine xe_then ?_
     refine x_seq ?_
     refine x_reg [] [4] [7002] [.ref 7002 0] [some (bxf6dice di)] [] (by kernel_rfl) trivial ?_
     refine xe_then ?_
     refine x_ret ?_
     refine xe_end di (show (okDice di) ∧ (True) from ⟨(by exact ⟨by rw [hd0.1]; exact hc.1, by rw [hd0.1, hd0.2]; omega, by rw [hd0.1]; exact hc.2⟩), trivial⟩) (⟨.inl rfl, trivial⟩) (.ref 7002 0) (by kernel_rfl) (.inl rfl) (fun h => by cases h) (fun h => by cases h)
  obtain ⟨d', ⟨hh0, _⟩, hc⟩ := hh
  exact ⟨d', hh0, hc⟩


-- laws.f6dice).below
theorem below_ok (d : f6dice) (n : Int) (hd : okDice d) (hn : 1 ≤ n ∧ n ≤ 9000000000000000000) : ∃ (v : Int) (d' : f6dice), (0 ≤ v ∧ v < n) ∧ (okDice d') ∧ CallOK Try.prog 16 [.ref 7002 0, I n] (lookO [(7002, bxf6dice d)]) true (I v) (lookO [(7002, bxf6dice d')]) := by
  have hd1 := hd.2.1
  have hd2 := hd.2.2
  have hh : ∃ r : Int × f6dice, ((0 ≤ r.1 ∧ r.1 < n) ∧ (okDice r.2) ∧ (True)) ∧ CallOK Try.prog 16 [.ref 7002 0, I n] (lookO [(7002, bxf6dice d)]) true (I r.1) (lookO [(7002, bxf6dice r.2)]) := by
    refine fn_okX (Φ := fun r : Int × f6dice => (0 ≤ r.1 ∧ r.1 < n) ∧ (okDice r.2) ∧ (True)) [(7002, bxf6dice d)] (fun r => [(7002, bxf6dice r.2)]) (fn := Try.f16) (nt := 56) Try.func16 rfl rfl (args := [.ref 7002 0, I n]) rfl (allcons (.inr trivial) (allcons (.inl ⟨rfl, trivial⟩) allnil)) (res := fun r => I r.1) ?_
    refine x_seq ?_
    refine x_reg [] [0, 1] [7002] [.ref 7002 0, I n] [some (bxf6dice d)] [] (by kernel_rfl) trivial ?_
    refine xe_then ?_
    refine x_seq ?_
    refine x_reg [(5, .wrap), (6, .wrap)] [0, 1] [7002] [.ref 7002 0, I n] [some (.box [slU8 false d.b, I d.i, .val (.int .u64 (IntKind.u64.wrap ((IntKind.u64.wrap (d.h * 6364136223846793005)) + 1442695040888963407)))])] [] (by kernel_rfl) trivial ?_
    refine xe_then ?_
    refine x_seq ?_
    have hb1 := and_16777215 ((IntKind.u64.wrap ((IntKind.u64.wrap (d.h * 6364136223846793005)) + 1442695040888963407)) / 8589934592)
    refine x_reg [] [0, 1, 5] [7002] [.ref 7002 0, I n, I (bitsI .and .u64 ((IntKind.u64.wrap ((IntKind.u64.wrap (d.h * 6364136223846793005)) + 1442695040888963407)) / 8589934592) 16777215)] [some (.box [slU8 false d.b, I d.i, .val (.int .u64 (IntKind.u64.wrap ((IntKind.u64.wrap (d.h * 6364136223846793005)) + 1442695040888963407)))])] [(0 : Int) ≤ 33 ∧ (33 : Int) ≤ ((IntKind.bits .u64 : Nat) : Int), inR .i64 (bitsI .and .u64 ((IntKind.u64.wrap ((IntKind.u64.wrap (d.h * 6364136223846793005)) + 1442695040888963407)) / 8589934592) 16777215)] (by kernel_rfl) ⟨⟨(by decide), (by decide)⟩, (inR_i64 (by omega) (by omega)), trivial⟩ ?_
    refine xe_then ?_
    refine x_seq ?_
    refine x_seq ?_
    by_cases h1 : d.i < (d.b.length : Int)
    ·have hbt := hd.1 d.i.toNat (by omega)
     refine x_reg [(9, .dec true)] [0, 1, 5, 31] [7002] [.ref 7002 0, I n, I (bitsI .and .u64 ((IntKind.u64.wrap ((IntKind.u64.wrap (d.h * 6364136223846793005)) + 1442695040888963407)) / 8589934592) 16777215), Bv true] [some (.box [slU8 false d.b, I d.i, .val (.int .u64 (IntKind.u64.wrap ((IntKind.u64.wrap (d.h * 6364136223846793005)) + 1442695040888963407)))])] [d.i < (d.b.length : Int)] (by kernel_rfl) ⟨h1, trivial⟩ ?_
     refine xe_then ?_
     refine x_true rfl ?_
     refine x_seq ?_
     refine x_reg [] [0, 1, 5] [7002] [.ref 7002 0, I n, I ((bitsI .and .u64 ((IntKind.u64.wrap ((IntKind.u64.wrap (d.h * 6364136223846793005)) + 1442695040888963407)) / 8589934592) 16777215) + (at_ d.b d.i.toNat))] [some (.box [slU8 false d.b, I d.i, .val (.int .u64 (IntKind.u64.wrap ((IntKind.u64.wrap (d.h * 6364136223846793005)) + 1442695040888963407)))])] [(0 : Int) ≤ d.i ∧ d.i < (d.b.length : Int), inR .i64 (at_ d.b d.i.toNat), inR .i64 ((bitsI .and .u64 ((IntKind.u64.wrap ((IntKind.u64.wrap (d.h * 6364136223846793005)) + 1442695040888963407)) / 8589934592) 16777215) + (at_ d.b d.i.toNat))] (by kernel_rfl) ⟨⟨(by omega), (by omega)⟩, (inR_i64 (by omega) (by omega)), (inR_i64 (by omega) (by omega)), trivial⟩ ?_
     refine xe_then ?_
     refine x_reg [] [1, 5] [7002] [I n, I ((bitsI .and .u64 ((IntKind.u64.wrap ((IntKind.u64.wrap (d.h * 6364136223846793005)) + 1442695040888963407)) / 8589934592) 16777215) + (at_ d.b d.i.toNat))] [some (.box [slU8 false d.b, I (d.i + 1), .val (.int .u64 (IntKind.u64.wrap ((IntKind.u64.wrap (d.h * 6364136223846793005)) + 1442695040888963407)))])] [inR .i64 (d.i + 1)] (by kernel_rfl) ⟨(inR_i64 (by omega) (by omega)), trivial⟩ ?_
     refine xe_then ?_
     refine x_seq ?_
     refine x_reg [(2, .nn)] [4] [7002] [I (((bitsI .and .u64 ((IntKind.u64.wrap ((IntKind.u64.wrap (d.h * 6364136223846793005)) + 1442695040888963407)) / 8589934592) 16777215) + (at_ d.b d.i.toNat)) % n)] [some (.box [slU8 false d.b, I (d.i + 1), .val (.int .u64 (IntKind.u64.wrap ((IntKind.u64.wrap (d.h * 6364136223846793005)) + 1442695040888963407)))])] [(0 : Int) ≤ ((bitsI .and .u64 ((IntKind.u64.wrap ((IntKind.u64.wrap (d.h * 6364136223846793005)) + 1442695040888963407)) / 8589934592) 16777215) + (at_ d.b d.i.toNat)) ∧ (0 : Int) < n] (by kernel_rfl) ⟨⟨(by omega), (by omega)⟩, trivial⟩ ?_
     refine xe_then ?_
     refine x_ret ?_
     refine xe_end ((((bitsI .and .u64 ((IntKind.u64.wrap ((IntKind.u64.wrap (d.h * 6364136223846793005)) + 1442695040888963407)) / 8589934592) 16777215) + (at_ d.b d.i.toNat)) % n), (f6dice.mk d.b (d.i + 1) (IntKind.u64.wrap ((IntKind.u64.wrap (d.h * 6364136223846793005)) + 1442695040888963407)))) (show (0 ≤ (((bitsI .and .u64 ((IntKind.u64.wrap ((IntKind.u64.wrap (d.h * 6364136223846793005)) + 1442695040888963407)) / 8589934592) 16777215) + (at_ d.b d.i.toNat)) % n) ∧ (((bitsI .and .u64 ((IntKind.u64.wrap ((IntKind.u64.wrap (d.h * 6364136223846793005)) + 1442695040888963407)) / 8589934592) 16777215) + (at_ d.b d.i.toNat)) % n) < n) ∧ (okDice (f6dice.mk d.b (d.i + 1) (IntKind.u64.wrap ((IntKind.u64.wrap (d.h * 6364136223846793005)) + 1442695040888963407)))) ∧ (True) from ⟨(by first | (exact ⟨Int.emod_nonneg _ (by omega), Int.emod_lt_of_pos _ (by omega)⟩) | exact hd | exact ⟨hd.1, (by dsimp only; omega), hd2⟩), (by first | (exact ⟨Int.emod_nonneg _ (by omega), Int.emod_lt_of_pos _ (by omega)⟩) | exact hd | exact ⟨hd.1, (by dsimp only; omega), hd2⟩), trivial⟩) (⟨.inl rfl, trivial⟩) (I (((bitsI .and .u64 ((IntKind.u64.wrap ((IntKind.u64.wrap (d.h * 6364136223846793005)) + 1442695040888963407)) / 8589934592) 16777215) + (at_ d.b d.i.toNat)) % n)) (by kernel_rfl) (.inl rfl) (fun _ => rfl) (fun _ => trivial)
    ·refine x_reg [(9, .dec false)] [0, 1, 5, 31] [7002] [.ref 7002 0, I n, I (bitsI .and .u64 ((IntKind.u64.wrap ((IntKind.u64.wrap (d.h * 6364136223846793005)) + 1442695040888963407)) / 8589934592) 16777215), Bv false] [some (.box [slU8 false d.b, I d.i, .val (.int .u64 (IntKind.u64.wrap ((IntKind.u64.wrap (d.h * 6364136223846793005)) + 1442695040888963407)))])] [¬ (d.i < (d.b.length : Int))] (by kernel_rfl) ⟨h1, trivial⟩ ?_
     refine xe_then ?_
     refine x_false rfl ?_
     refine x_skip ?_
     refine xe_then ?_
     refine x_seq ?_
     refine x_reg [(2, .nn)] [4] [7002] [I ((bitsI .and .u64 ((IntKind.u64.wrap ((IntKind.u64.wrap (d.h * 6364136223846793005)) + 1442695040888963407)) / 8589934592) 16777215) % n)] [some (.box [slU8 false d.b, I d.i, .val (.int .u64 (IntKind.u64.wrap ((IntKind.u64.wrap (d.h * 6364136223846793005)) + 1442695040888963407)))])] [(0 : Int) ≤ (bitsI .and .u64 ((IntKind.u64.wrap ((IntKind.u64.wrap (d.h * 6364136223846793005)) + 1442695040888963407)) / 8589934592) 16777215) ∧ (0 : Int) < n] (by kernel_rfl) ⟨⟨(by omega), (by omega)⟩, trivial⟩ ?_
     refine xe_then ?_
     refine x_ret ?_
     refine xe_end (((bitsI .and .u64 ((IntKind.u64.wrap ((IntKind.u64.wrap (d.h * 6364136223846793005)) + 1442695040888963407)) / 8589934592) 16777215) % n), (f6dice.mk d.b d.i (IntKind.u64.wrap ((IntKind.u64.wrap (d.h * 6364136223846793005)) + 1442695040888963407)))) (show (0 ≤ ((bitsI .and .u64 ((IntKind.u64.wrap ((IntKind.u64.wrap (d.h * 6364136223846793005)) + 1442695040888963407)) / 8589934592) 16777215) % n) ∧ ((bitsI .and .u64 ((IntKind.u64.wrap ((IntKind.u64.wrap (d.h * 6364136223846793005)) + 1442695040888963407)) / 8589934592) 16777215) % n) < n) ∧ (okDice (f6dice.mk d.b d.i (IntKind.u64.wrap ((IntKind.u64.wrap (d.h * 6364136223846793005)) + 1442695040888963407)))) ∧ (True) from ⟨(by first | (exact ⟨Int.emod_nonneg _ (by omega), Int.emod_lt_of_pos _ (by omega)⟩) | exact hd | exact ⟨hd.1, (by dsimp only; omega), hd2⟩), (by first | (exact ⟨Int.emod_nonneg _ (by omega), Int.emod_lt_of_pos _ (by omega)⟩) | exact hd | exact ⟨hd.1, (by dsimp only; omega), hd2⟩), trivial⟩) (⟨.inl rfl, trivial⟩) (I ((bitsI .and .u64 ((IntKind.u64.wrap ((IntKind.u64.wrap (d.h * 6364136223846793005)) + 1442695040888963407)) / 8589934592) 16777215) % n)) (by kernel_rfl) (.inl rfl) (fun _ => rfl) (fun _ => trivial)
  obtain ⟨⟨v, d'⟩, ⟨hh0, hh1, _⟩, hc⟩ := hh
  exact ⟨v, d', hh0, hh1, hc⟩


theorem at_setS {α : Type} [Inhabited α] {xs : List α} {i : Nat} {y : α} (h : i < xs.length) : at_ (xs.set i y) i = y := by simp [at_, h]
section
variable {dx dy i k : Int} {xs ys : List Stroke}
theorem mvIn_next (e : ys = mvIn dx dy i.toNat k.toNat xs) (hk0 : 0 ≤ k) (hi : i.toNat < xs.length) (hk : k.toNat < (at_ xs i.toNat).Points.length) :
    ys.set i.toNat ⟨(at_ ys i.toNat).Points.set k.toNat ⟨(at_ (at_ ys i.toNat).Points k.toNat).X + dx, (at_ (at_ ys i.toNat).Points k.toNat).Y + dy, (at_ (at_ ys i.toNat).Points k.toNat).T⟩⟩ = mvIn dx dy i.toNat (k + 1).toNat xs := by
  have ek : (k + 1).toNat = k.toNat + 1 := by omega
  have hp : at_ (at_ ys i.toNat).Points k.toNat = at_ (at_ xs i.toNat).Points k.toNat := by rw [e, mvIn_at hi, mvTo_at hk]
  rw [hp, ek, mvIn_succ hi hk, ← e]; rfl
theorem mvIn_exit (e : ys = mvIn dx dy i.toNat k.toNat xs) (hi0 : 0 ≤ i) (hi : i.toNat < xs.length) (hk : (at_ xs i.toNat).Points.length ≤ k.toNat) : ys = mvFst dx dy (i + 1).toNat xs := by
  have ei : (i + 1).toNat = i.toNat + 1 := by omega
  rw [e, ei, mvIn_all hi hk]
theorem mvIn_pt (e : ys = mvIn dx dy i.toNat k.toNat xs) (hi : i.toNat < xs.length) (hk : k.toNat < (at_ xs i.toNat).Points.length) (hx : ∀ s ∈ xs, okStroke' s = true) :
    (0 ≤ (at_ (at_ ys i.toNat).Points k.toNat).X ∧ (at_ (at_ ys i.toNat).Points k.toNat).X ≤ 4095) ∧ (0 ≤ (at_ (at_ ys i.toNat).Points k.toNat).Y ∧ (at_ (at_ ys i.toNat).Points k.toNat).Y ≤ 4095) := by
  have hp : at_ (at_ ys i.toNat).Points k.toNat = at_ (at_ xs i.toNat).Points k.toNat := by rw [e, mvIn_at hi, mvTo_at hk]
  have := okP_iff.1 (okS_at (hx _ (at_mem hi)) hk)
  rw [hp]; exact ⟨this.1, this.2.1⟩
theorem mvIn_row (e : ys = mvIn dx dy i.toNat k.toNat xs) (hi : i.toNat < xs.length) : (at_ ys i.toNat).Points.length = (at_ xs i.toNat).Points.length := by rw [e, mvIn_at hi, mvTo_len]
theorem mv_hd {n : Nat} (hn : xs.length = n) (h : n = 0 ∨ (-4095 ≤ dx ∧ dx ≤ 4095 ∧ -4095 ≤ dy ∧ dy ≤ 4095)) : xs = [] ∨ (-4095 ≤ dx ∧ dx ≤ 4095 ∧ -4095 ≤ dy ∧ dy ≤ 4095) := by
  rcases h with h | h
  · left; exact List.eq_nil_of_length_eq_zero (by omega)
  · right; exact h
end
end Go.Proofs.Ytngmfpjhlcfapaa.Ax
