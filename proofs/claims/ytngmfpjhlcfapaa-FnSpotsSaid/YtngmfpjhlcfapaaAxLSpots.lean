/- The statement FnSpots: contracts of what it reaches, and its proof. No conditions. -/
import Derived.Test.YtngmfpjhlcfapaaAxLSpots1
namespace Go.Proofs.Ytngmfpjhlcfapaa.Ax
open Go.RowKit Go.ChangeShapes Go.WideShapes
set_option linter.unusedVariables false
set_option linter.unusedSimpArgs false


/-- The integer nearest to a quotient by a positive number, halves up. -/
def nearI (n d : Int) : Int := (2 * n + d) / (2 * d)
theorem near_spec (n : Int) {d : Int} (hd : 0 < d) : (d - (n - n / d * d) ≤ n - n / d * d → n / d + 1 = nearI n d) ∧ (¬ d - (n - n / d * d) ≤ n - n / d * d → n / d = nearI n d) := by
  have h1 := Int.mul_ediv_add_emod n d
  have h2 := Int.emod_nonneg n (b := d) (by omega)
  have h3 := Int.emod_lt_of_pos n hd
  unfold nearI
  generalize n / d = q at *
  generalize n % d = r at *
  have e0 : q * d = d * q := Int.mul_comm _ _
  have e3 : 2 * d * q = 2 * (d * q) := Int.mul_assoc _ _ _
  constructor
  · intro h
    have e : 2 * n + d = (2 * r - d) + 2 * d * (q + 1) := by rw [Int.mul_add, e3]; omega
    rw [e, Int.add_mul_ediv_left _ _ (by omega), Int.ediv_eq_zero_of_lt (by omega) (by omega)]; omega
  · intro h
    have e : 2 * n + d = (2 * r + d) + 2 * d * q := by rw [e3]; omega
    rw [e, Int.add_mul_ediv_left _ _ (by omega), Int.ediv_eq_zero_of_lt (by omega) (by omega)]; omega
theorem rest_bd (n : Int) {d : Int} (hd : 0 < d) : 0 ≤ n - n / d * d ∧ n - n / d * d < d := by
  have h1 := Int.mul_ediv_add_emod n d
  have h2 := Int.emod_nonneg n (b := d) (by omega)
  have h3 := Int.emod_lt_of_pos n hd
  rw [Int.mul_comm] at h1
  omega
theorem ediv_bd (n : Int) {d : Int} (hd : 0 < d) : -(n.natAbs : Int) ≤ n / d ∧ n / d ≤ (n.natAbs : Int) := by
  constructor
  · rw [Int.le_ediv_iff_mul_le hd]
    have : (n.natAbs : Int) * 1 ≤ (n.natAbs : Int) * d := Int.mul_le_mul_of_nonneg_left (by omega) (by omega)
    rw [Int.neg_mul]; omega
  · have h1 : (n.natAbs : Int) * 1 ≤ (n.natAbs : Int) * d := Int.mul_le_mul_of_nonneg_left (by omega) (by omega)
    have b : n / d < (n.natAbs : Int) + 1 := Int.ediv_lt_of_lt_mul hd (by rw [Int.add_mul, Int.one_mul]; omega)
    omega
theorem near_between {x r d : Int} (hd : 0 < d) (h0 : 0 ≤ r) (h1 : r ≤ d) : (0 ≤ x → 0 ≤ nearI (x * r) d ∧ nearI (x * r) d ≤ x) ∧ (x ≤ 0 → x ≤ nearI (x * r) d ∧ nearI (x * r) d ≤ 0) := by
  unfold nearI
  constructor
  · intro hx
    have a1 : x * r ≤ x * d := Int.mul_le_mul_of_nonneg_left h1 hx
    have a2 : 0 ≤ x * r := Int.mul_nonneg hx h0
    have e : (x + 1) * (2 * d) = 2 * (x * d) + 2 * d := by rw [Int.add_mul, Int.one_mul, Int.mul_left_comm]
    have b : (2 * (x * r) + d) / (2 * d) < x + 1 := Int.ediv_lt_of_lt_mul (by omega) (by rw [e]; omega)
    exact ⟨Int.ediv_nonneg (by omega) (by omega), by omega⟩
  · intro hx
    have a1 : x * d ≤ x * r := Int.mul_le_mul_of_nonpos_left hx h1
    have a2 : x * r ≤ 0 := Int.mul_nonpos_of_nonpos_of_nonneg hx h0
    have e : x * (2 * d) = 2 * (x * d) := Int.mul_left_comm _ _ _
    have b : (2 * (x * r) + d) / (2 * d) < 0 + 1 := Int.ediv_lt_of_lt_mul (by omega) (by omega)
    exact ⟨Int.le_ediv_of_mul_le (by omega) (by rw [e]; omega), by omega⟩
theorem near_zero {x d : Int} (hd : 0 < d) : nearI (x * 0) d = 0 := by
  have := near_between (x := x) hd (Int.le_refl 0) (by omega)
  simp only [nearI, Int.mul_zero, Int.zero_add]
  exact Int.ediv_eq_zero_of_lt (by omega) (by omega)
theorem near_full {x d : Int} (hd : 0 < d) : nearI (x * d) d = x := by
  have e : 2 * (x * d) + d = d + 2 * d * x := by rw [Int.mul_comm x d, Int.mul_assoc]; omega
  rw [nearI, e, Int.add_mul_ediv_left _ _ (by omega), Int.ediv_eq_zero_of_lt (by omega) (by omega)]; omega
theorem mulP_bd {x y A B : Int} (h0 : 0 ≤ x) (h1 : x ≤ A) (h2 : 0 ≤ y) (h3 : y ≤ B) : 0 ≤ x * y ∧ x * y ≤ A * B :=
  ⟨Int.mul_nonneg h0 h2, Int.mul_le_mul h1 h3 h2 (by omega)⟩
theorem mulS_bd {x y A B : Int} (h0 : -A ≤ x) (h1 : x ≤ A) (h2 : 0 ≤ y) (h3 : y ≤ B) : -(A * B) ≤ x * y ∧ x * y ≤ A * B := by
  rcases Int.le_total 0 x with h | h
  · have := mulP_bd h h1 h2 h3; omega
  · have := mulP_bd (x := -x) (by omega) (by omega : -x ≤ A) h2 h3
    rw [Int.neg_mul] at this; omega

-- impl.nearestDiv
theorem nearestDiv_ok (n : Int) (d : Int) (hn : (-1000000000000000000 ≤ n ∧ n ≤ 1000000000000000000) ∧ 0 < d ∧ d ≤ 1000000000000000000) : Con Try.prog 34 [I n, I d] true (I (nearI n d)) := by
  have hs := near_spec n hn.2.1
  have hrb := rest_bd n hn.2.1
  have heb := ediv_bd n hn.2.1
  refine fn_ok (fn := Try.f34) (nt := 23) Try.func34 rfl rfl rfl rfl (by simp [taggedL, tagged]) fun B hB => ?_
  refine aw_seq ?_
  refine aw_reg [] [0, 1] [] [I n, I d] [] [] (by kernel_rfl) hB trivial ?_
  refine ae_then ?_
  refine aw_seq ?_
  refine aw_reg [(2, .call [(true, I n), (true, I d)] true (I (n / d)))] [0, 1, 5] [] [I n, I d, I (n / d)] [] [Con Try.prog 61 [I n, I d] true (I (n / d)) ∧ ((I n : AV) = I n) ∧ ((I d : AV) = I d) ∧ True] (by kernel_rfl) hB ⟨⟨(floorDiv_ok n d (by omega)), rfl, rfl, trivial⟩, trivial⟩ ?_
  refine ae_then ?_
  refine aw_seq ?_
  refine aw_seq ?_
  refine aw_reg [] [1, 5, 6] [] [I d, I (n / d), I (n - ((n / d) * d))] [] [inR .i64 ((n / d) * d), inR .i64 (n - ((n / d) * d))] (by kernel_rfl) hB ⟨(inR_i64 (by omega) (by omega)), (inR_i64 (by omega) (by omega)), trivial⟩ ?_
  refine ae_then ?_
  refine aw_seq ?_
  by_cases h1 : (d - (n - ((n / d) * d))) ≤ (n - ((n / d) * d))
  ·refine aw_reg [(4, .dec true)] [5, 19] [] [I (n / d), Bv true] [] [inR .i64 (d - (n - ((n / d) * d))), (d - (n - ((n / d) * d))) ≤ (n - ((n / d) * d))] (by kernel_rfl) hB ⟨(inR_i64 (by omega) (by omega)), h1, trivial⟩ ?_
   refine ae_then ?_
   refine aw_true rfl ?_
   refine aw_reg [] [5] [] [I ((n / d) + 1)] [] [inR .i64 ((n / d) + 1)] (by kernel_rfl) hB ⟨(inR_i64 (by omega) (by omega)), trivial⟩ ?_
   refine ae_then ?_
   refine aw_seq ?_
   refine aw_reg [] [4] [] [I ((n / d) + 1)] [] [] (by kernel_rfl) hB trivial ?_
   refine ae_then ?_
   refine aw_ret ?_
   refine ae_ret hB (I ((n / d) + 1)) (by kernel_rfl) (.inl (by refine congrArg I ?_; first | exact hs.1 (by assumption) | exact hs.2 (by assumption))) rfl (fun _ => trivial)
  ·refine aw_reg [(4, .dec false)] [5, 19] [] [I (n / d), Bv false] [] [inR .i64 (d - (n - ((n / d) * d))), ¬ ((d - (n - ((n / d) * d))) ≤ (n - ((n / d) * d)))] (by kernel_rfl) hB ⟨(inR_i64 (by omega) (by omega)), h1, trivial⟩ ?_
   refine ae_then ?_
   refine aw_false rfl ?_
   refine aw_skip ?_
   refine ae_then ?_
   refine aw_seq ?_
   refine aw_reg [] [4] [] [I (n / d)] [] [] (by kernel_rfl) hB trivial ?_
   refine ae_then ?_
   refine aw_ret ?_
   refine ae_ret hB (I (n / d)) (by kernel_rfl) (.inl (by refine congrArg I ?_; first | exact hs.1 (by assumption) | exact hs.2 (by assumption))) rfl (fun _ => trivial)


-- impl.firstOf
theorem firstOf_ok (s : Stroke) (ok : okStroke' s = true) : Con Try.prog 59 [.agg [slPoint false s.Points]] true (agPoint (at_ s.Points 0)) := by
  have hln := okS_len ok
  refine fn_ok (fn := Try.f59) (nt := 7) Try.func59 rfl rfl rfl rfl (by simp [taggedL, tagged, tagPoint]) fun B hB => ?_
  refine aw_lens (x := .agg [slPoint false s.Points]) 0 rfl (fun len_s => ?_)
  simp [LenOK, LenL, cPoint, fPoint, slPoint] at len_s
  refine aw_seq ?_
  refine aw_reg [(0, .new 1), (1, .new 2)] [1, 2] [1, 2] [.ref 1 0, .ref 2 0] [some (.box [slPoint false s.Points]), some (.box [I 0, I 0, I 0])] [] (by kernel_rfl) hB trivial ?_
  refine ae_then ?_
  refine aw_seq ?_
  refine aw_reg [] [2] [2] [.ref 2 0] [some (bxPoint (at_ s.Points 0))] [(0 : Int) ≤ 0 ∧ 0 < (s.Points.length : Int)] (by kernel_rfl) hB ⟨⟨(by omega), (by omega)⟩, trivial⟩ ?_
  refine ae_then ?_
  refine aw_ret ?_
  refine ae_ret hB (agPoint (at_ s.Points 0)) (by kernel_rfl) (.inl rfl) rfl (fun _ => (by simp [tagged, taggedL]))


/-- The first number below n that p holds of, or -1. -/
def firstN (n : Nat) (p : Nat → Bool) : Int := match (List.range n).find? p with
  | some i => i
  | none => -1
theorem firstN_hit {n : Nat} {p : Nat → Bool} {k : Nat} (hk : k < n) (hp : p k = true) (hn : ∀ i, i < k → p i = false) : firstN n p = k := by
  have h : (List.range n).find? p = some k := by
    rw [List.find?_range_eq_some]
    exact ⟨hp, List.mem_range.2 hk, fun j hj => by simpa using hn j hj⟩
  simp [firstN, h]
theorem firstN_none {n : Nat} {p : Nat → Bool} (hn : ∀ i, i < n → p i = false) : firstN n p = -1 := by
  have h : (List.range n).find? p = none := by
    rw [List.find?_range_eq_none]
    intro i hi; simpa using hn i hi
  simp [firstN, h]
theorem firstN_cases (n : Nat) (p : Nat → Bool) : (firstN n p = -1 ∧ ∀ i, i < n → p i = false) ∨ ∃ k : Nat, firstN n p = k ∧ k < n ∧ p k = true ∧ ∀ i, i < k → p i = false := by
  by_cases h : ∃ k, k < n ∧ p k = true
  · right
    obtain ⟨k, hk, hp⟩ := h
    cases e : (List.range n).find? p with
    | none => rw [List.find?_range_eq_none] at e; exact absurd hp (by simpa using e k hk)
    | some i =>
      have e' := e
      rw [List.find?_range_eq_some] at e
      exact ⟨i, by simp [firstN, e'], List.mem_range.1 e.2.1, e.1, fun j hj => by simpa using e.2.2 j hj⟩
  · left
    have h' : ∀ i, i < n → p i = false := fun i hi => by rw [← Bool.not_eq_true]; exact fun hp => h ⟨i, hi, hp⟩
    exact ⟨firstN_none h', h'⟩
theorem firstN_any (n : Nat) (p : Nat → Bool) : decide (0 ≤ firstN n p) = anyN n p := by
  rcases firstN_cases n p with ⟨h1, h2⟩ | ⟨k, h1, h2, h3, _⟩
  · rw [h1, anyN_none h2]; decide
  · rw [h1, anyN_at h2 h3]; simp

def joinB (a b : Box) : Box := ⟨min a.X1 b.X1, min a.Y1 b.Y1, max a.X2 b.X2, max a.Y2 b.Y2⟩
def ptB (p : Point) : Box := ⟨p.X, p.Y, p.X, p.Y⟩
/-- The box of the first point and the first k points. -/
def boxS (xs : List Point) : Nat → Box
  | 0 => ptB (at_ xs 0)
  | k + 1 => joinB (boxS xs k) (ptB (at_ xs k))
theorem boxS_succ {xs : List Point} {i : Int} (h : 0 ≤ i) : boxS xs (i + 1).toNat = joinB (boxS xs i.toNat) (ptB (at_ xs i.toNat)) := by
  have : (i + 1).toNat = i.toNat + 1 := by omega
  rw [this]; rfl
theorem boxS_one (xs : List Point) : boxS xs 1 = ptB (at_ xs 0) := by simp [boxS, joinB, ptB]
/-- A box that is one. -/
def okBox (b : Box) : Prop := (0 ≤ b.X1 ∧ b.X1 ≤ b.X2 ∧ b.X2 ≤ 4095) ∧ 0 ≤ b.Y1 ∧ b.Y1 ≤ b.Y2 ∧ b.Y2 ≤ 4095
theorem joinB_ok {a b : Box} (ha : okBox a) (hb : okBox b) : okBox (joinB a b) := by unfold okBox joinB at *; simp only; omega
theorem ptB_ok {p : Point} (h : okP p = true) : okBox (ptB p) := by have := okP_iff.1 h; unfold okBox ptB; simp only; omega
theorem boxS_ok {s : Stroke} (ok : okStroke' s = true) : ∀ k : Nat, k ≤ s.Points.length → okBox (boxS s.Points k)
  | 0, _ => ptB_ok (okS_at ok (by have := okS_len ok; omega))
  | k + 1, h => joinB_ok (boxS_ok ok k (by omega)) (ptB_ok (okS_at ok (by omega)))
theorem boxS_all {s : Stroke} (ok : okStroke' s = true) : okBox (boxS s.Points s.Points.length) := boxS_ok ok _ (Nat.le_refl _)

/-- The length up to the k-th point. -/
def arcI (s : Stroke) (k : Nat) : Int := sumS s.Points (k + 1)
/-- Whether the place looked for is on the segment ahead of the k-th point, at the latest. -/
def stopB (s : Stroke) (part parts : Int) (k : Nat) : Bool := decide (1 ≤ k) && (!decide (arcI s k = arcI s (k - 1)) && !decide (arcI s k * parts < arcI s (s.Points.length - 1) * part))
def spotK (s : Stroke) (part parts : Int) (k : Nat) : Spot :=
  ⟨(at_ s.Points (k - 1)).X + nearI (((at_ s.Points k).X - (at_ s.Points (k - 1)).X) * (arcI s (s.Points.length - 1) * part - arcI s (k - 1) * parts)) ((arcI s k - arcI s (k - 1)) * parts),
   (at_ s.Points (k - 1)).Y + nearI (((at_ s.Points k).Y - (at_ s.Points (k - 1)).Y) * (arcI s (s.Points.length - 1) * part - arcI s (k - 1) * parts)) ((arcI s k - arcI s (k - 1)) * parts)⟩
/-- The place at a part of the length. -/
def spotI (s : Stroke) (part parts : Int) : Spot :=
  let k := firstN s.Points.length (stopB s part parts)
  if k < 0 then ⟨(at_ s.Points 0).X, (at_ s.Points 0).Y⟩ else spotK s part parts k.toNat
theorem spotI_at {s : Stroke} {part parts : Int} {k : Nat} (hk : k < s.Points.length) (h : stopB s part parts k = true) (hn : ∀ j, j < k → stopB s part parts j = false) : spotI s part parts = spotK s part parts k := by
  have e := firstN_hit hk h hn
  simp only [spotI, e]
  rw [if_neg (by omega)]; rfl
theorem spotI_none {s : Stroke} {part parts : Int} (hn : ∀ j, j < s.Points.length → stopB s part parts j = false) : spotI s part parts = ⟨(at_ s.Points 0).X, (at_ s.Points 0).Y⟩ := by
  have e := firstN_none hn
  simp only [spotI, e]; rfl
theorem arcI_step {s : Stroke} {k : Nat} (h : 1 ≤ k) : arcI s k = arcI s (k - 1) + segI (at_ s.Points (k - 1)) (at_ s.Points k) := by
  obtain ⟨m, rfl⟩ : ∃ m, k = m + 1 := ⟨k - 1, by omega⟩
  show sumS s.Points (m + 1 + 1) = sumS s.Points (m + 1) + _
  conv => lhs; rw [sumS]
  rw [if_neg (by omega)]
theorem arcI_zero (s : Stroke) : arcI s 0 = 0 := by simp [arcI, sumS]
theorem arcI_bd {s : Stroke} (ok : okStroke' s = true) {k : Nat} (h : k < s.Points.length) : 0 ≤ arcI s k ∧ arcI s k ≤ 5559540 := by
  have h1 := sumS_bd ok (k + 1) h
  have h2 := okS_len ok
  unfold arcI; omega
theorem arcI_up {s : Stroke} (ok : okStroke' s = true) {k : Nat} (h : k < s.Points.length) (h1 : 1 ≤ k) : arcI s (k - 1) ≤ arcI s k := by
  have := segI_bd (okS_at ok (j := k - 1) (by omega)) (okS_at ok (j := k) (by omega))
  rw [arcI_step h1]; omega
theorem arcI_mono {s : Stroke} (ok : okStroke' s = true) {m : Nat} : ∀ k, m ≤ k → k < s.Points.length → arcI s m ≤ arcI s k := by
  intro k hm hk
  induction k with
  | zero => have : m = 0 := by omega
            subst this; exact Int.le_refl _
  | succ k ih =>
    by_cases e : m = k + 1
    · subst e; exact Int.le_refl _
    · have a := ih (by omega) (by omega)
      have b := arcI_up ok (k := k + 1) hk (by omega)
      simp only [Nat.add_sub_cancel] at b
      omega
theorem stop_iff {s : Stroke} {part parts : Int} {k : Nat} : stopB s part parts k = true ↔ 1 ≤ k ∧ arcI s k ≠ arcI s (k - 1) ∧ ¬ arcI s k * parts < arcI s (s.Points.length - 1) * part := by simp [stopB]
theorem stop_no {s : Stroke} {part parts : Int} {k : Nat} (h : ¬ (1 ≤ k ∧ arcI s k ≠ arcI s (k - 1) ∧ ¬ arcI s k * parts < arcI s (s.Points.length - 1) * part)) : stopB s part parts k = false := by
  rw [← Bool.not_eq_true, stop_iff]; exact h
section
variable {s : Stroke} {part parts : Int}
theorem behind (ok : okStroke' s = true) (hp : 0 ≤ part) : ∀ k, k < s.Points.length → (∀ j, j ≤ k → stopB s part parts j = false) → arcI s k * parts ≤ arcI s (s.Points.length - 1) * part
  | 0, h, _ => by
    have h1 := (arcI_bd ok (k := s.Points.length - 1) (by omega)).1
    rw [arcI_zero, Int.zero_mul]
    exact Int.mul_nonneg h1 hp
  | k + 1, h, hn => by
    have ih := behind ok hp k (by omega) (fun j hj => hn j (by omega))
    have h1 := hn (k + 1) (Nat.le_refl _)
    rw [← Bool.not_eq_true, stop_iff] at h1
    by_cases e : arcI s (k + 1) = arcI s k
    · rw [e]; exact ih
    · apply Int.le_of_lt
      apply Classical.byContradiction
      intro hc
      exact h1 ⟨by omega, e, hc⟩
/-- How far the place is along its segment. -/
theorem spot_rest (ok : okStroke' s = true) (hp : 0 ≤ part ∧ 1 ≤ parts) {k : Nat} (hk : k < s.Points.length) (h : stopB s part parts k = true) (hn : ∀ j, j < k → stopB s part parts j = false) :
    (0 ≤ arcI s (s.Points.length - 1) * part - arcI s (k - 1) * parts ∧ arcI s (s.Points.length - 1) * part - arcI s (k - 1) * parts ≤ (arcI s k - arcI s (k - 1)) * parts) ∧ 0 < (arcI s k - arcI s (k - 1)) * parts := by
  obtain ⟨h1, h2, h3⟩ := stop_iff.1 h
  have a := behind ok hp.1 (k - 1) (by omega) (fun j hj => hn j (by omega))
  have b := arcI_up ok hk h1
  have c : 0 < (arcI s k - arcI s (k - 1)) * parts := Int.mul_pos (by omega) (by omega)
  have e : (arcI s k - arcI s (k - 1)) * parts = arcI s k * parts - arcI s (k - 1) * parts := Int.sub_mul _ _ _
  omega
theorem box_has (xs : List Point) : ∀ n j, j < n → (boxS xs n).X1 ≤ (at_ xs j).X ∧ (at_ xs j).X ≤ (boxS xs n).X2 ∧ (boxS xs n).Y1 ≤ (at_ xs j).Y ∧ (at_ xs j).Y ≤ (boxS xs n).Y2
  | n + 1, j, h => by
    simp only [boxS, joinB, ptB]
    by_cases e : j = n
    · subst e; omega
    · have := box_has xs n j (by omega); omega
/-- Places lie in the box. -/
theorem spot_in (ok : okStroke' s = true) (hp : 0 ≤ part ∧ 1 ≤ parts) :
    (boxS s.Points s.Points.length).X1 ≤ (spotI s part parts).X ∧ (spotI s part parts).X ≤ (boxS s.Points s.Points.length).X2 ∧ (boxS s.Points s.Points.length).Y1 ≤ (spotI s part parts).Y ∧ (spotI s part parts).Y ≤ (boxS s.Points s.Points.length).Y2 := by
  have hl := okS_len ok
  rcases firstN_cases s.Points.length (stopB s part parts) with ⟨_, h⟩ | ⟨k, _, hk, hs, hn⟩
  · rw [spotI_none h]; exact box_has s.Points _ 0 (by omega)
  · rw [spotI_at hk hs hn]
    have h1 := (stop_iff.1 hs).1
    have hr := spot_rest ok hp hk hs hn
    have b0 := box_has s.Points s.Points.length (k - 1) (by omega)
    have b1 := box_has s.Points s.Points.length k hk
    have nx := near_between (x := (at_ s.Points k).X - (at_ s.Points (k - 1)).X) hr.2 hr.1.1 hr.1.2
    have ny := near_between (x := (at_ s.Points k).Y - (at_ s.Points (k - 1)).Y) hr.2 hr.1.1 hr.1.2
    simp only [spotK]
    omega
theorem rootI_zero {n : Int} (h0 : 0 ≤ n) (h : rootI n = 0) : n = 0 := by
  have hs := rootN_spec n.toNat
  unfold rootI at h
  have e : rootN n.toNat = 0 := by omega
  rw [e] at hs
  omega
theorem seg_zero {a b : Point} (ha : okP a = true) (hb : okP b = true) (h : segI a b = 0) : a.X = b.X ∧ a.Y = b.Y := by
  have h1 := far_bd ha hb
  unfold segI at h
  have h2 := rootI_zero (by unfold farI; omega) h
  unfold farI at h2
  have hx : (a.X - b.X) * (a.X - b.X) = 0 := by omega
  have hy : (a.Y - b.Y) * (a.Y - b.Y) = 0 := by omega
  have hx' : a.X - b.X = 0 := by rcases Int.mul_eq_zero.1 hx with h | h <;> exact h
  have hy' : a.Y - b.Y = 0 := by rcases Int.mul_eq_zero.1 hy with h | h <;> exact h
  omega
/-- Between two points with no length between them nothing moves. -/
theorem arc_same (ok : okStroke' s = true) {m : Nat} : ∀ k, m ≤ k → k < s.Points.length → arcI s k = arcI s m → (at_ s.Points k).X = (at_ s.Points m).X ∧ (at_ s.Points k).Y = (at_ s.Points m).Y := by
  intro k hm hk he
  induction k with
  | zero => have : m = 0 := by omega
            subst this; exact ⟨rfl, rfl⟩
  | succ k ih =>
    by_cases e : m = k + 1
    · subst e; exact ⟨rfl, rfl⟩
    · have a := arcI_mono ok (m := m) k (by omega) (by omega)
      have b := arcI_step (s := s) (k := k + 1) (by omega)
      have c := segI_bd (okS_at ok (j := k) (by omega)) (okS_at ok (j := k + 1) hk)
      simp only [Nat.add_sub_cancel] at b
      have d := ih (by omega) (by omega) (by omega)
      have f := seg_zero (okS_at ok (j := k) (by omega)) (okS_at ok (j := k + 1) hk) (by omega)
      omega
/-- The first place is the first point's. -/
theorem spot_first (ok : okStroke' s = true) (hp : 1 ≤ parts) : spotI s 0 parts = ⟨(at_ s.Points 0).X, (at_ s.Points 0).Y⟩ := by
  rcases firstN_cases s.Points.length (stopB s 0 parts) with ⟨_, h⟩ | ⟨k, _, hk, hs, hn⟩
  · exact spotI_none h
  · rw [spotI_at hk hs hn]
    have h1 := (stop_iff.1 hs).1
    have hr := spot_rest ok ⟨Int.le_refl 0, hp⟩ hk hs hn
    have ha := (arcI_bd ok (k := k - 1) (by omega)).1
    have h0 : arcI s (k - 1) * parts = 0 := by
      have := Int.mul_nonneg ha (by omega : (0 : Int) ≤ parts)
      have := hr.1.1
      rw [Int.mul_zero] at this; omega
    have hz : arcI s (k - 1) = 0 := by
      rcases Int.mul_eq_zero.1 h0 with h | h
      · exact h
      · omega
    have hsame := arc_same ok (m := 0) (k - 1) (by omega) (by omega) (by rw [hz, arcI_zero])
    simp only [spotK]
    rw [h0, Int.mul_zero, Int.sub_zero, near_zero hr.2, near_zero hr.2, hsame.1, hsame.2]
    simp
/-- The last place is the last point's. -/
theorem spot_last (ok : okStroke' s = true) (hp : 1 ≤ parts) : spotI s parts parts = ⟨(at_ s.Points (s.Points.length - 1)).X, (at_ s.Points (s.Points.length - 1)).Y⟩ := by
  have hl := okS_len ok
  rcases firstN_cases s.Points.length (stopB s parts parts) with ⟨_, h⟩ | ⟨k, _, hk, hs, hn⟩
  · rw [spotI_none h]
    have hz : ∀ k, k < s.Points.length → arcI s k = 0 := by
      have hb := behind ok (by omega : 0 ≤ parts) (parts := parts)
      intro k hk
      induction k with
      | zero => exact arcI_zero s
      | succ k ih =>
        have ih := ih (by omega)
        have h1 := h (k + 1) hk
        rw [← Bool.not_eq_true, stop_iff] at h1
        apply Classical.byContradiction
        intro hc
        -- the last length change is at a point that reaches the end
        have hup := arcI_mono ok (m := k + 1) (s.Points.length - 1) (by omega) (by omega)
        have hpos := (arcI_bd ok (k := k + 1) hk).1
        -- least point whose length is the whole one
        have : ∃ q, q < s.Points.length ∧ arcI s q = arcI s (s.Points.length - 1) ∧ 1 ≤ q ∧ arcI s q ≠ arcI s (q - 1) := by
          have hne : ∀ m, m < s.Points.length → arcI s m = arcI s (s.Points.length - 1) → ∃ q, q < s.Points.length ∧ arcI s q = arcI s (s.Points.length - 1) ∧ 1 ≤ q ∧ arcI s q ≠ arcI s (q - 1) := by
            intro m
            induction m with
            | zero => intro _ h2; rw [arcI_zero] at h2; omega
            | succ m ihm =>
              intro hm h2
              by_cases e : arcI s (m + 1) = arcI s m
              · exact ihm (by omega) (by rw [← e]; exact h2)
              · exact ⟨m + 1, hm, h2, by omega, e⟩
          exact hne (s.Points.length - 1) (by omega) rfl
        obtain ⟨q, q1, q2, q3, q4⟩ := this
        have h3 := h q q1
        rw [← Bool.not_eq_true, stop_iff, q2] at h3
        exact h3 ⟨q3, by rw [← q2]; exact q4, Int.lt_irrefl _⟩
    have := arc_same ok (m := 0) (s.Points.length - 1) (by omega) (by omega) (by rw [hz _ (by omega), arcI_zero])
    rw [this.1, this.2]
  · rw [spotI_at hk hs hn]
    have h1 := stop_iff.1 hs
    have hr := spot_rest ok (by omega) hk hs hn
    have hm := arcI_mono ok (m := k) (s.Points.length - 1) (by omega) (by omega)
    have he : arcI s (s.Points.length - 1) = arcI s k := by
      apply Classical.byContradiction
      intro hc
      exact h1.2.2 (Int.mul_lt_mul_of_pos_right (by omega) (by omega))
    have hsame := arc_same ok (m := k) (s.Points.length - 1) (by omega) (by omega) he
    have e : arcI s (s.Points.length - 1) * parts - arcI s (k - 1) * parts = (arcI s k - arcI s (k - 1)) * parts := by rw [he, Int.sub_mul]
    simp only [spotK]
    rw [e, near_full hr.2, near_full hr.2, hsame.1, hsame.2]
    simp only [Spot.mk.injEq]; omega
end

-- impl.spotOf
theorem spotOf_ok (p : Point) : Con Try.prog 70 [agPoint p] true (.agg [I p.X, I p.Y]) := by
  refine fn_ok (fn := Try.f70) (nt := 8) Try.func70 rfl rfl rfl rfl (by simp [taggedL, tagged]) fun B hB => ?_
  refine aw_seq ?_
  refine aw_reg [(0, .new 1), (1, .new 2)] [1, 2] [1, 2] [.ref 1 0, .ref 2 0] [some (bxPoint p), some (.box [I 0, I 0])] [] (by kernel_rfl) hB trivial ?_
  refine ae_then ?_
  refine aw_seq ?_
  refine aw_reg [] [2] [2] [.ref 2 0] [some (.box [I p.X, I p.Y])] [] (by kernel_rfl) hB trivial ?_
  refine ae_then ?_
  refine aw_ret ?_
  refine ae_ret hB (.agg [I p.X, I p.Y]) (by kernel_rfl) (.inl rfl) rfl (fun _ => (by simp [tagged, taggedL]))


-- impl.spotAt
theorem spotAt_ok (s : Stroke) (arcs : List Int) (part : Int) (parts : Int) (ok : okStroke' s = true) (ha : arcs = arcsL s.Points s.Points.length) (hp : (0 ≤ part ∧ part ≤ parts) ∧ (1 ≤ parts ∧ parts ≤ 1000)) : Con Try.prog 50 [.agg [slPoint false s.Points], slI false arcs, I part, I parts] true (.agg [I ((spotI s part parts).X), I ((spotI s part parts).Y)]) := by
  have hln := okS_len ok
  have hal : arcs.length = s.Points.length := by rw [ha, arcsL_len]
  have hat : ∀ j, j < s.Points.length → at_ arcs j = arcI s j := by intro j hj; rw [ha]; exact arcsL_at hj
  have e0 : at_ arcs ((arcs.length : Int) - 1).toNat = arcI s (s.Points.length - 1) := (hat _ (by omega)).trans (by congr 1; omega)
  have hb0 := arcI_bd ok (k := s.Points.length - 1) (by omega)
  rw [← e0] at hb0
  have hm0 := mulP_bd hb0.1 hb0.2 hp.1.1 (by omega : part ≤ 1000)
  refine fn_ok (fn := Try.f50) (nt := 103) Try.func50 rfl rfl rfl rfl (by simp [taggedL, tagged, tagI, tagPoint]) fun B hB => ?_
  refine aw_lens (x := .agg [slPoint false s.Points]) 0 rfl (fun len_s => ?_)
  simp [LenOK, LenL, cPoint, fPoint, slPoint] at len_s
  refine aw_lens (x := slI false arcs) 1 rfl (fun len_arcs => ?_)
  simp [LenOK, LenL, cI, fI, slI] at len_arcs
  refine aw_seq ?_
  refine aw_reg [(0, .new 4), (1, .new 8)] [1, 2, 3, 4, 8] [4, 8] [slI false arcs, I part, I parts, .ref 4 0, .ref 8 0] [some (.box [slPoint false s.Points]), some (.box [I 0, I 0])] [] (by kernel_rfl) hB trivial ?_
  refine ae_then ?_
  refine aw_seq ?_
  refine aw_reg [] [1, 3, 4, 8, 9] [4, 8] [slI false arcs, I parts, .ref 4 0, .ref 8 0, I ((at_ arcs (((arcs.length : Int) - 1).toNat)) * part)] [some (.box [slPoint false s.Points]), some (.box [I 0, I 0])] [inR .i64 ((arcs.length : Int) - 1), (0 : Int) ≤ ((arcs.length : Int) - 1) ∧ ((arcs.length : Int) - 1) < (arcs.length : Int), inR .i64 ((at_ arcs (((arcs.length : Int) - 1).toNat)) * part)] (by kernel_rfl) hB ⟨(inR_i64 (by omega) (by omega)), ⟨(by omega), (by omega)⟩, (inR_i64 (by omega) (by omega)), trivial⟩ ?_
  refine ae_then ?_
  refine aw_seq ?_
  refine aw_seq ?_
  refine aw_reg [] [1, 3, 4, 8, 9, 10] [4, 8] [slI false arcs, I parts, .ref 4 0, .ref 8 0, I ((at_ arcs (((arcs.length : Int) - 1).toNat)) * part), I 1] [some (.box [slPoint false s.Points]), some (.box [I 0, I 0])] [] (by kernel_rfl) hB trivial ?_
  refine ae_then ?_
  refine aw_block ?_
  refine aw_loop (fun gn gσ => ∃ (k : Int) (b8_0 : Int) (b8_1 : Int), gn = ((arcs.length : Int) - k).toNat ∧ (1 ≤ k ∧ k ≤ (arcs.length : Int)) ∧ (∀ j : Nat, (j : Int) < k → stopB s part parts j = false) ∧ gσ = mkS [(1, slI false arcs), (3, I parts), (4, .ref 4 0), (8, .ref 8 0), (9, I ((at_ arcs (((arcs.length : Int) - 1).toNat)) * part)), (10, I k)] [(4, .box [slPoint false s.Points]), (8, .box [I b8_0, I b8_1])]) (((arcs.length : Int) - 1).toNat) ⟨1, 0, 0, rfl, (by omega), (by intro j hj; exact stop_no (fun q => by omega)), rfl⟩ (fun gn gσ hI => ?_)
  obtain ⟨k, b8_0, b8_1, rfl, hi0, hn0, rfl⟩ := hI
  refine aw_seq ?_
  refine aw_seq ?_
  by_cases h1 : k < (arcs.length : Int)
  ·have hi : k.toNat < s.Points.length := by omega
   have ei : (k - 1).toNat = k.toNat - 1 := by omega
   have e1 := hat k.toNat hi
   have e2 : at_ arcs (k - 1).toNat = arcI s (k.toNat - 1) := (hat _ (by omega)).trans (by rw [ei])
   have hb1 := arcI_bd ok hi
   have hb2 := arcI_bd ok (k := k.toNat - 1) (by omega)
   have hup := arcI_up ok hi (by omega)
   rw [← e1] at hb1
   rw [← e2] at hb2
   rw [← e1, ← e2] at hup
   have hm1 := mulP_bd hb1.1 hb1.2 (by omega : 0 ≤ parts) hp.2.2
   have hm2 := mulP_bd hb2.1 hb2.2 (by omega : 0 ≤ parts) hp.2.2
   have hm3 := mulP_bd (x := at_ arcs k.toNat - at_ arcs (k - 1).toNat) (A := 5559540) (by omega) (by omega) (by omega : 0 ≤ parts) hp.2.2
   refine aw_reg [(3, .dec true)] [1, 3, 4, 8, 9, 10, 27] [4, 8] [slI false arcs, I parts, .ref 4 0, .ref 8 0, I ((at_ arcs (((arcs.length : Int) - 1).toNat)) * part), I k, Bv true] [some (.box [slPoint false s.Points]), some (.box [I b8_0, I b8_1])] [k < (arcs.length : Int)] (by kernel_rfl) hB ⟨h1, trivial⟩ ?_
   refine ae_then ?_
   refine aw_true rfl ?_
   refine aw_skip ?_
   refine ae_then ?_
   refine aw_seq ?_
   refine aw_block ?_
   refine aw_seq ?_
   refine aw_reg [] [1, 3, 4, 8, 9, 10, 11] [4, 8] [slI false arcs, I parts, .ref 4 0, .ref 8 0, I ((at_ arcs (((arcs.length : Int) - 1).toNat)) * part), I k, I ((at_ arcs k.toNat) - (at_ arcs ((k - 1).toNat)))] [some (.box [slPoint false s.Points]), some (.box [I b8_0, I b8_1])] [(0 : Int) ≤ k ∧ k < (arcs.length : Int), inR .i64 (k - 1), (0 : Int) ≤ (k - 1) ∧ (k - 1) < (arcs.length : Int), inR .i64 ((at_ arcs k.toNat) - (at_ arcs ((k - 1).toNat)))] (by kernel_rfl) hB ⟨⟨(by omega), (by omega)⟩, (inR_i64 (by omega) (by omega)), ⟨(by omega), (by omega)⟩, (inR_i64 (by omega) (by omega)), trivial⟩ ?_
   refine ae_then ?_
   refine aw_seq ?_
   refine aw_seq ?_
   by_cases h2 : ((at_ arcs k.toNat) - (at_ arcs ((k - 1).toNat))) = 0
   ·have hst : stopB s part parts k.toNat = false := stop_no (by rintro ⟨_, q, _⟩; rw [← e1, ← e2] at q; omega)
    refine aw_reg [(1, .dec true)] [1, 3, 4, 8, 9, 10, 11, 51] [4, 8] [slI false arcs, I parts, .ref 4 0, .ref 8 0, I ((at_ arcs (((arcs.length : Int) - 1).toNat)) * part), I k, I ((at_ arcs k.toNat) - (at_ arcs ((k - 1).toNat))), Bv true] [some (.box [slPoint false s.Points]), some (.box [I b8_0, I b8_1])] [((at_ arcs k.toNat) - (at_ arcs ((k - 1).toNat))) = 0] (by kernel_rfl) hB ⟨h2, trivial⟩ ?_
    refine ae_then ?_
    refine aw_true rfl ?_
    refine aw_exit ?_
    refine ae_exit_then ?_
    refine ae_exit_same ?_
    refine ae_then ?_
    refine aw_reg [] [1, 3, 4, 8, 9, 10] [4, 8] [slI false arcs, I parts, .ref 4 0, .ref 8 0, I ((at_ arcs (((arcs.length : Int) - 1).toNat)) * part), I (k + 1)] [some (.box [slPoint false s.Points]), some (.box [I b8_0, I b8_1])] [inR .i64 (k + 1)] (by kernel_rfl) hB ⟨(inR_i64 (by omega) (by omega)), trivial⟩ ?_
    exact ae_again _ (by omega) ⟨(k + 1), b8_0, b8_1, rfl, (by omega), (by exact up_to (n := 0) (by omega) hn0 hst), rfl⟩
   ·by_cases h3 : ((at_ arcs k.toNat) * parts) < ((at_ arcs (((arcs.length : Int) - 1).toNat)) * part)
    ·have hst : stopB s part parts k.toNat = false := stop_no (by rintro ⟨_, _, q⟩; rw [← e1, ← e0] at q; omega)
     refine aw_reg [(1, .dec false), (10, .dec true)] [1, 3, 4, 8, 9, 10, 11, 51] [4, 8] [slI false arcs, I parts, .ref 4 0, .ref 8 0, I ((at_ arcs (((arcs.length : Int) - 1).toNat)) * part), I k, I ((at_ arcs k.toNat) - (at_ arcs ((k - 1).toNat))), Bv true] [some (.box [slPoint false s.Points]), some (.box [I b8_0, I b8_1])] [¬ (((at_ arcs k.toNat) - (at_ arcs ((k - 1).toNat))) = 0), (0 : Int) ≤ k ∧ k < (arcs.length : Int), inR .i64 ((at_ arcs k.toNat) * parts), ((at_ arcs k.toNat) * parts) < ((at_ arcs (((arcs.length : Int) - 1).toNat)) * part)] (by kernel_rfl) hB ⟨h2, ⟨(by omega), (by omega)⟩, (inR_i64 (by omega) (by omega)), h3, trivial⟩ ?_
     refine ae_then ?_
     refine aw_true rfl ?_
     refine aw_exit ?_
     refine ae_exit_then ?_
     refine ae_exit_same ?_
     refine ae_then ?_
     refine aw_reg [] [1, 3, 4, 8, 9, 10] [4, 8] [slI false arcs, I parts, .ref 4 0, .ref 8 0, I ((at_ arcs (((arcs.length : Int) - 1).toNat)) * part), I (k + 1)] [some (.box [slPoint false s.Points]), some (.box [I b8_0, I b8_1])] [inR .i64 (k + 1)] (by kernel_rfl) hB ⟨(inR_i64 (by omega) (by omega)), trivial⟩ ?_
     exact ae_again _ (by omega) ⟨(k + 1), b8_0, b8_1, rfl, (by omega), (by exact up_to (n := 0) (by omega) hn0 hst), rfl⟩
    ·have hst : stopB s part parts k.toNat = true := stop_iff.2 (by rw [← e1, ← e0, ← e2]; omega)
     have hn1 : ∀ j, j < k.toNat → stopB s part parts j = false := fun j hj => hn0 j (by omega)
     have hr := spot_rest ok (by omega) hi hst hn1
     rw [← e0, ← e1, ← e2] at hr
     have hpa := okP_iff.1 (okS_at ok (j := (k - 1).toNat) (by omega))
     have hpb := okP_iff.1 (okS_at ok hi)
     have hmx := mulS_bd (x := (at_ s.Points k.toNat).X - (at_ s.Points (k - 1).toNat).X) (A := 4095) (B := 5559540000) (by omega) (by omega) hr.1.1 (by omega)
     have hmy := mulS_bd (x := (at_ s.Points k.toNat).Y - (at_ s.Points (k - 1).toNat).Y) (A := 4095) (B := 5559540000) (by omega) (by omega) hr.1.1 (by omega)
     have hnx := near_between (x := (at_ s.Points k.toNat).X - (at_ s.Points (k - 1).toNat).X) hr.2 hr.1.1 hr.1.2
     have hny := near_between (x := (at_ s.Points k.toNat).Y - (at_ s.Points (k - 1).toNat).Y) hr.2 hr.1.1 hr.1.2
     have hsp := spotI_at hi hst hn1
     refine aw_reg [(1, .dec false), (10, .dec false)] [1, 3, 4, 8, 9, 10, 11, 51] [4, 8] [slI false arcs, I parts, .ref 4 0, .ref 8 0, I ((at_ arcs (((arcs.length : Int) - 1).toNat)) * part), I k, I ((at_ arcs k.toNat) - (at_ arcs ((k - 1).toNat))), Bv false] [some (.box [slPoint false s.Points]), some (.box [I b8_0, I b8_1])] [¬ (((at_ arcs k.toNat) - (at_ arcs ((k - 1).toNat))) = 0), (0 : Int) ≤ k ∧ k < (arcs.length : Int), inR .i64 ((at_ arcs k.toNat) * parts), ¬ (((at_ arcs k.toNat) * parts) < ((at_ arcs (((arcs.length : Int) - 1).toNat)) * part))] (by kernel_rfl) hB ⟨h2, ⟨(by omega), (by omega)⟩, (inR_i64 (by omega) (by omega)), h3, trivial⟩ ?_
     refine ae_then ?_
     refine aw_false rfl ?_
     refine aw_skip ?_
     refine ae_then ?_
     refine aw_seq ?_
     refine aw_reg [(11, .new 12), (12, .new 13)] [1, 3, 8, 9, 10, 11, 12, 13] [8, 12, 13] [slI false arcs, I parts, .ref 8 0, I ((at_ arcs (((arcs.length : Int) - 1).toNat)) * part), I k, I ((at_ arcs k.toNat) - (at_ arcs ((k - 1).toNat))), .ref 12 0, .ref 13 0] [some (.box [I b8_0, I b8_1]), some (bxPoint (at_ s.Points ((k - 1).toNat))), some (bxPoint (at_ s.Points k.toNat))] [inR .i64 (k - 1), (0 : Int) ≤ (k - 1) ∧ (k - 1) < (s.Points.length : Int), (0 : Int) ≤ k ∧ k < (s.Points.length : Int)] (by kernel_rfl) hB ⟨(inR_i64 (by omega) (by omega)), ⟨(by omega), (by omega)⟩, ⟨(by omega), (by omega)⟩, trivial⟩ ?_
     refine ae_then ?_
     refine aw_seq ?_
     refine aw_reg [] [8, 12, 13, 14, 15] [8, 12, 13] [.ref 8 0, .ref 12 0, .ref 13 0, I (((at_ arcs (((arcs.length : Int) - 1).toNat)) * part) - ((at_ arcs ((k - 1).toNat)) * parts)), I (((at_ arcs k.toNat) - (at_ arcs ((k - 1).toNat))) * parts)] [some (.box [I b8_0, I b8_1]), some (bxPoint (at_ s.Points ((k - 1).toNat))), some (bxPoint (at_ s.Points k.toNat))] [inR .i64 (k - 1), (0 : Int) ≤ (k - 1) ∧ (k - 1) < (arcs.length : Int), inR .i64 ((at_ arcs ((k - 1).toNat)) * parts), inR .i64 (((at_ arcs (((arcs.length : Int) - 1).toNat)) * part) - ((at_ arcs ((k - 1).toNat)) * parts)), inR .i64 (((at_ arcs k.toNat) - (at_ arcs ((k - 1).toNat))) * parts)] (by kernel_rfl) hB ⟨(inR_i64 (by omega) (by omega)), ⟨(by omega), (by omega)⟩, (inR_i64 (by omega) (by omega)), (inR_i64 (by omega) (by omega)), (inR_i64 (by omega) (by omega)), trivial⟩ ?_
     refine ae_then ?_
     refine aw_seq ?_
     refine aw_reg [(10, .call [(true, I ((((at_ s.Points k.toNat).X) - ((at_ s.Points ((k - 1).toNat)).X)) * (((at_ arcs (((arcs.length : Int) - 1).toNat)) * part) - ((at_ arcs ((k - 1).toNat)) * parts)))), (true, I (((at_ arcs k.toNat) - (at_ arcs ((k - 1).toNat))) * parts))] true (I (nearI ((((at_ s.Points k.toNat).X) - ((at_ s.Points ((k - 1).toNat)).X)) * (((at_ arcs (((arcs.length : Int) - 1).toNat)) * part) - ((at_ arcs ((k - 1).toNat)) * parts))) (((at_ arcs k.toNat) - (at_ arcs ((k - 1).toNat))) * parts)))), (22, .call [(true, I ((((at_ s.Points k.toNat).Y) - ((at_ s.Points ((k - 1).toNat)).Y)) * (((at_ arcs (((arcs.length : Int) - 1).toNat)) * part) - ((at_ arcs ((k - 1).toNat)) * parts)))), (true, I (((at_ arcs k.toNat) - (at_ arcs ((k - 1).toNat))) * parts))] true (I (nearI ((((at_ s.Points k.toNat).Y) - ((at_ s.Points ((k - 1).toNat)).Y)) * (((at_ arcs (((arcs.length : Int) - 1).toNat)) * part) - ((at_ arcs ((k - 1).toNat)) * parts))) (((at_ arcs k.toNat) - (at_ arcs ((k - 1).toNat))) * parts))))] [8] [8] [.ref 8 0] [some (.box [I (((at_ s.Points ((k - 1).toNat)).X) + (nearI ((((at_ s.Points k.toNat).X) - ((at_ s.Points ((k - 1).toNat)).X)) * (((at_ arcs (((arcs.length : Int) - 1).toNat)) * part) - ((at_ arcs ((k - 1).toNat)) * parts))) (((at_ arcs k.toNat) - (at_ arcs ((k - 1).toNat))) * parts))), I (((at_ s.Points ((k - 1).toNat)).Y) + (nearI ((((at_ s.Points k.toNat).Y) - ((at_ s.Points ((k - 1).toNat)).Y)) * (((at_ arcs (((arcs.length : Int) - 1).toNat)) * part) - ((at_ arcs ((k - 1).toNat)) * parts))) (((at_ arcs k.toNat) - (at_ arcs ((k - 1).toNat))) * parts)))])] [inR .i64 (((at_ s.Points k.toNat).X) - ((at_ s.Points ((k - 1).toNat)).X)), inR .i64 ((((at_ s.Points k.toNat).X) - ((at_ s.Points ((k - 1).toNat)).X)) * (((at_ arcs (((arcs.length : Int) - 1).toNat)) * part) - ((at_ arcs ((k - 1).toNat)) * parts))), Con Try.prog 34 [I ((((at_ s.Points k.toNat).X) - ((at_ s.Points ((k - 1).toNat)).X)) * (((at_ arcs (((arcs.length : Int) - 1).toNat)) * part) - ((at_ arcs ((k - 1).toNat)) * parts))), I (((at_ arcs k.toNat) - (at_ arcs ((k - 1).toNat))) * parts)] true (I (nearI ((((at_ s.Points k.toNat).X) - ((at_ s.Points ((k - 1).toNat)).X)) * (((at_ arcs (((arcs.length : Int) - 1).toNat)) * part) - ((at_ arcs ((k - 1).toNat)) * parts))) (((at_ arcs k.toNat) - (at_ arcs ((k - 1).toNat))) * parts))) ∧ ((I ((((at_ s.Points k.toNat).X) - ((at_ s.Points ((k - 1).toNat)).X)) * (((at_ arcs (((arcs.length : Int) - 1).toNat)) * part) - ((at_ arcs ((k - 1).toNat)) * parts))) : AV) = I ((((at_ s.Points k.toNat).X) - ((at_ s.Points ((k - 1).toNat)).X)) * (((at_ arcs (((arcs.length : Int) - 1).toNat)) * part) - ((at_ arcs ((k - 1).toNat)) * parts)))) ∧ ((I (((at_ arcs k.toNat) - (at_ arcs ((k - 1).toNat))) * parts) : AV) = I (((at_ arcs k.toNat) - (at_ arcs ((k - 1).toNat))) * parts)) ∧ True, inR .i64 (((at_ s.Points ((k - 1).toNat)).X) + (nearI ((((at_ s.Points k.toNat).X) - ((at_ s.Points ((k - 1).toNat)).X)) * (((at_ arcs (((arcs.length : Int) - 1).toNat)) * part) - ((at_ arcs ((k - 1).toNat)) * parts))) (((at_ arcs k.toNat) - (at_ arcs ((k - 1).toNat))) * parts))), inR .i64 (((at_ s.Points k.toNat).Y) - ((at_ s.Points ((k - 1).toNat)).Y)), inR .i64 ((((at_ s.Points k.toNat).Y) - ((at_ s.Points ((k - 1).toNat)).Y)) * (((at_ arcs (((arcs.length : Int) - 1).toNat)) * part) - ((at_ arcs ((k - 1).toNat)) * parts))), Con Try.prog 34 [I ((((at_ s.Points k.toNat).Y) - ((at_ s.Points ((k - 1).toNat)).Y)) * (((at_ arcs (((arcs.length : Int) - 1).toNat)) * part) - ((at_ arcs ((k - 1).toNat)) * parts))), I (((at_ arcs k.toNat) - (at_ arcs ((k - 1).toNat))) * parts)] true (I (nearI ((((at_ s.Points k.toNat).Y) - ((at_ s.Points ((k - 1).toNat)).Y)) * (((at_ arcs (((arcs.length : Int) - 1).toNat)) * part) - ((at_ arcs ((k - 1).toNat)) * parts))) (((at_ arcs k.toNat) - (at_ arcs ((k - 1).toNat))) * parts))) ∧ ((I ((((at_ s.Points k.toNat).Y) - ((at_ s.Points ((k - 1).toNat)).Y)) * (((at_ arcs (((arcs.length : Int) - 1).toNat)) * part) - ((at_ arcs ((k - 1).toNat)) * parts))) : AV) = I ((((at_ s.Points k.toNat).Y) - ((at_ s.Points ((k - 1).toNat)).Y)) * (((at_ arcs (((arcs.length : Int) - 1).toNat)) * part) - ((at_ arcs ((k - 1).toNat)) * parts)))) ∧ ((I (((at_ arcs k.toNat) - (at_ arcs ((k - 1).toNat))) * parts) : AV) = I (((at_ arcs k.toNat) - (at_ arcs ((k - 1).toNat))) * parts)) ∧ True, inR .i64 (((at_ s.Points ((k - 1).toNat)).Y) + (nearI ((((at_ s.Points k.toNat).Y) - ((at_ s.Points ((k - 1).toNat)).Y)) * (((at_ arcs (((arcs.length : Int) - 1).toNat)) * part) - ((at_ arcs ((k - 1).toNat)) * parts))) (((at_ arcs k.toNat) - (at_ arcs ((k - 1).toNat))) * parts)))] (by kernel_rfl) hB ⟨(inR_i64 (by omega) (by omega)), (inR_i64 (by omega) (by omega)), ⟨(nearestDiv_ok ((((at_ s.Points k.toNat).X) - ((at_ s.Points ((k - 1).toNat)).X)) * (((at_ arcs (((arcs.length : Int) - 1).toNat)) * part) - ((at_ arcs ((k - 1).toNat)) * parts))) (((at_ arcs k.toNat) - (at_ arcs ((k - 1).toNat))) * parts) (by omega)), rfl, rfl, trivial⟩, (inR_i64 (by omega) (by omega)), (inR_i64 (by omega) (by omega)), (inR_i64 (by omega) (by omega)), ⟨(nearestDiv_ok ((((at_ s.Points k.toNat).Y) - ((at_ s.Points ((k - 1).toNat)).Y)) * (((at_ arcs (((arcs.length : Int) - 1).toNat)) * part) - ((at_ arcs ((k - 1).toNat)) * parts))) (((at_ arcs k.toNat) - (at_ arcs ((k - 1).toNat))) * parts) (by omega)), rfl, rfl, trivial⟩, (inR_i64 (by omega) (by omega)), trivial⟩ ?_
     refine ae_then ?_
     refine aw_ret ?_
     refine ae_ret_block (ae_ret_then (ae_ret_then (ae_ret_block (ae_ret_then ?_))))
     refine ae_ret hB (.agg [I (((at_ s.Points ((k - 1).toNat)).X) + (nearI ((((at_ s.Points k.toNat).X) - ((at_ s.Points ((k - 1).toNat)).X)) * (((at_ arcs (((arcs.length : Int) - 1).toNat)) * part) - ((at_ arcs ((k - 1).toNat)) * parts))) (((at_ arcs k.toNat) - (at_ arcs ((k - 1).toNat))) * parts))), I (((at_ s.Points ((k - 1).toNat)).Y) + (nearI ((((at_ s.Points k.toNat).Y) - ((at_ s.Points ((k - 1).toNat)).Y)) * (((at_ arcs (((arcs.length : Int) - 1).toNat)) * part) - ((at_ arcs ((k - 1).toNat)) * parts))) (((at_ arcs k.toNat) - (at_ arcs ((k - 1).toNat))) * parts)))]) (by kernel_rfl) (.inl (by first | (rw [hnone]; done) | (rw [hnone]; rfl) | (rw [hsp]; simp only [spotK, e0, e1, e2]; simp only [ei]))) rfl (fun _ => (by simp [tagged, taggedL]))
  ·have hnone := spotI_none (s := s) (part := part) (parts := parts) (fun j hj => hn0 j (by omega))
   refine aw_reg [(3, .dec false)] [1, 3, 4, 8, 9, 10, 27] [4, 8] [slI false arcs, I parts, .ref 4 0, .ref 8 0, I ((at_ arcs (((arcs.length : Int) - 1).toNat)) * part), I k, Bv false] [some (.box [slPoint false s.Points]), some (.box [I b8_0, I b8_1])] [¬ (k < (arcs.length : Int))] (by kernel_rfl) hB ⟨h1, trivial⟩ ?_
   refine ae_then ?_
   refine aw_false rfl ?_
   refine aw_exit ?_
   refine ae_exit_then ?_
   refine ae_exit_then ?_
   refine ae_exit_same ?_
   refine ae_then ?_
   refine aw_seq ?_
   refine aw_reg [(1, .call [(true, .agg [slPoint false s.Points])] true (agPoint (at_ s.Points 0))), (2, .call [(true, agPoint (at_ s.Points 0))] true (.agg [I ((at_ s.Points 0).X), I ((at_ s.Points 0).Y)]))] [8] [8] [.ref 8 0] [some (.box [I ((at_ s.Points 0).X), I ((at_ s.Points 0).Y)])] [Con Try.prog 59 [.agg [slPoint false s.Points]] true (agPoint (at_ s.Points 0)) ∧ ((.agg [slPoint false s.Points] : AV) = .agg [slPoint false s.Points]) ∧ True, Con Try.prog 70 [agPoint (at_ s.Points 0)] true (.agg [I ((at_ s.Points 0).X), I ((at_ s.Points 0).Y)]) ∧ ((agPoint (at_ s.Points 0) : AV) = agPoint (at_ s.Points 0)) ∧ True] (by kernel_rfl) hB ⟨⟨(firstOf_ok s ok), rfl, trivial⟩, ⟨(spotOf_ok (at_ s.Points 0)), rfl, trivial⟩, trivial⟩ ?_
   refine ae_then ?_
   refine aw_ret ?_
   refine ae_ret hB (.agg [I ((at_ s.Points 0).X), I ((at_ s.Points 0).Y)]) (by kernel_rfl) (.inl (by first | (rw [hnone]; done) | (rw [hnone]; rfl) | (rw [hsp]; simp only [spotK, e0, e1, e2]; simp only [ei]))) rfl (fun _ => (by simp [tagged, taggedL]))


def spotR (s : Stroke) (part parts : Int) : Spot × Int := if okStroke' s = true then (if inB parts 1 1000 = true ∧ inB part 0 parts = true then (spotI s part parts, 0) else (⟨0, 0⟩, 2)) else (⟨0, 0⟩, 1)
/-- The first k of n places at equal distances. -/
def resK (s : Stroke) (n : Int) (k : Nat) : List Spot := (List.range k).map fun j : Nat => spotI s (j : Int) (n - 1)
def resQ (s : Stroke) (n : Int) : List Spot := resK s n n.toNat
def resR (s : Stroke) (n : Int) : List Spot × Int := if okStroke' s = true then (if inB n 2 24 = true then (resQ s n, 0) else ([], 2)) else ([], 1)
theorem resK_succ {s : Stroke} {n k : Int} (h : 0 ≤ k) : resK s n (k + 1).toNat = resK s n k.toNat ++ [spotI s k (n - 1)] := by
  have e : (k + 1).toNat = k.toNat + 1 := by omega
  have e2 : ((k.toNat : Nat) : Int) = k := by omega
  rw [e]; simp [resK, List.range_succ, e2]
theorem spot_ext {a b : Spot} (h1 : a.X = b.X) (h2 : a.Y = b.Y) : a = b := by
  cases a; cases b; simp_all
theorem resR_no {s : Stroke} {n : Int} (h : okStroke' s = false) : resR s n = ([], 1) := by simp [resR, h]
theorem resR_rng {s : Stroke} {n : Int} (h : okStroke' s = true) (h2 : inB n 2 24 = false) : resR s n = ([], 2) := by simp [resR, h, h2]
theorem resR_yes {s : Stroke} {n : Int} (h : okStroke' s = true) (h2 : inB n 2 24 = true) : resR s n = (resQ s n, 0) := by simp [resR, h, h2]
theorem resQ_len (s : Stroke) (n : Int) : (resQ s n).length = n.toNat := by simp [resQ, resK]
theorem resQ_at {s : Stroke} {n : Int} {j : Nat} (h : j < n.toNat) : at_ (resQ s n) j = spotI s j (n - 1) := by simp [at_, resQ, resK, h]
def boxR (s : Stroke) : Box × Int := if okStroke' s = true then (boxS s.Points s.Points.length, 0) else (⟨0, 0, 0, 0⟩, 1)
def sameL {α : Type} [Inhabited α] [DecidableEq α] (a b : List α) : Bool := decide (a.length = b.length) && allN a.length (fun j => decide (at_ a j = at_ b j))
theorem sameL_refl {α : Type} [Inhabited α] [DecidableEq α] (a : List α) : sameL a a = true := by simp [sameL, allN_iff]

-- impl.resample
theorem resample_ok (s : Stroke) (n : Int) (ok : okStroke' s = true) (hn : 2 ≤ n ∧ n ≤ 24) : Con Try.prog 46 [.agg [slPoint false s.Points], I n] true (slSpot true (resQ s n)) := by
  refine fn_ok (fn := Try.f46) (nt := 25) Try.func46 rfl rfl rfl rfl (by simp [taggedL, tagged, tagPoint]) fun B hB => ?_
  refine aw_lens (x := .agg [slPoint false s.Points]) 0 rfl (fun len_s => ?_)
  simp [LenOK, LenL, cPoint, fPoint, slPoint] at len_s
  refine aw_seq ?_
  refine aw_reg [(0, .new 2)] [1, 2] [2] [I n, .ref 2 0] [some (.box [slPoint false s.Points])] [] (by kernel_rfl) hB trivial ?_
  refine ae_then ?_
  refine aw_seq ?_
  refine aw_reg [(1, .call [(true, .agg [slPoint false s.Points])] true (slI true (arcsL s.Points s.Points.length)))] [1, 2, 5] [2] [I n, .ref 2 0, slI true (arcsL s.Points s.Points.length)] [some (.box [slPoint false s.Points])] [Con Try.prog 51 [.agg [slPoint false s.Points]] true (slI true (arcsL s.Points s.Points.length)) ∧ ((.agg [slPoint false s.Points] : AV) = .agg [slPoint false s.Points]) ∧ True] (by kernel_rfl) hB ⟨⟨(arcsOf_ok s ok), rfl, trivial⟩, trivial⟩ ?_
  refine ae_then ?_
  refine aw_seq ?_
  refine aw_reg [] [1, 2, 5, 6] [2] [I n, .ref 2 0, slI true (arcsL s.Points s.Points.length), nilA] [some (.box [slPoint false s.Points])] [] (by kernel_rfl) hB trivial ?_
  refine ae_then ?_
  refine aw_seq ?_
  refine aw_seq ?_
  refine aw_reg [] [1, 2, 5, 6, 7] [2] [I n, .ref 2 0, slI true (arcsL s.Points s.Points.length), nilA, I 0] [some (.box [slPoint false s.Points])] [] (by kernel_rfl) hB trivial ?_
  refine ae_then ?_
  refine aw_block ?_
  refine aw_nil hB 6 706 2 (fun _ => []) (by kernel_rfl) ?_
  refine aw_weak hB [] (T := [(1, I n), (2, .ref 2 0), (5, slI true (arcsL s.Points s.Points.length)), (6, .arr 706), (7, I 0)]) (O := [(2, .box [slPoint false s.Points]), (706, .arr 2 (([] : List Spot).length) (fSpot ([] : List Spot)))]) rfl (⟨.inl rfl, .inl rfl, .inl rfl, .inl rfl, .inl rfl, trivial⟩) (⟨.inl rfl, .inr ⟨rfl, (by first | rfl | (simp; done) | (simp; omega) | omega), fun i hi => absurd hi (Nat.not_lt_zero _)⟩, trivial⟩) ?_
  refine aw_loop (fun gn gσ => ∃ (list : List Spot) (k : Int), gn = (n - k).toNat ∧ (0 ≤ k ∧ k ≤ n) ∧ ((list.length : Int) = k) ∧ (list = resK s n k.toNat) ∧ gσ = mkS [(1, I n), (2, .ref 2 0), (5, slI true (arcsL s.Points s.Points.length)), (6, .arr 706), (7, I k)] [(2, .box [slPoint false s.Points]), (706, .arr 2 list.length (fSpot list))]) ((n - 0).toNat) ⟨([] : List Spot), 0, rfl, (by omega), (by rfl), (by rfl), rfl⟩ (fun gn gσ hI => ?_)
  obtain ⟨list, k, rfl, hk0, hll, hl0, rfl⟩ := hI
  refine aw_seq ?_
  refine aw_seq ?_
  by_cases h1 : k < n
  ·refine aw_reg [(2, .dec true)] [1, 2, 5, 6, 7, 12] [2, 706] [I n, .ref 2 0, slI true (arcsL s.Points s.Points.length), .arr 706, I k, Bv true] [some (.box [slPoint false s.Points]), some (.arr 2 list.length (fSpot list))] [k < n] (by kernel_rfl) hB ⟨h1, trivial⟩ ?_
   refine ae_then ?_
   refine aw_true rfl ?_
   refine aw_skip ?_
   refine ae_then ?_
   refine aw_seq ?_
   refine aw_block ?_
   refine aw_reg [(6, .call [(true, .agg [slPoint false s.Points]), (false, slI false (arcsL s.Points s.Points.length)), (true, I k), (true, I (n - 1))] true (.agg [I ((spotI s k (n - 1)).X), I ((spotI s k (n - 1)).Y)])), (7, .new 22), (8, .new 23)] [1, 2, 5, 6, 7] [2, 23] [I n, .ref 2 0, slI true (arcsL s.Points s.Points.length), .arr 23, I k] [some (.box [slPoint false s.Points]), some (.arr 2 (list.length + 1) (catF list.length (fSpot list) (litF [I ((spotI s k (n - 1)).X), I ((spotI s k (n - 1)).Y)] 2)))] [inR .i64 (n - 1), Con Try.prog 50 [.agg [slPoint false s.Points], slI false (arcsL s.Points s.Points.length), I k, I (n - 1)] true (.agg [I ((spotI s k (n - 1)).X), I ((spotI s k (n - 1)).Y)]) ∧ ((.agg [slPoint false s.Points] : AV) = .agg [slPoint false s.Points]) ∧ ((false = true → true = true) ∧ 1 = 1 ∧ ((arcsL s.Points s.Points.length).length) = ((arcsL s.Points s.Points.length).length) ∧ ∀ i, i < ((arcsL s.Points s.Points.length).length) → (fI (arcsL s.Points s.Points.length)) i = (fI (arcsL s.Points s.Points.length)) i ∨ (AV.idsL ((fI (arcsL s.Points s.Points.length)) i) = [] ∧ leL (fun _ => none) false ((fI (arcsL s.Points s.Points.length)) i) ((fI (arcsL s.Points s.Points.length)) i))) ∧ ((I k : AV) = I k) ∧ ((I (n - 1) : AV) = I (n - 1)) ∧ True, (list.length + 1) * 16 ≤ 140737488355328] (by kernel_rfl) hB ⟨(inR_i64 (by omega) (by omega)), ⟨(spotAt_ok s (arcsL s.Points s.Points.length) k (n - 1) ok (by first | rfl | assumption) (by omega)), rfl, ⟨(fun h => by cases h), rfl, rfl, fun i _ => .inl rfl⟩, rfl, rfl, trivial⟩, (by omega), trivial⟩ ?_
   refine ae_block 1 ?_
   refine ae_then ?_
   refine aw_reg [] [1, 2, 5, 6, 7] [2, 23] [I n, .ref 2 0, slI true (arcsL s.Points s.Points.length), .arr 23, I (k + 1)] [some (.box [slPoint false s.Points]), some (.arr 2 (list.length + 1) (catF list.length (fSpot list) (litF [I ((spotI s k (n - 1)).X), I ((spotI s k (n - 1)).Y)] 2)))] [inR .i64 (k + 1)] (by kernel_rfl) hB ⟨(inR_i64 (by omega) (by omega)), trivial⟩ ?_
   refine ae_weak hB [(706, 23)] (T := [(1, I n), (2, .ref 2 0), (5, slI true (arcsL s.Points s.Points.length)), (6, .arr 706), (7, I (k + 1))]) (O := [(2, .box [slPoint false s.Points]), (706, .arr 2 ((list ++ [(spotI s k (n - 1))]).length) (fSpot (list ++ [(spotI s k (n - 1))])))]) rfl (⟨.inl rfl, .inl rfl, .inl rfl, .inl rfl, .inl rfl, trivial⟩) (⟨.inl rfl, .inr ⟨rfl, (by first | rfl | (simp; done) | (simp; omega) | omega), fun i hi => .inl (cat_snoc (enc := cSpot) (xs := list) rfl i hi)⟩, trivial⟩) (ae_again _ (by omega) ⟨(list ++ [(spotI s k (n - 1))]), (k + 1), rfl, (by omega), (by simp; omega), (by rw [resK_succ (by omega), ← hl0]), rfl⟩)
  ·have hke : k.toNat = n.toNat := by omega
   rw [hke] at hl0
   have hl1 : list = resQ s n := hl0
   clear hl0
   subst hl1
   refine aw_reg [(2, .dec false)] [1, 2, 5, 6, 7, 12] [2, 706] [I n, .ref 2 0, slI true (arcsL s.Points s.Points.length), .arr 706, I k, Bv false] [some (.box [slPoint false s.Points]), some (.arr 2 ((resQ s n).length) (fSpot (resQ s n)))] [¬ (k < n)] (by kernel_rfl) hB ⟨h1, trivial⟩ ?_
   refine ae_then ?_
   refine aw_false rfl ?_
   refine aw_exit ?_
   refine ae_exit_then ?_
   refine ae_exit_then ?_
   refine ae_exit_same ?_
   refine ae_then ?_
   refine aw_seq ?_
   refine aw_reg [] [4] [706] [.arr 706] [some (.arr 2 ((resQ s n).length) (fSpot (resQ s n)))] [] (by kernel_rfl) hB trivial ?_
   refine ae_then ?_
   refine aw_ret ?_
   refine ae_ret hB (.arr 706) (by kernel_rfl) (.inr ⟨(fun _ => rfl), rfl, rfl, fun i _ => .inl rfl⟩) rfl (fun _ => (tagSpot true _))


-- impl.Resample
theorem implResample_ok (s : Stroke) (n : Int) : Con Try.prog 18 [.agg [slPoint false s.Points], I n] true (.tup [slSpot true ((resR s n).1), I ((resR s n).2)]) := by
  refine fn_ok (fn := Try.f18) (nt := 15) Try.func18 rfl rfl rfl rfl (by simp [taggedL, tagged, tagPoint]) fun B hB => ?_
  refine aw_lens (x := .agg [slPoint false s.Points]) 0 rfl (fun len_s => ?_)
  simp [LenOK, LenL, cPoint, fPoint, slPoint] at len_s
  refine aw_seq ?_
  refine aw_reg [(0, .new 2)] [1, 2] [2] [I n, .ref 2 0] [some (.box [slPoint false s.Points])] [] (by kernel_rfl) hB trivial ?_
  refine ae_then ?_
  refine aw_seq ?_
  refine aw_seq ?_
  rcases Bool.eq_false_or_eq_true (okStroke' s) with h1 | h1
  ·refine aw_reg [(1, .call [(true, .agg [slPoint false s.Points])] true (Bv true))] [1, 2, 8] [2] [I n, .ref 2 0, Bv false] [some (.box [slPoint false s.Points])] [Con Try.prog 45 [.agg [slPoint false s.Points]] true (Bv true) ∧ ((.agg [slPoint false s.Points] : AV) = .agg [slPoint false s.Points]) ∧ True] (by kernel_rfl) hB ⟨⟨(con_bool h1 (ValidStroke_ok s)), rfl, trivial⟩, trivial⟩ ?_
   refine ae_then ?_
   refine aw_false rfl ?_
   refine aw_skip ?_
   refine ae_then ?_
   refine aw_seq ?_
   refine aw_seq ?_
   rcases Bool.eq_false_or_eq_true (inB n 2 24) with h2 | h2
   ·have hq2 := inB_iff.1 h2
    rw [resR_yes h1 h2]
    refine aw_reg [(1, .call [(true, I n), (true, I 2), (true, I 24)] true (Bv true))] [1, 2, 11] [2] [I n, .ref 2 0, Bv false] [some (.box [slPoint false s.Points])] [Con Try.prog 30 [I n, I 2, I 24] true (Bv true) ∧ ((I n : AV) = I n) ∧ ((I 2 : AV) = I 2) ∧ ((I 24 : AV) = I 24) ∧ True] (by kernel_rfl) hB ⟨⟨(con_bool h2 (within_ok n 2 24)), rfl, rfl, rfl, trivial⟩, trivial⟩ ?_
    refine ae_then ?_
    refine aw_false rfl ?_
    refine aw_skip ?_
    refine ae_then ?_
    refine aw_seq ?_
    refine aw_reg [(2, .call [(true, .agg [slPoint false s.Points]), (true, I n)] true (slSpot true (resQ s n)))] [4, 5] [] [slSpot true (resQ s n), I 0] [] [Con Try.prog 46 [.agg [slPoint false s.Points], I n] true (slSpot true (resQ s n)) ∧ ((.agg [slPoint false s.Points] : AV) = .agg [slPoint false s.Points]) ∧ ((I n : AV) = I n) ∧ True] (by kernel_rfl) hB ⟨⟨(resample_ok s n (by assumption) (by omega)), rfl, rfl, trivial⟩, trivial⟩ ?_
    refine ae_then ?_
    refine aw_ret ?_
    refine ae_ret hB (.tup [slSpot true (resQ s n), I 0]) (by kernel_rfl) (.inr ⟨⟨(fun _ => rfl), rfl, (by first | rfl | (simp; done) | (simp; omega) | omega), fun i hi => .inl (by first | rfl | fail)⟩, ⟨(by first | rfl | (simp [valOf]; done) | (simp [valOf]; omega)), rfl⟩⟩) rfl (fun _ => (by simp [tagged, taggedL, tagSpot]))
   ·rw [resR_rng h1 h2]
    refine aw_reg [(1, .call [(true, I n), (true, I 2), (true, I 24)] true (Bv false))] [1, 2, 11] [2] [I n, .ref 2 0, Bv true] [some (.box [slPoint false s.Points])] [Con Try.prog 30 [I n, I 2, I 24] true (Bv false) ∧ ((I n : AV) = I n) ∧ ((I 2 : AV) = I 2) ∧ ((I 24 : AV) = I 24) ∧ True] (by kernel_rfl) hB ⟨⟨(con_bool h2 (within_ok n 2 24)), rfl, rfl, rfl, trivial⟩, trivial⟩ ?_
    refine ae_then ?_
    refine aw_true rfl ?_
    refine aw_seq ?_
    refine aw_reg [] [4, 5] [] [nilA, I 2] [] [] (by kernel_rfl) hB trivial ?_
    refine ae_then ?_
    refine aw_ret ?_
    refine ae_ret_then ?_
    refine ae_ret hB (.tup [nilA, I 2]) (by kernel_rfl) (.inr ⟨⟨(by simp), rfl⟩, ⟨(by first | rfl | (simp [valOf]; done) | (simp [valOf]; omega)), rfl⟩⟩) rfl (fun _ => (by simp [tagged, taggedL, tagSpot]))
  ·rw [resR_no h1]
   refine aw_reg [(1, .call [(true, .agg [slPoint false s.Points])] true (Bv false))] [1, 2, 8] [2] [I n, .ref 2 0, Bv true] [some (.box [slPoint false s.Points])] [Con Try.prog 45 [.agg [slPoint false s.Points]] true (Bv false) ∧ ((.agg [slPoint false s.Points] : AV) = .agg [slPoint false s.Points]) ∧ True] (by kernel_rfl) hB ⟨⟨(con_bool h1 (ValidStroke_ok s)), rfl, trivial⟩, trivial⟩ ?_
   refine ae_then ?_
   refine aw_true rfl ?_
   refine aw_seq ?_
   refine aw_reg [] [4, 5] [] [nilA, I 1] [] [] (by kernel_rfl) hB trivial ?_
   refine ae_then ?_
   refine aw_ret ?_
   refine ae_ret_then ?_
   refine ae_ret hB (.tup [nilA, I 1]) (by kernel_rfl) (.inr ⟨⟨(by simp), rfl⟩, ⟨(by first | rfl | (simp [valOf]; done) | (simp [valOf]; omega)), rfl⟩⟩) rfl (fun _ => (by simp [tagged, taggedL, tagSpot]))


-- spec.l00In
theorem l00In_ok (n : Int) (low : Int) (high : Int) : Con Try.prog 36 [I n, I low, I high] true (Bv (inB n low high)) := by
  refine fn_ok (fn := Try.f36) (nt := 15) Try.func36 rfl rfl rfl rfl (by simp [taggedL, tagged]) fun B hB => ?_
  refine aw_seq ?_
  refine aw_reg [] [0, 1, 2] [] [I n, I low, I high] [] [] (by kernel_rfl) hB trivial ?_
  refine ae_then ?_
  refine aw_seq ?_
  by_cases h1 : low ≤ n
  ·refine aw_reg [(2, .dec true)] [6] [] [Bv (decide (n ≤ high))] [] [low ≤ n] (by kernel_rfl) hB ⟨h1, trivial⟩ ?_
   refine ae_then ?_
   refine aw_ret ?_
   refine ae_ret hB (Bv (decide (n ≤ high))) (by kernel_rfl) (.inl (by first | rfl | (refine congrArg Bv ?_; simp [inB, *]; done) | (refine congrArg Bv ?_; simp [inB, *]; omega) | (refine congrArg Bv ?_; simp_all [inB]; done) | (refine congrArg Bv ?_; simp_all [inB]; omega))) rfl (fun _ => trivial)
  ·refine aw_reg [(2, .dec false)] [6] [] [Bv false] [] [¬ (low ≤ n)] (by kernel_rfl) hB ⟨h1, trivial⟩ ?_
   refine ae_then ?_
   refine aw_ret ?_
   refine ae_ret hB (Bv false) (by kernel_rfl) (.inl (by first | rfl | (refine congrArg Bv ?_; simp [inB, *]; done) | (refine congrArg Bv ?_; simp [inB, *]; omega) | (refine congrArg Bv ?_; simp_all [inB]; done) | (refine congrArg Bv ?_; simp_all [inB]; omega))) rfl (fun _ => trivial)


-- spec.l02Point
theorem l02Point_ok (p : Point) : Con Try.prog 69 [agPoint p] true (Bv (okP p)) := by
  refine fn_ok (fn := Try.f69) (nt := 16) Try.func69 rfl rfl rfl rfl (by simp [taggedL, tagged]) fun B hB => ?_
  refine aw_seq ?_
  refine aw_reg [(0, .new 1)] [1] [1] [.ref 1 0] [some (bxPoint p)] [] (by kernel_rfl) hB trivial ?_
  refine ae_then ?_
  refine aw_seq ?_
  rcases Bool.eq_false_or_eq_true (inB p.X 0 4095) with h1 | h1
  ·rcases Bool.eq_false_or_eq_true (inB p.Y 0 4095) with h2 | h2
   ·refine aw_reg [(2, .call [(true, I p.X), (true, I 0), (true, I 4095)] true (Bv true)), (6, .call [(true, I p.Y), (true, I 0), (true, I 4095)] true (Bv true)), (11, .call [(true, I p.T), (true, I 0), (true, I 3600000)] true (Bv (inB p.T 0 3600000)))] [2] [] [Bv (inB p.T 0 3600000)] [] [Con Try.prog 36 [I p.X, I 0, I 4095] true (Bv true) ∧ ((I p.X : AV) = I p.X) ∧ ((I 0 : AV) = I 0) ∧ ((I 4095 : AV) = I 4095) ∧ True, Con Try.prog 36 [I p.Y, I 0, I 4095] true (Bv true) ∧ ((I p.Y : AV) = I p.Y) ∧ ((I 0 : AV) = I 0) ∧ ((I 4095 : AV) = I 4095) ∧ True, Con Try.prog 36 [I p.T, I 0, I 3600000] true (Bv (inB p.T 0 3600000)) ∧ ((I p.T : AV) = I p.T) ∧ ((I 0 : AV) = I 0) ∧ ((I 3600000 : AV) = I 3600000) ∧ True] (by kernel_rfl) hB ⟨⟨(con_bool h1 (l00In_ok p.X 0 4095)), rfl, rfl, rfl, trivial⟩, ⟨(con_bool h2 (l00In_ok p.Y 0 4095)), rfl, rfl, rfl, trivial⟩, ⟨(l00In_ok p.T 0 3600000), rfl, rfl, rfl, trivial⟩, trivial⟩ ?_
    refine ae_then ?_
    refine aw_ret ?_
    refine ae_ret hB (Bv (inB p.T 0 3600000)) (by kernel_rfl) (.inl (by first | rfl | (refine congrArg Bv ?_; simp [okP, *]; done) | (refine congrArg Bv ?_; simp [okP, *]; omega) | (refine congrArg Bv ?_; simp_all [okP]; done) | (refine congrArg Bv ?_; simp_all [okP]; omega))) rfl (fun _ => trivial)
   ·refine aw_reg [(2, .call [(true, I p.X), (true, I 0), (true, I 4095)] true (Bv true)), (6, .call [(true, I p.Y), (true, I 0), (true, I 4095)] true (Bv false))] [2] [] [Bv false] [] [Con Try.prog 36 [I p.X, I 0, I 4095] true (Bv true) ∧ ((I p.X : AV) = I p.X) ∧ ((I 0 : AV) = I 0) ∧ ((I 4095 : AV) = I 4095) ∧ True, Con Try.prog 36 [I p.Y, I 0, I 4095] true (Bv false) ∧ ((I p.Y : AV) = I p.Y) ∧ ((I 0 : AV) = I 0) ∧ ((I 4095 : AV) = I 4095) ∧ True] (by kernel_rfl) hB ⟨⟨(con_bool h1 (l00In_ok p.X 0 4095)), rfl, rfl, rfl, trivial⟩, ⟨(con_bool h2 (l00In_ok p.Y 0 4095)), rfl, rfl, rfl, trivial⟩, trivial⟩ ?_
    refine ae_then ?_
    refine aw_ret ?_
    refine ae_ret hB (Bv false) (by kernel_rfl) (.inl (by first | rfl | (refine congrArg Bv ?_; simp [okP, *]; done) | (refine congrArg Bv ?_; simp [okP, *]; omega) | (refine congrArg Bv ?_; simp_all [okP]; done) | (refine congrArg Bv ?_; simp_all [okP]; omega))) rfl (fun _ => trivial)
  ·refine aw_reg [(2, .call [(true, I p.X), (true, I 0), (true, I 4095)] true (Bv false))] [2] [] [Bv false] [] [Con Try.prog 36 [I p.X, I 0, I 4095] true (Bv false) ∧ ((I p.X : AV) = I p.X) ∧ ((I 0 : AV) = I 0) ∧ ((I 4095 : AV) = I 4095) ∧ True] (by kernel_rfl) hB ⟨⟨(con_bool h1 (l00In_ok p.X 0 4095)), rfl, rfl, rfl, trivial⟩, trivial⟩ ?_
   refine ae_then ?_
   refine aw_ret ?_
   refine ae_ret hB (Bv false) (by kernel_rfl) (.inl (by first | rfl | (refine congrArg Bv ?_; simp [okP, *]; done) | (refine congrArg Bv ?_; simp [okP, *]; omega) | (refine congrArg Bv ?_; simp_all [okP]; done) | (refine congrArg Bv ?_; simp_all [okP]; omega))) rfl (fun _ => trivial)


-- spec.l02Stroke
theorem l02Stroke_ok (s : Stroke) : Con Try.prog 47 [.ptr false [slPoint false s.Points]] true (Bv (okStroke' s)) := by
  refine fn_ok (fn := Try.f47) (nt := 52) Try.func47 rfl rfl rfl rfl (by simp [taggedL, tagged, tagPoint]) fun B hB => ?_
  refine aw_lens (x := .ptr false [slPoint false s.Points]) 0 rfl (fun len_s => ?_)
  simp [LenOK, LenL, cPoint, fPoint, slPoint] at len_s
  refine aw_seq ?_
  refine aw_reg [] [0] [] [.ptr false [slPoint false s.Points]] [] [] (by kernel_rfl) hB trivial ?_
  refine ae_then ?_
  refine aw_seq ?_
  refine aw_seq ?_
  refine aw_reg [] [0, 3] [] [.ptr false [slPoint false s.Points], I 0] [] [] (by kernel_rfl) hB trivial ?_
  refine ae_then ?_
  refine aw_block ?_
  refine aw_loop (fun gn gσ => ∃ (i : Int), gn = ((s.Points.length : Int) - i).toNat ∧ (0 ≤ i ∧ i ≤ (s.Points.length : Int)) ∧ (∀ j : Nat, (j : Int) < i → okPt s.Points j = true) ∧ gσ = mkS [(0, .ptr false [slPoint false s.Points]), (3, I i)] []) (((s.Points.length : Int) - 0).toNat) ⟨0, rfl, (by omega), (by intro j hj; omega), rfl⟩ (fun gn gσ hI => ?_)
  obtain ⟨i, rfl, hi0, hall0, rfl⟩ := hI
  refine aw_seq ?_
  refine aw_seq ?_
  by_cases h1 : i < (s.Points.length : Int)
  ·have hi : i.toNat < s.Points.length := by omega
   refine aw_reg [(6, .dec true)] [0, 3, 10] [] [.ptr false [slPoint false s.Points], I i, Bv true] [] [i < (s.Points.length : Int)] (by kernel_rfl) hB ⟨h1, trivial⟩ ?_
   refine ae_then ?_
   refine aw_true rfl ?_
   refine aw_skip ?_
   refine ae_then ?_
   refine aw_seq ?_
   refine aw_block ?_
   refine aw_seq ?_
   rcases Bool.eq_false_or_eq_true (okP (at_ s.Points i.toNat)) with h2 | h2
   ·by_cases h3 : 0 < i
    ·by_cases h4 : ((at_ s.Points i.toNat).T) ≤ ((at_ s.Points ((i - 1).toNat)).T)
     ·have hall : allN s.Points.length (okPt s.Points) = false := allN_not hi (okPt_no h3 h4)
      refine aw_reg [(7, .call [(true, agPoint (at_ s.Points i.toNat))] true (Bv true)), (11, .dec true), (30, .dec true)] [0, 3, 45] [] [.ptr false [slPoint false s.Points], I i, Bv true] [] [(0 : Int) ≤ i ∧ i < (s.Points.length : Int), Con Try.prog 69 [agPoint (at_ s.Points i.toNat)] true (Bv true) ∧ ((agPoint (at_ s.Points i.toNat) : AV) = agPoint (at_ s.Points i.toNat)) ∧ True, 0 < i, (0 : Int) ≤ i ∧ i < (s.Points.length : Int), inR .i64 (i - 1), (0 : Int) ≤ (i - 1) ∧ (i - 1) < (s.Points.length : Int), ((at_ s.Points i.toNat).T) ≤ ((at_ s.Points ((i - 1).toNat)).T)] (by kernel_rfl) hB ⟨⟨(by omega), (by omega)⟩, ⟨(con_bool h2 (l02Point_ok (at_ s.Points i.toNat))), rfl, trivial⟩, h3, ⟨(by omega), (by omega)⟩, (inR_i64 (by omega) (by omega)), ⟨(by omega), (by omega)⟩, h4, trivial⟩ ?_
      refine ae_then ?_
      refine aw_true rfl ?_
      refine aw_seq ?_
      refine aw_reg [] [2] [] [Bv false] [] [] (by kernel_rfl) hB trivial ?_
      refine ae_then ?_
      refine aw_ret ?_
      refine ae_ret_block (ae_ret_then (ae_ret_then (ae_ret_block (ae_ret_then ?_))))
      refine ae_ret hB (Bv false) (by kernel_rfl) (.inl (by first | rfl | (refine congrArg Bv ?_; simp [okStroke', inB, *]; done) | (refine congrArg Bv ?_; simp [okStroke', inB, *]; omega) | (refine congrArg Bv ?_; simp_all [okStroke', inB]; done) | (refine congrArg Bv ?_; simp_all [okStroke', inB]; omega))) rfl (fun _ => trivial)
     ·have hok := okPt_yes h2 h3 h4
      refine aw_reg [(7, .call [(true, agPoint (at_ s.Points i.toNat))] true (Bv true)), (11, .dec true), (30, .dec false)] [0, 3, 45] [] [.ptr false [slPoint false s.Points], I i, Bv false] [] [(0 : Int) ≤ i ∧ i < (s.Points.length : Int), Con Try.prog 69 [agPoint (at_ s.Points i.toNat)] true (Bv true) ∧ ((agPoint (at_ s.Points i.toNat) : AV) = agPoint (at_ s.Points i.toNat)) ∧ True, 0 < i, (0 : Int) ≤ i ∧ i < (s.Points.length : Int), inR .i64 (i - 1), (0 : Int) ≤ (i - 1) ∧ (i - 1) < (s.Points.length : Int), ¬ (((at_ s.Points i.toNat).T) ≤ ((at_ s.Points ((i - 1).toNat)).T))] (by kernel_rfl) hB ⟨⟨(by omega), (by omega)⟩, ⟨(con_bool h2 (l02Point_ok (at_ s.Points i.toNat))), rfl, trivial⟩, h3, ⟨(by omega), (by omega)⟩, (inR_i64 (by omega) (by omega)), ⟨(by omega), (by omega)⟩, h4, trivial⟩ ?_
      refine ae_then ?_
      refine aw_false rfl ?_
      refine aw_skip ?_
      refine ae_block 1 ?_
      refine ae_then ?_
      refine aw_reg [] [0, 3] [] [.ptr false [slPoint false s.Points], I (i + 1)] [] [inR .i64 (i + 1)] (by kernel_rfl) hB ⟨(inR_i64 (by omega) (by omega)), trivial⟩ ?_
      exact ae_again _ (by omega) ⟨(i + 1), rfl, (by omega), (by intro j hj; by_cases ej : j = i.toNat; (subst ej; first | assumption | exact hok); exact hall0 j (by omega)), rfl⟩
    ·have hok := okPt_zero h2 hi0.1 h3
     refine aw_reg [(7, .call [(true, agPoint (at_ s.Points i.toNat))] true (Bv true)), (11, .dec false)] [0, 3, 45] [] [.ptr false [slPoint false s.Points], I i, Bv false] [] [(0 : Int) ≤ i ∧ i < (s.Points.length : Int), Con Try.prog 69 [agPoint (at_ s.Points i.toNat)] true (Bv true) ∧ ((agPoint (at_ s.Points i.toNat) : AV) = agPoint (at_ s.Points i.toNat)) ∧ True, ¬ (0 < i)] (by kernel_rfl) hB ⟨⟨(by omega), (by omega)⟩, ⟨(con_bool h2 (l02Point_ok (at_ s.Points i.toNat))), rfl, trivial⟩, h3, trivial⟩ ?_
     refine ae_then ?_
     refine aw_false rfl ?_
     refine aw_skip ?_
     refine ae_block 1 ?_
     refine ae_then ?_
     refine aw_reg [] [0, 3] [] [.ptr false [slPoint false s.Points], I (i + 1)] [] [inR .i64 (i + 1)] (by kernel_rfl) hB ⟨(inR_i64 (by omega) (by omega)), trivial⟩ ?_
     exact ae_again _ (by omega) ⟨(i + 1), rfl, (by omega), (by intro j hj; by_cases ej : j = i.toNat; (subst ej; first | assumption | exact hok); exact hall0 j (by omega)), rfl⟩
   ·have hall : allN s.Points.length (okPt s.Points) = false := allN_not hi (okPt_bad h2)
    refine aw_reg [(7, .call [(true, agPoint (at_ s.Points i.toNat))] true (Bv false))] [0, 3, 45] [] [.ptr false [slPoint false s.Points], I i, Bv true] [] [(0 : Int) ≤ i ∧ i < (s.Points.length : Int), Con Try.prog 69 [agPoint (at_ s.Points i.toNat)] true (Bv false) ∧ ((agPoint (at_ s.Points i.toNat) : AV) = agPoint (at_ s.Points i.toNat)) ∧ True] (by kernel_rfl) hB ⟨⟨(by omega), (by omega)⟩, ⟨(con_bool h2 (l02Point_ok (at_ s.Points i.toNat))), rfl, trivial⟩, trivial⟩ ?_
    refine ae_then ?_
    refine aw_true rfl ?_
    refine aw_seq ?_
    refine aw_reg [] [2] [] [Bv false] [] [] (by kernel_rfl) hB trivial ?_
    refine ae_then ?_
    refine aw_ret ?_
    refine ae_ret_block (ae_ret_then (ae_ret_then (ae_ret_block (ae_ret_then ?_))))
    refine ae_ret hB (Bv false) (by kernel_rfl) (.inl (by first | rfl | (refine congrArg Bv ?_; simp [okStroke', inB, *]; done) | (refine congrArg Bv ?_; simp [okStroke', inB, *]; omega) | (refine congrArg Bv ?_; simp_all [okStroke', inB]; done) | (refine congrArg Bv ?_; simp_all [okStroke', inB]; omega))) rfl (fun _ => trivial)
  ·have hall : allN s.Points.length (okPt s.Points) = true := allN_at (fun j hj => hall0 j (by omega))
   refine aw_reg [(6, .dec false)] [0, 3, 10] [] [.ptr false [slPoint false s.Points], I i, Bv false] [] [¬ (i < (s.Points.length : Int))] (by kernel_rfl) hB ⟨h1, trivial⟩ ?_
   refine ae_then ?_
   refine aw_false rfl ?_
   refine aw_exit ?_
   refine ae_exit_then ?_
   refine ae_exit_then ?_
   refine ae_exit_same ?_
   refine ae_then ?_
   refine aw_seq ?_
   refine aw_reg [(5, .call [(true, I (s.Points.length : Int)), (true, I 1), (true, I 60)] true (Bv (inB (s.Points.length : Int) 1 60)))] [2] [] [Bv (inB (s.Points.length : Int) 1 60)] [] [Con Try.prog 36 [I (s.Points.length : Int), I 1, I 60] true (Bv (inB (s.Points.length : Int) 1 60)) ∧ ((I (s.Points.length : Int) : AV) = I (s.Points.length : Int)) ∧ ((I 1 : AV) = I 1) ∧ ((I 60 : AV) = I 60) ∧ True] (by kernel_rfl) hB ⟨⟨(l00In_ok (s.Points.length : Int) 1 60), rfl, rfl, rfl, trivial⟩, trivial⟩ ?_
   refine ae_then ?_
   refine aw_ret ?_
   refine ae_ret hB (Bv (inB (s.Points.length : Int) 1 60)) (by kernel_rfl) (.inl (by first | rfl | (refine congrArg Bv ?_; simp [okStroke', inB, *]; done) | (refine congrArg Bv ?_; simp [okStroke', inB, *]; omega) | (refine congrArg Bv ?_; simp_all [okStroke', inB]; done) | (refine congrArg Bv ?_; simp_all [okStroke', inB]; omega))) rfl (fun _ => trivial)


-- spec.l05Far
theorem l05Far_ok (a : Point) (b : Point) (ha : okP a = true) (hb : okP b = true) : Con Try.prog 80 [agPoint a, agPoint b] true (I (farI a b)) := by
  have ha' := okP_iff.1 ha
  have hb' := okP_iff.1 hb
  have hfb := far_bd ha hb
  refine fn_ok (fn := Try.f80) (nt := 24) Try.func80 rfl rfl rfl rfl (by simp [taggedL, tagged]) fun B hB => ?_
  refine aw_seq ?_
  refine aw_reg [(0, .new 2), (1, .new 3)] [2, 3] [2, 3] [.ref 2 0, .ref 3 0] [some (bxPoint a), some (bxPoint b)] [] (by kernel_rfl) hB trivial ?_
  refine ae_then ?_
  refine aw_seq ?_
  refine aw_reg [] [2, 3, 5] [2, 3] [.ref 2 0, .ref 3 0, I (a.X - b.X)] [some (bxPoint a), some (bxPoint b)] [inR .i64 (a.X - b.X)] (by kernel_rfl) hB ⟨(inR_i64 (by omega) (by omega)), trivial⟩ ?_
  refine ae_then ?_
  refine aw_seq ?_
  refine aw_reg [] [5, 6] [] [I (a.X - b.X), I (a.Y - b.Y)] [] [inR .i64 (a.Y - b.Y)] (by kernel_rfl) hB ⟨(inR_i64 (by omega) (by omega)), trivial⟩ ?_
  refine ae_then ?_
  refine aw_seq ?_
  refine aw_reg [] [4] [] [I (((a.X - b.X) * (a.X - b.X)) + ((a.Y - b.Y) * (a.Y - b.Y)))] [] [inR .i64 ((a.X - b.X) * (a.X - b.X)), inR .i64 ((a.Y - b.Y) * (a.Y - b.Y)), inR .i64 (((a.X - b.X) * (a.X - b.X)) + ((a.Y - b.Y) * (a.Y - b.Y)))] (by kernel_rfl) hB ⟨(inR_i64 (by omega) (by omega)), (inR_i64 (by omega) (by omega)), (inR_i64 (by omega) (by omega)), trivial⟩ ?_
  refine ae_then ?_
  refine aw_ret ?_
  refine ae_ret hB (I (((a.X - b.X) * (a.X - b.X)) + ((a.Y - b.Y) * (a.Y - b.Y)))) (by kernel_rfl) (.inl (by first | rfl | (refine congrArg Bv ?_; simp [*]; done) | (refine congrArg Bv ?_; simp [*]; omega) | (refine congrArg Bv ?_; simp_all []; done) | (refine congrArg Bv ?_; simp_all []; omega))) rfl (fun _ => trivial)


-- spec.l05Root
theorem l05Root_ok (n : Int) (hn : 0 ≤ n ∧ n ≤ 1000000000000000) : Con Try.prog 79 [I n] true (I (rootI n)) := by
  refine fn_ok (fn := Try.f79) (nt := 23) Try.func79 rfl rfl rfl rfl (by simp [taggedL, tagged]) fun B hB => ?_
  refine aw_seq ?_
  refine aw_reg [] [0] [] [I n] [] [] (by kernel_rfl) hB trivial ?_
  refine ae_then ?_
  refine aw_seq ?_
  refine aw_reg [] [0, 3] [] [I n, I 0] [] [] (by kernel_rfl) hB trivial ?_
  refine ae_then ?_
  refine aw_seq ?_
  refine aw_reg [] [0, 3, 4] [] [I n, I 0, I 40000000] [] [] (by kernel_rfl) hB trivial ?_
  refine ae_then ?_
  refine aw_seq ?_
  refine aw_block ?_
  refine aw_loop (fun gn gσ => ∃ (low : Int) (high : Int), gn = ((high : Int) - low).toNat ∧ (0 ≤ low ∧ low ≤ high ∧ high ≤ 40000000) ∧ (low * low ≤ n) ∧ (n < (high + 1) * (high + 1)) ∧ gσ = mkS [(0, I n), (3, I low), (4, I high)] []) (((40000000 : Int) - 0).toNat) ⟨0, 40000000, rfl, (by omega), (by omega), (by omega), rfl⟩ (fun gn gσ hI => ?_)
  obtain ⟨low, high, rfl, hl0, hl1, hl2, rfl⟩ := hI
  have hmm := sq_le (a := (((low + high) + 1) / 2)) (b := 40000000) (by omega) (by omega)
  have hmz := sq_le (a := 0) (b := (((low + high) + 1) / 2)) (by omega) (by omega)
  refine aw_seq ?_
  refine aw_seq ?_
  by_cases h1 : low < high
  ·refine aw_reg [(2, .dec true)] [0, 3, 4, 8] [] [I n, I low, I high, Bv true] [] [low < high] (by kernel_rfl) hB ⟨h1, trivial⟩ ?_
   refine ae_then ?_
   refine aw_true rfl ?_
   refine aw_skip ?_
   refine ae_then ?_
   refine aw_block ?_
   refine aw_seq ?_
   refine aw_reg [(4, .nn)] [0, 3, 4, 5] [] [I n, I low, I high, I (((low + high) + 1) / 2)] [] [inR .i64 (low + high), inR .i64 ((low + high) + 1), (0 : Int) ≤ ((low + high) + 1) ∧ (0 : Int) < 2 ∧ inR .i64 ((low + high) + 1)] (by kernel_rfl) hB ⟨(inR_i64 (by omega) (by omega)), (inR_i64 (by omega) (by omega)), ⟨(by omega), (by omega), (inR_i64 (by omega) (by omega))⟩, trivial⟩ ?_
   refine ae_then ?_
   refine aw_seq ?_
   by_cases h2 : ((((low + high) + 1) / 2) * (((low + high) + 1) / 2)) ≤ n
   ·refine aw_reg [(4, .dec true)] [0, 3, 4, 5, 18] [] [I n, I low, I high, I (((low + high) + 1) / 2), Bv true] [] [inR .i64 ((((low + high) + 1) / 2) * (((low + high) + 1) / 2)), ((((low + high) + 1) / 2) * (((low + high) + 1) / 2)) ≤ n] (by kernel_rfl) hB ⟨(inR_i64 (by omega) (by omega)), h2, trivial⟩ ?_
    refine ae_then ?_
    refine aw_true rfl ?_
    refine aw_reg [] [0, 3, 4] [] [I n, I (((low + high) + 1) / 2), I high] [] [] (by kernel_rfl) hB trivial ?_
    refine ae_block 1 ?_
    exact ae_again _ (by omega) ⟨(((low + high) + 1) / 2), high, rfl, (by omega), (by omega), (by first | omega | (rw [show ∀ x : Int, x - 1 + 1 = x from fun x => by omega]; omega)), rfl⟩
   ·refine aw_reg [(4, .dec false)] [0, 3, 4, 5, 18] [] [I n, I low, I high, I (((low + high) + 1) / 2), Bv false] [] [inR .i64 ((((low + high) + 1) / 2) * (((low + high) + 1) / 2)), ¬ (((((low + high) + 1) / 2) * (((low + high) + 1) / 2)) ≤ n)] (by kernel_rfl) hB ⟨(inR_i64 (by omega) (by omega)), h2, trivial⟩ ?_
    refine ae_then ?_
    refine aw_false rfl ?_
    refine aw_reg [] [0, 3, 4] [] [I n, I low, I ((((low + high) + 1) / 2) - 1)] [] [inR .i64 ((((low + high) + 1) / 2) - 1)] (by kernel_rfl) hB ⟨(inR_i64 (by omega) (by omega)), trivial⟩ ?_
    refine ae_block 1 ?_
    exact ae_again _ (by omega) ⟨low, ((((low + high) + 1) / 2) - 1), rfl, (by omega), (by omega), (by first | omega | (rw [show ∀ x : Int, x - 1 + 1 = x from fun x => by omega]; omega)), rfl⟩
  ·refine aw_reg [(2, .dec false)] [0, 3, 4, 8] [] [I n, I low, I high, Bv false] [] [¬ (low < high)] (by kernel_rfl) hB ⟨h1, trivial⟩ ?_
   refine ae_then ?_
   refine aw_false rfl ?_
   refine aw_exit ?_
   refine ae_exit_then ?_
   refine ae_exit_then ?_
   refine ae_exit_same ?_
   refine ae_then ?_
   refine aw_seq ?_
   refine aw_reg [] [2] [] [I low] [] [] (by kernel_rfl) hB trivial ?_
   refine ae_then ?_
   refine aw_ret ?_
   refine ae_ret hB (I low) (by kernel_rfl) (.inl (by exact congrArg I (Eq.symm (rootI_eq hl0.1 hl1 (by have e : high = low := (by omega); rw [e] at hl2; exact hl2))))) rfl (fun _ => trivial)


-- spec.l05Length
theorem l05Length_ok (a : Point) (b : Point) (ha : okP a = true) (hb : okP b = true) : Con Try.prog 73 [agPoint a, agPoint b] true (I (segI a b)) := by
  have ha' := okP_iff.1 ha
  have hb' := okP_iff.1 hb
  have hfb := far_bd ha hb
  have hlb := segI_bd ha hb
  refine fn_ok (fn := Try.f73) (nt := 10) Try.func73 rfl rfl rfl rfl (by simp [taggedL, tagged]) fun B hB => ?_
  refine aw_seq ?_
  refine aw_reg [(0, .new 2), (1, .new 3)] [2, 3] [2, 3] [.ref 2 0, .ref 3 0] [some (bxPoint a), some (bxPoint b)] [] (by kernel_rfl) hB trivial ?_
  refine ae_then ?_
  refine aw_seq ?_
  refine aw_reg [(2, .call [(true, agPoint a), (true, agPoint b)] true (I (farI a b))), (4, .call [(true, I (256 * (farI a b)))] true (I (rootI (256 * (farI a b)))))] [4] [] [I (rootI (256 * (farI a b)))] [] [Con Try.prog 80 [agPoint a, agPoint b] true (I (farI a b)) ∧ ((agPoint a : AV) = agPoint a) ∧ ((agPoint b : AV) = agPoint b) ∧ True, inR .i64 (256 * (farI a b)), Con Try.prog 79 [I (256 * (farI a b))] true (I (rootI (256 * (farI a b)))) ∧ ((I (256 * (farI a b)) : AV) = I (256 * (farI a b))) ∧ True] (by kernel_rfl) hB ⟨⟨(l05Far_ok a b ha hb), rfl, rfl, trivial⟩, (inR_i64 (by omega) (by omega)), ⟨(l05Root_ok (256 * (farI a b)) (by omega)), rfl, trivial⟩, trivial⟩ ?_
  refine ae_then ?_
  refine aw_ret ?_
  refine ae_ret hB (I (rootI (256 * (farI a b)))) (by kernel_rfl) (.inl (by first | rfl | (refine congrArg Bv ?_; simp [*]; done) | (refine congrArg Bv ?_; simp [*]; omega) | (refine congrArg Bv ?_; simp_all []; done) | (refine congrArg Bv ?_; simp_all []; omega))) rfl (fun _ => trivial)


-- spec.l06Arcs
theorem l06Arcs_ok (s : Stroke) (ok : okStroke' s = true) : Con Try.prog 53 [.ptr false [slPoint false s.Points]] true (slI true (arcsL s.Points s.Points.length)) := by
  have hln := okS_len ok
  refine fn_ok (fn := Try.f53) (nt := 41) Try.func53 rfl rfl rfl rfl (by simp [taggedL, tagged, tagPoint]) fun B hB => ?_
  refine aw_lens (x := .ptr false [slPoint false s.Points]) 0 rfl (fun len_s => ?_)
  simp [LenOK, LenL, cPoint, fPoint, slPoint] at len_s
  refine aw_seq ?_
  refine aw_reg [] [0] [] [.ptr false [slPoint false s.Points]] [] [] (by kernel_rfl) hB trivial ?_
  refine ae_then ?_
  refine aw_seq ?_
  refine aw_reg [(0, .new 5)] [0, 3] [5] [.ptr false [slPoint false s.Points], .arr 5] [some (.arr 1 1 (litF [I 0] 1))] [] (by kernel_rfl) hB trivial ?_
  refine ae_then ?_
  refine aw_seq ?_
  refine aw_seq ?_
  refine aw_reg [] [0, 3, 4] [5] [.ptr false [slPoint false s.Points], .arr 5, I 1] [some (.arr 1 1 (litF [I 0] 1))] [] (by kernel_rfl) hB trivial ?_
  refine ae_then ?_
  refine aw_block ?_
  refine aw_weak hB [] (T := [(0, .ptr false [slPoint false s.Points]), (3, .arr 5), (4, I 1)]) (O := [(5, .arr 1 (([0]).length) (fI ([0])))]) rfl (⟨.inl rfl, .inl rfl, .inl rfl, trivial⟩) (⟨.inr ⟨rfl, (by first | rfl | (simp; done) | (simp; omega) | omega), fun i hi => .inl (match i, hi with | 0, _ => rfl | (i + 1), h => absurd h (by simp))⟩, trivial⟩) ?_
  refine aw_loop (fun gn gσ => ∃ (out : List Int) (i : Int), gn = ((s.Points.length : Int) - i).toNat ∧ (1 ≤ i ∧ i ≤ (s.Points.length : Int)) ∧ (out = arcsL s.Points i.toNat) ∧ gσ = mkS [(0, .ptr false [slPoint false s.Points]), (3, .arr 5), (4, I i)] [(5, .arr 1 out.length (fI out))]) (((s.Points.length : Int) - 1).toNat) ⟨[0], 1, rfl, (by omega), (by rfl), rfl⟩ (fun gn gσ hI => ?_)
  obtain ⟨out, i, rfl, hi0, hs0, rfl⟩ := hI
  refine aw_seq ?_
  refine aw_seq ?_
  by_cases h1 : i < (s.Points.length : Int)
  ·have hi : i.toNat < s.Points.length := by omega
   have hi2 : (i - 1).toNat < s.Points.length := by omega
   have hp1 := okS_at ok hi2
   have hp2 := okS_at ok hi
   have hlb := segI_bd hp1 hp2
   have hal : out.length = i.toNat := by rw [hs0, arcsL_len]
   have hav : at_ out (i - 1).toNat = sumS s.Points i.toNat := by rw [hs0, arcsL_at (by omega)]; congr 1; omega
   have hsb := sumS_bd ok i.toNat (by omega)
   refine aw_reg [(6, .dec true)] [0, 3, 4, 12] [5] [.ptr false [slPoint false s.Points], .arr 5, I i, Bv true] [some (.arr 1 out.length (fI out))] [i < (s.Points.length : Int)] (by kernel_rfl) hB ⟨h1, trivial⟩ ?_
   refine ae_then ?_
   refine aw_true rfl ?_
   refine aw_skip ?_
   refine ae_then ?_
   refine aw_seq ?_
   refine aw_block ?_
   refine aw_reg [(21, .call [(true, agPoint (at_ s.Points ((i - 1).toNat))), (true, agPoint (at_ s.Points i.toNat))] true (I (segI (at_ s.Points ((i - 1).toNat)) (at_ s.Points i.toNat)))), (23, .new 38), (24, .new 39)] [0, 3, 4] [39] [.ptr false [slPoint false s.Points], .arr 39, I i] [some (.arr 1 (out.length + 1) (catF out.length (fI out) (litF [I ((at_ out ((i - 1).toNat)) + (segI (at_ s.Points ((i - 1).toNat)) (at_ s.Points i.toNat)))] 1)))] [inR .i64 (i - 1), (0 : Int) ≤ (i - 1) ∧ (i - 1) < (out.length : Int), (i - 1).toNat < out.length, inR .i64 (i - 1), (0 : Int) ≤ (i - 1) ∧ (i - 1) < (s.Points.length : Int), (0 : Int) ≤ i ∧ i < (s.Points.length : Int), Con Try.prog 73 [agPoint (at_ s.Points ((i - 1).toNat)), agPoint (at_ s.Points i.toNat)] true (I (segI (at_ s.Points ((i - 1).toNat)) (at_ s.Points i.toNat))) ∧ ((agPoint (at_ s.Points ((i - 1).toNat)) : AV) = agPoint (at_ s.Points ((i - 1).toNat))) ∧ ((agPoint (at_ s.Points i.toNat) : AV) = agPoint (at_ s.Points i.toNat)) ∧ True, inR .i64 ((at_ out ((i - 1).toNat)) + (segI (at_ s.Points ((i - 1).toNat)) (at_ s.Points i.toNat))), (out.length + 1) * 8 ≤ 140737488355328] (by kernel_rfl) hB ⟨(inR_i64 (by omega) (by omega)), ⟨(by omega), (by omega)⟩, (by omega), (inR_i64 (by omega) (by omega)), ⟨(by omega), (by omega)⟩, ⟨(by omega), (by omega)⟩, ⟨(l05Length_ok (at_ s.Points ((i - 1).toNat)) (at_ s.Points i.toNat) hp1 hp2), rfl, rfl, trivial⟩, (inR_i64 (by omega) (by omega)), (by omega), trivial⟩ ?_
   refine ae_block 1 ?_
   refine ae_then ?_
   refine aw_reg [] [0, 3, 4] [39] [.ptr false [slPoint false s.Points], .arr 39, I (i + 1)] [some (.arr 1 (out.length + 1) (catF out.length (fI out) (litF [I ((at_ out ((i - 1).toNat)) + (segI (at_ s.Points ((i - 1).toNat)) (at_ s.Points i.toNat)))] 1)))] [inR .i64 (i + 1)] (by kernel_rfl) hB ⟨(inR_i64 (by omega) (by omega)), trivial⟩ ?_
   refine ae_weak hB [(5, 39)] (T := [(0, .ptr false [slPoint false s.Points]), (3, .arr 5), (4, I (i + 1))]) (O := [(5, .arr 1 ((out ++ [((at_ out ((i - 1).toNat)) + (segI (at_ s.Points ((i - 1).toNat)) (at_ s.Points i.toNat)))]).length) (fI (out ++ [((at_ out ((i - 1).toNat)) + (segI (at_ s.Points ((i - 1).toNat)) (at_ s.Points i.toNat)))])))]) rfl (⟨.inl rfl, .inl rfl, .inl rfl, trivial⟩) (⟨.inr ⟨rfl, (by first | rfl | (simp; done) | (simp; omega) | omega), fun i hi => .inl (cat_snoc (enc := cI) (xs := out) rfl i hi)⟩, trivial⟩) (ae_again _ (by omega) ⟨(out ++ [((at_ out ((i - 1).toNat)) + (segI (at_ s.Points ((i - 1).toNat)) (at_ s.Points i.toNat)))]), (i + 1), rfl, (by omega), (by have e : (i + 1).toNat = i.toNat + 1 := (by omega); rw [e, arcsL_succ, ← e, sumS_succ hi0.1, ← hs0, hav]), rfl⟩)
  ·have hie : i.toNat = s.Points.length := by omega
   rw [hie] at hs0
   subst hs0
   refine aw_reg [(6, .dec false)] [0, 3, 4, 12] [5] [.ptr false [slPoint false s.Points], .arr 5, I i, Bv false] [some (.arr 1 ((arcsL s.Points s.Points.length).length) (fI (arcsL s.Points s.Points.length)))] [¬ (i < (s.Points.length : Int))] (by kernel_rfl) hB ⟨h1, trivial⟩ ?_
   refine ae_then ?_
   refine aw_false rfl ?_
   refine aw_exit ?_
   refine ae_exit_then ?_
   refine ae_exit_then ?_
   refine ae_exit_same ?_
   refine ae_then ?_
   refine aw_seq ?_
   refine aw_reg [] [2] [5] [.arr 5] [some (.arr 1 ((arcsL s.Points s.Points.length).length) (fI (arcsL s.Points s.Points.length)))] [] (by kernel_rfl) hB trivial ?_
   refine ae_then ?_
   refine aw_ret ?_
   refine ae_ret hB (.arr 5) (by kernel_rfl) (.inr ⟨(fun _ => rfl), rfl, rfl, fun i _ => .inl rfl⟩) rfl (fun _ => (tagI true _))


-- spec.l06Spot
theorem l06Spot_ok (p : Point) : Con Try.prog 72 [agPoint p] true (.agg [I p.X, I p.Y]) := by
  refine fn_ok (fn := Try.f72) (nt := 8) Try.func72 rfl rfl rfl rfl (by simp [taggedL, tagged]) fun B hB => ?_
  refine aw_seq ?_
  refine aw_reg [(0, .new 1), (1, .new 2)] [1, 2] [1, 2] [.ref 1 0, .ref 2 0] [some (bxPoint p), some (.box [I 0, I 0])] [] (by kernel_rfl) hB trivial ?_
  refine ae_then ?_
  refine aw_seq ?_
  refine aw_reg [] [2] [2] [.ref 2 0] [some (.box [I p.X, I p.Y])] [] (by kernel_rfl) hB trivial ?_
  refine ae_then ?_
  refine aw_ret ?_
  refine ae_ret hB (.agg [I p.X, I p.Y]) (by kernel_rfl) (.inl rfl) rfl (fun _ => (by simp [tagged, taggedL]))


-- spec.l05Down
theorem l05Down_ok (n : Int) (d : Int) (hn : (-4611686018427387904 ≤ n ∧ n ≤ 4611686018427387904) ∧ 0 < d) : Con Try.prog 64 [I n, I d] true (I (n / d)) := by
  have hq := tdiv_bd n d
  have hs := down_spec n hn.2
  refine fn_ok (fn := Try.f64) (nt := 16) Try.func64 rfl rfl rfl rfl (by simp [taggedL, tagged]) fun B hB => ?_
  refine aw_seq ?_
  refine aw_reg [] [0, 1] [] [I n, I d] [] [] (by kernel_rfl) hB trivial ?_
  refine ae_then ?_
  refine aw_seq ?_
  refine aw_reg [] [0, 1, 5] [] [I n, I d, I (Int.tdiv n d)] [] [(d : Int) ≠ 0 ∧ inR .i64 (Int.tdiv n d)] (by kernel_rfl) hB ⟨⟨by omega, (inR_i64 (by omega) (by omega))⟩, trivial⟩ ?_
  refine ae_then ?_
  refine aw_seq ?_
  refine aw_seq ?_
  by_cases h1 : (Int.tmod n d) < 0
  ·refine aw_reg [(3, .dec true)] [5, 12] [] [I (Int.tdiv n d), Bv true] [] [(d : Int) ≠ 0, (Int.tmod n d) < 0] (by kernel_rfl) hB ⟨(by omega), h1, trivial⟩ ?_
   refine ae_then ?_
   refine aw_true rfl ?_
   refine aw_reg [] [5] [] [I ((Int.tdiv n d) - 1)] [] [inR .i64 ((Int.tdiv n d) - 1)] (by kernel_rfl) hB ⟨(inR_i64 (by omega) (by omega)), trivial⟩ ?_
   refine ae_then ?_
   refine aw_seq ?_
   refine aw_reg [] [4] [] [I ((Int.tdiv n d) - 1)] [] [] (by kernel_rfl) hB trivial ?_
   refine ae_then ?_
   refine aw_ret ?_
   refine ae_ret hB (I ((Int.tdiv n d) - 1)) (by kernel_rfl) (.inl (by refine congrArg I ?_; first | exact hs.1 (by assumption) | exact hs.2 (by assumption))) rfl (fun _ => trivial)
  ·refine aw_reg [(3, .dec false)] [5, 12] [] [I (Int.tdiv n d), Bv false] [] [(d : Int) ≠ 0, ¬ ((Int.tmod n d) < 0)] (by kernel_rfl) hB ⟨(by omega), h1, trivial⟩ ?_
   refine ae_then ?_
   refine aw_false rfl ?_
   refine aw_skip ?_
   refine ae_then ?_
   refine aw_seq ?_
   refine aw_reg [] [4] [] [I (Int.tdiv n d)] [] [] (by kernel_rfl) hB trivial ?_
   refine ae_then ?_
   refine aw_ret ?_
   refine ae_ret hB (I (Int.tdiv n d)) (by kernel_rfl) (.inl (by refine congrArg I ?_; first | exact hs.1 (by assumption) | exact hs.2 (by assumption))) rfl (fun _ => trivial)


-- spec.l05Near
theorem l05Near_ok (n : Int) (d : Int) (hn : (-1000000000000000000 ≤ n ∧ n ≤ 1000000000000000000) ∧ 0 < d ∧ d ≤ 1000000000000000000) : Con Try.prog 38 [I n, I d] true (I (nearI n d)) := by
  refine fn_ok (fn := Try.f38) (nt := 12) Try.func38 rfl rfl rfl rfl (by simp [taggedL, tagged]) fun B hB => ?_
  refine aw_seq ?_
  refine aw_reg [] [0, 1] [] [I n, I d] [] [] (by kernel_rfl) hB trivial ?_
  refine ae_then ?_
  refine aw_seq ?_
  refine aw_reg [(6, .call [(true, I ((2 * n) + d)), (true, I (2 * d))] true (I (((2 * n) + d) / (2 * d))))] [4] [] [I (((2 * n) + d) / (2 * d))] [] [inR .i64 (2 * n), inR .i64 ((2 * n) + d), inR .i64 (2 * d), Con Try.prog 64 [I ((2 * n) + d), I (2 * d)] true (I (((2 * n) + d) / (2 * d))) ∧ ((I ((2 * n) + d) : AV) = I ((2 * n) + d)) ∧ ((I (2 * d) : AV) = I (2 * d)) ∧ True] (by kernel_rfl) hB ⟨(inR_i64 (by omega) (by omega)), (inR_i64 (by omega) (by omega)), (inR_i64 (by omega) (by omega)), ⟨(l05Down_ok ((2 * n) + d) (2 * d) (by omega)), rfl, rfl, trivial⟩, trivial⟩ ?_
  refine ae_then ?_
  refine aw_ret ?_
  refine ae_ret hB (I (((2 * n) + d) / (2 * d))) (by kernel_rfl) (.inl (by rfl)) rfl (fun _ => trivial)


-- spec.l06At
theorem l06At_ok (s : Stroke) (arcs : List Int) (part : Int) (parts : Int) (ok : okStroke' s = true) (ha : arcs = arcsL s.Points s.Points.length) (hp : (0 ≤ part ∧ part ≤ parts) ∧ (1 ≤ parts ∧ parts ≤ 1000)) : Con Try.prog 52 [.ptr false [slPoint false s.Points], slI false arcs, I part, I parts] true (.agg [I ((spotI s part parts).X), I ((spotI s part parts).Y)]) := by
  have hln := okS_len ok
  have hal : arcs.length = s.Points.length := by rw [ha, arcsL_len]
  have hat : ∀ j, j < s.Points.length → at_ arcs j = arcI s j := by intro j hj; rw [ha]; exact arcsL_at hj
  have e0 : at_ arcs ((arcs.length : Int) - 1).toNat = arcI s (s.Points.length - 1) := (hat _ (by omega)).trans (by congr 1; omega)
  have hb0 := arcI_bd ok (k := s.Points.length - 1) (by omega)
  rw [← e0] at hb0
  have hm0 := mulP_bd hb0.1 hb0.2 hp.1.1 (by omega : part ≤ 1000)
  refine fn_ok (fn := Try.f52) (nt := 123) Try.func52 rfl rfl rfl rfl (by simp [taggedL, tagged, tagI, tagPoint]) fun B hB => ?_
  refine aw_lens (x := .ptr false [slPoint false s.Points]) 0 rfl (fun len_s => ?_)
  simp [LenOK, LenL, cPoint, fPoint, slPoint] at len_s
  refine aw_lens (x := slI false arcs) 1 rfl (fun len_arcs => ?_)
  simp [LenOK, LenL, cI, fI, slI] at len_arcs
  refine aw_seq ?_
  refine aw_reg [(0, .new 8)] [0, 1, 2, 3, 8] [8] [.ptr false [slPoint false s.Points], slI false arcs, I part, I parts, .ref 8 0] [some (.box [I 0, I 0])] [] (by kernel_rfl) hB trivial ?_
  refine ae_then ?_
  refine aw_seq ?_
  refine aw_reg [] [0, 1, 3, 8, 9] [8] [.ptr false [slPoint false s.Points], slI false arcs, I parts, .ref 8 0, I ((at_ arcs (((arcs.length : Int) - 1).toNat)) * part)] [some (.box [I 0, I 0])] [inR .i64 ((arcs.length : Int) - 1), (0 : Int) ≤ ((arcs.length : Int) - 1) ∧ ((arcs.length : Int) - 1) < (arcs.length : Int), inR .i64 ((at_ arcs (((arcs.length : Int) - 1).toNat)) * part)] (by kernel_rfl) hB ⟨(inR_i64 (by omega) (by omega)), ⟨(by omega), (by omega)⟩, (inR_i64 (by omega) (by omega)), trivial⟩ ?_
  refine ae_then ?_
  refine aw_seq ?_
  refine aw_reg [] [0, 1, 3, 8, 9, 10] [8] [.ptr false [slPoint false s.Points], slI false arcs, I parts, .ref 8 0, I ((at_ arcs (((arcs.length : Int) - 1).toNat)) * part), I 1] [some (.box [I 0, I 0])] [] (by kernel_rfl) hB trivial ?_
  refine ae_then ?_
  refine aw_seq ?_
  refine aw_block ?_
  refine aw_loop (fun gn gσ => ∃ (i : Int), gn = ((arcs.length : Int) - i).toNat ∧ (1 ≤ i ∧ i ≤ (arcs.length : Int)) ∧ (∀ j : Nat, (j : Int) < i → stopB s part parts j = false) ∧ gσ = mkS [(0, .ptr false [slPoint false s.Points]), (1, slI false arcs), (3, I parts), (8, .ref 8 0), (9, I ((at_ arcs (((arcs.length : Int) - 1).toNat)) * part)), (10, I i)] [(8, .box [I 0, I 0])]) (((arcs.length : Int) - 1).toNat) ⟨1, rfl, (by omega), (by intro j hj; exact stop_no (fun q => by omega)), rfl⟩ (fun gn gσ hI => ?_)
  obtain ⟨i, rfl, hi0, hn0, rfl⟩ := hI
  refine aw_seq ?_
  refine aw_seq ?_
  by_cases h1 : i < (arcs.length : Int)
  ·have hi : i.toNat < s.Points.length := by omega
   have ei : (i - 1).toNat = i.toNat - 1 := by omega
   have e1 := hat i.toNat hi
   have e2 : at_ arcs (i - 1).toNat = arcI s (i.toNat - 1) := (hat _ (by omega)).trans (by rw [ei])
   have hb1 := arcI_bd ok hi
   have hb2 := arcI_bd ok (k := i.toNat - 1) (by omega)
   have hup := arcI_up ok hi (by omega)
   rw [← e1] at hb1
   rw [← e2] at hb2
   rw [← e1, ← e2] at hup
   have hm1 := mulP_bd hb1.1 hb1.2 (by omega : 0 ≤ parts) hp.2.2
   have hm2 := mulP_bd hb2.1 hb2.2 (by omega : 0 ≤ parts) hp.2.2
   have hm3 := mulP_bd (x := at_ arcs i.toNat - at_ arcs (i - 1).toNat) (A := 5559540) (by omega) (by omega) (by omega : 0 ≤ parts) hp.2.2
   by_cases h2 : (at_ arcs i.toNat) = (at_ arcs ((i - 1).toNat))
   ·have hst : stopB s part parts i.toNat = false := stop_no (by rintro ⟨_, q, _⟩; rw [← e1, ← e2] at q; omega)
    refine aw_reg [(3, .dec true), (14, .dec true)] [0, 1, 3, 8, 9, 10, 48] [8] [.ptr false [slPoint false s.Points], slI false arcs, I parts, .ref 8 0, I ((at_ arcs (((arcs.length : Int) - 1).toNat)) * part), I i, Bv true] [some (.box [I 0, I 0])] [i < (arcs.length : Int), (0 : Int) ≤ i ∧ i < (arcs.length : Int), inR .i64 (i - 1), (0 : Int) ≤ (i - 1) ∧ (i - 1) < (arcs.length : Int), (at_ arcs i.toNat) = (at_ arcs ((i - 1).toNat))] (by kernel_rfl) hB ⟨h1, ⟨(by omega), (by omega)⟩, (inR_i64 (by omega) (by omega)), ⟨(by omega), (by omega)⟩, h2, trivial⟩ ?_
    refine ae_then ?_
    refine aw_true rfl ?_
    refine aw_skip ?_
    refine ae_then ?_
    refine aw_block ?_
    refine aw_reg [] [0, 1, 3, 8, 9, 10] [8] [.ptr false [slPoint false s.Points], slI false arcs, I parts, .ref 8 0, I ((at_ arcs (((arcs.length : Int) - 1).toNat)) * part), I (i + 1)] [some (.box [I 0, I 0])] [inR .i64 (i + 1)] (by kernel_rfl) hB ⟨(inR_i64 (by omega) (by omega)), trivial⟩ ?_
    refine ae_block 1 ?_
    exact ae_again _ (by omega) ⟨(i + 1), rfl, (by omega), (by exact up_to (n := 0) (by omega) hn0 hst), rfl⟩
   ·by_cases h3 : ((at_ arcs i.toNat) * parts) < ((at_ arcs (((arcs.length : Int) - 1).toNat)) * part)
    ·have hst : stopB s part parts i.toNat = false := stop_no (by rintro ⟨_, _, q⟩; rw [← e1, ← e0] at q; omega)
     refine aw_reg [(3, .dec true), (14, .dec false), (23, .dec true)] [0, 1, 3, 8, 9, 10, 48] [8] [.ptr false [slPoint false s.Points], slI false arcs, I parts, .ref 8 0, I ((at_ arcs (((arcs.length : Int) - 1).toNat)) * part), I i, Bv true] [some (.box [I 0, I 0])] [i < (arcs.length : Int), (0 : Int) ≤ i ∧ i < (arcs.length : Int), inR .i64 (i - 1), (0 : Int) ≤ (i - 1) ∧ (i - 1) < (arcs.length : Int), ¬ ((at_ arcs i.toNat) = (at_ arcs ((i - 1).toNat))), (0 : Int) ≤ i ∧ i < (arcs.length : Int), inR .i64 ((at_ arcs i.toNat) * parts), ((at_ arcs i.toNat) * parts) < ((at_ arcs (((arcs.length : Int) - 1).toNat)) * part)] (by kernel_rfl) hB ⟨h1, ⟨(by omega), (by omega)⟩, (inR_i64 (by omega) (by omega)), ⟨(by omega), (by omega)⟩, h2, ⟨(by omega), (by omega)⟩, (inR_i64 (by omega) (by omega)), h3, trivial⟩ ?_
     refine ae_then ?_
     refine aw_true rfl ?_
     refine aw_skip ?_
     refine ae_then ?_
     refine aw_block ?_
     refine aw_reg [] [0, 1, 3, 8, 9, 10] [8] [.ptr false [slPoint false s.Points], slI false arcs, I parts, .ref 8 0, I ((at_ arcs (((arcs.length : Int) - 1).toNat)) * part), I (i + 1)] [some (.box [I 0, I 0])] [inR .i64 (i + 1)] (by kernel_rfl) hB ⟨(inR_i64 (by omega) (by omega)), trivial⟩ ?_
     refine ae_block 1 ?_
     exact ae_again _ (by omega) ⟨(i + 1), rfl, (by omega), (by exact up_to (n := 0) (by omega) hn0 hst), rfl⟩
    ·have hst : stopB s part parts i.toNat = true := stop_iff.2 (by rw [← e1, ← e0, ← e2]; omega)
     have hn1 : ∀ j, j < i.toNat → stopB s part parts j = false := fun j hj => hn0 j (by omega)
     have hr := spot_rest ok (by omega) hi hst hn1
     rw [← e0, ← e1, ← e2] at hr
     have hpa := okP_iff.1 (okS_at ok (j := (i - 1).toNat) (by omega))
     have hpb := okP_iff.1 (okS_at ok hi)
     have hmx := mulS_bd (x := (at_ s.Points i.toNat).X - (at_ s.Points (i - 1).toNat).X) (A := 4095) (B := 5559540000) (by omega) (by omega) hr.1.1 (by omega)
     have hmy := mulS_bd (x := (at_ s.Points i.toNat).Y - (at_ s.Points (i - 1).toNat).Y) (A := 4095) (B := 5559540000) (by omega) (by omega) hr.1.1 (by omega)
     have hnx := near_between (x := (at_ s.Points i.toNat).X - (at_ s.Points (i - 1).toNat).X) hr.2 hr.1.1 hr.1.2
     have hny := near_between (x := (at_ s.Points i.toNat).Y - (at_ s.Points (i - 1).toNat).Y) hr.2 hr.1.1 hr.1.2
     have hsp := spotI_at hi hst hn1
     refine aw_reg [(3, .dec true), (14, .dec false), (23, .dec false)] [0, 1, 3, 8, 9, 10, 48] [8] [.ptr false [slPoint false s.Points], slI false arcs, I parts, .ref 8 0, I ((at_ arcs (((arcs.length : Int) - 1).toNat)) * part), I i, Bv false] [some (.box [I 0, I 0])] [i < (arcs.length : Int), (0 : Int) ≤ i ∧ i < (arcs.length : Int), inR .i64 (i - 1), (0 : Int) ≤ (i - 1) ∧ (i - 1) < (arcs.length : Int), ¬ ((at_ arcs i.toNat) = (at_ arcs ((i - 1).toNat))), (0 : Int) ≤ i ∧ i < (arcs.length : Int), inR .i64 ((at_ arcs i.toNat) * parts), ¬ (((at_ arcs i.toNat) * parts) < ((at_ arcs (((arcs.length : Int) - 1).toNat)) * part))] (by kernel_rfl) hB ⟨h1, ⟨(by omega), (by omega)⟩, (inR_i64 (by omega) (by omega)), ⟨(by omega), (by omega)⟩, h2, ⟨(by omega), (by omega)⟩, (inR_i64 (by omega) (by omega)), h3, trivial⟩ ?_
     refine ae_then ?_
     refine aw_false rfl ?_
     refine aw_exit ?_
     refine ae_exit_then ?_
     refine ae_exit_then ?_
     refine ae_exit_same ?_
     refine ae_then ?_
     refine aw_seq ?_
     refine aw_seq ?_
     refine aw_reg [(3, .dec false)] [0, 1, 3, 8, 9, 10, 54] [8] [.ptr false [slPoint false s.Points], slI false arcs, I parts, .ref 8 0, I ((at_ arcs (((arcs.length : Int) - 1).toNat)) * part), I i, Bv false] [some (.box [I 0, I 0])] [¬ (i = (arcs.length : Int))] (by kernel_rfl) hB ⟨(by omega), trivial⟩ ?_
     refine ae_then ?_
     refine aw_false rfl ?_
     refine aw_skip ?_
     refine ae_then ?_
     refine aw_seq ?_
     refine aw_reg [(8, .new 11)] [0, 1, 3, 8, 9, 10, 11] [8, 11] [.ptr false [slPoint false s.Points], slI false arcs, I parts, .ref 8 0, I ((at_ arcs (((arcs.length : Int) - 1).toNat)) * part), I i, .ref 11 0] [some (.box [I 0, I 0]), some (bxPoint (at_ s.Points ((i - 1).toNat)))] [inR .i64 (i - 1), (0 : Int) ≤ (i - 1) ∧ (i - 1) < (s.Points.length : Int)] (by kernel_rfl) hB ⟨(inR_i64 (by omega) (by omega)), ⟨(by omega), (by omega)⟩, trivial⟩ ?_
     refine ae_then ?_
     refine aw_seq ?_
     refine aw_reg [(7, .new 12)] [1, 3, 8, 9, 10, 11, 12] [8, 11, 12] [slI false arcs, I parts, .ref 8 0, I ((at_ arcs (((arcs.length : Int) - 1).toNat)) * part), I i, .ref 11 0, .ref 12 0] [some (.box [I 0, I 0]), some (bxPoint (at_ s.Points ((i - 1).toNat))), some (bxPoint (at_ s.Points i.toNat))] [(0 : Int) ≤ i ∧ i < (s.Points.length : Int)] (by kernel_rfl) hB ⟨⟨(by omega), (by omega)⟩, trivial⟩ ?_
     refine ae_then ?_
     refine aw_seq ?_
     refine aw_reg [] [1, 3, 8, 10, 11, 12, 13] [8, 11, 12] [slI false arcs, I parts, .ref 8 0, I i, .ref 11 0, .ref 12 0, I (((at_ arcs (((arcs.length : Int) - 1).toNat)) * part) - ((at_ arcs ((i - 1).toNat)) * parts))] [some (.box [I 0, I 0]), some (bxPoint (at_ s.Points ((i - 1).toNat))), some (bxPoint (at_ s.Points i.toNat))] [inR .i64 (i - 1), (0 : Int) ≤ (i - 1) ∧ (i - 1) < (arcs.length : Int), inR .i64 ((at_ arcs ((i - 1).toNat)) * parts), inR .i64 (((at_ arcs (((arcs.length : Int) - 1).toNat)) * part) - ((at_ arcs ((i - 1).toNat)) * parts))] (by kernel_rfl) hB ⟨(inR_i64 (by omega) (by omega)), ⟨(by omega), (by omega)⟩, (inR_i64 (by omega) (by omega)), (inR_i64 (by omega) (by omega)), trivial⟩ ?_
     refine ae_then ?_
     refine aw_seq ?_
     refine aw_reg [] [8, 11, 12, 13, 14] [8, 11, 12] [.ref 8 0, .ref 11 0, .ref 12 0, I (((at_ arcs (((arcs.length : Int) - 1).toNat)) * part) - ((at_ arcs ((i - 1).toNat)) * parts)), I (((at_ arcs i.toNat) - (at_ arcs ((i - 1).toNat))) * parts)] [some (.box [I 0, I 0]), some (bxPoint (at_ s.Points ((i - 1).toNat))), some (bxPoint (at_ s.Points i.toNat))] [(0 : Int) ≤ i ∧ i < (arcs.length : Int), inR .i64 (i - 1), (0 : Int) ≤ (i - 1) ∧ (i - 1) < (arcs.length : Int), inR .i64 ((at_ arcs i.toNat) - (at_ arcs ((i - 1).toNat))), inR .i64 (((at_ arcs i.toNat) - (at_ arcs ((i - 1).toNat))) * parts)] (by kernel_rfl) hB ⟨⟨(by omega), (by omega)⟩, (inR_i64 (by omega) (by omega)), ⟨(by omega), (by omega)⟩, (inR_i64 (by omega) (by omega)), (inR_i64 (by omega) (by omega)), trivial⟩ ?_
     refine ae_then ?_
     refine aw_seq ?_
     refine aw_reg [(10, .call [(true, I ((((at_ s.Points i.toNat).X) - ((at_ s.Points ((i - 1).toNat)).X)) * (((at_ arcs (((arcs.length : Int) - 1).toNat)) * part) - ((at_ arcs ((i - 1).toNat)) * parts)))), (true, I (((at_ arcs i.toNat) - (at_ arcs ((i - 1).toNat))) * parts))] true (I (nearI ((((at_ s.Points i.toNat).X) - ((at_ s.Points ((i - 1).toNat)).X)) * (((at_ arcs (((arcs.length : Int) - 1).toNat)) * part) - ((at_ arcs ((i - 1).toNat)) * parts))) (((at_ arcs i.toNat) - (at_ arcs ((i - 1).toNat))) * parts)))), (22, .call [(true, I ((((at_ s.Points i.toNat).Y) - ((at_ s.Points ((i - 1).toNat)).Y)) * (((at_ arcs (((arcs.length : Int) - 1).toNat)) * part) - ((at_ arcs ((i - 1).toNat)) * parts)))), (true, I (((at_ arcs i.toNat) - (at_ arcs ((i - 1).toNat))) * parts))] true (I (nearI ((((at_ s.Points i.toNat).Y) - ((at_ s.Points ((i - 1).toNat)).Y)) * (((at_ arcs (((arcs.length : Int) - 1).toNat)) * part) - ((at_ arcs ((i - 1).toNat)) * parts))) (((at_ arcs i.toNat) - (at_ arcs ((i - 1).toNat))) * parts))))] [8] [8] [.ref 8 0] [some (.box [I (((at_ s.Points ((i - 1).toNat)).X) + (nearI ((((at_ s.Points i.toNat).X) - ((at_ s.Points ((i - 1).toNat)).X)) * (((at_ arcs (((arcs.length : Int) - 1).toNat)) * part) - ((at_ arcs ((i - 1).toNat)) * parts))) (((at_ arcs i.toNat) - (at_ arcs ((i - 1).toNat))) * parts))), I (((at_ s.Points ((i - 1).toNat)).Y) + (nearI ((((at_ s.Points i.toNat).Y) - ((at_ s.Points ((i - 1).toNat)).Y)) * (((at_ arcs (((arcs.length : Int) - 1).toNat)) * part) - ((at_ arcs ((i - 1).toNat)) * parts))) (((at_ arcs i.toNat) - (at_ arcs ((i - 1).toNat))) * parts)))])] [inR .i64 (((at_ s.Points i.toNat).X) - ((at_ s.Points ((i - 1).toNat)).X)), inR .i64 ((((at_ s.Points i.toNat).X) - ((at_ s.Points ((i - 1).toNat)).X)) * (((at_ arcs (((arcs.length : Int) - 1).toNat)) * part) - ((at_ arcs ((i - 1).toNat)) * parts))), Con Try.prog 38 [I ((((at_ s.Points i.toNat).X) - ((at_ s.Points ((i - 1).toNat)).X)) * (((at_ arcs (((arcs.length : Int) - 1).toNat)) * part) - ((at_ arcs ((i - 1).toNat)) * parts))), I (((at_ arcs i.toNat) - (at_ arcs ((i - 1).toNat))) * parts)] true (I (nearI ((((at_ s.Points i.toNat).X) - ((at_ s.Points ((i - 1).toNat)).X)) * (((at_ arcs (((arcs.length : Int) - 1).toNat)) * part) - ((at_ arcs ((i - 1).toNat)) * parts))) (((at_ arcs i.toNat) - (at_ arcs ((i - 1).toNat))) * parts))) ∧ ((I ((((at_ s.Points i.toNat).X) - ((at_ s.Points ((i - 1).toNat)).X)) * (((at_ arcs (((arcs.length : Int) - 1).toNat)) * part) - ((at_ arcs ((i - 1).toNat)) * parts))) : AV) = I ((((at_ s.Points i.toNat).X) - ((at_ s.Points ((i - 1).toNat)).X)) * (((at_ arcs (((arcs.length : Int) - 1).toNat)) * part) - ((at_ arcs ((i - 1).toNat)) * parts)))) ∧ ((I (((at_ arcs i.toNat) - (at_ arcs ((i - 1).toNat))) * parts) : AV) = I (((at_ arcs i.toNat) - (at_ arcs ((i - 1).toNat))) * parts)) ∧ True, inR .i64 (((at_ s.Points ((i - 1).toNat)).X) + (nearI ((((at_ s.Points i.toNat).X) - ((at_ s.Points ((i - 1).toNat)).X)) * (((at_ arcs (((arcs.length : Int) - 1).toNat)) * part) - ((at_ arcs ((i - 1).toNat)) * parts))) (((at_ arcs i.toNat) - (at_ arcs ((i - 1).toNat))) * parts))), inR .i64 (((at_ s.Points i.toNat).Y) - ((at_ s.Points ((i - 1).toNat)).Y)), inR .i64 ((((at_ s.Points i.toNat).Y) - ((at_ s.Points ((i - 1).toNat)).Y)) * (((at_ arcs (((arcs.length : Int) - 1).toNat)) * part) - ((at_ arcs ((i - 1).toNat)) * parts))), Con Try.prog 38 [I ((((at_ s.Points i.toNat).Y) - ((at_ s.Points ((i - 1).toNat)).Y)) * (((at_ arcs (((arcs.length : Int) - 1).toNat)) * part) - ((at_ arcs ((i - 1).toNat)) * parts))), I (((at_ arcs i.toNat) - (at_ arcs ((i - 1).toNat))) * parts)] true (I (nearI ((((at_ s.Points i.toNat).Y) - ((at_ s.Points ((i - 1).toNat)).Y)) * (((at_ arcs (((arcs.length : Int) - 1).toNat)) * part) - ((at_ arcs ((i - 1).toNat)) * parts))) (((at_ arcs i.toNat) - (at_ arcs ((i - 1).toNat))) * parts))) ∧ ((I ((((at_ s.Points i.toNat).Y) - ((at_ s.Points ((i - 1).toNat)).Y)) * (((at_ arcs (((arcs.length : Int) - 1).toNat)) * part) - ((at_ arcs ((i - 1).toNat)) * parts))) : AV) = I ((((at_ s.Points i.toNat).Y) - ((at_ s.Points ((i - 1).toNat)).Y)) * (((at_ arcs (((arcs.length : Int) - 1).toNat)) * part) - ((at_ arcs ((i - 1).toNat)) * parts)))) ∧ ((I (((at_ arcs i.toNat) - (at_ arcs ((i - 1).toNat))) * parts) : AV) = I (((at_ arcs i.toNat) - (at_ arcs ((i - 1).toNat))) * parts)) ∧ True, inR .i64 (((at_ s.Points ((i - 1).toNat)).Y) + (nearI ((((at_ s.Points i.toNat).Y) - ((at_ s.Points ((i - 1).toNat)).Y)) * (((at_ arcs (((arcs.length : Int) - 1).toNat)) * part) - ((at_ arcs ((i - 1).toNat)) * parts))) (((at_ arcs i.toNat) - (at_ arcs ((i - 1).toNat))) * parts)))] (by kernel_rfl) hB ⟨(inR_i64 (by omega) (by omega)), (inR_i64 (by omega) (by omega)), ⟨(l05Near_ok ((((at_ s.Points i.toNat).X) - ((at_ s.Points ((i - 1).toNat)).X)) * (((at_ arcs (((arcs.length : Int) - 1).toNat)) * part) - ((at_ arcs ((i - 1).toNat)) * parts))) (((at_ arcs i.toNat) - (at_ arcs ((i - 1).toNat))) * parts) (by omega)), rfl, rfl, trivial⟩, (inR_i64 (by omega) (by omega)), (inR_i64 (by omega) (by omega)), (inR_i64 (by omega) (by omega)), ⟨(l05Near_ok ((((at_ s.Points i.toNat).Y) - ((at_ s.Points ((i - 1).toNat)).Y)) * (((at_ arcs (((arcs.length : Int) - 1).toNat)) * part) - ((at_ arcs ((i - 1).toNat)) * parts))) (((at_ arcs i.toNat) - (at_ arcs ((i - 1).toNat))) * parts) (by omega)), rfl, rfl, trivial⟩, (inR_i64 (by omega) (by omega)), trivial⟩ ?_
     refine ae_then ?_
     refine aw_ret ?_
     refine ae_ret hB (.agg [I (((at_ s.Points ((i - 1).toNat)).X) + (nearI ((((at_ s.Points i.toNat).X) - ((at_ s.Points ((i - 1).toNat)).X)) * (((at_ arcs (((arcs.length : Int) - 1).toNat)) * part) - ((at_ arcs ((i - 1).toNat)) * parts))) (((at_ arcs i.toNat) - (at_ arcs ((i - 1).toNat))) * parts))), I (((at_ s.Points ((i - 1).toNat)).Y) + (nearI ((((at_ s.Points i.toNat).Y) - ((at_ s.Points ((i - 1).toNat)).Y)) * (((at_ arcs (((arcs.length : Int) - 1).toNat)) * part) - ((at_ arcs ((i - 1).toNat)) * parts))) (((at_ arcs i.toNat) - (at_ arcs ((i - 1).toNat))) * parts)))]) (by kernel_rfl) (.inl (by first | (rw [hnone]; done) | (rw [hnone]; rfl) | (rw [hsp]; simp only [spotK, e0, e1, e2]; simp only [ei]))) rfl (fun _ => (by simp [tagged, taggedL]))
  ·have hnone := spotI_none (s := s) (part := part) (parts := parts) (fun j hj => hn0 j (by omega))
   refine aw_reg [(3, .dec false)] [0, 1, 3, 8, 9, 10, 48] [8] [.ptr false [slPoint false s.Points], slI false arcs, I parts, .ref 8 0, I ((at_ arcs (((arcs.length : Int) - 1).toNat)) * part), I i, Bv false] [some (.box [I 0, I 0])] [¬ (i < (arcs.length : Int))] (by kernel_rfl) hB ⟨h1, trivial⟩ ?_
   refine ae_then ?_
   refine aw_false rfl ?_
   refine aw_exit ?_
   refine ae_exit_then ?_
   refine ae_exit_then ?_
   refine ae_exit_same ?_
   refine ae_then ?_
   refine aw_seq ?_
   refine aw_seq ?_
   refine aw_reg [(3, .dec true)] [0, 1, 3, 8, 9, 10, 54] [8] [.ptr false [slPoint false s.Points], slI false arcs, I parts, .ref 8 0, I ((at_ arcs (((arcs.length : Int) - 1).toNat)) * part), I i, Bv true] [some (.box [I 0, I 0])] [i = (arcs.length : Int)] (by kernel_rfl) hB ⟨(by omega), trivial⟩ ?_
   refine ae_then ?_
   refine aw_true rfl ?_
   refine aw_seq ?_
   refine aw_reg [(6, .call [(true, agPoint (at_ s.Points 0))] true (.agg [I ((at_ s.Points 0).X), I ((at_ s.Points 0).Y)]))] [8] [8] [.ref 8 0] [some (.box [I ((at_ s.Points 0).X), I ((at_ s.Points 0).Y)])] [(0 : Int) ≤ 0 ∧ 0 < (s.Points.length : Int), Con Try.prog 72 [agPoint (at_ s.Points 0)] true (.agg [I ((at_ s.Points 0).X), I ((at_ s.Points 0).Y)]) ∧ ((agPoint (at_ s.Points 0) : AV) = agPoint (at_ s.Points 0)) ∧ True] (by kernel_rfl) hB ⟨⟨(by omega), (by omega)⟩, ⟨(l06Spot_ok (at_ s.Points 0)), rfl, trivial⟩, trivial⟩ ?_
   refine ae_then ?_
   refine aw_ret ?_
   refine ae_ret_then ?_
   refine ae_ret hB (.agg [I ((at_ s.Points 0).X), I ((at_ s.Points 0).Y)]) (by kernel_rfl) (.inl (by first | (rw [hnone]; done) | (rw [hnone]; rfl) | (rw [hsp]; simp only [spotK, e0, e1, e2]; simp only [ei]))) rfl (fun _ => (by simp [tagged, taggedL]))


-- spec.l06Resample
theorem l06Resample_ok (s : Stroke) (n : Int) (ok : okStroke' s = true) (hn : 2 ≤ n ∧ n ≤ 24) : Con Try.prog 48 [.ptr false [slPoint false s.Points], I n] true (slSpot true (resQ s n)) := by
  refine fn_ok (fn := Try.f48) (nt := 26) Try.func48 rfl rfl rfl rfl (by simp [taggedL, tagged, tagPoint]) fun B hB => ?_
  refine aw_lens (x := .ptr false [slPoint false s.Points]) 0 rfl (fun len_s => ?_)
  simp [LenOK, LenL, cPoint, fPoint, slPoint] at len_s
  refine aw_seq ?_
  refine aw_reg [] [0, 1] [] [.ptr false [slPoint false s.Points], I n] [] [] (by kernel_rfl) hB trivial ?_
  refine ae_then ?_
  refine aw_seq ?_
  refine aw_reg [(1, .call [(true, .ptr false [slPoint false s.Points])] true (slI true (arcsL s.Points s.Points.length)))] [0, 1, 5] [] [.ptr false [slPoint false s.Points], I n, slI true (arcsL s.Points s.Points.length)] [] [Con Try.prog 53 [.ptr false [slPoint false s.Points]] true (slI true (arcsL s.Points s.Points.length)) ∧ ((.ptr false [slPoint false s.Points] : AV) = .ptr false [slPoint false s.Points]) ∧ True] (by kernel_rfl) hB ⟨⟨(l06Arcs_ok s ok), rfl, trivial⟩, trivial⟩ ?_
  refine ae_then ?_
  refine aw_seq ?_
  refine aw_reg [(0, .new 10)] [0, 1, 5, 6] [10] [.ptr false [slPoint false s.Points], I n, slI true (arcsL s.Points s.Points.length), .arr 10] [some (.arr 2 0 (litF [] 2))] [] (by kernel_rfl) hB trivial ?_
  refine ae_then ?_
  refine aw_seq ?_
  refine aw_seq ?_
  refine aw_reg [] [0, 1, 5, 6, 7] [10] [.ptr false [slPoint false s.Points], I n, slI true (arcsL s.Points s.Points.length), .arr 10, I 0] [some (.arr 2 0 (litF [] 2))] [] (by kernel_rfl) hB trivial ?_
  refine ae_then ?_
  refine aw_block ?_
  refine aw_weak hB [] (T := [(0, .ptr false [slPoint false s.Points]), (1, I n), (5, slI true (arcsL s.Points s.Points.length)), (6, .arr 10), (7, I 0)]) (O := [(10, .arr 2 (([] : List Spot).length) (fSpot ([] : List Spot)))]) rfl (⟨.inl rfl, .inl rfl, .inl rfl, .inl rfl, .inl rfl, trivial⟩) (⟨.inr ⟨rfl, (by first | rfl | (simp; done) | (simp; omega) | omega), fun i hi => absurd hi (Nat.not_lt_zero _)⟩, trivial⟩) ?_
  refine aw_loop (fun gn gσ => ∃ (out : List Spot) (k : Int), gn = (n - k).toNat ∧ (0 ≤ k ∧ k ≤ n) ∧ ((out.length : Int) = k) ∧ (out = resK s n k.toNat) ∧ gσ = mkS [(0, .ptr false [slPoint false s.Points]), (1, I n), (5, slI true (arcsL s.Points s.Points.length)), (6, .arr 10), (7, I k)] [(10, .arr 2 out.length (fSpot out))]) ((n - 0).toNat) ⟨([] : List Spot), 0, rfl, (by omega), (by rfl), (by rfl), rfl⟩ (fun gn gσ hI => ?_)
  obtain ⟨out, k, rfl, hk0, hll, hl0, rfl⟩ := hI
  refine aw_seq ?_
  refine aw_seq ?_
  by_cases h1 : k < n
  ·refine aw_reg [(2, .dec true)] [0, 1, 5, 6, 7, 13] [10] [.ptr false [slPoint false s.Points], I n, slI true (arcsL s.Points s.Points.length), .arr 10, I k, Bv true] [some (.arr 2 out.length (fSpot out))] [k < n] (by kernel_rfl) hB ⟨h1, trivial⟩ ?_
   refine ae_then ?_
   refine aw_true rfl ?_
   refine aw_skip ?_
   refine ae_then ?_
   refine aw_seq ?_
   refine aw_block ?_
   refine aw_reg [(6, .call [(true, .ptr false [slPoint false s.Points]), (false, slI false (arcsL s.Points s.Points.length)), (true, I k), (true, I (n - 1))] true (.agg [I ((spotI s k (n - 1)).X), I ((spotI s k (n - 1)).Y)])), (7, .new 23), (8, .new 24)] [0, 1, 5, 6, 7] [24] [.ptr false [slPoint false s.Points], I n, slI true (arcsL s.Points s.Points.length), .arr 24, I k] [some (.arr 2 (out.length + 1) (catF out.length (fSpot out) (litF [I ((spotI s k (n - 1)).X), I ((spotI s k (n - 1)).Y)] 2)))] [inR .i64 (n - 1), Con Try.prog 52 [.ptr false [slPoint false s.Points], slI false (arcsL s.Points s.Points.length), I k, I (n - 1)] true (.agg [I ((spotI s k (n - 1)).X), I ((spotI s k (n - 1)).Y)]) ∧ ((.ptr false [slPoint false s.Points] : AV) = .ptr false [slPoint false s.Points]) ∧ ((false = true → true = true) ∧ 1 = 1 ∧ ((arcsL s.Points s.Points.length).length) = ((arcsL s.Points s.Points.length).length) ∧ ∀ i, i < ((arcsL s.Points s.Points.length).length) → (fI (arcsL s.Points s.Points.length)) i = (fI (arcsL s.Points s.Points.length)) i ∨ (AV.idsL ((fI (arcsL s.Points s.Points.length)) i) = [] ∧ leL (fun _ => none) false ((fI (arcsL s.Points s.Points.length)) i) ((fI (arcsL s.Points s.Points.length)) i))) ∧ ((I k : AV) = I k) ∧ ((I (n - 1) : AV) = I (n - 1)) ∧ True, (out.length + 1) * 16 ≤ 140737488355328] (by kernel_rfl) hB ⟨(inR_i64 (by omega) (by omega)), ⟨(l06At_ok s (arcsL s.Points s.Points.length) k (n - 1) ok (by first | rfl | assumption) (by omega)), rfl, ⟨(fun h => by cases h), rfl, rfl, fun i _ => .inl rfl⟩, rfl, rfl, trivial⟩, (by omega), trivial⟩ ?_
   refine ae_block 1 ?_
   refine ae_then ?_
   refine aw_reg [] [0, 1, 5, 6, 7] [24] [.ptr false [slPoint false s.Points], I n, slI true (arcsL s.Points s.Points.length), .arr 24, I (k + 1)] [some (.arr 2 (out.length + 1) (catF out.length (fSpot out) (litF [I ((spotI s k (n - 1)).X), I ((spotI s k (n - 1)).Y)] 2)))] [inR .i64 (k + 1)] (by kernel_rfl) hB ⟨(inR_i64 (by omega) (by omega)), trivial⟩ ?_
   refine ae_weak hB [(10, 24)] (T := [(0, .ptr false [slPoint false s.Points]), (1, I n), (5, slI true (arcsL s.Points s.Points.length)), (6, .arr 10), (7, I (k + 1))]) (O := [(10, .arr 2 ((out ++ [(spotI s k (n - 1))]).length) (fSpot (out ++ [(spotI s k (n - 1))])))]) rfl (⟨.inl rfl, .inl rfl, .inl rfl, .inl rfl, .inl rfl, trivial⟩) (⟨.inr ⟨rfl, (by first | rfl | (simp; done) | (simp; omega) | omega), fun i hi => .inl (cat_snoc (enc := cSpot) (xs := out) rfl i hi)⟩, trivial⟩) (ae_again _ (by omega) ⟨(out ++ [(spotI s k (n - 1))]), (k + 1), rfl, (by omega), (by simp; omega), (by rw [resK_succ (by omega), ← hl0]), rfl⟩)
  ·have hke : k.toNat = n.toNat := by omega
   rw [hke] at hl0
   have hl1 : out = resQ s n := hl0
   clear hl0
   subst hl1
   refine aw_reg [(2, .dec false)] [0, 1, 5, 6, 7, 13] [10] [.ptr false [slPoint false s.Points], I n, slI true (arcsL s.Points s.Points.length), .arr 10, I k, Bv false] [some (.arr 2 ((resQ s n).length) (fSpot (resQ s n)))] [¬ (k < n)] (by kernel_rfl) hB ⟨h1, trivial⟩ ?_
   refine ae_then ?_
   refine aw_false rfl ?_
   refine aw_exit ?_
   refine ae_exit_then ?_
   refine ae_exit_then ?_
   refine ae_exit_same ?_
   refine ae_then ?_
   refine aw_seq ?_
   refine aw_reg [] [4] [10] [.arr 10] [some (.arr 2 ((resQ s n).length) (fSpot (resQ s n)))] [] (by kernel_rfl) hB trivial ?_
   refine ae_then ?_
   refine aw_ret ?_
   refine ae_ret hB (.arr 10) (by kernel_rfl) (.inr ⟨(fun _ => rfl), rfl, rfl, fun i _ => .inl rfl⟩) rfl (fun _ => (tagSpot true _))


-- spec.Resample
theorem specResample_ok (s : Stroke) (n : Int) : Con Try.prog 19 [.agg [slPoint false s.Points], I n] true (.tup [slSpot true ((resR s n).1), I ((resR s n).2)]) := by
  refine fn_ok (fn := Try.f19) (nt := 13) Try.func19 rfl rfl rfl rfl (by simp [taggedL, tagged, tagPoint]) fun B hB => ?_
  refine aw_lens (x := .agg [slPoint false s.Points]) 0 rfl (fun len_s => ?_)
  simp [LenOK, LenL, cPoint, fPoint, slPoint] at len_s
  refine aw_seq ?_
  refine aw_reg [(0, .new 2)] [1, 2] [2] [I n, .ref 2 0] [some (.box [slPoint false s.Points])] [] (by kernel_rfl) hB trivial ?_
  refine ae_then ?_
  refine aw_seq ?_
  refine aw_seq ?_
  rcases Bool.eq_false_or_eq_true (okStroke' s) with h1 | h1
  ·refine aw_reg [(0, .call [(false, .ptr false [slPoint false s.Points])] true (Bv true))] [1, 2, 7] [2] [I n, .ref 2 0, Bv false] [some (.box [slPoint false s.Points])] [Con Try.prog 47 [.ptr false [slPoint false s.Points]] true (Bv true) ∧ ((false = true → true = true) ∧ AV.idsL [slPoint false s.Points] = [] ∧ ((false = true → false = true) ∧ 3 = 3 ∧ s.Points.length = s.Points.length ∧ ∀ i, i < s.Points.length → (fPoint s.Points) i = (fPoint s.Points) i ∨ (AV.idsL ((fPoint s.Points) i) = [] ∧ leL (fun _ => none) false ((fPoint s.Points) i) ((fPoint s.Points) i))) ∧ ([] : List AV) = []) ∧ True] (by kernel_rfl) hB ⟨⟨(con_bool h1 (l02Stroke_ok s)), ⟨(fun h => by cases h), rfl, ⟨⟨(fun h => by cases h), rfl, rfl, fun i _ => .inl rfl⟩, rfl⟩⟩, trivial⟩, trivial⟩ ?_
   refine ae_then ?_
   refine aw_false rfl ?_
   refine aw_skip ?_
   refine ae_then ?_
   refine aw_seq ?_
   refine aw_seq ?_
   rcases Bool.eq_false_or_eq_true (inB n 2 24) with h2 | h2
   ·have hq2 := inB_iff.1 h2
    rw [resR_yes h1 h2]
    refine aw_reg [(1, .call [(true, I n), (true, I 2), (true, I 24)] true (Bv true))] [1, 2, 10] [2] [I n, .ref 2 0, Bv false] [some (.box [slPoint false s.Points])] [Con Try.prog 36 [I n, I 2, I 24] true (Bv true) ∧ ((I n : AV) = I n) ∧ ((I 2 : AV) = I 2) ∧ ((I 24 : AV) = I 24) ∧ True] (by kernel_rfl) hB ⟨⟨(con_bool h2 (l00In_ok n 2 24)), rfl, rfl, rfl, trivial⟩, trivial⟩ ?_
    refine ae_then ?_
    refine aw_false rfl ?_
    refine aw_skip ?_
    refine ae_then ?_
    refine aw_seq ?_
    refine aw_reg [(1, .call [(false, .ptr false [slPoint false s.Points]), (true, I n)] true (slSpot true (resQ s n)))] [4, 5] [] [slSpot true (resQ s n), I 0] [] [Con Try.prog 48 [.ptr false [slPoint false s.Points], I n] true (slSpot true (resQ s n)) ∧ ((false = true → true = true) ∧ AV.idsL [slPoint false s.Points] = [] ∧ ((false = true → false = true) ∧ 3 = 3 ∧ s.Points.length = s.Points.length ∧ ∀ i, i < s.Points.length → (fPoint s.Points) i = (fPoint s.Points) i ∨ (AV.idsL ((fPoint s.Points) i) = [] ∧ leL (fun _ => none) false ((fPoint s.Points) i) ((fPoint s.Points) i))) ∧ ([] : List AV) = []) ∧ ((I n : AV) = I n) ∧ True] (by kernel_rfl) hB ⟨⟨(l06Resample_ok s n (by assumption) (by omega)), ⟨(fun h => by cases h), rfl, ⟨⟨(fun h => by cases h), rfl, rfl, fun i _ => .inl rfl⟩, rfl⟩⟩, rfl, trivial⟩, trivial⟩ ?_
    refine ae_then ?_
    refine aw_ret ?_
    refine ae_ret hB (.tup [slSpot true (resQ s n), I 0]) (by kernel_rfl) (.inr ⟨⟨(fun _ => rfl), rfl, (by first | rfl | (simp; done) | (simp; omega) | omega), fun i hi => .inl (by first | rfl | fail)⟩, ⟨(by first | rfl | (simp [valOf]; done) | (simp [valOf]; omega)), rfl⟩⟩) rfl (fun _ => (by simp [tagged, taggedL, tagSpot]))
   ·rw [resR_rng h1 h2]
    refine aw_reg [(1, .call [(true, I n), (true, I 2), (true, I 24)] true (Bv false))] [1, 2, 10] [2] [I n, .ref 2 0, Bv true] [some (.box [slPoint false s.Points])] [Con Try.prog 36 [I n, I 2, I 24] true (Bv false) ∧ ((I n : AV) = I n) ∧ ((I 2 : AV) = I 2) ∧ ((I 24 : AV) = I 24) ∧ True] (by kernel_rfl) hB ⟨⟨(con_bool h2 (l00In_ok n 2 24)), rfl, rfl, rfl, trivial⟩, trivial⟩ ?_
    refine ae_then ?_
    refine aw_true rfl ?_
    refine aw_seq ?_
    refine aw_reg [] [4, 5] [] [nilA, I 2] [] [] (by kernel_rfl) hB trivial ?_
    refine ae_then ?_
    refine aw_ret ?_
    refine ae_ret_then ?_
    refine ae_ret hB (.tup [nilA, I 2]) (by kernel_rfl) (.inr ⟨⟨(by simp), rfl⟩, ⟨(by first | rfl | (simp [valOf]; done) | (simp [valOf]; omega)), rfl⟩⟩) rfl (fun _ => (by simp [tagged, taggedL, tagSpot]))
  ·rw [resR_no h1]
   refine aw_reg [(0, .call [(false, .ptr false [slPoint false s.Points])] true (Bv false))] [1, 2, 7] [2] [I n, .ref 2 0, Bv true] [some (.box [slPoint false s.Points])] [Con Try.prog 47 [.ptr false [slPoint false s.Points]] true (Bv false) ∧ ((false = true → true = true) ∧ AV.idsL [slPoint false s.Points] = [] ∧ ((false = true → false = true) ∧ 3 = 3 ∧ s.Points.length = s.Points.length ∧ ∀ i, i < s.Points.length → (fPoint s.Points) i = (fPoint s.Points) i ∨ (AV.idsL ((fPoint s.Points) i) = [] ∧ leL (fun _ => none) false ((fPoint s.Points) i) ((fPoint s.Points) i))) ∧ ([] : List AV) = []) ∧ True] (by kernel_rfl) hB ⟨⟨(con_bool h1 (l02Stroke_ok s)), ⟨(fun h => by cases h), rfl, ⟨⟨(fun h => by cases h), rfl, rfl, fun i _ => .inl rfl⟩, rfl⟩⟩, trivial⟩, trivial⟩ ?_
   refine ae_then ?_
   refine aw_true rfl ?_
   refine aw_seq ?_
   refine aw_reg [] [4, 5] [] [nilA, I 1] [] [] (by kernel_rfl) hB trivial ?_
   refine ae_then ?_
   refine aw_ret ?_
   refine ae_ret_then ?_
   refine ae_ret hB (.tup [nilA, I 1]) (by kernel_rfl) (.inr ⟨⟨(by simp), rfl⟩, ⟨(by first | rfl | (simp [valOf]; done) | (simp [valOf]; omega)), rfl⟩⟩) rfl (fun _ => (by simp [tagged, taggedL, tagSpot]))


-- spec.DrawSpotAt
theorem DrawSpotAt_ok (code : List Int) (hc : (∀ j, j < code.length → 0 ≤ at_ code j ∧ at_ code j ≤ 255) ∧ code.length ≤ 4611686018427387904) : ∃ (v : Stroke) (part : Int) (parts : Int), (0 ≤ parts ∧ parts ≤ 1001) ∧ (-1 ≤ part ∧ part ≤ 1002) ∧ Con Try.prog 20 [slU8 false code] true (.tup [.agg [slPoint true v.Points], I part, I parts]) := by
  have hh : ∃ r : Stroke × Int × Int, ((0 ≤ r.2.2 ∧ r.2.2 ≤ 1001) ∧ (-1 ≤ r.2.1 ∧ r.2.1 ≤ 1002) ∧ (True)) ∧ CallOK Try.prog 20 [slU8 false code] (lookO []) true (.tup [.agg [slPoint true r.1.Points], I r.2.1, I r.2.2]) (lookO []) := by
    refine fn_okX (Φ := fun r : Stroke × Int × Int => (0 ≤ r.2.2 ∧ r.2.2 ≤ 1001) ∧ (-1 ≤ r.2.1 ∧ r.2.1 ≤ 1002) ∧ (True)) [] (fun r => []) (fn := Try.f20) (nt := 30) Try.func20 rfl rfl (args := [slU8 false code]) rfl (allcons (.inl ⟨rfl, tagU8 false _⟩) allnil) (res := fun r => .tup [.agg [slPoint true r.1.Points], I r.2.1, I r.2.2]) ?_
    refine x_seq ?_
    refine x_reg [(0, .new 2)] [0, 2] [2] [slU8 false code, .ref 2 0] [some (.box [nilA])] [] (by kernel_rfl) trivial ?_
    refine xe_then ?_
    refine x_seq ?_
    obtain ⟨s'_1, hx1_0, hc1⟩ := l00From_ok code
    have hsrc : okSrc s'_1 := ⟨by rw [hx1_0.1]; exact hc.1, by rw [hx1_0.2]; decide, by rw [hx1_0.1]; exact hc.2⟩
    have hat0 := hx1_0.2
    refine x_reg [(1, .lend [] [(7001, bxl00Src s'_1)] [(true, slU8 false code)] false (.ref 7001 0))] [2, 5] [2, 7001] [.ref 2 0, .ref 7001 0] [some (.box [nilA]), some (bxl00Src s'_1)] [CallOK Try.prog 25 [slU8 false code] (lookO []) false (.ref 7001 0) (lookO [(7001, bxl00Src s'_1)]) ∧ ((slU8 false code : AV) = slU8 false code) ∧ True] (by kernel_rfl) ⟨⟨hc1, rfl, trivial⟩, trivial⟩ ?_
    refine xe_then ?_
    refine x_seq ?_
    obtain ⟨v_2, s'_2, hx2_0, hx2_1, hx2_2, hc2⟩ := l05Stroke_ok s'_1 (by first | assumption | (simp only [okSrc] at *; simp_all; done)) (by omega)
    refine x_reg [(1, .lend [(7001, bxl00Src s'_1, bxl00Src s'_2)] [] [(true, .ref 7001 0)] true (.agg [slPoint true v_2.Points])), (2, .new 6)] [2, 5, 6] [2, 6, 7001] [.ref 2 0, .ref 7001 0, .ref 6 0] [some (.box [nilA]), some (.box [slPoint true v_2.Points]), some (bxl00Src s'_2)] [CallOK Try.prog 43 [.ref 7001 0] (lookO [(7001, bxl00Src s'_1)]) true (.agg [slPoint true v_2.Points]) (lookO [(7001, bxl00Src s'_2)]) ∧ ((.ref 7001 0 : AV) = .ref 7001 0) ∧ (((bxl00Src s'_1 : Ob) = bxl00Src s'_1 ∨ obLe noOb true (bxl00Src s'_1) (bxl00Src s'_1)) ∧ taggedO false (bxl00Src s'_1)) ∧ True] (by kernel_rfl) ⟨⟨hc2, rfl, ⟨.inl rfl, (by simp [taggedO, taggedL, tagged, tagU8])⟩, trivial⟩, trivial⟩ ?_
    refine xe_then ?_
    refine x_seq ?_
    obtain ⟨v_3, s'_3, hx3_0, hx3_1, hx3_2, hx3_3, hc3⟩ := pick_ok s'_2 12 (by first | assumption | (simp only [okSrc] at *; simp_all; done)) (by omega)
    refine x_reg [(1, .lend [(7001, bxl00Src s'_2, bxl00Src s'_3)] [] [(true, .ref 7001 0), (true, I 12)] true (I v_3))] [2, 5, 6, 7] [2, 6, 7001] [.ref 2 0, .ref 7001 0, .ref 6 0, I (1 + v_3)] [some (.box [nilA]), some (.box [slPoint true v_2.Points]), some (bxl00Src s'_3)] [CallOK Try.prog 27 [.ref 7001 0, I 12] (lookO [(7001, bxl00Src s'_2)]) true (I v_3) (lookO [(7001, bxl00Src s'_3)]) ∧ ((.ref 7001 0 : AV) = .ref 7001 0) ∧ ((I 12 : AV) = I 12) ∧ (((bxl00Src s'_2 : Ob) = bxl00Src s'_2 ∨ obLe noOb true (bxl00Src s'_2) (bxl00Src s'_2)) ∧ taggedO false (bxl00Src s'_2)) ∧ True, inR .i64 (1 + v_3)] (by kernel_rfl) ⟨⟨hc3, rfl, rfl, ⟨.inl rfl, (by simp [taggedO, taggedL, tagged, tagU8])⟩, trivial⟩, (inR_i64 (by omega) (by omega)), trivial⟩ ?_
    refine xe_then ?_
    refine x_seq ?_
    refine x_seq ?_
    obtain ⟨v_4, s'_4, hx4_0, hx4_1, hx4_2, hc4⟩ := one_ok s'_3 12 (by first | assumption | (simp only [okSrc] at *; simp_all; done)) (by omega)
    rcases Bool.eq_false_or_eq_true v_4 with h1 | h1
    ·subst h1
     refine x_reg [(1, .lend [(7001, bxl00Src s'_3, bxl00Src s'_4)] [] [(true, .ref 7001 0), (true, I 12)] true (Bv true))] [2, 5, 6, 7, 16] [2, 6, 7001] [.ref 2 0, .ref 7001 0, .ref 6 0, I (1 + v_3), Bv true] [some (.box [nilA]), some (.box [slPoint true v_2.Points]), some (bxl00Src s'_4)] [CallOK Try.prog 49 [.ref 7001 0, I 12] (lookO [(7001, bxl00Src s'_3)]) true (Bv true) (lookO [(7001, bxl00Src s'_4)]) ∧ ((.ref 7001 0 : AV) = .ref 7001 0) ∧ ((I 12 : AV) = I 12) ∧ (((bxl00Src s'_3 : Ob) = bxl00Src s'_3 ∨ obLe noOb true (bxl00Src s'_3) (bxl00Src s'_3)) ∧ taggedO false (bxl00Src s'_3)) ∧ True] (by kernel_rfl) ⟨⟨hc4, rfl, rfl, ⟨.inl rfl, (by simp [taggedO, taggedL, tagged, tagU8])⟩, trivial⟩, trivial⟩ ?_
     refine xe_then ?_
     refine x_true rfl ?_
     obtain ⟨v_5, s'_5, hx5_0, hx5_1, hx5_2, hx5_3, hc5⟩ := among_ok s'_4 ([0, 1, 1000, 1001]) (by first | assumption | (simp only [okSrc] at *; simp_all; done)) (by omega) (by simp)
     have ham_v_5 : v_5 = 0 ∨ v_5 = 1 ∨ v_5 = 1000 ∨ v_5 = 1001 := by simpa using hx5_0
     refine x_reg [(1, .new 18), (2, .lend [(7001, bxl00Src s'_4, bxl00Src s'_5)] [] [(true, .ref 7001 0), (false, slI false ([0, 1, 1000, 1001]))] true (I v_5))] [2, 5, 6, 7] [2, 6, 7001] [.ref 2 0, .ref 7001 0, .ref 6 0, I v_5] [some (.box [nilA]), some (.box [slPoint true v_2.Points]), some (bxl00Src s'_5)] [CallOK Try.prog 28 [.ref 7001 0, slI false ([0, 1, 1000, 1001])] (lookO [(7001, bxl00Src s'_4)]) true (I v_5) (lookO [(7001, bxl00Src s'_5)]) ∧ ((.ref 7001 0 : AV) = .ref 7001 0) ∧ ((false = true → true = true) ∧ 1 = 1 ∧ 4 = (([0, 1, 1000, 1001]).length) ∧ ∀ i, i < (([0, 1, 1000, 1001]).length) → (litF [I 0, I 1, I 1000, I 1001] 1) i = (fI ([0, 1, 1000, 1001])) i ∨ (AV.idsL ((fI ([0, 1, 1000, 1001])) i) = [] ∧ leL (fun _ => none) false ((litF [I 0, I 1, I 1000, I 1001] 1) i) ((fI ([0, 1, 1000, 1001])) i))) ∧ (((bxl00Src s'_4 : Ob) = bxl00Src s'_4 ∨ obLe noOb true (bxl00Src s'_4) (bxl00Src s'_4)) ∧ taggedO false (bxl00Src s'_4)) ∧ True] (by kernel_rfl) ⟨⟨hc5, rfl, ⟨(fun h => by cases h), rfl, (by first | rfl | (simp; done) | (simp; omega) | omega), fun i hi => .inl (match i, hi with | 0, _ => rfl | 1, _ => rfl | 2, _ => rfl | 3, _ => rfl | (i + 4), h => absurd h (by simp))⟩, ⟨.inl rfl, (by simp [taggedO, taggedL, tagged, tagU8])⟩, trivial⟩, trivial⟩ ?_
     refine xe_then ?_
     refine x_seq ?_
     obtain ⟨v_6, s'_6, hx6_0, hx6_1, hx6_2, hx6_3, hc6⟩ := pick_ok s'_5 (v_5 + 2) (by first | assumption | (simp only [okSrc] at *; simp_all; done)) (by omega)
     obtain ⟨v_7, s'_7, hx7_0, hx7_1, hx7_2, hx7_3, hc7⟩ := pick_ok s'_6 16 (by first | assumption | (simp only [okSrc] at *; simp_all; done)) (by omega)
     refine x_reg [(4, .lend [(7001, bxl00Src s'_5, bxl00Src s'_6)] [] [(true, .ref 7001 0), (true, I (v_5 + 2))] true (I v_6)), (6, .lend [(7001, bxl00Src s'_6, bxl00Src s'_7)] [] [(true, .ref 7001 0), (true, I 16)] true (I v_7)), (7, .nn)] [2, 3, 4] [2] [.ref 2 0, I (v_6 - (v_7 / 15)), I v_5] [some (.box [slPoint true v_2.Points])] [inR .i64 (v_5 + 2), CallOK Try.prog 27 [.ref 7001 0, I (v_5 + 2)] (lookO [(7001, bxl00Src s'_5)]) true (I v_6) (lookO [(7001, bxl00Src s'_6)]) ∧ ((.ref 7001 0 : AV) = .ref 7001 0) ∧ ((I (v_5 + 2) : AV) = I (v_5 + 2)) ∧ (((bxl00Src s'_5 : Ob) = bxl00Src s'_5 ∨ obLe noOb true (bxl00Src s'_5) (bxl00Src s'_5)) ∧ taggedO false (bxl00Src s'_5)) ∧ True, CallOK Try.prog 27 [.ref 7001 0, I 16] (lookO [(7001, bxl00Src s'_6)]) true (I v_7) (lookO [(7001, bxl00Src s'_7)]) ∧ ((.ref 7001 0 : AV) = .ref 7001 0) ∧ ((I 16 : AV) = I 16) ∧ (((bxl00Src s'_6 : Ob) = bxl00Src s'_6 ∨ obLe noOb true (bxl00Src s'_6) (bxl00Src s'_6)) ∧ taggedO false (bxl00Src s'_6)) ∧ True, (0 : Int) ≤ v_7 ∧ (0 : Int) < 15 ∧ inR .i64 v_7, inR .i64 (v_6 - (v_7 / 15))] (by kernel_rfl) ⟨(inR_i64 (by omega) (by omega)), ⟨hc6, rfl, rfl, ⟨.inl rfl, (by simp [taggedO, taggedL, tagged, tagU8])⟩, trivial⟩, ⟨hc7, rfl, rfl, ⟨.inl rfl, (by simp [taggedO, taggedL, tagged, tagU8])⟩, trivial⟩, ⟨(by omega), (by omega), (inR_i64 (by omega) (by omega))⟩, (inR_i64 (by omega) (by omega)), trivial⟩ ?_
     refine xe_then ?_
     refine x_ret ?_
     refine xe_end (v_2, (v_6 - (v_7 / 15)), v_5) (show (0 ≤ v_5 ∧ v_5 ≤ 1001) ∧ (-1 ≤ (v_6 - (v_7 / 15)) ∧ (v_6 - (v_7 / 15)) ≤ 1002) ∧ (True) from ⟨(by first | omega | assumption | rfl | (simp; done) | (simp; omega) | (simp_all; done)), (by first | omega | assumption | rfl | (simp; done) | (simp; omega) | (simp_all; done)), trivial⟩) (trivial) (.tup [.agg [slPoint true v_2.Points], I (v_6 - (v_7 / 15)), I v_5]) (by kernel_rfl) (.inl rfl) (fun _ => rfl) (fun _ => (by simp [tagged, taggedL, tagPoint]))
    ·subst h1
     refine x_reg [(1, .lend [(7001, bxl00Src s'_3, bxl00Src s'_4)] [] [(true, .ref 7001 0), (true, I 12)] true (Bv false))] [2, 5, 6, 7, 16] [2, 6, 7001] [.ref 2 0, .ref 7001 0, .ref 6 0, I (1 + v_3), Bv false] [some (.box [nilA]), some (.box [slPoint true v_2.Points]), some (bxl00Src s'_4)] [CallOK Try.prog 49 [.ref 7001 0, I 12] (lookO [(7001, bxl00Src s'_3)]) true (Bv false) (lookO [(7001, bxl00Src s'_4)]) ∧ ((.ref 7001 0 : AV) = .ref 7001 0) ∧ ((I 12 : AV) = I 12) ∧ (((bxl00Src s'_3 : Ob) = bxl00Src s'_3 ∨ obLe noOb true (bxl00Src s'_3) (bxl00Src s'_3)) ∧ taggedO false (bxl00Src s'_3)) ∧ True] (by kernel_rfl) ⟨⟨hc4, rfl, rfl, ⟨.inl rfl, (by simp [taggedO, taggedL, tagged, tagU8])⟩, trivial⟩, trivial⟩ ?_
     refine xe_then ?_
     refine x_false rfl ?_
     refine x_skip ?_
     refine xe_then ?_
     refine x_seq ?_
     obtain ⟨v_8, s'_8, hx8_0, hx8_1, hx8_2, hx8_3, hc8⟩ := pick_ok s'_4 ((1 + v_3) + 2) (by first | assumption | (simp only [okSrc] at *; simp_all; done)) (by omega)
     obtain ⟨v_9, s'_9, hx9_0, hx9_1, hx9_2, hx9_3, hc9⟩ := pick_ok s'_8 16 (by first | assumption | (simp only [okSrc] at *; simp_all; done)) (by omega)
     refine x_reg [(4, .lend [(7001, bxl00Src s'_4, bxl00Src s'_8)] [] [(true, .ref 7001 0), (true, I ((1 + v_3) + 2))] true (I v_8)), (6, .lend [(7001, bxl00Src s'_8, bxl00Src s'_9)] [] [(true, .ref 7001 0), (true, I 16)] true (I v_9)), (7, .nn)] [2, 3, 4] [2] [.ref 2 0, I (v_8 - (v_9 / 15)), I (1 + v_3)] [some (.box [slPoint true v_2.Points])] [inR .i64 ((1 + v_3) + 2), CallOK Try.prog 27 [.ref 7001 0, I ((1 + v_3) + 2)] (lookO [(7001, bxl00Src s'_4)]) true (I v_8) (lookO [(7001, bxl00Src s'_8)]) ∧ ((.ref 7001 0 : AV) = .ref 7001 0) ∧ ((I ((1 + v_3) + 2) : AV) = I ((1 + v_3) + 2)) ∧ (((bxl00Src s'_4 : Ob) = bxl00Src s'_4 ∨ obLe noOb true (bxl00Src s'_4) (bxl00Src s'_4)) ∧ taggedO false (bxl00Src s'_4)) ∧ True, CallOK Try.prog 27 [.ref 7001 0, I 16] (lookO [(7001, bxl00Src s'_8)]) true (I v_9) (lookO [(7001, bxl00Src s'_9)]) ∧ ((.ref 7001 0 : AV) = .ref 7001 0) ∧ ((I 16 : AV) = I 16) ∧ (((bxl00Src s'_8 : Ob) = bxl00Src s'_8 ∨ obLe noOb true (bxl00Src s'_8) (bxl00Src s'_8)) ∧ taggedO false (bxl00Src s'_8)) ∧ True, (0 : Int) ≤ v_9 ∧ (0 : Int) < 15 ∧ inR .i64 v_9, inR .i64 (v_8 - (v_9 / 15))] (by kernel_rfl) ⟨(inR_i64 (by omega) (by omega)), ⟨hc8, rfl, rfl, ⟨.inl rfl, (by simp [taggedO, taggedL, tagged, tagU8])⟩, trivial⟩, ⟨hc9, rfl, rfl, ⟨.inl rfl, (by simp [taggedO, taggedL, tagged, tagU8])⟩, trivial⟩, ⟨(by omega), (by omega), (inR_i64 (by omega) (by omega))⟩, (inR_i64 (by omega) (by omega)), trivial⟩ ?_
     refine xe_then ?_
     refine x_ret ?_
     refine xe_end (v_2, (v_8 - (v_9 / 15)), (1 + v_3)) (show (0 ≤ (1 + v_3) ∧ (1 + v_3) ≤ 1001) ∧ (-1 ≤ (v_8 - (v_9 / 15)) ∧ (v_8 - (v_9 / 15)) ≤ 1002) ∧ (True) from ⟨(by first | omega | assumption | rfl | (simp; done) | (simp; omega) | (simp_all; done)), (by first | omega | assumption | rfl | (simp; done) | (simp; omega) | (simp_all; done)), trivial⟩) (trivial) (.tup [.agg [slPoint true v_2.Points], I (v_8 - (v_9 / 15)), I (1 + v_3)]) (by kernel_rfl) (.inl rfl) (fun _ => rfl) (fun _ => (by simp [tagged, taggedL, tagPoint]))
  obtain ⟨⟨v, part, parts⟩, ⟨hh0, hh1, _⟩, hc⟩ := hh
  exact ⟨v, part, parts, hh0, hh1, hc⟩


-- impl.SpotAt
theorem implSpotAt_ok (s : Stroke) (part : Int) (parts : Int) : Con Try.prog 21 [.agg [slPoint false s.Points], I part, I parts] true (.tup [.agg [I (((spotR s part parts).1).X), I (((spotR s part parts).1).Y)], I ((spotR s part parts).2)]) := by
  refine fn_ok (fn := Try.f21) (nt := 28) Try.func21 rfl rfl rfl rfl (by simp [taggedL, tagged, tagPoint]) fun B hB => ?_
  refine aw_lens (x := .agg [slPoint false s.Points]) 0 rfl (fun len_s => ?_)
  simp [LenOK, LenL, cPoint, fPoint, slPoint] at len_s
  refine aw_seq ?_
  refine aw_reg [(0, .new 3), (1, .new 6)] [1, 2, 3, 6] [3, 6] [I part, I parts, .ref 3 0, .ref 6 0] [some (.box [slPoint false s.Points]), some (.box [I 0, I 0])] [] (by kernel_rfl) hB trivial ?_
  refine ae_then ?_
  refine aw_seq ?_
  refine aw_seq ?_
  rcases Bool.eq_false_or_eq_true (okStroke' s) with h1 | h1
  ·refine aw_reg [(1, .call [(true, .agg [slPoint false s.Points])] true (Bv true))] [1, 2, 3, 6, 10] [3, 6] [I part, I parts, .ref 3 0, .ref 6 0, Bv false] [some (.box [slPoint false s.Points]), some (.box [I 0, I 0])] [Con Try.prog 45 [.agg [slPoint false s.Points]] true (Bv true) ∧ ((.agg [slPoint false s.Points] : AV) = .agg [slPoint false s.Points]) ∧ True] (by kernel_rfl) hB ⟨⟨(con_bool h1 (ValidStroke_ok s)), rfl, trivial⟩, trivial⟩ ?_
   refine ae_then ?_
   refine aw_false rfl ?_
   refine aw_skip ?_
   refine ae_then ?_
   refine aw_seq ?_
   refine aw_seq ?_
   rcases Bool.eq_false_or_eq_true (inB parts 1 1000) with h2 | h2
   ·have hq2 := inB_iff.1 h2
    rcases Bool.eq_false_or_eq_true (inB part 0 parts) with h3 | h3
    ·have hq3 := inB_iff.1 h3
     refine aw_reg [(1, .call [(true, I parts), (true, I 1), (true, I 1000)] true (Bv true)), (6, .call [(true, I part), (true, I 0), (true, I parts)] true (Bv true))] [1, 2, 3, 6, 20] [3, 6] [I part, I parts, .ref 3 0, .ref 6 0, Bv false] [some (.box [slPoint false s.Points]), some (.box [I 0, I 0])] [Con Try.prog 30 [I parts, I 1, I 1000] true (Bv true) ∧ ((I parts : AV) = I parts) ∧ ((I 1 : AV) = I 1) ∧ ((I 1000 : AV) = I 1000) ∧ True, Con Try.prog 30 [I part, I 0, I parts] true (Bv true) ∧ ((I part : AV) = I part) ∧ ((I 0 : AV) = I 0) ∧ ((I parts : AV) = I parts) ∧ True] (by kernel_rfl) hB ⟨⟨(con_bool h2 (within_ok parts 1 1000)), rfl, rfl, rfl, trivial⟩, ⟨(con_bool h3 (within_ok part 0 parts)), rfl, rfl, rfl, trivial⟩, trivial⟩ ?_
     refine ae_then ?_
     refine aw_false rfl ?_
     refine aw_skip ?_
     refine ae_then ?_
     refine aw_seq ?_
     refine aw_reg [(2, .call [(true, .agg [slPoint false s.Points])] true (slI true (arcsL s.Points s.Points.length))), (5, .call [(true, .agg [slPoint false s.Points]), (false, slI false (arcsL s.Points s.Points.length)), (true, I part), (true, I parts)] true (.agg [I ((spotI s part parts).X), I ((spotI s part parts).Y)]))] [6, 7] [6] [.ref 6 0, I 0] [some (.box [I ((spotI s part parts).X), I ((spotI s part parts).Y)])] [Con Try.prog 51 [.agg [slPoint false s.Points]] true (slI true (arcsL s.Points s.Points.length)) ∧ ((.agg [slPoint false s.Points] : AV) = .agg [slPoint false s.Points]) ∧ True, Con Try.prog 50 [.agg [slPoint false s.Points], slI false (arcsL s.Points s.Points.length), I part, I parts] true (.agg [I ((spotI s part parts).X), I ((spotI s part parts).Y)]) ∧ ((.agg [slPoint false s.Points] : AV) = .agg [slPoint false s.Points]) ∧ ((false = true → true = true) ∧ 1 = 1 ∧ ((arcsL s.Points s.Points.length).length) = ((arcsL s.Points s.Points.length).length) ∧ ∀ i, i < ((arcsL s.Points s.Points.length).length) → (fI (arcsL s.Points s.Points.length)) i = (fI (arcsL s.Points s.Points.length)) i ∨ (AV.idsL ((fI (arcsL s.Points s.Points.length)) i) = [] ∧ leL (fun _ => none) false ((fI (arcsL s.Points s.Points.length)) i) ((fI (arcsL s.Points s.Points.length)) i))) ∧ ((I part : AV) = I part) ∧ ((I parts : AV) = I parts) ∧ True] (by kernel_rfl) hB ⟨⟨(arcsOf_ok s (by assumption)), rfl, trivial⟩, ⟨(spotAt_ok s (arcsL s.Points s.Points.length) part parts (by assumption) (by first | rfl | assumption) (by omega)), rfl, ⟨(fun h => by cases h), rfl, rfl, fun i _ => .inl rfl⟩, rfl, rfl, trivial⟩, trivial⟩ ?_
     refine ae_then ?_
     refine aw_ret ?_
     refine ae_ret hB (.tup [.agg [I ((spotI s part parts).X), I ((spotI s part parts).Y)], I 0]) (by kernel_rfl) (.inl (by simp [spotR, *])) rfl (fun _ => (by simp [tagged, taggedL]))
    ·refine aw_reg [(1, .call [(true, I parts), (true, I 1), (true, I 1000)] true (Bv true)), (6, .call [(true, I part), (true, I 0), (true, I parts)] true (Bv false))] [1, 2, 3, 6, 20] [3, 6] [I part, I parts, .ref 3 0, .ref 6 0, Bv true] [some (.box [slPoint false s.Points]), some (.box [I 0, I 0])] [Con Try.prog 30 [I parts, I 1, I 1000] true (Bv true) ∧ ((I parts : AV) = I parts) ∧ ((I 1 : AV) = I 1) ∧ ((I 1000 : AV) = I 1000) ∧ True, Con Try.prog 30 [I part, I 0, I parts] true (Bv false) ∧ ((I part : AV) = I part) ∧ ((I 0 : AV) = I 0) ∧ ((I parts : AV) = I parts) ∧ True] (by kernel_rfl) hB ⟨⟨(con_bool h2 (within_ok parts 1 1000)), rfl, rfl, rfl, trivial⟩, ⟨(con_bool h3 (within_ok part 0 parts)), rfl, rfl, rfl, trivial⟩, trivial⟩ ?_
     refine ae_then ?_
     refine aw_true rfl ?_
     refine aw_seq ?_
     refine aw_reg [] [6, 7] [6] [.ref 6 0, I 2] [some (.box [I 0, I 0])] [] (by kernel_rfl) hB trivial ?_
     refine ae_then ?_
     refine aw_ret ?_
     refine ae_ret_then ?_
     refine ae_ret hB (.tup [.agg [I 0, I 0], I 2]) (by kernel_rfl) (.inl (by simp [spotR, *])) rfl (fun _ => (by simp [tagged, taggedL]))
   ·refine aw_reg [(1, .call [(true, I parts), (true, I 1), (true, I 1000)] true (Bv false))] [1, 2, 3, 6, 20] [3, 6] [I part, I parts, .ref 3 0, .ref 6 0, Bv true] [some (.box [slPoint false s.Points]), some (.box [I 0, I 0])] [Con Try.prog 30 [I parts, I 1, I 1000] true (Bv false) ∧ ((I parts : AV) = I parts) ∧ ((I 1 : AV) = I 1) ∧ ((I 1000 : AV) = I 1000) ∧ True] (by kernel_rfl) hB ⟨⟨(con_bool h2 (within_ok parts 1 1000)), rfl, rfl, rfl, trivial⟩, trivial⟩ ?_
    refine ae_then ?_
    refine aw_true rfl ?_
    refine aw_seq ?_
    refine aw_reg [] [6, 7] [6] [.ref 6 0, I 2] [some (.box [I 0, I 0])] [] (by kernel_rfl) hB trivial ?_
    refine ae_then ?_
    refine aw_ret ?_
    refine ae_ret_then ?_
    refine ae_ret hB (.tup [.agg [I 0, I 0], I 2]) (by kernel_rfl) (.inl (by simp [spotR, *])) rfl (fun _ => (by simp [tagged, taggedL]))
  ·refine aw_reg [(1, .call [(true, .agg [slPoint false s.Points])] true (Bv false))] [1, 2, 3, 6, 10] [3, 6] [I part, I parts, .ref 3 0, .ref 6 0, Bv true] [some (.box [slPoint false s.Points]), some (.box [I 0, I 0])] [Con Try.prog 45 [.agg [slPoint false s.Points]] true (Bv false) ∧ ((.agg [slPoint false s.Points] : AV) = .agg [slPoint false s.Points]) ∧ True] (by kernel_rfl) hB ⟨⟨(con_bool h1 (ValidStroke_ok s)), rfl, trivial⟩, trivial⟩ ?_
   refine ae_then ?_
   refine aw_true rfl ?_
   refine aw_seq ?_
   refine aw_reg [] [6, 7] [6] [.ref 6 0, I 1] [some (.box [I 0, I 0])] [] (by kernel_rfl) hB trivial ?_
   refine ae_then ?_
   refine aw_ret ?_
   refine ae_ret_then ?_
   refine ae_ret hB (.tup [.agg [I 0, I 0], I 1]) (by kernel_rfl) (.inl (by simp [spotR, *])) rfl (fun _ => (by simp [tagged, taggedL]))


-- spec.SpotAt
theorem specSpotAt_ok (s : Stroke) (part : Int) (parts : Int) : Con Try.prog 22 [.agg [slPoint false s.Points], I part, I parts] true (.tup [.agg [I (((spotR s part parts).1).X), I (((spotR s part parts).1).Y)], I ((spotR s part parts).2)]) := by
  refine fn_ok (fn := Try.f22) (nt := 25) Try.func22 rfl rfl rfl rfl (by simp [taggedL, tagged, tagPoint]) fun B hB => ?_
  refine aw_lens (x := .agg [slPoint false s.Points]) 0 rfl (fun len_s => ?_)
  simp [LenOK, LenL, cPoint, fPoint, slPoint] at len_s
  refine aw_seq ?_
  refine aw_reg [(0, .new 3), (1, .new 6)] [1, 2, 3, 6] [3, 6] [I part, I parts, .ref 3 0, .ref 6 0] [some (.box [slPoint false s.Points]), some (.box [I 0, I 0])] [] (by kernel_rfl) hB trivial ?_
  refine ae_then ?_
  refine aw_seq ?_
  refine aw_seq ?_
  rcases Bool.eq_false_or_eq_true (okStroke' s) with h1 | h1
  ·refine aw_reg [(0, .call [(false, .ptr false [slPoint false s.Points])] true (Bv true))] [1, 2, 3, 6, 9] [3, 6] [I part, I parts, .ref 3 0, .ref 6 0, Bv false] [some (.box [slPoint false s.Points]), some (.box [I 0, I 0])] [Con Try.prog 47 [.ptr false [slPoint false s.Points]] true (Bv true) ∧ ((false = true → true = true) ∧ AV.idsL [slPoint false s.Points] = [] ∧ ((false = true → false = true) ∧ 3 = 3 ∧ s.Points.length = s.Points.length ∧ ∀ i, i < s.Points.length → (fPoint s.Points) i = (fPoint s.Points) i ∨ (AV.idsL ((fPoint s.Points) i) = [] ∧ leL (fun _ => none) false ((fPoint s.Points) i) ((fPoint s.Points) i))) ∧ ([] : List AV) = []) ∧ True] (by kernel_rfl) hB ⟨⟨(con_bool h1 (l02Stroke_ok s)), ⟨(fun h => by cases h), rfl, ⟨⟨(fun h => by cases h), rfl, rfl, fun i _ => .inl rfl⟩, rfl⟩⟩, trivial⟩, trivial⟩ ?_
   refine ae_then ?_
   refine aw_false rfl ?_
   refine aw_skip ?_
   refine ae_then ?_
   refine aw_seq ?_
   refine aw_seq ?_
   rcases Bool.eq_false_or_eq_true (inB parts 1 1000) with h2 | h2
   ·have hq2 := inB_iff.1 h2
    rcases Bool.eq_false_or_eq_true (inB part 0 parts) with h3 | h3
    ·have hq3 := inB_iff.1 h3
     refine aw_reg [(1, .call [(true, I parts), (true, I 1), (true, I 1000)] true (Bv true)), (6, .call [(true, I part), (true, I 0), (true, I parts)] true (Bv true))] [1, 2, 3, 6, 19] [3, 6] [I part, I parts, .ref 3 0, .ref 6 0, Bv false] [some (.box [slPoint false s.Points]), some (.box [I 0, I 0])] [Con Try.prog 36 [I parts, I 1, I 1000] true (Bv true) ∧ ((I parts : AV) = I parts) ∧ ((I 1 : AV) = I 1) ∧ ((I 1000 : AV) = I 1000) ∧ True, Con Try.prog 36 [I part, I 0, I parts] true (Bv true) ∧ ((I part : AV) = I part) ∧ ((I 0 : AV) = I 0) ∧ ((I parts : AV) = I parts) ∧ True] (by kernel_rfl) hB ⟨⟨(con_bool h2 (l00In_ok parts 1 1000)), rfl, rfl, rfl, trivial⟩, ⟨(con_bool h3 (l00In_ok part 0 parts)), rfl, rfl, rfl, trivial⟩, trivial⟩ ?_
     refine ae_then ?_
     refine aw_false rfl ?_
     refine aw_skip ?_
     refine ae_then ?_
     refine aw_seq ?_
     refine aw_reg [(0, .call [(false, .ptr false [slPoint false s.Points])] true (slI true (arcsL s.Points s.Points.length))), (3, .call [(false, .ptr false [slPoint false s.Points]), (false, slI false (arcsL s.Points s.Points.length)), (true, I part), (true, I parts)] true (.agg [I ((spotI s part parts).X), I ((spotI s part parts).Y)]))] [6, 7] [6] [.ref 6 0, I 0] [some (.box [I ((spotI s part parts).X), I ((spotI s part parts).Y)])] [Con Try.prog 53 [.ptr false [slPoint false s.Points]] true (slI true (arcsL s.Points s.Points.length)) ∧ ((false = true → true = true) ∧ AV.idsL [slPoint false s.Points] = [] ∧ ((false = true → false = true) ∧ 3 = 3 ∧ s.Points.length = s.Points.length ∧ ∀ i, i < s.Points.length → (fPoint s.Points) i = (fPoint s.Points) i ∨ (AV.idsL ((fPoint s.Points) i) = [] ∧ leL (fun _ => none) false ((fPoint s.Points) i) ((fPoint s.Points) i))) ∧ ([] : List AV) = []) ∧ True, Con Try.prog 52 [.ptr false [slPoint false s.Points], slI false (arcsL s.Points s.Points.length), I part, I parts] true (.agg [I ((spotI s part parts).X), I ((spotI s part parts).Y)]) ∧ ((false = true → true = true) ∧ AV.idsL [slPoint false s.Points] = [] ∧ ((false = true → false = true) ∧ 3 = 3 ∧ s.Points.length = s.Points.length ∧ ∀ i, i < s.Points.length → (fPoint s.Points) i = (fPoint s.Points) i ∨ (AV.idsL ((fPoint s.Points) i) = [] ∧ leL (fun _ => none) false ((fPoint s.Points) i) ((fPoint s.Points) i))) ∧ ([] : List AV) = []) ∧ ((false = true → true = true) ∧ 1 = 1 ∧ ((arcsL s.Points s.Points.length).length) = ((arcsL s.Points s.Points.length).length) ∧ ∀ i, i < ((arcsL s.Points s.Points.length).length) → (fI (arcsL s.Points s.Points.length)) i = (fI (arcsL s.Points s.Points.length)) i ∨ (AV.idsL ((fI (arcsL s.Points s.Points.length)) i) = [] ∧ leL (fun _ => none) false ((fI (arcsL s.Points s.Points.length)) i) ((fI (arcsL s.Points s.Points.length)) i))) ∧ ((I part : AV) = I part) ∧ ((I parts : AV) = I parts) ∧ True] (by kernel_rfl) hB ⟨⟨(l06Arcs_ok s (by assumption)), ⟨(fun h => by cases h), rfl, ⟨⟨(fun h => by cases h), rfl, rfl, fun i _ => .inl rfl⟩, rfl⟩⟩, trivial⟩, ⟨(l06At_ok s (arcsL s.Points s.Points.length) part parts (by assumption) (by first | rfl | assumption) (by omega)), ⟨(fun h => by cases h), rfl, ⟨⟨(fun h => by cases h), rfl, rfl, fun i _ => .inl rfl⟩, rfl⟩⟩, ⟨(fun h => by cases h), rfl, rfl, fun i _ => .inl rfl⟩, rfl, rfl, trivial⟩, trivial⟩ ?_
     refine ae_then ?_
     refine aw_ret ?_
     refine ae_ret hB (.tup [.agg [I ((spotI s part parts).X), I ((spotI s part parts).Y)], I 0]) (by kernel_rfl) (.inl (by simp [spotR, *])) rfl (fun _ => (by simp [tagged, taggedL]))
    ·refine aw_reg [(1, .call [(true, I parts), (true, I 1), (true, I 1000)] true (Bv true)), (6, .call [(true, I part), (true, I 0), (true, I parts)] true (Bv false))] [1, 2, 3, 6, 19] [3, 6] [I part, I parts, .ref 3 0, .ref 6 0, Bv true] [some (.box [slPoint false s.Points]), some (.box [I 0, I 0])] [Con Try.prog 36 [I parts, I 1, I 1000] true (Bv true) ∧ ((I parts : AV) = I parts) ∧ ((I 1 : AV) = I 1) ∧ ((I 1000 : AV) = I 1000) ∧ True, Con Try.prog 36 [I part, I 0, I parts] true (Bv false) ∧ ((I part : AV) = I part) ∧ ((I 0 : AV) = I 0) ∧ ((I parts : AV) = I parts) ∧ True] (by kernel_rfl) hB ⟨⟨(con_bool h2 (l00In_ok parts 1 1000)), rfl, rfl, rfl, trivial⟩, ⟨(con_bool h3 (l00In_ok part 0 parts)), rfl, rfl, rfl, trivial⟩, trivial⟩ ?_
     refine ae_then ?_
     refine aw_true rfl ?_
     refine aw_seq ?_
     refine aw_reg [] [6, 7] [6] [.ref 6 0, I 2] [some (.box [I 0, I 0])] [] (by kernel_rfl) hB trivial ?_
     refine ae_then ?_
     refine aw_ret ?_
     refine ae_ret_then ?_
     refine ae_ret hB (.tup [.agg [I 0, I 0], I 2]) (by kernel_rfl) (.inl (by simp [spotR, *])) rfl (fun _ => (by simp [tagged, taggedL]))
   ·refine aw_reg [(1, .call [(true, I parts), (true, I 1), (true, I 1000)] true (Bv false))] [1, 2, 3, 6, 19] [3, 6] [I part, I parts, .ref 3 0, .ref 6 0, Bv true] [some (.box [slPoint false s.Points]), some (.box [I 0, I 0])] [Con Try.prog 36 [I parts, I 1, I 1000] true (Bv false) ∧ ((I parts : AV) = I parts) ∧ ((I 1 : AV) = I 1) ∧ ((I 1000 : AV) = I 1000) ∧ True] (by kernel_rfl) hB ⟨⟨(con_bool h2 (l00In_ok parts 1 1000)), rfl, rfl, rfl, trivial⟩, trivial⟩ ?_
    refine ae_then ?_
    refine aw_true rfl ?_
    refine aw_seq ?_
    refine aw_reg [] [6, 7] [6] [.ref 6 0, I 2] [some (.box [I 0, I 0])] [] (by kernel_rfl) hB trivial ?_
    refine ae_then ?_
    refine aw_ret ?_
    refine ae_ret_then ?_
    refine ae_ret hB (.tup [.agg [I 0, I 0], I 2]) (by kernel_rfl) (.inl (by simp [spotR, *])) rfl (fun _ => (by simp [tagged, taggedL]))
  ·refine aw_reg [(0, .call [(false, .ptr false [slPoint false s.Points])] true (Bv false))] [1, 2, 3, 6, 9] [3, 6] [I part, I parts, .ref 3 0, .ref 6 0, Bv true] [some (.box [slPoint false s.Points]), some (.box [I 0, I 0])] [Con Try.prog 47 [.ptr false [slPoint false s.Points]] true (Bv false) ∧ ((false = true → true = true) ∧ AV.idsL [slPoint false s.Points] = [] ∧ ((false = true → false = true) ∧ 3 = 3 ∧ s.Points.length = s.Points.length ∧ ∀ i, i < s.Points.length → (fPoint s.Points) i = (fPoint s.Points) i ∨ (AV.idsL ((fPoint s.Points) i) = [] ∧ leL (fun _ => none) false ((fPoint s.Points) i) ((fPoint s.Points) i))) ∧ ([] : List AV) = []) ∧ True] (by kernel_rfl) hB ⟨⟨(con_bool h1 (l02Stroke_ok s)), ⟨(fun h => by cases h), rfl, ⟨⟨(fun h => by cases h), rfl, rfl, fun i _ => .inl rfl⟩, rfl⟩⟩, trivial⟩, trivial⟩ ?_
   refine ae_then ?_
   refine aw_true rfl ?_
   refine aw_seq ?_
   refine aw_reg [] [6, 7] [6] [.ref 6 0, I 1] [some (.box [I 0, I 0])] [] (by kernel_rfl) hB trivial ?_
   refine ae_then ?_
   refine aw_ret ?_
   refine ae_ret_then ?_
   refine ae_ret hB (.tup [.agg [I 0, I 0], I 1]) (by kernel_rfl) (.inl (by simp [spotR, *])) rfl (fun _ => (by simp [tagged, taggedL]))


-- spec.l06Same
theorem l06Same_ok (a : List Spot) (b : List Spot) : Con Try.prog 54 [slSpot false a, slSpot false b] true (Bv (sameL a b)) := by
  refine fn_ok (fn := Try.f54) (nt := 26) Try.func54 rfl rfl rfl rfl (by simp [taggedL, tagged, tagSpot]) fun B hB => ?_
  refine aw_lens (x := slSpot false a) 0 rfl (fun len_a => ?_)
  simp [LenOK, LenL, cSpot, fSpot, slSpot] at len_a
  refine aw_lens (x := slSpot false b) 1 rfl (fun len_b => ?_)
  simp [LenOK, LenL, cSpot, fSpot, slSpot] at len_b
  refine aw_seq ?_
  refine aw_reg [] [0, 1] [] [slSpot false a, slSpot false b] [] [] (by kernel_rfl) hB trivial ?_
  refine ae_then ?_
  refine aw_seq ?_
  refine aw_seq ?_
  by_cases h1 : (a.length : Int) = (b.length : Int)
  ·have hlen : a.length = b.length := by omega
   refine aw_reg [(4, .dec false)] [0, 1, 10] [] [slSpot false a, slSpot false b, Bv false] [] [¬ ((a.length : Int) ≠ (b.length : Int))] (by kernel_rfl) hB ⟨(fun hq => hq h1), trivial⟩ ?_
   refine ae_then ?_
   refine aw_false rfl ?_
   refine aw_skip ?_
   refine ae_then ?_
   refine aw_seq ?_
   refine aw_seq ?_
   refine aw_reg [] [0, 1, 5] [] [slSpot false a, slSpot false b, I 0] [] [] (by kernel_rfl) hB trivial ?_
   refine ae_then ?_
   refine aw_block ?_
   refine aw_loop (fun gn gσ => ∃ (i : Int), gn = ((a.length : Int) - i).toNat ∧ (0 ≤ i ∧ i ≤ (a.length : Int)) ∧ (∀ j : Nat, (j : Int) < i → decide (at_ a j = at_ b j) = true) ∧ gσ = mkS [(0, slSpot false a), (1, slSpot false b), (5, I i)] []) (((a.length : Int) - 0).toNat) ⟨0, rfl, (by omega), (by intro j hj; omega), rfl⟩ (fun gn gσ hI => ?_)
   obtain ⟨i, rfl, hi0, hall0, rfl⟩ := hI
   refine aw_seq ?_
   refine aw_seq ?_
   by_cases h2 : i < (a.length : Int)
   ·have hi : i.toNat < a.length := by omega
    refine aw_reg [(3, .dec true)] [0, 1, 5, 14] [] [slSpot false a, slSpot false b, I i, Bv true] [] [i < (a.length : Int)] (by kernel_rfl) hB ⟨h2, trivial⟩ ?_
    refine ae_then ?_
    refine aw_true rfl ?_
    refine aw_skip ?_
    refine ae_then ?_
    refine aw_seq ?_
    refine aw_block ?_
    refine aw_seq ?_
    by_cases h3 : ((at_ a i.toNat).X) = ((at_ b i.toNat).X) ∧ ((at_ a i.toNat).Y) = ((at_ b i.toNat).Y) ∧ True
    ·have hok : decide (at_ a i.toNat = at_ b i.toNat) = true := decide_eq_true (spot_ext h3.1 h3.2.1)
     refine aw_reg [(8, .dec false)] [0, 1, 5, 25] [] [slSpot false a, slSpot false b, I i, Bv false] [] [(0 : Int) ≤ i ∧ i < (a.length : Int), (0 : Int) ≤ i ∧ i < (b.length : Int), ¬ (¬ (((at_ a i.toNat).X) = ((at_ b i.toNat).X) ∧ ((at_ a i.toNat).Y) = ((at_ b i.toNat).Y) ∧ True))] (by kernel_rfl) hB ⟨⟨(by omega), (by omega)⟩, ⟨(by omega), (by omega)⟩, (fun hq => hq h3), trivial⟩ ?_
     refine ae_then ?_
     refine aw_false rfl ?_
     refine aw_skip ?_
     refine ae_block 1 ?_
     refine ae_then ?_
     refine aw_reg [] [0, 1, 5] [] [slSpot false a, slSpot false b, I (i + 1)] [] [inR .i64 (i + 1)] (by kernel_rfl) hB ⟨(inR_i64 (by omega) (by omega)), trivial⟩ ?_
     exact ae_again _ (by omega) ⟨(i + 1), rfl, (by omega), (by intro j hj; by_cases ej : j = i.toNat; (subst ej; first | assumption | exact hok); exact hall0 j (by omega)), rfl⟩
    ·have hall : allN a.length (fun j => decide (at_ a j = at_ b j)) = false := allN_not hi (decide_eq_false (fun e => h3 ⟨by rw [e], by rw [e], trivial⟩))
     refine aw_reg [(8, .dec true)] [0, 1, 5, 25] [] [slSpot false a, slSpot false b, I i, Bv true] [] [(0 : Int) ≤ i ∧ i < (a.length : Int), (0 : Int) ≤ i ∧ i < (b.length : Int), ¬ (((at_ a i.toNat).X) = ((at_ b i.toNat).X) ∧ ((at_ a i.toNat).Y) = ((at_ b i.toNat).Y) ∧ True)] (by kernel_rfl) hB ⟨⟨(by omega), (by omega)⟩, ⟨(by omega), (by omega)⟩, h3, trivial⟩ ?_
     refine ae_then ?_
     refine aw_true rfl ?_
     refine aw_seq ?_
     refine aw_reg [] [4] [] [Bv false] [] [] (by kernel_rfl) hB trivial ?_
     refine ae_then ?_
     refine aw_ret ?_
     refine ae_ret_block (ae_ret_then (ae_ret_then (ae_ret_block (ae_ret_then ?_))))
     refine ae_ret hB (Bv false) (by kernel_rfl) (.inl (by first | (simp [sameL, hlen]; done) | (unfold sameL; rw [hall]; simp [hlen]))) rfl (fun _ => trivial)
   ·have hall : allN a.length (fun j => decide (at_ a j = at_ b j)) = true := allN_at (fun j hj => hall0 j (by omega))
    refine aw_reg [(3, .dec false)] [0, 1, 5, 14] [] [slSpot false a, slSpot false b, I i, Bv false] [] [¬ (i < (a.length : Int))] (by kernel_rfl) hB ⟨h2, trivial⟩ ?_
    refine ae_then ?_
    refine aw_false rfl ?_
    refine aw_exit ?_
    refine ae_exit_then ?_
    refine ae_exit_then ?_
    refine ae_exit_same ?_
    refine ae_then ?_
    refine aw_seq ?_
    refine aw_reg [] [4] [] [Bv true] [] [] (by kernel_rfl) hB trivial ?_
    refine ae_then ?_
    refine aw_ret ?_
    refine ae_ret hB (Bv true) (by kernel_rfl) (.inl (by first | (simp [sameL, hlen]; done) | (unfold sameL; rw [hall]; simp [hlen]))) rfl (fun _ => trivial)
  ·have hlen : ¬ a.length = b.length := by omega
   refine aw_reg [(4, .dec true)] [0, 1, 10] [] [slSpot false a, slSpot false b, Bv true] [] [(a.length : Int) ≠ (b.length : Int)] (by kernel_rfl) hB ⟨h1, trivial⟩ ?_
   refine ae_then ?_
   refine aw_true rfl ?_
   refine aw_seq ?_
   refine aw_reg [] [4] [] [Bv false] [] [] (by kernel_rfl) hB trivial ?_
   refine ae_then ?_
   refine aw_ret ?_
   refine ae_ret_then ?_
   refine ae_ret hB (Bv false) (by kernel_rfl) (.inl (by first | (simp [sameL, hlen]; done) | (unfold sameL; rw [hall]; simp [hlen]))) rfl (fun _ => trivial)


-- spec.SameSpots
theorem specSameSpots_ok (a : List Spot) (b : List Spot) : Con Try.prog 23 [slSpot false a, slSpot false b] true (Bv (sameL a b)) := by
  refine fn_ok (fn := Try.f23) (nt := 8) Try.func23 rfl rfl rfl rfl (by simp [taggedL, tagged, tagSpot]) fun B hB => ?_
  refine aw_lens (x := slSpot false a) 0 rfl (fun len_a => ?_)
  simp [LenOK, LenL, cSpot, fSpot, slSpot] at len_a
  refine aw_lens (x := slSpot false b) 1 rfl (fun len_b => ?_)
  simp [LenOK, LenL, cSpot, fSpot, slSpot] at len_b
  refine aw_seq ?_
  refine aw_reg [] [0, 1] [] [slSpot false a, slSpot false b] [] [] (by kernel_rfl) hB trivial ?_
  refine ae_then ?_
  refine aw_seq ?_
  refine aw_reg [(2, .call [(true, slSpot false a), (true, slSpot false b)] true (Bv (sameL a b)))] [4] [] [Bv (sameL a b)] [] [Con Try.prog 54 [slSpot false a, slSpot false b] true (Bv (sameL a b)) ∧ ((slSpot false a : AV) = slSpot false a) ∧ ((slSpot false b : AV) = slSpot false b) ∧ True] (by kernel_rfl) hB ⟨⟨(l06Same_ok a b), rfl, rfl, trivial⟩, trivial⟩ ?_
  refine ae_then ?_
  refine aw_ret ?_
  refine ae_ret hB (Bv (sameL a b)) (by kernel_rfl) (.inl rfl) rfl (fun _ => trivial)


-- impl.joinBoxes
theorem joinBoxes_ok (a : Box) (b : Box) : Con Try.prog 74 [agBox a, agBox b] true (agBox (joinB a b)) := by
  refine fn_ok (fn := Try.f74) (nt := 26) Try.func74 rfl rfl rfl rfl (by simp [taggedL, tagged]) fun B hB => ?_
  refine aw_seq ?_
  refine aw_reg [(0, .new 2), (1, .new 3), (2, .new 4)] [2, 3, 4] [2, 3, 4] [.ref 2 0, .ref 3 0, .ref 4 0] [some (bxBox a), some (bxBox b), some (.box [I 0, I 0, I 0, I 0])] [] (by kernel_rfl) hB trivial ?_
  refine ae_then ?_
  refine aw_seq ?_
  refine aw_reg [] [4] [4] [.ref 4 0] [some (.box [I (min a.X1 b.X1), I (min a.Y1 b.Y1), I (max a.X2 b.X2), I (max a.Y2 b.Y2)])] [] (by kernel_rfl) hB trivial ?_
  refine ae_then ?_
  refine aw_ret ?_
  refine ae_ret hB (.agg [I (min a.X1 b.X1), I (min a.Y1 b.Y1), I (max a.X2 b.X2), I (max a.Y2 b.Y2)]) (by kernel_rfl) (.inl (by first | rfl | (refine congrArg Bv ?_; simp [*]; done) | (refine congrArg Bv ?_; simp [*]; omega) | (refine congrArg Bv ?_; simp_all []; done) | (refine congrArg Bv ?_; simp_all []; omega))) rfl (fun _ => (by simp [tagged, taggedL]))


-- impl.boxOfStroke
theorem boxOfStroke_ok (s : Stroke) (ok : okStroke' s = true) : Con Try.prog 55 [.agg [slPoint false s.Points]] true (agBox (boxS s.Points s.Points.length)) := by
  have hln := okS_len ok
  refine fn_ok (fn := Try.f55) (nt := 38) Try.func55 rfl rfl rfl rfl (by simp [taggedL, tagged, tagPoint]) fun B hB => ?_
  refine aw_lens (x := .agg [slPoint false s.Points]) 0 rfl (fun len_s => ?_)
  simp [LenOK, LenL, cPoint, fPoint, slPoint] at len_s
  refine aw_seq ?_
  refine aw_reg [(0, .new 1), (1, .new 2)] [1, 2] [1, 2] [.ref 1 0, .ref 2 0] [some (.box [slPoint false s.Points]), some (.box [I 0, I 0, I 0, I 0])] [] (by kernel_rfl) hB trivial ?_
  refine ae_then ?_
  refine aw_seq ?_
  refine aw_reg [(1, .call [(true, .agg [slPoint false s.Points])] true (agPoint (at_ s.Points 0))), (2, .new 3)] [1, 2, 3] [1, 2, 3] [.ref 1 0, .ref 2 0, .ref 3 0] [some (.box [slPoint false s.Points]), some (.box [I 0, I 0, I 0, I 0]), some (bxPoint (at_ s.Points 0))] [Con Try.prog 59 [.agg [slPoint false s.Points]] true (agPoint (at_ s.Points 0)) ∧ ((.agg [slPoint false s.Points] : AV) = .agg [slPoint false s.Points]) ∧ True] (by kernel_rfl) hB ⟨⟨(firstOf_ok s ok), rfl, trivial⟩, trivial⟩ ?_
  refine ae_then ?_
  refine aw_seq ?_
  refine aw_reg [(9, .new 4)] [1, 2, 4] [1, 2, 4] [.ref 1 0, .ref 2 0, .ref 4 0] [some (.box [slPoint false s.Points]), some (.box [I 0, I 0, I 0, I 0]), some (.box [I ((at_ s.Points 0).X), I ((at_ s.Points 0).Y), I ((at_ s.Points 0).X), I ((at_ s.Points 0).Y)])] [] (by kernel_rfl) hB trivial ?_
  refine ae_then ?_
  refine aw_seq ?_
  refine aw_seq ?_
  refine aw_reg [] [2, 4, 19, 20, 21] [2, 4] [.ref 2 0, .ref 4 0, slPoint false s.Points, I (s.Points.length : Int), I 0] [some (.box [I 0, I 0, I 0, I 0]), some (.box [I ((at_ s.Points 0).X), I ((at_ s.Points 0).Y), I ((at_ s.Points 0).X), I ((at_ s.Points 0).Y)])] [] (by kernel_rfl) hB trivial ?_
  refine ae_then ?_
  refine aw_block ?_
  refine aw_loop (fun gn gσ => ∃ (t21 : Int) (x1 : Int) (y1 : Int) (x2 : Int) (y2 : Int), gn = ((s.Points.length : Int) - t21).toNat ∧ (0 ≤ t21 ∧ t21 ≤ (s.Points.length : Int)) ∧ (Box.mk x1 y1 x2 y2 = boxS s.Points t21.toNat) ∧ gσ = mkS [(2, .ref 2 0), (4, .ref 4 0), (19, slPoint false s.Points), (20, I (s.Points.length : Int)), (21, I t21)] [(2, .box [I 0, I 0, I 0, I 0]), (4, .box [I x1, I y1, I x2, I y2])]) (((s.Points.length : Int) - 0).toNat) ⟨0, (at_ s.Points 0).X, (at_ s.Points 0).Y, (at_ s.Points 0).X, (at_ s.Points 0).Y, rfl, (by omega), (by first | rfl | exact (boxS_one _).symm), rfl⟩ (fun gn gσ hI => ?_)
  obtain ⟨t21, x1, y1, x2, y2, rfl, hi0, hb1, rfl⟩ := hI
  refine aw_seq ?_
  by_cases h1 : t21 < (s.Points.length : Int)
  ·have hi : t21.toNat < s.Points.length := by omega
   refine aw_reg [(0, .dec true)] [2, 4, 19, 20, 21, 22] [2, 4] [.ref 2 0, .ref 4 0, slPoint false s.Points, I (s.Points.length : Int), I t21, Bv true] [some (.box [I 0, I 0, I 0, I 0]), some (.box [I x1, I y1, I x2, I y2])] [t21 < (s.Points.length : Int)] (by kernel_rfl) hB ⟨h1, trivial⟩ ?_
   refine ae_then ?_
   refine aw_seq ?_
   refine aw_true rfl ?_
   refine aw_skip ?_
   refine ae_then ?_
   refine aw_seq ?_
   refine aw_block ?_
   refine aw_seq ?_
   refine aw_reg [(2, .new 6)] [2, 4, 6, 19, 20, 21] [2, 4, 6] [.ref 2 0, .ref 4 0, .ref 6 0, slPoint false s.Points, I (s.Points.length : Int), I t21] [some (.box [I 0, I 0, I 0, I 0]), some (.box [I x1, I y1, I x2, I y2]), some (bxPoint (at_ s.Points t21.toNat))] [(0 : Int) ≤ t21 ∧ t21 < (s.Points.length : Int)] (by kernel_rfl) hB ⟨⟨(by omega), (by omega)⟩, trivial⟩ ?_
   refine ae_then ?_
   refine aw_reg [(10, .call [(true, .agg [I x1, I y1, I x2, I y2]), (true, .agg [I ((at_ s.Points t21.toNat).X), I ((at_ s.Points t21.toNat).Y), I ((at_ s.Points t21.toNat).X), I ((at_ s.Points t21.toNat).Y)])] true (agBox (joinB (Box.mk x1 y1 x2 y2) (Box.mk ((at_ s.Points t21.toNat).X) ((at_ s.Points t21.toNat).Y) ((at_ s.Points t21.toNat).X) ((at_ s.Points t21.toNat).Y)))))] [2, 4, 19, 20, 21] [2, 4] [.ref 2 0, .ref 4 0, slPoint false s.Points, I (s.Points.length : Int), I t21] [some (.box [I 0, I 0, I 0, I 0]), some (bxBox (joinB (Box.mk x1 y1 x2 y2) (Box.mk ((at_ s.Points t21.toNat).X) ((at_ s.Points t21.toNat).Y) ((at_ s.Points t21.toNat).X) ((at_ s.Points t21.toNat).Y))))] [Con Try.prog 74 [.agg [I x1, I y1, I x2, I y2], .agg [I ((at_ s.Points t21.toNat).X), I ((at_ s.Points t21.toNat).Y), I ((at_ s.Points t21.toNat).X), I ((at_ s.Points t21.toNat).Y)]] true (agBox (joinB (Box.mk x1 y1 x2 y2) (Box.mk ((at_ s.Points t21.toNat).X) ((at_ s.Points t21.toNat).Y) ((at_ s.Points t21.toNat).X) ((at_ s.Points t21.toNat).Y)))) ∧ ((.agg [I x1, I y1, I x2, I y2] : AV) = .agg [I x1, I y1, I x2, I y2]) ∧ ((.agg [I ((at_ s.Points t21.toNat).X), I ((at_ s.Points t21.toNat).Y), I ((at_ s.Points t21.toNat).X), I ((at_ s.Points t21.toNat).Y)] : AV) = .agg [I ((at_ s.Points t21.toNat).X), I ((at_ s.Points t21.toNat).Y), I ((at_ s.Points t21.toNat).X), I ((at_ s.Points t21.toNat).Y)]) ∧ True] (by kernel_rfl) hB ⟨⟨(joinBoxes_ok (Box.mk x1 y1 x2 y2) (Box.mk ((at_ s.Points t21.toNat).X) ((at_ s.Points t21.toNat).Y) ((at_ s.Points t21.toNat).X) ((at_ s.Points t21.toNat).Y))), rfl, rfl, trivial⟩, trivial⟩ ?_
   refine ae_block 1 ?_
   refine ae_then ?_
   refine aw_reg [] [2, 4, 19, 20, 21] [2, 4] [.ref 2 0, .ref 4 0, slPoint false s.Points, I (s.Points.length : Int), I (t21 + 1)] [some (.box [I 0, I 0, I 0, I 0]), some (bxBox (joinB (Box.mk x1 y1 x2 y2) (Box.mk ((at_ s.Points t21.toNat).X) ((at_ s.Points t21.toNat).Y) ((at_ s.Points t21.toNat).X) ((at_ s.Points t21.toNat).Y))))] [inR .i64 (t21 + 1)] (by kernel_rfl) hB ⟨(inR_i64 (by omega) (by omega)), trivial⟩ ?_
   refine ae_weak hB [] (T := [(2, .ref 2 0), (4, .ref 4 0), (19, slPoint false s.Points), (20, I (s.Points.length : Int)), (21, I (t21 + 1))]) (O := [(2, .box [I 0, I 0, I 0, I 0]), (4, .box [I ((joinB (Box.mk x1 y1 x2 y2) (Box.mk ((at_ s.Points t21.toNat).X) ((at_ s.Points t21.toNat).Y) ((at_ s.Points t21.toNat).X) ((at_ s.Points t21.toNat).Y))).X1), I ((joinB (Box.mk x1 y1 x2 y2) (Box.mk ((at_ s.Points t21.toNat).X) ((at_ s.Points t21.toNat).Y) ((at_ s.Points t21.toNat).X) ((at_ s.Points t21.toNat).Y))).Y1), I ((joinB (Box.mk x1 y1 x2 y2) (Box.mk ((at_ s.Points t21.toNat).X) ((at_ s.Points t21.toNat).Y) ((at_ s.Points t21.toNat).X) ((at_ s.Points t21.toNat).Y))).X2), I ((joinB (Box.mk x1 y1 x2 y2) (Box.mk ((at_ s.Points t21.toNat).X) ((at_ s.Points t21.toNat).Y) ((at_ s.Points t21.toNat).X) ((at_ s.Points t21.toNat).Y))).Y2)])]) rfl (⟨.inl rfl, .inl rfl, .inl rfl, .inl rfl, .inl rfl, trivial⟩) (⟨.inl rfl, .inr ⟨rfl, ⟨rfl, ⟨rfl, ⟨rfl, rfl⟩⟩⟩⟩, trivial⟩) (ae_again _ (by omega) ⟨(t21 + 1), (joinB (Box.mk x1 y1 x2 y2) (Box.mk ((at_ s.Points t21.toNat).X) ((at_ s.Points t21.toNat).Y) ((at_ s.Points t21.toNat).X) ((at_ s.Points t21.toNat).Y))).X1, (joinB (Box.mk x1 y1 x2 y2) (Box.mk ((at_ s.Points t21.toNat).X) ((at_ s.Points t21.toNat).Y) ((at_ s.Points t21.toNat).X) ((at_ s.Points t21.toNat).Y))).Y1, (joinB (Box.mk x1 y1 x2 y2) (Box.mk ((at_ s.Points t21.toNat).X) ((at_ s.Points t21.toNat).Y) ((at_ s.Points t21.toNat).X) ((at_ s.Points t21.toNat).Y))).X2, (joinB (Box.mk x1 y1 x2 y2) (Box.mk ((at_ s.Points t21.toNat).X) ((at_ s.Points t21.toNat).Y) ((at_ s.Points t21.toNat).X) ((at_ s.Points t21.toNat).Y))).Y2, rfl, (by omega), (by rw [boxS_succ (by omega), ← hb1]; rfl), rfl⟩)
  ·have hie : t21.toNat = s.Points.length := by omega
   rw [hie] at hb1
   refine aw_reg [(0, .dec false)] [2, 4, 19, 20, 21, 22] [2, 4] [.ref 2 0, .ref 4 0, slPoint false s.Points, I (s.Points.length : Int), I t21, Bv false] [some (.box [I 0, I 0, I 0, I 0]), some (.box [I x1, I y1, I x2, I y2])] [¬ (t21 < (s.Points.length : Int))] (by kernel_rfl) hB ⟨h1, trivial⟩ ?_
   refine ae_then ?_
   refine aw_seq ?_
   refine aw_false rfl ?_
   refine aw_exit ?_
   refine ae_exit_then ?_
   refine ae_exit_then ?_
   refine ae_exit_same ?_
   refine ae_then ?_
   refine aw_seq ?_
   refine aw_reg [] [2] [2] [.ref 2 0] [some (.box [I x1, I y1, I x2, I y2])] [] (by kernel_rfl) hB trivial ?_
   refine ae_then ?_
   refine aw_ret ?_
   refine ae_ret hB (.agg [I x1, I y1, I x2, I y2]) (by kernel_rfl) (.inl (by rw [← hb1])) rfl (fun _ => (by simp [tagged, taggedL]))


-- impl.BoxOfStroke
theorem implBoxOfStroke_ok (s : Stroke) : Con Try.prog 24 [.agg [slPoint false s.Points]] true (.tup [agBox ((boxR s).1), I ((boxR s).2)]) := by
  refine fn_ok (fn := Try.f24) (nt := 10) Try.func24 rfl rfl rfl rfl (by simp [taggedL, tagged, tagPoint]) fun B hB => ?_
  refine aw_lens (x := .agg [slPoint false s.Points]) 0 rfl (fun len_s => ?_)
  simp [LenOK, LenL, cPoint, fPoint, slPoint] at len_s
  refine aw_seq ?_
  refine aw_reg [(0, .new 1), (1, .new 2)] [1, 2] [1, 2] [.ref 1 0, .ref 2 0] [some (.box [slPoint false s.Points]), some (.box [I 0, I 0, I 0, I 0])] [] (by kernel_rfl) hB trivial ?_
  refine ae_then ?_
  refine aw_seq ?_
  refine aw_seq ?_
  rcases Bool.eq_false_or_eq_true (okStroke' s) with h1 | h1
  ·refine aw_reg [(1, .call [(true, .agg [slPoint false s.Points])] true (Bv true))] [1, 2, 6] [1, 2] [.ref 1 0, .ref 2 0, Bv false] [some (.box [slPoint false s.Points]), some (.box [I 0, I 0, I 0, I 0])] [Con Try.prog 45 [.agg [slPoint false s.Points]] true (Bv true) ∧ ((.agg [slPoint false s.Points] : AV) = .agg [slPoint false s.Points]) ∧ True] (by kernel_rfl) hB ⟨⟨(con_bool h1 (ValidStroke_ok s)), rfl, trivial⟩, trivial⟩ ?_
   refine ae_then ?_
   refine aw_false rfl ?_
   refine aw_skip ?_
   refine ae_then ?_
   refine aw_seq ?_
   refine aw_reg [(1, .call [(true, .agg [slPoint false s.Points])] true (agBox (boxS s.Points s.Points.length)))] [2, 3] [2] [.ref 2 0, I 0] [some (bxBox (boxS s.Points s.Points.length))] [Con Try.prog 55 [.agg [slPoint false s.Points]] true (agBox (boxS s.Points s.Points.length)) ∧ ((.agg [slPoint false s.Points] : AV) = .agg [slPoint false s.Points]) ∧ True] (by kernel_rfl) hB ⟨⟨(boxOfStroke_ok s (by assumption)), rfl, trivial⟩, trivial⟩ ?_
   refine ae_then ?_
   refine aw_ret ?_
   refine ae_ret hB (.tup [agBox (boxS s.Points s.Points.length), I 0]) (by kernel_rfl) (.inl (by simp [boxR, *])) rfl (fun _ => (by simp [tagged, taggedL]))
  ·refine aw_reg [(1, .call [(true, .agg [slPoint false s.Points])] true (Bv false))] [1, 2, 6] [1, 2] [.ref 1 0, .ref 2 0, Bv true] [some (.box [slPoint false s.Points]), some (.box [I 0, I 0, I 0, I 0])] [Con Try.prog 45 [.agg [slPoint false s.Points]] true (Bv false) ∧ ((.agg [slPoint false s.Points] : AV) = .agg [slPoint false s.Points]) ∧ True] (by kernel_rfl) hB ⟨⟨(con_bool h1 (ValidStroke_ok s)), rfl, trivial⟩, trivial⟩ ?_
   refine ae_then ?_
   refine aw_true rfl ?_
   refine aw_seq ?_
   refine aw_reg [] [2, 3] [2] [.ref 2 0, I 1] [some (.box [I 0, I 0, I 0, I 0])] [] (by kernel_rfl) hB trivial ?_
   refine ae_then ?_
   refine aw_ret ?_
   refine ae_ret_then ?_
   refine ae_ret hB (.tup [.agg [I 0, I 0, I 0, I 0], I 1]) (by kernel_rfl) (.inl (by simp [boxR, *])) rfl (fun _ => (by simp [tagged, taggedL]))


section
variable {s : Stroke} {n : Int}
theorem res_ok (h : (resR s n).2 = 0) : okStroke' s = true ∧ (2 ≤ n ∧ n ≤ 24) ∧ resR s n = (resQ s n, 0) ∧ ((resR s n).1.length : Int) = n := by
  unfold resR at h ⊢
  split at h
  · rename_i ok
    split at h
    · rename_i hb
      have hb' := inB_iff.1 hb
      rw [if_pos ok, if_pos hb]
      refine ⟨ok, hb', rfl, ?_⟩
      show ((resQ s n).length : Int) = n
      rw [resQ_len]; omega
    · cases h
  · cases h
theorem res_in (h : (resR s n).2 = 0) {i : Int} (h0 : 0 ≤ i) (hi : i < n) :
    (boxR s).1.X1 ≤ (at_ (resR s n).1 i.toNat).X ∧ (at_ (resR s n).1 i.toNat).X ≤ (boxR s).1.X2 ∧ (boxR s).1.Y1 ≤ (at_ (resR s n).1 i.toNat).Y ∧ (at_ (resR s n).1 i.toNat).Y ≤ (boxR s).1.Y2 := by
  obtain ⟨ok, hn, e, _⟩ := res_ok h
  have eb : boxR s = (boxS s.Points s.Points.length, 0) := by simp [boxR, ok]
  rw [e, eb]
  show _ ≤ (at_ (resQ s n) i.toNat).X ∧ _
  rw [resQ_at (by omega)]
  exact spot_in ok (by omega)
theorem res_first (h : (resR s n).2 = 0) : at_ (resR s n).1 0 = ⟨(at_ s.Points 0).X, (at_ s.Points 0).Y⟩ := by
  obtain ⟨ok, hn, e, _⟩ := res_ok h
  rw [e]
  show at_ (resQ s n) 0 = _
  rw [resQ_at (by omega)]
  exact spot_first ok (by omega)
theorem res_last (h : (resR s n).2 = 0) : at_ (resR s n).1 (n - 1).toNat = ⟨(at_ s.Points (s.Points.length - 1)).X, (at_ s.Points (s.Points.length - 1)).Y⟩ := by
  obtain ⟨ok, hn, e, _⟩ := res_ok h
  rw [e]
  show at_ (resQ s n) (n - 1).toNat = _
  rw [resQ_at (by omega), show (((n - 1).toNat : Nat) : Int) = n - 1 by omega]
  exact spot_last ok (by omega)
theorem box_ok (ok : okStroke' s = true) : (boxR s).2 = 0 := by simp [boxR, ok]
end

-- laws.FnSpots
theorem fnSpots_con (code : List Int) (ok_code : ∀ y ∈ code, inR .u8 y) : Con Try.prog 4 [slU8 false code] true (Bv true) := by
  refine fn_ok (fn := Try.f4) (nt := 178) Try.func4 rfl rfl rfl rfl (by simp [taggedL, tagged, tagU8]) fun B hB => ?_
  refine aw_lens (x := slU8 false code) 0 rfl (fun len_code => ?_)
  simp [LenOK, LenL, cU8, fU8, slU8] at len_code
  refine aw_seq ?_
  refine aw_reg [] [0] [] [slU8 false code] [] [] (by kernel_rfl) hB trivial ?_
  refine ae_then ?_
  refine aw_seq ?_
  refine aw_seq ?_
  rcases Bool.eq_false_or_eq_true (decide (4096 < (code.length : Int))) with h1 | h1
  ·refine aw_reg [(1, .call [(true, slU8 false code)] true (Bv true))] [0, 22] [] [slU8 false code, Bv true] [] [Con Try.prog 5 [slU8 false code] true (Bv true) ∧ ((slU8 false code : AV) = slU8 false code) ∧ True] (by kernel_rfl) hB ⟨⟨(con_bool h1 (f6big_ok code)), rfl, trivial⟩, trivial⟩ ?_
   refine ae_then ?_
   refine aw_true rfl ?_
   refine aw_seq ?_
   refine aw_reg [] [2] [] [Bv true] [] [] (by kernel_rfl) hB trivial ?_
   refine ae_then ?_
   refine aw_ret ?_
   refine ae_ret_then ?_
   refine ae_ret hB (Bv true) (by kernel_rfl) (.inl rfl) rfl (fun _ => trivial)
  ·have hc : (∀ j, j < code.length → 0 ≤ at_ code j ∧ at_ code j ≤ 255) ∧ code.length ≤ 4611686018427387904 := ⟨fun j hj => ok_code _ (at_mem hj), by first | omega | (simp at h1; omega)⟩
   refine aw_reg [(1, .call [(true, slU8 false code)] true (Bv false))] [0, 22] [] [slU8 false code, Bv false] [] [Con Try.prog 5 [slU8 false code] true (Bv false) ∧ ((slU8 false code : AV) = slU8 false code) ∧ True] (by kernel_rfl) hB ⟨⟨(con_bool h1 (f6big_ok code)), rfl, trivial⟩, trivial⟩ ?_
   refine ae_then ?_
   refine aw_false rfl ?_
   refine aw_skip ?_
   refine ae_then ?_
   refine aw_seq ?_
   obtain ⟨v_1, n_1, hx1_0, hc1⟩ := DrawResample_ok code (by assumption)
   refine aw_reg [(1, .call [(true, slU8 false code)] true (.tup [.agg [slPoint true v_1.Points], I n_1])), (5, .new 3)] [0, 3, 4] [3] [slU8 false code, .ref 3 0, I n_1] [some (.box [slPoint true v_1.Points])] [Con Try.prog 17 [slU8 false code] true (.tup [.agg [slPoint true v_1.Points], I n_1]) ∧ ((slU8 false code : AV) = slU8 false code) ∧ True] (by kernel_rfl) hB ⟨⟨hc1, rfl, trivial⟩, trivial⟩ ?_
   refine ae_then ?_
   refine aw_seq ?_
   refine aw_reg [(2, .call [(false, .agg [slPoint false v_1.Points]), (true, I n_1)] true (.tup [slSpot true ((resR v_1 n_1).1), I ((resR v_1 n_1).2)]))] [0, 3, 4, 5, 6] [3] [slU8 false code, .ref 3 0, I n_1, slSpot true ((resR v_1 n_1).1), I ((resR v_1 n_1).2)] [some (.box [slPoint true v_1.Points])] [Con Try.prog 18 [.agg [slPoint false v_1.Points], I n_1] true (.tup [slSpot true ((resR v_1 n_1).1), I ((resR v_1 n_1).2)]) ∧ (((false = true → true = true) ∧ 3 = 3 ∧ v_1.Points.length = v_1.Points.length ∧ ∀ i, i < v_1.Points.length → (fPoint v_1.Points) i = (fPoint v_1.Points) i ∨ (AV.idsL ((fPoint v_1.Points) i) = [] ∧ leL (fun _ => none) false ((fPoint v_1.Points) i) ((fPoint v_1.Points) i))) ∧ ([] : List AV) = []) ∧ ((I n_1 : AV) = I n_1) ∧ True] (by kernel_rfl) hB ⟨⟨(implResample_ok v_1 n_1), ⟨⟨(fun h => by cases h), rfl, rfl, fun i _ => .inl rfl⟩, rfl⟩, rfl, trivial⟩, trivial⟩ ?_
   refine ae_then ?_
   refine aw_seq ?_
   refine aw_reg [(2, .call [(false, .agg [slPoint false v_1.Points]), (true, I n_1)] true (.tup [slSpot true ((resR v_1 n_1).1), I ((resR v_1 n_1).2)]))] [0, 3, 4, 5, 6, 7, 8] [3] [slU8 false code, .ref 3 0, I n_1, slSpot true ((resR v_1 n_1).1), I ((resR v_1 n_1).2), slSpot true ((resR v_1 n_1).1), I ((resR v_1 n_1).2)] [some (.box [slPoint true v_1.Points])] [Con Try.prog 19 [.agg [slPoint false v_1.Points], I n_1] true (.tup [slSpot true ((resR v_1 n_1).1), I ((resR v_1 n_1).2)]) ∧ (((false = true → true = true) ∧ 3 = 3 ∧ v_1.Points.length = v_1.Points.length ∧ ∀ i, i < v_1.Points.length → (fPoint v_1.Points) i = (fPoint v_1.Points) i ∨ (AV.idsL ((fPoint v_1.Points) i) = [] ∧ leL (fun _ => none) false ((fPoint v_1.Points) i) ((fPoint v_1.Points) i))) ∧ ([] : List AV) = []) ∧ ((I n_1 : AV) = I n_1) ∧ True] (by kernel_rfl) hB ⟨⟨(specResample_ok v_1 n_1), ⟨⟨(fun h => by cases h), rfl, rfl, fun i _ => .inl rfl⟩, rfl⟩, rfl, trivial⟩, trivial⟩ ?_
   refine ae_then ?_
   refine aw_seq ?_
   obtain ⟨v_2, part_2, parts_2, hx2_0, hx2_1, hc2⟩ := DrawSpotAt_ok code (by assumption)
   refine aw_reg [(1, .call [(true, slU8 false code)] true (.tup [.agg [slPoint true v_2.Points], I part_2, I parts_2])), (6, .new 9)] [3, 4, 5, 6, 7, 8, 9, 10, 11] [3, 9] [.ref 3 0, I n_1, slSpot true ((resR v_1 n_1).1), I ((resR v_1 n_1).2), slSpot true ((resR v_1 n_1).1), I ((resR v_1 n_1).2), .ref 9 0, I part_2, I parts_2] [some (.box [slPoint true v_1.Points]), some (.box [slPoint true v_2.Points])] [Con Try.prog 20 [slU8 false code] true (.tup [.agg [slPoint true v_2.Points], I part_2, I parts_2]) ∧ ((slU8 false code : AV) = slU8 false code) ∧ True] (by kernel_rfl) hB ⟨⟨hc2, rfl, trivial⟩, trivial⟩ ?_
   refine ae_then ?_
   refine aw_seq ?_
   refine aw_reg [(3, .call [(false, .agg [slPoint false v_2.Points]), (true, I part_2), (true, I parts_2)] true (.tup [.agg [I (((spotR v_2 part_2 parts_2).1).X), I (((spotR v_2 part_2 parts_2).1).Y)], I ((spotR v_2 part_2 parts_2).2)])), (7, .new 12)] [3, 4, 5, 6, 7, 8, 9, 10, 11, 12, 13] [3, 9, 12] [.ref 3 0, I n_1, slSpot true ((resR v_1 n_1).1), I ((resR v_1 n_1).2), slSpot true ((resR v_1 n_1).1), I ((resR v_1 n_1).2), .ref 9 0, I part_2, I parts_2, .ref 12 0, I ((spotR v_2 part_2 parts_2).2)] [some (.box [slPoint true v_1.Points]), some (.box [slPoint true v_2.Points]), some (.box [I (((spotR v_2 part_2 parts_2).1).X), I (((spotR v_2 part_2 parts_2).1).Y)])] [Con Try.prog 21 [.agg [slPoint false v_2.Points], I part_2, I parts_2] true (.tup [.agg [I (((spotR v_2 part_2 parts_2).1).X), I (((spotR v_2 part_2 parts_2).1).Y)], I ((spotR v_2 part_2 parts_2).2)]) ∧ (((false = true → true = true) ∧ 3 = 3 ∧ v_2.Points.length = v_2.Points.length ∧ ∀ i, i < v_2.Points.length → (fPoint v_2.Points) i = (fPoint v_2.Points) i ∨ (AV.idsL ((fPoint v_2.Points) i) = [] ∧ leL (fun _ => none) false ((fPoint v_2.Points) i) ((fPoint v_2.Points) i))) ∧ ([] : List AV) = []) ∧ ((I part_2 : AV) = I part_2) ∧ ((I parts_2 : AV) = I parts_2) ∧ True] (by kernel_rfl) hB ⟨⟨(implSpotAt_ok v_2 part_2 parts_2), ⟨⟨(fun h => by cases h), rfl, rfl, fun i _ => .inl rfl⟩, rfl⟩, rfl, rfl, trivial⟩, trivial⟩ ?_
   refine ae_then ?_
   refine aw_seq ?_
   refine aw_reg [(3, .call [(false, .agg [slPoint false v_2.Points]), (true, I part_2), (true, I parts_2)] true (.tup [.agg [I (((spotR v_2 part_2 parts_2).1).X), I (((spotR v_2 part_2 parts_2).1).Y)], I ((spotR v_2 part_2 parts_2).2)])), (7, .new 14)] [3, 4, 5, 6, 7, 8, 12, 13, 14, 15] [3, 12, 14] [.ref 3 0, I n_1, slSpot true ((resR v_1 n_1).1), I ((resR v_1 n_1).2), slSpot true ((resR v_1 n_1).1), I ((resR v_1 n_1).2), .ref 12 0, I ((spotR v_2 part_2 parts_2).2), .ref 14 0, I ((spotR v_2 part_2 parts_2).2)] [some (.box [slPoint true v_1.Points]), some (.box [I (((spotR v_2 part_2 parts_2).1).X), I (((spotR v_2 part_2 parts_2).1).Y)]), some (.box [I (((spotR v_2 part_2 parts_2).1).X), I (((spotR v_2 part_2 parts_2).1).Y)])] [Con Try.prog 22 [.agg [slPoint false v_2.Points], I part_2, I parts_2] true (.tup [.agg [I (((spotR v_2 part_2 parts_2).1).X), I (((spotR v_2 part_2 parts_2).1).Y)], I ((spotR v_2 part_2 parts_2).2)]) ∧ (((false = true → true = true) ∧ 3 = 3 ∧ v_2.Points.length = v_2.Points.length ∧ ∀ i, i < v_2.Points.length → (fPoint v_2.Points) i = (fPoint v_2.Points) i ∨ (AV.idsL ((fPoint v_2.Points) i) = [] ∧ leL (fun _ => none) false ((fPoint v_2.Points) i) ((fPoint v_2.Points) i))) ∧ ([] : List AV) = []) ∧ ((I part_2 : AV) = I part_2) ∧ ((I parts_2 : AV) = I parts_2) ∧ True] (by kernel_rfl) hB ⟨⟨(specSpotAt_ok v_2 part_2 parts_2), ⟨⟨(fun h => by cases h), rfl, rfl, fun i _ => .inl rfl⟩, rfl⟩, rfl, rfl, trivial⟩, trivial⟩ ?_
   refine ae_then ?_
   refine aw_seq ?_
   refine aw_seq ?_
   refine aw_reg [(2, .dec false), (6, .call [(false, slSpot false ((resR v_1 n_1).1)), (false, slSpot false ((resR v_1 n_1).1))] true (Bv true)), (12, .call [(false, slSpot false ((resR v_1 n_1).1)), (false, slSpot false ((resR v_1 n_1).1))] true (Bv true)), (18, .dec false), (23, .dec false)] [3, 4, 5, 6, 84] [3] [.ref 3 0, I n_1, slSpot true ((resR v_1 n_1).1), I ((resR v_1 n_1).2), Bv false] [some (.box [slPoint true v_1.Points])] [¬ (((resR v_1 n_1).2) ≠ ((resR v_1 n_1).2)), Con Try.prog 23 [slSpot false ((resR v_1 n_1).1), slSpot false ((resR v_1 n_1).1)] true (Bv true) ∧ ((false = true → true = true) ∧ 2 = 2 ∧ (((resR v_1 n_1).1).length) = (((resR v_1 n_1).1).length) ∧ ∀ i, i < (((resR v_1 n_1).1).length) → (fSpot ((resR v_1 n_1).1)) i = (fSpot ((resR v_1 n_1).1)) i ∨ (AV.idsL ((fSpot ((resR v_1 n_1).1)) i) = [] ∧ leL (fun _ => none) false ((fSpot ((resR v_1 n_1).1)) i) ((fSpot ((resR v_1 n_1).1)) i))) ∧ ((false = true → true = true) ∧ 2 = 2 ∧ (((resR v_1 n_1).1).length) = (((resR v_1 n_1).1).length) ∧ ∀ i, i < (((resR v_1 n_1).1).length) → (fSpot ((resR v_1 n_1).1)) i = (fSpot ((resR v_1 n_1).1)) i ∨ (AV.idsL ((fSpot ((resR v_1 n_1).1)) i) = [] ∧ leL (fun _ => none) false ((fSpot ((resR v_1 n_1).1)) i) ((fSpot ((resR v_1 n_1).1)) i))) ∧ True, Con Try.prog 23 [slSpot false ((resR v_1 n_1).1), slSpot false ((resR v_1 n_1).1)] true (Bv true) ∧ ((false = true → true = true) ∧ 2 = 2 ∧ (((resR v_1 n_1).1).length) = (((resR v_1 n_1).1).length) ∧ ∀ i, i < (((resR v_1 n_1).1).length) → (fSpot ((resR v_1 n_1).1)) i = (fSpot ((resR v_1 n_1).1)) i ∨ (AV.idsL ((fSpot ((resR v_1 n_1).1)) i) = [] ∧ leL (fun _ => none) false ((fSpot ((resR v_1 n_1).1)) i) ((fSpot ((resR v_1 n_1).1)) i))) ∧ ((false = true → true = true) ∧ 2 = 2 ∧ (((resR v_1 n_1).1).length) = (((resR v_1 n_1).1).length) ∧ ∀ i, i < (((resR v_1 n_1).1).length) → (fSpot ((resR v_1 n_1).1)) i = (fSpot ((resR v_1 n_1).1)) i ∨ (AV.idsL ((fSpot ((resR v_1 n_1).1)) i) = [] ∧ leL (fun _ => none) false ((fSpot ((resR v_1 n_1).1)) i) ((fSpot ((resR v_1 n_1).1)) i))) ∧ True, ¬ (((spotR v_2 part_2 parts_2).2) ≠ ((spotR v_2 part_2 parts_2).2)), ¬ (¬ ((((spotR v_2 part_2 parts_2).1).X) = (((spotR v_2 part_2 parts_2).1).X) ∧ (((spotR v_2 part_2 parts_2).1).Y) = (((spotR v_2 part_2 parts_2).1).Y) ∧ True))] (by kernel_rfl) hB ⟨(fun hq => hq rfl), ⟨(con_bool (sameL_refl _) (specSameSpots_ok ((resR v_1 n_1).1) ((resR v_1 n_1).1))), ⟨(fun h => by cases h), rfl, rfl, fun i _ => .inl rfl⟩, ⟨(fun h => by cases h), rfl, rfl, fun i _ => .inl rfl⟩, trivial⟩, ⟨(con_bool (sameL_refl _) (specSameSpots_ok ((resR v_1 n_1).1) ((resR v_1 n_1).1))), ⟨(fun h => by cases h), rfl, rfl, fun i _ => .inl rfl⟩, ⟨(fun h => by cases h), rfl, rfl, fun i _ => .inl rfl⟩, trivial⟩, (fun hq => hq rfl), (fun hq => hq ⟨rfl, rfl, trivial⟩), trivial⟩ ?_
   refine ae_then ?_
   refine aw_false rfl ?_
   refine aw_skip ?_
   refine ae_then ?_
   refine aw_seq ?_
   refine aw_seq ?_
   by_cases h2 : ((resR v_1 n_1).2) = 0
   ·have hrs := res_ok h2
    have hbx := box_ok hrs.1
    have hln := okS_len hrs.1
    have hr1 := res_first h2
    have hr2 := res_last h2
    have hr3 : ((v_1.Points.length : Int) - 1).toNat = v_1.Points.length - 1 := by omega
    refine aw_reg [(1, .dec false)] [3, 4, 5, 86] [3] [.ref 3 0, I n_1, slSpot true ((resR v_1 n_1).1), Bv false] [some (.box [slPoint true v_1.Points])] [¬ (((resR v_1 n_1).2) ≠ 0)] (by kernel_rfl) hB ⟨(fun hq => hq h2), trivial⟩ ?_
    refine ae_then ?_
    refine aw_false rfl ?_
    refine aw_skip ?_
    refine ae_then ?_
    refine aw_seq ?_
    refine aw_reg [(1, .call [(false, .agg [slPoint false v_1.Points])] true (.tup [agBox ((boxR v_1).1), I ((boxR v_1).2)])), (5, .new 16)] [3, 4, 5, 16, 17] [3, 16] [.ref 3 0, I n_1, slSpot true ((resR v_1 n_1).1), .ref 16 0, I ((boxR v_1).2)] [some (.box [slPoint true v_1.Points]), some (bxBox ((boxR v_1).1))] [Con Try.prog 24 [.agg [slPoint false v_1.Points]] true (.tup [agBox ((boxR v_1).1), I ((boxR v_1).2)]) ∧ (((false = true → true = true) ∧ 3 = 3 ∧ v_1.Points.length = v_1.Points.length ∧ ∀ i, i < v_1.Points.length → (fPoint v_1.Points) i = (fPoint v_1.Points) i ∨ (AV.idsL ((fPoint v_1.Points) i) = [] ∧ leL (fun _ => none) false ((fPoint v_1.Points) i) ((fPoint v_1.Points) i))) ∧ ([] : List AV) = []) ∧ True] (by kernel_rfl) hB ⟨⟨(implBoxOfStroke_ok v_1), ⟨⟨(fun h => by cases h), rfl, rfl, fun i _ => .inl rfl⟩, rfl⟩, trivial⟩, trivial⟩ ?_
    refine ae_then ?_
    refine aw_seq ?_
    refine aw_seq ?_
    refine aw_reg [(1, .dec false), (6, .dec false)] [3, 4, 5, 16, 99] [3, 16] [.ref 3 0, I n_1, slSpot true ((resR v_1 n_1).1), .ref 16 0, Bv false] [some (.box [slPoint true v_1.Points]), some (bxBox ((boxR v_1).1))] [¬ (((boxR v_1).2) ≠ 0), ¬ (((((resR v_1 n_1).1).length) : Int) ≠ n_1)] (by kernel_rfl) hB ⟨(fun hq => hq hbx), (fun hq => hq hrs.2.2.2), trivial⟩ ?_
    refine ae_then ?_
    refine aw_false rfl ?_
    refine aw_skip ?_
    refine ae_then ?_
    refine aw_seq ?_
    refine aw_seq ?_
    refine aw_reg [] [3, 4, 5, 16, 18] [3, 16] [.ref 3 0, I n_1, slSpot true ((resR v_1 n_1).1), .ref 16 0, I 0] [some (.box [slPoint true v_1.Points]), some (bxBox ((boxR v_1).1))] [] (by kernel_rfl) hB trivial ?_
    refine ae_then ?_
    refine aw_block ?_
    refine aw_loop (fun gn gσ => ∃ (i : Int), gn = ((30 : Int) - i).toNat ∧ (0 ≤ i) ∧ gσ = mkS [(3, .ref 3 0), (4, I n_1), (5, slSpot true ((resR v_1 n_1).1)), (16, .ref 16 0), (18, I i)] [(3, .box [slPoint true v_1.Points]), (16, bxBox ((boxR v_1).1))]) (((30 : Int) - 0).toNat) ⟨0, rfl, (by omega), rfl⟩ (fun gn gσ hI => ?_)
    obtain ⟨i, rfl, hi0, rfl⟩ := hI
    refine aw_seq ?_
    refine aw_seq ?_
    by_cases h3 : i < ((((resR v_1 n_1).1).length) : Int)
    ·have hin := res_in h2 hi0 (by omega)
     refine aw_reg [(3, .dec true)] [3, 4, 5, 16, 18, 103] [3, 16] [.ref 3 0, I n_1, slSpot true ((resR v_1 n_1).1), .ref 16 0, I i, Bv true] [some (.box [slPoint true v_1.Points]), some (bxBox ((boxR v_1).1))] [i < ((((resR v_1 n_1).1).length) : Int)] (by kernel_rfl) hB ⟨h3, trivial⟩ ?_
     refine ae_then ?_
     refine aw_true rfl ?_
     refine aw_skip ?_
     refine ae_then ?_
     refine aw_seq ?_
     refine aw_block ?_
     refine aw_seq ?_
     refine aw_reg [(7, .dec false), (16, .dec false), (26, .dec false), (36, .dec false)] [3, 4, 5, 16, 18, 143] [3, 16] [.ref 3 0, I n_1, slSpot true ((resR v_1 n_1).1), .ref 16 0, I i, Bv false] [some (.box [slPoint true v_1.Points]), some (bxBox ((boxR v_1).1))] [(0 : Int) ≤ i ∧ i < ((((resR v_1 n_1).1).length) : Int), ¬ (((at_ ((resR v_1 n_1).1) i.toNat).X) < (((boxR v_1).1).X1)), (0 : Int) ≤ i ∧ i < ((((resR v_1 n_1).1).length) : Int), ¬ ((((boxR v_1).1).X2) < ((at_ ((resR v_1 n_1).1) i.toNat).X)), (0 : Int) ≤ i ∧ i < ((((resR v_1 n_1).1).length) : Int), ¬ (((at_ ((resR v_1 n_1).1) i.toNat).Y) < (((boxR v_1).1).Y1)), (0 : Int) ≤ i ∧ i < ((((resR v_1 n_1).1).length) : Int), ¬ ((((boxR v_1).1).Y2) < ((at_ ((resR v_1 n_1).1) i.toNat).Y))] (by kernel_rfl) hB ⟨⟨(by omega), (by omega)⟩, (by omega), ⟨(by omega), (by omega)⟩, (by omega), ⟨(by omega), (by omega)⟩, (by omega), ⟨(by omega), (by omega)⟩, (by omega), trivial⟩ ?_
     refine ae_then ?_
     refine aw_false rfl ?_
     refine aw_skip ?_
     refine ae_block 1 ?_
     refine ae_then ?_
     refine aw_reg [] [3, 4, 5, 16, 18] [3, 16] [.ref 3 0, I n_1, slSpot true ((resR v_1 n_1).1), .ref 16 0, I (i + 1)] [some (.box [slPoint true v_1.Points]), some (bxBox ((boxR v_1).1))] [inR .i64 (i + 1)] (by kernel_rfl) hB ⟨(inR_i64 (by omega) (by omega)), trivial⟩ ?_
     exact ae_again _ (by omega) ⟨(i + 1), rfl, (by omega), rfl⟩
    ·refine aw_reg [(3, .dec false)] [3, 4, 5, 16, 18, 103] [3, 16] [.ref 3 0, I n_1, slSpot true ((resR v_1 n_1).1), .ref 16 0, I i, Bv false] [some (.box [slPoint true v_1.Points]), some (bxBox ((boxR v_1).1))] [¬ (i < ((((resR v_1 n_1).1).length) : Int))] (by kernel_rfl) hB ⟨h3, trivial⟩ ?_
     refine ae_then ?_
     refine aw_false rfl ?_
     refine aw_exit ?_
     refine ae_exit_then ?_
     refine ae_exit_then ?_
     refine ae_exit_same ?_
     refine ae_then ?_
     refine aw_seq ?_
     refine aw_reg [(4, .new 19)] [3, 4, 5, 19] [3, 19] [.ref 3 0, I n_1, slSpot true ((resR v_1 n_1).1), .ref 19 0] [some (.box [slPoint true v_1.Points]), some (bxPoint (at_ v_1.Points 0))] [(0 : Int) ≤ 0 ∧ 0 < (v_1.Points.length : Int)] (by kernel_rfl) hB ⟨⟨(by omega), (by omega)⟩, trivial⟩ ?_
     refine ae_then ?_
     refine aw_seq ?_
     refine aw_reg [(8, .new 20)] [4, 5, 19, 20] [19, 20] [I n_1, slSpot true ((resR v_1 n_1).1), .ref 19 0, .ref 20 0] [some (bxPoint (at_ v_1.Points 0)), some (bxPoint (at_ v_1.Points (((v_1.Points.length : Int) - 1).toNat)))] [inR .i64 ((v_1.Points.length : Int) - 1), (0 : Int) ≤ ((v_1.Points.length : Int) - 1) ∧ ((v_1.Points.length : Int) - 1) < (v_1.Points.length : Int)] (by kernel_rfl) hB ⟨(inR_i64 (by omega) (by omega)), ⟨(by omega), (by omega)⟩, trivial⟩ ?_
     refine ae_then ?_
     refine aw_seq ?_
     refine aw_reg [(8, .dec true), (20, .dec true)] [2] [] [Bv true] [] [(0 : Int) ≤ 0 ∧ 0 < ((((resR v_1 n_1).1).length) : Int), ((at_ ((resR v_1 n_1).1) 0).X) = ((at_ v_1.Points 0).X) ∧ ((at_ ((resR v_1 n_1).1) 0).Y) = ((at_ v_1.Points 0).Y) ∧ True, inR .i64 (n_1 - 1), (0 : Int) ≤ (n_1 - 1) ∧ (n_1 - 1) < ((((resR v_1 n_1).1).length) : Int), ((at_ ((resR v_1 n_1).1) ((n_1 - 1).toNat)).X) = ((at_ v_1.Points (((v_1.Points.length : Int) - 1).toNat)).X) ∧ ((at_ ((resR v_1 n_1).1) ((n_1 - 1).toNat)).Y) = ((at_ v_1.Points (((v_1.Points.length : Int) - 1).toNat)).Y) ∧ True] (by kernel_rfl) hB ⟨⟨(by omega), (by omega)⟩, (by rw [hr1]; exact ⟨rfl, rfl, trivial⟩), (inR_i64 (by omega) (by omega)), ⟨(by omega), (by omega)⟩, (by rw [hr2, hr3]; exact ⟨rfl, rfl, trivial⟩), trivial⟩ ?_
     refine ae_then ?_
     refine aw_ret ?_
     refine ae_ret hB (Bv true) (by kernel_rfl) (.inl rfl) rfl (fun _ => trivial)
   ·refine aw_reg [(1, .dec true)] [3, 4, 5, 86] [3] [.ref 3 0, I n_1, slSpot true ((resR v_1 n_1).1), Bv true] [some (.box [slPoint true v_1.Points])] [((resR v_1 n_1).2) ≠ 0] (by kernel_rfl) hB ⟨h2, trivial⟩ ?_
    refine ae_then ?_
    refine aw_true rfl ?_
    refine aw_seq ?_
    refine aw_reg [] [2] [] [Bv true] [] [] (by kernel_rfl) hB trivial ?_
    refine ae_then ?_
    refine aw_ret ?_
    refine ae_ret_then ?_
    refine ae_ret hB (Bv true) (by kernel_rfl) (.inl rfl) rfl (fun _ => trivial)


/-! ### the row -/

theorem opens_t22 : OpensA Try.prog 22 (cLU8 false) (fun xs => ∀ y ∈ xs, inR .u8 y) :=
  opensA_slice (c := cU8) (sz := 1) Try.underlying22 (by kernel_rfl) (by decide) (fun x => ⟨rfl, by simp [oneA, cU8]⟩) (opensA_int Try.underlying5)

namespace fnSpots
set_option maxRecDepth 100000 in
theorem lifted (os : Os) (started : os.Started) (H : Type) (enc : TypeId × Value → H) :
    ReturnsInHanded {} Try.checked os 4 .any (Rows.fnSpotsSpec.pre6 enc Try.prog Try.f4 Rows.fnSpotsRow.domain false) (Rows.fnSpotsSpec.post enc Try.prog Try.f4 false true false false) := by
  refine returnsInHanded_of_change_shaped (C := Try.checked) Try.own started (by kernel_rfl) Try.func4
    (ChangeSpec.witness6 (enc := enc) (C := Try.checked) false ⟨#[], #[.slice none 0 0], []⟩ 8 (by kernel_rfl) (by kernel_rfl) (by kernel_rfl) (by kernel_rfl)) ?_
  intro W base args ds gs before hval0 hW hcnd hsz hshp _
  have hW' := hW
  obtain ⟨p, q, hA0, hV, rfl, hfz, hnd⟩ := hW
  have hval : ∀ (j : Nat) t v, Try.f4.params[j]? = some t → args[j]? = some v → Value.okWide Try.prog W .any base t v := hval0
  have hA : DataW.TrodAll enc Try.prog W 0 (fun _ => true) true Try.f4.params.toList args.toList ds p := hA0
  rw [Try.params4] at hA hval
  obtain ⟨v0, vs0, d0, ds0, p0, q0, hargs, rfl, rfl, h0, r0⟩ := trodAll_cons hA
  obtain ⟨rfl, rfl, rfl⟩ := trodAll_nil r0
  obtain rfl : args = #[v0] := args_eq hargs
  obtain ⟨rfl, rfl⟩ := trodVars_none hV
  obtain ⟨fuel0, hf0⟩ := h0
  obtain ⟨A0, l0, c0, rfl⟩ := okWide_slice Try.underlying22 (hval 0 22 v0 rfl rfl)
  obtain ⟨x0, rx0, ok0⟩ := (opens_t22) enc W 0 _ _ _ _ _ hf0
  refine (walk_of0 (fnSpots_con x0 ok0) (fun w _ => WX_free w) (RelTL.cons (relTL_one rx0) RelTL.nil)).mono fun e W1 ⟨he, hb⟩ => ?_
  subst he
  exact ⟨_, rfl, law_post Try.laidOut rfl Try.underlying4 (of_decide_eq_true (by kernel_rfl)) rfl hW' hb rfl⟩

theorem over : Rows.fnSpotsRow.holds Try.pinned (OpenSpec.ofChange Rows.fnSpotsSpec) :=
  OpenClaim.holds_of_wide 4 Try.f4 rfl rfl rfl rfl rfl rfl rfl ⟨rfl, rfl, rfl, rfl, rfl⟩ rfl rfl rfl rfl rfl (by kernel_rfl) Try.func4 (by kernel_rfl)
    (of_decide_eq_true (by kernel_rfl)) (by unfold Func.isWrapper; first | (rw [if_pos (by decide +kernel)]; kernel_rfl) | (rw [if_neg (by decide +kernel)]; exact ⟨rfl, rfl⟩))
    (fun os started H enc _ => lifted os started H enc)

theorem proved : Rows.FnSpotsSaid :=
  over
#print axioms proved
end fnSpots
end Go.Proofs.Ytngmfpjhlcfapaa.Ax
