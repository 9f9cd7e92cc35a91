/- Contracts that the statement FnFittedInk reaches, part 2. No conditions. -/
import Derived.Test.YtebcbkejkpjeoaaAxLFittedInk1
import Derived.Test.YtebcbkejkpjeoaaAxS
import Derived.Test.YtebcbkejkpjeoaaSortShelf
namespace Go.Proofs.Ytebcbkejkpjeoaa.Ax
open Go.RowKit Go.ChangeShapes Go.WideShapes
set_option linter.unusedVariables false
set_option linter.unusedSimpArgs false


/-- The length up to the k-th point. -/
def arcI (s : Stroke) (k : Nat) : Int := sumS s.Points (k + 1)
/-- Whether the place looked for is on the segment ahead of the k-th point, at the latest. -/
def stopB (s : Stroke) (part parts : Int) (k : Nat) : Bool := decide (1 ≤ k) && (!decide (arcI s k = arcI s (k - 1)) && !decide (arcI s k * parts < arcI s (s.Points.length - 1) * part))
def spotK (s : Stroke) (part parts : Int) (k : Nat) : Spot :=
  ⟨(at_ s.Points (k - 1)).X + nearI (((at_ s.Points k).X - (at_ s.Points (k - 1)).X) * (arcI s (s.Points.length - 1) * part - arcI s (k - 1) * parts)) ((arcI s k - arcI s (k - 1)) * parts),
   (at_ s.Points (k - 1)).Y + nearI (((at_ s.Points k).Y - (at_ s.Points (k - 1)).Y) * (arcI s (s.Points.length - 1) * part - arcI s (k - 1) * parts)) ((arcI s k - arcI s (k - 1)) * parts)⟩
/-- The place at a part of the length. -/
def spotI (s : Stroke) (part parts : Int) : Spot :=
  let k := firstN s.Points.length (stopB s part parts)
  if k < 0 then ⟨(at_ s.Points 0).X, (at_ s.Points 0).Y⟩ else spotK s part parts k.toNat
theorem spotI_at {s : Stroke} {part parts : Int} {k : Nat} (hk : k < s.Points.length) (h : stopB s part parts k = true) (hn : ∀ j, j < k → stopB s part parts j = false) : spotI s part parts = spotK s part parts k := by
  have e := firstN_hit hk h hn
  simp only [spotI, e]
  rw [if_neg (by omega)]; rfl
theorem spotI_none {s : Stroke} {part parts : Int} (hn : ∀ j, j < s.Points.length → stopB s part parts j = false) : spotI s part parts = ⟨(at_ s.Points 0).X, (at_ s.Points 0).Y⟩ := by
  have e := firstN_none hn
  simp only [spotI, e]; rfl
theorem arcI_step {s : Stroke} {k : Nat} (h : 1 ≤ k) : arcI s k = arcI s (k - 1) + segI (at_ s.Points (k - 1)) (at_ s.Points k) := by
  obtain ⟨m, rfl⟩ : ∃ m, k = m + 1 := ⟨k - 1, by omega⟩
  show sumS s.Points (m + 1 + 1) = sumS s.Points (m + 1) + _
  conv => lhs; rw [sumS]
  rw [if_neg (by omega)]
theorem arcI_zero (s : Stroke) : arcI s 0 = 0 := by simp [arcI, sumS]
theorem arcI_bd {s : Stroke} (ok : okStroke' s = true) {k : Nat} (h : k < s.Points.length) : 0 ≤ arcI s k ∧ arcI s k ≤ 5559540 := by
  have h1 := sumS_bd ok (k + 1) h
  have h2 := okS_len ok
  unfold arcI; omega
theorem arcI_up {s : Stroke} (ok : okStroke' s = true) {k : Nat} (h : k < s.Points.length) (h1 : 1 ≤ k) : arcI s (k - 1) ≤ arcI s k := by
  have := segI_bd (okS_at ok (j := k - 1) (by omega)) (okS_at ok (j := k) (by omega))
  rw [arcI_step h1]; omega
theorem arcI_mono {s : Stroke} (ok : okStroke' s = true) {m : Nat} : ∀ k, m ≤ k → k < s.Points.length → arcI s m ≤ arcI s k := by
  intro k hm hk
  induction k with
  | zero => have : m = 0 := by omega
            subst this; exact Int.le_refl _
  | succ k ih =>
    by_cases e : m = k + 1
    · subst e; exact Int.le_refl _
    · have a := ih (by omega) (by omega)
      have b := arcI_up ok (k := k + 1) hk (by omega)
      simp only [Nat.add_sub_cancel] at b
      omega
theorem stop_iff {s : Stroke} {part parts : Int} {k : Nat} : stopB s part parts k = true ↔ 1 ≤ k ∧ arcI s k ≠ arcI s (k - 1) ∧ ¬ arcI s k * parts < arcI s (s.Points.length - 1) * part := by simp [stopB]
theorem stop_no {s : Stroke} {part parts : Int} {k : Nat} (h : ¬ (1 ≤ k ∧ arcI s k ≠ arcI s (k - 1) ∧ ¬ arcI s k * parts < arcI s (s.Points.length - 1) * part)) : stopB s part parts k = false := by
  rw [← Bool.not_eq_true, stop_iff]; exact h
section
variable {s : Stroke} {part parts : Int}
theorem behind (ok : okStroke' s = true) (hp : 0 ≤ part) : ∀ k, k < s.Points.length → (∀ j, j ≤ k → stopB s part parts j = false) → arcI s k * parts ≤ arcI s (s.Points.length - 1) * part
  | 0, h, _ => by
    have h1 := (arcI_bd ok (k := s.Points.length - 1) (by omega)).1
    rw [arcI_zero, Int.zero_mul]
    exact Int.mul_nonneg h1 hp
  | k + 1, h, hn => by
    have ih := behind ok hp k (by omega) (fun j hj => hn j (by omega))
    have h1 := hn (k + 1) (Nat.le_refl _)
    rw [← Bool.not_eq_true, stop_iff] at h1
    by_cases e : arcI s (k + 1) = arcI s k
    · rw [e]; exact ih
    · apply Int.le_of_lt
      apply Classical.byContradiction
      intro hc
      exact h1 ⟨by omega, e, hc⟩
/-- How far the place is along its segment. -/
theorem spot_rest (ok : okStroke' s = true) (hp : 0 ≤ part ∧ 1 ≤ parts) {k : Nat} (hk : k < s.Points.length) (h : stopB s part parts k = true) (hn : ∀ j, j < k → stopB s part parts j = false) :
    (0 ≤ arcI s (s.Points.length - 1) * part - arcI s (k - 1) * parts ∧ arcI s (s.Points.length - 1) * part - arcI s (k - 1) * parts ≤ (arcI s k - arcI s (k - 1)) * parts) ∧ 0 < (arcI s k - arcI s (k - 1)) * parts := by
  obtain ⟨h1, h2, h3⟩ := stop_iff.1 h
  have a := behind ok hp.1 (k - 1) (by omega) (fun j hj => hn j (by omega))
  have b := arcI_up ok hk h1
  have c : 0 < (arcI s k - arcI s (k - 1)) * parts := Int.mul_pos (by omega) (by omega)
  have e : (arcI s k - arcI s (k - 1)) * parts = arcI s k * parts - arcI s (k - 1) * parts := Int.sub_mul _ _ _
  omega
theorem box_has (xs : List Point) : ∀ n j, j < n → (boxS xs n).X1 ≤ (at_ xs j).X ∧ (at_ xs j).X ≤ (boxS xs n).X2 ∧ (boxS xs n).Y1 ≤ (at_ xs j).Y ∧ (at_ xs j).Y ≤ (boxS xs n).Y2
  | n + 1, j, h => by
    simp only [boxS, joinB, ptB]
    by_cases e : j = n
    · subst e; omega
    · have := box_has xs n j (by omega); omega
/-- Places lie in the box. -/
theorem spot_in (ok : okStroke' s = true) (hp : 0 ≤ part ∧ 1 ≤ parts) :
    (boxS s.Points s.Points.length).X1 ≤ (spotI s part parts).X ∧ (spotI s part parts).X ≤ (boxS s.Points s.Points.length).X2 ∧ (boxS s.Points s.Points.length).Y1 ≤ (spotI s part parts).Y ∧ (spotI s part parts).Y ≤ (boxS s.Points s.Points.length).Y2 := by
  have hl := okS_len ok
  rcases firstN_cases s.Points.length (stopB s part parts) with ⟨_, h⟩ | ⟨k, _, hk, hs, hn⟩
  · rw [spotI_none h]; exact box_has s.Points _ 0 (by omega)
  · rw [spotI_at hk hs hn]
    have h1 := (stop_iff.1 hs).1
    have hr := spot_rest ok hp hk hs hn
    have b0 := box_has s.Points s.Points.length (k - 1) (by omega)
    have b1 := box_has s.Points s.Points.length k hk
    have nx := near_between (x := (at_ s.Points k).X - (at_ s.Points (k - 1)).X) hr.2 hr.1.1 hr.1.2
    have ny := near_between (x := (at_ s.Points k).Y - (at_ s.Points (k - 1)).Y) hr.2 hr.1.1 hr.1.2
    simp only [spotK]
    omega
theorem rootI_zero {n : Int} (h0 : 0 ≤ n) (h : rootI n = 0) : n = 0 := by
  have hs := rootN_spec n.toNat
  unfold rootI at h
  have e : rootN n.toNat = 0 := by omega
  rw [e] at hs
  omega
theorem seg_zero {a b : Point} (ha : okP a = true) (hb : okP b = true) (h : segI a b = 0) : a.X = b.X ∧ a.Y = b.Y := by
  have h1 := far_bd ha hb
  unfold segI at h
  have h2 := rootI_zero (by unfold farI; omega) h
  unfold farI at h2
  have hx : (a.X - b.X) * (a.X - b.X) = 0 := by omega
  have hy : (a.Y - b.Y) * (a.Y - b.Y) = 0 := by omega
  have hx' : a.X - b.X = 0 := by rcases Int.mul_eq_zero.1 hx with h | h <;> exact h
  have hy' : a.Y - b.Y = 0 := by rcases Int.mul_eq_zero.1 hy with h | h <;> exact h
  omega
/-- Between two points with no length between them nothing moves. -/
theorem arc_same (ok : okStroke' s = true) {m : Nat} : ∀ k, m ≤ k → k < s.Points.length → arcI s k = arcI s m → (at_ s.Points k).X = (at_ s.Points m).X ∧ (at_ s.Points k).Y = (at_ s.Points m).Y := by
  intro k hm hk he
  induction k with
  | zero => have : m = 0 := by omega
            subst this; exact ⟨rfl, rfl⟩
  | succ k ih =>
    by_cases e : m = k + 1
    · subst e; exact ⟨rfl, rfl⟩
    · have a := arcI_mono ok (m := m) k (by omega) (by omega)
      have b := arcI_step (s := s) (k := k + 1) (by omega)
      have c := segI_bd (okS_at ok (j := k) (by omega)) (okS_at ok (j := k + 1) hk)
      simp only [Nat.add_sub_cancel] at b
      have d := ih (by omega) (by omega) (by omega)
      have f := seg_zero (okS_at ok (j := k) (by omega)) (okS_at ok (j := k + 1) hk) (by omega)
      omega
/-- The first place is the first point's. -/
theorem spot_first (ok : okStroke' s = true) (hp : 1 ≤ parts) : spotI s 0 parts = ⟨(at_ s.Points 0).X, (at_ s.Points 0).Y⟩ := by
  rcases firstN_cases s.Points.length (stopB s 0 parts) with ⟨_, h⟩ | ⟨k, _, hk, hs, hn⟩
  · exact spotI_none h
  · rw [spotI_at hk hs hn]
    have h1 := (stop_iff.1 hs).1
    have hr := spot_rest ok ⟨Int.le_refl 0, hp⟩ hk hs hn
    have ha := (arcI_bd ok (k := k - 1) (by omega)).1
    have h0 : arcI s (k - 1) * parts = 0 := by
      have := Int.mul_nonneg ha (by omega : (0 : Int) ≤ parts)
      have := hr.1.1
      rw [Int.mul_zero] at this; omega
    have hz : arcI s (k - 1) = 0 := by
      rcases Int.mul_eq_zero.1 h0 with h | h
      · exact h
      · omega
    have hsame := arc_same ok (m := 0) (k - 1) (by omega) (by omega) (by rw [hz, arcI_zero])
    simp only [spotK]
    rw [h0, Int.mul_zero, Int.sub_zero, near_zero hr.2, near_zero hr.2, hsame.1, hsame.2]
    simp
/-- The last place is the last point's. -/
theorem spot_last (ok : okStroke' s = true) (hp : 1 ≤ parts) : spotI s parts parts = ⟨(at_ s.Points (s.Points.length - 1)).X, (at_ s.Points (s.Points.length - 1)).Y⟩ := by
  have hl := okS_len ok
  rcases firstN_cases s.Points.length (stopB s parts parts) with ⟨_, h⟩ | ⟨k, _, hk, hs, hn⟩
  · rw [spotI_none h]
    have hz : ∀ k, k < s.Points.length → arcI s k = 0 := by
      have hb := behind ok (by omega : 0 ≤ parts) (parts := parts)
      intro k hk
      induction k with
      | zero => exact arcI_zero s
      | succ k ih =>
        have ih := ih (by omega)
        have h1 := h (k + 1) hk
        rw [← Bool.not_eq_true, stop_iff] at h1
        apply Classical.byContradiction
        intro hc
        -- the last length change is at a point that reaches the end
        have hup := arcI_mono ok (m := k + 1) (s.Points.length - 1) (by omega) (by omega)
        have hpos := (arcI_bd ok (k := k + 1) hk).1
        -- least point whose length is the whole one
        have : ∃ q, q < s.Points.length ∧ arcI s q = arcI s (s.Points.length - 1) ∧ 1 ≤ q ∧ arcI s q ≠ arcI s (q - 1) := by
          have hne : ∀ m, m < s.Points.length → arcI s m = arcI s (s.Points.length - 1) → ∃ q, q < s.Points.length ∧ arcI s q = arcI s (s.Points.length - 1) ∧ 1 ≤ q ∧ arcI s q ≠ arcI s (q - 1) := by
            intro m
            induction m with
            | zero => intro _ h2; rw [arcI_zero] at h2; omega
            | succ m ihm =>
              intro hm h2
              by_cases e : arcI s (m + 1) = arcI s m
              · exact ihm (by omega) (by rw [← e]; exact h2)
              · exact ⟨m + 1, hm, h2, by omega, e⟩
          exact hne (s.Points.length - 1) (by omega) rfl
        obtain ⟨q, q1, q2, q3, q4⟩ := this
        have h3 := h q q1
        rw [← Bool.not_eq_true, stop_iff, q2] at h3
        exact h3 ⟨q3, by rw [← q2]; exact q4, Int.lt_irrefl _⟩
    have := arc_same ok (m := 0) (s.Points.length - 1) (by omega) (by omega) (by rw [hz _ (by omega), arcI_zero])
    rw [this.1, this.2]
  · rw [spotI_at hk hs hn]
    have h1 := stop_iff.1 hs
    have hr := spot_rest ok (by omega) hk hs hn
    have hm := arcI_mono ok (m := k) (s.Points.length - 1) (by omega) (by omega)
    have he : arcI s (s.Points.length - 1) = arcI s k := by
      apply Classical.byContradiction
      intro hc
      exact h1.2.2 (Int.mul_lt_mul_of_pos_right (by omega) (by omega))
    have hsame := arc_same ok (m := k) (s.Points.length - 1) (by omega) (by omega) he
    have e : arcI s (s.Points.length - 1) * parts - arcI s (k - 1) * parts = (arcI s k - arcI s (k - 1)) * parts := by rw [he, Int.sub_mul]
    simp only [spotK]
    rw [e, near_full hr.2, near_full hr.2, hsame.1, hsame.2]
    simp only [Spot.mk.injEq]; omega
end

theorem revS_1 {xs : List Point} {i : Int} (h : 1 ≤ i) : (revS xs (i + 1).toNat).1 = if (at_ xs i.toNat).X - (at_ xs (i - 1).toNat).X ≠ 0 ∧ (revS xs i.toNat).2 ≠ 0 ∧ ¬ (0 < (at_ xs i.toNat).X - (at_ xs (i - 1).toNat).X ↔ 0 < (revS xs i.toNat).2) then (revS xs i.toNat).1 + 1 else (revS xs i.toNat).1 := by
  have e1 : (i + 1).toNat = i.toNat + 1 := by omega
  have e2 : (i - 1).toNat = i.toNat - 1 := by omega
  have e3 : ¬ i.toNat = 0 := by omega
  rw [e1, e2]; simp only [revS, if_neg e3]
  by_cases h : (at_ xs i.toNat).X - (at_ xs (i.toNat - 1)).X = 0 <;> simp [h]
theorem revS_2 {xs : List Point} {i : Int} (h : 1 ≤ i) : (revS xs (i + 1).toNat).2 = if (at_ xs i.toNat).X - (at_ xs (i - 1).toNat).X = 0 then (revS xs i.toNat).2 else (at_ xs i.toNat).X - (at_ xs (i - 1).toNat).X := by
  have e1 : (i + 1).toNat = i.toNat + 1 := by omega
  have e2 : (i - 1).toNat = i.toNat - 1 := by omega
  have e3 : ¬ i.toNat = 0 := by omega
  rw [e1, e2]; simp only [revS, if_neg e3]
  by_cases h : (at_ xs i.toNat).X - (at_ xs (i.toNat - 1)).X = 0 <;> simp [h]

/-- The direction of a difference that is not zero. -/
def dirI (dx dy : Int) : Int :=
  if ((dx.natAbs : Int) + (dy.natAbs : Int)) * ((dx.natAbs : Int) + (dy.natAbs : Int)) ≤ (2 * (dx.natAbs : Int)) * (dx.natAbs : Int) then (if 0 < dx then 0 else 4)
  else if ((dx.natAbs : Int) + (dy.natAbs : Int)) * ((dx.natAbs : Int) + (dy.natAbs : Int)) ≤ (2 * (dy.natAbs : Int)) * (dy.natAbs : Int) then (if 0 < dy then 2 else 6)
  else if 0 < dx ∧ 0 < dy then 1 else if dx < 0 ∧ 0 < dy then 3 else if dx < 0 then 5 else 7
theorem dirI_bd (dx dy : Int) : 0 ≤ dirI dx dy ∧ dirI dx dy ≤ 7 := by unfold dirI; (repeat' split) <;> omega
theorem two_sq {x : Int} (h : 0 ≤ x) (h2 : x ≤ 4095) : 0 ≤ (2 * x) * x ∧ (2 * x) * x ≤ 33538050 := by
  have := sq_bd (x := x) (B := 4095) (by omega) h2
  rw [Int.mul_assoc]; omega
theorem dir_zero {dx dy : Int} (h : dx = 0) : ((dx.natAbs : Int) + (dy.natAbs : Int)) * ((dx.natAbs : Int) + (dy.natAbs : Int)) ≤ (2 * (dy.natAbs : Int)) * (dy.natAbs : Int) := by
  subst h
  have := sq_bd (x := (dy.natAbs : Int)) (B := (dy.natAbs : Int)) (by omega) (by omega)
  rw [Int.mul_assoc]; simp at this ⊢; omega

/-- The directions of the segments that have a length and end ahead of the k-th point. -/
def dirsL (xs : List Point) : Nat → List Int
  | 0 => []
  | k + 1 => if k = 0 ∨ ((at_ xs k).X - (at_ xs (k - 1)).X = 0 ∧ (at_ xs k).Y - (at_ xs (k - 1)).Y = 0) then dirsL xs k
    else dirsL xs k ++ [dirI ((at_ xs k).X - (at_ xs (k - 1)).X) ((at_ xs k).Y - (at_ xs (k - 1)).Y)]
theorem dirsL_len (xs : List Point) : ∀ k : Nat, (dirsL xs k).length ≤ k
  | 0 => Nat.le_refl _
  | k + 1 => by
    have := dirsL_len xs k
    unfold dirsL
    split
    · omega
    · simp; omega
theorem dirsL_one (xs : List Point) : dirsL xs 1 = [] := by simp [dirsL]
theorem dirsL_same {xs : List Point} {i : Int} (h : 1 ≤ i) (hx : (at_ xs i.toNat).X - (at_ xs (i - 1).toNat).X = 0) (hy : (at_ xs i.toNat).Y - (at_ xs (i - 1).toNat).Y = 0) : dirsL xs (i + 1).toNat = dirsL xs i.toNat := by
  have e1 : (i + 1).toNat = i.toNat + 1 := by omega
  have e2 : (i - 1).toNat = i.toNat - 1 := by omega
  rw [e2] at hx hy
  rw [e1]
  conv => lhs; unfold dirsL
  rw [if_pos (.inr ⟨hx, hy⟩)]
theorem dirsL_more {xs : List Point} {i : Int} (h : 1 ≤ i) (hn : ¬ ((at_ xs i.toNat).X - (at_ xs (i - 1).toNat).X = 0 ∧ (at_ xs i.toNat).Y - (at_ xs (i - 1).toNat).Y = 0)) :
    dirsL xs (i + 1).toNat = dirsL xs i.toNat ++ [dirI ((at_ xs i.toNat).X - (at_ xs (i - 1).toNat).X) ((at_ xs i.toNat).Y - (at_ xs (i - 1).toNat).Y)] := by
  have e1 : (i + 1).toNat = i.toNat + 1 := by omega
  have e2 : (i - 1).toNat = i.toNat - 1 := by omega
  rw [e2] at hn ⊢
  rw [e1]
  conv => lhs; unfold dirsL
  rw [if_neg (by rintro (h' | h'); omega; exact hn h')]

/-- f 0 + .. + f (n - 1). -/
def sumN : Nat → (Nat → Int) → Int
  | 0, _ => 0
  | n + 1, f => sumN n f + f n
theorem sumN_succ {n : Int} (h : 0 ≤ n) (f : Nat → Int) : sumN (n + 1).toNat f = sumN n.toNat f + f n.toNat := by
  have : (n + 1).toNat = n.toNat + 1 := by omega
  rw [this]; rfl

def bendI (a b : Int) : Int := (b - a + 11) % 8 - 3
theorem bendI_bd (a b : Int) : -3 ≤ bendI a b ∧ bendI a b ≤ 4 := by unfold bendI; omega
def bendS (l : List Int) (k : Nat) : Int := sumN k fun j => if j = 0 then 0 else bendI (at_ l (j - 1)) (at_ l j)
theorem bendS_succ {l : List Int} {i : Int} (h : 1 ≤ i) : bendS l (i + 1).toNat = bendS l i.toNat + bendI (at_ l (i - 1).toNat) (at_ l i.toNat) := by
  unfold bendS
  rw [sumN_succ (by omega), if_neg (by omega)]
  have e2 : (i - 1).toNat = i.toNat - 1 := by omega
  rw [e2]
theorem bendS_one (l : List Int) (k : Nat) (h : k ≤ 1) : bendS l k = 0 := by
  have : k = 0 ∨ k = 1 := by omega
  rcases this with rfl | rfl <;> simp [bendS, sumN]
theorem bendS_bd (l : List Int) (k : Nat) : -3 * (k : Int) ≤ bendS l k ∧ bendS l k ≤ 4 * (k : Int) := by
  induction k with
  | zero => simp [bendS, sumN]
  | succ k ih =>
    have := bendI_bd (at_ l (k - 1)) (at_ l k)
    unfold bendS at ih ⊢
    simp only [sumN]
    split <;> omega
theorem dirsL_bd (xs : List Point) : ∀ (k j : Nat), j < (dirsL xs k).length → 0 ≤ at_ (dirsL xs k) j ∧ at_ (dirsL xs k) j ≤ 7 := by
  intro k
  induction k with
  | zero => intro j h; simp [dirsL] at h
  | succ k ih =>
    unfold dirsL
    split
    · exact ih
    · intro j h
      simp only [List.length_append, List.length_singleton] at h
      by_cases e : j < (dirsL xs k).length
      · have := ih j e
        simp only [at_, List.getD_eq_getElem?_getD, List.getElem?_append_left e] at this ⊢
        exact this
      · have e2 : j = (dirsL xs k).length := by omega
        subst e2
        simp [at_]
        exact dirI_bd _ _
/-- The sum of a stroke's turns. -/
def bendT (s : Stroke) : Int := bendS (dirsL s.Points s.Points.length) (dirsL s.Points s.Points.length).length
theorem bendT_bd {s : Stroke} (ok : okStroke' s = true) : -180 ≤ bendT s ∧ bendT s ≤ 240 := by
  have h := okS_len ok
  have h1 := dirsL_len s.Points s.Points.length
  have h2 := bendS_bd (dirsL s.Points s.Points.length) (dirsL s.Points s.Points.length).length
  unfold bendT; omega

def caretB (s : Stroke) : Bool :=
  let b := boxS s.Points s.Points.length
  decide (0 < b.Y2 - b.Y1) && (decide (b.Y2 - b.Y1 ≤ 2 * ((at_ s.Points 0).Y - b.Y1)) && (decide (b.Y2 - b.Y1 ≤ 2 * ((at_ s.Points (s.Points.length - 1)).Y - b.Y1)) && decide ((revS s.Points s.Points.length).1 = 0)))
/-- The segment from a stroke's first point to its last one. -/
def endsI (s : Stroke) : Int := segI (at_ s.Points 0) (at_ s.Points (s.Points.length - 1))
def strI (s : Stroke) : Int := if sumS s.Points s.Points.length = 0 then 1000 else min 1000 (1000 * endsI s / sumS s.Points s.Points.length)
/-- The gesture of a stroke. -/
def gestI (s : Stroke) : Int :=
  if sumS s.Points s.Points.length ≤ 160 then 1 else if 3 ≤ (revS s.Points s.Points.length).1 then 2
  else if 6 ≤ ((bendT s).natAbs : Int) ∧ 4 * endsI s ≤ sumS s.Points s.Points.length then 3 else if caretB s = true then 4 else if 900 ≤ strI s then 5 else 0
def gestR (s : Stroke) : Int × Int := if okStroke' s then (gestI s, 0) else (0, 1)
theorem ends_bd {s : Stroke} (ok : okStroke' s = true) : 0 ≤ endsI s ∧ endsI s ≤ 92659 := by
  have := okS_len ok
  exact (segI_bd (okS_at ok (by omega)) (okS_at ok (by omega))).2

def mvP (dx dy : Int) (p : Point) : Point := ⟨p.X + dx, p.Y + dy, p.T⟩
def mvS (dx dy : Int) (s : Stroke) : Stroke := ⟨s.Points.map (mvP dx dy)⟩
/-- Ink at another place. -/
def mvI (dx dy : Int) (x : Ink) : Ink := ⟨x.Strokes.map (mvS dx dy)⟩
theorem mvI_len (dx dy : Int) (x : Ink) : (mvI dx dy x).Strokes.length = x.Strokes.length := by simp [mvI]
theorem mvS_len (dx dy : Int) (s : Stroke) : (mvS dx dy s).Points.length = s.Points.length := by simp [mvS]
theorem mvS_at {dx dy : Int} {s : Stroke} {j : Nat} (h : j < s.Points.length) : at_ (mvS dx dy s).Points j = mvP dx dy (at_ s.Points j) := by simp [at_, mvS, h]
theorem mvI_at {dx dy : Int} {x : Ink} {j : Nat} (h : j < x.Strokes.length) : at_ (mvI dx dy x).Strokes j = mvS dx dy (at_ x.Strokes j) := by simp [at_, mvI, h]
/-- The first k points are moved. -/
def mvTo (dx dy : Int) (k : Nat) (s : Stroke) : Stroke := ⟨(s.Points.take k).map (mvP dx dy) ++ s.Points.drop k⟩
/-- The first i strokes are moved. -/
def mvFst (dx dy : Int) (i : Nat) (xs : List Stroke) : List Stroke := (xs.take i).map (mvS dx dy) ++ xs.drop i
theorem mvTo_zero (dx dy : Int) (s : Stroke) : mvTo dx dy 0 s = s := by simp [mvTo]
theorem mvTo_all {dx dy : Int} {k : Nat} {s : Stroke} (h : s.Points.length ≤ k) : mvTo dx dy k s = mvS dx dy s := by simp [mvTo, mvS, List.take_of_length_le h, List.drop_eq_nil_of_le h]
theorem mvTo_len (dx dy : Int) (k : Nat) (s : Stroke) : (mvTo dx dy k s).Points.length = s.Points.length := by simp [mvTo]; omega
theorem mvTo_at {dx dy : Int} {k : Nat} {s : Stroke} (h : k < s.Points.length) : at_ (mvTo dx dy k s).Points k = at_ s.Points k := by
  simp [at_, mvTo, h, Nat.le_of_lt h, List.getElem?_append]
theorem mvTo_succ {dx dy : Int} {k : Nat} {s : Stroke} (h : k < s.Points.length) : mvTo dx dy (k + 1) s = ⟨(mvTo dx dy k s).Points.set k (mvP dx dy (at_ s.Points k))⟩ := by
  unfold mvTo
  simp only [Stroke.mk.injEq]
  rw [List.take_succ_eq_append_getElem h, List.set_append_right _ _ (by simp [Nat.le_of_lt h]), List.drop_eq_getElem_cons h, at_eq h]
  simp only [List.map_append, List.map_cons, List.map_nil, List.length_map, List.length_take, Nat.min_eq_left (Nat.le_of_lt h), Nat.sub_self, List.set_cons_zero, List.append_assoc, List.cons_append, List.nil_append]
theorem mvFst_zero (dx dy : Int) (xs : List Stroke) : mvFst dx dy 0 xs = xs := by simp [mvFst]
theorem mvFst_len (dx dy : Int) (i : Nat) (xs : List Stroke) : (mvFst dx dy i xs).length = xs.length := by simp [mvFst]; omega
theorem mvFst_all {dx dy : Int} {i : Nat} {xs : List Stroke} (h : xs.length ≤ i) : mvFst dx dy i xs = xs.map (mvS dx dy) := by simp [mvFst, List.take_of_length_le h, List.drop_eq_nil_of_le h]
theorem mvFst_at {dx dy : Int} {i : Nat} {xs : List Stroke} (h : i < xs.length) : at_ (mvFst dx dy i xs) i = at_ xs i := by
  simp [at_, mvFst, h, Nat.le_of_lt h, List.getElem?_append]
theorem mvFst_succ {dx dy : Int} {i : Nat} {xs : List Stroke} (h : i < xs.length) : mvFst dx dy (i + 1) xs = (mvFst dx dy i xs).set i (mvS dx dy (at_ xs i)) := by
  unfold mvFst
  rw [List.take_succ_eq_append_getElem h, List.set_append_right _ _ (by simp [Nat.le_of_lt h]), List.drop_eq_getElem_cons h, at_eq h]
  simp only [List.map_append, List.map_cons, List.map_nil, List.length_map, List.length_take, Nat.min_eq_left (Nat.le_of_lt h), Nat.sub_self, List.set_cons_zero, List.append_assoc, List.cons_append, List.nil_append]
/-- The stroke at i, of which the first k points are moved. -/
def mvIn (dx dy : Int) (i k : Nat) (xs : List Stroke) : List Stroke := (mvFst dx dy i xs).set i (mvTo dx dy k (at_ xs i))
theorem mvIn_zero {dx dy : Int} {i : Nat} {xs : List Stroke} (h : i < xs.length) : mvIn dx dy i 0 xs = mvFst dx dy i xs := by
  have hl : i < (mvFst dx dy i xs).length := by rw [mvFst_len]; exact h
  rw [mvIn, mvTo_zero]
  have := mvFst_at (dx := dx) (dy := dy) h
  conv => lhs; rw [← this]
  simp [at_, hl]
theorem mvIn_len (dx dy : Int) (i k : Nat) (xs : List Stroke) : (mvIn dx dy i k xs).length = xs.length := by simp [mvIn, mvFst_len]
theorem mvIn_at {dx dy : Int} {i k : Nat} {xs : List Stroke} (h : i < xs.length) : at_ (mvIn dx dy i k xs) i = mvTo dx dy k (at_ xs i) := by
  have hl : i < (mvFst dx dy i xs).length := by rw [mvFst_len]; exact h
  simp [mvIn, at_, hl]
theorem mvIn_succ {dx dy : Int} {i k : Nat} {xs : List Stroke} (h : i < xs.length) (hk : k < (at_ xs i).Points.length) : mvIn dx dy i (k + 1) xs = (mvIn dx dy i k xs).set i ⟨(at_ (mvIn dx dy i k xs) i).Points.set k (mvP dx dy (at_ (at_ xs i).Points k))⟩ := by
  rw [mvIn_at h, mvIn, mvTo_succ hk, mvIn, List.set_set]
theorem mvIn_all {dx dy : Int} {i k : Nat} {xs : List Stroke} (h : i < xs.length) (hk : (at_ xs i).Points.length ≤ k) : mvIn dx dy i k xs = mvFst dx dy (i + 1) xs := by
  rw [mvIn, mvTo_all hk, mvFst_succ h]
section
variable {dx dy : Int} {s : Stroke}
theorem far_mv (a b : Point) : farI (mvP dx dy a) (mvP dx dy b) = farI a b := by
  have e1 : a.X + dx - (b.X + dx) = a.X - b.X := by omega
  have e2 : a.Y + dy - (b.Y + dy) = a.Y - b.Y := by omega
  simp only [farI, mvP, e1, e2]
theorem seg_mv (a b : Point) : segI (mvP dx dy a) (mvP dx dy b) = segI a b := by rw [segI, far_mv]; rfl
theorem sum_mv : ∀ k, k ≤ s.Points.length → sumS (mvS dx dy s).Points k = sumS s.Points k
  | 0, _ => rfl
  | k + 1, h => by
    rw [sumS, sumS, sum_mv k (by omega)]
    split
    · rfl
    · rw [mvS_at (by omega), mvS_at (by omega), seg_mv]
theorem rev_mv : ∀ k, k ≤ s.Points.length → revS (mvS dx dy s).Points k = revS s.Points k
  | 0, _ => rfl
  | k + 1, h => by
    rw [revS, revS, rev_mv k (by omega)]
    split
    · rfl
    · rw [mvS_at (by omega), mvS_at (by omega)]
      have e1 : (at_ s.Points k).X + dx - ((at_ s.Points (k - 1)).X + dx) = (at_ s.Points k).X - (at_ s.Points (k - 1)).X := by omega
      simp only [mvP, e1]
theorem dirs_mv : ∀ k, k ≤ s.Points.length → dirsL (mvS dx dy s).Points k = dirsL s.Points k
  | 0, _ => rfl
  | k + 1, h => by
    rw [dirsL, dirsL, dirs_mv k (by omega)]
    by_cases hk : k = 0
    · subst hk; simp
    · rw [mvS_at (by omega), mvS_at (by omega)]
      have e1 : (at_ s.Points k).X + dx - ((at_ s.Points (k - 1)).X + dx) = (at_ s.Points k).X - (at_ s.Points (k - 1)).X := by omega
      have e2 : (at_ s.Points k).Y + dy - ((at_ s.Points (k - 1)).Y + dy) = (at_ s.Points k).Y - (at_ s.Points (k - 1)).Y := by omega
      simp only [mvP, e1, e2]
def mvB (dx dy : Int) (b : Box) : Box := ⟨b.X1 + dx, b.Y1 + dy, b.X2 + dx, b.Y2 + dy⟩
theorem box_mv (h1 : 1 ≤ s.Points.length) : ∀ k, k ≤ s.Points.length → boxS (mvS dx dy s).Points k = mvB dx dy (boxS s.Points k)
  | 0, _ => by rw [boxS, boxS, mvS_at (by omega)]; rfl
  | k + 1, h => by
    rw [boxS, boxS, box_mv h1 k (by omega), mvS_at (by omega)]
    simp only [joinB, mvB, ptB, mvP, Box.mk.injEq]
    omega
theorem caret_mv (h1 : 1 ≤ s.Points.length) : caretB (mvS dx dy s) = caretB s := by
  unfold caretB
  simp only [mvS_len]
  rw [box_mv h1 _ (Nat.le_refl _), rev_mv _ (Nat.le_refl _), mvS_at (by omega), mvS_at (by omega)]
  generalize boxS s.Points s.Points.length = b
  generalize at_ s.Points 0 = p
  generalize at_ s.Points (s.Points.length - 1) = q
  have e1 : (mvB dx dy b).Y2 - (mvB dx dy b).Y1 = b.Y2 - b.Y1 := by simp only [mvB]; omega
  have e2 : (mvP dx dy p).Y - (mvB dx dy b).Y1 = p.Y - b.Y1 := by simp only [mvB, mvP]; omega
  have e3 : (mvP dx dy q).Y - (mvB dx dy b).Y1 = q.Y - b.Y1 := by simp only [mvB, mvP]; omega
  rw [e1, e2, e3]
theorem ends_mv (h1 : 1 ≤ s.Points.length) : endsI (mvS dx dy s) = endsI s := by
  unfold endsI
  rw [mvS_len, mvS_at (by omega), mvS_at (by omega), seg_mv]
theorem bendT_mv : bendT (mvS dx dy s) = bendT s := by
  unfold bendT
  rw [mvS_len, dirs_mv _ (Nat.le_refl _)]
/-- A gesture does not depend on where it is made. -/
theorem gest_mv (h1 : 1 ≤ s.Points.length) : gestI (mvS dx dy s) = gestI s := by
  unfold gestI strI
  rw [mvS_len, sum_mv _ (Nat.le_refl _), rev_mv _ (Nat.le_refl _), bendT_mv, ends_mv h1, caret_mv h1]
end

def sameL {α : Type} [Inhabited α] [DecidableEq α] (a b : List α) : Bool := decide (a.length = b.length) && allN a.length (fun j => decide (at_ a j = at_ b j))
theorem sameL_refl {α : Type} [Inhabited α] [DecidableEq α] (a : List α) : sameL a a = true := by simp [sameL, allN_iff]

def spotR (s : Stroke) (part parts : Int) : Spot × Int := if okStroke' s = true then (if inB parts 1 1000 = true ∧ inB part 0 parts = true then (spotI s part parts, 0) else (⟨0, 0⟩, 2)) else (⟨0, 0⟩, 1)
/-- The first k of n places at equal distances. -/
def resK (s : Stroke) (n : Int) (k : Nat) : List Spot := (List.range k).map fun j : Nat => spotI s (j : Int) (n - 1)
def resQ (s : Stroke) (n : Int) : List Spot := resK s n n.toNat
def resR (s : Stroke) (n : Int) : List Spot × Int := if okStroke' s = true then (if inB n 2 24 = true then (resQ s n, 0) else ([], 2)) else ([], 1)
theorem resK_succ {s : Stroke} {n k : Int} (h : 0 ≤ k) : resK s n (k + 1).toNat = resK s n k.toNat ++ [spotI s k (n - 1)] := by
  have e : (k + 1).toNat = k.toNat + 1 := by omega
  have e2 : ((k.toNat : Nat) : Int) = k := by omega
  rw [e]; simp [resK, List.range_succ, e2]
theorem spot_ext {a b : Spot} (h1 : a.X = b.X) (h2 : a.Y = b.Y) : a = b := by
  cases a; cases b; simp_all
theorem resR_no {s : Stroke} {n : Int} (h : okStroke' s = false) : resR s n = ([], 1) := by simp [resR, h]
theorem resR_rng {s : Stroke} {n : Int} (h : okStroke' s = true) (h2 : inB n 2 24 = false) : resR s n = ([], 2) := by simp [resR, h, h2]
theorem resR_yes {s : Stroke} {n : Int} (h : okStroke' s = true) (h2 : inB n 2 24 = true) : resR s n = (resQ s n, 0) := by simp [resR, h, h2]
theorem resQ_len (s : Stroke) (n : Int) : (resQ s n).length = n.toNat := by simp [resQ, resK]
theorem resQ_at {s : Stroke} {n : Int} {j : Nat} (h : j < n.toNat) : at_ (resQ s n) j = spotI s j (n - 1) := by simp [at_, resQ, resK, h]
def boxR (s : Stroke) : Box × Int := if okStroke' s = true then (boxS s.Points s.Points.length, 0) else (⟨0, 0, 0, 0⟩, 1)

def mpS (f : Point → Point) (s : Stroke) : Stroke := ⟨s.Points.map (f)⟩
/-- Ink at another place. -/
def mpI (f : Point → Point) (x : Ink) : Ink := ⟨x.Strokes.map (mpS f)⟩
theorem mpI_len (f : Point → Point) (x : Ink) : (mpI f x).Strokes.length = x.Strokes.length := by simp [mpI]
theorem mpS_len (f : Point → Point) (s : Stroke) : (mpS f s).Points.length = s.Points.length := by simp [mpS]
theorem mpS_at {f : Point → Point} {s : Stroke} {j : Nat} (h : j < s.Points.length) : at_ (mpS f s).Points j = f (at_ s.Points j) := by simp [at_, mpS, h]
theorem mpI_at {f : Point → Point} {x : Ink} {j : Nat} (h : j < x.Strokes.length) : at_ (mpI f x).Strokes j = mpS f (at_ x.Strokes j) := by simp [at_, mpI, h]
/-- The first k points are moved. -/
def mpTo (f : Point → Point) (k : Nat) (s : Stroke) : Stroke := ⟨(s.Points.take k).map (f) ++ s.Points.drop k⟩
/-- The first i strokes are moved. -/
def mpFst (f : Point → Point) (i : Nat) (xs : List Stroke) : List Stroke := (xs.take i).map (mpS f) ++ xs.drop i
theorem mpTo_zero (f : Point → Point) (s : Stroke) : mpTo f 0 s = s := by simp [mpTo]
theorem mpTo_all {f : Point → Point} {k : Nat} {s : Stroke} (h : s.Points.length ≤ k) : mpTo f k s = mpS f s := by simp [mpTo, mpS, List.take_of_length_le h, List.drop_eq_nil_of_le h]
theorem mpTo_len (f : Point → Point) (k : Nat) (s : Stroke) : (mpTo f k s).Points.length = s.Points.length := by simp [mpTo]; omega
theorem mpTo_at {f : Point → Point} {k : Nat} {s : Stroke} (h : k < s.Points.length) : at_ (mpTo f k s).Points k = at_ s.Points k := by
  simp [at_, mpTo, h, Nat.le_of_lt h, List.getElem?_append]
theorem mpTo_succ {f : Point → Point} {k : Nat} {s : Stroke} (h : k < s.Points.length) : mpTo f (k + 1) s = ⟨(mpTo f k s).Points.set k (f (at_ s.Points k))⟩ := by
  unfold mpTo
  simp only [Stroke.mk.injEq]
  rw [List.take_succ_eq_append_getElem h, List.set_append_right _ _ (by simp [Nat.le_of_lt h]), List.drop_eq_getElem_cons h, at_eq h]
  simp only [List.map_append, List.map_cons, List.map_nil, List.length_map, List.length_take, Nat.min_eq_left (Nat.le_of_lt h), Nat.sub_self, List.set_cons_zero, List.append_assoc, List.cons_append, List.nil_append]
theorem mpFst_zero (f : Point → Point) (xs : List Stroke) : mpFst f 0 xs = xs := by simp [mpFst]
theorem mpFst_len (f : Point → Point) (i : Nat) (xs : List Stroke) : (mpFst f i xs).length = xs.length := by simp [mpFst]; omega
theorem mpFst_all {f : Point → Point} {i : Nat} {xs : List Stroke} (h : xs.length ≤ i) : mpFst f i xs = xs.map (mpS f) := by simp [mpFst, List.take_of_length_le h, List.drop_eq_nil_of_le h]
theorem mpFst_at {f : Point → Point} {i : Nat} {xs : List Stroke} (h : i < xs.length) : at_ (mpFst f i xs) i = at_ xs i := by
  simp [at_, mpFst, h, Nat.le_of_lt h, List.getElem?_append]
theorem mpFst_succ {f : Point → Point} {i : Nat} {xs : List Stroke} (h : i < xs.length) : mpFst f (i + 1) xs = (mpFst f i xs).set i (mpS f (at_ xs i)) := by
  unfold mpFst
  rw [List.take_succ_eq_append_getElem h, List.set_append_right _ _ (by simp [Nat.le_of_lt h]), List.drop_eq_getElem_cons h, at_eq h]
  simp only [List.map_append, List.map_cons, List.map_nil, List.length_map, List.length_take, Nat.min_eq_left (Nat.le_of_lt h), Nat.sub_self, List.set_cons_zero, List.append_assoc, List.cons_append, List.nil_append]
/-- The stroke at i, of which the first k points are moved. -/
def mpIn (f : Point → Point) (i k : Nat) (xs : List Stroke) : List Stroke := (mpFst f i xs).set i (mpTo f k (at_ xs i))
theorem mpIn_zero {f : Point → Point} {i : Nat} {xs : List Stroke} (h : i < xs.length) : mpIn f i 0 xs = mpFst f i xs := by
  have hl : i < (mpFst f i xs).length := by rw [mpFst_len]; exact h
  rw [mpIn, mpTo_zero]
  have := mpFst_at (f := f) h
  conv => lhs; rw [← this]
  simp [at_, hl]
theorem mpIn_len (f : Point → Point) (i k : Nat) (xs : List Stroke) : (mpIn f i k xs).length = xs.length := by simp [mpIn, mpFst_len]
theorem mpIn_at {f : Point → Point} {i k : Nat} {xs : List Stroke} (h : i < xs.length) : at_ (mpIn f i k xs) i = mpTo f k (at_ xs i) := by
  have hl : i < (mpFst f i xs).length := by rw [mpFst_len]; exact h
  simp [mpIn, at_, hl]
theorem mpIn_succ {f : Point → Point} {i k : Nat} {xs : List Stroke} (h : i < xs.length) (hk : k < (at_ xs i).Points.length) : mpIn f i (k + 1) xs = (mpIn f i k xs).set i ⟨(at_ (mpIn f i k xs) i).Points.set k (f (at_ (at_ xs i).Points k))⟩ := by
  rw [mpIn_at h, mpIn, mpTo_succ hk, mpIn, List.set_set]
theorem mpIn_all {f : Point → Point} {i k : Nat} {xs : List Stroke} (h : i < xs.length) (hk : (at_ xs i).Points.length ≤ k) : mpIn f i k xs = mpFst f (i + 1) xs := by
  rw [mpIn, mpTo_all hk, mpFst_succ h]

theorem at_setS' {α : Type} [Inhabited α] {xs : List α} {i : Nat} {y : α} (h : i < xs.length) : at_ (xs.set i y) i = y := by simp [at_, h]
theorem mapTake_succ {α β : Type} [Inhabited α] {xs : List α} {f : α → β} {i : Int} {y : β} (h0 : 0 ≤ i) (h : i.toNat < xs.length) (hy : y = f (at_ xs i.toNat)) : (xs.take (i + 1).toNat).map f = (xs.take i.toNat).map f ++ [y] := by
  have e : (i + 1).toNat = i.toNat + 1 := by omega
  rw [e, List.take_succ_eq_append_getElem h, hy, at_eq h]
  simp only [List.map_append, List.map_cons, List.map_nil]
theorem map_all {α β : Type} {xs : List α} {f : α → β} {i : Int} (h : (xs.length : Int) ≤ i) : (xs.take i.toNat).map f = xs.map f := by
  rw [List.take_of_length_le (by omega)]
section
variable {f : Point → Point} {i k : Int} {xs ys : List Stroke}
theorem mpIn_pt (e : ys = mpIn f i.toNat k.toNat xs) (hi : i.toNat < xs.length) (hk : k.toNat < (at_ xs i.toNat).Points.length) : at_ (at_ ys i.toNat).Points k.toNat = at_ (at_ xs i.toNat).Points k.toNat := by rw [e, mpIn_at hi, mpTo_at hk]
theorem mpIn_next (e : ys = mpIn f i.toNat k.toNat xs) (hk0 : 0 ≤ k) (hi : i.toNat < xs.length) (hk : k.toNat < (at_ xs i.toNat).Points.length) {p : Point} (hp : p = f (at_ (at_ xs i.toNat).Points k.toNat)) :
    ys.set i.toNat ⟨(at_ ys i.toNat).Points.set k.toNat p⟩ = mpIn f i.toNat (k + 1).toNat xs := by
  have ek : (k + 1).toNat = k.toNat + 1 := by omega
  rw [hp, ek, mpIn_succ hi hk, ← e]
theorem mpIn_exit (e : ys = mpIn f i.toNat k.toNat xs) (hi0 : 0 ≤ i) (hi : i.toNat < xs.length) (hk : (at_ xs i.toNat).Points.length ≤ k.toNat) : ys = mpFst f (i + 1).toNat xs := by
  have ei : (i + 1).toNat = i.toNat + 1 := by omega
  rw [e, ei, mpIn_all hi hk]
theorem mpIn_row (e : ys = mpIn f i.toNat k.toNat xs) (hi : i.toNat < xs.length) : (at_ ys i.toNat).Points.length = (at_ xs i.toNat).Points.length := by rw [e, mpIn_at hi, mpTo_len]
theorem mpI_id {x : Ink} (h : ∀ p, f p = p) : mpI f x = x := by
  have hs : ∀ s : Stroke, mpS f s = s := fun s => by
    have e : f = id := funext h
    unfold mpS; rw [e, List.map_id]
  have e2 : mpS f = id := funext hs
  unfold mpI; rw [e2, List.map_id]
end

/-- A point without a slant. -/
def strP (slant base : Int) (p : Point) : Point := ⟨p.X - nearI (slant * (base - p.Y)) 256, p.Y, p.T⟩
theorem mulA_bd {x y A B : Int} (h0 : -A ≤ x) (h1 : x ≤ A) (h2 : -B ≤ y) (h3 : y ≤ B) : -(A * B) ≤ x * y ∧ x * y ≤ A * B := by
  rcases Int.le_total 0 y with h | h
  · exact mulS_bd h0 h1 h h3
  · have := mulS_bd h0 h1 (by omega : 0 ≤ -y) (by omega : -y ≤ B)
    rw [Int.mul_neg] at this; omega
theorem near_abs (n : Int) {d : Int} (hd : 0 < d) : -(((2 * n + d).natAbs : Nat) : Int) ≤ nearI n d ∧ nearI n d ≤ (((2 * n + d).natAbs : Nat) : Int) := ediv_bd _ (by omega)
/-- What an ink becomes without a slant, and a code. -/
def strgR (x : Ink) (slant base : Int) : Ink × Int :=
  if okInk' x = true then (if inB slant (-256) 256 = true ∧ inB base 0 4095 = true then (if okInk' (mpI (strP slant base) x) = true then (mpI (strP slant base) x, 0) else (⟨[]⟩, 6)) else (⟨[]⟩, 2)) else (⟨[]⟩, 1)
theorem strg_inv {x : Ink} {a b : Int} (h : okInk' x = false) : strgR x a b = (⟨[]⟩, 1) := by simp [strgR, h]
theorem strg_rng {x : Ink} {a b : Int} (h : okInk' x = true) (h2 : ¬ (inB a (-256) 256 = true ∧ inB b 0 4095 = true)) : strgR x a b = (⟨[]⟩, 2) := by rw [strgR, if_pos h, if_neg h2]
theorem strg_st {x : Ink} {a b : Int} (h : okInk' x = true) (h2 : inB a (-256) 256 = true ∧ inB b 0 4095 = true) (h3 : okInk' (mpI (strP a b) x) = false) : strgR x a b = (⟨[]⟩, 6) := by rw [strgR, if_pos h, if_pos h2, if_neg (by simp [h3])]
theorem strg_yes {x : Ink} {a b : Int} (h : okInk' x = true) (h2 : inB a (-256) 256 = true ∧ inB b 0 4095 = true) (h3 : okInk' (mpI (strP a b) x) = true) : strgR x a b = (mpI (strP a b) x, 0) := by rw [strgR, if_pos h, if_pos h2, if_pos h3]
theorem strP_zero (p : Point) : strP 0 0 p = p := by
  have e : nearI (0 * (0 - p.Y)) 256 = 0 := by rw [Int.zero_mul]; decide
  unfold strP; rw [e]; simp
theorem strg_zero {x : Ink} (h : okInk' x = true) : strgR x 0 0 = (x, 0) := by
  have e := mpI_id (x := x) strP_zero
  have := strg_yes h (a := 0) (b := 0) ⟨by decide, by decide⟩ (by rw [e]; exact h)
  rw [this, e]
/-- What a segment gives to the slant. -/
def slaA (a b : Point) : Int := if ((b.X - a.X).natAbs : Int) < ((b.Y - a.Y).natAbs : Int) then (b.X - a.X) * (b.Y - a.Y) else 0
def slaD (a b : Point) : Int := if ((b.X - a.X).natAbs : Int) < ((b.Y - a.Y).natAbs : Int) then (b.Y - a.Y) * (b.Y - a.Y) else 0
def slaS (xs : List Point) : Nat → Int × Int
  | 0 => (0, 0)
  | k + 1 => if k = 0 then (0, 0) else ((slaS xs k).1 - slaA (at_ xs (k - 1)) (at_ xs k), (slaS xs k).2 + slaD (at_ xs (k - 1)) (at_ xs k))
def slaI (xs : List Stroke) : Nat → Int × Int
  | 0 => (0, 0)
  | k + 1 => ((slaI xs k).1 + (slaS (at_ xs k).Points (at_ xs k).Points.length).1, (slaI xs k).2 + (slaS (at_ xs k).Points (at_ xs k).Points.length).2)
def slantR (x : Ink) : Int × Int := if okInk' x = true then (if (slaI x.Strokes x.Strokes.length).2 = 0 then (0, 6) else (nearI (256 * (slaI x.Strokes x.Strokes.length).1) (slaI x.Strokes x.Strokes.length).2, 0)) else (0, 1)
theorem slaS_one (xs : List Point) (k : Nat) (h : k ≤ 1) : slaS xs k = (0, 0) := by
  have : k = 0 ∨ k = 1 := by omega
  rcases this with rfl | rfl <;> simp [slaS]
theorem slaS_1 {xs : List Point} {i : Int} (h : 1 ≤ i) : (slaS xs (i + 1).toNat).1 = (slaS xs i.toNat).1 - slaA (at_ xs (i - 1).toNat) (at_ xs i.toNat) := by
  have e1 : (i + 1).toNat = i.toNat + 1 := by omega
  have e2 : (i - 1).toNat = i.toNat - 1 := by omega
  rw [e1, e2, slaS, if_neg (by omega)]
theorem slaS_2 {xs : List Point} {i : Int} (h : 1 ≤ i) : (slaS xs (i + 1).toNat).2 = (slaS xs i.toNat).2 + slaD (at_ xs (i - 1).toNat) (at_ xs i.toNat) := by
  have e1 : (i + 1).toNat = i.toNat + 1 := by omega
  have e2 : (i - 1).toNat = i.toNat - 1 := by omega
  rw [e1, e2, slaS, if_neg (by omega)]
theorem slaI_1 {xs : List Stroke} {i : Int} (h : 0 ≤ i) : (slaI xs (i + 1).toNat).1 = (slaI xs i.toNat).1 + (slaS (at_ xs i.toNat).Points (at_ xs i.toNat).Points.length).1 := by
  have e1 : (i + 1).toNat = i.toNat + 1 := by omega
  rw [e1]; rfl
theorem slaI_2 {xs : List Stroke} {i : Int} (h : 0 ≤ i) : (slaI xs (i + 1).toNat).2 = (slaI xs i.toNat).2 + (slaS (at_ xs i.toNat).Points (at_ xs i.toNat).Points.length).2 := by
  have e1 : (i + 1).toNat = i.toNat + 1 := by omega
  rw [e1]; rfl
theorem sla_seg {a b : Point} (ha : okP a = true) (hb : okP b = true) : (-(slaD a b) ≤ slaA a b ∧ slaA a b ≤ slaD a b) ∧ 0 ≤ slaD a b ∧ slaD a b ≤ 16769025 := by
  have h1 := okP_iff.1 ha
  have h2 := okP_iff.1 hb
  unfold slaA slaD
  split
  · rename_i h
    have h3 := sq_bd (x := b.Y - a.Y) (B := 4095) (by omega) (by omega)
    refine ⟨?_, h3.1, by omega⟩
    have e : (b.Y - a.Y) * (b.Y - a.Y) = ((b.Y - a.Y).natAbs : Int) * ((b.Y - a.Y).natAbs : Int) := by rw [← Int.natCast_mul, Int.natAbs_mul_self]
    rw [e]
    exact mulA_bd (by omega) (by omega) (by omega) (by omega)
  · omega
theorem sla_bd {s : Stroke} (ok : okStroke' s = true) : ∀ k, k ≤ s.Points.length → (-(slaS s.Points k).2 ≤ (slaS s.Points k).1 ∧ (slaS s.Points k).1 ≤ (slaS s.Points k).2) ∧ 0 ≤ (slaS s.Points k).2 ∧ (slaS s.Points k).2 ≤ 16769025 * (k : Int)
  | 0, _ => by simp [slaS]
  | k + 1, h => by
    have ih := sla_bd ok k (by omega)
    rw [slaS]
    split
    · simp only; omega
    · have := sla_seg (okS_at ok (j := k - 1) (by omega)) (okS_at ok (j := k) (by omega))
      simp only; omega
theorem slaI_bd {x : Ink} (ok : okInk' x = true) : ∀ k, k ≤ x.Strokes.length → (-(slaI x.Strokes k).2 ≤ (slaI x.Strokes k).1 ∧ (slaI x.Strokes k).1 ≤ (slaI x.Strokes k).2) ∧ 0 ≤ (slaI x.Strokes k).2 ∧ (slaI x.Strokes k).2 ≤ 1006141500 * (k : Int)
  | 0, _ => by simp [slaI]
  | k + 1, h => by
    have ih := slaI_bd ok k (by omega)
    have ho := okI_all ok k (by omega)
    have h1 := sla_bd ho _ (Nat.le_refl _)
    have h2 := okS_len ho
    simp only [slaI]
    omega
theorem near_in {n d : Int} (hd : 0 < d) (h1 : -d ≤ n) (h2 : n ≤ d) : -256 ≤ nearI (256 * n) d ∧ nearI (256 * n) d ≤ 256 := by
  unfold nearI
  constructor
  · exact Int.le_ediv_of_mul_le (by omega) (by omega)
  · have b : (2 * (256 * n) + d) / (2 * d) < 257 := Int.ediv_lt_of_lt_mul (by omega) (by omega)
    omega
theorem slant_in {x : Ink} (h : (slantR x).2 = 0) : -256 ≤ (slantR x).1 ∧ (slantR x).1 ≤ 256 := by
  unfold slantR at h ⊢
  split at h
  · rename_i ok
    rw [if_pos ok]
    split at h
    · cases h
    · rename_i hd
      rw [if_neg hd]
      have := slaI_bd ok _ (Nat.le_refl _)
      exact near_in (by omega) this.1.1 this.1.2
  · cases h
theorem slaS_mv {dx dy : Int} {s : Stroke} : ∀ k, k ≤ s.Points.length → slaS (mvS dx dy s).Points k = slaS s.Points k
  | 0, _ => rfl
  | k + 1, h => by
    rw [slaS, slaS, slaS_mv k (by omega)]
    by_cases hk : k = 0
    · subst hk; rfl
    · rw [if_neg hk, if_neg hk, mvS_at (by omega), mvS_at (by omega)]
      have e1 : (at_ s.Points k).X + dx - ((at_ s.Points (k - 1)).X + dx) = (at_ s.Points k).X - (at_ s.Points (k - 1)).X := by omega
      have e2 : (at_ s.Points k).Y + dy - ((at_ s.Points (k - 1)).Y + dy) = (at_ s.Points k).Y - (at_ s.Points (k - 1)).Y := by omega
      simp only [slaA, slaD, mvP, e1, e2]
theorem slaI_mv {dx dy : Int} {x : Ink} : ∀ k, k ≤ x.Strokes.length → slaI (mvI dx dy x).Strokes k = slaI x.Strokes k
  | 0, _ => rfl
  | k + 1, h => by
    rw [slaI, slaI, slaI_mv k (by omega), mvI_at (by omega), mvS_len, slaS_mv _ (Nat.le_refl _)]
theorem slant_mv {dx dy : Int} {x : Ink} (h1 : okInk' x = true) (h2 : okInk' (mvI dx dy x) = true) : slantR (mvI dx dy x) = slantR x := by
  unfold slantR
  rw [if_pos h1, if_pos h2, mvI_len, slaI_mv _ (Nat.le_refl _)]
def sameS (a b : Stroke) : Bool := sameL a.Points b.Points
def sameI (a b : Ink) : Bool := decide (a.Strokes.length = b.Strokes.length) && allN a.Strokes.length (fun j => sameS (at_ a.Strokes j) (at_ b.Strokes j))
theorem sameI_refl (a : Ink) : sameI a a = true := by simp [sameI, sameS, sameL_refl, allN_iff]
theorem sameI_of {a b : Ink} (h : a = b) : sameI a b = true := by rw [h]; exact sameI_refl b
theorem pt_ext {a b : Point} (h1 : a.X = b.X) (h2 : a.Y = b.Y) (h3 : a.T = b.T) : a = b := by
  cases a; cases b; simp_all

def okF (p : Feat) : Bool := inB p.X 0 255 && (inB p.Y 0 255 && inB p.D 0 7)
theorem okF_iff {p : Feat} : okF p = true ↔ (0 ≤ p.X ∧ p.X ≤ 255) ∧ (0 ≤ p.Y ∧ p.Y ≤ 255) ∧ (0 ≤ p.D ∧ p.D ≤ 7) := by simp [okF, inB, and_assoc]
/-- Whether all are features, and they are 1 to m. -/
def okFeats (xs : List Feat) (m : Int) : Bool := decide (1 ≤ (xs.length : Int) ∧ (xs.length : Int) ≤ m) && allN xs.length (fun j => okF (at_ xs j))
theorem okFeats_at {xs : List Feat} {m : Int} (h : okFeats xs m = true) {j : Nat} (hj : j < xs.length) : okF (at_ xs j) = true := by
  simp only [okFeats, Bool.and_eq_true] at h
  exact allN_get h.2 hj

def strB (s : Stroke) : Box := boxS s.Points s.Points.length
/-- The box of the first stroke and the first k strokes. -/
def inkB (xs : List Stroke) : Nat → Box
  | 0 => strB (at_ xs 0)
  | k + 1 => joinB (inkB xs k) (strB (at_ xs k))
def inBox (a b : Box) : Prop := (b.X1 ≤ a.X1 ∧ a.X2 ≤ b.X2) ∧ b.Y1 ≤ a.Y1 ∧ a.Y2 ≤ b.Y2
theorem inkB_succ {xs : List Stroke} {i : Int} (h : 0 ≤ i) : inkB xs (i + 1).toNat = joinB (inkB xs i.toNat) (strB (at_ xs i.toNat)) := by
  have : (i + 1).toNat = i.toNat + 1 := by omega
  rw [this]; rfl
theorem inkB_one (xs : List Stroke) : inkB xs 1 = strB (at_ xs 0) := by simp [inkB, joinB]
theorem inkB_ok {x : Ink} (ok : okInk' x = true) (h0 : 1 ≤ x.Strokes.length) : ∀ k, k ≤ x.Strokes.length → okBox (inkB x.Strokes k)
  | 0, _ => boxS_all (okI_all ok 0 (by omega))
  | k + 1, h => joinB_ok (inkB_ok ok h0 k (by omega)) (boxS_all (okI_all ok k (by omega)))
theorem inkB_has (xs : List Stroke) : ∀ n j, j < n → inBox (strB (at_ xs j)) (inkB xs n)
  | n + 1, j, h => by
    by_cases e : j = n
    · subst e; simp only [inkB, joinB, inBox]; omega
    · have := inkB_has xs n j (by omega)
      simp only [inkB, joinB, inBox] at this ⊢; omega
def sideB (b : Box) : Int := max 1 (max (b.X2 - b.X1) (b.Y2 - b.Y1))
def normP (p : Spot) (b : Box) : Spot := ⟨(255 - (b.X2 - b.X1) * 255 / sideB b) / 2 + nearI ((p.X - b.X1) * 255) (sideB b), (255 - (b.Y2 - b.Y1) * 255 / sideB b) / 2 + nearI ((p.Y - b.Y1) * 255) (sideB b)⟩
theorem quo255 {w d : Int} (h0 : 0 ≤ w) (h1 : w ≤ d) (hd : 1 ≤ d) : 0 ≤ w * 255 / d ∧ w * 255 / d ≤ 255 := by
  refine ⟨Int.ediv_nonneg (by omega) (by omega), ?_⟩
  have : w * 255 / d < 256 := Int.ediv_lt_of_lt_mul (by omega) (by omega)
  omega
/-- A place scaled into the square lies in the square. -/
theorem norm1 {x w d : Int} (hx : 0 ≤ x ∧ x ≤ w) (h1 : w ≤ d) (hd : 1 ≤ d) : 0 ≤ (255 - w * 255 / d) / 2 + nearI (x * 255) d ∧ (255 - w * 255 / d) / 2 + nearI (x * 255) d ≤ 255 := by
  have hq := quo255 (w := w) (d := d) (by omega) h1 hd
  have hn := (near_between (x := 255) (r := x) (d := d) (by omega) hx.1 (by omega)).1 (by omega)
  rw [Int.mul_comm 255 x] at hn
  have hs := near_spec (x * 255) (d := d) (by omega)
  have hm : x * 255 / d ≤ w * 255 / d := Int.ediv_le_ediv (by omega) (by omega)
  have hle : nearI (x * 255) d ≤ w * 255 / d + 1 := by
    by_cases hc : d - (x * 255 - x * 255 / d * d) ≤ x * 255 - x * 255 / d * d
    · have := hs.1 hc; omega
    · have := hs.2 hc; omega
  omega
theorem side_bd {b : Box} (hb : okBox b) : (1 ≤ sideB b ∧ sideB b ≤ 4095) ∧ b.X2 - b.X1 ≤ sideB b ∧ b.Y2 - b.Y1 ≤ sideB b := by
  unfold okBox at hb; unfold sideB; omega
theorem norm_in {p : Spot} {b : Box} (hb : okBox b) (hp : (b.X1 ≤ p.X ∧ p.X ≤ b.X2) ∧ b.Y1 ≤ p.Y ∧ p.Y ≤ b.Y2) : (0 ≤ (normP p b).X ∧ (normP p b).X ≤ 255) ∧ 0 ≤ (normP p b).Y ∧ (normP p b).Y ≤ 255 := by
  have hs := side_bd hb
  exact ⟨norm1 (by omega) hs.2.1 hs.1.1, norm1 (by omega) hs.2.2 hs.1.1⟩
/-- The direction behind the first k places. -/
def dirQ (l : List Spot) : Nat → Int
  | 0 => 0
  | k + 1 => if k + 1 < l.length ∧ ¬ ((at_ l (k + 1)).X - (at_ l k).X = 0 ∧ (at_ l (k + 1)).Y - (at_ l k).Y = 0) then dirI ((at_ l (k + 1)).X - (at_ l k).X) ((at_ l (k + 1)).Y - (at_ l k).Y) else dirQ l k
theorem dirQ_bd (l : List Spot) : ∀ k, 0 ≤ dirQ l k ∧ dirQ l k ≤ 7
  | 0 => by simp [dirQ]
  | k + 1 => by
    rw [dirQ]; split
    · exact dirI_bd _ _
    · exact dirQ_bd l k
theorem dirQ_yes {l : List Spot} {k : Int} (h0 : 0 ≤ k) (h : k + 1 < (l.length : Int)) (hn : ¬ ((at_ l (k + 1).toNat).X - (at_ l k.toNat).X = 0 ∧ (at_ l (k + 1).toNat).Y - (at_ l k.toNat).Y = 0)) :
    dirQ l (k + 1).toNat = dirI ((at_ l (k + 1).toNat).X - (at_ l k.toNat).X) ((at_ l (k + 1).toNat).Y - (at_ l k.toNat).Y) := by
  have e : (k + 1).toNat = k.toNat + 1 := by omega
  rw [e] at hn ⊢
  rw [dirQ, if_pos ⟨by omega, hn⟩]
theorem dirQ_no {l : List Spot} {k : Int} (h0 : 0 ≤ k) (h : ¬ (k + 1 < (l.length : Int) ∧ ¬ ((at_ l (k + 1).toNat).X - (at_ l k.toNat).X = 0 ∧ (at_ l (k + 1).toNat).Y - (at_ l k.toNat).Y = 0))) : dirQ l (k + 1).toNat = dirQ l k.toNat := by
  have e : (k + 1).toNat = k.toNat + 1 := by omega
  rw [e] at h ⊢
  rw [dirQ, if_neg (fun q => h ⟨by omega, q.2⟩)]
def featAt (l : List Spot) (b : Box) (k : Nat) : Feat := ⟨(normP (at_ l k) b).X, (normP (at_ l k) b).Y, dirQ l (k + 1)⟩
/-- The features of the first k places. -/
def featK (l : List Spot) (b : Box) (k : Nat) : List Feat := (List.range k).map (featAt l b)
theorem featK_succ {l : List Spot} {b : Box} {k : Int} (h : 0 ≤ k) : featK l b (k + 1).toNat = featK l b k.toNat ++ [⟨(normP (at_ l k.toNat) b).X, (normP (at_ l k.toNat) b).Y, dirQ l (k + 1).toNat⟩] := by
  have e : (k + 1).toNat = k.toNat + 1 := by omega
  rw [e]; simp [featK, List.range_succ, featAt]
def featQ (s : Stroke) (n : Int) (b : Box) : List Feat := featK (resQ s n) b (resQ s n).length
theorem featK_len (l : List Spot) (b : Box) (k : Nat) : (featK l b k).length = k := by simp [featK]
theorem featQ_len (s : Stroke) (n : Int) (b : Box) : (featQ s n b).length = n.toNat := by rw [featQ, featK_len, resQ_len]
/-- The features of the first strokes. -/
def featI (xs : List Stroke) (n : Int) (b : Box) : Nat → List Feat
  | 0 => []
  | i + 1 => featI xs n b i ++ featQ (at_ xs i) n b
theorem featI_succ {xs : List Stroke} {n : Int} {b : Box} {i : Int} (h : 0 ≤ i) : featI xs n b (i + 1).toNat = featI xs n b i.toNat ++ featQ (at_ xs i.toNat) n b := by
  have e : (i + 1).toNat = i.toNat + 1 := by omega
  rw [e]; rfl
theorem featI_len (xs : List Stroke) (n : Int) (b : Box) : ∀ i, (featI xs n b i).length = i * n.toNat
  | 0 => by simp [featI]
  | i + 1 => by rw [featI, List.length_append, featI_len, featQ_len, Nat.succ_mul]
def feA (x : Ink) (n : Int) : List Feat := featI x.Strokes n (inkB x.Strokes x.Strokes.length) x.Strokes.length
def feR (x : Ink) (n : Int) : List Feat × Int := if okInk' x = true then (if inB n 2 24 = true then (if (x.Strokes.length : Int) = 0 then ([], 6) else (feA x n, 0)) else ([], 2)) else ([], 1)
theorem feR_inv {x : Ink} {n : Int} (h : okInk' x = false) : feR x n = ([], 1) := by simp [feR, h]
theorem feR_rng {x : Ink} {n : Int} (h : okInk' x = true) (h2 : inB n 2 24 = false) : feR x n = ([], 2) := by simp [feR, h, h2]
theorem feR_st {x : Ink} {n : Int} (h : okInk' x = true) (h2 : inB n 2 24 = true) (h3 : (x.Strokes.length : Int) = 0) : feR x n = ([], 6) := by rw [feR, if_pos h, if_pos h2, if_pos h3]
theorem feR_yes {x : Ink} {n : Int} (h : okInk' x = true) (h2 : inB n 2 24 = true) (h3 : ¬ (x.Strokes.length : Int) = 0) : feR x n = (feA x n, 0) := by rw [feR, if_pos h, if_pos h2, if_neg h3]
theorem feR_ok {x : Ink} {n : Int} (h : (feR x n).2 = 0) : okInk' x = true ∧ inB n 2 24 = true ∧ ¬ (x.Strokes.length : Int) = 0 ∧ feR x n = (feA x n, 0) := by
  unfold feR at h ⊢
  split at h
  · rename_i h1
    split at h
    · rename_i h2
      split at h
      · cases h
      · rename_i h3
        exact ⟨h1, h2, h3, by rw [if_pos h1, if_pos h2, if_neg h3]⟩
    · cases h
  · cases h
theorem spot_box {s : Stroke} {b : Box} {part parts : Int} (ok : okStroke' s = true) (hp : 0 ≤ part ∧ 1 ≤ parts) (hb : inBox (strB s) b) : (b.X1 ≤ (spotI s part parts).X ∧ (spotI s part parts).X ≤ b.X2) ∧ b.Y1 ≤ (spotI s part parts).Y ∧ (spotI s part parts).Y ≤ b.Y2 := by
  have h := spot_in ok hp
  unfold inBox strB at hb; omega
theorem resQ_box {s : Stroke} {b : Box} {n : Int} (ok : okStroke' s = true) (hn : 2 ≤ n) (hb : inBox (strB s) b) {j : Nat} (hj : j < (resQ s n).length) : (b.X1 ≤ (at_ (resQ s n) j).X ∧ (at_ (resQ s n) j).X ≤ b.X2) ∧ b.Y1 ≤ (at_ (resQ s n) j).Y ∧ (at_ (resQ s n) j).Y ≤ b.Y2 := by
  rw [resQ_len] at hj
  rw [resQ_at hj]
  exact spot_box ok (by omega) hb
theorem featK_in {l : List Spot} {b : Box} (hb : okBox b) (h : ∀ j, j < l.length → (b.X1 ≤ (at_ l j).X ∧ (at_ l j).X ≤ b.X2) ∧ b.Y1 ≤ (at_ l j).Y ∧ (at_ l j).Y ≤ b.Y2) : ∀ f ∈ featK l b l.length, okF f = true := by
  intro f hf
  simp only [featK, List.mem_map, List.mem_range] at hf
  obtain ⟨j, hj, rfl⟩ := hf
  have h1 := norm_in hb (h j hj)
  have h2 := dirQ_bd l (j + 1)
  simp only [okF, featAt, Bool.and_eq_true, inB_iff]
  omega
theorem featI_in {x : Ink} {n : Int} {b : Box} (ok : okInk' x = true) (hn : 2 ≤ n) (hb : okBox b) (hi : ∀ j, j < x.Strokes.length → inBox (strB (at_ x.Strokes j)) b) : ∀ i, i ≤ x.Strokes.length → ∀ f ∈ featI x.Strokes n b i, okF f = true
  | 0, _, f, hf => by simp [featI] at hf
  | i + 1, h, f, hf => by
    rw [featI, List.mem_append] at hf
    rcases hf with hf | hf
    · exact featI_in ok hn hb hi i (by omega) f hf
    · exact featK_in hb (fun j hj => resQ_box (okI_all ok i (by omega)) hn (hi i (by omega)) hj) f hf
/-- Features are valid, and as many as told. -/
theorem fe_valid {x : Ink} {n : Int} (h : (feR x n).2 = 0) : okFeats (feR x n).1 384 = true ∧ ((feR x n).1.length : Int) = n * (x.Strokes.length : Int) := by
  obtain ⟨ok, hn, h0, e⟩ := feR_ok h
  have hn' := inB_iff.1 hn
  have hl := okI_len ok
  rw [e]
  have hlen : (feA x n).length = x.Strokes.length * n.toNat := featI_len _ _ _ _
  have hint : ((feA x n).length : Int) = n * (x.Strokes.length : Int) := by
    rw [hlen, Int.natCast_mul, Int.mul_comm, show ((n.toNat : Nat) : Int) = n by omega]
  refine ⟨?_, hint⟩
  have hm := mulP_bd (x := n) (y := (x.Strokes.length : Int)) (A := 24) (B := 16) (by omega) (by omega) (by omega) hl
  have hm2 : 1 * 1 ≤ n * (x.Strokes.length : Int) := Int.mul_le_mul (by omega) (by omega) (by omega) (by omega)
  simp only [okFeats, Bool.and_eq_true, decide_eq_true_eq]
  refine ⟨by show 1 ≤ ((feA x n).length : Int) ∧ ((feA x n).length : Int) ≤ 384; omega, allN_iff.2 fun j hj => ?_⟩
  exact featI_in ok (by omega) (inkB_ok ok (by omega) _ (Nat.le_refl _)) (fun j hj => inkB_has x.Strokes _ j hj) _ (Nat.le_refl _) _ (at_mem hj)
section
variable {dx dy : Int}
def mvQ (dx dy : Int) (p : Spot) : Spot := ⟨p.X + dx, p.Y + dy⟩
theorem arc_mv {s : Stroke} {k : Nat} (h : k < s.Points.length) : arcI (mvS dx dy s) k = arcI s k := sum_mv _ h
theorem stop_mv {s : Stroke} {part parts : Int} {k : Nat} (h : k < s.Points.length) : stopB (mvS dx dy s) part parts k = stopB s part parts k := by
  unfold stopB
  rw [mvS_len, arc_mv h, arc_mv (by omega), arc_mv (by omega)]
theorem spot_mv {s : Stroke} {part parts : Int} (ok : 1 ≤ s.Points.length) : spotI (mvS dx dy s) part parts = mvQ dx dy (spotI s part parts) := by
  rcases firstN_cases s.Points.length (stopB s part parts) with ⟨_, h⟩ | ⟨k, _, hk, hs, hn⟩
  · rw [spotI_none h, spotI_none (fun j hj => by rw [mvS_len] at hj; rw [stop_mv hj]; exact h j hj), mvS_at (by omega)]; rfl
  · have h1 := (stop_iff.1 hs).1
    rw [spotI_at hk hs hn, spotI_at (by rw [mvS_len]; exact hk) (by rw [stop_mv hk]; exact hs) (fun j hj => by rw [stop_mv (by omega)]; exact hn j hj)]
    unfold spotK
    rw [mvS_len, arc_mv hk, arc_mv (by omega), arc_mv (by omega), mvS_at hk, mvS_at (by omega)]
    generalize at_ s.Points k = p
    generalize at_ s.Points (k - 1) = q
    have e1 : (mvP dx dy p).X - (mvP dx dy q).X = p.X - q.X := by simp only [mvP]; omega
    have e2 : (mvP dx dy p).Y - (mvP dx dy q).Y = p.Y - q.Y := by simp only [mvP]; omega
    rw [e1, e2]
    simp only [mvQ, mvP, Spot.mk.injEq]
    omega
theorem resQ_mv {s : Stroke} {n : Int} (ok : 1 ≤ s.Points.length) : resQ (mvS dx dy s) n = (resQ s n).map (mvQ dx dy) := by
  simp only [resQ, resK, List.map_map]
  exact List.map_congr_left fun j _ => spot_mv ok
theorem dirQ_mv {l : List Spot} : ∀ k, k ≤ l.length → dirQ (l.map (mvQ dx dy)) k = dirQ l k
  | 0, _ => rfl
  | k + 1, h => by
    rw [dirQ, dirQ, dirQ_mv k (by omega), List.length_map]
    by_cases hk : k + 1 < l.length
    · have e1 : at_ (l.map (mvQ dx dy)) (k + 1) = mvQ dx dy (at_ l (k + 1)) := by simp [at_, hk]
      have e2 : at_ (l.map (mvQ dx dy)) k = mvQ dx dy (at_ l k) := by simp [at_, show k < l.length by omega]
      rw [e1, e2]
      generalize at_ l (k + 1) = p
      generalize at_ l k = q
      have e1 : (mvQ dx dy p).X - (mvQ dx dy q).X = p.X - q.X := by simp only [mvQ]; omega
      have e2 : (mvQ dx dy p).Y - (mvQ dx dy q).Y = p.Y - q.Y := by simp only [mvQ]; omega
      rw [e1, e2]
    · rw [if_neg (fun q => hk q.1), if_neg (fun q => hk q.1)]
theorem norm_mv {p : Spot} {b : Box} : normP (mvQ dx dy p) (mvB dx dy b) = normP p b := by
  have e1 : (mvB dx dy b).X2 - (mvB dx dy b).X1 = b.X2 - b.X1 := by simp only [mvB]; omega
  have e2 : (mvB dx dy b).Y2 - (mvB dx dy b).Y1 = b.Y2 - b.Y1 := by simp only [mvB]; omega
  have e3 : (mvQ dx dy p).X - (mvB dx dy b).X1 = p.X - b.X1 := by simp only [mvB, mvQ]; omega
  have e4 : (mvQ dx dy p).Y - (mvB dx dy b).Y1 = p.Y - b.Y1 := by simp only [mvB, mvQ]; omega
  unfold normP sideB
  rw [e1, e2, e3, e4]
theorem featQ_mv {s : Stroke} {n : Int} {b : Box} (ok : 1 ≤ s.Points.length) : featQ (mvS dx dy s) n (mvB dx dy b) = featQ s n b := by
  unfold featQ
  rw [resQ_mv ok, List.length_map]
  unfold featK
  refine List.map_congr_left fun j hj => ?_
  have hj := List.mem_range.1 hj
  have e : at_ ((resQ s n).map (mvQ dx dy)) j = mvQ dx dy (at_ (resQ s n) j) := by simp [at_, hj]
  unfold featAt
  rw [e, norm_mv, dirQ_mv _ (by omega)]
theorem strB_mv {s : Stroke} (ok : 1 ≤ s.Points.length) : strB (mvS dx dy s) = mvB dx dy (strB s) := by
  unfold strB; rw [mvS_len, box_mv ok _ (Nat.le_refl _)]
theorem inkB_mv {x : Ink} (ok : okInk' x = true) (h0 : 1 ≤ x.Strokes.length) : ∀ k, k ≤ x.Strokes.length → inkB (mvI dx dy x).Strokes k = mvB dx dy (inkB x.Strokes k)
  | 0, _ => by
    have := okS_len (okI_all ok 0 (by omega))
    rw [inkB, inkB, mvI_at (by omega), strB_mv (by omega)]
  | k + 1, h => by
    have := okS_len (okI_all ok k (by omega))
    rw [inkB, inkB, inkB_mv ok h0 k (by omega), mvI_at (by omega), strB_mv (by omega)]
    simp only [joinB, mvB, Box.mk.injEq]
    omega
theorem featI_mv {x : Ink} {n : Int} {b : Box} (ok : okInk' x = true) : ∀ i, i ≤ x.Strokes.length → featI (mvI dx dy x).Strokes n (mvB dx dy b) i = featI x.Strokes n b i
  | 0, _ => rfl
  | i + 1, h => by
    have := okS_len (okI_all ok i (by omega))
    rw [featI, featI, featI_mv ok i (by omega), mvI_at (by omega), featQ_mv (by omega)]
/-- Features do not depend on where the ink is. -/
theorem fe_mv {x y : Ink} {n : Int} (h : (feR x n).2 = 0) (e : y = mvI dx dy x) (ok2 : okInk' y = true) : feR y n = feR x n := by
  obtain ⟨ok, hn, h0, e1⟩ := feR_ok h
  subst e
  rw [feR_yes ok2 hn (by rw [mvI_len]; exact h0), e1]
  unfold feA
  rw [mvI_len, inkB_mv ok (by omega) _ (Nat.le_refl _), featI_mv ok _ (Nat.le_refl _)]
end

-- impl.boxOfInk
theorem boxOfInk_ok (ik : Ink) (ok : okInk' ik = true) (h0 : 1 ≤ ik.Strokes.length) : Con Try.prog 54 [.agg [slStroke false ik.Strokes]] true (agBox (inkB ik.Strokes ik.Strokes.length)) := by
  refine fn_ok (fn := Try.f54) (nt := 24) Try.func54 rfl rfl rfl rfl (by simp [taggedL, tagged, tagStroke]) fun B hB => ?_
  refine aw_lens (x := .agg [slStroke false ik.Strokes]) 0 rfl (fun len_ik => ?_)
  simp [LenOK, LenL, cPoint, cStroke, fPoint, fStroke, slPoint, slStroke] at len_ik
  refine aw_seq ?_
  refine aw_reg [(0, .new 1), (1, .new 2)] [1, 2] [1, 2] [.ref 1 0, .ref 2 0] [some (.box [slStroke false ik.Strokes]), some (.box [I 0, I 0, I 0, I 0])] [] (by kernel_rfl) hB trivial ?_
  refine ae_then ?_
  refine aw_seq ?_
  refine aw_reg [(4, .call [(true, .agg [slPoint false ((at_ ik.Strokes 0).Points)])] true (agBox (boxS (at_ ik.Strokes 0).Points (at_ ik.Strokes 0).Points.length))), (5, .new 3)] [1, 2, 3] [1, 2, 3] [.ref 1 0, .ref 2 0, .ref 3 0] [some (.box [slStroke false ik.Strokes]), some (.box [I 0, I 0, I 0, I 0]), some (bxBox (boxS (at_ ik.Strokes 0).Points (at_ ik.Strokes 0).Points.length))] [(0 : Int) ≤ 0 ∧ 0 < (ik.Strokes.length : Int), Con Try.prog 120 [.agg [slPoint false ((at_ ik.Strokes 0).Points)]] true (agBox (boxS (at_ ik.Strokes 0).Points (at_ ik.Strokes 0).Points.length)) ∧ ((.agg [slPoint false ((at_ ik.Strokes 0).Points)] : AV) = .agg [slPoint false ((at_ ik.Strokes 0).Points)]) ∧ True] (by kernel_rfl) hB ⟨⟨(by omega), (by omega)⟩, ⟨(boxOfStroke_ok (at_ ik.Strokes 0) (okI_all ok _ (by omega))), rfl, trivial⟩, trivial⟩ ?_
  refine ae_then ?_
  refine aw_seq ?_
  refine aw_seq ?_
  refine aw_reg [] [2, 3, 12, 13, 14] [2, 3] [.ref 2 0, .ref 3 0, slStroke false ik.Strokes, I (ik.Strokes.length : Int), I 0] [some (.box [I 0, I 0, I 0, I 0]), some (bxBox (boxS (at_ ik.Strokes 0).Points (at_ ik.Strokes 0).Points.length))] [] (by kernel_rfl) hB trivial ?_
  refine ae_then ?_
  refine aw_block ?_
  refine aw_weak hB [] (T := [(2, .ref 2 0), (3, .ref 3 0), (12, slStroke false ik.Strokes), (13, I (ik.Strokes.length : Int)), (14, I 0)]) (O := [(2, .box [I 0, I 0, I 0, I 0]), (3, .box [I ((boxS (at_ ik.Strokes 0).Points (at_ ik.Strokes 0).Points.length).X1), I ((boxS (at_ ik.Strokes 0).Points (at_ ik.Strokes 0).Points.length).Y1), I ((boxS (at_ ik.Strokes 0).Points (at_ ik.Strokes 0).Points.length).X2), I ((boxS (at_ ik.Strokes 0).Points (at_ ik.Strokes 0).Points.length).Y2)])]) rfl (⟨.inl rfl, .inl rfl, .inl rfl, .inl rfl, .inl rfl, trivial⟩) (⟨.inl rfl, .inr ⟨rfl, ⟨rfl, ⟨rfl, ⟨rfl, rfl⟩⟩⟩⟩, trivial⟩) ?_
  refine aw_loop (fun gn gσ => ∃ (t14 : Int) (x1 : Int) (y1 : Int) (x2 : Int) (y2 : Int), gn = ((ik.Strokes.length : Int) - t14).toNat ∧ (0 ≤ t14 ∧ t14 ≤ (ik.Strokes.length : Int)) ∧ (Box.mk x1 y1 x2 y2 = inkB ik.Strokes t14.toNat) ∧ gσ = mkS [(2, .ref 2 0), (3, .ref 3 0), (12, slStroke false ik.Strokes), (13, I (ik.Strokes.length : Int)), (14, I t14)] [(2, .box [I 0, I 0, I 0, I 0]), (3, .box [I x1, I y1, I x2, I y2])]) (((ik.Strokes.length : Int) - 0).toNat) ⟨0, (boxS (at_ ik.Strokes 0).Points (at_ ik.Strokes 0).Points.length).X1, (boxS (at_ ik.Strokes 0).Points (at_ ik.Strokes 0).Points.length).Y1, (boxS (at_ ik.Strokes 0).Points (at_ ik.Strokes 0).Points.length).X2, (boxS (at_ ik.Strokes 0).Points (at_ ik.Strokes 0).Points.length).Y2, rfl, (by omega), (by first | rfl | exact (inkB_one _).symm), rfl⟩ (fun gn gσ hI => ?_)
  obtain ⟨t14, x1, y1, x2, y2, rfl, hi0, hb1, rfl⟩ := hI
  refine aw_seq ?_
  by_cases h1 : t14 < (ik.Strokes.length : Int)
  ·have hi : t14.toNat < ik.Strokes.length := by omega
   refine aw_reg [(0, .dec true)] [2, 3, 12, 13, 14, 15] [2, 3] [.ref 2 0, .ref 3 0, slStroke false ik.Strokes, I (ik.Strokes.length : Int), I t14, Bv true] [some (.box [I 0, I 0, I 0, I 0]), some (.box [I x1, I y1, I x2, I y2])] [t14 < (ik.Strokes.length : Int)] (by kernel_rfl) hB ⟨h1, trivial⟩ ?_
   refine ae_then ?_
   refine aw_seq ?_
   refine aw_true rfl ?_
   refine aw_skip ?_
   refine ae_then ?_
   refine aw_seq ?_
   refine aw_block ?_
   refine aw_seq ?_
   refine aw_reg [(2, .new 5)] [2, 3, 5, 12, 13, 14] [2, 3, 5] [.ref 2 0, .ref 3 0, .ref 5 0, slStroke false ik.Strokes, I (ik.Strokes.length : Int), I t14] [some (.box [I 0, I 0, I 0, I 0]), some (.box [I x1, I y1, I x2, I y2]), some (.box [slPoint false ((at_ ik.Strokes t14.toNat).Points)])] [(0 : Int) ≤ t14 ∧ t14 < (ik.Strokes.length : Int)] (by kernel_rfl) hB ⟨⟨(by omega), (by omega)⟩, trivial⟩ ?_
   refine ae_then ?_
   refine aw_reg [(2, .call [(true, .agg [slPoint false ((at_ ik.Strokes t14.toNat).Points)])] true (agBox (boxS (at_ ik.Strokes t14.toNat).Points (at_ ik.Strokes t14.toNat).Points.length))), (3, .call [(true, .agg [I x1, I y1, I x2, I y2]), (true, agBox (boxS (at_ ik.Strokes t14.toNat).Points (at_ ik.Strokes t14.toNat).Points.length))] true (agBox (joinB (Box.mk x1 y1 x2 y2) (boxS (at_ ik.Strokes t14.toNat).Points (at_ ik.Strokes t14.toNat).Points.length))))] [2, 3, 12, 13, 14] [2, 3] [.ref 2 0, .ref 3 0, slStroke false ik.Strokes, I (ik.Strokes.length : Int), I t14] [some (.box [I 0, I 0, I 0, I 0]), some (bxBox (joinB (Box.mk x1 y1 x2 y2) (boxS (at_ ik.Strokes t14.toNat).Points (at_ ik.Strokes t14.toNat).Points.length)))] [Con Try.prog 120 [.agg [slPoint false ((at_ ik.Strokes t14.toNat).Points)]] true (agBox (boxS (at_ ik.Strokes t14.toNat).Points (at_ ik.Strokes t14.toNat).Points.length)) ∧ ((.agg [slPoint false ((at_ ik.Strokes t14.toNat).Points)] : AV) = .agg [slPoint false ((at_ ik.Strokes t14.toNat).Points)]) ∧ True, Con Try.prog 121 [.agg [I x1, I y1, I x2, I y2], agBox (boxS (at_ ik.Strokes t14.toNat).Points (at_ ik.Strokes t14.toNat).Points.length)] true (agBox (joinB (Box.mk x1 y1 x2 y2) (boxS (at_ ik.Strokes t14.toNat).Points (at_ ik.Strokes t14.toNat).Points.length))) ∧ ((.agg [I x1, I y1, I x2, I y2] : AV) = .agg [I x1, I y1, I x2, I y2]) ∧ ((agBox (boxS (at_ ik.Strokes t14.toNat).Points (at_ ik.Strokes t14.toNat).Points.length) : AV) = agBox (boxS (at_ ik.Strokes t14.toNat).Points (at_ ik.Strokes t14.toNat).Points.length)) ∧ True] (by kernel_rfl) hB ⟨⟨(boxOfStroke_ok (at_ ik.Strokes t14.toNat) (okI_all ok _ (by omega))), rfl, trivial⟩, ⟨(joinBoxes_ok (Box.mk x1 y1 x2 y2) (boxS (at_ ik.Strokes t14.toNat).Points (at_ ik.Strokes t14.toNat).Points.length)), rfl, rfl, trivial⟩, trivial⟩ ?_
   refine ae_block 1 ?_
   refine ae_then ?_
   refine aw_reg [] [2, 3, 12, 13, 14] [2, 3] [.ref 2 0, .ref 3 0, slStroke false ik.Strokes, I (ik.Strokes.length : Int), I (t14 + 1)] [some (.box [I 0, I 0, I 0, I 0]), some (bxBox (joinB (Box.mk x1 y1 x2 y2) (boxS (at_ ik.Strokes t14.toNat).Points (at_ ik.Strokes t14.toNat).Points.length)))] [inR .i64 (t14 + 1)] (by kernel_rfl) hB ⟨(inR_i64 (by omega) (by omega)), trivial⟩ ?_
   refine ae_weak hB [] (T := [(2, .ref 2 0), (3, .ref 3 0), (12, slStroke false ik.Strokes), (13, I (ik.Strokes.length : Int)), (14, I (t14 + 1))]) (O := [(2, .box [I 0, I 0, I 0, I 0]), (3, .box [I ((joinB (Box.mk x1 y1 x2 y2) (boxS (at_ ik.Strokes t14.toNat).Points (at_ ik.Strokes t14.toNat).Points.length)).X1), I ((joinB (Box.mk x1 y1 x2 y2) (boxS (at_ ik.Strokes t14.toNat).Points (at_ ik.Strokes t14.toNat).Points.length)).Y1), I ((joinB (Box.mk x1 y1 x2 y2) (boxS (at_ ik.Strokes t14.toNat).Points (at_ ik.Strokes t14.toNat).Points.length)).X2), I ((joinB (Box.mk x1 y1 x2 y2) (boxS (at_ ik.Strokes t14.toNat).Points (at_ ik.Strokes t14.toNat).Points.length)).Y2)])]) rfl (⟨.inl rfl, .inl rfl, .inl rfl, .inl rfl, .inl rfl, trivial⟩) (⟨.inl rfl, .inr ⟨rfl, ⟨rfl, ⟨rfl, ⟨rfl, rfl⟩⟩⟩⟩, trivial⟩) (ae_again _ (by omega) ⟨(t14 + 1), (joinB (Box.mk x1 y1 x2 y2) (boxS (at_ ik.Strokes t14.toNat).Points (at_ ik.Strokes t14.toNat).Points.length)).X1, (joinB (Box.mk x1 y1 x2 y2) (boxS (at_ ik.Strokes t14.toNat).Points (at_ ik.Strokes t14.toNat).Points.length)).Y1, (joinB (Box.mk x1 y1 x2 y2) (boxS (at_ ik.Strokes t14.toNat).Points (at_ ik.Strokes t14.toNat).Points.length)).X2, (joinB (Box.mk x1 y1 x2 y2) (boxS (at_ ik.Strokes t14.toNat).Points (at_ ik.Strokes t14.toNat).Points.length)).Y2, rfl, (by omega), (by rw [inkB_succ (by omega), ← hb1]; rfl), rfl⟩)
  ·have hie : t14.toNat = ik.Strokes.length := by omega
   rw [hie] at hb1
   refine aw_reg [(0, .dec false)] [2, 3, 12, 13, 14, 15] [2, 3] [.ref 2 0, .ref 3 0, slStroke false ik.Strokes, I (ik.Strokes.length : Int), I t14, Bv false] [some (.box [I 0, I 0, I 0, I 0]), some (.box [I x1, I y1, I x2, I y2])] [¬ (t14 < (ik.Strokes.length : Int))] (by kernel_rfl) hB ⟨h1, trivial⟩ ?_
   refine ae_then ?_
   refine aw_seq ?_
   refine aw_false rfl ?_
   refine aw_exit ?_
   refine ae_exit_then ?_
   refine ae_exit_then ?_
   refine ae_exit_same ?_
   refine ae_then ?_
   refine aw_seq ?_
   refine aw_reg [] [2] [2] [.ref 2 0] [some (.box [I x1, I y1, I x2, I y2])] [] (by kernel_rfl) hB trivial ?_
   refine ae_then ?_
   refine aw_ret ?_
   refine ae_ret hB (.agg [I x1, I y1, I x2, I y2]) (by kernel_rfl) (.inl (by rw [← hb1])) rfl (fun _ => (by simp [tagged, taggedL]))


-- impl.sideOfBox
theorem sideOfBox_ok (b : Box) (hb : okBox b) : Con Try.prog 99 [agBox b] true (I (sideB b)) := by
  unfold okBox at hb
  refine fn_ok (fn := Try.f99) (nt := 14) Try.func99 rfl rfl rfl rfl (by simp [taggedL, tagged]) fun B hB => ?_
  refine aw_seq ?_
  refine aw_reg [(0, .new 1)] [1] [1] [.ref 1 0] [some (bxBox b)] [] (by kernel_rfl) hB trivial ?_
  refine ae_then ?_
  refine aw_seq ?_
  refine aw_reg [] [2] [] [I (max (max (b.X2 - b.X1) (b.Y2 - b.Y1)) 1)] [] [inR .i64 (b.X2 - b.X1), inR .i64 (b.Y2 - b.Y1)] (by kernel_rfl) hB ⟨(inR_i64 (by omega) (by omega)), (inR_i64 (by omega) (by omega)), trivial⟩ ?_
  refine ae_then ?_
  refine aw_ret ?_
  refine ae_ret hB (I (max (max (b.X2 - b.X1) (b.Y2 - b.Y1)) 1)) (by kernel_rfl) (.inl (by refine congrArg I ?_; unfold sideB; omega)) rfl (fun _ => trivial)


-- impl.floorDiv
theorem floorDiv_ok (n : Int) (d : Int) (hn : (-4611686018427387904 ≤ n ∧ n ≤ 4611686018427387904) ∧ 0 < d) : Con Try.prog 163 [I n, I d] true (I (n / d)) := by
  have hq := tdiv_bd n d
  have hs := down_spec n hn.2
  refine fn_ok (fn := Try.f163) (nt := 16) Try.func163 rfl rfl rfl rfl (by simp [taggedL, tagged]) fun B hB => ?_
  refine aw_seq ?_
  refine aw_reg [] [0, 1] [] [I n, I d] [] [] (by kernel_rfl) hB trivial ?_
  refine ae_then ?_
  refine aw_seq ?_
  refine aw_reg [] [0, 1, 5] [] [I n, I d, I (Int.tdiv n d)] [] [(d : Int) ≠ 0 ∧ inR .i64 (Int.tdiv n d)] (by kernel_rfl) hB ⟨⟨by omega, (inR_i64 (by omega) (by omega))⟩, trivial⟩ ?_
  refine ae_then ?_
  refine aw_seq ?_
  refine aw_seq ?_
  by_cases h1 : (Int.tmod n d) < 0
  ·refine aw_reg [(3, .dec true)] [5, 12] [] [I (Int.tdiv n d), Bv true] [] [(d : Int) ≠ 0, (Int.tmod n d) < 0] (by kernel_rfl) hB ⟨(by omega), h1, trivial⟩ ?_
   refine ae_then ?_
   refine aw_true rfl ?_
   refine aw_reg [] [5] [] [I ((Int.tdiv n d) - 1)] [] [inR .i64 ((Int.tdiv n d) - 1)] (by kernel_rfl) hB ⟨(inR_i64 (by omega) (by omega)), trivial⟩ ?_
   refine ae_then ?_
   refine aw_seq ?_
   refine aw_reg [] [4] [] [I ((Int.tdiv n d) - 1)] [] [] (by kernel_rfl) hB trivial ?_
   refine ae_then ?_
   refine aw_ret ?_
   refine ae_ret hB (I ((Int.tdiv n d) - 1)) (by kernel_rfl) (.inl (by refine congrArg I ?_; first | exact hs.1 (by assumption) | exact hs.2 (by assumption))) rfl (fun _ => trivial)
  ·refine aw_reg [(3, .dec false)] [5, 12] [] [I (Int.tdiv n d), Bv false] [] [(d : Int) ≠ 0, ¬ ((Int.tmod n d) < 0)] (by kernel_rfl) hB ⟨(by omega), h1, trivial⟩ ?_
   refine ae_then ?_
   refine aw_false rfl ?_
   refine aw_skip ?_
   refine ae_then ?_
   refine aw_seq ?_
   refine aw_reg [] [4] [] [I (Int.tdiv n d)] [] [] (by kernel_rfl) hB trivial ?_
   refine ae_then ?_
   refine aw_ret ?_
   refine ae_ret hB (I (Int.tdiv n d)) (by kernel_rfl) (.inl (by refine congrArg I ?_; first | exact hs.1 (by assumption) | exact hs.2 (by assumption))) rfl (fun _ => trivial)


-- impl.nearestDiv
theorem nearestDiv_ok (n : Int) (d : Int) (hn : (-1000000000000000000 ≤ n ∧ n ≤ 1000000000000000000) ∧ 0 < d ∧ d ≤ 1000000000000000000) : Con Try.prog 102 [I n, I d] true (I (nearI n d)) := by
  have hs := near_spec n hn.2.1
  have hrb := rest_bd n hn.2.1
  have heb := ediv_bd n hn.2.1
  refine fn_ok (fn := Try.f102) (nt := 23) Try.func102 rfl rfl rfl rfl (by simp [taggedL, tagged]) fun B hB => ?_
  refine aw_seq ?_
  refine aw_reg [] [0, 1] [] [I n, I d] [] [] (by kernel_rfl) hB trivial ?_
  refine ae_then ?_
  refine aw_seq ?_
  refine aw_reg [(2, .call [(true, I n), (true, I d)] true (I (n / d)))] [0, 1, 5] [] [I n, I d, I (n / d)] [] [Con Try.prog 163 [I n, I d] true (I (n / d)) ∧ ((I n : AV) = I n) ∧ ((I d : AV) = I d) ∧ True] (by kernel_rfl) hB ⟨⟨(floorDiv_ok n d (by omega)), rfl, rfl, trivial⟩, trivial⟩ ?_
  refine ae_then ?_
  refine aw_seq ?_
  refine aw_seq ?_
  refine aw_reg [] [1, 5, 6] [] [I d, I (n / d), I (n - ((n / d) * d))] [] [inR .i64 ((n / d) * d), inR .i64 (n - ((n / d) * d))] (by kernel_rfl) hB ⟨(inR_i64 (by omega) (by omega)), (inR_i64 (by omega) (by omega)), trivial⟩ ?_
  refine ae_then ?_
  refine aw_seq ?_
  by_cases h1 : (d - (n - ((n / d) * d))) ≤ (n - ((n / d) * d))
  ·refine aw_reg [(4, .dec true)] [5, 19] [] [I (n / d), Bv true] [] [inR .i64 (d - (n - ((n / d) * d))), (d - (n - ((n / d) * d))) ≤ (n - ((n / d) * d))] (by kernel_rfl) hB ⟨(inR_i64 (by omega) (by omega)), h1, trivial⟩ ?_
   refine ae_then ?_
   refine aw_true rfl ?_
   refine aw_reg [] [5] [] [I ((n / d) + 1)] [] [inR .i64 ((n / d) + 1)] (by kernel_rfl) hB ⟨(inR_i64 (by omega) (by omega)), trivial⟩ ?_
   refine ae_then ?_
   refine aw_seq ?_
   refine aw_reg [] [4] [] [I ((n / d) + 1)] [] [] (by kernel_rfl) hB trivial ?_
   refine ae_then ?_
   refine aw_ret ?_
   refine ae_ret hB (I ((n / d) + 1)) (by kernel_rfl) (.inl (by refine congrArg I ?_; first | exact hs.1 (by assumption) | exact hs.2 (by assumption))) rfl (fun _ => trivial)
  ·refine aw_reg [(4, .dec false)] [5, 19] [] [I (n / d), Bv false] [] [inR .i64 (d - (n - ((n / d) * d))), ¬ ((d - (n - ((n / d) * d))) ≤ (n - ((n / d) * d)))] (by kernel_rfl) hB ⟨(inR_i64 (by omega) (by omega)), h1, trivial⟩ ?_
   refine ae_then ?_
   refine aw_false rfl ?_
   refine aw_skip ?_
   refine ae_then ?_
   refine aw_seq ?_
   refine aw_reg [] [4] [] [I (n / d)] [] [] (by kernel_rfl) hB trivial ?_
   refine ae_then ?_
   refine aw_ret ?_
   refine ae_ret hB (I (n / d)) (by kernel_rfl) (.inl (by refine congrArg I ?_; first | exact hs.1 (by assumption) | exact hs.2 (by assumption))) rfl (fun _ => trivial)




/-- The number in the middle, the lesser one of two. -/
def medI (xs : List Int) : Int := at_ (sortL xs) ((xs.length - 1) / 2)
theorem medI_mem {xs : List Int} (h : 1 ≤ xs.length) : medI xs ∈ xs := sortL_mem.1 (at_mem (by rw [sortL_len]; omega))

theorem sortL_pw (xs : List Int) : (sortL xs).Pairwise fun x y => x ≤ y := by
  have h := List.pairwise_mergeSort (le := fun (x y : Int) => decide (x ≤ y)) (fun a b c h1 h2 => by simp only [decide_eq_true_eq] at *; omega) (fun a b => by simp only [Bool.or_eq_true, decide_eq_true_eq]; omega) xs
  exact h.imp fun h => by simpa using h
theorem sortL_perm (xs : List Int) : List.Perm (sortL xs) xs := List.mergeSort_perm _ _
theorem sort_uniq {a b : List Int} (ha : a.Pairwise fun x y => x ≤ y) (hb : b.Pairwise fun x y => x ≤ y) (h : List.Perm a b) : a = b :=
  List.Perm.eq_of_pairwise (le := fun x y => x ≤ y) (fun x y _ _ h1 h2 => Int.le_antisymm h1 h2) ha hb h
/-- A number put to its place. -/
theorem ins_sort {p : List Int} {x : Int} {k : Nat} (hk : k ≤ (sortL p).length) (h1 : ∀ j, k ≤ j → j < (sortL p).length → x < at_ (sortL p) j) (h2 : k = 0 ∨ at_ (sortL p) (k - 1) ≤ x) :
    (sortL p).take k ++ [x] ++ (sortL p).drop k = sortL (p ++ [x]) := by
  have hs := sortL_pw p
  generalize hl : sortL p = l at *
  refine sort_uniq ?_ (sortL_pw _) ?_
  · have ht := hs
    rw [← List.take_append_drop k l, List.pairwise_append] at ht
    obtain ⟨ta, tb, tc⟩ := ht
    have hlow : ∀ a ∈ l.take k, a ≤ x := fun a ha => by
      obtain ⟨j, hj, e⟩ := List.getElem_of_mem ha
      rcases h2 with h2 | h2
      · subst h2; simp at ha
      · have hjk : j < k := by simp at hj; omega
        have hjl : j < l.length := by simp at hj; omega
        have he : a = at_ l j := by rw [← e, at_eq hjl]; simp
        by_cases e2 : j = k - 1
        · rw [he, e2]; exact h2
        · have := List.pairwise_iff_getElem.1 hs j (k - 1) hjl (by omega) (by omega)
          rw [he, at_eq hjl]
          rw [at_eq (by omega)] at h2
          omega
    have hhigh : ∀ b ∈ l.drop k, x ≤ b := fun b hb => by
      obtain ⟨j, hj, e⟩ := List.getElem_of_mem hb
      simp at hj
      have h := h1 (k + j) (by omega) (by omega)
      rw [at_eq (by omega)] at h
      rw [← e]; simp; omega
    rw [List.append_assoc, List.pairwise_append]
    refine ⟨ta, ?_, ?_⟩
    · rw [List.singleton_append, List.pairwise_cons]
      exact ⟨hhigh, tb⟩
    · intro a ha b hb
      simp at hb
      rcases hb with rfl | hb
      · exact hlow a ha
      · exact tc a ha b hb
  · have e : List.Perm l p := by rw [← hl]; exact sortL_perm p
    refine List.Perm.trans ?_ (sortL_perm (p ++ [x])).symm
    refine List.Perm.trans ?_ (e.append_right [x])
    rw [List.append_assoc]
    refine List.Perm.trans (List.perm_append_comm.append_left _) ?_
    rw [← List.append_assoc, List.take_append_drop]
theorem sortL_nil : sortL [] = [] := by simp [sortL]
theorem sorted_le {p : List Int} {i j : Nat} (hij : i ≤ j) (hj : j < (sortL p).length) : at_ (sortL p) i ≤ at_ (sortL p) j := by
  by_cases e : i = j
  · subst e; exact Int.le_refl _
  · have := List.pairwise_iff_getElem.1 (sortL_pw p) i j (by omega) hj (by omega)
    rw [at_eq (by omega), at_eq hj]; exact this

/-- A point of ink that is fitted: b is its box, d the box's side. -/
def fitP (b : Box) (d side : Int) (p : Point) : Point := ⟨nearI ((p.X - b.X1) * side) d, nearI ((p.Y - b.Y1) * side) d, p.T⟩
def fitA (x : Ink) (side : Int) : Ink := mpI (fitP (inkB x.Strokes x.Strokes.length) (sideB (inkB x.Strokes x.Strokes.length)) side) x
def fitR (x : Ink) (side : Int) : Ink × Int := if okInk' x = true then (if inB side 1 4095 = true then (if (x.Strokes.length : Int) = 0 then (⟨[]⟩, 6) else (fitA x side, 0)) else (⟨[]⟩, 2)) else (⟨[]⟩, 1)
theorem fitR_inv {x : Ink} {n : Int} (h : okInk' x = false) : fitR x n = (⟨[]⟩, 1) := by simp [fitR, h]
theorem fitR_rng {x : Ink} {n : Int} (h : okInk' x = true) (h2 : inB n 1 4095 = false) : fitR x n = (⟨[]⟩, 2) := by simp [fitR, h, h2]
theorem fitR_st {x : Ink} {n : Int} (h : okInk' x = true) (h2 : inB n 1 4095 = true) (h3 : (x.Strokes.length : Int) = 0) : fitR x n = (⟨[]⟩, 6) := by rw [fitR, if_pos h, if_pos h2, if_pos h3]
theorem fitR_yes {x : Ink} {n : Int} (h : okInk' x = true) (h2 : inB n 1 4095 = true) (h3 : ¬ (x.Strokes.length : Int) = 0) : fitR x n = (fitA x n, 0) := by rw [fitR, if_pos h, if_pos h2, if_neg h3]
theorem fitR_ok {x : Ink} {n : Int} (h : (fitR x n).2 = 0) : okInk' x = true ∧ inB n 1 4095 = true ∧ (¬ (x.Strokes.length : Int) = 0) ∧ fitR x n = (fitA x n, 0) := by
  unfold fitR at h ⊢
  split at h
  · rename_i h1
    split at h
    · rename_i h2
      split at h
      · cases h
      · rename_i h3
        exact ⟨h1, h2, h3, by rw [if_pos h1, if_pos h2, if_neg h3]⟩
    · cases h
  · cases h
/-- A number of all strokes' boxes, in the middle. -/
def ovR (f : Box → Int) (x : Ink) : Int × Int := if okInk' x = true then (if (x.Strokes.length : Int) = 0 then (0, 6) else (medI (x.Strokes.map fun s => f (strB s)), 0)) else (0, 1)
theorem ovR_inv {f : Box → Int} {x : Ink} (h : okInk' x = false) : ovR f x = (0, 1) := by simp [ovR, h]
theorem ovR_st {f : Box → Int} {x : Ink} (h : okInk' x = true) (h3 : (x.Strokes.length : Int) = 0) : ovR f x = (0, 6) := by rw [ovR, if_pos h, if_pos h3]
theorem ovR_yes {f : Box → Int} {x : Ink} (h : okInk' x = true) (h3 : ¬ (x.Strokes.length : Int) = 0) : ovR f x = (medI (x.Strokes.map fun s => f (strB s)), 0) := by rw [ovR, if_pos h, if_neg h3]
def cnS (xs : List Point) : Nat → Int × Int
  | 0 => (0, 0)
  | k + 1 => ((cnS xs k).1 + (at_ xs k).X, (cnS xs k).2 + (at_ xs k).Y)
def cnI (xs : List Stroke) : Nat → Int × Int
  | 0 => (0, 0)
  | k + 1 => ((cnI xs k).1 + (cnS (at_ xs k).Points (at_ xs k).Points.length).1, (cnI xs k).2 + (cnS (at_ xs k).Points (at_ xs k).Points.length).2)
def ctI (xs : List Stroke) : Nat → Int
  | 0 => 0
  | k + 1 => ctI xs k + ((at_ xs k).Points.length : Int)
theorem cnS_1 {xs : List Point} {i : Int} (h : 0 ≤ i) : cnS xs (i + 1).toNat = ((cnS xs i.toNat).1 + (at_ xs i.toNat).X, (cnS xs i.toNat).2 + (at_ xs i.toNat).Y) := by
  have e1 : (i + 1).toNat = i.toNat + 1 := by omega
  rw [e1]; rfl
theorem cnI_1 {xs : List Stroke} {i : Int} (h : 0 ≤ i) : cnI xs (i + 1).toNat = ((cnI xs i.toNat).1 + (cnS (at_ xs i.toNat).Points (at_ xs i.toNat).Points.length).1, (cnI xs i.toNat).2 + (cnS (at_ xs i.toNat).Points (at_ xs i.toNat).Points.length).2) := by
  have e1 : (i + 1).toNat = i.toNat + 1 := by omega
  rw [e1]; rfl
theorem ctI_1 {xs : List Stroke} {i : Int} (h : 0 ≤ i) : ctI xs (i + 1).toNat = ctI xs i.toNat + ((at_ xs i.toNat).Points.length : Int) := by
  have e1 : (i + 1).toNat = i.toNat + 1 := by omega
  rw [e1]; rfl
/-- The sums lie between as many times the box's ends. -/
theorem cnS_bd {s : Stroke} {b : Box} (hb : inBox (strB s) b) : ∀ k, k ≤ s.Points.length → (b.X1 * (k : Int) ≤ (cnS s.Points k).1 ∧ (cnS s.Points k).1 ≤ b.X2 * (k : Int)) ∧ b.Y1 * (k : Int) ≤ (cnS s.Points k).2 ∧ (cnS s.Points k).2 ≤ b.Y2 * (k : Int)
  | 0, _ => by simp [cnS]
  | k + 1, h => by
    have ih := cnS_bd hb k (by omega)
    have hp := box_has s.Points s.Points.length k (by omega)
    unfold inBox strB at hb
    have e : ∀ z : Int, z * ((k + 1 : Nat) : Int) = z * (k : Int) + z := fun z => by rw [Int.natCast_add, Int.mul_add]; simp
    simp only [cnS, e]
    omega
theorem cnI_bd {x : Ink} {b : Box} (hb : ∀ j, j < x.Strokes.length → inBox (strB (at_ x.Strokes j)) b) : ∀ k, k ≤ x.Strokes.length → (b.X1 * ctI x.Strokes k ≤ (cnI x.Strokes k).1 ∧ (cnI x.Strokes k).1 ≤ b.X2 * ctI x.Strokes k) ∧ b.Y1 * ctI x.Strokes k ≤ (cnI x.Strokes k).2 ∧ (cnI x.Strokes k).2 ≤ b.Y2 * ctI x.Strokes k
  | 0, _ => by simp [cnI, ctI]
  | k + 1, h => by
    have ih := cnI_bd hb k (by omega)
    have hs := cnS_bd (hb k (by omega)) _ (Nat.le_refl _)
    simp only [cnI, ctI, Int.mul_add]
    omega
theorem ctI_bd {x : Ink} (ok : okInk' x = true) : ∀ k, k ≤ x.Strokes.length → (k : Int) ≤ ctI x.Strokes k ∧ ctI x.Strokes k ≤ 60 * (k : Int)
  | 0, _ => by simp [ctI]
  | k + 1, h => by
    have ih := ctI_bd ok k (by omega)
    have hl := okS_len (okI_all ok k (by omega))
    simp only [ctI]; omega
/-- Bounds for the sums over valid ink. -/
theorem cnI_num {x : Ink} (ok : okInk' x = true) (k : Nat) (hk : k ≤ x.Strokes.length) (h1 : 1 ≤ x.Strokes.length) : (0 ≤ (cnI x.Strokes k).1 ∧ (cnI x.Strokes k).1 ≤ 3931200) ∧ 0 ≤ (cnI x.Strokes k).2 ∧ (cnI x.Strokes k).2 ≤ 3931200 := by
  have hb : ∀ j, j < x.Strokes.length → inBox (strB (at_ x.Strokes j)) ⟨0, 0, 4095, 4095⟩ := fun j hj => by
    have := boxS_all (okI_all ok j hj)
    unfold okBox at this; unfold inBox strB; simp only; omega
  have h := cnI_bd hb k hk
  have hc := ctI_bd ok k hk
  have hl := okI_len ok
  simp only at h
  omega
theorem cnS_num {s : Stroke} (ok : okStroke' s = true) (k : Nat) (hk : k ≤ s.Points.length) : (0 ≤ (cnS s.Points k).1 ∧ (cnS s.Points k).1 ≤ 245700) ∧ 0 ≤ (cnS s.Points k).2 ∧ (cnS s.Points k).2 ≤ 245700 := by
  have hb : inBox (strB s) ⟨0, 0, 4095, 4095⟩ := by
    have := boxS_all ok
    unfold okBox at this; unfold inBox strB; simp only; omega
  have h := cnS_bd hb k hk
  have hl := okS_len ok
  simp only at h
  omega
def cenR (x : Ink) : Spot × Int := if okInk' x = true then (if (x.Strokes.length : Int) = 0 then (⟨0, 0⟩, 6) else (⟨nearI (cnI x.Strokes x.Strokes.length).1 (ctI x.Strokes x.Strokes.length), nearI (cnI x.Strokes x.Strokes.length).2 (ctI x.Strokes x.Strokes.length)⟩, 0)) else (⟨0, 0⟩, 1)
def bxiR (x : Ink) : Box × Int := if okInk' x = true then (if (x.Strokes.length : Int) = 0 then (⟨0, 0, 0, 0⟩, 6) else (inkB x.Strokes x.Strokes.length, 0)) else (⟨0, 0, 0, 0⟩, 1)
/-- A mean lies between the ends. -/
theorem near_mean {n d l h : Int} (hd : 0 < d) (h1 : l * d ≤ n) (h2 : n ≤ h * d) : l ≤ nearI n d ∧ nearI n d ≤ h := by
  unfold nearI
  have e1 : l * (2 * d) = 2 * (l * d) := Int.mul_left_comm _ _ _
  have e2 : (h + 1) * (2 * d) = 2 * (h * d) + 2 * d := by rw [Int.add_mul, Int.one_mul, Int.mul_left_comm]
  constructor
  · exact Int.le_ediv_of_mul_le (by omega) (by rw [e1]; omega)
  · have : (2 * n + d) / (2 * d) < h + 1 := Int.ediv_lt_of_lt_mul (by omega) (by rw [e2]; omega)
    omega
theorem near_mono {m n d : Int} (hd : 0 < d) (h : m ≤ n) : nearI m d ≤ nearI n d := Int.ediv_le_ediv (by omega) (by omega)

-- impl.FitInk$1
theorem fit1_ok (p : Point) (b : Box) (side : Int) (d : Int) (hfb : okBox b ∧ (1 ≤ side ∧ side ≤ 4095) ∧ d = sideB b) (hp : (b.X1 ≤ p.X ∧ p.X ≤ b.X2) ∧ b.Y1 ≤ p.Y ∧ p.Y ≤ b.Y2) : Con Try.prog 101 [agPoint p, .ptr false [I b.X1, I b.Y1, I b.X2, I b.Y2], .ptr false [I side], .ptr false [I d]] true (agPoint (fitP b d side p)) := by
  have hbb := hfb.1
  unfold okBox at hbb
  have hsd := side_bd hfb.1
  have hd := hfb.2.2
  have hm1 := mulP_bd (x := p.X - b.X1) (y := side) (A := 4095) (B := 4095) (by omega) (by omega) (by omega) (by omega)
  have hm2 := mulP_bd (x := p.Y - b.Y1) (y := side) (A := 4095) (B := 4095) (by omega) (by omega) (by omega) (by omega)
  refine fn_ok (fn := Try.f101) (nt := 27) Try.func101 rfl rfl rfl rfl (by simp [taggedL, tagged]) fun B hB => ?_
  refine aw_seq ?_
  refine aw_reg [(0, .new 4), (1, .new 5)] [1, 2, 3, 4, 5] [4, 5] [.ptr false [I b.X1, I b.Y1, I b.X2, I b.Y2], .ptr false [I side], .ptr false [I d], .ref 4 0, .ref 5 0] [some (bxPoint p), some (.box [I 0, I 0, I 0])] [] (by kernel_rfl) hB trivial ?_
  refine ae_then ?_
  refine aw_seq ?_
  refine aw_reg [(8, .call [(true, I ((p.X - b.X1) * side)), (true, I d)] true (I (nearI ((p.X - b.X1) * side) d))), (17, .call [(true, I ((p.Y - b.Y1) * side)), (true, I d)] true (I (nearI ((p.Y - b.Y1) * side) d)))] [5] [5] [.ref 5 0] [some (.box [I (nearI ((p.X - b.X1) * side) d), I (nearI ((p.Y - b.Y1) * side) d), I p.T])] [inR .i64 (p.X - b.X1), inR .i64 ((p.X - b.X1) * side), Con Try.prog 102 [I ((p.X - b.X1) * side), I d] true (I (nearI ((p.X - b.X1) * side) d)) ∧ ((I ((p.X - b.X1) * side) : AV) = I ((p.X - b.X1) * side)) ∧ ((I d : AV) = I d) ∧ True, inR .i64 (p.Y - b.Y1), inR .i64 ((p.Y - b.Y1) * side), Con Try.prog 102 [I ((p.Y - b.Y1) * side), I d] true (I (nearI ((p.Y - b.Y1) * side) d)) ∧ ((I ((p.Y - b.Y1) * side) : AV) = I ((p.Y - b.Y1) * side)) ∧ ((I d : AV) = I d) ∧ True] (by kernel_rfl) hB ⟨(inR_i64 (by omega) (by omega)), (inR_i64 (by omega) (by omega)), ⟨(nearestDiv_ok ((p.X - b.X1) * side) d (by omega)), rfl, rfl, trivial⟩, (inR_i64 (by omega) (by omega)), (inR_i64 (by omega) (by omega)), ⟨(nearestDiv_ok ((p.Y - b.Y1) * side) d (by omega)), rfl, rfl, trivial⟩, trivial⟩ ?_
  refine ae_then ?_
  refine aw_ret ?_
  refine ae_ret hB (.agg [I (nearI ((p.X - b.X1) * side) d), I (nearI ((p.Y - b.Y1) * side) d), I p.T]) (by kernel_rfl) (.inl (by first | rfl | (refine congrArg Bv ?_; simp [*]; done) | (refine congrArg Bv ?_; simp [*]; omega) | (refine congrArg Bv ?_; simp_all []; done) | (refine congrArg Bv ?_; simp_all []; omega))) rfl (fun _ => (by simp [tagged, taggedL]))


-- impl.FitInk
-- impl.mapInk at a closure
theorem mapInk_fit (ik : Ink) (b : Box) (side : Int) (d : Int) (hx : ∀ s ∈ ik.Strokes, okStroke' s = true) (hl : ik.Strokes.length ≤ 16) (hfb : okBox b ∧ (1 ≤ side ∧ side ≤ 4095) ∧ d = sideB b) (hin : ∀ s ∈ ik.Strokes, inBox (strB s) b) : ∃ (v : Ink), (v = mpI (fitP b d side) ik) ∧ Con Try.prog 100 [.agg [slStroke false ik.Strokes], .fn 101 [.ptr false [I b.X1, I b.Y1, I b.X2, I b.Y2], .ptr false [I side], .ptr false [I d]]] true (.agg [slStroke true v.Strokes]) := by
  have hh : ∃ r : Ink, ((r = mpI (fitP b d side) ik) ∧ (True)) ∧ CallOK Try.prog 100 [.agg [slStroke false ik.Strokes], .fn 101 [.ptr false [I b.X1, I b.Y1, I b.X2, I b.Y2], .ptr false [I side], .ptr false [I d]]] (lookO []) true (.agg [slStroke true r.Strokes]) (lookO []) := by
    refine fn_okX (Φ := fun r : Ink => (r = mpI (fitP b d side) ik) ∧ (True)) [] (fun r => []) (fn := Try.f100) (nt := 42) Try.func100 rfl rfl (args := [.agg [slStroke false ik.Strokes], .fn 101 [.ptr false [I b.X1, I b.Y1, I b.X2, I b.Y2], .ptr false [I side], .ptr false [I d]]]) rfl (allcons (.inl ⟨rfl, by simp [tagged, taggedL, tagStroke]⟩) (allcons (.inl ⟨rfl, by simp [tagged, taggedL]⟩) allnil)) (res := fun r => .agg [slStroke true r.Strokes]) ?_
    refine x_seq ?_
    refine x_reg [(0, .new 2), (1, .new 4)] [1, 2, 4] [2, 4] [.fn 101 [.ptr false [I b.X1, I b.Y1, I b.X2, I b.Y2], .ptr false [I side], .ptr false [I d]], .ref 2 0, .ref 4 0] [some (.box [slStroke false ik.Strokes]), some (.box [nilA])] [] (by kernel_rfl) trivial ?_
    refine xe_then ?_
    refine x_seq ?_
    refine x_reg [(0, .new 5)] [1, 2, 4, 5] [2, 4, 5] [.fn 101 [.ptr false [I b.X1, I b.Y1, I b.X2, I b.Y2], .ptr false [I side], .ptr false [I d]], .ref 2 0, .ref 4 0, .ref 5 0] [some (.box [slStroke false ik.Strokes]), some (.box [nilA]), some (.box [nilA])] [] (by kernel_rfl) trivial ?_
    refine xe_then ?_
    refine x_seq ?_
    refine x_seq ?_
    refine x_reg [] [1, 4, 5, 12, 13, 14] [4, 5] [.fn 101 [.ptr false [I b.X1, I b.Y1, I b.X2, I b.Y2], .ptr false [I side], .ptr false [I d]], .ref 4 0, .ref 5 0, slStroke false ik.Strokes, I (ik.Strokes.length : Int), I 0] [some (.box [nilA]), some (.box [nilA])] [] (by kernel_rfl) trivial ?_
    refine xe_then ?_
    refine x_block ?_
    refine x_nilC 5 0 750 1 (fun _ => []) rfl (by kernel_rfl) ?_
    refine x_fam 8062 3 (fun _ => 0) (fun _ _ => []) (by kernel_rfl) ?_
    refine x_weak [] (T := [(1, .fn 101 [.ptr false [I b.X1, I b.Y1, I b.X2, I b.Y2], .ptr false [I side], .ptr false [I d]]), (4, .ref 4 0), (5, .ref 5 0), (12, slStroke false ik.Strokes), (13, I (ik.Strokes.length : Int)), (14, I 0)]) (O := [(4, .box [nilA]), (5, .box [.arr 750]), (750, .oar [8062] 1 (([] : List Stroke).length) (oStroke 8062 ([] : List Stroke))), (8062, .fam ([] : List Stroke).length 3 (mStroke ([] : List Stroke)) (gStroke ([] : List Stroke)))]) rfl (⟨.inl rfl, .inl rfl, .inl rfl, .inl rfl, .inl rfl, .inl rfl, trivial⟩) (⟨.inl rfl, .inl rfl, .inr ⟨rfl, rfl, fun i hi => absurd hi (Nat.not_lt_zero _)⟩, .inr ⟨rfl, rfl, fun p hp => absurd hp (Nat.not_lt_zero _)⟩, trivial⟩) ?_
    refine x_loop (X := Int × (List Stroke)) (fun x => mkS [(1, .fn 101 [.ptr false [I b.X1, I b.Y1, I b.X2, I b.Y2], .ptr false [I side], .ptr false [I d]]), (4, .ref 4 0), (5, .ref 5 0), (12, slStroke false ik.Strokes), (13, I (ik.Strokes.length : Int)), (14, I x.1)] [(4, .box [nilA]), (5, .box [.arr 750]), (750, .oar [8062] 1 x.2.length (oStroke 8062 x.2)), (8062, .fam x.2.length 3 (mStroke x.2) (gStroke x.2))]) (fun x => (0 ≤ x.1 ∧ x.1 ≤ (ik.Strokes.length : Int)) ∧ ((x.2.length : Int) = x.1) ∧ (x.2 = (ik.Strokes.take x.1.toNat).map (mpS (fitP b d side))) ∧ True) (fun x => ((ik.Strokes.length : Int) - x.1).toNat) (0, ([] : List Stroke)) rfl (show (0 ≤ (0 : Int) ∧ (0 : Int) ≤ (ik.Strokes.length : Int)) ∧ ((([] : List Stroke).length : Int) = (0 : Int)) ∧ (([] : List Stroke) = (ik.Strokes.take (0 : Int).toNat).map (mpS (fitP b d side))) ∧ True from ⟨(by omega), (by rfl), (by rfl), trivial⟩) (fun x hI => ?_)
    obtain ⟨t14, ss⟩ := x
    obtain ⟨hi0, hl0, hs0, _⟩ : (0 ≤ t14 ∧ t14 ≤ (ik.Strokes.length : Int)) ∧ ((ss.length : Int) = t14) ∧ (ss = (ik.Strokes.take t14.toNat).map (mpS (fitP b d side))) ∧ True := hI
    show XW _ _ _ _ (mkS [(1, .fn 101 [.ptr false [I b.X1, I b.Y1, I b.X2, I b.Y2], .ptr false [I side], .ptr false [I d]]), (4, .ref 4 0), (5, .ref 5 0), (12, slStroke false ik.Strokes), (13, I (ik.Strokes.length : Int)), (14, I t14)] [(4, .box [nilA]), (5, .box [.arr 750]), (750, .oar [8062] 1 ss.length (oStroke 8062 ss)), (8062, .fam ss.length 3 (mStroke ss) (gStroke ss))]) _ _
    refine x_seq ?_
    by_cases h1 : t14 < (ik.Strokes.length : Int)
    ·have hi : t14.toNat < ik.Strokes.length := by omega
     have hos := hx _ (at_mem hi)
     have hol := okS_len hos
     refine x_reg [(0, .dec true)] [1, 4, 5, 12, 13, 14, 15] [4, 5, 750, 8062] [.fn 101 [.ptr false [I b.X1, I b.Y1, I b.X2, I b.Y2], .ptr false [I side], .ptr false [I d]], .ref 4 0, .ref 5 0, slStroke false ik.Strokes, I (ik.Strokes.length : Int), I t14, Bv true] [some (.box [nilA]), some (.box [.arr 750]), some (.oar [8062] 1 ss.length (oStroke 8062 ss)), some (.fam ss.length 3 (mStroke ss) (gStroke ss))] [t14 < (ik.Strokes.length : Int)] (by kernel_rfl) ⟨h1, trivial⟩ ?_
     refine xe_then ?_
     refine x_seq ?_
     refine x_true rfl ?_
     refine x_skip ?_
     refine xe_then ?_
     refine x_seq ?_
     refine x_block ?_
     refine x_seq ?_
     refine x_reg [(2, .new 7)] [1, 4, 5, 7, 12, 13, 14] [4, 5, 7, 750, 8062] [.fn 101 [.ptr false [I b.X1, I b.Y1, I b.X2, I b.Y2], .ptr false [I side], .ptr false [I d]], .ref 4 0, .ref 5 0, .ref 7 0, slStroke false ik.Strokes, I (ik.Strokes.length : Int), I t14] [some (.box [nilA]), some (.box [.arr 750]), some (.box [slPoint false ((at_ ik.Strokes t14.toNat).Points)]), some (.oar [8062] 1 ss.length (oStroke 8062 ss)), some (.fam ss.length 3 (mStroke ss) (gStroke ss))] [(0 : Int) ≤ t14 ∧ t14 < (ik.Strokes.length : Int)] (by kernel_rfl) ⟨⟨(by omega), (by omega)⟩, trivial⟩ ?_
     refine xe_then ?_
     refine x_seq ?_
     refine x_reg [(0, .new 8)] [1, 4, 5, 7, 8, 12, 13, 14] [4, 5, 7, 8, 750, 8062] [.fn 101 [.ptr false [I b.X1, I b.Y1, I b.X2, I b.Y2], .ptr false [I side], .ptr false [I d]], .ref 4 0, .ref 5 0, .ref 7 0, .ref 8 0, slStroke false ik.Strokes, I (ik.Strokes.length : Int), I t14] [some (.box [nilA]), some (.box [.arr 750]), some (.box [slPoint false ((at_ ik.Strokes t14.toNat).Points)]), some (.box [nilA]), some (.oar [8062] 1 ss.length (oStroke 8062 ss)), some (.fam ss.length 3 (mStroke ss) (gStroke ss))] [] (by kernel_rfl) trivial ?_
     refine xe_then ?_
     refine x_seq ?_
     refine x_seq ?_
     refine x_reg [] [1, 4, 5, 8, 12, 13, 14, 19, 20, 21] [4, 5, 8, 750, 8062] [.fn 101 [.ptr false [I b.X1, I b.Y1, I b.X2, I b.Y2], .ptr false [I side], .ptr false [I d]], .ref 4 0, .ref 5 0, .ref 8 0, slStroke false ik.Strokes, I (ik.Strokes.length : Int), I t14, slPoint false ((at_ ik.Strokes t14.toNat).Points), I ((((at_ ik.Strokes t14.toNat).Points).length) : Int), I 0] [some (.box [nilA]), some (.box [.arr 750]), some (.box [nilA]), some (.oar [8062] 1 ss.length (oStroke 8062 ss)), some (.fam ss.length 3 (mStroke ss) (gStroke ss))] [] (by kernel_rfl) trivial ?_
     refine xe_then ?_
     refine x_block ?_
     refine x_nilC 8 0 780 3 (fun _ => []) rfl (by kernel_rfl) ?_
     refine x_weak [] (T := [(1, .fn 101 [.ptr false [I b.X1, I b.Y1, I b.X2, I b.Y2], .ptr false [I side], .ptr false [I d]]), (4, .ref 4 0), (5, .ref 5 0), (8, .ref 8 0), (12, slStroke false ik.Strokes), (13, I (ik.Strokes.length : Int)), (14, I t14), (19, slPoint false ((at_ ik.Strokes t14.toNat).Points)), (20, I ((((at_ ik.Strokes t14.toNat).Points).length) : Int)), (21, I 0)]) (O := [(4, .box [nilA]), (5, .box [.arr 750]), (8, .box [.arr 780]), (750, .oar [8062] 1 ss.length (oStroke 8062 ss)), (780, .arr 3 (([] : List Point).length) (fPoint ([] : List Point))), (8062, .fam ss.length 3 (mStroke ss) (gStroke ss))]) rfl (⟨.inl rfl, .inl rfl, .inl rfl, .inl rfl, .inl rfl, .inl rfl, .inl rfl, .inl rfl, .inl rfl, .inl rfl, trivial⟩) (⟨.inl rfl, .inl rfl, .inl rfl, .inl rfl, .inr ⟨rfl, (by first | rfl | (simp; done) | (simp; omega) | omega), fun i_ hi_ => absurd hi_ (Nat.not_lt_zero _)⟩, .inl rfl, trivial⟩) ?_
     refine x_loop (X := Int × (List Point)) (fun x => mkS [(1, .fn 101 [.ptr false [I b.X1, I b.Y1, I b.X2, I b.Y2], .ptr false [I side], .ptr false [I d]]), (4, .ref 4 0), (5, .ref 5 0), (8, .ref 8 0), (12, slStroke false ik.Strokes), (13, I (ik.Strokes.length : Int)), (14, I t14), (19, slPoint false ((at_ ik.Strokes t14.toNat).Points)), (20, I ((((at_ ik.Strokes t14.toNat).Points).length) : Int)), (21, I x.1)] [(4, .box [nilA]), (5, .box [.arr 750]), (8, .box [.arr 780]), (750, .oar [8062] 1 ss.length (oStroke 8062 ss)), (780, .arr 3 x.2.length (fPoint x.2)), (8062, .fam ss.length 3 (mStroke ss) (gStroke ss))]) (fun x => (0 ≤ x.1 ∧ x.1 ≤ ((at_ ik.Strokes t14.toNat).Points.length : Int)) ∧ ((x.2.length : Int) = x.1) ∧ (x.2 = ((at_ ik.Strokes t14.toNat).Points.take x.1.toNat).map (fitP b d side)) ∧ True) (fun x => (((at_ ik.Strokes t14.toNat).Points.length : Int) - x.1).toNat) (0, ([] : List Point)) rfl (show (0 ≤ (0 : Int) ∧ (0 : Int) ≤ ((at_ ik.Strokes t14.toNat).Points.length : Int)) ∧ ((([] : List Point).length : Int) = (0 : Int)) ∧ (([] : List Point) = ((at_ ik.Strokes t14.toNat).Points.take (0 : Int).toNat).map (fitP b d side)) ∧ True from ⟨(by omega), (by rfl), (by rfl), trivial⟩) (fun x hI => ?_)
     obtain ⟨t21, pts⟩ := x
     obtain ⟨hk0, hm0, hp1, _⟩ : (0 ≤ t21 ∧ t21 ≤ ((at_ ik.Strokes t14.toNat).Points.length : Int)) ∧ ((pts.length : Int) = t21) ∧ (pts = ((at_ ik.Strokes t14.toNat).Points.take t21.toNat).map (fitP b d side)) ∧ True := hI
     show XW _ _ _ _ (mkS [(1, .fn 101 [.ptr false [I b.X1, I b.Y1, I b.X2, I b.Y2], .ptr false [I side], .ptr false [I d]]), (4, .ref 4 0), (5, .ref 5 0), (8, .ref 8 0), (12, slStroke false ik.Strokes), (13, I (ik.Strokes.length : Int)), (14, I t14), (19, slPoint false ((at_ ik.Strokes t14.toNat).Points)), (20, I ((((at_ ik.Strokes t14.toNat).Points).length) : Int)), (21, I t21)] [(4, .box [nilA]), (5, .box [.arr 750]), (8, .box [.arr 780]), (750, .oar [8062] 1 ss.length (oStroke 8062 ss)), (780, .arr 3 pts.length (fPoint pts)), (8062, .fam ss.length 3 (mStroke ss) (gStroke ss))]) _ _
     refine x_seq ?_
     by_cases h2 : t21 < ((((at_ ik.Strokes t14.toNat).Points).length) : Int)
     ·have hk : t21.toNat < (at_ ik.Strokes t14.toNat).Points.length := by omega
      have hpo := okS_at hos hk
      have hib := hin _ (at_mem hi)
      have hbh := box_has (at_ ik.Strokes t14.toNat).Points _ t21.toNat hk
      unfold inBox strB at hib
      refine x_reg [(0, .dec true)] [1, 4, 5, 8, 12, 13, 14, 19, 20, 21, 22] [4, 5, 8, 750, 780, 8062] [.fn 101 [.ptr false [I b.X1, I b.Y1, I b.X2, I b.Y2], .ptr false [I side], .ptr false [I d]], .ref 4 0, .ref 5 0, .ref 8 0, slStroke false ik.Strokes, I (ik.Strokes.length : Int), I t14, slPoint false ((at_ ik.Strokes t14.toNat).Points), I ((((at_ ik.Strokes t14.toNat).Points).length) : Int), I t21, Bv true] [some (.box [nilA]), some (.box [.arr 750]), some (.box [.arr 780]), some (.oar [8062] 1 ss.length (oStroke 8062 ss)), some (.arr 3 pts.length (fPoint pts)), some (.fam ss.length 3 (mStroke ss) (gStroke ss))] [t21 < ((((at_ ik.Strokes t14.toNat).Points).length) : Int)] (by kernel_rfl) ⟨h2, trivial⟩ ?_
      refine xe_then ?_
      refine x_seq ?_
      refine x_true rfl ?_
      refine x_skip ?_
      refine xe_then ?_
      refine x_seq ?_
      refine x_block ?_
      refine x_seq ?_
      refine x_reg [(2, .new 10)] [1, 4, 5, 8, 10, 12, 13, 14, 19, 20, 21] [4, 5, 8, 10, 750, 780, 8062] [.fn 101 [.ptr false [I b.X1, I b.Y1, I b.X2, I b.Y2], .ptr false [I side], .ptr false [I d]], .ref 4 0, .ref 5 0, .ref 8 0, .ref 10 0, slStroke false ik.Strokes, I (ik.Strokes.length : Int), I t14, slPoint false ((at_ ik.Strokes t14.toNat).Points), I ((((at_ ik.Strokes t14.toNat).Points).length) : Int), I t21] [some (.box [nilA]), some (.box [.arr 750]), some (.box [.arr 780]), some (bxPoint (at_ ((at_ ik.Strokes t14.toNat).Points) t21.toNat)), some (.oar [8062] 1 ss.length (oStroke 8062 ss)), some (.arr 3 pts.length (fPoint pts)), some (.fam ss.length 3 (mStroke ss) (gStroke ss))] [(0 : Int) ≤ t21 ∧ t21 < ((((at_ ik.Strokes t14.toNat).Points).length) : Int)] (by kernel_rfl) ⟨⟨(by omega), (by omega)⟩, trivial⟩ ?_
      refine xe_then ?_
      refine x_reg [(4, .call [(true, agPoint (at_ ((at_ ik.Strokes t14.toNat).Points) t21.toNat)), (true, .ptr false [I b.X1, I b.Y1, I b.X2, I b.Y2]), (true, .ptr false [I side]), (true, .ptr false [I d])] true (agPoint (fitP b d side (at_ ((at_ ik.Strokes t14.toNat).Points) t21.toNat)))), (5, .new 30), (6, .new 31)] [1, 4, 5, 8, 12, 13, 14, 19, 20, 21] [4, 5, 8, 31, 750, 8062] [.fn 101 [.ptr false [I b.X1, I b.Y1, I b.X2, I b.Y2], .ptr false [I side], .ptr false [I d]], .ref 4 0, .ref 5 0, .ref 8 0, slStroke false ik.Strokes, I (ik.Strokes.length : Int), I t14, slPoint false ((at_ ik.Strokes t14.toNat).Points), I ((((at_ ik.Strokes t14.toNat).Points).length) : Int), I t21] [some (.box [nilA]), some (.box [.arr 750]), some (.box [.arr 31]), some (.arr 3 (pts.length + 1) (catF pts.length (fPoint pts) (litF [I ((fitP b d side (at_ ((at_ ik.Strokes t14.toNat).Points) t21.toNat)).X), I ((fitP b d side (at_ ((at_ ik.Strokes t14.toNat).Points) t21.toNat)).Y), I ((fitP b d side (at_ ((at_ ik.Strokes t14.toNat).Points) t21.toNat)).T)] 3))), some (.oar [8062] 1 ss.length (oStroke 8062 ss)), some (.fam ss.length 3 (mStroke ss) (gStroke ss))] [Con Try.prog 101 [agPoint (at_ ((at_ ik.Strokes t14.toNat).Points) t21.toNat), .ptr false [I b.X1, I b.Y1, I b.X2, I b.Y2], .ptr false [I side], .ptr false [I d]] true (agPoint (fitP b d side (at_ ((at_ ik.Strokes t14.toNat).Points) t21.toNat))) ∧ ((agPoint (at_ ((at_ ik.Strokes t14.toNat).Points) t21.toNat) : AV) = agPoint (at_ ((at_ ik.Strokes t14.toNat).Points) t21.toNat)) ∧ ((.ptr false [I b.X1, I b.Y1, I b.X2, I b.Y2] : AV) = .ptr false [I b.X1, I b.Y1, I b.X2, I b.Y2]) ∧ ((.ptr false [I side] : AV) = .ptr false [I side]) ∧ ((.ptr false [I d] : AV) = .ptr false [I d]) ∧ True, (pts.length + 1) * 24 ≤ 140737488355328] (by kernel_rfl) ⟨⟨(fit1_ok (at_ ((at_ ik.Strokes t14.toNat).Points) t21.toNat) b side d hfb (by omega)), rfl, rfl, rfl, rfl, trivial⟩, (by omega), trivial⟩ ?_
      refine xe_block 3 ?_
      refine xe_then ?_
      refine x_reg [] [1, 4, 5, 8, 12, 13, 14, 19, 20, 21] [4, 5, 8, 31, 750, 8062] [.fn 101 [.ptr false [I b.X1, I b.Y1, I b.X2, I b.Y2], .ptr false [I side], .ptr false [I d]], .ref 4 0, .ref 5 0, .ref 8 0, slStroke false ik.Strokes, I (ik.Strokes.length : Int), I t14, slPoint false ((at_ ik.Strokes t14.toNat).Points), I ((((at_ ik.Strokes t14.toNat).Points).length) : Int), I (t21 + 1)] [some (.box [nilA]), some (.box [.arr 750]), some (.box [.arr 31]), some (.arr 3 (pts.length + 1) (catF pts.length (fPoint pts) (litF [I ((fitP b d side (at_ ((at_ ik.Strokes t14.toNat).Points) t21.toNat)).X), I ((fitP b d side (at_ ((at_ ik.Strokes t14.toNat).Points) t21.toNat)).Y), I ((fitP b d side (at_ ((at_ ik.Strokes t14.toNat).Points) t21.toNat)).T)] 3))), some (.oar [8062] 1 ss.length (oStroke 8062 ss)), some (.fam ss.length 3 (mStroke ss) (gStroke ss))] [inR .i64 (t21 + 1)] (by kernel_rfl) ⟨(inR_i64 (by omega) (by omega)), trivial⟩ ?_
      refine xe_weak [(780, 31)] (T := [(1, .fn 101 [.ptr false [I b.X1, I b.Y1, I b.X2, I b.Y2], .ptr false [I side], .ptr false [I d]]), (4, .ref 4 0), (5, .ref 5 0), (8, .ref 8 0), (12, slStroke false ik.Strokes), (13, I (ik.Strokes.length : Int)), (14, I t14), (19, slPoint false ((at_ ik.Strokes t14.toNat).Points)), (20, I ((((at_ ik.Strokes t14.toNat).Points).length) : Int)), (21, I (t21 + 1))]) (O := [(4, .box [nilA]), (5, .box [.arr 750]), (8, .box [.arr 780]), (750, .oar [8062] 1 ss.length (oStroke 8062 ss)), (780, .arr 3 ((pts ++ [(fitP b d side (at_ ((at_ ik.Strokes t14.toNat).Points) t21.toNat))]).length) (fPoint (pts ++ [(fitP b d side (at_ ((at_ ik.Strokes t14.toNat).Points) t21.toNat))]))), (8062, .fam ss.length 3 (mStroke ss) (gStroke ss))]) rfl (⟨.inl rfl, .inl rfl, .inl rfl, .inl rfl, .inl rfl, .inl rfl, .inl rfl, .inl rfl, .inl rfl, .inl rfl, trivial⟩) (⟨.inl rfl, .inl rfl, .inl rfl, .inl rfl, .inr ⟨rfl, (by first | rfl | (simp; done) | (simp; omega) | omega), fun i_ hi_ => .inl (cat_snoc (enc := cPoint) (xs := pts) rfl i_ hi_)⟩, .inl rfl, trivial⟩) (xe_again ((t21 + 1), (pts ++ [(fitP b d side (at_ ((at_ ik.Strokes t14.toNat).Points) t21.toNat))])) rfl (show (0 ≤ (t21 + 1) ∧ (t21 + 1) ≤ ((at_ ik.Strokes t14.toNat).Points.length : Int)) ∧ (((pts ++ [(fitP b d side (at_ ((at_ ik.Strokes t14.toNat).Points) t21.toNat))]).length : Int) = (t21 + 1)) ∧ ((pts ++ [(fitP b d side (at_ ((at_ ik.Strokes t14.toNat).Points) t21.toNat))]) = ((at_ ik.Strokes t14.toNat).Points.take (t21 + 1).toNat).map (fitP b d side)) ∧ True from ⟨(by omega), (by simp; omega), (by rw [hp1]; exact (mapTake_succ (by omega) hk rfl).symm), trivial⟩) (by show ((((at_ ik.Strokes t14.toNat).Points.length : Int) - (t21 + 1)).toNat : Nat) < (((at_ ik.Strokes t14.toNat).Points.length : Int) - t21).toNat; omega))
     ·refine x_reg [(0, .dec false)] [1, 4, 5, 8, 12, 13, 14, 19, 20, 21, 22] [4, 5, 8, 750, 780, 8062] [.fn 101 [.ptr false [I b.X1, I b.Y1, I b.X2, I b.Y2], .ptr false [I side], .ptr false [I d]], .ref 4 0, .ref 5 0, .ref 8 0, slStroke false ik.Strokes, I (ik.Strokes.length : Int), I t14, slPoint false ((at_ ik.Strokes t14.toNat).Points), I ((((at_ ik.Strokes t14.toNat).Points).length) : Int), I t21, Bv false] [some (.box [nilA]), some (.box [.arr 750]), some (.box [.arr 780]), some (.oar [8062] 1 ss.length (oStroke 8062 ss)), some (.arr 3 pts.length (fPoint pts)), some (.fam ss.length 3 (mStroke ss) (gStroke ss))] [¬ (t21 < ((((at_ ik.Strokes t14.toNat).Points).length) : Int))] (by kernel_rfl) ⟨h2, trivial⟩ ?_
      refine xe_then ?_
      refine x_seq ?_
      refine x_false rfl ?_
      refine x_exit ?_
      refine xe_exit_then ?_
      refine xe_loop_exit ?_
      refine xe_exit_same ?_
      refine xe_then ?_
      refine x_reg [(3, .new 37), (4, .new 38)] [1, 4, 5, 12, 13, 14] [4, 5, 38, 780, 8062] [.fn 101 [.ptr false [I b.X1, I b.Y1, I b.X2, I b.Y2], .ptr false [I side], .ptr false [I d]], .ref 4 0, .ref 5 0, slStroke false ik.Strokes, I (ik.Strokes.length : Int), I t14] [some (.box [nilA]), some (.box [.arr 38]), some (.oar [8062, 780] 1 (ss.length + 1) (catF ss.length (oStroke 8062 ss) (litF [.arr 780] 1))), some (.arr 3 pts.length (fPoint pts)), some (.fam ss.length 3 (mStroke ss) (gStroke ss))] [(ss.length + 1) * 24 ≤ 140737488355328] (by kernel_rfl) ⟨(by omega), trivial⟩ ?_
      refine xe_block 1 ?_
      refine xe_then ?_
      refine x_reg [] [1, 4, 5, 12, 13, 14] [4, 5, 38, 780, 8062] [.fn 101 [.ptr false [I b.X1, I b.Y1, I b.X2, I b.Y2], .ptr false [I side], .ptr false [I d]], .ref 4 0, .ref 5 0, slStroke false ik.Strokes, I (ik.Strokes.length : Int), I (t14 + 1)] [some (.box [nilA]), some (.box [.arr 38]), some (.oar [8062, 780] 1 (ss.length + 1) (catF ss.length (oStroke 8062 ss) (litF [.arr 780] 1))), some (.arr 3 pts.length (fPoint pts)), some (.fam ss.length 3 (mStroke ss) (gStroke ss))] [inR .i64 (t14 + 1)] (by kernel_rfl) ⟨(inR_i64 (by omega) (by omega)), trivial⟩ ?_
      refine xe_join 780 8062 rfl rfl rfl ?_
      refine xe_weak [(750, 38)] (T := [(1, .fn 101 [.ptr false [I b.X1, I b.Y1, I b.X2, I b.Y2], .ptr false [I side], .ptr false [I d]]), (4, .ref 4 0), (5, .ref 5 0), (12, slStroke false ik.Strokes), (13, I (ik.Strokes.length : Int)), (14, I (t14 + 1))]) (O := [(4, .box [nilA]), (5, .box [.arr 750]), (750, .oar [8062] 1 ((ss ++ [(Stroke.mk pts)]).length) (oStroke 8062 (ss ++ [(Stroke.mk pts)]))), (8062, .fam (ss ++ [(Stroke.mk pts)]).length 3 (mStroke (ss ++ [(Stroke.mk pts)])) (gStroke (ss ++ [(Stroke.mk pts)])))]) rfl (⟨.inl rfl, .inl rfl, .inl rfl, .inl rfl, .inl rfl, .inl rfl, trivial⟩) (⟨.inl rfl, .inl rfl, .inr ⟨rfl, rfl, (by simp), fun i hi => .inl (ocatStroke rfl rfl rfl i hi)⟩, .inr (fcatStroke (Stroke.mk pts) (by first | rfl | (simp; done)) (fun i_ hi_ => (by first | rfl | fail))), trivial⟩) (xe_again ((t14 + 1), (ss ++ [(Stroke.mk pts)])) rfl (show (0 ≤ (t14 + 1) ∧ (t14 + 1) ≤ (ik.Strokes.length : Int)) ∧ (((ss ++ [(Stroke.mk pts)]).length : Int) = (t14 + 1)) ∧ ((ss ++ [(Stroke.mk pts)]) = (ik.Strokes.take (t14 + 1).toNat).map (mpS (fitP b d side))) ∧ True from ⟨(by omega), (by simp; omega), (by rw [hs0]; exact (mapTake_succ (by omega) hi (by rw [hp1]; unfold mpS; rw [map_all (by omega)])).symm), trivial⟩) (by show (((ik.Strokes.length : Int) - (t14 + 1)).toNat : Nat) < ((ik.Strokes.length : Int) - t14).toNat; omega))
    ·refine x_reg [(0, .dec false)] [1, 4, 5, 12, 13, 14, 15] [4, 5, 750, 8062] [.fn 101 [.ptr false [I b.X1, I b.Y1, I b.X2, I b.Y2], .ptr false [I side], .ptr false [I d]], .ref 4 0, .ref 5 0, slStroke false ik.Strokes, I (ik.Strokes.length : Int), I t14, Bv false] [some (.box [nilA]), some (.box [.arr 750]), some (.oar [8062] 1 ss.length (oStroke 8062 ss)), some (.fam ss.length 3 (mStroke ss) (gStroke ss))] [¬ (t14 < (ik.Strokes.length : Int))] (by kernel_rfl) ⟨h1, trivial⟩ ?_
     refine xe_then ?_
     refine x_seq ?_
     refine x_false rfl ?_
     refine x_exit ?_
     refine xe_exit_then ?_
     refine xe_loop_exit ?_
     refine xe_exit_same ?_
     refine xe_then ?_
     refine x_seq ?_
     refine x_reg [] [4] [4, 750, 8062] [.ref 4 0] [some (.box [.arr 750]), some (.oar [8062] 1 ss.length (oStroke 8062 ss)), some (.fam ss.length 3 (mStroke ss) (gStroke ss))] [] (by kernel_rfl) trivial ?_
     refine xe_then ?_
     refine x_ret ?_
     refine xe_end (Ink.mk ss) (show ((Ink.mk ss) = mpI (fitP b d side) ik) ∧ (True) from ⟨(by rw [hs0]; unfold mpI; rw [map_all (by omega)]), trivial⟩) (trivial) (.agg [.arr 750]) (by kernel_rfl) (.inr ⟨⟨(fun _ => rfl), rfl, rfl, oleStroke _ _ rfl⟩, rfl⟩) (fun _ => rfl) (fun _ => (by simp [tagged, taggedL, tagStroke]))
  obtain ⟨v, ⟨hh0, _⟩, hc⟩ := hh
  exact ⟨v, hh0, hc⟩

theorem implFitInk_ok (ik : Ink) (side : Int) : ∃ (v : Ink) (c : Int), (v = (fitR ik side).1) ∧ (c = (fitR ik side).2) ∧ Con Try.prog 39 [.agg [slStroke false ik.Strokes], I side] true (.tup [.agg [slStroke true v.Strokes], I c]) := by
  have hh : ∃ r : Ink × Int, ((r.1 = (fitR ik side).1) ∧ (r.2 = (fitR ik side).2) ∧ (True)) ∧ CallOK Try.prog 39 [.agg [slStroke false ik.Strokes], I side] (lookO []) true (.tup [.agg [slStroke true r.1.Strokes], I r.2]) (lookO []) := by
    refine fn_okX (Φ := fun r : Ink × Int => (r.1 = (fitR ik side).1) ∧ (r.2 = (fitR ik side).2) ∧ (True)) [] (fun r => []) (fn := Try.f39) (nt := 31) Try.func39 rfl rfl (args := [.agg [slStroke false ik.Strokes], I side]) rfl (allcons (.inl ⟨rfl, by simp [tagged, taggedL, tagStroke]⟩) (allcons (.inl ⟨rfl, trivial⟩) allnil)) (res := fun r => .tup [.agg [slStroke true r.1.Strokes], I r.2]) ?_
    refine x_seq ?_
    refine x_reg [(0, .new 2), (1, .new 3), (2, .new 4)] [2, 3, 4] [2, 3, 4] [.ref 2 0, .ref 3 0, .ref 4 0] [some (.box [slStroke false ik.Strokes]), some (.box [I side]), some (.box [nilA])] [] (by kernel_rfl) trivial ?_
    refine xe_then ?_
    refine x_seq ?_
    refine x_block ?_
    refine x_seq ?_
    rcases Bool.eq_false_or_eq_true (okInk' ik) with h1 | h1
    ·have hil := okI_len h1
     refine x_reg [(1, .call [(true, .agg [slStroke false ik.Strokes])] true (Bv true))] [2, 3, 4, 8] [2, 3, 4] [.ref 2 0, .ref 3 0, .ref 4 0, Bv false] [some (.box [slStroke false ik.Strokes]), some (.box [I side]), some (.box [nilA])] [Con Try.prog 52 [.agg [slStroke false ik.Strokes]] true (Bv true) ∧ ((.agg [slStroke false ik.Strokes] : AV) = .agg [slStroke false ik.Strokes]) ∧ True] (by kernel_rfl) ⟨⟨(con_bool h1 (ValidInk_ok ik)), rfl, trivial⟩, trivial⟩ ?_
     refine xe_then ?_
     refine x_false rfl ?_
     refine x_seq ?_
     rcases Bool.eq_false_or_eq_true (inB side 1 4095) with h2 | h2
     ·have hsi := inB_iff.1 h2
      refine x_reg [(1, .call [(true, I side), (true, I 1), (true, I 4095)] true (Bv true))] [2, 3, 4, 13] [2, 3, 4] [.ref 2 0, .ref 3 0, .ref 4 0, Bv false] [some (.box [slStroke false ik.Strokes]), some (.box [I side]), some (.box [nilA])] [Con Try.prog 53 [I side, I 1, I 4095] true (Bv true) ∧ ((I side : AV) = I side) ∧ ((I 1 : AV) = I 1) ∧ ((I 4095 : AV) = I 4095) ∧ True] (by kernel_rfl) ⟨⟨(con_bool h2 (within_ok side 1 4095)), rfl, rfl, rfl, trivial⟩, trivial⟩ ?_
      refine xe_then ?_
      refine x_false rfl ?_
      refine x_seq ?_
      by_cases h3 : (ik.Strokes.length : Int) = 0
      ·have hst := fitR_st h1 h2 h3
       refine x_reg [(3, .dec true)] [2, 3, 4, 18] [2, 3, 4] [.ref 2 0, .ref 3 0, .ref 4 0, Bv true] [some (.box [slStroke false ik.Strokes]), some (.box [I side]), some (.box [nilA])] [(ik.Strokes.length : Int) = 0] (by kernel_rfl) ⟨h3, trivial⟩ ?_
       refine xe_then ?_
       refine x_true rfl ?_
       refine x_seq ?_
       refine x_reg [] [4, 5] [4] [.ref 4 0, I 6] [some (.box [nilA])] [] (by kernel_rfl) trivial ?_
       refine xe_then ?_
       refine x_ret ?_
       refine xe_ret_block (xe_ret_then ?_)
       refine xe_end ((Ink.mk ([] : List Stroke)), 6) (show ((Ink.mk ([] : List Stroke)) = (fitR ik side).1) ∧ (6 = (fitR ik side).2) ∧ (True) from ⟨(by first | (rw [hst]; done) | (rw [hst, hfin]; done) | (rw [hst]; exact hx1_0)), (by first | (rw [hst]; done) | (rw [hst, hfin]; done) | (rw [hst]; exact hx1_0)), trivial⟩) (trivial) (.tup [.agg [nilA], I 6]) (by kernel_rfl) (.inr ⟨⟨⟨rfl, rfl⟩, rfl⟩, ⟨rfl, rfl⟩⟩) (fun _ => rfl) (fun _ => (by simp [tagged, taggedL, tagStroke]))
      ·have hst := fitR_yes h1 h2 h3
       have hbo := inkB_ok h1 (by omega) _ (Nat.le_refl ik.Strokes.length)
       have hbs := side_bd hbo
       refine x_reg [(3, .dec false)] [2, 3, 4, 18] [2, 3, 4] [.ref 2 0, .ref 3 0, .ref 4 0, Bv false] [some (.box [slStroke false ik.Strokes]), some (.box [I side]), some (.box [nilA])] [¬ ((ik.Strokes.length : Int) = 0)] (by kernel_rfl) ⟨h3, trivial⟩ ?_
       refine xe_then ?_
       refine x_false rfl ?_
       refine x_skip ?_
       refine xe_block 0 ?_
       refine xe_then ?_
       refine x_seq ?_
       refine x_reg [(1, .call [(true, .agg [slStroke false ik.Strokes])] true (agBox (inkB ik.Strokes ik.Strokes.length))), (2, .new 6)] [2, 3, 4, 6] [2, 3, 4, 6] [.ref 2 0, .ref 3 0, .ref 4 0, .ref 6 0] [some (.box [slStroke false ik.Strokes]), some (.box [I side]), some (.box [nilA]), some (bxBox (inkB ik.Strokes ik.Strokes.length))] [Con Try.prog 54 [.agg [slStroke false ik.Strokes]] true (agBox (inkB ik.Strokes ik.Strokes.length)) ∧ ((.agg [slStroke false ik.Strokes] : AV) = .agg [slStroke false ik.Strokes]) ∧ True] (by kernel_rfl) ⟨⟨(boxOfInk_ok ik h1 (by omega)), rfl, trivial⟩, trivial⟩ ?_
       refine xe_then ?_
       refine x_seq ?_
       refine x_reg [(1, .call [(true, agBox (inkB ik.Strokes ik.Strokes.length))] true (I (sideB (inkB ik.Strokes ik.Strokes.length)))), (2, .new 7)] [2, 3, 4, 6, 7] [2, 3, 4, 6, 7] [.ref 2 0, .ref 3 0, .ref 4 0, .ref 6 0, .ref 7 0] [some (.box [slStroke false ik.Strokes]), some (.box [I side]), some (.box [nilA]), some (bxBox (inkB ik.Strokes ik.Strokes.length)), some (.box [I (sideB (inkB ik.Strokes ik.Strokes.length))])] [Con Try.prog 99 [agBox (inkB ik.Strokes ik.Strokes.length)] true (I (sideB (inkB ik.Strokes ik.Strokes.length))) ∧ ((agBox (inkB ik.Strokes ik.Strokes.length) : AV) = agBox (inkB ik.Strokes ik.Strokes.length)) ∧ True] (by kernel_rfl) ⟨⟨(sideOfBox_ok (inkB ik.Strokes ik.Strokes.length) hbo), rfl, trivial⟩, trivial⟩ ?_
       refine xe_then ?_
       refine x_seq ?_
       obtain ⟨v_1, hx1_0, hc1⟩ := mapInk_fit ik (inkB ik.Strokes ik.Strokes.length) side (sideB (inkB ik.Strokes ik.Strokes.length)) (okI_mem h1) (by omega) ⟨hbo, hsi, rfl⟩ (fun s hs => by obtain ⟨j, hj, e⟩ := List.getElem_of_mem hs; have h := inkB_has ik.Strokes _ j hj; rw [at_eq hj, e] at h; exact h)
       refine x_reg [(2, .call [(true, .agg [slStroke false ik.Strokes]), (false, .fn 101 [.ptr false [I ((inkB ik.Strokes ik.Strokes.length).X1), I ((inkB ik.Strokes ik.Strokes.length).Y1), I ((inkB ik.Strokes ik.Strokes.length).X2), I ((inkB ik.Strokes ik.Strokes.length).Y2)], .ptr false [I side], .ptr false [I (sideB (inkB ik.Strokes ik.Strokes.length))]])] true (.agg [slStroke true v_1.Strokes]))] [4, 5] [4] [.ref 4 0, I 0] [some (.box [slStroke true v_1.Strokes])] [Con Try.prog 100 [.agg [slStroke false ik.Strokes], .fn 101 [.ptr false [I ((inkB ik.Strokes ik.Strokes.length).X1), I ((inkB ik.Strokes ik.Strokes.length).Y1), I ((inkB ik.Strokes ik.Strokes.length).X2), I ((inkB ik.Strokes ik.Strokes.length).Y2)], .ptr false [I side], .ptr false [I (sideB (inkB ik.Strokes ik.Strokes.length))]]] true (.agg [slStroke true v_1.Strokes]) ∧ ((.agg [slStroke false ik.Strokes] : AV) = .agg [slStroke false ik.Strokes]) ∧ (101 = 101 ∧ ((false = true → true = true) ∧ AV.idsL [I ((inkB ik.Strokes ik.Strokes.length).X1), I ((inkB ik.Strokes ik.Strokes.length).Y1), I ((inkB ik.Strokes ik.Strokes.length).X2), I ((inkB ik.Strokes ik.Strokes.length).Y2)] = [] ∧ (valOf (I ((inkB ik.Strokes ik.Strokes.length).X1)) = valOf (I ((inkB ik.Strokes ik.Strokes.length).X1))) ∧ (valOf (I ((inkB ik.Strokes ik.Strokes.length).Y1)) = valOf (I ((inkB ik.Strokes ik.Strokes.length).Y1))) ∧ (valOf (I ((inkB ik.Strokes ik.Strokes.length).X2)) = valOf (I ((inkB ik.Strokes ik.Strokes.length).X2))) ∧ (valOf (I ((inkB ik.Strokes ik.Strokes.length).Y2)) = valOf (I ((inkB ik.Strokes ik.Strokes.length).Y2))) ∧ ([] : List AV) = []) ∧ ((false = true → true = true) ∧ AV.idsL [I side] = [] ∧ (valOf (I side) = valOf (I side)) ∧ ([] : List AV) = []) ∧ ((false = true → true = true) ∧ AV.idsL [I (sideB (inkB ik.Strokes ik.Strokes.length))] = [] ∧ (valOf (I (sideB (inkB ik.Strokes ik.Strokes.length))) = valOf (I (sideB (inkB ik.Strokes ik.Strokes.length)))) ∧ ([] : List AV) = []) ∧ ([] : List AV) = []) ∧ True] (by kernel_rfl) ⟨⟨hc1, rfl, ⟨rfl, ⟨⟨(fun h => by cases h), rfl, ⟨rfl, ⟨rfl, ⟨rfl, ⟨rfl, rfl⟩⟩⟩⟩⟩, ⟨⟨(fun h => by cases h), rfl, ⟨rfl, rfl⟩⟩, ⟨⟨(fun h => by cases h), rfl, ⟨rfl, rfl⟩⟩, rfl⟩⟩⟩⟩, trivial⟩, trivial⟩ ?_
       refine xe_then ?_
       refine x_ret ?_
       refine xe_end (v_1, 0) (show (v_1 = (fitR ik side).1) ∧ (0 = (fitR ik side).2) ∧ (True) from ⟨(by first | (rw [hst]; done) | (rw [hst, hfin]; done) | (rw [hst]; exact hx1_0)), (by first | (rw [hst]; done) | (rw [hst, hfin]; done) | (rw [hst]; exact hx1_0)), trivial⟩) (trivial) (.tup [.agg [slStroke true v_1.Strokes], I 0]) (by kernel_rfl) (.inl rfl) (fun _ => rfl) (fun _ => (by simp [tagged, taggedL, tagStroke]))
     ·have hst := fitR_rng h1 h2
      refine x_reg [(1, .call [(true, I side), (true, I 1), (true, I 4095)] true (Bv false))] [2, 3, 4, 13] [2, 3, 4] [.ref 2 0, .ref 3 0, .ref 4 0, Bv true] [some (.box [slStroke false ik.Strokes]), some (.box [I side]), some (.box [nilA])] [Con Try.prog 53 [I side, I 1, I 4095] true (Bv false) ∧ ((I side : AV) = I side) ∧ ((I 1 : AV) = I 1) ∧ ((I 4095 : AV) = I 4095) ∧ True] (by kernel_rfl) ⟨⟨(con_bool h2 (within_ok side 1 4095)), rfl, rfl, rfl, trivial⟩, trivial⟩ ?_
      refine xe_then ?_
      refine x_true rfl ?_
      refine x_seq ?_
      refine x_reg [] [4, 5] [4] [.ref 4 0, I 2] [some (.box [nilA])] [] (by kernel_rfl) trivial ?_
      refine xe_then ?_
      refine x_ret ?_
      refine xe_ret_block (xe_ret_then ?_)
      refine xe_end ((Ink.mk ([] : List Stroke)), 2) (show ((Ink.mk ([] : List Stroke)) = (fitR ik side).1) ∧ (2 = (fitR ik side).2) ∧ (True) from ⟨(by first | (rw [hst]; done) | (rw [hst, hfin]; done) | (rw [hst]; exact hx1_0)), (by first | (rw [hst]; done) | (rw [hst, hfin]; done) | (rw [hst]; exact hx1_0)), trivial⟩) (trivial) (.tup [.agg [nilA], I 2]) (by kernel_rfl) (.inr ⟨⟨⟨rfl, rfl⟩, rfl⟩, ⟨rfl, rfl⟩⟩) (fun _ => rfl) (fun _ => (by simp [tagged, taggedL, tagStroke]))
    ·have hst := fitR_inv (n := side) h1
     refine x_reg [(1, .call [(true, .agg [slStroke false ik.Strokes])] true (Bv false))] [2, 3, 4, 8] [2, 3, 4] [.ref 2 0, .ref 3 0, .ref 4 0, Bv true] [some (.box [slStroke false ik.Strokes]), some (.box [I side]), some (.box [nilA])] [Con Try.prog 52 [.agg [slStroke false ik.Strokes]] true (Bv false) ∧ ((.agg [slStroke false ik.Strokes] : AV) = .agg [slStroke false ik.Strokes]) ∧ True] (by kernel_rfl) ⟨⟨(con_bool h1 (ValidInk_ok ik)), rfl, trivial⟩, trivial⟩ ?_
     refine xe_then ?_
     refine x_true rfl ?_
     refine x_seq ?_
     refine x_reg [] [4, 5] [4] [.ref 4 0, I 1] [some (.box [nilA])] [] (by kernel_rfl) trivial ?_
     refine xe_then ?_
     refine x_ret ?_
     refine xe_ret_block (xe_ret_then ?_)
     refine xe_end ((Ink.mk ([] : List Stroke)), 1) (show ((Ink.mk ([] : List Stroke)) = (fitR ik side).1) ∧ (1 = (fitR ik side).2) ∧ (True) from ⟨(by first | (rw [hst]; done) | (rw [hst, hfin]; done) | (rw [hst]; exact hx1_0)), (by first | (rw [hst]; done) | (rw [hst, hfin]; done) | (rw [hst]; exact hx1_0)), trivial⟩) (trivial) (.tup [.agg [nilA], I 1]) (by kernel_rfl) (.inr ⟨⟨⟨rfl, rfl⟩, rfl⟩, ⟨rfl, rfl⟩⟩) (fun _ => rfl) (fun _ => (by simp [tagged, taggedL, tagStroke]))
  obtain ⟨⟨v, c⟩, ⟨hh0, hh1, _⟩, hc⟩ := hh
  exact ⟨v, c, hh0, hh1, hc⟩


-- spec.l00In
theorem l00In_ok (n : Int) (low : Int) (high : Int) : Con Try.prog 57 [I n, I low, I high] true (Bv (inB n low high)) := by
  refine fn_ok (fn := Try.f57) (nt := 15) Try.func57 rfl rfl rfl rfl (by simp [taggedL, tagged]) fun B hB => ?_
  refine aw_seq ?_
  refine aw_reg [] [0, 1, 2] [] [I n, I low, I high] [] [] (by kernel_rfl) hB trivial ?_
  refine ae_then ?_
  refine aw_seq ?_
  by_cases h1 : low ≤ n
  ·refine aw_reg [(2, .dec true)] [6] [] [Bv (decide (n ≤ high))] [] [low ≤ n] (by kernel_rfl) hB ⟨h1, trivial⟩ ?_
   refine ae_then ?_
   refine aw_ret ?_
   refine ae_ret hB (Bv (decide (n ≤ high))) (by kernel_rfl) (.inl (by first | rfl | (refine congrArg Bv ?_; simp [inB, *]; done) | (refine congrArg Bv ?_; simp [inB, *]; omega) | (refine congrArg Bv ?_; simp_all [inB]; done) | (refine congrArg Bv ?_; simp_all [inB]; omega))) rfl (fun _ => trivial)
  ·refine aw_reg [(2, .dec false)] [6] [] [Bv false] [] [¬ (low ≤ n)] (by kernel_rfl) hB ⟨h1, trivial⟩ ?_
   refine ae_then ?_
   refine aw_ret ?_
   refine ae_ret hB (Bv false) (by kernel_rfl) (.inl (by first | rfl | (refine congrArg Bv ?_; simp [inB, *]; done) | (refine congrArg Bv ?_; simp [inB, *]; omega) | (refine congrArg Bv ?_; simp_all [inB]; done) | (refine congrArg Bv ?_; simp_all [inB]; omega))) rfl (fun _ => trivial)


-- spec.l02Point
theorem l02Point_ok (p : Point) : Con Try.prog 174 [agPoint p] true (Bv (okP p)) := by
  refine fn_ok (fn := Try.f174) (nt := 16) Try.func174 rfl rfl rfl rfl (by simp [taggedL, tagged]) fun B hB => ?_
  refine aw_seq ?_
  refine aw_reg [(0, .new 1)] [1] [1] [.ref 1 0] [some (bxPoint p)] [] (by kernel_rfl) hB trivial ?_
  refine ae_then ?_
  refine aw_seq ?_
  rcases Bool.eq_false_or_eq_true (inB p.X 0 4095) with h1 | h1
  ·rcases Bool.eq_false_or_eq_true (inB p.Y 0 4095) with h2 | h2
   ·refine aw_reg [(2, .call [(true, I p.X), (true, I 0), (true, I 4095)] true (Bv true)), (6, .call [(true, I p.Y), (true, I 0), (true, I 4095)] true (Bv true)), (11, .call [(true, I p.T), (true, I 0), (true, I 3600000)] true (Bv (inB p.T 0 3600000)))] [2] [] [Bv (inB p.T 0 3600000)] [] [Con Try.prog 57 [I p.X, I 0, I 4095] true (Bv true) ∧ ((I p.X : AV) = I p.X) ∧ ((I 0 : AV) = I 0) ∧ ((I 4095 : AV) = I 4095) ∧ True, Con Try.prog 57 [I p.Y, I 0, I 4095] true (Bv true) ∧ ((I p.Y : AV) = I p.Y) ∧ ((I 0 : AV) = I 0) ∧ ((I 4095 : AV) = I 4095) ∧ True, Con Try.prog 57 [I p.T, I 0, I 3600000] true (Bv (inB p.T 0 3600000)) ∧ ((I p.T : AV) = I p.T) ∧ ((I 0 : AV) = I 0) ∧ ((I 3600000 : AV) = I 3600000) ∧ True] (by kernel_rfl) hB ⟨⟨(con_bool h1 (l00In_ok p.X 0 4095)), rfl, rfl, rfl, trivial⟩, ⟨(con_bool h2 (l00In_ok p.Y 0 4095)), rfl, rfl, rfl, trivial⟩, ⟨(l00In_ok p.T 0 3600000), rfl, rfl, rfl, trivial⟩, trivial⟩ ?_
    refine ae_then ?_
    refine aw_ret ?_
    refine ae_ret hB (Bv (inB p.T 0 3600000)) (by kernel_rfl) (.inl (by first | rfl | (refine congrArg Bv ?_; simp [okP, *]; done) | (refine congrArg Bv ?_; simp [okP, *]; omega) | (refine congrArg Bv ?_; simp_all [okP]; done) | (refine congrArg Bv ?_; simp_all [okP]; omega))) rfl (fun _ => trivial)
   ·refine aw_reg [(2, .call [(true, I p.X), (true, I 0), (true, I 4095)] true (Bv true)), (6, .call [(true, I p.Y), (true, I 0), (true, I 4095)] true (Bv false))] [2] [] [Bv false] [] [Con Try.prog 57 [I p.X, I 0, I 4095] true (Bv true) ∧ ((I p.X : AV) = I p.X) ∧ ((I 0 : AV) = I 0) ∧ ((I 4095 : AV) = I 4095) ∧ True, Con Try.prog 57 [I p.Y, I 0, I 4095] true (Bv false) ∧ ((I p.Y : AV) = I p.Y) ∧ ((I 0 : AV) = I 0) ∧ ((I 4095 : AV) = I 4095) ∧ True] (by kernel_rfl) hB ⟨⟨(con_bool h1 (l00In_ok p.X 0 4095)), rfl, rfl, rfl, trivial⟩, ⟨(con_bool h2 (l00In_ok p.Y 0 4095)), rfl, rfl, rfl, trivial⟩, trivial⟩ ?_
    refine ae_then ?_
    refine aw_ret ?_
    refine ae_ret hB (Bv false) (by kernel_rfl) (.inl (by first | rfl | (refine congrArg Bv ?_; simp [okP, *]; done) | (refine congrArg Bv ?_; simp [okP, *]; omega) | (refine congrArg Bv ?_; simp_all [okP]; done) | (refine congrArg Bv ?_; simp_all [okP]; omega))) rfl (fun _ => trivial)
  ·refine aw_reg [(2, .call [(true, I p.X), (true, I 0), (true, I 4095)] true (Bv false))] [2] [] [Bv false] [] [Con Try.prog 57 [I p.X, I 0, I 4095] true (Bv false) ∧ ((I p.X : AV) = I p.X) ∧ ((I 0 : AV) = I 0) ∧ ((I 4095 : AV) = I 4095) ∧ True] (by kernel_rfl) hB ⟨⟨(con_bool h1 (l00In_ok p.X 0 4095)), rfl, rfl, rfl, trivial⟩, trivial⟩ ?_
   refine ae_then ?_
   refine aw_ret ?_
   refine ae_ret hB (Bv false) (by kernel_rfl) (.inl (by first | rfl | (refine congrArg Bv ?_; simp [okP, *]; done) | (refine congrArg Bv ?_; simp [okP, *]; omega) | (refine congrArg Bv ?_; simp_all [okP]; done) | (refine congrArg Bv ?_; simp_all [okP]; omega))) rfl (fun _ => trivial)


-- spec.l02Stroke
theorem l02Stroke_ok (s : Stroke) : Con Try.prog 125 [.ptr false [slPoint false s.Points]] true (Bv (okStroke' s)) := by
  refine fn_ok (fn := Try.f125) (nt := 52) Try.func125 rfl rfl rfl rfl (by simp [taggedL, tagged, tagPoint]) fun B hB => ?_
  refine aw_lens (x := .ptr false [slPoint false s.Points]) 0 rfl (fun len_s => ?_)
  simp [LenOK, LenL, cPoint, fPoint, slPoint] at len_s
  refine aw_seq ?_
  refine aw_reg [] [0] [] [.ptr false [slPoint false s.Points]] [] [] (by kernel_rfl) hB trivial ?_
  refine ae_then ?_
  refine aw_seq ?_
  refine aw_seq ?_
  refine aw_reg [] [0, 3] [] [.ptr false [slPoint false s.Points], I 0] [] [] (by kernel_rfl) hB trivial ?_
  refine ae_then ?_
  refine aw_block ?_
  refine aw_loop (fun gn gσ => ∃ (i : Int), gn = ((s.Points.length : Int) - i).toNat ∧ (0 ≤ i ∧ i ≤ (s.Points.length : Int)) ∧ (∀ j : Nat, (j : Int) < i → okPt s.Points j = true) ∧ gσ = mkS [(0, .ptr false [slPoint false s.Points]), (3, I i)] []) (((s.Points.length : Int) - 0).toNat) ⟨0, rfl, (by omega), (by intro j hj; omega), rfl⟩ (fun gn gσ hI => ?_)
  obtain ⟨i, rfl, hi0, hall0, rfl⟩ := hI
  refine aw_seq ?_
  refine aw_seq ?_
  by_cases h1 : i < (s.Points.length : Int)
  ·have hi : i.toNat < s.Points.length := by omega
   refine aw_reg [(6, .dec true)] [0, 3, 10] [] [.ptr false [slPoint false s.Points], I i, Bv true] [] [i < (s.Points.length : Int)] (by kernel_rfl) hB ⟨h1, trivial⟩ ?_
   refine ae_then ?_
   refine aw_true rfl ?_
   refine aw_skip ?_
   refine ae_then ?_
   refine aw_seq ?_
   refine aw_block ?_
   refine aw_seq ?_
   rcases Bool.eq_false_or_eq_true (okP (at_ s.Points i.toNat)) with h2 | h2
   ·by_cases h3 : 0 < i
    ·by_cases h4 : ((at_ s.Points i.toNat).T) ≤ ((at_ s.Points ((i - 1).toNat)).T)
     ·have hall : allN s.Points.length (okPt s.Points) = false := allN_not hi (okPt_no h3 h4)
      refine aw_reg [(7, .call [(true, agPoint (at_ s.Points i.toNat))] true (Bv true)), (11, .dec true), (30, .dec true)] [0, 3, 45] [] [.ptr false [slPoint false s.Points], I i, Bv true] [] [(0 : Int) ≤ i ∧ i < (s.Points.length : Int), Con Try.prog 174 [agPoint (at_ s.Points i.toNat)] true (Bv true) ∧ ((agPoint (at_ s.Points i.toNat) : AV) = agPoint (at_ s.Points i.toNat)) ∧ True, 0 < i, (0 : Int) ≤ i ∧ i < (s.Points.length : Int), inR .i64 (i - 1), (0 : Int) ≤ (i - 1) ∧ (i - 1) < (s.Points.length : Int), ((at_ s.Points i.toNat).T) ≤ ((at_ s.Points ((i - 1).toNat)).T)] (by kernel_rfl) hB ⟨⟨(by omega), (by omega)⟩, ⟨(con_bool h2 (l02Point_ok (at_ s.Points i.toNat))), rfl, trivial⟩, h3, ⟨(by omega), (by omega)⟩, (inR_i64 (by omega) (by omega)), ⟨(by omega), (by omega)⟩, h4, trivial⟩ ?_
      refine ae_then ?_
      refine aw_true rfl ?_
      refine aw_seq ?_
      refine aw_reg [] [2] [] [Bv false] [] [] (by kernel_rfl) hB trivial ?_
      refine ae_then ?_
      refine aw_ret ?_
      refine ae_ret_block (ae_ret_then (ae_ret_then (ae_ret_block (ae_ret_then ?_))))
      refine ae_ret hB (Bv false) (by kernel_rfl) (.inl (by first | rfl | (refine congrArg Bv ?_; simp [okStroke', inB, *]; done) | (refine congrArg Bv ?_; simp [okStroke', inB, *]; omega) | (refine congrArg Bv ?_; simp_all [okStroke', inB]; done) | (refine congrArg Bv ?_; simp_all [okStroke', inB]; omega))) rfl (fun _ => trivial)
     ·have hok := okPt_yes h2 h3 h4
      refine aw_reg [(7, .call [(true, agPoint (at_ s.Points i.toNat))] true (Bv true)), (11, .dec true), (30, .dec false)] [0, 3, 45] [] [.ptr false [slPoint false s.Points], I i, Bv false] [] [(0 : Int) ≤ i ∧ i < (s.Points.length : Int), Con Try.prog 174 [agPoint (at_ s.Points i.toNat)] true (Bv true) ∧ ((agPoint (at_ s.Points i.toNat) : AV) = agPoint (at_ s.Points i.toNat)) ∧ True, 0 < i, (0 : Int) ≤ i ∧ i < (s.Points.length : Int), inR .i64 (i - 1), (0 : Int) ≤ (i - 1) ∧ (i - 1) < (s.Points.length : Int), ¬ (((at_ s.Points i.toNat).T) ≤ ((at_ s.Points ((i - 1).toNat)).T))] (by kernel_rfl) hB ⟨⟨(by omega), (by omega)⟩, ⟨(con_bool h2 (l02Point_ok (at_ s.Points i.toNat))), rfl, trivial⟩, h3, ⟨(by omega), (by omega)⟩, (inR_i64 (by omega) (by omega)), ⟨(by omega), (by omega)⟩, h4, trivial⟩ ?_
      refine ae_then ?_
      refine aw_false rfl ?_
      refine aw_skip ?_
      refine ae_block 1 ?_
      refine ae_then ?_
      refine aw_reg [] [0, 3] [] [.ptr false [slPoint false s.Points], I (i + 1)] [] [inR .i64 (i + 1)] (by kernel_rfl) hB ⟨(inR_i64 (by omega) (by omega)), trivial⟩ ?_
      exact ae_again _ (by omega) ⟨(i + 1), rfl, (by omega), (by intro j hj; by_cases ej : j = i.toNat; (subst ej; first | assumption | exact hok); exact hall0 j (by omega)), rfl⟩
    ·have hok := okPt_zero h2 hi0.1 h3
     refine aw_reg [(7, .call [(true, agPoint (at_ s.Points i.toNat))] true (Bv true)), (11, .dec false)] [0, 3, 45] [] [.ptr false [slPoint false s.Points], I i, Bv false] [] [(0 : Int) ≤ i ∧ i < (s.Points.length : Int), Con Try.prog 174 [agPoint (at_ s.Points i.toNat)] true (Bv true) ∧ ((agPoint (at_ s.Points i.toNat) : AV) = agPoint (at_ s.Points i.toNat)) ∧ True, ¬ (0 < i)] (by kernel_rfl) hB ⟨⟨(by omega), (by omega)⟩, ⟨(con_bool h2 (l02Point_ok (at_ s.Points i.toNat))), rfl, trivial⟩, h3, trivial⟩ ?_
     refine ae_then ?_
     refine aw_false rfl ?_
     refine aw_skip ?_
     refine ae_block 1 ?_
     refine ae_then ?_
     refine aw_reg [] [0, 3] [] [.ptr false [slPoint false s.Points], I (i + 1)] [] [inR .i64 (i + 1)] (by kernel_rfl) hB ⟨(inR_i64 (by omega) (by omega)), trivial⟩ ?_
     exact ae_again _ (by omega) ⟨(i + 1), rfl, (by omega), (by intro j hj; by_cases ej : j = i.toNat; (subst ej; first | assumption | exact hok); exact hall0 j (by omega)), rfl⟩
   ·have hall : allN s.Points.length (okPt s.Points) = false := allN_not hi (okPt_bad h2)
    refine aw_reg [(7, .call [(true, agPoint (at_ s.Points i.toNat))] true (Bv false))] [0, 3, 45] [] [.ptr false [slPoint false s.Points], I i, Bv true] [] [(0 : Int) ≤ i ∧ i < (s.Points.length : Int), Con Try.prog 174 [agPoint (at_ s.Points i.toNat)] true (Bv false) ∧ ((agPoint (at_ s.Points i.toNat) : AV) = agPoint (at_ s.Points i.toNat)) ∧ True] (by kernel_rfl) hB ⟨⟨(by omega), (by omega)⟩, ⟨(con_bool h2 (l02Point_ok (at_ s.Points i.toNat))), rfl, trivial⟩, trivial⟩ ?_
    refine ae_then ?_
    refine aw_true rfl ?_
    refine aw_seq ?_
    refine aw_reg [] [2] [] [Bv false] [] [] (by kernel_rfl) hB trivial ?_
    refine ae_then ?_
    refine aw_ret ?_
    refine ae_ret_block (ae_ret_then (ae_ret_then (ae_ret_block (ae_ret_then ?_))))
    refine ae_ret hB (Bv false) (by kernel_rfl) (.inl (by first | rfl | (refine congrArg Bv ?_; simp [okStroke', inB, *]; done) | (refine congrArg Bv ?_; simp [okStroke', inB, *]; omega) | (refine congrArg Bv ?_; simp_all [okStroke', inB]; done) | (refine congrArg Bv ?_; simp_all [okStroke', inB]; omega))) rfl (fun _ => trivial)
  ·have hall : allN s.Points.length (okPt s.Points) = true := allN_at (fun j hj => hall0 j (by omega))
   refine aw_reg [(6, .dec false)] [0, 3, 10] [] [.ptr false [slPoint false s.Points], I i, Bv false] [] [¬ (i < (s.Points.length : Int))] (by kernel_rfl) hB ⟨h1, trivial⟩ ?_
   refine ae_then ?_
   refine aw_false rfl ?_
   refine aw_exit ?_
   refine ae_exit_then ?_
   refine ae_exit_then ?_
   refine ae_exit_same ?_
   refine ae_then ?_
   refine aw_seq ?_
   refine aw_reg [(5, .call [(true, I (s.Points.length : Int)), (true, I 1), (true, I 60)] true (Bv (inB (s.Points.length : Int) 1 60)))] [2] [] [Bv (inB (s.Points.length : Int) 1 60)] [] [Con Try.prog 57 [I (s.Points.length : Int), I 1, I 60] true (Bv (inB (s.Points.length : Int) 1 60)) ∧ ((I (s.Points.length : Int) : AV) = I (s.Points.length : Int)) ∧ ((I 1 : AV) = I 1) ∧ ((I 60 : AV) = I 60) ∧ True] (by kernel_rfl) hB ⟨⟨(l00In_ok (s.Points.length : Int) 1 60), rfl, rfl, rfl, trivial⟩, trivial⟩ ?_
   refine ae_then ?_
   refine aw_ret ?_
   refine ae_ret hB (Bv (inB (s.Points.length : Int) 1 60)) (by kernel_rfl) (.inl (by first | rfl | (refine congrArg Bv ?_; simp [okStroke', inB, *]; done) | (refine congrArg Bv ?_; simp [okStroke', inB, *]; omega) | (refine congrArg Bv ?_; simp_all [okStroke', inB]; done) | (refine congrArg Bv ?_; simp_all [okStroke', inB]; omega))) rfl (fun _ => trivial)


-- spec.l02Ok
theorem l02Ok_ok (x : Ink) : Con Try.prog 56 [.ptr false [slStroke false x.Strokes]] true (Bv (okInk' x)) := by
  refine fn_ok (fn := Try.f56) (nt := 53) Try.func56 rfl rfl rfl rfl (by simp [taggedL, tagged, tagStroke]) fun B hB => ?_
  refine aw_lens (x := .ptr false [slStroke false x.Strokes]) 0 rfl (fun len_x => ?_)
  simp [LenOK, LenL, cPoint, cStroke, fPoint, fStroke, slPoint, slStroke] at len_x
  refine aw_seq ?_
  refine aw_reg [] [0] [] [.ptr false [slStroke false x.Strokes]] [] [] (by kernel_rfl) hB trivial ?_
  refine ae_then ?_
  refine aw_seq ?_
  refine aw_seq ?_
  refine aw_reg [] [0, 3] [] [.ptr false [slStroke false x.Strokes], I 0] [] [] (by kernel_rfl) hB trivial ?_
  refine ae_then ?_
  refine aw_block ?_
  refine aw_loop (fun gn gσ => ∃ (i : Int), gn = ((x.Strokes.length : Int) - i).toNat ∧ (0 ≤ i ∧ i ≤ (x.Strokes.length : Int)) ∧ (∀ j : Nat, (j : Int) < i → okSA x.Strokes j = true) ∧ gσ = mkS [(0, .ptr false [slStroke false x.Strokes]), (3, I i)] []) (((x.Strokes.length : Int) - 0).toNat) ⟨0, rfl, (by omega), (by intro j hj; omega), rfl⟩ (fun gn gσ hI => ?_)
  obtain ⟨i, rfl, hi0, hall0, rfl⟩ := hI
  refine aw_seq ?_
  refine aw_seq ?_
  by_cases h1 : i < (x.Strokes.length : Int)
  ·have hi : i.toNat < x.Strokes.length := by omega
   refine aw_reg [(6, .dec true)] [0, 3, 10] [] [.ptr false [slStroke false x.Strokes], I i, Bv true] [] [i < (x.Strokes.length : Int)] (by kernel_rfl) hB ⟨h1, trivial⟩ ?_
   refine ae_then ?_
   refine aw_true rfl ?_
   refine aw_skip ?_
   refine ae_then ?_
   refine aw_seq ?_
   refine aw_block ?_
   refine aw_seq ?_
   rcases Bool.eq_false_or_eq_true (okStroke' (at_ x.Strokes i.toNat)) with h2 | h2
   ·have hln := okS_len h2
    by_cases h3 : 0 < i
    ·have hpr := okS_len (okSA_ok (hall0 (i - 1).toNat (by omega)))
     by_cases h4 : ((at_ ((at_ x.Strokes i.toNat).Points) 0).T) ≤ ((at_ (at_ x.Strokes ((i - 1).toNat)).Points ((at_ x.Strokes ((i - 1).toNat)).Points.length - 1)).T)
     ·have hall : allN x.Strokes.length (okSA x.Strokes) = false := allN_not hi (okSA_no h3 h4)
      refine aw_reg [(6, .call [(true, .ptr false [slPoint false ((at_ x.Strokes i.toNat).Points)])] true (Bv true)), (10, .dec true), (30, .call [(true, .ptr false [slPoint false ((at_ x.Strokes ((i - 1).toNat)).Points)])] true (I ((at_ (at_ x.Strokes ((i - 1).toNat)).Points ((at_ x.Strokes ((i - 1).toNat)).Points.length - 1)).T))), (31, .dec true)] [0, 3, 46] [] [.ptr false [slStroke false x.Strokes], I i, Bv true] [] [(0 : Int) ≤ i ∧ i < (x.Strokes.length : Int), Con Try.prog 125 [.ptr false [slPoint false ((at_ x.Strokes i.toNat).Points)]] true (Bv true) ∧ ((.ptr false [slPoint false ((at_ x.Strokes i.toNat).Points)] : AV) = .ptr false [slPoint false ((at_ x.Strokes i.toNat).Points)]) ∧ True, 0 < i, (0 : Int) ≤ i ∧ i < (x.Strokes.length : Int), (0 : Int) ≤ 0 ∧ 0 < ((((at_ x.Strokes i.toNat).Points).length) : Int), inR .i64 (i - 1), (0 : Int) ≤ (i - 1) ∧ (i - 1) < (x.Strokes.length : Int), Con Try.prog 126 [.ptr false [slPoint false ((at_ x.Strokes ((i - 1).toNat)).Points)]] true (I ((at_ (at_ x.Strokes ((i - 1).toNat)).Points ((at_ x.Strokes ((i - 1).toNat)).Points.length - 1)).T)) ∧ ((.ptr false [slPoint false ((at_ x.Strokes ((i - 1).toNat)).Points)] : AV) = .ptr false [slPoint false ((at_ x.Strokes ((i - 1).toNat)).Points)]) ∧ True, ((at_ ((at_ x.Strokes i.toNat).Points) 0).T) ≤ ((at_ (at_ x.Strokes ((i - 1).toNat)).Points ((at_ x.Strokes ((i - 1).toNat)).Points.length - 1)).T)] (by kernel_rfl) hB ⟨⟨(by omega), (by omega)⟩, ⟨(con_bool h2 (l02Stroke_ok (at_ x.Strokes i.toNat))), rfl, trivial⟩, h3, ⟨(by omega), (by omega)⟩, ⟨(by omega), (by omega)⟩, (inR_i64 (by omega) (by omega)), ⟨(by omega), (by omega)⟩, ⟨(l02Last_ok (at_ x.Strokes ((i - 1).toNat)) (by omega)), rfl, trivial⟩, h4, trivial⟩ ?_
      refine ae_then ?_
      refine aw_true rfl ?_
      refine aw_seq ?_
      refine aw_reg [] [2] [] [Bv false] [] [] (by kernel_rfl) hB trivial ?_
      refine ae_then ?_
      refine aw_ret ?_
      refine ae_ret_block (ae_ret_then (ae_ret_then (ae_ret_block (ae_ret_then ?_))))
      refine ae_ret hB (Bv false) (by kernel_rfl) (.inl (by first | rfl | (refine congrArg Bv ?_; simp [okInk', *]; done) | (refine congrArg Bv ?_; simp [okInk', *]; omega) | (refine congrArg Bv ?_; simp_all [okInk']; done) | (refine congrArg Bv ?_; simp_all [okInk']; omega))) rfl (fun _ => trivial)
     ·have hok := okSA_yes h2 h3 h4
      refine aw_reg [(6, .call [(true, .ptr false [slPoint false ((at_ x.Strokes i.toNat).Points)])] true (Bv true)), (10, .dec true), (30, .call [(true, .ptr false [slPoint false ((at_ x.Strokes ((i - 1).toNat)).Points)])] true (I ((at_ (at_ x.Strokes ((i - 1).toNat)).Points ((at_ x.Strokes ((i - 1).toNat)).Points.length - 1)).T))), (31, .dec false)] [0, 3, 46] [] [.ptr false [slStroke false x.Strokes], I i, Bv false] [] [(0 : Int) ≤ i ∧ i < (x.Strokes.length : Int), Con Try.prog 125 [.ptr false [slPoint false ((at_ x.Strokes i.toNat).Points)]] true (Bv true) ∧ ((.ptr false [slPoint false ((at_ x.Strokes i.toNat).Points)] : AV) = .ptr false [slPoint false ((at_ x.Strokes i.toNat).Points)]) ∧ True, 0 < i, (0 : Int) ≤ i ∧ i < (x.Strokes.length : Int), (0 : Int) ≤ 0 ∧ 0 < ((((at_ x.Strokes i.toNat).Points).length) : Int), inR .i64 (i - 1), (0 : Int) ≤ (i - 1) ∧ (i - 1) < (x.Strokes.length : Int), Con Try.prog 126 [.ptr false [slPoint false ((at_ x.Strokes ((i - 1).toNat)).Points)]] true (I ((at_ (at_ x.Strokes ((i - 1).toNat)).Points ((at_ x.Strokes ((i - 1).toNat)).Points.length - 1)).T)) ∧ ((.ptr false [slPoint false ((at_ x.Strokes ((i - 1).toNat)).Points)] : AV) = .ptr false [slPoint false ((at_ x.Strokes ((i - 1).toNat)).Points)]) ∧ True, ¬ (((at_ ((at_ x.Strokes i.toNat).Points) 0).T) ≤ ((at_ (at_ x.Strokes ((i - 1).toNat)).Points ((at_ x.Strokes ((i - 1).toNat)).Points.length - 1)).T))] (by kernel_rfl) hB ⟨⟨(by omega), (by omega)⟩, ⟨(con_bool h2 (l02Stroke_ok (at_ x.Strokes i.toNat))), rfl, trivial⟩, h3, ⟨(by omega), (by omega)⟩, ⟨(by omega), (by omega)⟩, (inR_i64 (by omega) (by omega)), ⟨(by omega), (by omega)⟩, ⟨(l02Last_ok (at_ x.Strokes ((i - 1).toNat)) (by omega)), rfl, trivial⟩, h4, trivial⟩ ?_
      refine ae_then ?_
      refine aw_false rfl ?_
      refine aw_skip ?_
      refine ae_block 1 ?_
      refine ae_then ?_
      refine aw_reg [] [0, 3] [] [.ptr false [slStroke false x.Strokes], I (i + 1)] [] [inR .i64 (i + 1)] (by kernel_rfl) hB ⟨(inR_i64 (by omega) (by omega)), trivial⟩ ?_
      exact ae_again _ (by omega) ⟨(i + 1), rfl, (by omega), (by intro j hj; by_cases ej : j = i.toNat; (subst ej; first | assumption | exact hok); exact hall0 j (by omega)), rfl⟩
    ·have hok := okSA_zero h2 hi0.1 h3
     refine aw_reg [(6, .call [(true, .ptr false [slPoint false ((at_ x.Strokes i.toNat).Points)])] true (Bv true)), (10, .dec false)] [0, 3, 46] [] [.ptr false [slStroke false x.Strokes], I i, Bv false] [] [(0 : Int) ≤ i ∧ i < (x.Strokes.length : Int), Con Try.prog 125 [.ptr false [slPoint false ((at_ x.Strokes i.toNat).Points)]] true (Bv true) ∧ ((.ptr false [slPoint false ((at_ x.Strokes i.toNat).Points)] : AV) = .ptr false [slPoint false ((at_ x.Strokes i.toNat).Points)]) ∧ True, ¬ (0 < i)] (by kernel_rfl) hB ⟨⟨(by omega), (by omega)⟩, ⟨(con_bool h2 (l02Stroke_ok (at_ x.Strokes i.toNat))), rfl, trivial⟩, h3, trivial⟩ ?_
     refine ae_then ?_
     refine aw_false rfl ?_
     refine aw_skip ?_
     refine ae_block 1 ?_
     refine ae_then ?_
     refine aw_reg [] [0, 3] [] [.ptr false [slStroke false x.Strokes], I (i + 1)] [] [inR .i64 (i + 1)] (by kernel_rfl) hB ⟨(inR_i64 (by omega) (by omega)), trivial⟩ ?_
     exact ae_again _ (by omega) ⟨(i + 1), rfl, (by omega), (by intro j hj; by_cases ej : j = i.toNat; (subst ej; first | assumption | exact hok); exact hall0 j (by omega)), rfl⟩
   ·have hall : allN x.Strokes.length (okSA x.Strokes) = false := allN_not hi (okSA_bad (by simpa using h2))
    refine aw_reg [(6, .call [(true, .ptr false [slPoint false ((at_ x.Strokes i.toNat).Points)])] true (Bv false))] [0, 3, 46] [] [.ptr false [slStroke false x.Strokes], I i, Bv true] [] [(0 : Int) ≤ i ∧ i < (x.Strokes.length : Int), Con Try.prog 125 [.ptr false [slPoint false ((at_ x.Strokes i.toNat).Points)]] true (Bv false) ∧ ((.ptr false [slPoint false ((at_ x.Strokes i.toNat).Points)] : AV) = .ptr false [slPoint false ((at_ x.Strokes i.toNat).Points)]) ∧ True] (by kernel_rfl) hB ⟨⟨(by omega), (by omega)⟩, ⟨(con_bool h2 (l02Stroke_ok (at_ x.Strokes i.toNat))), rfl, trivial⟩, trivial⟩ ?_
    refine ae_then ?_
    refine aw_true rfl ?_
    refine aw_seq ?_
    refine aw_reg [] [2] [] [Bv false] [] [] (by kernel_rfl) hB trivial ?_
    refine ae_then ?_
    refine aw_ret ?_
    refine ae_ret_block (ae_ret_then (ae_ret_then (ae_ret_block (ae_ret_then ?_))))
    refine ae_ret hB (Bv false) (by kernel_rfl) (.inl (by first | rfl | (refine congrArg Bv ?_; simp [okInk', *]; done) | (refine congrArg Bv ?_; simp [okInk', *]; omega) | (refine congrArg Bv ?_; simp_all [okInk']; done) | (refine congrArg Bv ?_; simp_all [okInk']; omega))) rfl (fun _ => trivial)
  ·have hall : allN x.Strokes.length (okSA x.Strokes) = true := allN_at (fun j hj => hall0 j (by omega))
   refine aw_reg [(6, .dec false)] [0, 3, 10] [] [.ptr false [slStroke false x.Strokes], I i, Bv false] [] [¬ (i < (x.Strokes.length : Int))] (by kernel_rfl) hB ⟨h1, trivial⟩ ?_
   refine ae_then ?_
   refine aw_false rfl ?_
   refine aw_exit ?_
   refine ae_exit_then ?_
   refine ae_exit_then ?_
   refine ae_exit_same ?_
   refine ae_then ?_
   refine aw_seq ?_
   refine aw_reg [] [2] [] [Bv (decide ((x.Strokes.length : Int) ≤ 16))] [] [] (by kernel_rfl) hB trivial ?_
   refine ae_then ?_
   refine aw_ret ?_
   refine ae_ret hB (Bv (decide ((x.Strokes.length : Int) ≤ 16))) (by kernel_rfl) (.inl (by first | rfl | (refine congrArg Bv ?_; simp [okInk', *]; done) | (refine congrArg Bv ?_; simp [okInk', *]; omega) | (refine congrArg Bv ?_; simp_all [okInk']; done) | (refine congrArg Bv ?_; simp_all [okInk']; omega))) rfl (fun _ => trivial)


-- spec.l02Join
theorem l02Join_ok (a : Box) (b : Box) : Con Try.prog 164 [agBox a, agBox b] true (agBox (joinB a b)) := by
  refine fn_ok (fn := Try.f164) (nt := 26) Try.func164 rfl rfl rfl rfl (by simp [taggedL, tagged]) fun B hB => ?_
  refine aw_seq ?_
  refine aw_reg [(0, .new 2), (1, .new 3), (2, .new 4)] [2, 3, 4] [2, 3, 4] [.ref 2 0, .ref 3 0, .ref 4 0] [some (bxBox a), some (bxBox b), some (.box [I 0, I 0, I 0, I 0])] [] (by kernel_rfl) hB trivial ?_
  refine ae_then ?_
  refine aw_seq ?_
  refine aw_reg [(4, .call [(true, I a.X1), (true, I b.X1)] true (I (min a.X1 b.X1))), (9, .call [(true, I a.Y1), (true, I b.Y1)] true (I (min a.Y1 b.Y1))), (14, .call [(true, I a.X2), (true, I b.X2)] true (I (max a.X2 b.X2))), (19, .call [(true, I a.Y2), (true, I b.Y2)] true (I (max a.Y2 b.Y2)))] [4] [4] [.ref 4 0] [some (.box [I (min a.X1 b.X1), I (min a.Y1 b.Y1), I (max a.X2 b.X2), I (max a.Y2 b.Y2)])] [Con Try.prog 145 [I a.X1, I b.X1] true (I (min a.X1 b.X1)) ∧ ((I a.X1 : AV) = I a.X1) ∧ ((I b.X1 : AV) = I b.X1) ∧ True, Con Try.prog 145 [I a.Y1, I b.Y1] true (I (min a.Y1 b.Y1)) ∧ ((I a.Y1 : AV) = I a.Y1) ∧ ((I b.Y1 : AV) = I b.Y1) ∧ True, Con Try.prog 79 [I a.X2, I b.X2] true (I (max a.X2 b.X2)) ∧ ((I a.X2 : AV) = I a.X2) ∧ ((I b.X2 : AV) = I b.X2) ∧ True, Con Try.prog 79 [I a.Y2, I b.Y2] true (I (max a.Y2 b.Y2)) ∧ ((I a.Y2 : AV) = I a.Y2) ∧ ((I b.Y2 : AV) = I b.Y2) ∧ True] (by kernel_rfl) hB ⟨⟨(l00Min_ok a.X1 b.X1), rfl, rfl, trivial⟩, ⟨(l00Min_ok a.Y1 b.Y1), rfl, rfl, trivial⟩, ⟨(l00Max_ok a.X2 b.X2), rfl, rfl, trivial⟩, ⟨(l00Max_ok a.Y2 b.Y2), rfl, rfl, trivial⟩, trivial⟩ ?_
  refine ae_then ?_
  refine aw_ret ?_
  refine ae_ret hB (.agg [I (min a.X1 b.X1), I (min a.Y1 b.Y1), I (max a.X2 b.X2), I (max a.Y2 b.Y2)]) (by kernel_rfl) (.inl (by first | rfl | (refine congrArg Bv ?_; simp [*]; done) | (refine congrArg Bv ?_; simp [*]; omega) | (refine congrArg Bv ?_; simp_all []; done) | (refine congrArg Bv ?_; simp_all []; omega))) rfl (fun _ => (by simp [tagged, taggedL]))


-- spec.l02BoxOf
theorem l02BoxOf_ok (s : Stroke) (ok : okStroke' s = true) : Con Try.prog 109 [.ptr false [slPoint false s.Points]] true (agBox (boxS s.Points s.Points.length)) := by
  have hln := okS_len ok
  refine fn_ok (fn := Try.f109) (nt := 50) Try.func109 rfl rfl rfl rfl (by simp [taggedL, tagged, tagPoint]) fun B hB => ?_
  refine aw_lens (x := .ptr false [slPoint false s.Points]) 0 rfl (fun len_s => ?_)
  simp [LenOK, LenL, cPoint, fPoint, slPoint] at len_s
  refine aw_seq ?_
  refine aw_reg [(0, .new 2)] [0, 2] [2] [.ptr false [slPoint false s.Points], .ref 2 0] [some (.box [I 0, I 0, I 0, I 0])] [] (by kernel_rfl) hB trivial ?_
  refine ae_then ?_
  refine aw_seq ?_
  refine aw_reg [(6, .new 3)] [0, 2, 3] [2, 3] [.ptr false [slPoint false s.Points], .ref 2 0, .ref 3 0] [some (.box [I 0, I 0, I 0, I 0]), some (bxPoint (at_ s.Points 0))] [(0 : Int) ≤ 0 ∧ 0 < (s.Points.length : Int)] (by kernel_rfl) hB ⟨⟨(by omega), (by omega)⟩, trivial⟩ ?_
  refine ae_then ?_
  refine aw_seq ?_
  refine aw_reg [(9, .new 4)] [0, 2, 4] [2, 4] [.ptr false [slPoint false s.Points], .ref 2 0, .ref 4 0] [some (.box [I 0, I 0, I 0, I 0]), some (.box [I ((at_ s.Points 0).X), I ((at_ s.Points 0).Y), I ((at_ s.Points 0).X), I ((at_ s.Points 0).Y)])] [] (by kernel_rfl) hB trivial ?_
  refine ae_then ?_
  refine aw_seq ?_
  refine aw_seq ?_
  refine aw_reg [] [0, 2, 4, 5] [2, 4] [.ptr false [slPoint false s.Points], .ref 2 0, .ref 4 0, I 1] [some (.box [I 0, I 0, I 0, I 0]), some (.box [I ((at_ s.Points 0).X), I ((at_ s.Points 0).Y), I ((at_ s.Points 0).X), I ((at_ s.Points 0).Y)])] [] (by kernel_rfl) hB trivial ?_
  refine ae_then ?_
  refine aw_block ?_
  refine aw_loop (fun gn gσ => ∃ (i : Int) (x1 : Int) (y1 : Int) (x2 : Int) (y2 : Int), gn = ((s.Points.length : Int) - i).toNat ∧ (1 ≤ i ∧ i ≤ (s.Points.length : Int)) ∧ (Box.mk x1 y1 x2 y2 = boxS s.Points i.toNat) ∧ gσ = mkS [(0, .ptr false [slPoint false s.Points]), (2, .ref 2 0), (4, .ref 4 0), (5, I i)] [(2, .box [I 0, I 0, I 0, I 0]), (4, .box [I x1, I y1, I x2, I y2])]) (((s.Points.length : Int) - 1).toNat) ⟨1, (at_ s.Points 0).X, (at_ s.Points 0).Y, (at_ s.Points 0).X, (at_ s.Points 0).Y, rfl, (by omega), (by first | rfl | exact (boxS_one _).symm), rfl⟩ (fun gn gσ hI => ?_)
  obtain ⟨i, x1, y1, x2, y2, rfl, hi0, hb1, rfl⟩ := hI
  refine aw_seq ?_
  refine aw_seq ?_
  by_cases h1 : i < (s.Points.length : Int)
  ·have hi : i.toNat < s.Points.length := by omega
   refine aw_reg [(6, .dec true)] [0, 2, 4, 5, 28] [2, 4] [.ptr false [slPoint false s.Points], .ref 2 0, .ref 4 0, I i, Bv true] [some (.box [I 0, I 0, I 0, I 0]), some (.box [I x1, I y1, I x2, I y2])] [i < (s.Points.length : Int)] (by kernel_rfl) hB ⟨h1, trivial⟩ ?_
   refine ae_then ?_
   refine aw_true rfl ?_
   refine aw_skip ?_
   refine ae_then ?_
   refine aw_seq ?_
   refine aw_block ?_
   refine aw_seq ?_
   refine aw_reg [(7, .new 6)] [0, 2, 4, 5, 6] [2, 4, 6] [.ptr false [slPoint false s.Points], .ref 2 0, .ref 4 0, I i, .ref 6 0] [some (.box [I 0, I 0, I 0, I 0]), some (.box [I x1, I y1, I x2, I y2]), some (bxPoint (at_ s.Points i.toNat))] [(0 : Int) ≤ i ∧ i < (s.Points.length : Int)] (by kernel_rfl) hB ⟨⟨(by omega), (by omega)⟩, trivial⟩ ?_
   refine ae_then ?_
   refine aw_reg [(10, .call [(true, .agg [I x1, I y1, I x2, I y2]), (true, .agg [I ((at_ s.Points i.toNat).X), I ((at_ s.Points i.toNat).Y), I ((at_ s.Points i.toNat).X), I ((at_ s.Points i.toNat).Y)])] true (agBox (joinB (Box.mk x1 y1 x2 y2) (Box.mk ((at_ s.Points i.toNat).X) ((at_ s.Points i.toNat).Y) ((at_ s.Points i.toNat).X) ((at_ s.Points i.toNat).Y)))))] [0, 2, 4, 5] [2, 4] [.ptr false [slPoint false s.Points], .ref 2 0, .ref 4 0, I i] [some (.box [I 0, I 0, I 0, I 0]), some (bxBox (joinB (Box.mk x1 y1 x2 y2) (Box.mk ((at_ s.Points i.toNat).X) ((at_ s.Points i.toNat).Y) ((at_ s.Points i.toNat).X) ((at_ s.Points i.toNat).Y))))] [Con Try.prog 164 [.agg [I x1, I y1, I x2, I y2], .agg [I ((at_ s.Points i.toNat).X), I ((at_ s.Points i.toNat).Y), I ((at_ s.Points i.toNat).X), I ((at_ s.Points i.toNat).Y)]] true (agBox (joinB (Box.mk x1 y1 x2 y2) (Box.mk ((at_ s.Points i.toNat).X) ((at_ s.Points i.toNat).Y) ((at_ s.Points i.toNat).X) ((at_ s.Points i.toNat).Y)))) ∧ ((.agg [I x1, I y1, I x2, I y2] : AV) = .agg [I x1, I y1, I x2, I y2]) ∧ ((.agg [I ((at_ s.Points i.toNat).X), I ((at_ s.Points i.toNat).Y), I ((at_ s.Points i.toNat).X), I ((at_ s.Points i.toNat).Y)] : AV) = .agg [I ((at_ s.Points i.toNat).X), I ((at_ s.Points i.toNat).Y), I ((at_ s.Points i.toNat).X), I ((at_ s.Points i.toNat).Y)]) ∧ True] (by kernel_rfl) hB ⟨⟨(l02Join_ok (Box.mk x1 y1 x2 y2) (Box.mk ((at_ s.Points i.toNat).X) ((at_ s.Points i.toNat).Y) ((at_ s.Points i.toNat).X) ((at_ s.Points i.toNat).Y))), rfl, rfl, trivial⟩, trivial⟩ ?_
   refine ae_block 1 ?_
   refine ae_then ?_
   refine aw_reg [] [0, 2, 4, 5] [2, 4] [.ptr false [slPoint false s.Points], .ref 2 0, .ref 4 0, I (i + 1)] [some (.box [I 0, I 0, I 0, I 0]), some (bxBox (joinB (Box.mk x1 y1 x2 y2) (Box.mk ((at_ s.Points i.toNat).X) ((at_ s.Points i.toNat).Y) ((at_ s.Points i.toNat).X) ((at_ s.Points i.toNat).Y))))] [inR .i64 (i + 1)] (by kernel_rfl) hB ⟨(inR_i64 (by omega) (by omega)), trivial⟩ ?_
   refine ae_weak hB [] (T := [(0, .ptr false [slPoint false s.Points]), (2, .ref 2 0), (4, .ref 4 0), (5, I (i + 1))]) (O := [(2, .box [I 0, I 0, I 0, I 0]), (4, .box [I ((joinB (Box.mk x1 y1 x2 y2) (Box.mk ((at_ s.Points i.toNat).X) ((at_ s.Points i.toNat).Y) ((at_ s.Points i.toNat).X) ((at_ s.Points i.toNat).Y))).X1), I ((joinB (Box.mk x1 y1 x2 y2) (Box.mk ((at_ s.Points i.toNat).X) ((at_ s.Points i.toNat).Y) ((at_ s.Points i.toNat).X) ((at_ s.Points i.toNat).Y))).Y1), I ((joinB (Box.mk x1 y1 x2 y2) (Box.mk ((at_ s.Points i.toNat).X) ((at_ s.Points i.toNat).Y) ((at_ s.Points i.toNat).X) ((at_ s.Points i.toNat).Y))).X2), I ((joinB (Box.mk x1 y1 x2 y2) (Box.mk ((at_ s.Points i.toNat).X) ((at_ s.Points i.toNat).Y) ((at_ s.Points i.toNat).X) ((at_ s.Points i.toNat).Y))).Y2)])]) rfl (⟨.inl rfl, .inl rfl, .inl rfl, .inl rfl, trivial⟩) (⟨.inl rfl, .inr ⟨rfl, ⟨rfl, ⟨rfl, ⟨rfl, rfl⟩⟩⟩⟩, trivial⟩) (ae_again _ (by omega) ⟨(i + 1), (joinB (Box.mk x1 y1 x2 y2) (Box.mk ((at_ s.Points i.toNat).X) ((at_ s.Points i.toNat).Y) ((at_ s.Points i.toNat).X) ((at_ s.Points i.toNat).Y))).X1, (joinB (Box.mk x1 y1 x2 y2) (Box.mk ((at_ s.Points i.toNat).X) ((at_ s.Points i.toNat).Y) ((at_ s.Points i.toNat).X) ((at_ s.Points i.toNat).Y))).Y1, (joinB (Box.mk x1 y1 x2 y2) (Box.mk ((at_ s.Points i.toNat).X) ((at_ s.Points i.toNat).Y) ((at_ s.Points i.toNat).X) ((at_ s.Points i.toNat).Y))).X2, (joinB (Box.mk x1 y1 x2 y2) (Box.mk ((at_ s.Points i.toNat).X) ((at_ s.Points i.toNat).Y) ((at_ s.Points i.toNat).X) ((at_ s.Points i.toNat).Y))).Y2, rfl, (by omega), (by rw [boxS_succ (by omega), ← hb1]; rfl), rfl⟩)
  ·have hie : i.toNat = s.Points.length := by omega
   rw [hie] at hb1
   refine aw_reg [(6, .dec false)] [0, 2, 4, 5, 28] [2, 4] [.ptr false [slPoint false s.Points], .ref 2 0, .ref 4 0, I i, Bv false] [some (.box [I 0, I 0, I 0, I 0]), some (.box [I x1, I y1, I x2, I y2])] [¬ (i < (s.Points.length : Int))] (by kernel_rfl) hB ⟨h1, trivial⟩ ?_
   refine ae_then ?_
   refine aw_false rfl ?_
   refine aw_exit ?_
   refine ae_exit_then ?_
   refine ae_exit_then ?_
   refine ae_exit_same ?_
   refine ae_then ?_
   refine aw_seq ?_
   refine aw_reg [] [2] [2] [.ref 2 0] [some (.box [I x1, I y1, I x2, I y2])] [] (by kernel_rfl) hB trivial ?_
   refine ae_then ?_
   refine aw_ret ?_
   refine ae_ret hB (.agg [I x1, I y1, I x2, I y2]) (by kernel_rfl) (.inl (by rw [← hb1])) rfl (fun _ => (by simp [tagged, taggedL]))


-- spec.l02All
theorem l02All_ok (ik : Ink) (ok : okInk' ik = true) (h0 : 1 ≤ ik.Strokes.length) : Con Try.prog 103 [.ptr false [slStroke false ik.Strokes]] true (agBox (inkB ik.Strokes ik.Strokes.length)) := by
  refine fn_ok (fn := Try.f103) (nt := 30) Try.func103 rfl rfl rfl rfl (by simp [taggedL, tagged, tagStroke]) fun B hB => ?_
  refine aw_lens (x := .ptr false [slStroke false ik.Strokes]) 0 rfl (fun len_ik => ?_)
  simp [LenOK, LenL, cPoint, cStroke, fPoint, fStroke, slPoint, slStroke] at len_ik
  refine aw_seq ?_
  refine aw_reg [(0, .new 2)] [0, 2] [2] [.ptr false [slStroke false ik.Strokes], .ref 2 0] [some (.box [I 0, I 0, I 0, I 0])] [] (by kernel_rfl) hB trivial ?_
  refine ae_then ?_
  refine aw_seq ?_
  refine aw_reg [(5, .call [(true, .ptr false [slPoint false ((at_ ik.Strokes 0).Points)])] true (agBox (boxS (at_ ik.Strokes 0).Points (at_ ik.Strokes 0).Points.length))), (6, .new 3)] [0, 2, 3] [2, 3] [.ptr false [slStroke false ik.Strokes], .ref 2 0, .ref 3 0] [some (.box [I 0, I 0, I 0, I 0]), some (bxBox (boxS (at_ ik.Strokes 0).Points (at_ ik.Strokes 0).Points.length))] [(0 : Int) ≤ 0 ∧ 0 < (ik.Strokes.length : Int), Con Try.prog 109 [.ptr false [slPoint false ((at_ ik.Strokes 0).Points)]] true (agBox (boxS (at_ ik.Strokes 0).Points (at_ ik.Strokes 0).Points.length)) ∧ ((.ptr false [slPoint false ((at_ ik.Strokes 0).Points)] : AV) = .ptr false [slPoint false ((at_ ik.Strokes 0).Points)]) ∧ True] (by kernel_rfl) hB ⟨⟨(by omega), (by omega)⟩, ⟨(l02BoxOf_ok (at_ ik.Strokes 0) (okI_all ok _ (by omega))), rfl, trivial⟩, trivial⟩ ?_
  refine ae_then ?_
  refine aw_seq ?_
  refine aw_seq ?_
  refine aw_reg [] [0, 2, 3, 4] [2, 3] [.ptr false [slStroke false ik.Strokes], .ref 2 0, .ref 3 0, I 1] [some (.box [I 0, I 0, I 0, I 0]), some (bxBox (boxS (at_ ik.Strokes 0).Points (at_ ik.Strokes 0).Points.length))] [] (by kernel_rfl) hB trivial ?_
  refine ae_then ?_
  refine aw_block ?_
  refine aw_weak hB [] (T := [(0, .ptr false [slStroke false ik.Strokes]), (2, .ref 2 0), (3, .ref 3 0), (4, I 1)]) (O := [(2, .box [I 0, I 0, I 0, I 0]), (3, .box [I ((boxS (at_ ik.Strokes 0).Points (at_ ik.Strokes 0).Points.length).X1), I ((boxS (at_ ik.Strokes 0).Points (at_ ik.Strokes 0).Points.length).Y1), I ((boxS (at_ ik.Strokes 0).Points (at_ ik.Strokes 0).Points.length).X2), I ((boxS (at_ ik.Strokes 0).Points (at_ ik.Strokes 0).Points.length).Y2)])]) rfl (⟨.inl rfl, .inl rfl, .inl rfl, .inl rfl, trivial⟩) (⟨.inl rfl, .inr ⟨rfl, ⟨rfl, ⟨rfl, ⟨rfl, rfl⟩⟩⟩⟩, trivial⟩) ?_
  refine aw_loop (fun gn gσ => ∃ (i : Int) (x1 : Int) (y1 : Int) (x2 : Int) (y2 : Int), gn = ((ik.Strokes.length : Int) - i).toNat ∧ (1 ≤ i ∧ i ≤ (ik.Strokes.length : Int)) ∧ (Box.mk x1 y1 x2 y2 = inkB ik.Strokes i.toNat) ∧ gσ = mkS [(0, .ptr false [slStroke false ik.Strokes]), (2, .ref 2 0), (3, .ref 3 0), (4, I i)] [(2, .box [I 0, I 0, I 0, I 0]), (3, .box [I x1, I y1, I x2, I y2])]) (((ik.Strokes.length : Int) - 1).toNat) ⟨1, (boxS (at_ ik.Strokes 0).Points (at_ ik.Strokes 0).Points.length).X1, (boxS (at_ ik.Strokes 0).Points (at_ ik.Strokes 0).Points.length).Y1, (boxS (at_ ik.Strokes 0).Points (at_ ik.Strokes 0).Points.length).X2, (boxS (at_ ik.Strokes 0).Points (at_ ik.Strokes 0).Points.length).Y2, rfl, (by omega), (by first | rfl | exact (inkB_one _).symm), rfl⟩ (fun gn gσ hI => ?_)
  obtain ⟨i, x1, y1, x2, y2, rfl, hi0, hb1, rfl⟩ := hI
  refine aw_seq ?_
  refine aw_seq ?_
  by_cases h1 : i < (ik.Strokes.length : Int)
  ·have hi : i.toNat < ik.Strokes.length := by omega
   refine aw_reg [(6, .dec true)] [0, 2, 3, 4, 17] [2, 3] [.ptr false [slStroke false ik.Strokes], .ref 2 0, .ref 3 0, I i, Bv true] [some (.box [I 0, I 0, I 0, I 0]), some (.box [I x1, I y1, I x2, I y2])] [i < (ik.Strokes.length : Int)] (by kernel_rfl) hB ⟨h1, trivial⟩ ?_
   refine ae_then ?_
   refine aw_true rfl ?_
   refine aw_skip ?_
   refine ae_then ?_
   refine aw_seq ?_
   refine aw_block ?_
   refine aw_reg [(7, .call [(true, .ptr false [slPoint false ((at_ ik.Strokes i.toNat).Points)])] true (agBox (boxS (at_ ik.Strokes i.toNat).Points (at_ ik.Strokes i.toNat).Points.length))), (8, .call [(true, .agg [I x1, I y1, I x2, I y2]), (true, agBox (boxS (at_ ik.Strokes i.toNat).Points (at_ ik.Strokes i.toNat).Points.length))] true (agBox (joinB (Box.mk x1 y1 x2 y2) (boxS (at_ ik.Strokes i.toNat).Points (at_ ik.Strokes i.toNat).Points.length))))] [0, 2, 3, 4] [2, 3] [.ptr false [slStroke false ik.Strokes], .ref 2 0, .ref 3 0, I i] [some (.box [I 0, I 0, I 0, I 0]), some (bxBox (joinB (Box.mk x1 y1 x2 y2) (boxS (at_ ik.Strokes i.toNat).Points (at_ ik.Strokes i.toNat).Points.length)))] [(0 : Int) ≤ i ∧ i < (ik.Strokes.length : Int), Con Try.prog 109 [.ptr false [slPoint false ((at_ ik.Strokes i.toNat).Points)]] true (agBox (boxS (at_ ik.Strokes i.toNat).Points (at_ ik.Strokes i.toNat).Points.length)) ∧ ((.ptr false [slPoint false ((at_ ik.Strokes i.toNat).Points)] : AV) = .ptr false [slPoint false ((at_ ik.Strokes i.toNat).Points)]) ∧ True, Con Try.prog 164 [.agg [I x1, I y1, I x2, I y2], agBox (boxS (at_ ik.Strokes i.toNat).Points (at_ ik.Strokes i.toNat).Points.length)] true (agBox (joinB (Box.mk x1 y1 x2 y2) (boxS (at_ ik.Strokes i.toNat).Points (at_ ik.Strokes i.toNat).Points.length))) ∧ ((.agg [I x1, I y1, I x2, I y2] : AV) = .agg [I x1, I y1, I x2, I y2]) ∧ ((agBox (boxS (at_ ik.Strokes i.toNat).Points (at_ ik.Strokes i.toNat).Points.length) : AV) = agBox (boxS (at_ ik.Strokes i.toNat).Points (at_ ik.Strokes i.toNat).Points.length)) ∧ True] (by kernel_rfl) hB ⟨⟨(by omega), (by omega)⟩, ⟨(l02BoxOf_ok (at_ ik.Strokes i.toNat) (okI_all ok _ (by omega))), rfl, trivial⟩, ⟨(l02Join_ok (Box.mk x1 y1 x2 y2) (boxS (at_ ik.Strokes i.toNat).Points (at_ ik.Strokes i.toNat).Points.length)), rfl, rfl, trivial⟩, trivial⟩ ?_
   refine ae_block 1 ?_
   refine ae_then ?_
   refine aw_reg [] [0, 2, 3, 4] [2, 3] [.ptr false [slStroke false ik.Strokes], .ref 2 0, .ref 3 0, I (i + 1)] [some (.box [I 0, I 0, I 0, I 0]), some (bxBox (joinB (Box.mk x1 y1 x2 y2) (boxS (at_ ik.Strokes i.toNat).Points (at_ ik.Strokes i.toNat).Points.length)))] [inR .i64 (i + 1)] (by kernel_rfl) hB ⟨(inR_i64 (by omega) (by omega)), trivial⟩ ?_
   refine ae_weak hB [] (T := [(0, .ptr false [slStroke false ik.Strokes]), (2, .ref 2 0), (3, .ref 3 0), (4, I (i + 1))]) (O := [(2, .box [I 0, I 0, I 0, I 0]), (3, .box [I ((joinB (Box.mk x1 y1 x2 y2) (boxS (at_ ik.Strokes i.toNat).Points (at_ ik.Strokes i.toNat).Points.length)).X1), I ((joinB (Box.mk x1 y1 x2 y2) (boxS (at_ ik.Strokes i.toNat).Points (at_ ik.Strokes i.toNat).Points.length)).Y1), I ((joinB (Box.mk x1 y1 x2 y2) (boxS (at_ ik.Strokes i.toNat).Points (at_ ik.Strokes i.toNat).Points.length)).X2), I ((joinB (Box.mk x1 y1 x2 y2) (boxS (at_ ik.Strokes i.toNat).Points (at_ ik.Strokes i.toNat).Points.length)).Y2)])]) rfl (⟨.inl rfl, .inl rfl, .inl rfl, .inl rfl, trivial⟩) (⟨.inl rfl, .inr ⟨rfl, ⟨rfl, ⟨rfl, ⟨rfl, rfl⟩⟩⟩⟩, trivial⟩) (ae_again _ (by omega) ⟨(i + 1), (joinB (Box.mk x1 y1 x2 y2) (boxS (at_ ik.Strokes i.toNat).Points (at_ ik.Strokes i.toNat).Points.length)).X1, (joinB (Box.mk x1 y1 x2 y2) (boxS (at_ ik.Strokes i.toNat).Points (at_ ik.Strokes i.toNat).Points.length)).Y1, (joinB (Box.mk x1 y1 x2 y2) (boxS (at_ ik.Strokes i.toNat).Points (at_ ik.Strokes i.toNat).Points.length)).X2, (joinB (Box.mk x1 y1 x2 y2) (boxS (at_ ik.Strokes i.toNat).Points (at_ ik.Strokes i.toNat).Points.length)).Y2, rfl, (by omega), (by rw [inkB_succ (by omega), ← hb1]; rfl), rfl⟩)
  ·have hie : i.toNat = ik.Strokes.length := by omega
   rw [hie] at hb1
   refine aw_reg [(6, .dec false)] [0, 2, 3, 4, 17] [2, 3] [.ptr false [slStroke false ik.Strokes], .ref 2 0, .ref 3 0, I i, Bv false] [some (.box [I 0, I 0, I 0, I 0]), some (.box [I x1, I y1, I x2, I y2])] [¬ (i < (ik.Strokes.length : Int))] (by kernel_rfl) hB ⟨h1, trivial⟩ ?_
   refine ae_then ?_
   refine aw_false rfl ?_
   refine aw_exit ?_
   refine ae_exit_then ?_
   refine ae_exit_then ?_
   refine ae_exit_same ?_
   refine ae_then ?_
   refine aw_seq ?_
   refine aw_reg [] [2] [2] [.ref 2 0] [some (.box [I x1, I y1, I x2, I y2])] [] (by kernel_rfl) hB trivial ?_
   refine ae_then ?_
   refine aw_ret ?_
   refine ae_ret hB (.agg [I x1, I y1, I x2, I y2]) (by kernel_rfl) (.inl (by rw [← hb1])) rfl (fun _ => (by simp [tagged, taggedL]))


-- spec.l07Side
theorem l07Side_ok (b : Box) (hb : okBox b) : Con Try.prog 104 [agBox b] true (I (sideB b)) := by
  unfold okBox at hb
  refine fn_ok (fn := Try.f104) (nt := 15) Try.func104 rfl rfl rfl rfl (by simp [taggedL, tagged]) fun B hB => ?_
  refine aw_seq ?_
  refine aw_reg [(0, .new 1)] [1] [1] [.ref 1 0] [some (bxBox b)] [] (by kernel_rfl) hB trivial ?_
  refine ae_then ?_
  refine aw_seq ?_
  refine aw_reg [(10, .call [(true, I (b.X2 - b.X1)), (true, I (b.Y2 - b.Y1))] true (I (max (b.X2 - b.X1) (b.Y2 - b.Y1)))), (11, .call [(true, I 1), (true, I (max (b.X2 - b.X1) (b.Y2 - b.Y1)))] true (I (max 1 (max (b.X2 - b.X1) (b.Y2 - b.Y1)))))] [2] [] [I (max 1 (max (b.X2 - b.X1) (b.Y2 - b.Y1)))] [] [inR .i64 (b.X2 - b.X1), inR .i64 (b.Y2 - b.Y1), Con Try.prog 79 [I (b.X2 - b.X1), I (b.Y2 - b.Y1)] true (I (max (b.X2 - b.X1) (b.Y2 - b.Y1))) ∧ ((I (b.X2 - b.X1) : AV) = I (b.X2 - b.X1)) ∧ ((I (b.Y2 - b.Y1) : AV) = I (b.Y2 - b.Y1)) ∧ True, Con Try.prog 79 [I 1, I (max (b.X2 - b.X1) (b.Y2 - b.Y1))] true (I (max 1 (max (b.X2 - b.X1) (b.Y2 - b.Y1)))) ∧ ((I 1 : AV) = I 1) ∧ ((I (max (b.X2 - b.X1) (b.Y2 - b.Y1)) : AV) = I (max (b.X2 - b.X1) (b.Y2 - b.Y1))) ∧ True] (by kernel_rfl) hB ⟨(inR_i64 (by omega) (by omega)), (inR_i64 (by omega) (by omega)), ⟨(l00Max_ok (b.X2 - b.X1) (b.Y2 - b.Y1)), rfl, rfl, trivial⟩, ⟨(l00Max_ok 1 (max (b.X2 - b.X1) (b.Y2 - b.Y1))), rfl, rfl, trivial⟩, trivial⟩ ?_
  refine ae_then ?_
  refine aw_ret ?_
  refine ae_ret hB (I (max 1 (max (b.X2 - b.X1) (b.Y2 - b.Y1)))) (by kernel_rfl) (.inl (by refine congrArg I ?_; unfold sideB; omega)) rfl (fun _ => trivial)


-- spec.l02OwnStroke
theorem l02OwnStroke_ok (s : Stroke) (hl : s.Points.length ≤ 100000) : ∃ (pts : List Point), (pts = s.Points) ∧ CallOK Try.prog 165 [.ptr false [slPoint false s.Points]] (lookO []) false (.agg [.arr 8041]) (lookO [(8041, .arr 3 pts.length (fPoint pts))]) := by
  have hh : ∃ r : (List Point), ((r = s.Points) ∧ (True)) ∧ CallOK Try.prog 165 [.ptr false [slPoint false s.Points]] (lookO []) false (.agg [.arr 8041]) (lookO [(8041, .arr 3 r.length (fPoint r))]) := by
    refine fn_okX (Φ := fun r : (List Point) => (r = s.Points) ∧ (True)) [] (fun r => [(8041, .arr 3 r.length (fPoint r))]) (fn := Try.f165) (nt := 10) Try.func165 rfl rfl (args := [.ptr false [slPoint false s.Points]]) rfl (allcons (.inl ⟨rfl, by simp [tagged, taggedL, tagPoint]⟩) allnil) (res := fun r => .agg [.arr 8041]) ?_
    refine x_seq ?_
    refine x_reg [(0, .new 2)] [0, 2] [2] [.ptr false [slPoint false s.Points], .ref 2 0] [some (.box [nilA])] [] (by kernel_rfl) trivial ?_
    refine xe_then ?_
    refine x_seq ?_
    refine x_reg [(0, .new 3), (5, .new 8)] [2] [2, 8] [.ref 2 0] [some (.box [.arr 8]), some (.arr 3 (0 + s.Points.length) (catF 0 (litF [] 3) (fPoint s.Points)))] [(0 + s.Points.length) * 24 ≤ 140737488355328] (by kernel_rfl) ⟨(by omega), trivial⟩ ?_
    refine xe_then ?_
    refine x_ret ?_
    refine xe_weak [(8041, 8)] (T := [(2, .ref 2 0)]) (O := [(2, .box [.arr 8041]), (8041, .arr 3 ((([] : List Point) ++ s.Points).length) (fPoint (([] : List Point) ++ s.Points)))]) rfl (⟨.inl rfl, trivial⟩) (⟨.inl rfl, .inr ⟨rfl, (by first | rfl | (simp; done) | (simp; omega) | omega), fun i_ hi_ => .inl (by first | rfl | fail)⟩, trivial⟩) ?_
    refine xe_end (([] : List Point) ++ s.Points) (show ((([] : List Point) ++ s.Points) = s.Points) ∧ (True) from ⟨(by first | rfl | simp), trivial⟩) (⟨.inl rfl, trivial⟩) (.agg [.arr 8041]) (by kernel_rfl) (.inl rfl) (fun h => by cases h) (fun h => by cases h)
  obtain ⟨pts, ⟨hh0, _⟩, hc⟩ := hh
  exact ⟨pts, hh0, hc⟩


theorem take_succ_at {α : Type} [Inhabited α] {xs : List α} {i : Int} {y : α} (h0 : 0 ≤ i) (h : i.toNat < xs.length) (hy : y = at_ xs i.toNat) : xs.take (i + 1).toNat = xs.take i.toNat ++ [y] := by
  have e : (i + 1).toNat = i.toNat + 1 := by omega
  rw [e, List.take_succ_eq_append_getElem h, hy]
  simp [at_, h]

-- spec.l02Own
theorem l02Own_ok (ik : Ink) (hx : ∀ s ∈ ik.Strokes, s.Points.length ≤ 100000) (hl : ik.Strokes.length ≤ 100000) : ∃ (ss : List Stroke), (ss = ik.Strokes) ∧ CallOK Try.prog 105 [.ptr false [slStroke false ik.Strokes]] (lookO []) false (.agg [.arr 8031]) (lookO [(8031, .oar [8032] 1 ss.length (oStroke 8032 ss)), (8032, .fam ss.length 3 (mStroke ss) (gStroke ss))]) := by
  have hh : ∃ r : (List Stroke), ((r = ik.Strokes) ∧ (True)) ∧ CallOK Try.prog 105 [.ptr false [slStroke false ik.Strokes]] (lookO []) false (.agg [.arr 8031]) (lookO [(8031, .oar [8032] 1 r.length (oStroke 8032 r)), (8032, .fam r.length 3 (mStroke r) (gStroke r))]) := by
    refine fn_okX (Φ := fun r : (List Stroke) => (r = ik.Strokes) ∧ (True)) [] (fun r => [(8031, .oar [8032] 1 r.length (oStroke 8032 r)), (8032, .fam r.length 3 (mStroke r) (gStroke r))]) (fn := Try.f105) (nt := 28) Try.func105 rfl rfl (args := [.ptr false [slStroke false ik.Strokes]]) rfl (allcons (.inl ⟨rfl, by simp [tagged, taggedL, tagStroke]⟩) allnil) (res := fun r => .agg [.arr 8031]) ?_
    refine x_seq ?_
    refine x_reg [(0, .new 2)] [0, 2] [2] [.ptr false [slStroke false ik.Strokes], .ref 2 0] [some (.box [nilA])] [] (by kernel_rfl) trivial ?_
    refine xe_then ?_
    refine x_seq ?_
    refine x_reg [(1, .new 3)] [0, 2, 3] [2, 3] [.ptr false [slStroke false ik.Strokes], .ref 2 0, .ref 3 0] [some (.box [nilA]), some (.box [nilA])] [] (by kernel_rfl) trivial ?_
    refine xe_then ?_
    refine x_seq ?_
    refine x_seq ?_
    refine x_reg [] [0, 2, 3, 4] [2, 3] [.ptr false [slStroke false ik.Strokes], .ref 2 0, .ref 3 0, I 0] [some (.box [nilA]), some (.box [nilA])] [] (by kernel_rfl) trivial ?_
    refine xe_then ?_
    refine x_block ?_
    refine x_nilC 3 0 730 1 (fun _ => []) rfl (by kernel_rfl) ?_
    refine x_fam 8032 3 (fun _ => 0) (fun _ _ => []) (by kernel_rfl) ?_
    refine x_weak [] (T := [(0, .ptr false [slStroke false ik.Strokes]), (2, .ref 2 0), (3, .ref 3 0), (4, I 0)]) (O := [(2, .box [nilA]), (3, .box [.arr 730]), (730, .oar [8032] 1 (([] : List Stroke).length) (oStroke 8032 ([] : List Stroke))), (8032, .fam ([] : List Stroke).length 3 (mStroke ([] : List Stroke)) (gStroke ([] : List Stroke)))]) rfl (⟨.inl rfl, .inl rfl, .inl rfl, .inl rfl, trivial⟩) (⟨.inl rfl, .inl rfl, .inr ⟨rfl, rfl, fun i hi => absurd hi (Nat.not_lt_zero _)⟩, .inr ⟨rfl, rfl, fun p hp => absurd hp (Nat.not_lt_zero _)⟩, trivial⟩) ?_
    refine x_loop (X := Int × (List Stroke)) (fun x => mkS [(0, .ptr false [slStroke false ik.Strokes]), (2, .ref 2 0), (3, .ref 3 0), (4, I x.1)] [(2, .box [nilA]), (3, .box [.arr 730]), (730, .oar [8032] 1 x.2.length (oStroke 8032 x.2)), (8032, .fam x.2.length 3 (mStroke x.2) (gStroke x.2))]) (fun x => (0 ≤ x.1 ∧ x.1 ≤ (ik.Strokes.length : Int)) ∧ ((x.2.length : Int) = x.1) ∧ (x.2 = ik.Strokes.take x.1.toNat) ∧ True) (fun x => ((ik.Strokes.length : Int) - x.1).toNat) (0, ([] : List Stroke)) rfl (show (0 ≤ (0 : Int) ∧ (0 : Int) ≤ (ik.Strokes.length : Int)) ∧ ((([] : List Stroke).length : Int) = (0 : Int)) ∧ (([] : List Stroke) = ik.Strokes.take (0 : Int).toNat) ∧ True from ⟨(by omega), (by rfl), (by rfl), trivial⟩) (fun x hI => ?_)
    obtain ⟨i, ss⟩ := x
    obtain ⟨hi0, hl0, hs0, _⟩ : (0 ≤ i ∧ i ≤ (ik.Strokes.length : Int)) ∧ ((ss.length : Int) = i) ∧ (ss = ik.Strokes.take i.toNat) ∧ True := hI
    show XW _ _ _ _ (mkS [(0, .ptr false [slStroke false ik.Strokes]), (2, .ref 2 0), (3, .ref 3 0), (4, I i)] [(2, .box [nilA]), (3, .box [.arr 730]), (730, .oar [8032] 1 ss.length (oStroke 8032 ss)), (8032, .fam ss.length 3 (mStroke ss) (gStroke ss))]) _ _
    refine x_seq ?_
    refine x_seq ?_
    by_cases h1 : i < (ik.Strokes.length : Int)
    ·refine x_reg [(6, .dec true)] [0, 2, 3, 4, 12] [2, 3, 730, 8032] [.ptr false [slStroke false ik.Strokes], .ref 2 0, .ref 3 0, I i, Bv true] [some (.box [nilA]), some (.box [.arr 730]), some (.oar [8032] 1 ss.length (oStroke 8032 ss)), some (.fam ss.length 3 (mStroke ss) (gStroke ss))] [i < (ik.Strokes.length : Int)] (by kernel_rfl) ⟨h1, trivial⟩ ?_
     refine xe_then ?_
     refine x_true rfl ?_
     refine x_skip ?_
     refine xe_then ?_
     refine x_seq ?_
     refine x_block ?_
     obtain ⟨pts_1, hx1_0, hc1⟩ := l02OwnStroke_ok (at_ ik.Strokes i.toNat) (hx _ (at_mem (by omega)))
     refine x_reg [(8, .lend [] [(8041, .arr 3 pts_1.length (fPoint pts_1))] [(true, .ptr false [slPoint false ((at_ ik.Strokes i.toNat).Points)])] false (.agg [.arr 8041])), (9, .new 24), (10, .new 25)] [0, 2, 3, 4] [2, 3, 25, 8032, 8041] [.ptr false [slStroke false ik.Strokes], .ref 2 0, .ref 3 0, I i] [some (.box [nilA]), some (.box [.arr 25]), some (.oar [8032, 8041] 1 (ss.length + 1) (catF ss.length (oStroke 8032 ss) (litF [.arr 8041] 1))), some (.fam ss.length 3 (mStroke ss) (gStroke ss)), some (.arr 3 pts_1.length (fPoint pts_1))] [(0 : Int) ≤ i ∧ i < (ik.Strokes.length : Int), CallOK Try.prog 165 [.ptr false [slPoint false ((at_ ik.Strokes i.toNat).Points)]] (lookO []) false (.agg [.arr 8041]) (lookO [(8041, .arr 3 pts_1.length (fPoint pts_1))]) ∧ ((.ptr false [slPoint false ((at_ ik.Strokes i.toNat).Points)] : AV) = .ptr false [slPoint false ((at_ ik.Strokes i.toNat).Points)]) ∧ True, (ss.length + 1) * 24 ≤ 140737488355328] (by kernel_rfl) ⟨⟨(by omega), (by omega)⟩, ⟨hc1, rfl, trivial⟩, (by omega), trivial⟩ ?_
     refine xe_block 1 ?_
     refine xe_then ?_
     refine x_reg [] [0, 2, 3, 4] [2, 3, 25, 8032, 8041] [.ptr false [slStroke false ik.Strokes], .ref 2 0, .ref 3 0, I (i + 1)] [some (.box [nilA]), some (.box [.arr 25]), some (.oar [8032, 8041] 1 (ss.length + 1) (catF ss.length (oStroke 8032 ss) (litF [.arr 8041] 1))), some (.fam ss.length 3 (mStroke ss) (gStroke ss)), some (.arr 3 pts_1.length (fPoint pts_1))] [inR .i64 (i + 1)] (by kernel_rfl) ⟨(inR_i64 (by omega) (by omega)), trivial⟩ ?_
     refine xe_join 8041 8032 rfl rfl rfl ?_
     refine xe_weak [(730, 25)] (T := [(0, .ptr false [slStroke false ik.Strokes]), (2, .ref 2 0), (3, .ref 3 0), (4, I (i + 1))]) (O := [(2, .box [nilA]), (3, .box [.arr 730]), (730, .oar [8032] 1 ((ss ++ [(Stroke.mk pts_1)]).length) (oStroke 8032 (ss ++ [(Stroke.mk pts_1)]))), (8032, .fam (ss ++ [(Stroke.mk pts_1)]).length 3 (mStroke (ss ++ [(Stroke.mk pts_1)])) (gStroke (ss ++ [(Stroke.mk pts_1)])))]) rfl (⟨.inl rfl, .inl rfl, .inl rfl, .inl rfl, trivial⟩) (⟨.inl rfl, .inl rfl, .inr ⟨rfl, rfl, (by simp), fun i hi => .inl (ocatStroke rfl rfl rfl i hi)⟩, .inr (fcatStroke (Stroke.mk pts_1) (by first | rfl | (simp; done)) (fun i_ hi_ => (by first | rfl | fail))), trivial⟩) (xe_again ((i + 1), (ss ++ [(Stroke.mk pts_1)])) rfl (show (0 ≤ (i + 1) ∧ (i + 1) ≤ (ik.Strokes.length : Int)) ∧ (((ss ++ [(Stroke.mk pts_1)]).length : Int) = (i + 1)) ∧ ((ss ++ [(Stroke.mk pts_1)]) = ik.Strokes.take (i + 1).toNat) ∧ True from ⟨(by omega), (by simp; omega), (by rw [hs0]; exact (take_succ_at (by omega) (by omega) (by first | rfl | assumption | (simp only [*]; done))).symm), trivial⟩) (by show (((ik.Strokes.length : Int) - (i + 1)).toNat : Nat) < ((ik.Strokes.length : Int) - i).toNat; omega))
    ·refine x_reg [(6, .dec false)] [0, 2, 3, 4, 12] [2, 3, 730, 8032] [.ptr false [slStroke false ik.Strokes], .ref 2 0, .ref 3 0, I i, Bv false] [some (.box [nilA]), some (.box [.arr 730]), some (.oar [8032] 1 ss.length (oStroke 8032 ss)), some (.fam ss.length 3 (mStroke ss) (gStroke ss))] [¬ (i < (ik.Strokes.length : Int))] (by kernel_rfl) ⟨h1, trivial⟩ ?_
     refine xe_then ?_
     refine x_false rfl ?_
     refine x_exit ?_
     refine xe_exit_then ?_
     refine xe_loop_exit ?_
     refine xe_exit_same ?_
     refine xe_then ?_
     refine x_seq ?_
     refine x_reg [] [2] [2, 730, 8032] [.ref 2 0] [some (.box [.arr 730]), some (.oar [8032] 1 ss.length (oStroke 8032 ss)), some (.fam ss.length 3 (mStroke ss) (gStroke ss))] [] (by kernel_rfl) trivial ?_
     refine xe_then ?_
     refine x_ret ?_
     refine xe_weak [(8031, 730)] (T := [(2, .ref 2 0)]) (O := [(2, .box [.arr 8031]), (8031, .oar [8032] 1 ss.length (oStroke 8032 ss)), (8032, .fam ss.length 3 (mStroke ss) (gStroke ss))]) rfl (⟨.inl rfl, trivial⟩) (⟨.inl rfl, .inl rfl, .inl rfl, trivial⟩) ?_
     refine xe_end ss (show (ss = ik.Strokes) ∧ (True) from ⟨(by rw [hs0]; exact List.take_of_length_le (by omega)), trivial⟩) (⟨.inl rfl, .inl rfl, trivial⟩) (.agg [.arr 8031]) (by kernel_rfl) (.inl rfl) (fun h => by cases h) (fun h => by cases h)
  obtain ⟨ss, ⟨hh0, _⟩, hc⟩ := hh
  exact ⟨ss, hh0, hc⟩


-- spec.l05Down
theorem l05Down_ok (n : Int) (d : Int) (hn : (-4611686018427387904 ≤ n ∧ n ≤ 4611686018427387904) ∧ 0 < d) : Con Try.prog 166 [I n, I d] true (I (n / d)) := by
  have hq := tdiv_bd n d
  have hs := down_spec n hn.2
  refine fn_ok (fn := Try.f166) (nt := 16) Try.func166 rfl rfl rfl rfl (by simp [taggedL, tagged]) fun B hB => ?_
  refine aw_seq ?_
  refine aw_reg [] [0, 1] [] [I n, I d] [] [] (by kernel_rfl) hB trivial ?_
  refine ae_then ?_
  refine aw_seq ?_
  refine aw_reg [] [0, 1, 5] [] [I n, I d, I (Int.tdiv n d)] [] [(d : Int) ≠ 0 ∧ inR .i64 (Int.tdiv n d)] (by kernel_rfl) hB ⟨⟨by omega, (inR_i64 (by omega) (by omega))⟩, trivial⟩ ?_
  refine ae_then ?_
  refine aw_seq ?_
  refine aw_seq ?_
  by_cases h1 : (Int.tmod n d) < 0
  ·refine aw_reg [(3, .dec true)] [5, 12] [] [I (Int.tdiv n d), Bv true] [] [(d : Int) ≠ 0, (Int.tmod n d) < 0] (by kernel_rfl) hB ⟨(by omega), h1, trivial⟩ ?_
   refine ae_then ?_
   refine aw_true rfl ?_
   refine aw_reg [] [5] [] [I ((Int.tdiv n d) - 1)] [] [inR .i64 ((Int.tdiv n d) - 1)] (by kernel_rfl) hB ⟨(inR_i64 (by omega) (by omega)), trivial⟩ ?_
   refine ae_then ?_
   refine aw_seq ?_
   refine aw_reg [] [4] [] [I ((Int.tdiv n d) - 1)] [] [] (by kernel_rfl) hB trivial ?_
   refine ae_then ?_
   refine aw_ret ?_
   refine ae_ret hB (I ((Int.tdiv n d) - 1)) (by kernel_rfl) (.inl (by refine congrArg I ?_; first | exact hs.1 (by assumption) | exact hs.2 (by assumption))) rfl (fun _ => trivial)
  ·refine aw_reg [(3, .dec false)] [5, 12] [] [I (Int.tdiv n d), Bv false] [] [(d : Int) ≠ 0, ¬ ((Int.tmod n d) < 0)] (by kernel_rfl) hB ⟨(by omega), h1, trivial⟩ ?_
   refine ae_then ?_
   refine aw_false rfl ?_
   refine aw_skip ?_
   refine ae_then ?_
   refine aw_seq ?_
   refine aw_reg [] [4] [] [I (Int.tdiv n d)] [] [] (by kernel_rfl) hB trivial ?_
   refine ae_then ?_
   refine aw_ret ?_
   refine ae_ret hB (I (Int.tdiv n d)) (by kernel_rfl) (.inl (by refine congrArg I ?_; first | exact hs.1 (by assumption) | exact hs.2 (by assumption))) rfl (fun _ => trivial)


-- spec.l05Near
theorem l05Near_ok (n : Int) (d : Int) (hn : (-1000000000000000000 ≤ n ∧ n ≤ 1000000000000000000) ∧ 0 < d ∧ d ≤ 1000000000000000000) : Con Try.prog 106 [I n, I d] true (I (nearI n d)) := by
  refine fn_ok (fn := Try.f106) (nt := 12) Try.func106 rfl rfl rfl rfl (by simp [taggedL, tagged]) fun B hB => ?_
  refine aw_seq ?_
  refine aw_reg [] [0, 1] [] [I n, I d] [] [] (by kernel_rfl) hB trivial ?_
  refine ae_then ?_
  refine aw_seq ?_
  refine aw_reg [(6, .call [(true, I ((2 * n) + d)), (true, I (2 * d))] true (I (((2 * n) + d) / (2 * d))))] [4] [] [I (((2 * n) + d) / (2 * d))] [] [inR .i64 (2 * n), inR .i64 ((2 * n) + d), inR .i64 (2 * d), Con Try.prog 166 [I ((2 * n) + d), I (2 * d)] true (I (((2 * n) + d) / (2 * d))) ∧ ((I ((2 * n) + d) : AV) = I ((2 * n) + d)) ∧ ((I (2 * d) : AV) = I (2 * d)) ∧ True] (by kernel_rfl) hB ⟨(inR_i64 (by omega) (by omega)), (inR_i64 (by omega) (by omega)), (inR_i64 (by omega) (by omega)), ⟨(l05Down_ok ((2 * n) + d) (2 * d) (by omega)), rfl, rfl, trivial⟩, trivial⟩ ?_
  refine ae_then ?_
  refine aw_ret ?_
  refine ae_ret hB (I (((2 * n) + d) / (2 * d))) (by kernel_rfl) (.inl (by rfl)) rfl (fun _ => trivial)


-- spec.FitInk
theorem specFitInk_ok (ik : Ink) (side : Int) : ∃ (v : Ink) (c : Int), (v = (fitR ik side).1) ∧ (c = (fitR ik side).2) ∧ Con Try.prog 40 [.agg [slStroke false ik.Strokes], I side] true (.tup [.agg [slStroke true v.Strokes], I c]) := by
  have hh : ∃ r : Ink × Int, ((r.1 = (fitR ik side).1) ∧ (r.2 = (fitR ik side).2) ∧ (True)) ∧ CallOK Try.prog 40 [.agg [slStroke false ik.Strokes], I side] (lookO []) true (.tup [.agg [slStroke true r.1.Strokes], I r.2]) (lookO []) := by
    refine fn_okX (Φ := fun r : Ink × Int => (r.1 = (fitR ik side).1) ∧ (r.2 = (fitR ik side).2) ∧ (True)) [] (fun r => []) (fn := Try.f40) (nt := 77) Try.func40 rfl rfl (args := [.agg [slStroke false ik.Strokes], I side]) rfl (allcons (.inl ⟨rfl, by simp [tagged, taggedL, tagStroke]⟩) (allcons (.inl ⟨rfl, trivial⟩) allnil)) (res := fun r => .tup [.agg [slStroke true r.1.Strokes], I r.2]) ?_
    refine x_seq ?_
    refine x_reg [(0, .new 2), (1, .new 4)] [1, 2, 4] [2, 4] [I side, .ref 2 0, .ref 4 0] [some (.box [slStroke false ik.Strokes]), some (.box [nilA])] [] (by kernel_rfl) trivial ?_
    refine xe_then ?_
    refine x_seq ?_
    refine x_seq ?_
    rcases Bool.eq_false_or_eq_true (okInk' ik) with h1 | h1
    ·have hil := okI_len h1
     refine x_reg [(0, .call [(false, .ptr false [slStroke false ik.Strokes])] true (Bv true))] [1, 2, 4, 14] [2, 4] [I side, .ref 2 0, .ref 4 0, Bv false] [some (.box [slStroke false ik.Strokes]), some (.box [nilA])] [Con Try.prog 56 [.ptr false [slStroke false ik.Strokes]] true (Bv true) ∧ ((false = true → true = true) ∧ AV.idsL [slStroke false ik.Strokes] = [] ∧ ((false = true → false = true) ∧ 1 = 1 ∧ ik.Strokes.length = ik.Strokes.length ∧ ∀ i, i < ik.Strokes.length → (fStroke false ik.Strokes) i = (fStroke false ik.Strokes) i ∨ (AV.idsL ((fStroke false ik.Strokes) i) = [] ∧ leL (fun _ => none) false ((fStroke false ik.Strokes) i) ((fStroke false ik.Strokes) i))) ∧ ([] : List AV) = []) ∧ True] (by kernel_rfl) ⟨⟨(con_bool h1 (l02Ok_ok ik)), ⟨(fun h => by cases h), rfl, ⟨⟨(fun h => by cases h), rfl, rfl, fun i _ => .inl rfl⟩, rfl⟩⟩, trivial⟩, trivial⟩ ?_
     refine xe_then ?_
     refine x_false rfl ?_
     refine x_skip ?_
     refine xe_then ?_
     refine x_seq ?_
     refine x_seq ?_
     rcases Bool.eq_false_or_eq_true (inB side 1 4095) with h2 | h2
     ·have hsi := inB_iff.1 h2
      refine x_reg [(1, .call [(true, I side), (true, I 1), (true, I 4095)] true (Bv true))] [1, 2, 4, 18] [2, 4] [I side, .ref 2 0, .ref 4 0, Bv false] [some (.box [slStroke false ik.Strokes]), some (.box [nilA])] [Con Try.prog 57 [I side, I 1, I 4095] true (Bv true) ∧ ((I side : AV) = I side) ∧ ((I 1 : AV) = I 1) ∧ ((I 4095 : AV) = I 4095) ∧ True] (by kernel_rfl) ⟨⟨(con_bool h2 (l00In_ok side 1 4095)), rfl, rfl, rfl, trivial⟩, trivial⟩ ?_
      refine xe_then ?_
      refine x_false rfl ?_
      refine x_skip ?_
      refine xe_then ?_
      refine x_seq ?_
      refine x_seq ?_
      by_cases h3 : (ik.Strokes.length : Int) = 0
      ·have hst := fitR_st h1 h2 h3
       refine x_reg [(3, .dec true)] [1, 2, 4, 23] [2, 4] [I side, .ref 2 0, .ref 4 0, Bv true] [some (.box [slStroke false ik.Strokes]), some (.box [nilA])] [(ik.Strokes.length : Int) = 0] (by kernel_rfl) ⟨h3, trivial⟩ ?_
       refine xe_then ?_
       refine x_true rfl ?_
       refine x_seq ?_
       refine x_reg [] [4, 5] [4] [.ref 4 0, I 6] [some (.box [nilA])] [] (by kernel_rfl) trivial ?_
       refine xe_then ?_
       refine x_ret ?_
       refine xe_ret_then ?_
       refine xe_end ((Ink.mk ([] : List Stroke)), 6) (show ((Ink.mk ([] : List Stroke)) = (fitR ik side).1) ∧ (6 = (fitR ik side).2) ∧ (True) from ⟨(by first | (rw [hst]; done) | (rw [hst, hfin]; done) | (rw [hst]; exact hx1_0)), (by first | (rw [hst]; done) | (rw [hst, hfin]; done) | (rw [hst]; exact hx1_0)), trivial⟩) (trivial) (.tup [.agg [nilA], I 6]) (by kernel_rfl) (.inr ⟨⟨⟨rfl, rfl⟩, rfl⟩, ⟨rfl, rfl⟩⟩) (fun _ => rfl) (fun _ => (by simp [tagged, taggedL, tagStroke]))
      ·have hst := fitR_yes h1 h2 h3
       have hbo := inkB_ok h1 (by omega) _ (Nat.le_refl ik.Strokes.length)
       have hbs := side_bd hbo
       refine x_reg [(3, .dec false)] [1, 2, 4, 23] [2, 4] [I side, .ref 2 0, .ref 4 0, Bv false] [some (.box [slStroke false ik.Strokes]), some (.box [nilA])] [¬ ((ik.Strokes.length : Int) = 0)] (by kernel_rfl) ⟨h3, trivial⟩ ?_
       refine xe_then ?_
       refine x_false rfl ?_
       refine x_skip ?_
       refine xe_then ?_
       refine x_seq ?_
       refine x_reg [(0, .call [(false, .ptr false [slStroke false ik.Strokes])] true (agBox (inkB ik.Strokes ik.Strokes.length))), (1, .new 6)] [1, 2, 4, 6] [2, 4, 6] [I side, .ref 2 0, .ref 4 0, .ref 6 0] [some (.box [slStroke false ik.Strokes]), some (.box [nilA]), some (bxBox (inkB ik.Strokes ik.Strokes.length))] [Con Try.prog 103 [.ptr false [slStroke false ik.Strokes]] true (agBox (inkB ik.Strokes ik.Strokes.length)) ∧ ((false = true → true = true) ∧ AV.idsL [slStroke false ik.Strokes] = [] ∧ ((false = true → false = true) ∧ 1 = 1 ∧ ik.Strokes.length = ik.Strokes.length ∧ ∀ i, i < ik.Strokes.length → (fStroke false ik.Strokes) i = (fStroke false ik.Strokes) i ∨ (AV.idsL ((fStroke false ik.Strokes) i) = [] ∧ leL (fun _ => none) false ((fStroke false ik.Strokes) i) ((fStroke false ik.Strokes) i))) ∧ ([] : List AV) = []) ∧ True] (by kernel_rfl) ⟨⟨(l02All_ok ik h1 (by omega)), ⟨(fun h => by cases h), rfl, ⟨⟨(fun h => by cases h), rfl, rfl, fun i _ => .inl rfl⟩, rfl⟩⟩, trivial⟩, trivial⟩ ?_
       refine xe_then ?_
       refine x_seq ?_
       refine x_reg [(1, .call [(true, agBox (inkB ik.Strokes ik.Strokes.length))] true (I (sideB (inkB ik.Strokes ik.Strokes.length))))] [1, 2, 4, 6, 7] [2, 4, 6] [I side, .ref 2 0, .ref 4 0, .ref 6 0, I (sideB (inkB ik.Strokes ik.Strokes.length))] [some (.box [slStroke false ik.Strokes]), some (.box [nilA]), some (bxBox (inkB ik.Strokes ik.Strokes.length))] [Con Try.prog 104 [agBox (inkB ik.Strokes ik.Strokes.length)] true (I (sideB (inkB ik.Strokes ik.Strokes.length))) ∧ ((agBox (inkB ik.Strokes ik.Strokes.length) : AV) = agBox (inkB ik.Strokes ik.Strokes.length)) ∧ True] (by kernel_rfl) ⟨⟨(l07Side_ok (inkB ik.Strokes ik.Strokes.length) hbo), rfl, trivial⟩, trivial⟩ ?_
       refine xe_then ?_
       refine x_seq ?_
       refine x_weak [] (T := [(1, I side), (2, .ptr true [slStroke false ik.Strokes]), (4, .ref 4 0), (6, .ref 6 0), (7, I (sideB (inkB ik.Strokes ik.Strokes.length)))]) (O := [(4, .box [nilA]), (6, bxBox (inkB ik.Strokes ik.Strokes.length))]) rfl (⟨.inl rfl, .inr ⟨(fun _ => rfl), rfl, ⟨⟨(fun h => by cases h), rfl, rfl, fun i _ => .inl rfl⟩, rfl⟩⟩, .inl rfl, .inl rfl, .inl rfl, trivial⟩) (⟨.inl rfl, .inl rfl, trivial⟩) ?_
       obtain ⟨ss_1, hx1_0, hc1⟩ := l02Own_ok ik (fun s hs => by have := okS_len (okI_mem h1 s hs); omega) (by omega)
       refine x_reg [(0, .lend [] [(8031, .oar [8032] 1 ss_1.length (oStroke 8032 ss_1)), (8032, .fam ss_1.length 3 (mStroke ss_1) (gStroke ss_1))] [(false, .ptr false [slStroke false ik.Strokes])] false (.agg [.arr 8031])), (1, .new 8)] [1, 4, 6, 7, 8] [4, 6, 8, 8031, 8032] [I side, .ref 4 0, .ref 6 0, I (sideB (inkB ik.Strokes ik.Strokes.length)), .ref 8 0] [some (.box [nilA]), some (bxBox (inkB ik.Strokes ik.Strokes.length)), some (.box [.arr 8031]), some (.oar [8032] 1 ss_1.length (oStroke 8032 ss_1)), some (.fam ss_1.length 3 (mStroke ss_1) (gStroke ss_1))] [CallOK Try.prog 105 [.ptr false [slStroke false ik.Strokes]] (lookO []) false (.agg [.arr 8031]) (lookO [(8031, .oar [8032] 1 ss_1.length (oStroke 8032 ss_1)), (8032, .fam ss_1.length 3 (mStroke ss_1) (gStroke ss_1))]) ∧ ((false = true → true = true) ∧ AV.idsL [slStroke false ik.Strokes] = [] ∧ ((false = true → false = true) ∧ 1 = 1 ∧ ik.Strokes.length = ik.Strokes.length ∧ ∀ i, i < ik.Strokes.length → (fStroke false ik.Strokes) i = (fStroke false ik.Strokes) i ∨ (AV.idsL ((fStroke false ik.Strokes) i) = [] ∧ leL (fun _ => none) false ((fStroke false ik.Strokes) i) ((fStroke false ik.Strokes) i))) ∧ ([] : List AV) = []) ∧ True] (by kernel_rfl) ⟨⟨hc1, ⟨(fun h => by cases h), rfl, ⟨⟨(fun h => by cases h), rfl, rfl, fun i _ => .inl rfl⟩, rfl⟩⟩, trivial⟩, trivial⟩ ?_
       refine xe_then ?_
       refine x_seq ?_
       refine x_seq ?_
       refine x_reg [] [1, 4, 6, 7, 8, 9] [4, 6, 8, 8031, 8032] [I side, .ref 4 0, .ref 6 0, I (sideB (inkB ik.Strokes ik.Strokes.length)), .ref 8 0, I 0] [some (.box [nilA]), some (bxBox (inkB ik.Strokes ik.Strokes.length)), some (.box [.arr 8031]), some (.oar [8032] 1 ss_1.length (oStroke 8032 ss_1)), some (.fam ss_1.length 3 (mStroke ss_1) (gStroke ss_1))] [] (by kernel_rfl) trivial ?_
       refine xe_then ?_
       refine x_block ?_
       refine x_loop (X := Int × (List Stroke)) (fun x => mkS [(1, I side), (4, .ref 4 0), (6, .ref 6 0), (7, I (sideB (inkB ik.Strokes ik.Strokes.length))), (8, .ref 8 0), (9, I x.1)] [(4, .box [nilA]), (6, bxBox (inkB ik.Strokes ik.Strokes.length)), (8, .box [.arr 8031]), (8031, .oar [8032] 1 x.2.length (oStroke 8032 x.2)), (8032, .fam x.2.length 3 (mStroke x.2) (gStroke x.2))]) (fun x => (0 ≤ x.1 ∧ x.1 ≤ (ik.Strokes.length : Int)) ∧ (x.2 = mpFst (fitP (inkB ik.Strokes ik.Strokes.length) (sideB (inkB ik.Strokes ik.Strokes.length)) side) x.1.toNat ik.Strokes) ∧ (x.2.length = ik.Strokes.length) ∧ True) (fun x => ((ik.Strokes.length : Int) - x.1).toNat) (0, ss_1) rfl (show (0 ≤ (0 : Int) ∧ (0 : Int) ≤ (ik.Strokes.length : Int)) ∧ (ss_1 = mpFst (fitP (inkB ik.Strokes ik.Strokes.length) (sideB (inkB ik.Strokes ik.Strokes.length)) side) (0 : Int).toNat ik.Strokes) ∧ (ss_1.length = ik.Strokes.length) ∧ True from ⟨(by omega), (by rw [show (0 : Int).toNat = 0 from rfl, mpFst_zero]; assumption), (by simp only [*]), trivial⟩) (fun x hI => ?_)
       obtain ⟨k, ss⟩ := x
       obtain ⟨hi0, hs0, hl0, _⟩ : (0 ≤ k ∧ k ≤ (ik.Strokes.length : Int)) ∧ (ss = mpFst (fitP (inkB ik.Strokes ik.Strokes.length) (sideB (inkB ik.Strokes ik.Strokes.length)) side) k.toNat ik.Strokes) ∧ (ss.length = ik.Strokes.length) ∧ True := hI
       show XW _ _ _ _ (mkS [(1, I side), (4, .ref 4 0), (6, .ref 6 0), (7, I (sideB (inkB ik.Strokes ik.Strokes.length))), (8, .ref 8 0), (9, I k)] [(4, .box [nilA]), (6, bxBox (inkB ik.Strokes ik.Strokes.length)), (8, .box [.arr 8031]), (8031, .oar [8032] 1 ss.length (oStroke 8032 ss)), (8032, .fam ss.length 3 (mStroke ss) (gStroke ss))]) _ _
       refine x_seq ?_
       refine x_seq ?_
       by_cases h4 : k < (ss.length : Int)
       ·have hi : k.toNat < ik.Strokes.length := by omega
        have hos := okI_all h1 _ hi
        have hol := okS_len hos
        have hlx : k.toNat < ss.length := by omega
        refine x_reg [(4, .dec true)] [1, 4, 6, 7, 8, 9, 33] [4, 6, 8, 8031, 8032] [I side, .ref 4 0, .ref 6 0, I (sideB (inkB ik.Strokes ik.Strokes.length)), .ref 8 0, I k, Bv true] [some (.box [nilA]), some (bxBox (inkB ik.Strokes ik.Strokes.length)), some (.box [.arr 8031]), some (.oar [8032] 1 ss.length (oStroke 8032 ss)), some (.fam ss.length 3 (mStroke ss) (gStroke ss))] [k < (ss.length : Int)] (by kernel_rfl) ⟨h4, trivial⟩ ?_
        refine xe_then ?_
        refine x_true rfl ?_
        refine x_skip ?_
        refine xe_then ?_
        refine x_seq ?_
        refine x_block ?_
        refine x_seq ?_
        refine x_reg [] [1, 4, 6, 7, 8, 9, 10] [4, 6, 8, 8031, 8032] [I side, .ref 4 0, .ref 6 0, I (sideB (inkB ik.Strokes ik.Strokes.length)), .ref 8 0, I k, .row 8032 k.toNat] [some (.box [nilA]), some (bxBox (inkB ik.Strokes ik.Strokes.length)), some (.box [.arr 8031]), some (.oar [8032] 1 ss.length (oStroke 8032 ss)), some (.fam ss.length 3 (mStroke ss) (gStroke ss))] [(0 : Int) ≤ k ∧ k < (ss.length : Int), k.toNat < ss.length] (by kernel_rfl) ⟨⟨(by omega), (by omega)⟩, (by omega), trivial⟩ ?_
        refine xe_then ?_
        refine x_seq ?_
        refine x_reg [] [1, 4, 6, 7, 8, 9, 10, 11] [4, 6, 8, 8031, 8032] [I side, .ref 4 0, .ref 6 0, I (sideB (inkB ik.Strokes ik.Strokes.length)), .ref 8 0, I k, .row 8032 k.toNat, I 0] [some (.box [nilA]), some (bxBox (inkB ik.Strokes ik.Strokes.length)), some (.box [.arr 8031]), some (.oar [8032] 1 ss.length (oStroke 8032 ss)), some (.fam ss.length 3 (mStroke ss) (gStroke ss))] [] (by kernel_rfl) trivial ?_
        refine xe_then ?_
        refine x_block ?_
        refine x_loop (X := Int × (List Stroke)) (fun x => mkS [(1, I side), (4, .ref 4 0), (6, .ref 6 0), (7, I (sideB (inkB ik.Strokes ik.Strokes.length))), (8, .ref 8 0), (9, I k), (10, .row 8032 k.toNat), (11, I x.1)] [(4, .box [nilA]), (6, bxBox (inkB ik.Strokes ik.Strokes.length)), (8, .box [.arr 8031]), (8031, .oar [8032] 1 x.2.length (oStroke 8032 x.2)), (8032, .fam x.2.length 3 (mStroke x.2) (gStroke x.2))]) (fun x => (0 ≤ x.1 ∧ x.1 ≤ ((at_ ik.Strokes k.toNat).Points.length : Int)) ∧ (x.2 = mpIn (fitP (inkB ik.Strokes ik.Strokes.length) (sideB (inkB ik.Strokes ik.Strokes.length)) side) k.toNat x.1.toNat ik.Strokes) ∧ (x.2.length = ik.Strokes.length) ∧ ((at_ x.2 k.toNat).Points.length = (at_ ik.Strokes k.toNat).Points.length) ∧ True) (fun x => (((at_ ik.Strokes k.toNat).Points.length : Int) - x.1).toNat) (0, ss) rfl (show (0 ≤ (0 : Int) ∧ (0 : Int) ≤ ((at_ ik.Strokes k.toNat).Points.length : Int)) ∧ (ss = mpIn (fitP (inkB ik.Strokes ik.Strokes.length) (sideB (inkB ik.Strokes ik.Strokes.length)) side) k.toNat (0 : Int).toNat ik.Strokes) ∧ (ss.length = ik.Strokes.length) ∧ ((at_ ss k.toNat).Points.length = (at_ ik.Strokes k.toNat).Points.length) ∧ True from ⟨(by omega), (by exact (show ss = mpIn (fitP (inkB ik.Strokes ik.Strokes.length) (sideB (inkB ik.Strokes ik.Strokes.length)) side) k.toNat 0 ik.Strokes from hs0.trans (mpIn_zero hi).symm)), (by omega), (by exact mpIn_row (f := (fitP (inkB ik.Strokes ik.Strokes.length) (sideB (inkB ik.Strokes ik.Strokes.length)) side)) (k := 0) (show ss = mpIn (fitP (inkB ik.Strokes ik.Strokes.length) (sideB (inkB ik.Strokes ik.Strokes.length)) side) k.toNat 0 ik.Strokes from hs0.trans (mpIn_zero hi).symm) hi), trivial⟩) (fun x hI => ?_)
        obtain ⟨j, ss'⟩ := x
        obtain ⟨hk0, hs1, hl1, hr1, _⟩ : (0 ≤ j ∧ j ≤ ((at_ ik.Strokes k.toNat).Points.length : Int)) ∧ (ss' = mpIn (fitP (inkB ik.Strokes ik.Strokes.length) (sideB (inkB ik.Strokes ik.Strokes.length)) side) k.toNat j.toNat ik.Strokes) ∧ (ss'.length = ik.Strokes.length) ∧ ((at_ ss' k.toNat).Points.length = (at_ ik.Strokes k.toNat).Points.length) ∧ True := hI
        show XW _ _ _ _ (mkS [(1, I side), (4, .ref 4 0), (6, .ref 6 0), (7, I (sideB (inkB ik.Strokes ik.Strokes.length))), (8, .ref 8 0), (9, I k), (10, .row 8032 k.toNat), (11, I j)] [(4, .box [nilA]), (6, bxBox (inkB ik.Strokes ik.Strokes.length)), (8, .box [.arr 8031]), (8031, .oar [8032] 1 ss'.length (oStroke 8032 ss')), (8032, .fam ss'.length 3 (mStroke ss') (gStroke ss'))]) _ _
        refine x_seq ?_
        refine x_seq ?_
        by_cases h5 : j < ((((at_ ss' k.toNat).Points).length) : Int)
        ·have hk : j.toNat < (at_ ik.Strokes k.toNat).Points.length := by omega
         have hpt := mpIn_pt hs1 hi hk
         have hpo := okP_iff.1 (okS_at hos hk)
         rw [← hpt] at hpo
         have hlx : k.toNat < ss'.length := by omega
         have hlk : j.toNat < (at_ ss' k.toNat).Points.length := by omega
         have hib := inkB_has ik.Strokes _ _ hi
         have hbh := box_has (at_ ik.Strokes k.toNat).Points _ j.toNat hk
         unfold inBox strB at hib
         rw [← hpt] at hbh
         have hbo2 := hbo
         unfold okBox at hbo2
         have hm1 := mulP_bd (x := (at_ (at_ ss' k.toNat).Points j.toNat).X - (inkB ik.Strokes ik.Strokes.length).X1) (y := side) (A := 4095) (B := 4095) (by omega) (by omega) (by omega) (by omega)
         have hm2 := mulP_bd (x := (at_ (at_ ss' k.toNat).Points j.toNat).Y - (inkB ik.Strokes ik.Strokes.length).Y1) (y := side) (A := 4095) (B := 4095) (by omega) (by omega) (by omega) (by omega)
         refine x_reg [(3, .dec true)] [1, 4, 6, 7, 8, 9, 10, 11, 45] [4, 6, 8, 8031, 8032] [I side, .ref 4 0, .ref 6 0, I (sideB (inkB ik.Strokes ik.Strokes.length)), .ref 8 0, I k, .row 8032 k.toNat, I j, Bv true] [some (.box [nilA]), some (bxBox (inkB ik.Strokes ik.Strokes.length)), some (.box [.arr 8031]), some (.oar [8032] 1 ss'.length (oStroke 8032 ss')), some (.fam ss'.length 3 (mStroke ss') (gStroke ss'))] [k.toNat < ss'.length, j < ((((at_ ss' k.toNat).Points).length) : Int)] (by kernel_rfl) ⟨(by omega), h5, trivial⟩ ?_
         refine xe_then ?_
         refine x_true rfl ?_
         refine x_skip ?_
         refine xe_then ?_
         refine x_seq ?_
         refine x_block ?_
         refine x_seq ?_
         refine x_reg [(4, .new 12)] [1, 4, 6, 7, 8, 9, 10, 11, 12] [4, 6, 8, 12, 8031, 8032] [I side, .ref 4 0, .ref 6 0, I (sideB (inkB ik.Strokes ik.Strokes.length)), .ref 8 0, I k, .row 8032 k.toNat, I j, .ref 12 0] [some (.box [nilA]), some (bxBox (inkB ik.Strokes ik.Strokes.length)), some (.box [.arr 8031]), some (bxPoint (at_ ((at_ ss' k.toNat).Points) j.toNat)), some (.oar [8032] 1 ss'.length (oStroke 8032 ss')), some (.fam ss'.length 3 (mStroke ss') (gStroke ss'))] [k.toNat < ss'.length ∧ (0 : Int) ≤ j ∧ j < ((((at_ ss' k.toNat).Points).length) : Int), k.toNat < ss'.length ∧ j.toNat < ((at_ ss' k.toNat).Points).length] (by kernel_rfl) ⟨⟨(by omega), (by omega), (by omega)⟩, ⟨(by omega), (by omega)⟩, trivial⟩ ?_
         refine xe_then ?_
         refine x_reg [(10, .call [(true, I ((((at_ ((at_ ss' k.toNat).Points) j.toNat).X) - ((inkB ik.Strokes ik.Strokes.length).X1)) * side)), (true, I (sideB (inkB ik.Strokes ik.Strokes.length)))] true (I (nearI ((((at_ ((at_ ss' k.toNat).Points) j.toNat).X) - ((inkB ik.Strokes ik.Strokes.length).X1)) * side) (sideB (inkB ik.Strokes ik.Strokes.length))))), (19, .call [(true, I ((((at_ ((at_ ss' k.toNat).Points) j.toNat).Y) - ((inkB ik.Strokes ik.Strokes.length).Y1)) * side)), (true, I (sideB (inkB ik.Strokes ik.Strokes.length)))] true (I (nearI ((((at_ ((at_ ss' k.toNat).Points) j.toNat).Y) - ((inkB ik.Strokes ik.Strokes.length).Y1)) * side) (sideB (inkB ik.Strokes ik.Strokes.length)))))] [1, 4, 6, 7, 8, 9, 10, 11] [4, 6, 8, 8031, 8032] [I side, .ref 4 0, .ref 6 0, I (sideB (inkB ik.Strokes ik.Strokes.length)), .ref 8 0, I k, .row 8032 k.toNat, I j] [some (.box [nilA]), some (bxBox (inkB ik.Strokes ik.Strokes.length)), some (.box [.arr 8031]), some (.oar [8032] 1 ss'.length (oStroke 8032 ss')), some (.fam ss'.length 3 (mStroke ss') (fun q => bif Nat.beq q k.toNat then (fun q => bif Nat.beq q j.toNat then [I (nearI ((((at_ ((at_ ss' k.toNat).Points) j.toNat).X) - ((inkB ik.Strokes ik.Strokes.length).X1)) * side) (sideB (inkB ik.Strokes ik.Strokes.length))), I (nearI ((((at_ ((at_ ss' k.toNat).Points) j.toNat).Y) - ((inkB ik.Strokes ik.Strokes.length).Y1)) * side) (sideB (inkB ik.Strokes ik.Strokes.length))), I ((at_ ((at_ ss' k.toNat).Points) j.toNat).T)] else (gStroke ss') k.toNat q) else (gStroke ss') q))] [inR .i64 (((at_ ((at_ ss' k.toNat).Points) j.toNat).X) - ((inkB ik.Strokes ik.Strokes.length).X1)), inR .i64 ((((at_ ((at_ ss' k.toNat).Points) j.toNat).X) - ((inkB ik.Strokes ik.Strokes.length).X1)) * side), Con Try.prog 106 [I ((((at_ ((at_ ss' k.toNat).Points) j.toNat).X) - ((inkB ik.Strokes ik.Strokes.length).X1)) * side), I (sideB (inkB ik.Strokes ik.Strokes.length))] true (I (nearI ((((at_ ((at_ ss' k.toNat).Points) j.toNat).X) - ((inkB ik.Strokes ik.Strokes.length).X1)) * side) (sideB (inkB ik.Strokes ik.Strokes.length)))) ∧ ((I ((((at_ ((at_ ss' k.toNat).Points) j.toNat).X) - ((inkB ik.Strokes ik.Strokes.length).X1)) * side) : AV) = I ((((at_ ((at_ ss' k.toNat).Points) j.toNat).X) - ((inkB ik.Strokes ik.Strokes.length).X1)) * side)) ∧ ((I (sideB (inkB ik.Strokes ik.Strokes.length)) : AV) = I (sideB (inkB ik.Strokes ik.Strokes.length))) ∧ True, inR .i64 (((at_ ((at_ ss' k.toNat).Points) j.toNat).Y) - ((inkB ik.Strokes ik.Strokes.length).Y1)), inR .i64 ((((at_ ((at_ ss' k.toNat).Points) j.toNat).Y) - ((inkB ik.Strokes ik.Strokes.length).Y1)) * side), Con Try.prog 106 [I ((((at_ ((at_ ss' k.toNat).Points) j.toNat).Y) - ((inkB ik.Strokes ik.Strokes.length).Y1)) * side), I (sideB (inkB ik.Strokes ik.Strokes.length))] true (I (nearI ((((at_ ((at_ ss' k.toNat).Points) j.toNat).Y) - ((inkB ik.Strokes ik.Strokes.length).Y1)) * side) (sideB (inkB ik.Strokes ik.Strokes.length)))) ∧ ((I ((((at_ ((at_ ss' k.toNat).Points) j.toNat).Y) - ((inkB ik.Strokes ik.Strokes.length).Y1)) * side) : AV) = I ((((at_ ((at_ ss' k.toNat).Points) j.toNat).Y) - ((inkB ik.Strokes ik.Strokes.length).Y1)) * side)) ∧ ((I (sideB (inkB ik.Strokes ik.Strokes.length)) : AV) = I (sideB (inkB ik.Strokes ik.Strokes.length))) ∧ True, k.toNat < ss'.length ∧ (0 : Int) ≤ j ∧ j < ((((at_ ss' k.toNat).Points).length) : Int), k.toNat < ss'.length ∧ j.toNat < ((at_ ss' k.toNat).Points).length] (by kernel_rfl) ⟨(inR_i64 (by omega) (by omega)), (inR_i64 (by omega) (by omega)), ⟨(l05Near_ok ((((at_ ((at_ ss' k.toNat).Points) j.toNat).X) - ((inkB ik.Strokes ik.Strokes.length).X1)) * side) (sideB (inkB ik.Strokes ik.Strokes.length)) (by omega)), rfl, rfl, trivial⟩, (inR_i64 (by omega) (by omega)), (inR_i64 (by omega) (by omega)), ⟨(l05Near_ok ((((at_ ((at_ ss' k.toNat).Points) j.toNat).Y) - ((inkB ik.Strokes ik.Strokes.length).Y1)) * side) (sideB (inkB ik.Strokes ik.Strokes.length)) (by omega)), rfl, rfl, trivial⟩, ⟨(by omega), (by omega), (by omega)⟩, ⟨(by omega), (by omega)⟩, trivial⟩ ?_
         refine xe_block 3 ?_
         refine xe_then ?_
         refine x_weak [] (T := [(1, I side), (4, .ref 4 0), (6, .ref 6 0), (7, I (sideB (inkB ik.Strokes ik.Strokes.length))), (8, .ref 8 0), (9, I k), (10, .row 8032 k.toNat), (11, I j)]) (O := [(4, .box [nilA]), (6, bxBox (inkB ik.Strokes ik.Strokes.length)), (8, .box [.arr 8031]), (8031, .oar [8032] 1 ((ss'.set k.toNat (Stroke.withPoints (at_ ss' k.toNat) (((at_ ss' k.toNat).Points).set j.toNat (Point.mk (nearI ((((at_ ((at_ ss' k.toNat).Points) j.toNat).X) - ((inkB ik.Strokes ik.Strokes.length).X1)) * side) (sideB (inkB ik.Strokes ik.Strokes.length))) (nearI ((((at_ ((at_ ss' k.toNat).Points) j.toNat).Y) - ((inkB ik.Strokes ik.Strokes.length).Y1)) * side) (sideB (inkB ik.Strokes ik.Strokes.length))) ((at_ ((at_ ss' k.toNat).Points) j.toNat).T))))).length) (oStroke 8032 (ss'.set k.toNat (Stroke.withPoints (at_ ss' k.toNat) (((at_ ss' k.toNat).Points).set j.toNat (Point.mk (nearI ((((at_ ((at_ ss' k.toNat).Points) j.toNat).X) - ((inkB ik.Strokes ik.Strokes.length).X1)) * side) (sideB (inkB ik.Strokes ik.Strokes.length))) (nearI ((((at_ ((at_ ss' k.toNat).Points) j.toNat).Y) - ((inkB ik.Strokes ik.Strokes.length).Y1)) * side) (sideB (inkB ik.Strokes ik.Strokes.length))) ((at_ ((at_ ss' k.toNat).Points) j.toNat).T))))))), (8032, .fam (ss'.set k.toNat (Stroke.withPoints (at_ ss' k.toNat) (((at_ ss' k.toNat).Points).set j.toNat (Point.mk (nearI ((((at_ ((at_ ss' k.toNat).Points) j.toNat).X) - ((inkB ik.Strokes ik.Strokes.length).X1)) * side) (sideB (inkB ik.Strokes ik.Strokes.length))) (nearI ((((at_ ((at_ ss' k.toNat).Points) j.toNat).Y) - ((inkB ik.Strokes ik.Strokes.length).Y1)) * side) (sideB (inkB ik.Strokes ik.Strokes.length))) ((at_ ((at_ ss' k.toNat).Points) j.toNat).T))))).length 3 (mStroke (ss'.set k.toNat (Stroke.withPoints (at_ ss' k.toNat) (((at_ ss' k.toNat).Points).set j.toNat (Point.mk (nearI ((((at_ ((at_ ss' k.toNat).Points) j.toNat).X) - ((inkB ik.Strokes ik.Strokes.length).X1)) * side) (sideB (inkB ik.Strokes ik.Strokes.length))) (nearI ((((at_ ((at_ ss' k.toNat).Points) j.toNat).Y) - ((inkB ik.Strokes ik.Strokes.length).Y1)) * side) (sideB (inkB ik.Strokes ik.Strokes.length))) ((at_ ((at_ ss' k.toNat).Points) j.toNat).T)))))) (gStroke (ss'.set k.toNat (Stroke.withPoints (at_ ss' k.toNat) (((at_ ss' k.toNat).Points).set j.toNat (Point.mk (nearI ((((at_ ((at_ ss' k.toNat).Points) j.toNat).X) - ((inkB ik.Strokes ik.Strokes.length).X1)) * side) (sideB (inkB ik.Strokes ik.Strokes.length))) (nearI ((((at_ ((at_ ss' k.toNat).Points) j.toNat).Y) - ((inkB ik.Strokes ik.Strokes.length).Y1)) * side) (sideB (inkB ik.Strokes ik.Strokes.length))) ((at_ ((at_ ss' k.toNat).Points) j.toNat).T)))))))]) rfl (⟨.inl rfl, .inl rfl, .inl rfl, .inl rfl, .inl rfl, .inl rfl, .inl rfl, .inl rfl, trivial⟩) (⟨.inl rfl, .inl rfl, .inl rfl, .inr ⟨rfl, rfl, (by first | rfl | (simp; done) | omega), fun i_ hi_ => .inl (osetStroke 8032 k.toNat ss' (((at_ ss' k.toNat).Points).set j.toNat (Point.mk (nearI ((((at_ ((at_ ss' k.toNat).Points) j.toNat).X) - ((inkB ik.Strokes ik.Strokes.length).X1)) * side) (sideB (inkB ik.Strokes ik.Strokes.length))) (nearI ((((at_ ((at_ ss' k.toNat).Points) j.toNat).Y) - ((inkB ik.Strokes ik.Strokes.length).Y1)) * side) (sideB (inkB ik.Strokes ik.Strokes.length))) ((at_ ((at_ ss' k.toNat).Points) j.toNat).T))) i_)⟩, .inr (fsetStroke (P := k.toNat) (k := j.toNat) ((by omega)) ((by omega)) (by simp only [Nat.beq_refl, cond_true]; try rfl) (by intro i hi; simp only [Nat.beq_refl, cond_true, beq_ne hi, cond_false]; try rfl) (by intro p hp; simp only [beq_ne hp, cond_false])), trivial⟩) ?_
         refine x_reg [] [1, 4, 6, 7, 8, 9, 10, 11] [4, 6, 8, 8031, 8032] [I side, .ref 4 0, .ref 6 0, I (sideB (inkB ik.Strokes ik.Strokes.length)), .ref 8 0, I k, .row 8032 k.toNat, I (j + 1)] [some (.box [nilA]), some (bxBox (inkB ik.Strokes ik.Strokes.length)), some (.box [.arr 8031]), some (.oar [8032] 1 ((ss'.set k.toNat (Stroke.withPoints (at_ ss' k.toNat) (((at_ ss' k.toNat).Points).set j.toNat (Point.mk (nearI ((((at_ ((at_ ss' k.toNat).Points) j.toNat).X) - ((inkB ik.Strokes ik.Strokes.length).X1)) * side) (sideB (inkB ik.Strokes ik.Strokes.length))) (nearI ((((at_ ((at_ ss' k.toNat).Points) j.toNat).Y) - ((inkB ik.Strokes ik.Strokes.length).Y1)) * side) (sideB (inkB ik.Strokes ik.Strokes.length))) ((at_ ((at_ ss' k.toNat).Points) j.toNat).T))))).length) (oStroke 8032 (ss'.set k.toNat (Stroke.withPoints (at_ ss' k.toNat) (((at_ ss' k.toNat).Points).set j.toNat (Point.mk (nearI ((((at_ ((at_ ss' k.toNat).Points) j.toNat).X) - ((inkB ik.Strokes ik.Strokes.length).X1)) * side) (sideB (inkB ik.Strokes ik.Strokes.length))) (nearI ((((at_ ((at_ ss' k.toNat).Points) j.toNat).Y) - ((inkB ik.Strokes ik.Strokes.length).Y1)) * side) (sideB (inkB ik.Strokes ik.Strokes.length))) ((at_ ((at_ ss' k.toNat).Points) j.toNat).T))))))), some (.fam (ss'.set k.toNat (Stroke.withPoints (at_ ss' k.toNat) (((at_ ss' k.toNat).Points).set j.toNat (Point.mk (nearI ((((at_ ((at_ ss' k.toNat).Points) j.toNat).X) - ((inkB ik.Strokes ik.Strokes.length).X1)) * side) (sideB (inkB ik.Strokes ik.Strokes.length))) (nearI ((((at_ ((at_ ss' k.toNat).Points) j.toNat).Y) - ((inkB ik.Strokes ik.Strokes.length).Y1)) * side) (sideB (inkB ik.Strokes ik.Strokes.length))) ((at_ ((at_ ss' k.toNat).Points) j.toNat).T))))).length 3 (mStroke (ss'.set k.toNat (Stroke.withPoints (at_ ss' k.toNat) (((at_ ss' k.toNat).Points).set j.toNat (Point.mk (nearI ((((at_ ((at_ ss' k.toNat).Points) j.toNat).X) - ((inkB ik.Strokes ik.Strokes.length).X1)) * side) (sideB (inkB ik.Strokes ik.Strokes.length))) (nearI ((((at_ ((at_ ss' k.toNat).Points) j.toNat).Y) - ((inkB ik.Strokes ik.Strokes.length).Y1)) * side) (sideB (inkB ik.Strokes ik.Strokes.length))) ((at_ ((at_ ss' k.toNat).Points) j.toNat).T)))))) (gStroke (ss'.set k.toNat (Stroke.withPoints (at_ ss' k.toNat) (((at_ ss' k.toNat).Points).set j.toNat (Point.mk (nearI ((((at_ ((at_ ss' k.toNat).Points) j.toNat).X) - ((inkB ik.Strokes ik.Strokes.length).X1)) * side) (sideB (inkB ik.Strokes ik.Strokes.length))) (nearI ((((at_ ((at_ ss' k.toNat).Points) j.toNat).Y) - ((inkB ik.Strokes ik.Strokes.length).Y1)) * side) (sideB (inkB ik.Strokes ik.Strokes.length))) ((at_ ((at_ ss' k.toNat).Points) j.toNat).T)))))))] [inR .i64 (j + 1)] (by kernel_rfl) ⟨(inR_i64 (by omega) (by omega)), trivial⟩ ?_
         exact xe_again ((j + 1), (ss'.set k.toNat (Stroke.withPoints (at_ ss' k.toNat) (((at_ ss' k.toNat).Points).set j.toNat (Point.mk (nearI ((((at_ ((at_ ss' k.toNat).Points) j.toNat).X) - ((inkB ik.Strokes ik.Strokes.length).X1)) * side) (sideB (inkB ik.Strokes ik.Strokes.length))) (nearI ((((at_ ((at_ ss' k.toNat).Points) j.toNat).Y) - ((inkB ik.Strokes ik.Strokes.length).Y1)) * side) (sideB (inkB ik.Strokes ik.Strokes.length))) ((at_ ((at_ ss' k.toNat).Points) j.toNat).T)))))) rfl (show (0 ≤ (j + 1) ∧ (j + 1) ≤ ((at_ ik.Strokes k.toNat).Points.length : Int)) ∧ ((ss'.set k.toNat (Stroke.withPoints (at_ ss' k.toNat) (((at_ ss' k.toNat).Points).set j.toNat (Point.mk (nearI ((((at_ ((at_ ss' k.toNat).Points) j.toNat).X) - ((inkB ik.Strokes ik.Strokes.length).X1)) * side) (sideB (inkB ik.Strokes ik.Strokes.length))) (nearI ((((at_ ((at_ ss' k.toNat).Points) j.toNat).Y) - ((inkB ik.Strokes ik.Strokes.length).Y1)) * side) (sideB (inkB ik.Strokes ik.Strokes.length))) ((at_ ((at_ ss' k.toNat).Points) j.toNat).T))))) = mpIn (fitP (inkB ik.Strokes ik.Strokes.length) (sideB (inkB ik.Strokes ik.Strokes.length)) side) k.toNat (j + 1).toNat ik.Strokes) ∧ ((ss'.set k.toNat (Stroke.withPoints (at_ ss' k.toNat) (((at_ ss' k.toNat).Points).set j.toNat (Point.mk (nearI ((((at_ ((at_ ss' k.toNat).Points) j.toNat).X) - ((inkB ik.Strokes ik.Strokes.length).X1)) * side) (sideB (inkB ik.Strokes ik.Strokes.length))) (nearI ((((at_ ((at_ ss' k.toNat).Points) j.toNat).Y) - ((inkB ik.Strokes ik.Strokes.length).Y1)) * side) (sideB (inkB ik.Strokes ik.Strokes.length))) ((at_ ((at_ ss' k.toNat).Points) j.toNat).T))))).length = ik.Strokes.length) ∧ ((at_ (ss'.set k.toNat (Stroke.withPoints (at_ ss' k.toNat) (((at_ ss' k.toNat).Points).set j.toNat (Point.mk (nearI ((((at_ ((at_ ss' k.toNat).Points) j.toNat).X) - ((inkB ik.Strokes ik.Strokes.length).X1)) * side) (sideB (inkB ik.Strokes ik.Strokes.length))) (nearI ((((at_ ((at_ ss' k.toNat).Points) j.toNat).Y) - ((inkB ik.Strokes ik.Strokes.length).Y1)) * side) (sideB (inkB ik.Strokes ik.Strokes.length))) ((at_ ((at_ ss' k.toNat).Points) j.toNat).T))))) k.toNat).Points.length = (at_ ik.Strokes k.toNat).Points.length) ∧ True from ⟨(by omega), (by (try simp only [List.length_set, at_setS' hlx, at_setS' hlk, Stroke.withPoints, List.set_set]); exact mpIn_next hs1 hk0.1 hi hk (by rw [← hpt]; rfl)), (by simp; omega), (by (try simp only [List.length_set, at_setS' hlx, at_setS' hlk, Stroke.withPoints, List.set_set]); exact hr1), trivial⟩) (by show ((((at_ ik.Strokes k.toNat).Points.length : Int) - (j + 1)).toNat : Nat) < (((at_ ik.Strokes k.toNat).Points.length : Int) - j).toNat; omega)
        ·refine x_reg [(3, .dec false)] [1, 4, 6, 7, 8, 9, 10, 11, 45] [4, 6, 8, 8031, 8032] [I side, .ref 4 0, .ref 6 0, I (sideB (inkB ik.Strokes ik.Strokes.length)), .ref 8 0, I k, .row 8032 k.toNat, I j, Bv false] [some (.box [nilA]), some (bxBox (inkB ik.Strokes ik.Strokes.length)), some (.box [.arr 8031]), some (.oar [8032] 1 ss'.length (oStroke 8032 ss')), some (.fam ss'.length 3 (mStroke ss') (gStroke ss'))] [k.toNat < ss'.length, ¬ (j < ((((at_ ss' k.toNat).Points).length) : Int))] (by kernel_rfl) ⟨(by omega), h5, trivial⟩ ?_
         refine xe_then ?_
         refine x_false rfl ?_
         refine x_exit ?_
         refine xe_exit_then ?_
         refine xe_loop_exit ?_
         refine xe_exit_same ?_
         refine xe_block 1 ?_
         refine xe_then ?_
         refine x_reg [] [1, 4, 6, 7, 8, 9] [4, 6, 8, 8031, 8032] [I side, .ref 4 0, .ref 6 0, I (sideB (inkB ik.Strokes ik.Strokes.length)), .ref 8 0, I (k + 1)] [some (.box [nilA]), some (bxBox (inkB ik.Strokes ik.Strokes.length)), some (.box [.arr 8031]), some (.oar [8032] 1 ss'.length (oStroke 8032 ss')), some (.fam ss'.length 3 (mStroke ss') (gStroke ss'))] [inR .i64 (k + 1)] (by kernel_rfl) ⟨(inR_i64 (by omega) (by omega)), trivial⟩ ?_
         exact xe_again ((k + 1), ss') rfl (show (0 ≤ (k + 1) ∧ (k + 1) ≤ (ik.Strokes.length : Int)) ∧ (ss' = mpFst (fitP (inkB ik.Strokes ik.Strokes.length) (sideB (inkB ik.Strokes ik.Strokes.length)) side) (k + 1).toNat ik.Strokes) ∧ (ss'.length = ik.Strokes.length) ∧ True from ⟨(by omega), (by exact mpIn_exit hs1 (by omega) hi (by omega)), (by omega), trivial⟩) (by show (((ik.Strokes.length : Int) - (k + 1)).toNat : Nat) < ((ik.Strokes.length : Int) - k).toNat; omega)
       ·have hfin : ss = (fitA ik side).Strokes := by rw [hs0]; exact mpFst_all (by omega)
        refine x_reg [(4, .dec false)] [1, 4, 6, 7, 8, 9, 33] [4, 6, 8, 8031, 8032] [I side, .ref 4 0, .ref 6 0, I (sideB (inkB ik.Strokes ik.Strokes.length)), .ref 8 0, I k, Bv false] [some (.box [nilA]), some (bxBox (inkB ik.Strokes ik.Strokes.length)), some (.box [.arr 8031]), some (.oar [8032] 1 ss.length (oStroke 8032 ss)), some (.fam ss.length 3 (mStroke ss) (gStroke ss))] [¬ (k < (ss.length : Int))] (by kernel_rfl) ⟨h4, trivial⟩ ?_
        refine xe_then ?_
        refine x_false rfl ?_
        refine x_exit ?_
        refine xe_exit_then ?_
        refine xe_loop_exit ?_
        refine xe_exit_same ?_
        refine xe_then ?_
        refine x_seq ?_
        refine x_reg [] [4, 5] [4, 8031, 8032] [.ref 4 0, I 0] [some (.box [.arr 8031]), some (.oar [8032] 1 ss.length (oStroke 8032 ss)), some (.fam ss.length 3 (mStroke ss) (gStroke ss))] [] (by kernel_rfl) trivial ?_
        refine xe_then ?_
        refine x_ret ?_
        refine xe_end ((Ink.mk ss), 0) (show ((Ink.mk ss) = (fitR ik side).1) ∧ (0 = (fitR ik side).2) ∧ (True) from ⟨(by first | (rw [hst]; done) | (rw [hst, hfin]; done) | (rw [hst]; exact hx1_0)), (by first | (rw [hst]; done) | (rw [hst, hfin]; done) | (rw [hst]; exact hx1_0)), trivial⟩) (trivial) (.tup [.agg [.arr 8031], I 0]) (by kernel_rfl) (.inr ⟨⟨⟨(fun _ => rfl), rfl, rfl, oleStroke _ _ rfl⟩, rfl⟩, ⟨rfl, rfl⟩⟩) (fun _ => rfl) (fun _ => (by simp [tagged, taggedL, tagStroke]))
     ·have hst := fitR_rng h1 h2
      refine x_reg [(1, .call [(true, I side), (true, I 1), (true, I 4095)] true (Bv false))] [1, 2, 4, 18] [2, 4] [I side, .ref 2 0, .ref 4 0, Bv true] [some (.box [slStroke false ik.Strokes]), some (.box [nilA])] [Con Try.prog 57 [I side, I 1, I 4095] true (Bv false) ∧ ((I side : AV) = I side) ∧ ((I 1 : AV) = I 1) ∧ ((I 4095 : AV) = I 4095) ∧ True] (by kernel_rfl) ⟨⟨(con_bool h2 (l00In_ok side 1 4095)), rfl, rfl, rfl, trivial⟩, trivial⟩ ?_
      refine xe_then ?_
      refine x_true rfl ?_
      refine x_seq ?_
      refine x_reg [] [4, 5] [4] [.ref 4 0, I 2] [some (.box [nilA])] [] (by kernel_rfl) trivial ?_
      refine xe_then ?_
      refine x_ret ?_
      refine xe_ret_then ?_
      refine xe_end ((Ink.mk ([] : List Stroke)), 2) (show ((Ink.mk ([] : List Stroke)) = (fitR ik side).1) ∧ (2 = (fitR ik side).2) ∧ (True) from ⟨(by first | (rw [hst]; done) | (rw [hst, hfin]; done) | (rw [hst]; exact hx1_0)), (by first | (rw [hst]; done) | (rw [hst, hfin]; done) | (rw [hst]; exact hx1_0)), trivial⟩) (trivial) (.tup [.agg [nilA], I 2]) (by kernel_rfl) (.inr ⟨⟨⟨rfl, rfl⟩, rfl⟩, ⟨rfl, rfl⟩⟩) (fun _ => rfl) (fun _ => (by simp [tagged, taggedL, tagStroke]))
    ·have hst := fitR_inv (n := side) h1
     refine x_reg [(0, .call [(false, .ptr false [slStroke false ik.Strokes])] true (Bv false))] [1, 2, 4, 14] [2, 4] [I side, .ref 2 0, .ref 4 0, Bv true] [some (.box [slStroke false ik.Strokes]), some (.box [nilA])] [Con Try.prog 56 [.ptr false [slStroke false ik.Strokes]] true (Bv false) ∧ ((false = true → true = true) ∧ AV.idsL [slStroke false ik.Strokes] = [] ∧ ((false = true → false = true) ∧ 1 = 1 ∧ ik.Strokes.length = ik.Strokes.length ∧ ∀ i, i < ik.Strokes.length → (fStroke false ik.Strokes) i = (fStroke false ik.Strokes) i ∨ (AV.idsL ((fStroke false ik.Strokes) i) = [] ∧ leL (fun _ => none) false ((fStroke false ik.Strokes) i) ((fStroke false ik.Strokes) i))) ∧ ([] : List AV) = []) ∧ True] (by kernel_rfl) ⟨⟨(con_bool h1 (l02Ok_ok ik)), ⟨(fun h => by cases h), rfl, ⟨⟨(fun h => by cases h), rfl, rfl, fun i _ => .inl rfl⟩, rfl⟩⟩, trivial⟩, trivial⟩ ?_
     refine xe_then ?_
     refine x_true rfl ?_
     refine x_seq ?_
     refine x_reg [] [4, 5] [4] [.ref 4 0, I 1] [some (.box [nilA])] [] (by kernel_rfl) trivial ?_
     refine xe_then ?_
     refine x_ret ?_
     refine xe_ret_then ?_
     refine xe_end ((Ink.mk ([] : List Stroke)), 1) (show ((Ink.mk ([] : List Stroke)) = (fitR ik side).1) ∧ (1 = (fitR ik side).2) ∧ (True) from ⟨(by first | (rw [hst]; done) | (rw [hst, hfin]; done) | (rw [hst]; exact hx1_0)), (by first | (rw [hst]; done) | (rw [hst, hfin]; done) | (rw [hst]; exact hx1_0)), trivial⟩) (trivial) (.tup [.agg [nilA], I 1]) (by kernel_rfl) (.inr ⟨⟨⟨rfl, rfl⟩, rfl⟩, ⟨rfl, rfl⟩⟩) (fun _ => rfl) (fun _ => (by simp [tagged, taggedL, tagStroke]))
  obtain ⟨⟨v, c⟩, ⟨hh0, hh1, _⟩, hc⟩ := hh
  exact ⟨v, c, hh0, hh1, hc⟩


-- slices.Sort[[]int64,int64]
theorem sort_ok (list : List Int) (hl : list.length < 4611686018427387904) : ∃ (list' : List Int), (list' = sortL list) ∧ CallOK Try.prog 193 [.arr 7201] (lookO [(7201, .arr 1 list.length (fI list))]) false (.tup []) (lookO [(7201, .arr 1 list'.length (fI list'))]) :=
  ⟨sortL list, rfl, sort_callOK (fun blk off cap zs w h1 h2 h3 => AnyG.slices_Sort_int Try.laysSort blk off cap zs w h1 h2 h3) (fun p cap w => AnyG.slices_Sort_int_none Try.laysSort p cap w) 7201 list hl⟩


-- impl.medianOf
theorem medianOf_ok (list : List Int) (hl : 1 ≤ list.length ∧ list.length ≤ 1000) : ∃ (v : Int) (list' : List Int), (v = medI list) ∧ CallOK Try.prog 167 [.arr 7201] (lookO [(7201, .arr 1 list.length (fI list))]) true (I v) (lookO [(7201, .arr 1 list'.length (fI list'))]) := by
  have hh : ∃ r : Int × (List Int), ((r.1 = medI list) ∧ (True)) ∧ CallOK Try.prog 167 [.arr 7201] (lookO [(7201, .arr 1 list.length (fI list))]) true (I r.1) (lookO [(7201, .arr 1 r.2.length (fI r.2))]) := by
    refine fn_okX (Φ := fun r : Int × (List Int) => (r.1 = medI list) ∧ (True)) [(7201, .arr 1 list.length (fI list))] (fun r => [(7201, .arr 1 r.2.length (fI r.2))]) (fn := Try.f167) (nt := 12) Try.func167 rfl rfl (args := [.arr 7201]) rfl (allcons (.inr trivial) allnil) (res := fun r => I r.1) ?_
    refine x_seq ?_
    refine x_reg [] [0] [7201] [.arr 7201] [some (.arr 1 list.length (fI list))] [] (by kernel_rfl) trivial ?_
    refine xe_then ?_
    refine x_seq ?_
    obtain ⟨list'_1, hx1_0, hc1⟩ := sort_ok list (by omega)
    have hsl : list'_1.length = list.length := by rw [hx1_0, sortL_len]
    refine x_reg [(1, .lend [(7201, .arr 1 list.length (fI list), .arr 1 list'_1.length (fI list'_1))] [] [(true, .arr 7201)] false (.tup []))] [0] [7201] [.arr 7201] [some (.arr 1 list'_1.length (fI list'_1))] [CallOK Try.prog 193 [.arr 7201] (lookO [(7201, .arr 1 list.length (fI list))]) false (.tup []) (lookO [(7201, .arr 1 list'_1.length (fI list'_1))]) ∧ ((.arr 7201 : AV) = .arr 7201) ∧ (((.arr 1 list.length (fI list) : Ob) = .arr 1 list.length (fI list) ∨ obLe noOb true (.arr 1 list.length (fI list)) (.arr 1 list.length (fI list))) ∧ taggedO false (.arr 1 list.length (fI list))) ∧ True] (by kernel_rfl) ⟨⟨hc1, rfl, ⟨.inl rfl, fun _ _ => tagcI false _⟩, trivial⟩, trivial⟩ ?_
    refine xe_then ?_
    refine x_seq ?_
    refine x_reg [(4, .nn)] [2] [7201] [I (at_ list'_1 ((((list'_1.length : Int) - 1) / 2).toNat))] [some (.arr 1 list'_1.length (fI list'_1))] [inR .i64 ((list'_1.length : Int) - 1), (0 : Int) ≤ ((list'_1.length : Int) - 1) ∧ (0 : Int) < 2 ∧ inR .i64 ((list'_1.length : Int) - 1), (0 : Int) ≤ (((list'_1.length : Int) - 1) / 2) ∧ (((list'_1.length : Int) - 1) / 2) < (list'_1.length : Int), (((list'_1.length : Int) - 1) / 2).toNat < list'_1.length] (by kernel_rfl) ⟨(inR_i64 (by omega) (by omega)), ⟨(by omega), (by omega), (inR_i64 (by omega) (by omega))⟩, ⟨(by omega), (by omega)⟩, (by omega), trivial⟩ ?_
    refine xe_then ?_
    refine x_ret ?_
    refine xe_end ((at_ list'_1 ((((list'_1.length : Int) - 1) / 2).toNat)), list'_1) (show ((at_ list'_1 ((((list'_1.length : Int) - 1) / 2).toNat)) = medI list) ∧ (True) from ⟨(by rw [hx1_0]; unfold medI; congr 1; rw [sortL_len]; omega), trivial⟩) (⟨.inl rfl, trivial⟩) (I (at_ list'_1 ((((list'_1.length : Int) - 1) / 2).toNat))) (by kernel_rfl) (.inl rfl) (fun _ => rfl) (fun _ => trivial)
  obtain ⟨⟨v, list'⟩, ⟨hh0, _⟩, hc⟩ := hh
  exact ⟨v, list', hh0, hc⟩


-- impl.BaseLineOf$1
theorem BaseLineOf1_ok (b : Box) (hb : (0 ≤ b.Y2 ∧ b.Y2 ≤ 4095) ∧ 0 ≤ b.Y1 ∧ b.Y1 ≤ 4095) : Con Try.prog 108 [agBox b] true (I b.Y2) := by
  refine fn_ok (fn := Try.f108) (nt := 5) Try.func108 rfl rfl rfl rfl (by simp [taggedL, tagged]) fun B hB => ?_
  refine aw_seq ?_
  refine aw_reg [(0, .new 1)] [1] [1] [.ref 1 0] [some (bxBox b)] [] (by kernel_rfl) hB trivial ?_
  refine ae_then ?_
  refine aw_seq ?_
  refine aw_reg [] [2] [] [I b.Y2] [] [] (by kernel_rfl) hB trivial ?_
  refine ae_then ?_
  refine aw_ret ?_
  refine ae_ret hB (I b.Y2) (by kernel_rfl) (.inl rfl) rfl (fun _ => trivial)

end Go.Proofs.Ytebcbkejkpjeoaa.Ax
