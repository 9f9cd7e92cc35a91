/- How often a stroke changes between left and right. No conditions. -/
import Derived.Test.YtjfopofcbopfjaaStk2
namespace Go.Proofs.Ytjfopofcbopfjaa
open Go.RowKit
set_option linter.unusedVariables false

/-- One step: the count so far, the last move; dx: the next move. -/
def revStep (s : Int × Int) (dx : Int) : Int × Int := if dx = 0 then s else (if (s.2 < 0 ∧ 0 < dx) ∨ (0 < s.2 ∧ dx < 0) then s.1 + 1 else s.1, dx)
def revs (xs : List Point) : Nat → Int × Int
  | 0 => (0, 0)
  | k + 1 => match xs[k]?, xs[k + 1]? with
    | some a, some b => revStep (revs xs k) (b.X - a.X)
    | _, _ => revs xs k
theorem revs_succ {xs : List Point} {k : Nat} {q p : Point} (hq : xs[k]? = some q) (hp : xs[k + 1]? = some p) : revs xs (k + 1) = revStep (revs xs k) (p.X - q.X) := by
  simp only [revs, hq, hp]
theorem revs_zero {xs : List Point} {k : Nat} {q p : Point} {c l : Int} (h : (c, l) = revs xs k) (hq : xs[k]? = some q) (hp : xs[k + 1]? = some p) (hd : p.X - q.X = 0) : (c, l) = revs xs (k + 1) := by
  rw [revs_succ hq hp, ← h, revStep, if_pos hd]
theorem revs_turn {xs : List Point} {k : Nat} {q p : Point} {c l : Int} (h : (c, l) = revs xs k) (hq : xs[k]? = some q) (hp : xs[k + 1]? = some p) (hd : (l < 0 ∧ 0 < p.X - q.X) ∨ (0 < l ∧ p.X - q.X < 0)) : (c + 1, p.X - q.X) = revs xs (k + 1) := by
  rw [revs_succ hq hp, ← h, revStep, if_neg (by omega)]
  simp only
  rw [if_pos hd]
theorem revs_on {xs : List Point} {k : Nat} {q p : Point} {c l : Int} (h : (c, l) = revs xs k) (hq : xs[k]? = some q) (hp : xs[k + 1]? = some p) (h0 : p.X - q.X ≠ 0) (hd : ¬ ((l < 0 ∧ 0 < p.X - q.X) ∨ (0 < l ∧ p.X - q.X < 0))) : (c, p.X - q.X) = revs xs (k + 1) := by
  rw [revs_succ hq hp, ← h, revStep, if_neg h0]
  simp only
  rw [if_neg hd]
theorem okP_X {p : Point} (h : okP p = true) : 0 ≤ p.X ∧ p.X ≤ 4095 := by
  unfold okP at h
  simp only [Bool.and_eq_true, inR_iff] at h
  exact h.1
theorem validS_at {xs : List Point} (h : validS xs = true) {k : Nat} {p : Point} (hp : xs[k]? = some p) : okP p = true := ((validS_iff.1 h).1 k p (List.getElem?_eq_some_iff.1 hp).1 hp).1
theorem validS_len {xs : List Point} (h : validS xs = true) : 1 ≤ xs.length ∧ xs.length ≤ 60 := (validS_iff.1 h).2

set_option maxHeartbeats 3200000 in
theorem l23Reversals_any (g o : Nat) (cs : List Value) (x : Stroke) (w : World) (hx : At strokeR w (Old w) g o cs x) (hv : validS x.Points = true) :
    Calls Try.prog 36 #[.pointer (some ⟨g, o, none⟩)] w (Quiet w (.int .i64 (revs x.Points (x.Points.length - 1)).1)) := by
  obtain ⟨hg, ⟨v, rfl, h1⟩, hc⟩ := hx
  obtain ⟨A, c, rfl, hl, hm, hC⟩ := h1
  have cs0 := hc 0 _ rfl
  simp only [Nat.add_zero] at cs0
  obtain ⟨xs, rfl⟩ : ∃ xs, x = ⟨xs⟩ := ⟨x.Points, rfl⟩
  simp only at cs0 hC hv ⊢
  obtain ⟨n, hn⟩ : ∃ n, n = xs.length := ⟨_, rfl⟩
  have hlen := validS_len hv
  rw [← hn] at cs0 hlen
  have Hn := Lib.hid hn
  have Hv := Lib.hid hv
  clear hl hm hc hn hv
  obtain ⟨hn1, hn2⟩ := hlen
  go_enter Try.func36, Try.ntmps36
  go_wp2
  go_loopw [3, 4, 5] (fun a b i wr => ∃ (k : Nat) (c l : Int), k + 1 ≤ n ∧ a = .int .i64 c ∧ b = .int .i64 l ∧ i = .int .i64 (k + 1) ∧ Hid ((c, l) = revs xs k) ∧ 0 ≤ c ∧ c ≤ k ∧ -4095 ≤ l ∧ l ≤ 4095 ∧ ∃ m, wr = w.drewN m) (fun _ _ i _ => n - (intOf i).toNat)
  case atStart => exact ⟨0, 0, 0, by omega, rfl, rfl, rfl, rfl, by omega, by omega, by omega, by omega, 0, rfl⟩
  case round =>
    obtain ⟨k, c, l, hk, rfl, rfl, rfl, hcl, hc0, hc1, hl0', hl1', m, rfl⟩ := hrel
    by_cases hlt : k + 1 < n
    · obtain ⟨p, hp⟩ := get_lt (l := xs) (k := k + 1) (by have := Hn.out; omega)
      obtain ⟨q, hq⟩ := get_lt (l := xs) (k := k) (by have := Hn.out; omega)
      obtain ⟨hp0, hp1⟩ := okP_X (validS_at Hv.out hp)
      obtain ⟨hq0, hq1⟩ := okP_X (validS_at Hv.out hq)
      obtain ⟨b, bo, rfl, _, hbl, c0, _, _⟩ := hC.point hp
      obtain ⟨b', bo', e', _, _, d0, _, _⟩ := hC.point hq
      cases e'
      have Hp := Lib.hid hp
      have Hq := Lib.hid hq
      have hi1 : ((k : Int) + 1) < (n : Int) := by omega
      have hi2 : (k : Int) < (n : Int) := by omega
      clear hp hq
      by_cases hd0 : p.X - q.X = 0
      · have he : (p.X - q.X == 0) = true := by simpa using hd0
        have H := Lib.hid hd0
        clear hd0
        go_wp2
        go_quiet (fail)
        go_wp2
        go_roundw
        case rel => exact ⟨k + 1, c, l, by omega, rfl, rfl, by go_num, revs_zero hcl.out Hq.out Hp.out H.out, by omega, by omega, by omega, by omega, _, rfl⟩
        case measure => simp [intOf]; omega
      have he : (p.X - q.X == 0) = false := by simpa using hd0
      rcases (show p.X - q.X < 0 ∨ 0 < p.X - q.X by omega) with hd | hd
      · rcases (show l < 0 ∨ l = 0 ∨ 0 < l by omega) with hl | rfl | hl
        · have hl0 : (l == 0) = false := by rw [beq_eq_false_iff_ne]; omega
          have hl1 : (l != 0) = true := by rw [bne_iff_ne]; omega
          have hs1 : decide (q.X < p.X) = false := by simp; omega
          have hs2 : decide (0 < l) = false := by simp; omega
          have hs : (decide (q.X < p.X) == decide (0 < l)) = true := by rw [hs1, hs2]; rfl
          go_wp2
          go_quiet (fail)
          go_wp2
          go_roundw
          case rel => exact ⟨k + 1, c, p.X - q.X, by omega, rfl, rfl, by go_num, revs_on hcl.out Hq.out Hp.out hd0 (by omega), by omega, by omega, by omega, by omega, _, rfl⟩
          case measure => simp [intOf]; omega
        · have hl0 : ((0 : Int) == 0) = true := by rfl
          have hl1 : ((0 : Int) != 0) = false := by rfl
          go_wp2
          go_quiet (fail)
          go_wp2
          go_roundw
          case rel => exact ⟨k + 1, c, p.X - q.X, by omega, rfl, rfl, by go_num, revs_on hcl.out Hq.out Hp.out hd0 (by omega), by omega, by omega, by omega, by omega, _, rfl⟩
          case measure => simp [intOf]; omega
        · have hl0 : (l == 0) = false := by rw [beq_eq_false_iff_ne]; omega
          have hl1 : (l != 0) = true := by rw [bne_iff_ne]; omega
          have hs1 : decide (q.X < p.X) = false := by simp; omega
          have hs2 : decide (0 < l) = true := by simp; omega
          have hs : (decide (q.X < p.X) == decide (0 < l)) = false := by rw [hs1, hs2]; rfl
          go_wp2
          go_quiet (fail)
          go_wp2
          go_roundw
          case rel => exact ⟨k + 1, c + 1, p.X - q.X, by omega, rfl, rfl, by go_num, revs_turn hcl.out Hq.out Hp.out (by omega), by omega, by omega, by omega, by omega, _, rfl⟩
          case measure => simp [intOf]; omega
      · rcases (show l < 0 ∨ l = 0 ∨ 0 < l by omega) with hl | rfl | hl
        · have hl0 : (l == 0) = false := by rw [beq_eq_false_iff_ne]; omega
          have hl1 : (l != 0) = true := by rw [bne_iff_ne]; omega
          have hs1 : decide (q.X < p.X) = true := by simp; omega
          have hs2 : decide (0 < l) = false := by simp; omega
          have hs : (decide (q.X < p.X) == decide (0 < l)) = false := by rw [hs1, hs2]; rfl
          go_wp2
          go_quiet (fail)
          go_wp2
          go_roundw
          case rel => exact ⟨k + 1, c + 1, p.X - q.X, by omega, rfl, rfl, by go_num, revs_turn hcl.out Hq.out Hp.out (by omega), by omega, by omega, by omega, by omega, _, rfl⟩
          case measure => simp [intOf]; omega
        · have hl0 : ((0 : Int) == 0) = true := by rfl
          have hl1 : ((0 : Int) != 0) = false := by rfl
          go_wp2
          go_quiet (fail)
          go_wp2
          go_roundw
          case rel => exact ⟨k + 1, c, p.X - q.X, by omega, rfl, rfl, by go_num, revs_on hcl.out Hq.out Hp.out hd0 (by omega), by omega, by omega, by omega, by omega, _, rfl⟩
          case measure => simp [intOf]; omega
        · have hl0 : (l == 0) = false := by rw [beq_eq_false_iff_ne]; omega
          have hl1 : (l != 0) = true := by rw [bne_iff_ne]; omega
          have hs1 : decide (q.X < p.X) = true := by simp; omega
          have hs2 : decide (0 < l) = true := by simp; omega
          have hs : (decide (q.X < p.X) == decide (0 < l)) = true := by rw [hs1, hs2]; rfl
          go_wp2
          go_quiet (fail)
          go_wp2
          go_roundw
          case rel => exact ⟨k + 1, c, p.X - q.X, by omega, rfl, rfl, by go_num, revs_on hcl.out Hq.out Hp.out hd0 (by omega), by omega, by omega, by omega, by omega, _, rfl⟩
          case measure => simp [intOf]; omega
    · obtain rfl : n = k + 1 := by omega
      have H := Lib.hid (show (revs xs (xs.length - 1)).1 = c by rw [← Hn.out, Nat.add_sub_cancel, ← hcl.out])
      go_wp2
      go_ret
      exact ⟨by rw [H.out]; rfl, _, rfl⟩

set_option maxHeartbeats 3200000 in
theorem reversalsOf_any (cs : List Value) (x : Stroke) (w : World) (hx : strokeR.rel w (Old w) cs x) (hv : validS x.Points = true) :
    Calls Try.prog 39 #[.agg cs.toArray] w fun e w' => e = .returned (.int .i64 (revs x.Points (x.Points.length - 1)).1) ∧ Below w.heap.size w w' := by
  obtain ⟨v, rfl, h1⟩ := hx
  have hba := (Below.refl w.heap.size w).alloc (Nat.le_refl _) (.cells #[v] 42)
  have h1 := h1.up hba
  have cs0 := World.cell?_alloc_new_at w 0 #[v] 42 rfl
  obtain ⟨A, c, rfl, hl, hm, hC⟩ := h1
  obtain ⟨xs, rfl⟩ : ∃ xs, x = ⟨xs⟩ := ⟨x.Points, rfl⟩
  simp only at cs0 hC hba hv ⊢
  obtain ⟨n, hn⟩ : ∃ n, n = xs.length := ⟨_, rfl⟩
  have hlen := validS_len hv
  rw [← hn] at cs0 hba hC hlen ⊢
  have Hn := Lib.hid hn
  have Hv := Lib.hid hv
  clear hl hm hn hv
  obtain ⟨hn1, hn2⟩ := hlen
  go_enter Try.func39, Try.ntmps39
  go_wp2
  generalize w.alloc (.cells #[.slice A n c] 42) = W0 at *
  go_loopw [3, 4, 5] (fun a b i wr => ∃ (k : Nat) (c l : Int), k + 1 ≤ n ∧ a = .int .i64 c ∧ b = .int .i64 l ∧ i = .int .i64 (k + 1) ∧ Hid ((c, l) = revs xs k) ∧ 0 ≤ c ∧ c ≤ k ∧ -4095 ≤ l ∧ l ≤ 4095 ∧ ∃ m, wr = W0.drewN m) (fun _ _ i _ => n - (intOf i).toNat)
  case atStart => exact ⟨0, 0, 0, by omega, rfl, rfl, rfl, rfl, by omega, by omega, by omega, by omega, 0, rfl⟩
  case round =>
    obtain ⟨k, c, l, hk, rfl, rfl, rfl, hcl, hc0, hc1, hl0', hl1', m, rfl⟩ := hrel
    by_cases hlt : k + 1 < n
    · obtain ⟨p, hp⟩ := get_lt (l := xs) (k := k + 1) (by have := Hn.out; omega)
      obtain ⟨q, hq⟩ := get_lt (l := xs) (k := k) (by have := Hn.out; omega)
      obtain ⟨hp0, hp1⟩ := okP_X (validS_at Hv.out hp)
      obtain ⟨hq0, hq1⟩ := okP_X (validS_at Hv.out hq)
      obtain ⟨b, bo, rfl, _, hbl, c0, _, _⟩ := hC.point hp
      obtain ⟨b', bo', e', _, _, d0, _, _⟩ := hC.point hq
      cases e'
      have Hp := Lib.hid hp
      have Hq := Lib.hid hq
      have hi1 : ((k : Int) + 1) < (n : Int) := by omega
      have hi2 : (k : Int) < (n : Int) := by omega
      clear hp hq
      by_cases hd0 : p.X - q.X = 0
      · have he : (p.X - q.X == 0) = true := by simpa using hd0
        have H := Lib.hid hd0
        clear hd0
        go_wp2
        go_quiet (fail)
        go_wp2
        go_roundw
        case rel => exact ⟨k + 1, c, l, by omega, rfl, rfl, by go_num, revs_zero hcl.out Hq.out Hp.out H.out, by omega, by omega, by omega, by omega, _, rfl⟩
        case measure => simp [intOf]; omega
      have he : (p.X - q.X == 0) = false := by simpa using hd0
      rcases (show p.X - q.X < 0 ∨ 0 < p.X - q.X by omega) with hd | hd
      · have hs1 : decide (q.X < p.X) = false := by simp; omega
        have hs2 : decide (p.X < q.X) = true := by simp; omega
        have hs3 : decide (p.X - q.X < 0) = true := by simp; omega
        have hs4 : decide (0 < p.X - q.X) = false := by simp; omega
        rcases (show l < 0 ∨ l = 0 ∨ 0 < l by omega) with hl | rfl | hl
        · have hs5 : decide (0 < l) = false := by simp; omega
          have hs6 : decide (l < 0) = true := by simp; omega
          go_wp2
          go_quiet (fail)
          go_wp2
          go_roundw
          case rel => exact ⟨k + 1, c, p.X - q.X, by omega, rfl, rfl, by go_num, revs_on hcl.out Hq.out Hp.out hd0 (by omega), by omega, by omega, by omega, by omega, _, rfl⟩
          case measure => simp [intOf]; omega
        · have hs5 : decide ((0 : Int) < 0) = false := rfl
          go_wp2
          go_quiet (fail)
          go_wp2
          go_roundw
          case rel => exact ⟨k + 1, c, p.X - q.X, by omega, rfl, rfl, by go_num, revs_on hcl.out Hq.out Hp.out hd0 (by omega), by omega, by omega, by omega, by omega, _, rfl⟩
          case measure => simp [intOf]; omega
        · have hs5 : decide (0 < l) = true := by simp; omega
          have hs6 : decide (l < 0) = false := by simp; omega
          go_wp2
          go_quiet (fail)
          go_wp2
          go_roundw
          case rel => exact ⟨k + 1, c + 1, p.X - q.X, by omega, rfl, rfl, by go_num, revs_turn hcl.out Hq.out Hp.out (by omega), by omega, by omega, by omega, by omega, _, rfl⟩
          case measure => simp [intOf]; omega
      · have hs1 : decide (q.X < p.X) = true := by simp; omega
        have hs2 : decide (p.X < q.X) = false := by simp; omega
        have hs3 : decide (p.X - q.X < 0) = false := by simp; omega
        have hs4 : decide (0 < p.X - q.X) = true := by simp; omega
        rcases (show l < 0 ∨ l = 0 ∨ 0 < l by omega) with hl | rfl | hl
        · have hs5 : decide (0 < l) = false := by simp; omega
          have hs6 : decide (l < 0) = true := by simp; omega
          go_wp2
          go_quiet (fail)
          go_wp2
          go_roundw
          case rel => exact ⟨k + 1, c + 1, p.X - q.X, by omega, rfl, rfl, by go_num, revs_turn hcl.out Hq.out Hp.out (by omega), by omega, by omega, by omega, by omega, _, rfl⟩
          case measure => simp [intOf]; omega
        · have hs5 : decide ((0 : Int) < 0) = false := rfl
          go_wp2
          go_quiet (fail)
          go_wp2
          go_roundw
          case rel => exact ⟨k + 1, c, p.X - q.X, by omega, rfl, rfl, by go_num, revs_on hcl.out Hq.out Hp.out hd0 (by omega), by omega, by omega, by omega, by omega, _, rfl⟩
          case measure => simp [intOf]; omega
        · have hs5 : decide (0 < l) = true := by simp; omega
          have hs6 : decide (l < 0) = false := by simp; omega
          go_wp2
          go_quiet (fail)
          go_wp2
          go_roundw
          case rel => exact ⟨k + 1, c, p.X - q.X, by omega, rfl, rfl, by go_num, revs_on hcl.out Hq.out Hp.out hd0 (by omega), by omega, by omega, by omega, by omega, _, rfl⟩
          case measure => simp [intOf]; omega
    · obtain rfl : n = k + 1 := by omega
      have H := Lib.hid (show (revs xs (xs.length - 1)).1 = c by rw [← Hn.out, Nat.add_sub_cancel, ← hcl.out])
      go_wp2
      go_ret
      exact ⟨by rw [Hn.out, H.out]; rfl, below_drewN hba _⟩

/-- What ReversalsOf returns. -/
noncomputable def revR (x : Stroke) : Int × Int := if validS x.Points = true then ((revs x.Points (x.Points.length - 1)).1, 0) else (0, 1)

set_option maxHeartbeats 800000 in
theorem specReversalsOf_any (cs : List Value) (x : Stroke) (w : World) (hx : strokeR.rel w (Old w) cs x) :
    Calls Try.prog 16 #[.agg cs.toArray] w fun e w' => e = .returned (.tuple #[.int .i64 (revR x).1, .int .i64 (revR x).2]) ∧ Below w.heap.size w w' := by
  have ha := At.box strokeR hx 42
  obtain ⟨v, rfl, _⟩ := hx
  have hba := (Below.refl w.heap.size w).alloc (Nat.le_refl _) (.cells #[v] 42)
  by_cases hv : validS x.Points = true
  · have H := Lib.hid (show revR x = ((revs x.Points (x.Points.length - 1)).1, 0) from if_pos hv)
    go_enter Try.func16, Try.ntmps16
    go_wp2_with fail
    have hh := l02Stroke_any _ _ _ x _ ha
    refine hh.mono ?_
    clear hh
    rintro e w1 ⟨rfl, hb1⟩
    rw [hv]
    go_wp2_with fail
    have hh := l23Reversals_any _ _ _ x _ (ha.up hb1) hv
    refine hh.mono ?_
    clear hh
    rintro e w2 ⟨rfl, n, rfl⟩
    go_wp2_with fail
    go_ret2
    exact ⟨by rw [H.out]; rfl, below_drewN (hba.trans (hb1.mono hba.size)) n⟩
  · have hv : validS x.Points = false := by simpa using hv
    have H := Lib.hid (show revR x = (0, 1) from if_neg (by rw [hv]; decide))
    go_enter Try.func16, Try.ntmps16
    go_wp2_with fail
    have hh := l02Stroke_any _ _ _ x _ ha
    refine hh.mono ?_
    clear hh
    rintro e w1 ⟨rfl, hb1⟩
    rw [hv]
    go_wp2_with fail
    go_ret2
    exact ⟨by rw [H.out]; rfl, hba.trans (hb1.mono hba.size)⟩

set_option maxHeartbeats 800000 in
theorem implReversalsOf_any (cs : List Value) (x : Stroke) (w : World) (hx : strokeR.rel w (Old w) cs x) :
    Calls Try.prog 18 #[.agg cs.toArray] w fun e w' => e = .returned (.tuple #[.int .i64 (revR x).1, .int .i64 (revR x).2]) ∧ Below w.heap.size w w' := by
  have ha := At.box strokeR hx 42
  obtain ⟨v, rfl, _⟩ := hx
  have hba := (Below.refl w.heap.size w).alloc (Nat.le_refl _) (.cells #[v] 42)
  by_cases hv : validS x.Points = true
  · have H := Lib.hid (show revR x = ((revs x.Points (x.Points.length - 1)).1, 0) from if_pos hv)
    go_enter Try.func18, Try.ntmps18
    go_wp2_with fail
    have hh := ValidStroke_any _ x _ ha.2.1
    refine hh.mono ?_
    clear hh
    rintro e w1 ⟨rfl, hb1⟩
    rw [hv]
    obtain ⟨hc1, _⟩ := bcell hb1
    have c0 := (ha.up hb1).2.2 0 _ rfl
    simp only [Nat.zero_add] at c0
    go_wp2_with fail
    have hh := reversalsOf_any _ x _ (ha.up hb1).2.1 hv
    refine hh.mono ?_
    clear hh
    rintro e w2 ⟨rfl, hb2⟩
    go_wp2_with fail
    go_ret2
    exact ⟨by rw [H.out]; rfl, (hba.trans (hb1.mono hba.size)).trans (hb2.mono (Nat.le_trans hba.size hb1.size))⟩
  · have hv : validS x.Points = false := by simpa using hv
    have H := Lib.hid (show revR x = (0, 1) from if_neg (by rw [hv]; decide))
    go_enter Try.func18, Try.ntmps18
    go_wp2_with fail
    have hh := ValidStroke_any _ x _ ha.2.1
    refine hh.mono ?_
    clear hh
    rintro e w1 ⟨rfl, hb1⟩
    rw [hv]
    go_wp2_with fail
    go_ret2
    exact ⟨by rw [H.out]; rfl, hba.trans (hb1.mono hba.size)⟩
end Go.Proofs.Ytjfopofcbopfjaa
