/- How the data types of this seat lie in memory, and what the law package's helpers (sz, to, eq) do with them. No conditions. Written by gen.py. -/
import Derived.Test.YtjfopofcbopfjaaMem
import Derived.Deep.QuietTactic
import Derived.BigQuiet
import Derived.Deep.RegionHeld3
namespace Go.Proofs.Ytjfopofcbopfjaa
open Go.RowKit
set_option linter.unusedVariables false
set_option linter.unusedSimpArgs false

structure Feat where
  X : Int
  Y : Int
  D : Int
deriving DecidableEq
def featR : Rep Feat :=
  { sz := 3
    rel := fun w S cs x => cs = [.int .i64 x.X, .int .i64 x.Y, .int .i64 x.D]
    len := fun h => by rw [h]; rfl
    keep := fun h _ => h }
def bulkFeatS (xs : List Feat) : Nat := xs.length
theorem Cells.feat {w : World} {S : Nat → Prop} {A : Option Addr} {xs : List Feat} (h : Cells featR w S A xs) {i : Nat} {x : Feat} (hi : xs[i]? = some x) :
    ∃ b o, A = some ⟨b, o, none⟩ ∧ S b ∧ b < w.heap.size ∧ w.cell? ⟨b, o + i * 3, none⟩ = some (.int .i64 x.X) ∧ w.cell? ⟨b, o + i * 3 + 1, none⟩ = some (.int .i64 x.Y) ∧ w.cell? ⟨b, o + i * 3 + 2, none⟩ = some (.int .i64 x.D) := by
  obtain ⟨b, o, cs, hA, hS, hlt, hr, hc⟩ := h.at_ hi
  cases hr
  exact ⟨b, o, hA, hS, hlt, hc 0 _ rfl, hc 1 _ rfl, hc 2 _ rfl⟩

theorem Try.infoFeat : (Try.prog.info? 66).map (fun i => (i.zero, i.size, i.bytes)) = some (some (.agg #[.int .i64 0, .int .i64 0, .int .i64 0]), 3, 24) := by kernel_rfl

theorem Try.cellsLFeat0 : Try.prog.cellsOf 2 = 1 := by kernel_rfl
theorem Try.cellsLFeat1 : Try.prog.cellsOf 2 = 1 := by kernel_rfl
theorem Try.cellsLFeat2 : Try.prog.cellsOf 2 = 1 := by kernel_rfl
def okFeat (x : Feat) : Prop := okInt x.X ∧ okInt x.Y ∧ okInt x.D
theorem Try.lawsCellsFeat : Try.prog.cellsOf 87 = 3 := by kernel_rfl
theorem opens_feat : Opens Try.prog 87 featR okFeat := by
  intro H enc w base spare held fuel cs y h
  obtain ⟨ys, n, _, _, hlen, hyl, hf⟩ := DataW.trod_struct Try.underlying87 h
  rw [Try.lawsCellsFeat] at hlen
  obtain ⟨c0, c1, c2, rfl⟩ := len_3 hlen
  have f0 := hf 0 _ rfl
  obtain ⟨x0, r0, o0⟩ := (opens_int Try.underlying2) enc w base spare held _ _ _ (f0.trans (List.getElem?_eq_getElem (by rw [hyl]; decide)))
  simp [intR, Try.cellsLFeat0] at r0
  have f1 := hf 1 _ rfl
  obtain ⟨x1, r1, o1⟩ := (opens_int Try.underlying2) enc w base spare held _ _ _ (f1.trans (List.getElem?_eq_getElem (by rw [hyl]; decide)))
  simp [intR, Try.cellsLFeat1] at r1
  have f2 := hf 2 _ rfl
  obtain ⟨x2, r2, o2⟩ := (opens_int Try.underlying2) enc w base spare held _ _ _ (f2.trans (List.getElem?_eq_getElem (by rw [hyl]; decide)))
  simp [intR, Try.cellsLFeat2] at r2
  obtain rfl := r0
  obtain rfl := r1
  obtain rfl := r2
  exact ⟨⟨x0, x1, x2⟩, rfl, o0, o1, o2⟩

theorem szFeatS_any (v : Value) (xs : List Feat) (l : Int) (w : World) (h : Sl featR w (Old w) v xs) (h0 : 0 ≤ l) (h1 : l ≤ 1048576) :
    Calls Try.prog 29 #[v, .int .i64 l] w fun e w' => e = .returned (.int .i64 (szTake l (bulkFeatS xs))) ∧ Below w.heap.size w w' := by
  obtain ⟨A, c, rfl, hc, hm, _⟩ := h
  have hn := Nat.le_trans hc hm
  unfold bulkFeatS
  obtain ⟨n, hn'⟩ : ∃ n, n = xs.length := ⟨_, rfl⟩
  rw [← hn'] at hn ⊢
  unfold maxLen at hn
  clear hn' hc hm
  by_cases g : l < n
  · have H := Lib.hid (szTake_neg g)
    go_enter Try.func29, Try.ntmps29
    go_wp2
    go_ret
    exact ⟨by rw [H.out]; rfl, Below.refl _ _⟩
  · have g := Int.not_lt.1 g
    have H := Lib.hid (szTake_of g)
    go_enter Try.func29, Try.ntmps29
    go_wp2
    go_ret
    exact ⟨by rw [H.out]; rfl, Below.refl _ _⟩

set_option maxHeartbeats 800000 in
theorem toFeat_any (x : Feat) (cs : List Value) (w : World) (h : featR.rel w (Old w) cs x) :
    Calls Try.prog 52 #[.agg cs.toArray] w (Made featR w x) := by
  cases h
  go_enter Try.func52, Try.ntmps52
  go_wp2_with fail
  refine bodyPost_ret (v := .agg #[.int .i64 x.X, .int .i64 x.Y, .int .i64 x.D]) ?hr rfl ?hR
  case hr => simp [results, Try.results52, go_sem]
  refine ⟨[.int .i64 x.X, .int .i64 x.Y, .int .i64 x.D], rfl, rfl, ?_⟩
  · repeat (first | (with_reducible exact Below.refl _ _) | (with_reducible refine Below.drewN ?_ _) | (with_reducible refine Below.drew ?_) | (with_reducible refine Below.alloc ?_ (by first | (simp; done) | (simp; omega) | omega) _) | (with_reducible refine Below.setCell ?_ (by first | (simp; done) | (simp; omega) | omega) _))

set_option maxHeartbeats 800000 in
theorem toFeatS_any (v : Value) (xs : List Feat) (w : World) (hx : Sl featR w (Old w) v xs) (hbk : bulkFeatS xs ≤ 1048576) :
    Calls Try.prog 31 #[v] w (MadeS featR w xs) := by
  obtain ⟨A, c, rfl, hc, hm, hC⟩ := hx
  obtain ⟨n, hn⟩ : ∃ n, n = xs.length := ⟨_, rfl⟩
  have hs : n ≤ 1048576 := by unfold bulkFeatS at hbk; omega
  rw [← hn]
  have Hn := Lib.hid hn
  have Hbk := Lib.hid hbk
  clear hn hc hm hbk
  have hmk := fun W => make_n 29 66 _ _ _ Try.underlying29 Try.infoFeat (by decide) n hs W
  go_enter Try.func31, Try.ntmps31
  go_wp2
  clear hmk
  go_loopw [4] (fun i wr => ∃ k : Nat, k ≤ n ∧ i = .int .i64 k ∧ Filled featR wr w.heap.size 66 n xs k ∧ Below w.heap.size w wr) (fun i _ => n - (intOf i).toNat)
  case atStart => exact ⟨0, Nat.zero_le _, rfl, Filled.start featR w _ n xs _ (by simp [featR, size_madeCells]), (Below.refl _ _).alloc (Nat.le_refl _) _⟩
  case round =>
    obtain ⟨k, hk, rfl, hF, hb⟩ := hrel
    by_cases hlt : k < n
    · obtain ⟨x, hx⟩ := get_lt (l := xs) (k := k) (by have := Hn.out; omega)
      obtain ⟨b, o, rfl, _, hbl, c0, c1, c2⟩ := (hC.up hb).feat hx
      have Hx := Lib.hid hx
      clear hx
      go_wp2_with (
        go_at_call 52
        refine (toFeat_any x [.int .i64 x.X, .int .i64 x.Y, .int .i64 x.D] _ rfl).mono ?_
        rintro e w1 ⟨cs1, rfl, hr1, hb1⟩
        cases hr1
        have hF1 := hF.below hb1
        obtain ⟨u0, z0⟩ := hF1.cell hlt 0 (by decide)
        obtain ⟨u1, z1⟩ := hF1.cell hlt 1 (by decide)
        obtain ⟨u2, z2⟩ := hF1.cell hlt 2 (by decide)
        have f0 := hF1.free
        simp only [featR, Nat.add_zero] at z0 z1 z2)
      go_roundw
      case rel => exact ⟨k + 1, by omega, by go_num, hF.step hb1 hlt Hx.out (cs := [.int .i64 x.X, .int .i64 x.Y, .int .i64 x.D]) rfl, storeAll_below _ (Nat.le_refl _) [.int .i64 x.X, .int .i64 x.Y, .int .i64 x.D] _ _ (hb.trans (hb1.mono hb.size))⟩
      case measure => simp [intOf]; omega
    · obtain rfl : k = n := by omega
      go_wp2
      go_ret
      obtain rfl : k = xs.length := Hn.out
      exact ⟨_, rfl, hF.sl (by unfold maxLen; omega) (Nat.le_refl _), hb⟩

set_option maxHeartbeats 1600000 in
theorem eqFeat_any (x y : Feat) (cs ds : List Value) (w : World) (h : featR.rel w (Old w) cs x) (h' : featR.rel w (Old w) ds y) :
    Calls Try.prog 53 #[.agg cs.toArray, .agg ds.toArray] w fun e w' => e = .returned (.bool (same x y)) ∧ Below w.heap.size w w' := by
  cases h
  cases h'
  by_cases e0 : x.X = y.X
  rotate_left
  · have H := Lib.hid (show same x y = false from same_not (fun e => e0 (by rw [e])))
    go_enter Try.func53, Try.ntmps53
    go_wp2_with fail
    go_ret
    refine ⟨?_, ?_⟩
    · rw [H.out]; rfl
    · repeat (first | (with_reducible exact Below.refl _ _) | (with_reducible refine Below.drewN ?_ _) | (with_reducible refine Below.drew ?_) | (with_reducible refine Below.alloc ?_ (by first | (simp; done) | (simp; omega) | omega) _) | (with_reducible refine Below.setCell ?_ (by first | (simp; done) | (simp; omega) | omega) _))
  by_cases e1 : x.Y = y.Y
  rotate_left
  · have H := Lib.hid (show same x y = false from same_not (fun e => e1 (by rw [e])))
    rw [e0]
    clear e0
    go_enter Try.func53, Try.ntmps53
    go_wp2_with fail
    go_ret
    refine ⟨?_, ?_⟩
    · rw [H.out]; rfl
    · repeat (first | (with_reducible exact Below.refl _ _) | (with_reducible refine Below.drewN ?_ _) | (with_reducible refine Below.drew ?_) | (with_reducible refine Below.alloc ?_ (by first | (simp; done) | (simp; omega) | omega) _) | (with_reducible refine Below.setCell ?_ (by first | (simp; done) | (simp; omega) | omega) _))
  by_cases e2 : x.D = y.D
  rotate_left
  · have H := Lib.hid (show same x y = false from same_not (fun e => e2 (by rw [e])))
    rw [e0]
    rw [e1]
    clear e0 e1
    go_enter Try.func53, Try.ntmps53
    go_wp2_with fail
    go_ret
    refine ⟨?_, ?_⟩
    · rw [H.out]; rfl
    · repeat (first | (with_reducible exact Below.refl _ _) | (with_reducible refine Below.drewN ?_ _) | (with_reducible refine Below.drew ?_) | (with_reducible refine Below.alloc ?_ (by first | (simp; done) | (simp; omega) | omega) _) | (with_reducible refine Below.setCell ?_ (by first | (simp; done) | (simp; omega) | omega) _))
  have H := Lib.hid (show same x y = true by rw [same_iff]; cases x; cases y; simp_all)
  rw [e0]
  rw [e1]
  rw [e2]
  clear e0 e1 e2
  go_enter Try.func53, Try.ntmps53
  go_wp2_with fail
  go_ret
  refine ⟨?_, ?_⟩
  · rw [H.out]; rfl
  · repeat (first | (with_reducible exact Below.refl _ _) | (with_reducible refine Below.drewN ?_ _) | (with_reducible refine Below.drew ?_) | (with_reducible refine Below.alloc ?_ (by first | (simp; done) | (simp; omega) | omega) _) | (with_reducible refine Below.setCell ?_ (by first | (simp; done) | (simp; omega) | omega) _))

set_option maxHeartbeats 1600000 in
theorem eqFeatS_any (v v' : Value) (xs ys : List Feat) (w : World) (hx : Sl featR w (Old w) v xs) (hy : Sl featR w (Old w) v' ys) :
    Calls Try.prog 33 #[v, v'] w fun e w' => e = .returned (.bool (same xs ys)) ∧ Below w.heap.size w w' := by
  obtain ⟨A, c, rfl, hc, hm, hC⟩ := hx
  obtain ⟨A', c', rfl, hc', hm', hC'⟩ := hy
  have hs := Nat.le_trans hc hm
  have hs' := Nat.le_trans hc' hm'
  unfold maxLen at hs hs'
  clear hc hm hc' hm'
  by_cases hl : xs.length = ys.length
  · obtain ⟨n, hn⟩ : ∃ n, n = xs.length := ⟨_, rfl⟩
    have Hl := Lib.hid (hn.trans hl)
    rw [← hl, ← hn]
    rw [← hn] at hs
    have Hn := Lib.hid hn
    clear hn hl hs'
    go_enter Try.func33, Try.ntmps33
    go_wp2
    go_loopw [5] (fun i wr => ∃ k : Nat, k ≤ n ∧ i = .int .i64 k ∧ Hid (xs.take k = ys.take k) ∧ Below w.heap.size w wr) (fun i _ => n - (intOf i).toNat)
    case atStart => exact ⟨0, Nat.zero_le _, rfl, rfl, Below.refl _ _⟩
    case round =>
      obtain ⟨k, hk, rfl, he, hb⟩ := hrel
      by_cases hlt : k < n
      · obtain ⟨x, hx⟩ := get_lt (l := xs) (k := k) (by have := Hn.out; omega)
        obtain ⟨y, hy⟩ := get_lt (l := ys) (k := k) (by have := Hl.out; omega)
        obtain ⟨b, o, rfl, _, hbl, c0, c1, c2⟩ := (hC.up hb).feat hx
        obtain ⟨b', o', rfl, _, hbl', d0, d1, d2⟩ := (hC'.up hb).feat hy
        have Hx := Lib.hid hx
        have Hy := Lib.hid hy
        clear hx hy
        by_cases hxy : x = y
        · have H := Lib.hid hxy
          have hsame := same_iff.2 hxy
          clear hxy
          go_wp2
          go_region_held3 (fun w' => w'.cell? ⟨b, o + k * 3, none⟩ = some (.int .i64 x.X) ∧ w'.cell? ⟨b, o + k * 3 + 1, none⟩ = some (.int .i64 x.Y) ∧ w'.cell? ⟨b, o + k * 3 + 2, none⟩ = some (.int .i64 x.D) ∧ w'.cell? ⟨b', o' + k * 3, none⟩ = some (.int .i64 y.X) ∧ w'.cell? ⟨b', o' + k * 3 + 1, none⟩ = some (.int .i64 y.Y) ∧ w'.cell? ⟨b', o' + k * 3 + 2, none⟩ = some (.int .i64 y.D))
            (first | exact ⟨(hb1.cell (p := ⟨b, _, none⟩) hbl).trans c0, (hb1.cell (p := ⟨b, _, none⟩) hbl).trans c1, (hb1.cell (p := ⟨b, _, none⟩) hbl).trans c2, (hb1.cell (p := ⟨b', _, none⟩) hbl').trans d0, (hb1.cell (p := ⟨b', _, none⟩) hbl').trans d1, (hb1.cell (p := ⟨b', _, none⟩) hbl').trans d2⟩ | go_keep)
            (first | (go_at_call 53; refine (eqFeat_any x y [.int .i64 x.X, .int .i64 x.Y, .int .i64 x.D] [.int .i64 y.X, .int .i64 y.Y, .int .i64 y.D] _ rfl rfl).mono ?_; rintro e w1 ⟨rfl, hb1⟩))
          go_wp2
          go_roundw
          case rel => exact ⟨k + 1, by omega, by go_num, take_same_step he.out Hx.out (by rw [H.out]; exact Hy.out), hb.drew.trans (hb1.mono hb.size)⟩
          case measure => simp [intOf]; omega
        · have H := Lib.hid hxy
          have hsame := same_not hxy
          clear hxy
          go_wp2
          go_region_held3 (fun w' => w'.cell? ⟨b, o + k * 3, none⟩ = some (.int .i64 x.X) ∧ w'.cell? ⟨b, o + k * 3 + 1, none⟩ = some (.int .i64 x.Y) ∧ w'.cell? ⟨b, o + k * 3 + 2, none⟩ = some (.int .i64 x.D) ∧ w'.cell? ⟨b', o' + k * 3, none⟩ = some (.int .i64 y.X) ∧ w'.cell? ⟨b', o' + k * 3 + 1, none⟩ = some (.int .i64 y.Y) ∧ w'.cell? ⟨b', o' + k * 3 + 2, none⟩ = some (.int .i64 y.D))
            (first | exact ⟨(hb1.cell (p := ⟨b, _, none⟩) hbl).trans c0, (hb1.cell (p := ⟨b, _, none⟩) hbl).trans c1, (hb1.cell (p := ⟨b, _, none⟩) hbl).trans c2, (hb1.cell (p := ⟨b', _, none⟩) hbl').trans d0, (hb1.cell (p := ⟨b', _, none⟩) hbl').trans d1, (hb1.cell (p := ⟨b', _, none⟩) hbl').trans d2⟩ | go_keep)
            (first | (go_at_call 53; refine (eqFeat_any x y [.int .i64 x.X, .int .i64 x.Y, .int .i64 x.D] [.int .i64 y.X, .int .i64 y.Y, .int .i64 y.D] _ rfl rfl).mono ?_; rintro e w1 ⟨rfl, hb1⟩))
          go_wp2
          go_ret
          exact ⟨by rw [not_same_at Hx.out Hy.out H.out]; rfl, hb.drew.trans (hb1.mono hb.size)⟩
      · obtain rfl : k = n := by omega
        go_wp2
        go_ret
        refine ⟨?_, hb⟩
        have h1 := he.out
        rw [List.take_of_length_le (by rw [← Hn.out]; exact Nat.le_refl _), List.take_of_length_le (by rw [← Hl.out]; exact Nat.le_refl _)] at h1
        rw [same_iff.2 h1]
        rfl
  · have H := Lib.hid (same_len (x := xs) (y := ys) hl)
    go_enter Try.func33, Try.ntmps33
    go_wp2
    go_ret
    exact ⟨by rw [H.out]; rfl, Below.refl _ _⟩

structure Trained where
  Label : ByteArray
  Base : List Feat
  Feats : List Feat
  Count : Int
deriving DecidableEq
def trainedR : Rep Trained :=
  { sz := 4
    rel := fun w S cs x => ∃ vBase vFeats, cs = [.string x.Label, vBase, vFeats, .int .i64 x.Count] ∧ x.Label.size ≤ maxLen ∧ Sl featR w S vBase x.Base ∧ Sl featR w S vFeats x.Feats
    len := fun h => by obtain ⟨vBase, vFeats, rfl, bLabel, hBase, hFeats⟩ := h; rfl
    keep := fun h hk => by obtain ⟨vBase, vFeats, rfl, bLabel, hBase, hFeats⟩ := h; exact ⟨vBase, vFeats, rfl, bLabel, hBase.keep hk, hFeats.keep hk⟩ }
def bulkTrained (x : Trained) : Nat := x.Label.size + bulkFeatS x.Base + bulkFeatS x.Feats
def bulkTrainedS : List Trained → Nat
  | [] => 0
  | x :: r => 1 + bulkTrained x + bulkTrainedS r
theorem bulkTrainedS_append (xs ys : List Trained) : bulkTrainedS (xs ++ ys) = bulkTrainedS xs + bulkTrainedS ys := by
  induction xs with
  | nil => simp [bulkTrainedS]
  | cons x r ih => simp [bulkTrainedS, ih]; omega
theorem bulkTrainedS_len (xs : List Trained) : xs.length ≤ bulkTrainedS xs := by
  induction xs with
  | nil => simp
  | cons x r ih => simp [bulkTrainedS]; omega
theorem bulkTrainedS_mem {xs : List Trained} {k : Nat} {x : Trained} (h : xs[k]? = some x) : xs.length + bulkTrained x ≤ bulkTrainedS xs := by
  induction xs generalizing k with
  | nil => simp at h
  | cons y r ih =>
    cases k with
    | zero => simp at h; subst h; have := bulkTrainedS_len r; simp [bulkTrainedS]; omega
    | succ k => have := ih (by simpa using h); simp [bulkTrainedS]; omega
def cumTrainedS (xs : List Trained) (k : Nat) : Nat := xs.length + ((xs.take k).map bulkTrained).sum
theorem sumTrainedS (xs : List Trained) : xs.length + (xs.map bulkTrained).sum = bulkTrainedS xs := by
  induction xs with
  | nil => rfl
  | cons x r ih => simp [bulkTrainedS]; omega
theorem cumTrainedS_step {xs : List Trained} {k : Nat} {x : Trained} (h : xs[k]? = some x) : cumTrainedS xs (k + 1) = cumTrainedS xs k + bulkTrained x := by
  simp [cumTrainedS, take_snoc h]; omega
theorem cumTrainedS_all (xs : List Trained) : cumTrainedS xs xs.length = bulkTrainedS xs := by simp [cumTrainedS, sumTrainedS]
theorem cumTrainedS_le (xs : List Trained) (k : Nat) : cumTrainedS xs k ≤ bulkTrainedS xs := by
  rw [← sumTrainedS]
  unfold cumTrainedS
  have : (xs.map bulkTrained).sum = ((xs.take k).map bulkTrained).sum + ((xs.drop k).map bulkTrained).sum := by rw [← List.sum_append, ← List.map_append, List.take_append_drop]
  omega
theorem Cells.trained {w : World} {S : Nat → Prop} {A : Option Addr} {xs : List Trained} (h : Cells trainedR w S A xs) {i : Nat} {x : Trained} (hi : xs[i]? = some x) :
    ∃ b o vBase vFeats, A = some ⟨b, o, none⟩ ∧ S b ∧ b < w.heap.size ∧ w.cell? ⟨b, o + i * 4, none⟩ = some (.string x.Label) ∧ w.cell? ⟨b, o + i * 4 + 1, none⟩ = some (vBase) ∧ w.cell? ⟨b, o + i * 4 + 2, none⟩ = some (vFeats) ∧ w.cell? ⟨b, o + i * 4 + 3, none⟩ = some (.int .i64 x.Count) ∧ x.Label.size ≤ maxLen ∧ Sl featR w S vBase x.Base ∧ Sl featR w S vFeats x.Feats := by
  obtain ⟨b, o, cs, hA, hS, hlt, hr, hc⟩ := h.at_ hi
  obtain ⟨vBase, vFeats, rfl, bLabel, hBase, hFeats⟩ := hr
  exact ⟨b, o, vBase, vFeats, hA, hS, hlt, hc 0 _ rfl, hc 1 _ rfl, hc 2 _ rfl, hc 3 _ rfl, bLabel, hBase, hFeats⟩

theorem Try.infoTrained : (Try.prog.info? 31).map (fun i => (i.zero, i.size, i.bytes)) = some (some (.agg #[.string ⟨#[]⟩, .slice none 0 0, .slice none 0 0, .int .i64 0]), 4, 72) := by kernel_rfl

theorem Try.cellsLTrained0 : Try.prog.cellsOf 9 = 1 := by kernel_rfl
theorem Try.cellsLTrained1 : Try.prog.cellsOf 24 = 1 := by kernel_rfl
theorem Try.cellsLTrained2 : Try.prog.cellsOf 24 = 1 := by kernel_rfl
theorem Try.cellsLTrained3 : Try.prog.cellsOf 2 = 1 := by kernel_rfl
def okTrained (x : Trained) : Prop := okStr x.Label ∧ (x.Base.length ≤ maxLen ∧ ∀ y ∈ x.Base, okFeat y) ∧ (x.Feats.length ≤ maxLen ∧ ∀ y ∈ x.Feats, okFeat y) ∧ okInt x.Count
theorem Try.lawsCellsTrained : Try.prog.cellsOf 26 = 4 := by kernel_rfl
theorem opens_trained : Opens Try.prog 26 trainedR okTrained := by
  intro H enc w base spare held fuel cs y h
  obtain ⟨ys, n, _, _, hlen, hyl, hf⟩ := DataW.trod_struct Try.underlying26 h
  rw [Try.lawsCellsTrained] at hlen
  obtain ⟨c0, c1, c2, c3, rfl⟩ := len_4 hlen
  have f0 := hf 0 _ rfl
  obtain ⟨x0, r0, o0⟩ := (opens_str Try.underlying9) enc w base spare held _ _ _ (f0.trans (List.getElem?_eq_getElem (by rw [hyl]; decide)))
  simp [strR, Try.cellsLTrained0] at r0
  have f1 := hf 1 _ rfl
  obtain ⟨x1, r1, o1⟩ := (opens_slice Try.underlying24 Try.lawsCellsFeat (by decide) opens_feat) enc w base spare held _ _ _ (f1.trans (List.getElem?_eq_getElem (by rw [hyl]; decide)))
  simp [slR, Try.cellsLTrained1] at r1
  have f2 := hf 2 _ rfl
  obtain ⟨x2, r2, o2⟩ := (opens_slice Try.underlying24 Try.lawsCellsFeat (by decide) opens_feat) enc w base spare held _ _ _ (f2.trans (List.getElem?_eq_getElem (by rw [hyl]; decide)))
  simp [slR, Try.cellsLTrained2] at r2
  have f3 := hf 3 _ rfl
  obtain ⟨x3, r3, o3⟩ := (opens_int Try.underlying2) enc w base spare held _ _ _ (f3.trans (List.getElem?_eq_getElem (by rw [hyl]; decide)))
  simp [intR, Try.cellsLTrained3] at r3
  obtain rfl := r0
  have s1 := r1
  have s2 := r2
  obtain rfl := r3
  exact ⟨⟨x0, x1, x2, x3⟩, ⟨_, _, rfl, o0, s1, s2⟩, o0, o1, o2, o3⟩

set_option maxHeartbeats 800000 in
theorem szTrained_any (x : Trained) (cs : List Value) (l : Int) (w : World) (h : trainedR.rel w (Old w) cs x) (h0 : 0 ≤ l) (h1 : l ≤ 1048576) :
    Calls Try.prog 10 #[.agg cs.toArray, .int .i64 l] w fun e w' => e = .returned (.int .i64 (szTake l (bulkTrained x))) ∧ Below w.heap.size w w' := by
  obtain ⟨vBase, vFeats, rfl, bLabel, hBase, hFeats⟩ := h
  have qBase := hBase
  obtain ⟨ABase, cBase, rfl, _⟩ := qBase
  have qFeats := hFeats
  obtain ⟨AFeats, cFeats, rfl, _⟩ := qFeats
  unfold maxLen at bLabel
  by_cases g0 : l < (x.Label.size : Nat)
  · have H := Lib.hid (show szTake l (bulkTrained x) = -1 from szTake_neg (by unfold bulkTrained; omega))
    go_enter Try.func10, Try.ntmps10
    go_wp2_with fail
    go_ret
    refine ⟨?_, ?_⟩
    · rw [H.out]; first | rfl | go_num | exact ret_int (by push_cast; omega)
    · repeat (first | (with_reducible exact Below.refl _ _) | (with_reducible refine Below.drewN ?_ _) | (with_reducible refine Below.drew ?_) | (with_reducible refine Below.alloc ?_ (by first | (simp; done) | (simp; omega) | omega) _) | (with_reducible refine Below.setCell ?_ (by first | (simp; done) | (simp; omega) | omega) _))
  have g0 := Int.not_lt.1 g0
  by_cases g1 : l - (x.Label.size : Nat) < (bulkFeatS x.Base : Nat)
  · have H := Lib.hid (show szTake l (bulkTrained x) = -1 from szTake_neg (by unfold bulkTrained; omega))
    go_enter Try.func10, Try.ntmps10
    go_wp2_with fail
    refine (szFeatS_any _ x.Base _ _ (hBase.up ?_) (by omega) (by omega)).mono ?_
    · repeat (first | (with_reducible exact Below.refl _ _) | (with_reducible refine Below.drewN ?_ _) | (with_reducible refine Below.drew ?_) | (with_reducible refine Below.alloc ?_ (by first | (simp; done) | (simp; omega) | omega) _) | (with_reducible refine Below.setCell ?_ (by first | (simp; done) | (simp; omega) | omega) _))
    rintro e w1 ⟨rfl, hb1⟩
    rw [szTake_neg g1]
    obtain ⟨hc1, hf1⟩ := bcell (hb1.mono (B' := w.heap.size + 1) (by first | (simp; done) | (simp; omega) | omega))
    have hz1 : w.heap.size + 1 ≤ w1.heap.size := by have := hb1.size; (try simp at this); omega
    go_wp2_with fail
    go_ret
    refine ⟨?_, ?_⟩
    · rw [H.out]; first | rfl | go_num | exact ret_int (by push_cast; omega)
    · repeat (first | (with_reducible exact Below.refl _ _) | (with_reducible refine Below.drewN ?_ _) | (with_reducible refine Below.drew ?_) | (with_reducible refine Below.alloc ?_ (by first | (simp; done) | (simp; omega) | omega) _) | (with_reducible refine Below.setCell ?_ (by first | (simp; done) | (simp; omega) | omega) _) | (with_reducible refine Below.trans ?_ (hb1.mono (by first | (simp; done) | (simp; omega) | omega))))
  have g1 := Int.not_lt.1 g1
  by_cases g2 : l - (x.Label.size : Nat) - (bulkFeatS x.Base : Nat) < (bulkFeatS x.Feats : Nat)
  · have H := Lib.hid (show szTake l (bulkTrained x) = -1 from szTake_neg (by unfold bulkTrained; omega))
    go_enter Try.func10, Try.ntmps10
    go_wp2_with fail
    refine (szFeatS_any _ x.Base _ _ (hBase.up ?_) (by omega) (by omega)).mono ?_
    · repeat (first | (with_reducible exact Below.refl _ _) | (with_reducible refine Below.drewN ?_ _) | (with_reducible refine Below.drew ?_) | (with_reducible refine Below.alloc ?_ (by first | (simp; done) | (simp; omega) | omega) _) | (with_reducible refine Below.setCell ?_ (by first | (simp; done) | (simp; omega) | omega) _))
    rintro e w1 ⟨rfl, hb1⟩
    rw [szTake_of g1]
    obtain ⟨hc1, hf1⟩ := bcell (hb1.mono (B' := w.heap.size + 1) (by first | (simp; done) | (simp; omega) | omega))
    have hz1 : w.heap.size + 1 ≤ w1.heap.size := by have := hb1.size; (try simp at this); omega
    go_wp2_with fail
    refine (szFeatS_any _ x.Feats _ _ (hFeats.up ?_) (by omega) (by omega)).mono ?_
    · repeat (first | (with_reducible exact Below.refl _ _) | (with_reducible refine Below.drewN ?_ _) | (with_reducible refine Below.drew ?_) | (with_reducible refine Below.alloc ?_ (by first | (simp; done) | (simp; omega) | omega) _) | (with_reducible refine Below.setCell ?_ (by first | (simp; done) | (simp; omega) | omega) _) | (with_reducible refine Below.trans ?_ (hb1.mono (by first | (simp; done) | (simp; omega) | omega))))
    rintro e w2 ⟨rfl, hb2⟩
    rw [szTake_neg g2]
    obtain ⟨hc2, hf2⟩ := bcell (hb2.mono (B' := w.heap.size + 1) (by first | (simp; done) | (simp; omega) | omega))
    have hz2 : w.heap.size + 1 ≤ w2.heap.size := by have := hb2.size; (try simp at this); omega
    go_wp2_with fail
    go_ret
    refine ⟨?_, ?_⟩
    · rw [H.out]; first | rfl | go_num | exact ret_int (by push_cast; omega)
    · repeat (first | (with_reducible exact Below.refl _ _) | (with_reducible refine Below.drewN ?_ _) | (with_reducible refine Below.drew ?_) | (with_reducible refine Below.alloc ?_ (by first | (simp; done) | (simp; omega) | omega) _) | (with_reducible refine Below.setCell ?_ (by first | (simp; done) | (simp; omega) | omega) _) | (with_reducible refine Below.trans ?_ (hb1.mono (by first | (simp; done) | (simp; omega) | omega))) | (with_reducible refine Below.trans ?_ (hb2.mono (by first | (simp; done) | (simp; omega) | omega))))
  have g2 := Int.not_lt.1 g2
  have H := Lib.hid (show szTake l (bulkTrained x) = l - (x.Label.size : Nat) - (bulkFeatS x.Base : Nat) - (bulkFeatS x.Feats : Nat) from by rw [szTake_of (by unfold bulkTrained; omega)]; unfold bulkTrained; omega)
  go_enter Try.func10, Try.ntmps10
  go_wp2_with fail
  refine (szFeatS_any _ x.Base _ _ (hBase.up ?_) (by omega) (by omega)).mono ?_
  · repeat (first | (with_reducible exact Below.refl _ _) | (with_reducible refine Below.drewN ?_ _) | (with_reducible refine Below.drew ?_) | (with_reducible refine Below.alloc ?_ (by first | (simp; done) | (simp; omega) | omega) _) | (with_reducible refine Below.setCell ?_ (by first | (simp; done) | (simp; omega) | omega) _))
  rintro e w1 ⟨rfl, hb1⟩
  rw [szTake_of g1]
  obtain ⟨hc1, hf1⟩ := bcell (hb1.mono (B' := w.heap.size + 1) (by first | (simp; done) | (simp; omega) | omega))
  have hz1 : w.heap.size + 1 ≤ w1.heap.size := by have := hb1.size; (try simp at this); omega
  go_wp2_with fail
  refine (szFeatS_any _ x.Feats _ _ (hFeats.up ?_) (by omega) (by omega)).mono ?_
  · repeat (first | (with_reducible exact Below.refl _ _) | (with_reducible refine Below.drewN ?_ _) | (with_reducible refine Below.drew ?_) | (with_reducible refine Below.alloc ?_ (by first | (simp; done) | (simp; omega) | omega) _) | (with_reducible refine Below.setCell ?_ (by first | (simp; done) | (simp; omega) | omega) _) | (with_reducible refine Below.trans ?_ (hb1.mono (by first | (simp; done) | (simp; omega) | omega))))
  rintro e w2 ⟨rfl, hb2⟩
  rw [szTake_of g2]
  obtain ⟨hc2, hf2⟩ := bcell (hb2.mono (B' := w.heap.size + 1) (by first | (simp; done) | (simp; omega) | omega))
  have hz2 : w.heap.size + 1 ≤ w2.heap.size := by have := hb2.size; (try simp at this); omega
  go_wp2_with fail
  go_ret
  refine ⟨?_, ?_⟩
  · rw [H.out]; first | rfl | go_num | exact ret_int (by push_cast; omega)
  · repeat (first | (with_reducible exact Below.refl _ _) | (with_reducible refine Below.drewN ?_ _) | (with_reducible refine Below.drew ?_) | (with_reducible refine Below.alloc ?_ (by first | (simp; done) | (simp; omega) | omega) _) | (with_reducible refine Below.setCell ?_ (by first | (simp; done) | (simp; omega) | omega) _) | (with_reducible refine Below.trans ?_ (hb1.mono (by first | (simp; done) | (simp; omega) | omega))) | (with_reducible refine Below.trans ?_ (hb2.mono (by first | (simp; done) | (simp; omega) | omega))))

set_option maxHeartbeats 800000 in
theorem szTrainedS_any (v : Value) (xs : List Trained) (l : Int) (w : World) (h : Sl trainedR w (Old w) v xs) (h0 : 0 ≤ l) (h1 : l ≤ 1048576) :
    Calls Try.prog 41 #[v, .int .i64 l] w fun e w' => e = .returned (.int .i64 (szTake l (bulkTrainedS xs))) ∧ Below w.heap.size w w' := by
  obtain ⟨A, c, rfl, hc, hm, hC⟩ := h
  have hn := Nat.le_trans hc hm
  unfold maxLen at hn
  obtain ⟨n, hn'⟩ : ∃ n, n = xs.length := ⟨_, rfl⟩
  rw [← hn'] at hn ⊢
  have Hn := Lib.hid hn'
  clear hn' hc hm
  by_cases g : l < n
  · have H := Lib.hid (show szTake l (bulkTrainedS xs) = -1 from szTake_neg (by have := bulkTrainedS_len xs; have := Hn.out; omega))
    go_enter Try.func41, Try.ntmps41
    go_wp2
    go_ret
    exact ⟨by rw [H.out]; rfl, Below.refl _ _⟩
  have g := Int.not_lt.1 g
  go_enter Try.func41, Try.ntmps41
  go_wp2
  go_loopw [1, 5] (fun s i wr => ∃ k : Nat, ∃ m : Int, k ≤ n ∧ i = .int .i64 k ∧ s = .int .i64 m ∧ 0 ≤ m ∧ m ≤ 1048576 ∧ Hid (m + cumTrainedS xs k = l) ∧ Below w.heap.size w wr) (fun _ i _ => n - (intOf i).toNat)
  case atStart => exact ⟨0, _, Nat.zero_le _, rfl, rfl, by omega, by omega, (by have := Hn.out; show l - (n : Int) + (cumTrainedS xs 0 : Nat) = l; simp [cumTrainedS]; omega), Below.refl _ _⟩
  case round =>
    obtain ⟨k, m, hk, rfl, rfl, m0, m1, hcum, hb⟩ := hrel
    by_cases hlt : k < n
    · obtain ⟨x, hx⟩ := get_lt (l := xs) (k := k) (by have := Hn.out; omega)
      obtain ⟨b, o, vBase, vFeats, rfl, _, hbl, c0, c1, c2, c3, bLabel, hBase, hFeats⟩ := (hC.up hb).trained hx
      have hstep := cumTrainedS_step hx
      have hle := cumTrainedS_le xs (k + 1)
      have Hx := Lib.hid hx
      clear hx
      by_cases g2 : m < (bulkTrained x : Nat)
      · have H := Lib.hid (show szTake l (bulkTrainedS xs) = -1 from szTake_neg (by have := hcum.out; omega))
        clear hstep hle
        go_wp2_with (go_at_call 10; refine (szTrained_any x [.string x.Label, vBase, vFeats, .int .i64 x.Count] m _ ⟨vBase, vFeats, rfl, bLabel, hBase, hFeats⟩ m0 m1).mono ?_; rintro e w1 ⟨rfl, hb1⟩; rw [szTake_neg g2])
        go_ret
        exact ⟨by rw [H.out]; rfl, hb.trans (hb1.mono hb.size)⟩
      · have g2 := Int.not_lt.1 g2
        have H := Lib.hid (show m - (bulkTrained x : Nat) + (cumTrainedS xs (k + 1) : Nat) = l by have := hcum.out; omega)
        clear hstep hle
        go_wp2_with (go_at_call 10; refine (szTrained_any x [.string x.Label, vBase, vFeats, .int .i64 x.Count] m _ ⟨vBase, vFeats, rfl, bLabel, hBase, hFeats⟩ m0 m1).mono ?_; rintro e w1 ⟨rfl, hb1⟩; rw [szTake_of g2])
        go_roundw
        case rel => exact ⟨k + 1, _, by omega, by go_num, rfl, by omega, by omega, H.out, hb.trans (hb1.mono hb.size)⟩
        case measure => simp [intOf]; omega
    · obtain rfl : k = n := by omega
      have H := Lib.hid (show szTake l (bulkTrainedS xs) = m from by have h1 := hcum.out; rw [Hn.out, cumTrainedS_all] at h1; rw [szTake_of (by omega)]; omega)
      go_wp2
      go_ret
      exact ⟨by rw [H.out]; rfl, hb⟩

set_option maxHeartbeats 800000 in
theorem toTrained_any (x : Trained) (cs : List Value) (w : World) (h : trainedR.rel w (Old w) cs x) (sBase : bulkFeatS x.Base ≤ 1048576) (sFeats : bulkFeatS x.Feats ≤ 1048576) :
    Calls Try.prog 12 #[.agg cs.toArray] w (Made trainedR w x) := by
  obtain ⟨vBase, vFeats, rfl, bLabel, hBase, hFeats⟩ := h
  have qBase := hBase
  obtain ⟨ABase, cBase, rfl, _⟩ := qBase
  have qFeats := hFeats
  obtain ⟨AFeats, cFeats, rfl, _⟩ := qFeats
  go_enter Try.func12, Try.ntmps12
  go_wp2_with fail
  refine (toFeatS_any _ x.Base _ (hBase.up ?_) sBase).mono ?_
  · repeat (first | (with_reducible exact Below.refl _ _) | (with_reducible refine Below.drewN ?_ _) | (with_reducible refine Below.drew ?_) | (with_reducible refine Below.alloc ?_ (by first | (simp; done) | (simp; omega) | omega) _) | (with_reducible refine Below.setCell ?_ (by first | (simp; done) | (simp; omega) | omega) _))
  rintro e w1 ⟨rBase, rfl, gBase, hb1⟩
  have qBase' := gBase
  obtain ⟨BBase, dBase, rfl, _⟩ := qBase'
  obtain ⟨hc1, hf1⟩ := bcell (hb1.mono (B' := w.heap.size + 1 + 1 + 1) (by first | (simp; done) | (simp; omega) | omega))
  have hz1 : w.heap.size + 1 + 1 + 1 ≤ w1.heap.size := by have := hb1.size; (try simp at this); omega
  go_wp2_with fail
  refine (toFeatS_any _ x.Feats _ (hFeats.up ?_) sFeats).mono ?_
  · repeat (first | (with_reducible exact Below.refl _ _) | (with_reducible refine Below.drewN ?_ _) | (with_reducible refine Below.drew ?_) | (with_reducible refine Below.alloc ?_ (by first | (simp; done) | (simp; omega) | omega) _) | (with_reducible refine Below.setCell ?_ (by first | (simp; done) | (simp; omega) | omega) _) | (with_reducible refine Below.trans ?_ (hb1.mono (by first | (simp; done) | (simp; omega) | omega))))
  rintro e w2 ⟨rFeats, rfl, gFeats, hb2⟩
  have qFeats' := gFeats
  obtain ⟨BFeats, dFeats, rfl, _⟩ := qFeats'
  obtain ⟨hc2, hf2⟩ := bcell (hb2.mono (B' := w.heap.size + 1 + 1 + 1) (by first | (simp; done) | (simp; omega) | omega))
  have hz2 : w.heap.size + 1 + 1 + 1 ≤ w2.heap.size := by have := hb2.size; (try simp at this); omega
  go_wp2_with fail
  refine bodyPost_ret (v := .agg #[.string x.Label, .slice BBase x.Base.length dBase, .slice BFeats x.Feats.length dFeats, .int .i64 x.Count]) ?hr rfl ?hR
  case hr => simp [results, Try.results12, go_sem, hc1, hc2]
  refine ⟨[.string x.Label, .slice BBase x.Base.length dBase, .slice BFeats x.Feats.length dFeats, .int .i64 x.Count], rfl, ⟨.slice BBase x.Base.length dBase, .slice BFeats x.Feats.length dFeats, rfl, bLabel, gBase.kp ?_ ?_, gFeats.kp ?_ ?_⟩, ?_⟩
  · repeat (first | (with_reducible exact Kp.refl _ _) | (with_reducible refine Kp.alloc ?_ _) | (with_reducible refine Kp.setCell ?_ (by first | (simp; done) | (simp; omega) | omega) _) | (with_reducible refine Kp.below ?_ hb1 (by first | (simp; done) | (simp; omega) | omega)) | (with_reducible refine Kp.below ?_ hb2 (by first | (simp; done) | (simp; omega) | omega)))
  · simp; try omega
  · repeat (first | (with_reducible exact Kp.refl _ _) | (with_reducible refine Kp.alloc ?_ _) | (with_reducible refine Kp.setCell ?_ (by first | (simp; done) | (simp; omega) | omega) _) | (with_reducible refine Kp.below ?_ hb1 (by first | (simp; done) | (simp; omega) | omega)) | (with_reducible refine Kp.below ?_ hb2 (by first | (simp; done) | (simp; omega) | omega)))
  · simp; try omega
  · repeat (first | (with_reducible exact Below.refl _ _) | (with_reducible refine Below.drewN ?_ _) | (with_reducible refine Below.drew ?_) | (with_reducible refine Below.alloc ?_ (by first | (simp; done) | (simp; omega) | omega) _) | (with_reducible refine Below.setCell ?_ (by first | (simp; done) | (simp; omega) | omega) _) | (with_reducible refine Below.trans ?_ (hb1.mono (by first | (simp; done) | (simp; omega) | omega))) | (with_reducible refine Below.trans ?_ (hb2.mono (by first | (simp; done) | (simp; omega) | omega))))

set_option maxHeartbeats 800000 in
theorem toTrainedS_any (v : Value) (xs : List Trained) (w : World) (hx : Sl trainedR w (Old w) v xs) (hbk : bulkTrainedS xs ≤ 1048576) :
    Calls Try.prog 43 #[v] w (MadeS trainedR w xs) := by
  obtain ⟨A, c, rfl, hc, hm, hC⟩ := hx
  obtain ⟨n, hn⟩ : ∃ n, n = xs.length := ⟨_, rfl⟩
  have hs : n ≤ 1048576 := by have := bulkTrainedS_len xs; omega
  rw [← hn]
  have Hn := Lib.hid hn
  have Hbk := Lib.hid hbk
  clear hn hc hm hbk
  have hmk := fun W => make_n 51 31 _ _ _ Try.underlying51 Try.infoTrained (by decide) n hs W
  go_enter Try.func43, Try.ntmps43
  go_wp2
  clear hmk
  go_loopw [4] (fun i wr => ∃ k : Nat, k ≤ n ∧ i = .int .i64 k ∧ Filled trainedR wr w.heap.size 31 n xs k ∧ Below w.heap.size w wr) (fun i _ => n - (intOf i).toNat)
  case atStart => exact ⟨0, Nat.zero_le _, rfl, Filled.start trainedR w _ n xs _ (by simp [trainedR, size_madeCells]), (Below.refl _ _).alloc (Nat.le_refl _) _⟩
  case round =>
    obtain ⟨k, hk, rfl, hF, hb⟩ := hrel
    by_cases hlt : k < n
    · obtain ⟨x, hx⟩ := get_lt (l := xs) (k := k) (by have := Hn.out; omega)
      obtain ⟨b, o, vBase, vFeats, rfl, _, hbl, c0, c1, c2, c3, bLabel, hBase, hFeats⟩ := (hC.up hb).trained hx
      have hbx := bulkTrainedS_mem hx
      have sBase : bulkFeatS x.Base ≤ 1048576 := by have := Hbk.out; unfold bulkTrained at hbx; omega
      have sFeats : bulkFeatS x.Feats ≤ 1048576 := by have := Hbk.out; unfold bulkTrained at hbx; omega
      clear hbx
      have Hx := Lib.hid hx
      clear hx
      go_wp2_with (
        go_at_call 12
        refine (toTrained_any x [.string x.Label, vBase, vFeats, .int .i64 x.Count] _ ⟨vBase, vFeats, rfl, bLabel, hBase, hFeats⟩ sBase sFeats).mono ?_
        rintro e w1 ⟨cs1, rfl, hr1, hb1⟩
        obtain ⟨rBase, rFeats, rfl, eLabel, gBase, gFeats⟩ := hr1
        obtain ⟨BBase, dBase, rfl, qBase⟩ := gBase
        obtain ⟨BFeats, dFeats, rfl, qFeats⟩ := gFeats
        have hF1 := hF.below hb1
        obtain ⟨u0, z0⟩ := hF1.cell hlt 0 (by decide)
        obtain ⟨u1, z1⟩ := hF1.cell hlt 1 (by decide)
        obtain ⟨u2, z2⟩ := hF1.cell hlt 2 (by decide)
        obtain ⟨u3, z3⟩ := hF1.cell hlt 3 (by decide)
        have f0 := hF1.free
        simp only [trainedR, Nat.add_zero] at z0 z1 z2 z3)
      go_roundw
      case rel => exact ⟨k + 1, by omega, by go_num, hF.step hb1 hlt Hx.out (cs := [.string x.Label, .slice BBase x.Base.length dBase, .slice BFeats x.Feats.length dFeats, .int .i64 x.Count]) ⟨.slice BBase x.Base.length dBase, .slice BFeats x.Feats.length dFeats, rfl, bLabel, ⟨BBase, dBase, rfl, qBase⟩, ⟨BFeats, dFeats, rfl, qFeats⟩⟩, storeAll_below _ (Nat.le_refl _) [.string x.Label, .slice BBase x.Base.length dBase, .slice BFeats x.Feats.length dFeats, .int .i64 x.Count] _ _ (hb.trans (hb1.mono hb.size))⟩
      case measure => simp [intOf]; omega
    · obtain rfl : k = n := by omega
      go_wp2
      go_ret
      obtain rfl : k = xs.length := Hn.out
      exact ⟨_, rfl, hF.sl (by unfold maxLen; omega) (Nat.le_refl _), hb⟩

set_option maxHeartbeats 1600000 in
theorem eqTrained_any (x y : Trained) (cs ds : List Value) (w : World) (h : trainedR.rel w (Old w) cs x) (h' : trainedR.rel w (Old w) ds y) :
    Calls Try.prog 14 #[.agg cs.toArray, .agg ds.toArray] w fun e w' => e = .returned (.bool (same x y)) ∧ Below w.heap.size w w' := by
  obtain ⟨vBase, vFeats, rfl, bLabel, hBase, hFeats⟩ := h
  have qBase := hBase
  obtain ⟨ABase, cBase, rfl, _⟩ := qBase
  have qFeats := hFeats
  obtain ⟨AFeats, cFeats, rfl, _⟩ := qFeats
  obtain ⟨vBase', vFeats', rfl, bLabel', hBase', hFeats'⟩ := h'
  have qBase' := hBase'
  obtain ⟨ABase', cBase', rfl, _⟩ := qBase'
  have qFeats' := hFeats'
  obtain ⟨AFeats', cFeats', rfl, _⟩ := qFeats'
  by_cases e0 : x.Label = y.Label
  rotate_left
  · have H := Lib.hid (show same x y = false from same_not (fun e => e0 (by rw [e])))
    have e0' : (x.Label.toList == y.Label.toList) = false := str_ne e0
    clear e0
    go_enter Try.func14, Try.ntmps14
    go_wp2_with fail
    go_ret
    refine ⟨?_, ?_⟩
    · rw [H.out]; rfl
    · repeat (first | (with_reducible exact Below.refl _ _) | (with_reducible refine Below.drewN ?_ _) | (with_reducible refine Below.drew ?_) | (with_reducible refine Below.alloc ?_ (by first | (simp; done) | (simp; omega) | omega) _) | (with_reducible refine Below.setCell ?_ (by first | (simp; done) | (simp; omega) | omega) _))
  by_cases e1 : x.Base = y.Base
  rotate_left
  · have H := Lib.hid (show same x y = false from same_not (fun e => e1 (by rw [e])))
    have g1 := same_not e1
    rw [e0]
    clear e0 e1
    go_enter Try.func14, Try.ntmps14
    go_wp2_with fail
    refine (eqFeatS_any _ _ x.Base y.Base _ (hBase.up ?_) (hBase'.up ?_)).mono ?_
    · repeat (first | (with_reducible exact Below.refl _ _) | (with_reducible refine Below.drewN ?_ _) | (with_reducible refine Below.drew ?_) | (with_reducible refine Below.alloc ?_ (by first | (simp; done) | (simp; omega) | omega) _) | (with_reducible refine Below.setCell ?_ (by first | (simp; done) | (simp; omega) | omega) _))
    · repeat (first | (with_reducible exact Below.refl _ _) | (with_reducible refine Below.drewN ?_ _) | (with_reducible refine Below.drew ?_) | (with_reducible refine Below.alloc ?_ (by first | (simp; done) | (simp; omega) | omega) _) | (with_reducible refine Below.setCell ?_ (by first | (simp; done) | (simp; omega) | omega) _))
    rintro e w1 ⟨rfl, hb1⟩
    rw [g1]
    obtain ⟨hc1, hf1⟩ := bcell (hb1.mono (B' := w.heap.size + 1 + 1) (by first | (simp; done) | (simp; omega) | omega))
    have hz1 : w.heap.size + 1 + 1 ≤ w1.heap.size := by have := hb1.size; (try simp at this); omega
    go_wp2_with fail
    go_ret
    refine ⟨?_, ?_⟩
    · rw [H.out]; rfl
    · repeat (first | (with_reducible exact Below.refl _ _) | (with_reducible refine Below.drewN ?_ _) | (with_reducible refine Below.drew ?_) | (with_reducible refine Below.alloc ?_ (by first | (simp; done) | (simp; omega) | omega) _) | (with_reducible refine Below.setCell ?_ (by first | (simp; done) | (simp; omega) | omega) _) | (with_reducible refine Below.trans ?_ (hb1.mono (by first | (simp; done) | (simp; omega) | omega))))
  by_cases e2 : x.Feats = y.Feats
  rotate_left
  · have H := Lib.hid (show same x y = false from same_not (fun e => e2 (by rw [e])))
    have g2 := same_not e2
    rw [e0]
    have g1 := same_iff.2 e1
    clear e0 e1 e2
    go_enter Try.func14, Try.ntmps14
    go_wp2_with fail
    refine (eqFeatS_any _ _ x.Base y.Base _ (hBase.up ?_) (hBase'.up ?_)).mono ?_
    · repeat (first | (with_reducible exact Below.refl _ _) | (with_reducible refine Below.drewN ?_ _) | (with_reducible refine Below.drew ?_) | (with_reducible refine Below.alloc ?_ (by first | (simp; done) | (simp; omega) | omega) _) | (with_reducible refine Below.setCell ?_ (by first | (simp; done) | (simp; omega) | omega) _))
    · repeat (first | (with_reducible exact Below.refl _ _) | (with_reducible refine Below.drewN ?_ _) | (with_reducible refine Below.drew ?_) | (with_reducible refine Below.alloc ?_ (by first | (simp; done) | (simp; omega) | omega) _) | (with_reducible refine Below.setCell ?_ (by first | (simp; done) | (simp; omega) | omega) _))
    rintro e w1 ⟨rfl, hb1⟩
    rw [g1]
    obtain ⟨hc1, hf1⟩ := bcell (hb1.mono (B' := w.heap.size + 1 + 1) (by first | (simp; done) | (simp; omega) | omega))
    have hz1 : w.heap.size + 1 + 1 ≤ w1.heap.size := by have := hb1.size; (try simp at this); omega
    go_wp2_with fail
    refine (eqFeatS_any _ _ x.Feats y.Feats _ (hFeats.up ?_) (hFeats'.up ?_)).mono ?_
    · repeat (first | (with_reducible exact Below.refl _ _) | (with_reducible refine Below.drewN ?_ _) | (with_reducible refine Below.drew ?_) | (with_reducible refine Below.alloc ?_ (by first | (simp; done) | (simp; omega) | omega) _) | (with_reducible refine Below.setCell ?_ (by first | (simp; done) | (simp; omega) | omega) _) | (with_reducible refine Below.trans ?_ (hb1.mono (by first | (simp; done) | (simp; omega) | omega))))
    · repeat (first | (with_reducible exact Below.refl _ _) | (with_reducible refine Below.drewN ?_ _) | (with_reducible refine Below.drew ?_) | (with_reducible refine Below.alloc ?_ (by first | (simp; done) | (simp; omega) | omega) _) | (with_reducible refine Below.setCell ?_ (by first | (simp; done) | (simp; omega) | omega) _) | (with_reducible refine Below.trans ?_ (hb1.mono (by first | (simp; done) | (simp; omega) | omega))))
    rintro e w2 ⟨rfl, hb2⟩
    rw [g2]
    obtain ⟨hc2, hf2⟩ := bcell (hb2.mono (B' := w.heap.size + 1 + 1) (by first | (simp; done) | (simp; omega) | omega))
    have hz2 : w.heap.size + 1 + 1 ≤ w2.heap.size := by have := hb2.size; (try simp at this); omega
    go_wp2_with fail
    go_ret
    refine ⟨?_, ?_⟩
    · rw [H.out]; rfl
    · repeat (first | (with_reducible exact Below.refl _ _) | (with_reducible refine Below.drewN ?_ _) | (with_reducible refine Below.drew ?_) | (with_reducible refine Below.alloc ?_ (by first | (simp; done) | (simp; omega) | omega) _) | (with_reducible refine Below.setCell ?_ (by first | (simp; done) | (simp; omega) | omega) _) | (with_reducible refine Below.trans ?_ (hb1.mono (by first | (simp; done) | (simp; omega) | omega))) | (with_reducible refine Below.trans ?_ (hb2.mono (by first | (simp; done) | (simp; omega) | omega))))
  by_cases e3 : x.Count = y.Count
  rotate_left
  · have H := Lib.hid (show same x y = false from same_not (fun e => e3 (by rw [e])))
    rw [e0]
    have g1 := same_iff.2 e1
    have g2 := same_iff.2 e2
    clear e0 e1 e2
    go_enter Try.func14, Try.ntmps14
    go_wp2_with fail
    refine (eqFeatS_any _ _ x.Base y.Base _ (hBase.up ?_) (hBase'.up ?_)).mono ?_
    · repeat (first | (with_reducible exact Below.refl _ _) | (with_reducible refine Below.drewN ?_ _) | (with_reducible refine Below.drew ?_) | (with_reducible refine Below.alloc ?_ (by first | (simp; done) | (simp; omega) | omega) _) | (with_reducible refine Below.setCell ?_ (by first | (simp; done) | (simp; omega) | omega) _))
    · repeat (first | (with_reducible exact Below.refl _ _) | (with_reducible refine Below.drewN ?_ _) | (with_reducible refine Below.drew ?_) | (with_reducible refine Below.alloc ?_ (by first | (simp; done) | (simp; omega) | omega) _) | (with_reducible refine Below.setCell ?_ (by first | (simp; done) | (simp; omega) | omega) _))
    rintro e w1 ⟨rfl, hb1⟩
    rw [g1]
    obtain ⟨hc1, hf1⟩ := bcell (hb1.mono (B' := w.heap.size + 1 + 1) (by first | (simp; done) | (simp; omega) | omega))
    have hz1 : w.heap.size + 1 + 1 ≤ w1.heap.size := by have := hb1.size; (try simp at this); omega
    go_wp2_with fail
    refine (eqFeatS_any _ _ x.Feats y.Feats _ (hFeats.up ?_) (hFeats'.up ?_)).mono ?_
    · repeat (first | (with_reducible exact Below.refl _ _) | (with_reducible refine Below.drewN ?_ _) | (with_reducible refine Below.drew ?_) | (with_reducible refine Below.alloc ?_ (by first | (simp; done) | (simp; omega) | omega) _) | (with_reducible refine Below.setCell ?_ (by first | (simp; done) | (simp; omega) | omega) _) | (with_reducible refine Below.trans ?_ (hb1.mono (by first | (simp; done) | (simp; omega) | omega))))
    · repeat (first | (with_reducible exact Below.refl _ _) | (with_reducible refine Below.drewN ?_ _) | (with_reducible refine Below.drew ?_) | (with_reducible refine Below.alloc ?_ (by first | (simp; done) | (simp; omega) | omega) _) | (with_reducible refine Below.setCell ?_ (by first | (simp; done) | (simp; omega) | omega) _) | (with_reducible refine Below.trans ?_ (hb1.mono (by first | (simp; done) | (simp; omega) | omega))))
    rintro e w2 ⟨rfl, hb2⟩
    rw [g2]
    obtain ⟨hc2, hf2⟩ := bcell (hb2.mono (B' := w.heap.size + 1 + 1) (by first | (simp; done) | (simp; omega) | omega))
    have hz2 : w.heap.size + 1 + 1 ≤ w2.heap.size := by have := hb2.size; (try simp at this); omega
    go_wp2_with fail
    go_ret
    refine ⟨?_, ?_⟩
    · rw [H.out]; rfl
    · repeat (first | (with_reducible exact Below.refl _ _) | (with_reducible refine Below.drewN ?_ _) | (with_reducible refine Below.drew ?_) | (with_reducible refine Below.alloc ?_ (by first | (simp; done) | (simp; omega) | omega) _) | (with_reducible refine Below.setCell ?_ (by first | (simp; done) | (simp; omega) | omega) _) | (with_reducible refine Below.trans ?_ (hb1.mono (by first | (simp; done) | (simp; omega) | omega))) | (with_reducible refine Below.trans ?_ (hb2.mono (by first | (simp; done) | (simp; omega) | omega))))
  have H := Lib.hid (show same x y = true by rw [same_iff]; cases x; cases y; simp_all)
  rw [e0]
  rw [e3]
  have g1 := same_iff.2 e1
  have g2 := same_iff.2 e2
  clear e0 e1 e2 e3
  go_enter Try.func14, Try.ntmps14
  go_wp2_with fail
  refine (eqFeatS_any _ _ x.Base y.Base _ (hBase.up ?_) (hBase'.up ?_)).mono ?_
  · repeat (first | (with_reducible exact Below.refl _ _) | (with_reducible refine Below.drewN ?_ _) | (with_reducible refine Below.drew ?_) | (with_reducible refine Below.alloc ?_ (by first | (simp; done) | (simp; omega) | omega) _) | (with_reducible refine Below.setCell ?_ (by first | (simp; done) | (simp; omega) | omega) _))
  · repeat (first | (with_reducible exact Below.refl _ _) | (with_reducible refine Below.drewN ?_ _) | (with_reducible refine Below.drew ?_) | (with_reducible refine Below.alloc ?_ (by first | (simp; done) | (simp; omega) | omega) _) | (with_reducible refine Below.setCell ?_ (by first | (simp; done) | (simp; omega) | omega) _))
  rintro e w1 ⟨rfl, hb1⟩
  rw [g1]
  obtain ⟨hc1, hf1⟩ := bcell (hb1.mono (B' := w.heap.size + 1 + 1) (by first | (simp; done) | (simp; omega) | omega))
  have hz1 : w.heap.size + 1 + 1 ≤ w1.heap.size := by have := hb1.size; (try simp at this); omega
  go_wp2_with fail
  refine (eqFeatS_any _ _ x.Feats y.Feats _ (hFeats.up ?_) (hFeats'.up ?_)).mono ?_
  · repeat (first | (with_reducible exact Below.refl _ _) | (with_reducible refine Below.drewN ?_ _) | (with_reducible refine Below.drew ?_) | (with_reducible refine Below.alloc ?_ (by first | (simp; done) | (simp; omega) | omega) _) | (with_reducible refine Below.setCell ?_ (by first | (simp; done) | (simp; omega) | omega) _) | (with_reducible refine Below.trans ?_ (hb1.mono (by first | (simp; done) | (simp; omega) | omega))))
  · repeat (first | (with_reducible exact Below.refl _ _) | (with_reducible refine Below.drewN ?_ _) | (with_reducible refine Below.drew ?_) | (with_reducible refine Below.alloc ?_ (by first | (simp; done) | (simp; omega) | omega) _) | (with_reducible refine Below.setCell ?_ (by first | (simp; done) | (simp; omega) | omega) _) | (with_reducible refine Below.trans ?_ (hb1.mono (by first | (simp; done) | (simp; omega) | omega))))
  rintro e w2 ⟨rfl, hb2⟩
  rw [g2]
  obtain ⟨hc2, hf2⟩ := bcell (hb2.mono (B' := w.heap.size + 1 + 1) (by first | (simp; done) | (simp; omega) | omega))
  have hz2 : w.heap.size + 1 + 1 ≤ w2.heap.size := by have := hb2.size; (try simp at this); omega
  go_wp2_with fail
  go_ret
  refine ⟨?_, ?_⟩
  · rw [H.out]; rfl
  · repeat (first | (with_reducible exact Below.refl _ _) | (with_reducible refine Below.drewN ?_ _) | (with_reducible refine Below.drew ?_) | (with_reducible refine Below.alloc ?_ (by first | (simp; done) | (simp; omega) | omega) _) | (with_reducible refine Below.setCell ?_ (by first | (simp; done) | (simp; omega) | omega) _) | (with_reducible refine Below.trans ?_ (hb1.mono (by first | (simp; done) | (simp; omega) | omega))) | (with_reducible refine Below.trans ?_ (hb2.mono (by first | (simp; done) | (simp; omega) | omega))))

set_option maxHeartbeats 1600000 in
theorem eqTrainedS_any (v v' : Value) (xs ys : List Trained) (w : World) (hx : Sl trainedR w (Old w) v xs) (hy : Sl trainedR w (Old w) v' ys) :
    Calls Try.prog 45 #[v, v'] w fun e w' => e = .returned (.bool (same xs ys)) ∧ Below w.heap.size w w' := by
  obtain ⟨A, c, rfl, hc, hm, hC⟩ := hx
  obtain ⟨A', c', rfl, hc', hm', hC'⟩ := hy
  have hs := Nat.le_trans hc hm
  have hs' := Nat.le_trans hc' hm'
  unfold maxLen at hs hs'
  clear hc hm hc' hm'
  by_cases hl : xs.length = ys.length
  · obtain ⟨n, hn⟩ : ∃ n, n = xs.length := ⟨_, rfl⟩
    have Hl := Lib.hid (hn.trans hl)
    rw [← hl, ← hn]
    rw [← hn] at hs
    have Hn := Lib.hid hn
    clear hn hl hs'
    go_enter Try.func45, Try.ntmps45
    go_wp2
    go_loopw [5] (fun i wr => ∃ k : Nat, k ≤ n ∧ i = .int .i64 k ∧ Hid (xs.take k = ys.take k) ∧ Below w.heap.size w wr) (fun i _ => n - (intOf i).toNat)
    case atStart => exact ⟨0, Nat.zero_le _, rfl, rfl, Below.refl _ _⟩
    case round =>
      obtain ⟨k, hk, rfl, he, hb⟩ := hrel
      by_cases hlt : k < n
      · obtain ⟨x, hx⟩ := get_lt (l := xs) (k := k) (by have := Hn.out; omega)
        obtain ⟨y, hy⟩ := get_lt (l := ys) (k := k) (by have := Hl.out; omega)
        obtain ⟨b, o, vBase, vFeats, rfl, _, hbl, c0, c1, c2, c3, bLabel, hBase, hFeats⟩ := (hC.up hb).trained hx
        obtain ⟨b', o', vBase', vFeats', rfl, _, hbl', d0, d1, d2, d3, bLabel', hBase', hFeats'⟩ := (hC'.up hb).trained hy
        have Hx := Lib.hid hx
        have Hy := Lib.hid hy
        clear hx hy
        by_cases hxy : x = y
        · have H := Lib.hid hxy
          have hsame := same_iff.2 hxy
          clear hxy
          go_wp2
          go_region_held3 (fun w' => w'.cell? ⟨b, o + k * 4, none⟩ = some (.string x.Label) ∧ w'.cell? ⟨b, o + k * 4 + 1, none⟩ = some (vBase) ∧ w'.cell? ⟨b, o + k * 4 + 2, none⟩ = some (vFeats) ∧ w'.cell? ⟨b, o + k * 4 + 3, none⟩ = some (.int .i64 x.Count) ∧ w'.cell? ⟨b', o' + k * 4, none⟩ = some (.string y.Label) ∧ w'.cell? ⟨b', o' + k * 4 + 1, none⟩ = some (vBase') ∧ w'.cell? ⟨b', o' + k * 4 + 2, none⟩ = some (vFeats') ∧ w'.cell? ⟨b', o' + k * 4 + 3, none⟩ = some (.int .i64 y.Count))
            (first | exact ⟨(hb1.cell (p := ⟨b, _, none⟩) hbl).trans c0, (hb1.cell (p := ⟨b, _, none⟩) hbl).trans c1, (hb1.cell (p := ⟨b, _, none⟩) hbl).trans c2, (hb1.cell (p := ⟨b, _, none⟩) hbl).trans c3, (hb1.cell (p := ⟨b', _, none⟩) hbl').trans d0, (hb1.cell (p := ⟨b', _, none⟩) hbl').trans d1, (hb1.cell (p := ⟨b', _, none⟩) hbl').trans d2, (hb1.cell (p := ⟨b', _, none⟩) hbl').trans d3⟩ | go_keep)
            (first | (go_at_call 14; refine (eqTrained_any x y [.string x.Label, vBase, vFeats, .int .i64 x.Count] [.string y.Label, vBase', vFeats', .int .i64 y.Count] _ ⟨vBase, vFeats, rfl, bLabel, Sl.drew_ hBase, Sl.drew_ hFeats⟩ ⟨vBase', vFeats', rfl, bLabel', Sl.drew_ hBase', Sl.drew_ hFeats'⟩).mono ?_; rintro e w1 ⟨rfl, hb1⟩))
          go_wp2
          go_roundw
          case rel => exact ⟨k + 1, by omega, by go_num, take_same_step he.out Hx.out (by rw [H.out]; exact Hy.out), hb.drew.trans (hb1.mono hb.size)⟩
          case measure => simp [intOf]; omega
        · have H := Lib.hid hxy
          have hsame := same_not hxy
          clear hxy
          go_wp2
          go_region_held3 (fun w' => w'.cell? ⟨b, o + k * 4, none⟩ = some (.string x.Label) ∧ w'.cell? ⟨b, o + k * 4 + 1, none⟩ = some (vBase) ∧ w'.cell? ⟨b, o + k * 4 + 2, none⟩ = some (vFeats) ∧ w'.cell? ⟨b, o + k * 4 + 3, none⟩ = some (.int .i64 x.Count) ∧ w'.cell? ⟨b', o' + k * 4, none⟩ = some (.string y.Label) ∧ w'.cell? ⟨b', o' + k * 4 + 1, none⟩ = some (vBase') ∧ w'.cell? ⟨b', o' + k * 4 + 2, none⟩ = some (vFeats') ∧ w'.cell? ⟨b', o' + k * 4 + 3, none⟩ = some (.int .i64 y.Count))
            (first | exact ⟨(hb1.cell (p := ⟨b, _, none⟩) hbl).trans c0, (hb1.cell (p := ⟨b, _, none⟩) hbl).trans c1, (hb1.cell (p := ⟨b, _, none⟩) hbl).trans c2, (hb1.cell (p := ⟨b, _, none⟩) hbl).trans c3, (hb1.cell (p := ⟨b', _, none⟩) hbl').trans d0, (hb1.cell (p := ⟨b', _, none⟩) hbl').trans d1, (hb1.cell (p := ⟨b', _, none⟩) hbl').trans d2, (hb1.cell (p := ⟨b', _, none⟩) hbl').trans d3⟩ | go_keep)
            (first | (go_at_call 14; refine (eqTrained_any x y [.string x.Label, vBase, vFeats, .int .i64 x.Count] [.string y.Label, vBase', vFeats', .int .i64 y.Count] _ ⟨vBase, vFeats, rfl, bLabel, Sl.drew_ hBase, Sl.drew_ hFeats⟩ ⟨vBase', vFeats', rfl, bLabel', Sl.drew_ hBase', Sl.drew_ hFeats'⟩).mono ?_; rintro e w1 ⟨rfl, hb1⟩))
          go_wp2
          go_ret
          exact ⟨by rw [not_same_at Hx.out Hy.out H.out]; rfl, hb.drew.trans (hb1.mono hb.size)⟩
      · obtain rfl : k = n := by omega
        go_wp2
        go_ret
        refine ⟨?_, hb⟩
        have h1 := he.out
        rw [List.take_of_length_le (by rw [← Hn.out]; exact Nat.le_refl _), List.take_of_length_le (by rw [← Hl.out]; exact Nat.le_refl _)] at h1
        rw [same_iff.2 h1]
        rfl
  · have H := Lib.hid (same_len (x := xs) (y := ys) hl)
    go_enter Try.func45, Try.ntmps45
    go_wp2
    go_ret
    exact ⟨by rw [H.out]; rfl, Below.refl _ _⟩

structure Point where
  X : Int
  Y : Int
  T : Int
deriving DecidableEq
def pointR : Rep Point :=
  { sz := 3
    rel := fun w S cs x => cs = [.int .i64 x.X, .int .i64 x.Y, .int .i64 x.T]
    len := fun h => by rw [h]; rfl
    keep := fun h _ => h }
def bulkPointS (xs : List Point) : Nat := xs.length
theorem Cells.point {w : World} {S : Nat → Prop} {A : Option Addr} {xs : List Point} (h : Cells pointR w S A xs) {i : Nat} {x : Point} (hi : xs[i]? = some x) :
    ∃ b o, A = some ⟨b, o, none⟩ ∧ S b ∧ b < w.heap.size ∧ w.cell? ⟨b, o + i * 3, none⟩ = some (.int .i64 x.X) ∧ w.cell? ⟨b, o + i * 3 + 1, none⟩ = some (.int .i64 x.Y) ∧ w.cell? ⟨b, o + i * 3 + 2, none⟩ = some (.int .i64 x.T) := by
  obtain ⟨b, o, cs, hA, hS, hlt, hr, hc⟩ := h.at_ hi
  cases hr
  exact ⟨b, o, hA, hS, hlt, hc 0 _ rfl, hc 1 _ rfl, hc 2 _ rfl⟩

theorem Try.infoPoint : (Try.prog.info? 90).map (fun i => (i.zero, i.size, i.bytes)) = some (some (.agg #[.int .i64 0, .int .i64 0, .int .i64 0]), 3, 24) := by kernel_rfl

theorem Try.cellsLPoint0 : Try.prog.cellsOf 2 = 1 := by kernel_rfl
theorem Try.cellsLPoint1 : Try.prog.cellsOf 2 = 1 := by kernel_rfl
theorem Try.cellsLPoint2 : Try.prog.cellsOf 2 = 1 := by kernel_rfl
def okPoint (x : Point) : Prop := okInt x.X ∧ okInt x.Y ∧ okInt x.T
theorem Try.lawsCellsPoint : Try.prog.cellsOf 92 = 3 := by kernel_rfl
theorem opens_point : Opens Try.prog 92 pointR okPoint := by
  intro H enc w base spare held fuel cs y h
  obtain ⟨ys, n, _, _, hlen, hyl, hf⟩ := DataW.trod_struct Try.underlying92 h
  rw [Try.lawsCellsPoint] at hlen
  obtain ⟨c0, c1, c2, rfl⟩ := len_3 hlen
  have f0 := hf 0 _ rfl
  obtain ⟨x0, r0, o0⟩ := (opens_int Try.underlying2) enc w base spare held _ _ _ (f0.trans (List.getElem?_eq_getElem (by rw [hyl]; decide)))
  simp [intR, Try.cellsLPoint0] at r0
  have f1 := hf 1 _ rfl
  obtain ⟨x1, r1, o1⟩ := (opens_int Try.underlying2) enc w base spare held _ _ _ (f1.trans (List.getElem?_eq_getElem (by rw [hyl]; decide)))
  simp [intR, Try.cellsLPoint1] at r1
  have f2 := hf 2 _ rfl
  obtain ⟨x2, r2, o2⟩ := (opens_int Try.underlying2) enc w base spare held _ _ _ (f2.trans (List.getElem?_eq_getElem (by rw [hyl]; decide)))
  simp [intR, Try.cellsLPoint2] at r2
  obtain rfl := r0
  obtain rfl := r1
  obtain rfl := r2
  exact ⟨⟨x0, x1, x2⟩, rfl, o0, o1, o2⟩

theorem szPointS_any (v : Value) (xs : List Point) (l : Int) (w : World) (h : Sl pointR w (Old w) v xs) (h0 : 0 ≤ l) (h1 : l ≤ 1048576) :
    Calls Try.prog 34 #[v, .int .i64 l] w fun e w' => e = .returned (.int .i64 (szTake l (bulkPointS xs))) ∧ Below w.heap.size w w' := by
  obtain ⟨A, c, rfl, hc, hm, _⟩ := h
  have hn := Nat.le_trans hc hm
  unfold bulkPointS
  obtain ⟨n, hn'⟩ : ∃ n, n = xs.length := ⟨_, rfl⟩
  rw [← hn'] at hn ⊢
  unfold maxLen at hn
  clear hn' hc hm
  by_cases g : l < n
  · have H := Lib.hid (szTake_neg g)
    go_enter Try.func34, Try.ntmps34
    go_wp2
    go_ret
    exact ⟨by rw [H.out]; rfl, Below.refl _ _⟩
  · have g := Int.not_lt.1 g
    have H := Lib.hid (szTake_of g)
    go_enter Try.func34, Try.ntmps34
    go_wp2
    go_ret
    exact ⟨by rw [H.out]; rfl, Below.refl _ _⟩

set_option maxHeartbeats 800000 in
theorem toPoint_any (x : Point) (cs : List Value) (w : World) (h : pointR.rel w (Old w) cs x) :
    Calls Try.prog 55 #[.agg cs.toArray] w (Made pointR w x) := by
  cases h
  go_enter Try.func55, Try.ntmps55
  go_wp2_with fail
  refine bodyPost_ret (v := .agg #[.int .i64 x.X, .int .i64 x.Y, .int .i64 x.T]) ?hr rfl ?hR
  case hr => simp [results, Try.results55, go_sem]
  refine ⟨[.int .i64 x.X, .int .i64 x.Y, .int .i64 x.T], rfl, rfl, ?_⟩
  · repeat (first | (with_reducible exact Below.refl _ _) | (with_reducible refine Below.drewN ?_ _) | (with_reducible refine Below.drew ?_) | (with_reducible refine Below.alloc ?_ (by first | (simp; done) | (simp; omega) | omega) _) | (with_reducible refine Below.setCell ?_ (by first | (simp; done) | (simp; omega) | omega) _))

set_option maxHeartbeats 800000 in
theorem toPointS_any (v : Value) (xs : List Point) (w : World) (hx : Sl pointR w (Old w) v xs) (hbk : bulkPointS xs ≤ 1048576) :
    Calls Try.prog 37 #[v] w (MadeS pointR w xs) := by
  obtain ⟨A, c, rfl, hc, hm, hC⟩ := hx
  obtain ⟨n, hn⟩ : ∃ n, n = xs.length := ⟨_, rfl⟩
  have hs : n ≤ 1048576 := by unfold bulkPointS at hbk; omega
  rw [← hn]
  have Hn := Lib.hid hn
  have Hbk := Lib.hid hbk
  clear hn hc hm hbk
  have hmk := fun W => make_n 40 90 _ _ _ Try.underlying40 Try.infoPoint (by decide) n hs W
  go_enter Try.func37, Try.ntmps37
  go_wp2
  clear hmk
  go_loopw [4] (fun i wr => ∃ k : Nat, k ≤ n ∧ i = .int .i64 k ∧ Filled pointR wr w.heap.size 90 n xs k ∧ Below w.heap.size w wr) (fun i _ => n - (intOf i).toNat)
  case atStart => exact ⟨0, Nat.zero_le _, rfl, Filled.start pointR w _ n xs _ (by simp [pointR, size_madeCells]), (Below.refl _ _).alloc (Nat.le_refl _) _⟩
  case round =>
    obtain ⟨k, hk, rfl, hF, hb⟩ := hrel
    by_cases hlt : k < n
    · obtain ⟨x, hx⟩ := get_lt (l := xs) (k := k) (by have := Hn.out; omega)
      obtain ⟨b, o, rfl, _, hbl, c0, c1, c2⟩ := (hC.up hb).point hx
      have Hx := Lib.hid hx
      clear hx
      go_wp2_with (
        go_at_call 55
        refine (toPoint_any x [.int .i64 x.X, .int .i64 x.Y, .int .i64 x.T] _ rfl).mono ?_
        rintro e w1 ⟨cs1, rfl, hr1, hb1⟩
        cases hr1
        have hF1 := hF.below hb1
        obtain ⟨u0, z0⟩ := hF1.cell hlt 0 (by decide)
        obtain ⟨u1, z1⟩ := hF1.cell hlt 1 (by decide)
        obtain ⟨u2, z2⟩ := hF1.cell hlt 2 (by decide)
        have f0 := hF1.free
        simp only [pointR, Nat.add_zero] at z0 z1 z2)
      go_roundw
      case rel => exact ⟨k + 1, by omega, by go_num, hF.step hb1 hlt Hx.out (cs := [.int .i64 x.X, .int .i64 x.Y, .int .i64 x.T]) rfl, storeAll_below _ (Nat.le_refl _) [.int .i64 x.X, .int .i64 x.Y, .int .i64 x.T] _ _ (hb.trans (hb1.mono hb.size))⟩
      case measure => simp [intOf]; omega
    · obtain rfl : k = n := by omega
      go_wp2
      go_ret
      obtain rfl : k = xs.length := Hn.out
      exact ⟨_, rfl, hF.sl (by unfold maxLen; omega) (Nat.le_refl _), hb⟩

set_option maxHeartbeats 1600000 in
theorem eqPoint_any (x y : Point) (cs ds : List Value) (w : World) (h : pointR.rel w (Old w) cs x) (h' : pointR.rel w (Old w) ds y) :
    Calls Try.prog 57 #[.agg cs.toArray, .agg ds.toArray] w fun e w' => e = .returned (.bool (same x y)) ∧ Below w.heap.size w w' := by
  cases h
  cases h'
  by_cases e0 : x.X = y.X
  rotate_left
  · have H := Lib.hid (show same x y = false from same_not (fun e => e0 (by rw [e])))
    go_enter Try.func57, Try.ntmps57
    go_wp2_with fail
    go_ret
    refine ⟨?_, ?_⟩
    · rw [H.out]; rfl
    · repeat (first | (with_reducible exact Below.refl _ _) | (with_reducible refine Below.drewN ?_ _) | (with_reducible refine Below.drew ?_) | (with_reducible refine Below.alloc ?_ (by first | (simp; done) | (simp; omega) | omega) _) | (with_reducible refine Below.setCell ?_ (by first | (simp; done) | (simp; omega) | omega) _))
  by_cases e1 : x.Y = y.Y
  rotate_left
  · have H := Lib.hid (show same x y = false from same_not (fun e => e1 (by rw [e])))
    rw [e0]
    clear e0
    go_enter Try.func57, Try.ntmps57
    go_wp2_with fail
    go_ret
    refine ⟨?_, ?_⟩
    · rw [H.out]; rfl
    · repeat (first | (with_reducible exact Below.refl _ _) | (with_reducible refine Below.drewN ?_ _) | (with_reducible refine Below.drew ?_) | (with_reducible refine Below.alloc ?_ (by first | (simp; done) | (simp; omega) | omega) _) | (with_reducible refine Below.setCell ?_ (by first | (simp; done) | (simp; omega) | omega) _))
  by_cases e2 : x.T = y.T
  rotate_left
  · have H := Lib.hid (show same x y = false from same_not (fun e => e2 (by rw [e])))
    rw [e0]
    rw [e1]
    clear e0 e1
    go_enter Try.func57, Try.ntmps57
    go_wp2_with fail
    go_ret
    refine ⟨?_, ?_⟩
    · rw [H.out]; rfl
    · repeat (first | (with_reducible exact Below.refl _ _) | (with_reducible refine Below.drewN ?_ _) | (with_reducible refine Below.drew ?_) | (with_reducible refine Below.alloc ?_ (by first | (simp; done) | (simp; omega) | omega) _) | (with_reducible refine Below.setCell ?_ (by first | (simp; done) | (simp; omega) | omega) _))
  have H := Lib.hid (show same x y = true by rw [same_iff]; cases x; cases y; simp_all)
  rw [e0]
  rw [e1]
  rw [e2]
  clear e0 e1 e2
  go_enter Try.func57, Try.ntmps57
  go_wp2_with fail
  go_ret
  refine ⟨?_, ?_⟩
  · rw [H.out]; rfl
  · repeat (first | (with_reducible exact Below.refl _ _) | (with_reducible refine Below.drewN ?_ _) | (with_reducible refine Below.drew ?_) | (with_reducible refine Below.alloc ?_ (by first | (simp; done) | (simp; omega) | omega) _) | (with_reducible refine Below.setCell ?_ (by first | (simp; done) | (simp; omega) | omega) _))

set_option maxHeartbeats 1600000 in
theorem eqPointS_any (v v' : Value) (xs ys : List Point) (w : World) (hx : Sl pointR w (Old w) v xs) (hy : Sl pointR w (Old w) v' ys) :
    Calls Try.prog 40 #[v, v'] w fun e w' => e = .returned (.bool (same xs ys)) ∧ Below w.heap.size w w' := by
  obtain ⟨A, c, rfl, hc, hm, hC⟩ := hx
  obtain ⟨A', c', rfl, hc', hm', hC'⟩ := hy
  have hs := Nat.le_trans hc hm
  have hs' := Nat.le_trans hc' hm'
  unfold maxLen at hs hs'
  clear hc hm hc' hm'
  by_cases hl : xs.length = ys.length
  · obtain ⟨n, hn⟩ : ∃ n, n = xs.length := ⟨_, rfl⟩
    have Hl := Lib.hid (hn.trans hl)
    rw [← hl, ← hn]
    rw [← hn] at hs
    have Hn := Lib.hid hn
    clear hn hl hs'
    go_enter Try.func40, Try.ntmps40
    go_wp2
    go_loopw [5] (fun i wr => ∃ k : Nat, k ≤ n ∧ i = .int .i64 k ∧ Hid (xs.take k = ys.take k) ∧ Below w.heap.size w wr) (fun i _ => n - (intOf i).toNat)
    case atStart => exact ⟨0, Nat.zero_le _, rfl, rfl, Below.refl _ _⟩
    case round =>
      obtain ⟨k, hk, rfl, he, hb⟩ := hrel
      by_cases hlt : k < n
      · obtain ⟨x, hx⟩ := get_lt (l := xs) (k := k) (by have := Hn.out; omega)
        obtain ⟨y, hy⟩ := get_lt (l := ys) (k := k) (by have := Hl.out; omega)
        obtain ⟨b, o, rfl, _, hbl, c0, c1, c2⟩ := (hC.up hb).point hx
        obtain ⟨b', o', rfl, _, hbl', d0, d1, d2⟩ := (hC'.up hb).point hy
        have Hx := Lib.hid hx
        have Hy := Lib.hid hy
        clear hx hy
        by_cases hxy : x = y
        · have H := Lib.hid hxy
          have hsame := same_iff.2 hxy
          clear hxy
          go_wp2
          go_region_held3 (fun w' => w'.cell? ⟨b, o + k * 3, none⟩ = some (.int .i64 x.X) ∧ w'.cell? ⟨b, o + k * 3 + 1, none⟩ = some (.int .i64 x.Y) ∧ w'.cell? ⟨b, o + k * 3 + 2, none⟩ = some (.int .i64 x.T) ∧ w'.cell? ⟨b', o' + k * 3, none⟩ = some (.int .i64 y.X) ∧ w'.cell? ⟨b', o' + k * 3 + 1, none⟩ = some (.int .i64 y.Y) ∧ w'.cell? ⟨b', o' + k * 3 + 2, none⟩ = some (.int .i64 y.T))
            (first | exact ⟨(hb1.cell (p := ⟨b, _, none⟩) hbl).trans c0, (hb1.cell (p := ⟨b, _, none⟩) hbl).trans c1, (hb1.cell (p := ⟨b, _, none⟩) hbl).trans c2, (hb1.cell (p := ⟨b', _, none⟩) hbl').trans d0, (hb1.cell (p := ⟨b', _, none⟩) hbl').trans d1, (hb1.cell (p := ⟨b', _, none⟩) hbl').trans d2⟩ | go_keep)
            (first | (go_at_call 57; refine (eqPoint_any x y [.int .i64 x.X, .int .i64 x.Y, .int .i64 x.T] [.int .i64 y.X, .int .i64 y.Y, .int .i64 y.T] _ rfl rfl).mono ?_; rintro e w1 ⟨rfl, hb1⟩))
          go_wp2
          go_roundw
          case rel => exact ⟨k + 1, by omega, by go_num, take_same_step he.out Hx.out (by rw [H.out]; exact Hy.out), hb.drew.trans (hb1.mono hb.size)⟩
          case measure => simp [intOf]; omega
        · have H := Lib.hid hxy
          have hsame := same_not hxy
          clear hxy
          go_wp2
          go_region_held3 (fun w' => w'.cell? ⟨b, o + k * 3, none⟩ = some (.int .i64 x.X) ∧ w'.cell? ⟨b, o + k * 3 + 1, none⟩ = some (.int .i64 x.Y) ∧ w'.cell? ⟨b, o + k * 3 + 2, none⟩ = some (.int .i64 x.T) ∧ w'.cell? ⟨b', o' + k * 3, none⟩ = some (.int .i64 y.X) ∧ w'.cell? ⟨b', o' + k * 3 + 1, none⟩ = some (.int .i64 y.Y) ∧ w'.cell? ⟨b', o' + k * 3 + 2, none⟩ = some (.int .i64 y.T))
            (first | exact ⟨(hb1.cell (p := ⟨b, _, none⟩) hbl).trans c0, (hb1.cell (p := ⟨b, _, none⟩) hbl).trans c1, (hb1.cell (p := ⟨b, _, none⟩) hbl).trans c2, (hb1.cell (p := ⟨b', _, none⟩) hbl').trans d0, (hb1.cell (p := ⟨b', _, none⟩) hbl').trans d1, (hb1.cell (p := ⟨b', _, none⟩) hbl').trans d2⟩ | go_keep)
            (first | (go_at_call 57; refine (eqPoint_any x y [.int .i64 x.X, .int .i64 x.Y, .int .i64 x.T] [.int .i64 y.X, .int .i64 y.Y, .int .i64 y.T] _ rfl rfl).mono ?_; rintro e w1 ⟨rfl, hb1⟩))
          go_wp2
          go_ret
          exact ⟨by rw [not_same_at Hx.out Hy.out H.out]; rfl, hb.drew.trans (hb1.mono hb.size)⟩
      · obtain rfl : k = n := by omega
        go_wp2
        go_ret
        refine ⟨?_, hb⟩
        have h1 := he.out
        rw [List.take_of_length_le (by rw [← Hn.out]; exact Nat.le_refl _), List.take_of_length_le (by rw [← Hl.out]; exact Nat.le_refl _)] at h1
        rw [same_iff.2 h1]
        rfl
  · have H := Lib.hid (same_len (x := xs) (y := ys) hl)
    go_enter Try.func40, Try.ntmps40
    go_wp2
    go_ret
    exact ⟨by rw [H.out]; rfl, Below.refl _ _⟩

structure Stroke where
  Points : List Point
deriving DecidableEq
def strokeR : Rep Stroke :=
  { sz := 1
    rel := fun w S cs x => ∃ vPoints, cs = [vPoints] ∧ Sl pointR w S vPoints x.Points
    len := fun h => by obtain ⟨vPoints, rfl, hPoints⟩ := h; rfl
    keep := fun h hk => by obtain ⟨vPoints, rfl, hPoints⟩ := h; exact ⟨vPoints, rfl, hPoints.keep hk⟩ }
def bulkStroke (x : Stroke) : Nat := bulkPointS x.Points
def bulkStrokeS : List Stroke → Nat
  | [] => 0
  | x :: r => 1 + bulkStroke x + bulkStrokeS r
theorem bulkStrokeS_append (xs ys : List Stroke) : bulkStrokeS (xs ++ ys) = bulkStrokeS xs + bulkStrokeS ys := by
  induction xs with
  | nil => simp [bulkStrokeS]
  | cons x r ih => simp [bulkStrokeS, ih]; omega
theorem bulkStrokeS_len (xs : List Stroke) : xs.length ≤ bulkStrokeS xs := by
  induction xs with
  | nil => simp
  | cons x r ih => simp [bulkStrokeS]; omega
theorem bulkStrokeS_mem {xs : List Stroke} {k : Nat} {x : Stroke} (h : xs[k]? = some x) : xs.length + bulkStroke x ≤ bulkStrokeS xs := by
  induction xs generalizing k with
  | nil => simp at h
  | cons y r ih =>
    cases k with
    | zero => simp at h; subst h; have := bulkStrokeS_len r; simp [bulkStrokeS]; omega
    | succ k => have := ih (by simpa using h); simp [bulkStrokeS]; omega
def cumStrokeS (xs : List Stroke) (k : Nat) : Nat := xs.length + ((xs.take k).map bulkStroke).sum
theorem sumStrokeS (xs : List Stroke) : xs.length + (xs.map bulkStroke).sum = bulkStrokeS xs := by
  induction xs with
  | nil => rfl
  | cons x r ih => simp [bulkStrokeS]; omega
theorem cumStrokeS_step {xs : List Stroke} {k : Nat} {x : Stroke} (h : xs[k]? = some x) : cumStrokeS xs (k + 1) = cumStrokeS xs k + bulkStroke x := by
  simp [cumStrokeS, take_snoc h]; omega
theorem cumStrokeS_all (xs : List Stroke) : cumStrokeS xs xs.length = bulkStrokeS xs := by simp [cumStrokeS, sumStrokeS]
theorem cumStrokeS_le (xs : List Stroke) (k : Nat) : cumStrokeS xs k ≤ bulkStrokeS xs := by
  rw [← sumStrokeS]
  unfold cumStrokeS
  have : (xs.map bulkStroke).sum = ((xs.take k).map bulkStroke).sum + ((xs.drop k).map bulkStroke).sum := by rw [← List.sum_append, ← List.map_append, List.take_append_drop]
  omega
theorem Cells.stroke {w : World} {S : Nat → Prop} {A : Option Addr} {xs : List Stroke} (h : Cells strokeR w S A xs) {i : Nat} {x : Stroke} (hi : xs[i]? = some x) :
    ∃ b o vPoints, A = some ⟨b, o, none⟩ ∧ S b ∧ b < w.heap.size ∧ w.cell? ⟨b, o + i * 1, none⟩ = some (vPoints) ∧ Sl pointR w S vPoints x.Points := by
  obtain ⟨b, o, cs, hA, hS, hlt, hr, hc⟩ := h.at_ hi
  obtain ⟨vPoints, rfl, hPoints⟩ := hr
  exact ⟨b, o, vPoints, hA, hS, hlt, hc 0 _ rfl, hPoints⟩

theorem Try.cellsLStroke0 : Try.prog.cellsOf 34 = 1 := by kernel_rfl
def okStroke (x : Stroke) : Prop := (x.Points.length ≤ maxLen ∧ ∀ y ∈ x.Points, okPoint y)
theorem Try.lawsCellsStroke : Try.prog.cellsOf 36 = 1 := by kernel_rfl
theorem opens_stroke : Opens Try.prog 36 strokeR okStroke := by
  intro H enc w base spare held fuel cs y h
  obtain ⟨ys, n, _, _, hlen, hyl, hf⟩ := DataW.trod_struct Try.underlying36 h
  rw [Try.lawsCellsStroke] at hlen
  obtain ⟨c0, rfl⟩ := len_1 hlen
  have f0 := hf 0 _ rfl
  obtain ⟨x0, r0, o0⟩ := (opens_slice Try.underlying34 Try.lawsCellsPoint (by decide) opens_point) enc w base spare held _ _ _ (f0.trans (List.getElem?_eq_getElem (by rw [hyl]; decide)))
  simp [slR, Try.cellsLStroke0] at r0
  have s0 := r0
  exact ⟨⟨x0⟩, ⟨_, rfl, s0⟩, o0⟩

set_option maxHeartbeats 800000 in
theorem szStroke_any (x : Stroke) (cs : List Value) (l : Int) (w : World) (h : strokeR.rel w (Old w) cs x) (h0 : 0 ≤ l) (h1 : l ≤ 1048576) :
    Calls Try.prog 15 #[.agg cs.toArray, .int .i64 l] w fun e w' => e = .returned (.int .i64 (szTake l (bulkStroke x))) ∧ Below w.heap.size w w' := by
  obtain ⟨vPoints, rfl, hPoints⟩ := h
  have qPoints := hPoints
  obtain ⟨APoints, cPoints, rfl, _⟩ := qPoints
  by_cases g0 : l < (bulkPointS x.Points : Nat)
  · have H := Lib.hid (show szTake l (bulkStroke x) = -1 from szTake_neg (by unfold bulkStroke; omega))
    go_enter Try.func15, Try.ntmps15
    go_wp2_with fail
    refine (szPointS_any _ x.Points _ _ (hPoints.up ?_) (by omega) (by omega)).mono ?_
    · repeat (first | (with_reducible exact Below.refl _ _) | (with_reducible refine Below.drewN ?_ _) | (with_reducible refine Below.drew ?_) | (with_reducible refine Below.alloc ?_ (by first | (simp; done) | (simp; omega) | omega) _) | (with_reducible refine Below.setCell ?_ (by first | (simp; done) | (simp; omega) | omega) _))
    rintro e w1 ⟨rfl, hb1⟩
    rw [szTake_neg g0]
    obtain ⟨hc1, hf1⟩ := bcell (hb1.mono (B' := w.heap.size + 1) (by first | (simp; done) | (simp; omega) | omega))
    have hz1 : w.heap.size + 1 ≤ w1.heap.size := by have := hb1.size; (try simp at this); omega
    go_wp2_with fail
    go_ret
    refine ⟨?_, ?_⟩
    · rw [H.out]; first | rfl | go_num | exact ret_int (by push_cast; omega)
    · repeat (first | (with_reducible exact Below.refl _ _) | (with_reducible refine Below.drewN ?_ _) | (with_reducible refine Below.drew ?_) | (with_reducible refine Below.alloc ?_ (by first | (simp; done) | (simp; omega) | omega) _) | (with_reducible refine Below.setCell ?_ (by first | (simp; done) | (simp; omega) | omega) _) | (with_reducible refine Below.trans ?_ (hb1.mono (by first | (simp; done) | (simp; omega) | omega))))
  have g0 := Int.not_lt.1 g0
  have H := Lib.hid (show szTake l (bulkStroke x) = l - (bulkPointS x.Points : Nat) from by rw [szTake_of (by unfold bulkStroke; omega)]; unfold bulkStroke; omega)
  go_enter Try.func15, Try.ntmps15
  go_wp2_with fail
  refine (szPointS_any _ x.Points _ _ (hPoints.up ?_) (by omega) (by omega)).mono ?_
  · repeat (first | (with_reducible exact Below.refl _ _) | (with_reducible refine Below.drewN ?_ _) | (with_reducible refine Below.drew ?_) | (with_reducible refine Below.alloc ?_ (by first | (simp; done) | (simp; omega) | omega) _) | (with_reducible refine Below.setCell ?_ (by first | (simp; done) | (simp; omega) | omega) _))
  rintro e w1 ⟨rfl, hb1⟩
  rw [szTake_of g0]
  obtain ⟨hc1, hf1⟩ := bcell (hb1.mono (B' := w.heap.size + 1) (by first | (simp; done) | (simp; omega) | omega))
  have hz1 : w.heap.size + 1 ≤ w1.heap.size := by have := hb1.size; (try simp at this); omega
  go_wp2_with fail
  go_ret
  refine ⟨?_, ?_⟩
  · rw [H.out]; first | rfl | go_num | exact ret_int (by push_cast; omega)
  · repeat (first | (with_reducible exact Below.refl _ _) | (with_reducible refine Below.drewN ?_ _) | (with_reducible refine Below.drew ?_) | (with_reducible refine Below.alloc ?_ (by first | (simp; done) | (simp; omega) | omega) _) | (with_reducible refine Below.setCell ?_ (by first | (simp; done) | (simp; omega) | omega) _) | (with_reducible refine Below.trans ?_ (hb1.mono (by first | (simp; done) | (simp; omega) | omega))))

set_option maxHeartbeats 800000 in
theorem toStroke_any (x : Stroke) (cs : List Value) (w : World) (h : strokeR.rel w (Old w) cs x) (sPoints : bulkPointS x.Points ≤ 1048576) :
    Calls Try.prog 17 #[.agg cs.toArray] w (Made strokeR w x) := by
  obtain ⟨vPoints, rfl, hPoints⟩ := h
  have qPoints := hPoints
  obtain ⟨APoints, cPoints, rfl, _⟩ := qPoints
  go_enter Try.func17, Try.ntmps17
  go_wp2_with fail
  refine (toPointS_any _ x.Points _ (hPoints.up ?_) sPoints).mono ?_
  · repeat (first | (with_reducible exact Below.refl _ _) | (with_reducible refine Below.drewN ?_ _) | (with_reducible refine Below.drew ?_) | (with_reducible refine Below.alloc ?_ (by first | (simp; done) | (simp; omega) | omega) _) | (with_reducible refine Below.setCell ?_ (by first | (simp; done) | (simp; omega) | omega) _))
  rintro e w1 ⟨rPoints, rfl, gPoints, hb1⟩
  have qPoints' := gPoints
  obtain ⟨BPoints, dPoints, rfl, _⟩ := qPoints'
  obtain ⟨hc1, hf1⟩ := bcell (hb1.mono (B' := w.heap.size + 1 + 1 + 1) (by first | (simp; done) | (simp; omega) | omega))
  have hz1 : w.heap.size + 1 + 1 + 1 ≤ w1.heap.size := by have := hb1.size; (try simp at this); omega
  go_wp2_with fail
  refine bodyPost_ret (v := .agg #[.slice BPoints x.Points.length dPoints]) ?hr rfl ?hR
  case hr => simp [results, Try.results17, go_sem, hc1]
  refine ⟨[.slice BPoints x.Points.length dPoints], rfl, ⟨.slice BPoints x.Points.length dPoints, rfl, gPoints.kp ?_ ?_⟩, ?_⟩
  · repeat (first | (with_reducible exact Kp.refl _ _) | (with_reducible refine Kp.alloc ?_ _) | (with_reducible refine Kp.setCell ?_ (by first | (simp; done) | (simp; omega) | omega) _) | (with_reducible refine Kp.below ?_ hb1 (by first | (simp; done) | (simp; omega) | omega)))
  · simp; try omega
  · repeat (first | (with_reducible exact Below.refl _ _) | (with_reducible refine Below.drewN ?_ _) | (with_reducible refine Below.drew ?_) | (with_reducible refine Below.alloc ?_ (by first | (simp; done) | (simp; omega) | omega) _) | (with_reducible refine Below.setCell ?_ (by first | (simp; done) | (simp; omega) | omega) _) | (with_reducible refine Below.trans ?_ (hb1.mono (by first | (simp; done) | (simp; omega) | omega))))

set_option maxHeartbeats 1600000 in
theorem eqStroke_any (x y : Stroke) (cs ds : List Value) (w : World) (h : strokeR.rel w (Old w) cs x) (h' : strokeR.rel w (Old w) ds y) :
    Calls Try.prog 19 #[.agg cs.toArray, .agg ds.toArray] w fun e w' => e = .returned (.bool (same x y)) ∧ Below w.heap.size w w' := by
  obtain ⟨vPoints, rfl, hPoints⟩ := h
  have qPoints := hPoints
  obtain ⟨APoints, cPoints, rfl, _⟩ := qPoints
  obtain ⟨vPoints', rfl, hPoints'⟩ := h'
  have qPoints' := hPoints'
  obtain ⟨APoints', cPoints', rfl, _⟩ := qPoints'
  by_cases e0 : x.Points = y.Points
  rotate_left
  · have H := Lib.hid (show same x y = false from same_not (fun e => e0 (by rw [e])))
    have g0 := same_not e0
    clear e0
    go_enter Try.func19, Try.ntmps19
    go_wp2_with fail
    refine (eqPointS_any _ _ x.Points y.Points _ (hPoints.up ?_) (hPoints'.up ?_)).mono ?_
    · repeat (first | (with_reducible exact Below.refl _ _) | (with_reducible refine Below.drewN ?_ _) | (with_reducible refine Below.drew ?_) | (with_reducible refine Below.alloc ?_ (by first | (simp; done) | (simp; omega) | omega) _) | (with_reducible refine Below.setCell ?_ (by first | (simp; done) | (simp; omega) | omega) _))
    · repeat (first | (with_reducible exact Below.refl _ _) | (with_reducible refine Below.drewN ?_ _) | (with_reducible refine Below.drew ?_) | (with_reducible refine Below.alloc ?_ (by first | (simp; done) | (simp; omega) | omega) _) | (with_reducible refine Below.setCell ?_ (by first | (simp; done) | (simp; omega) | omega) _))
    rintro e w1 ⟨rfl, hb1⟩
    rw [g0]
    obtain ⟨hc1, hf1⟩ := bcell (hb1.mono (B' := w.heap.size + 1 + 1) (by first | (simp; done) | (simp; omega) | omega))
    have hz1 : w.heap.size + 1 + 1 ≤ w1.heap.size := by have := hb1.size; (try simp at this); omega
    go_wp2_with fail
    go_ret
    refine ⟨?_, ?_⟩
    · rw [H.out]; rfl
    · repeat (first | (with_reducible exact Below.refl _ _) | (with_reducible refine Below.drewN ?_ _) | (with_reducible refine Below.drew ?_) | (with_reducible refine Below.alloc ?_ (by first | (simp; done) | (simp; omega) | omega) _) | (with_reducible refine Below.setCell ?_ (by first | (simp; done) | (simp; omega) | omega) _) | (with_reducible refine Below.trans ?_ (hb1.mono (by first | (simp; done) | (simp; omega) | omega))))
  have H := Lib.hid (show same x y = true by rw [same_iff]; cases x; cases y; simp_all)
  have g0 := same_iff.2 e0
  clear e0
  go_enter Try.func19, Try.ntmps19
  go_wp2_with fail
  refine (eqPointS_any _ _ x.Points y.Points _ (hPoints.up ?_) (hPoints'.up ?_)).mono ?_
  · repeat (first | (with_reducible exact Below.refl _ _) | (with_reducible refine Below.drewN ?_ _) | (with_reducible refine Below.drew ?_) | (with_reducible refine Below.alloc ?_ (by first | (simp; done) | (simp; omega) | omega) _) | (with_reducible refine Below.setCell ?_ (by first | (simp; done) | (simp; omega) | omega) _))
  · repeat (first | (with_reducible exact Below.refl _ _) | (with_reducible refine Below.drewN ?_ _) | (with_reducible refine Below.drew ?_) | (with_reducible refine Below.alloc ?_ (by first | (simp; done) | (simp; omega) | omega) _) | (with_reducible refine Below.setCell ?_ (by first | (simp; done) | (simp; omega) | omega) _))
  rintro e w1 ⟨rfl, hb1⟩
  rw [g0]
  obtain ⟨hc1, hf1⟩ := bcell (hb1.mono (B' := w.heap.size + 1 + 1) (by first | (simp; done) | (simp; omega) | omega))
  have hz1 : w.heap.size + 1 + 1 ≤ w1.heap.size := by have := hb1.size; (try simp at this); omega
  go_wp2_with fail
  go_ret
  refine ⟨?_, ?_⟩
  · rw [H.out]; rfl
  · repeat (first | (with_reducible exact Below.refl _ _) | (with_reducible refine Below.drewN ?_ _) | (with_reducible refine Below.drew ?_) | (with_reducible refine Below.alloc ?_ (by first | (simp; done) | (simp; omega) | omega) _) | (with_reducible refine Below.setCell ?_ (by first | (simp; done) | (simp; omega) | omega) _) | (with_reducible refine Below.trans ?_ (hb1.mono (by first | (simp; done) | (simp; omega) | omega))))

structure Writer where
  Band : Int
  Trained : List Trained
deriving DecidableEq
def writerR : Rep Writer :=
  { sz := 2
    rel := fun w S cs x => ∃ vTrained, cs = [.int .i64 x.Band, vTrained] ∧ Sl trainedR w S vTrained x.Trained
    len := fun h => by obtain ⟨vTrained, rfl, hTrained⟩ := h; rfl
    keep := fun h hk => by obtain ⟨vTrained, rfl, hTrained⟩ := h; exact ⟨vTrained, rfl, hTrained.keep hk⟩ }
def bulkWriter (x : Writer) : Nat := bulkTrainedS x.Trained
def bulkWriterS : List Writer → Nat
  | [] => 0
  | x :: r => 1 + bulkWriter x + bulkWriterS r
theorem bulkWriterS_append (xs ys : List Writer) : bulkWriterS (xs ++ ys) = bulkWriterS xs + bulkWriterS ys := by
  induction xs with
  | nil => simp [bulkWriterS]
  | cons x r ih => simp [bulkWriterS, ih]; omega
theorem bulkWriterS_len (xs : List Writer) : xs.length ≤ bulkWriterS xs := by
  induction xs with
  | nil => simp
  | cons x r ih => simp [bulkWriterS]; omega
theorem bulkWriterS_mem {xs : List Writer} {k : Nat} {x : Writer} (h : xs[k]? = some x) : xs.length + bulkWriter x ≤ bulkWriterS xs := by
  induction xs generalizing k with
  | nil => simp at h
  | cons y r ih =>
    cases k with
    | zero => simp at h; subst h; have := bulkWriterS_len r; simp [bulkWriterS]; omega
    | succ k => have := ih (by simpa using h); simp [bulkWriterS]; omega
def cumWriterS (xs : List Writer) (k : Nat) : Nat := xs.length + ((xs.take k).map bulkWriter).sum
theorem sumWriterS (xs : List Writer) : xs.length + (xs.map bulkWriter).sum = bulkWriterS xs := by
  induction xs with
  | nil => rfl
  | cons x r ih => simp [bulkWriterS]; omega
theorem cumWriterS_step {xs : List Writer} {k : Nat} {x : Writer} (h : xs[k]? = some x) : cumWriterS xs (k + 1) = cumWriterS xs k + bulkWriter x := by
  simp [cumWriterS, take_snoc h]; omega
theorem cumWriterS_all (xs : List Writer) : cumWriterS xs xs.length = bulkWriterS xs := by simp [cumWriterS, sumWriterS]
theorem cumWriterS_le (xs : List Writer) (k : Nat) : cumWriterS xs k ≤ bulkWriterS xs := by
  rw [← sumWriterS]
  unfold cumWriterS
  have : (xs.map bulkWriter).sum = ((xs.take k).map bulkWriter).sum + ((xs.drop k).map bulkWriter).sum := by rw [← List.sum_append, ← List.map_append, List.take_append_drop]
  omega
theorem Cells.writer {w : World} {S : Nat → Prop} {A : Option Addr} {xs : List Writer} (h : Cells writerR w S A xs) {i : Nat} {x : Writer} (hi : xs[i]? = some x) :
    ∃ b o vTrained, A = some ⟨b, o, none⟩ ∧ S b ∧ b < w.heap.size ∧ w.cell? ⟨b, o + i * 2, none⟩ = some (.int .i64 x.Band) ∧ w.cell? ⟨b, o + i * 2 + 1, none⟩ = some (vTrained) ∧ Sl trainedR w S vTrained x.Trained := by
  obtain ⟨b, o, cs, hA, hS, hlt, hr, hc⟩ := h.at_ hi
  obtain ⟨vTrained, rfl, hTrained⟩ := hr
  exact ⟨b, o, vTrained, hA, hS, hlt, hc 0 _ rfl, hc 1 _ rfl, hTrained⟩

theorem Try.cellsLWriter0 : Try.prog.cellsOf 2 = 1 := by kernel_rfl
theorem Try.cellsLWriter1 : Try.prog.cellsOf 46 = 1 := by kernel_rfl
def okWriter (x : Writer) : Prop := okInt x.Band ∧ (x.Trained.length ≤ maxLen ∧ ∀ y ∈ x.Trained, okTrained y)
theorem Try.lawsCellsWriter : Try.prog.cellsOf 48 = 2 := by kernel_rfl
theorem opens_writer : Opens Try.prog 48 writerR okWriter := by
  intro H enc w base spare held fuel cs y h
  obtain ⟨ys, n, _, _, hlen, hyl, hf⟩ := DataW.trod_struct Try.underlying48 h
  rw [Try.lawsCellsWriter] at hlen
  obtain ⟨c0, c1, rfl⟩ := len_2 hlen
  have f0 := hf 0 _ rfl
  obtain ⟨x0, r0, o0⟩ := (opens_int Try.underlying2) enc w base spare held _ _ _ (f0.trans (List.getElem?_eq_getElem (by rw [hyl]; decide)))
  simp [intR, Try.cellsLWriter0] at r0
  have f1 := hf 1 _ rfl
  obtain ⟨x1, r1, o1⟩ := (opens_slice Try.underlying46 Try.lawsCellsTrained (by decide) opens_trained) enc w base spare held _ _ _ (f1.trans (List.getElem?_eq_getElem (by rw [hyl]; decide)))
  simp [slR, Try.cellsLWriter1] at r1
  obtain rfl := r0
  have s1 := r1
  exact ⟨⟨x0, x1⟩, ⟨_, rfl, s1⟩, o0, o1⟩

set_option maxHeartbeats 800000 in
theorem szWriter_any (x : Writer) (cs : List Value) (l : Int) (w : World) (h : writerR.rel w (Old w) cs x) (h0 : 0 ≤ l) (h1 : l ≤ 1048576) :
    Calls Try.prog 20 #[.agg cs.toArray, .int .i64 l] w fun e w' => e = .returned (.int .i64 (szTake l (bulkWriter x))) ∧ Below w.heap.size w w' := by
  obtain ⟨vTrained, rfl, hTrained⟩ := h
  have qTrained := hTrained
  obtain ⟨ATrained, cTrained, rfl, _⟩ := qTrained
  by_cases g0 : l < (bulkTrainedS x.Trained : Nat)
  · have H := Lib.hid (show szTake l (bulkWriter x) = -1 from szTake_neg (by unfold bulkWriter; omega))
    go_enter Try.func20, Try.ntmps20
    go_wp2_with fail
    refine (szTrainedS_any _ x.Trained _ _ (hTrained.up ?_) (by omega) (by omega)).mono ?_
    · repeat (first | (with_reducible exact Below.refl _ _) | (with_reducible refine Below.drewN ?_ _) | (with_reducible refine Below.drew ?_) | (with_reducible refine Below.alloc ?_ (by first | (simp; done) | (simp; omega) | omega) _) | (with_reducible refine Below.setCell ?_ (by first | (simp; done) | (simp; omega) | omega) _))
    rintro e w1 ⟨rfl, hb1⟩
    rw [szTake_neg g0]
    obtain ⟨hc1, hf1⟩ := bcell (hb1.mono (B' := w.heap.size + 1) (by first | (simp; done) | (simp; omega) | omega))
    have hz1 : w.heap.size + 1 ≤ w1.heap.size := by have := hb1.size; (try simp at this); omega
    go_wp2_with fail
    go_ret
    refine ⟨?_, ?_⟩
    · rw [H.out]; first | rfl | go_num | exact ret_int (by push_cast; omega)
    · repeat (first | (with_reducible exact Below.refl _ _) | (with_reducible refine Below.drewN ?_ _) | (with_reducible refine Below.drew ?_) | (with_reducible refine Below.alloc ?_ (by first | (simp; done) | (simp; omega) | omega) _) | (with_reducible refine Below.setCell ?_ (by first | (simp; done) | (simp; omega) | omega) _) | (with_reducible refine Below.trans ?_ (hb1.mono (by first | (simp; done) | (simp; omega) | omega))))
  have g0 := Int.not_lt.1 g0
  have H := Lib.hid (show szTake l (bulkWriter x) = l - (bulkTrainedS x.Trained : Nat) from by rw [szTake_of (by unfold bulkWriter; omega)]; unfold bulkWriter; omega)
  go_enter Try.func20, Try.ntmps20
  go_wp2_with fail
  refine (szTrainedS_any _ x.Trained _ _ (hTrained.up ?_) (by omega) (by omega)).mono ?_
  · repeat (first | (with_reducible exact Below.refl _ _) | (with_reducible refine Below.drewN ?_ _) | (with_reducible refine Below.drew ?_) | (with_reducible refine Below.alloc ?_ (by first | (simp; done) | (simp; omega) | omega) _) | (with_reducible refine Below.setCell ?_ (by first | (simp; done) | (simp; omega) | omega) _))
  rintro e w1 ⟨rfl, hb1⟩
  rw [szTake_of g0]
  obtain ⟨hc1, hf1⟩ := bcell (hb1.mono (B' := w.heap.size + 1) (by first | (simp; done) | (simp; omega) | omega))
  have hz1 : w.heap.size + 1 ≤ w1.heap.size := by have := hb1.size; (try simp at this); omega
  go_wp2_with fail
  go_ret
  refine ⟨?_, ?_⟩
  · rw [H.out]; first | rfl | go_num | exact ret_int (by push_cast; omega)
  · repeat (first | (with_reducible exact Below.refl _ _) | (with_reducible refine Below.drewN ?_ _) | (with_reducible refine Below.drew ?_) | (with_reducible refine Below.alloc ?_ (by first | (simp; done) | (simp; omega) | omega) _) | (with_reducible refine Below.setCell ?_ (by first | (simp; done) | (simp; omega) | omega) _) | (with_reducible refine Below.trans ?_ (hb1.mono (by first | (simp; done) | (simp; omega) | omega))))

set_option maxHeartbeats 800000 in
theorem toWriter_any (x : Writer) (cs : List Value) (w : World) (h : writerR.rel w (Old w) cs x) (sTrained : bulkTrainedS x.Trained ≤ 1048576) :
    Calls Try.prog 22 #[.agg cs.toArray] w (Made writerR w x) := by
  obtain ⟨vTrained, rfl, hTrained⟩ := h
  have qTrained := hTrained
  obtain ⟨ATrained, cTrained, rfl, _⟩ := qTrained
  go_enter Try.func22, Try.ntmps22
  go_wp2_with fail
  refine (toTrainedS_any _ x.Trained _ (hTrained.up ?_) sTrained).mono ?_
  · repeat (first | (with_reducible exact Below.refl _ _) | (with_reducible refine Below.drewN ?_ _) | (with_reducible refine Below.drew ?_) | (with_reducible refine Below.alloc ?_ (by first | (simp; done) | (simp; omega) | omega) _) | (with_reducible refine Below.setCell ?_ (by first | (simp; done) | (simp; omega) | omega) _))
  rintro e w1 ⟨rTrained, rfl, gTrained, hb1⟩
  have qTrained' := gTrained
  obtain ⟨BTrained, dTrained, rfl, _⟩ := qTrained'
  obtain ⟨hc1, hf1⟩ := bcell (hb1.mono (B' := w.heap.size + 1 + 1 + 1) (by first | (simp; done) | (simp; omega) | omega))
  have hz1 : w.heap.size + 1 + 1 + 1 ≤ w1.heap.size := by have := hb1.size; (try simp at this); omega
  go_wp2_with fail
  refine bodyPost_ret (v := .agg #[.int .i64 x.Band, .slice BTrained x.Trained.length dTrained]) ?hr rfl ?hR
  case hr => simp [results, Try.results22, go_sem, hc1]
  refine ⟨[.int .i64 x.Band, .slice BTrained x.Trained.length dTrained], rfl, ⟨.slice BTrained x.Trained.length dTrained, rfl, gTrained.kp ?_ ?_⟩, ?_⟩
  · repeat (first | (with_reducible exact Kp.refl _ _) | (with_reducible refine Kp.alloc ?_ _) | (with_reducible refine Kp.setCell ?_ (by first | (simp; done) | (simp; omega) | omega) _) | (with_reducible refine Kp.below ?_ hb1 (by first | (simp; done) | (simp; omega) | omega)))
  · simp; try omega
  · repeat (first | (with_reducible exact Below.refl _ _) | (with_reducible refine Below.drewN ?_ _) | (with_reducible refine Below.drew ?_) | (with_reducible refine Below.alloc ?_ (by first | (simp; done) | (simp; omega) | omega) _) | (with_reducible refine Below.setCell ?_ (by first | (simp; done) | (simp; omega) | omega) _) | (with_reducible refine Below.trans ?_ (hb1.mono (by first | (simp; done) | (simp; omega) | omega))))

set_option maxHeartbeats 1600000 in
theorem eqWriter_any (x y : Writer) (cs ds : List Value) (w : World) (h : writerR.rel w (Old w) cs x) (h' : writerR.rel w (Old w) ds y) :
    Calls Try.prog 24 #[.agg cs.toArray, .agg ds.toArray] w fun e w' => e = .returned (.bool (same x y)) ∧ Below w.heap.size w w' := by
  obtain ⟨vTrained, rfl, hTrained⟩ := h
  have qTrained := hTrained
  obtain ⟨ATrained, cTrained, rfl, _⟩ := qTrained
  obtain ⟨vTrained', rfl, hTrained'⟩ := h'
  have qTrained' := hTrained'
  obtain ⟨ATrained', cTrained', rfl, _⟩ := qTrained'
  by_cases e0 : x.Band = y.Band
  rotate_left
  · have H := Lib.hid (show same x y = false from same_not (fun e => e0 (by rw [e])))
    go_enter Try.func24, Try.ntmps24
    go_wp2_with fail
    go_ret
    refine ⟨?_, ?_⟩
    · rw [H.out]; rfl
    · repeat (first | (with_reducible exact Below.refl _ _) | (with_reducible refine Below.drewN ?_ _) | (with_reducible refine Below.drew ?_) | (with_reducible refine Below.alloc ?_ (by first | (simp; done) | (simp; omega) | omega) _) | (with_reducible refine Below.setCell ?_ (by first | (simp; done) | (simp; omega) | omega) _))
  by_cases e1 : x.Trained = y.Trained
  rotate_left
  · have H := Lib.hid (show same x y = false from same_not (fun e => e1 (by rw [e])))
    have g1 := same_not e1
    rw [e0]
    clear e0 e1
    go_enter Try.func24, Try.ntmps24
    go_wp2_with fail
    refine (eqTrainedS_any _ _ x.Trained y.Trained _ (hTrained.up ?_) (hTrained'.up ?_)).mono ?_
    · repeat (first | (with_reducible exact Below.refl _ _) | (with_reducible refine Below.drewN ?_ _) | (with_reducible refine Below.drew ?_) | (with_reducible refine Below.alloc ?_ (by first | (simp; done) | (simp; omega) | omega) _) | (with_reducible refine Below.setCell ?_ (by first | (simp; done) | (simp; omega) | omega) _))
    · repeat (first | (with_reducible exact Below.refl _ _) | (with_reducible refine Below.drewN ?_ _) | (with_reducible refine Below.drew ?_) | (with_reducible refine Below.alloc ?_ (by first | (simp; done) | (simp; omega) | omega) _) | (with_reducible refine Below.setCell ?_ (by first | (simp; done) | (simp; omega) | omega) _))
    rintro e w1 ⟨rfl, hb1⟩
    rw [g1]
    obtain ⟨hc1, hf1⟩ := bcell (hb1.mono (B' := w.heap.size + 1 + 1) (by first | (simp; done) | (simp; omega) | omega))
    have hz1 : w.heap.size + 1 + 1 ≤ w1.heap.size := by have := hb1.size; (try simp at this); omega
    go_wp2_with fail
    go_ret
    refine ⟨?_, ?_⟩
    · rw [H.out]; rfl
    · repeat (first | (with_reducible exact Below.refl _ _) | (with_reducible refine Below.drewN ?_ _) | (with_reducible refine Below.drew ?_) | (with_reducible refine Below.alloc ?_ (by first | (simp; done) | (simp; omega) | omega) _) | (with_reducible refine Below.setCell ?_ (by first | (simp; done) | (simp; omega) | omega) _) | (with_reducible refine Below.trans ?_ (hb1.mono (by first | (simp; done) | (simp; omega) | omega))))
  have H := Lib.hid (show same x y = true by rw [same_iff]; cases x; cases y; simp_all)
  rw [e0]
  have g1 := same_iff.2 e1
  clear e0 e1
  go_enter Try.func24, Try.ntmps24
  go_wp2_with fail
  refine (eqTrainedS_any _ _ x.Trained y.Trained _ (hTrained.up ?_) (hTrained'.up ?_)).mono ?_
  · repeat (first | (with_reducible exact Below.refl _ _) | (with_reducible refine Below.drewN ?_ _) | (with_reducible refine Below.drew ?_) | (with_reducible refine Below.alloc ?_ (by first | (simp; done) | (simp; omega) | omega) _) | (with_reducible refine Below.setCell ?_ (by first | (simp; done) | (simp; omega) | omega) _))
  · repeat (first | (with_reducible exact Below.refl _ _) | (with_reducible refine Below.drewN ?_ _) | (with_reducible refine Below.drew ?_) | (with_reducible refine Below.alloc ?_ (by first | (simp; done) | (simp; omega) | omega) _) | (with_reducible refine Below.setCell ?_ (by first | (simp; done) | (simp; omega) | omega) _))
  rintro e w1 ⟨rfl, hb1⟩
  rw [g1]
  obtain ⟨hc1, hf1⟩ := bcell (hb1.mono (B' := w.heap.size + 1 + 1) (by first | (simp; done) | (simp; omega) | omega))
  have hz1 : w.heap.size + 1 + 1 ≤ w1.heap.size := by have := hb1.size; (try simp at this); omega
  go_wp2_with fail
  go_ret
  refine ⟨?_, ?_⟩
  · rw [H.out]; rfl
  · repeat (first | (with_reducible exact Below.refl _ _) | (with_reducible refine Below.drewN ?_ _) | (with_reducible refine Below.drew ?_) | (with_reducible refine Below.alloc ?_ (by first | (simp; done) | (simp; omega) | omega) _) | (with_reducible refine Below.setCell ?_ (by first | (simp; done) | (simp; omega) | omega) _) | (with_reducible refine Below.trans ?_ (hb1.mono (by first | (simp; done) | (simp; omega) | omega))))

end Go.Proofs.Ytjfopofcbopfjaa
