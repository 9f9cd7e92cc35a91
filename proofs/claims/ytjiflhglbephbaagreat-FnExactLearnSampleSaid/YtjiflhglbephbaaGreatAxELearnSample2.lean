/- Contracts that the statement FnExactLearnSample reaches, part 2. No conditions. -/
import Derived.Test.YtjiflhglbephbaaGreatAxELearnSample1
import Derived.Test.YtjiflhglbephbaaGreatAxR
import Derived.Test.YtjiflhglbephbaaGreatAxS
import Derived.Test.YtjiflhglbephbaaGreatAxY
import Derived.Test.YtjiflhglbephbaaGreatSortShelf
namespace Go.Proofs.YtjiflhglbephbaaGreat.Ax
open Go.RowKit Go.ChangeShapes Go.WideShapes
set_option linter.unusedVariables false
set_option linter.unusedSimpArgs false


/-- How far numbers are from a number, all in all. -/
def devL (z : Int) (xs : List Int) : Int := smL (fun v => ((z - v).natAbs : Int)) xs
theorem devL_up {z z' : Int} {q : List Int} (h : z ≤ z') (hq : ∀ v ∈ q, z' ≤ v) : devL z' q = devL z q - (q.length : Int) * (z' - z) := by
  induction q with
  | nil => simp [devL, smL]
  | cons v r ih =>
    have hv := hq v (by simp)
    have e := ih fun w hw => hq w (by simp [hw])
    simp only [devL, smL] at e ⊢
    rw [e, List.length_cons, show ((r.length + 1 : Nat) : Int) * (z' - z) = (r.length : Int) * (z' - z) + (z' - z) from by rw [show ((r.length + 1 : Nat) : Int) = (r.length : Int) + 1 from rfl, Int.add_mul]; omega]
    omega
theorem devL_any {z z' : Int} {q : List Int} : devL z' q ≤ devL z q + (q.length : Int) * ((z' - z).natAbs : Int) := by
  induction q with
  | nil => simp [devL, smL]
  | cons v r ih =>
    simp only [devL, smL] at ih ⊢
    rw [List.length_cons, show ((r.length + 1 : Nat) : Int) * ((z' - z).natAbs : Int) = (r.length : Int) * ((z' - z).natAbs : Int) + ((z' - z).natAbs : Int) from by rw [show ((r.length + 1 : Nat) : Int) = (r.length : Int) + 1 from rfl, Int.add_mul]; omega]
    omega
theorem devL_dn {z z' : Int} {q : List Int} (h : z' ≤ z) (hq : ∀ v ∈ q, v ≤ z') : devL z' q = devL z q - (q.length : Int) * (z - z') := by
  induction q with
  | nil => simp [devL, smL]
  | cons v r ih =>
    have hv := hq v (by simp)
    have e := ih fun w hw => hq w (by simp [hw])
    simp only [devL, smL] at e ⊢
    rw [e, List.length_cons, show ((r.length + 1 : Nat) : Int) * (z - z') = (r.length : Int) * (z - z') + (z - z') from by rw [show ((r.length + 1 : Nat) : Int) = (r.length : Int) + 1 from rfl, Int.add_mul]; omega]
    omega
theorem sortL_pw' (xs : List Int) : (sortL xs).Pairwise fun x y => x ≤ y := by
  have h := List.pairwise_mergeSort (le := fun x y : Int => decide (x ≤ y)) (fun a b c h1 h2 => by simp only [decide_eq_true_eq] at *; omega) (fun a b => by simp only [Bool.or_eq_true, decide_eq_true_eq]; omega) xs
  exact h.imp fun h => by simpa using h
theorem pw_at {xs : List Int} (h : xs.Pairwise fun x y => x ≤ y) {i j : Nat} (hij : i ≤ j) (hj : j < xs.length) : at_ xs i ≤ at_ xs j := by
  rcases Nat.lt_or_eq_of_le hij with e | e
  · rw [at_eq hj, at_eq (by omega)]
    exact (List.pairwise_iff_getElem.1 h) i j (by omega) hj e
  · subst e; exact Int.le_refl _
theorem mem_drop_at {xs : List Int} {k : Nat} {v : Int} (h : v ∈ xs.drop k) : ∃ i, k ≤ i ∧ i < xs.length ∧ v = at_ xs i := by
  obtain ⟨i, hi, e⟩ := List.getElem_of_mem h
  rw [List.length_drop] at hi
  refine ⟨k + i, by omega, by omega, ?_⟩
  rw [← e, List.getElem_drop, at_eq (by omega)]
theorem mem_take_at {xs : List Int} {k : Nat} {v : Int} (h : v ∈ xs.take k) : ∃ i, i < k ∧ i < xs.length ∧ v = at_ xs i := by
  obtain ⟨i, hi, e⟩ := List.getElem_of_mem h
  rw [List.length_take] at hi
  refine ⟨i, by omega, by omega, ?_⟩
  rw [← e, List.getElem_take, at_eq (by omega)]
/-- Towards the median the distances become no greater. -/
theorem dev_med {xs : List Int} (hn : 1 ≤ xs.length) {z z' : Int} (h : (z ≤ z' ∧ z' ≤ medI xs) ∨ (z' ≤ z ∧ medI xs ≤ z')) : devL z' xs ≤ devL z xs := by
  have hp : List.Perm (sortL xs) xs := List.mergeSort_perm _ _
  have hl := sortL_len xs
  have hw := sortL_pw' xs
  unfold devL
  rw [← smL_perm _ hp, ← smL_perm (fun v => ((z - v).natAbs : Int)) hp]
  show devL z' (sortL xs) ≤ devL z (sortL xs)
  obtain ⟨ys, hy⟩ : ∃ ys, ys = sortL xs := ⟨_, rfl⟩
  unfold medI at h
  rw [← hy] at hl hw h ⊢
  obtain ⟨k, hk⟩ : ∃ k, k = (xs.length - 1) / 2 := ⟨_, rfl⟩
  rw [← hk] at h
  rcases h with ⟨h1, h2⟩ | ⟨h1, h2⟩
  · rw [← List.take_append_drop k ys]
    have q1 : devL z' (ys.drop k) = devL z (ys.drop k) - ((ys.drop k).length : Int) * (z' - z) := devL_up h1 fun v hv => by
      obtain ⟨i, h3, h4, rfl⟩ := mem_drop_at hv
      exact Int.le_trans h2 (pw_at hw h3 h4)
    have q2 := devL_any (z := z) (z' := z') (q := ys.take k)
    unfold devL at q1 q2 ⊢
    rw [smL_app, smL_app, q1]
    have e : ((z' - z).natAbs : Int) = z' - z := by omega
    rw [e] at q2
    have : ((ys.take k).length : Int) * (z' - z) ≤ ((ys.drop k).length : Int) * (z' - z) := Int.mul_le_mul_of_nonneg_right (by rw [List.length_take, List.length_drop]; omega) (by omega)
    omega
  · rw [← List.take_append_drop (k + 1) ys]
    have q1 : devL z' (ys.take (k + 1)) = devL z (ys.take (k + 1)) - ((ys.take (k + 1)).length : Int) * (z - z') := devL_dn h1 fun v hv => by
      obtain ⟨i, h3, h4, rfl⟩ := mem_take_at hv
      exact Int.le_trans (pw_at hw (show i ≤ k by omega) (by omega)) h2
    have q2 := devL_any (z := z) (z' := z') (q := ys.drop (k + 1))
    unfold devL at q1 q2 ⊢
    rw [smL_app, smL_app, q1]
    have e : ((z' - z).natAbs : Int) = z - z' := by omega
    rw [e] at q2
    have : ((ys.drop (k + 1)).length : Int) * (z - z') ≤ ((ys.take (k + 1)).length : Int) * (z - z') := Int.mul_le_mul_of_nonneg_right (by rw [List.length_take, List.length_drop]; omega) (by omega)
    omega
theorem tow_between {x m base share : Int} (hs : 0 ≤ share ∧ share ≤ 100) (hb : base - 40 ≤ x ∧ x ≤ base + 40) : (x ≤ towI x m base share ∧ towI x m base share ≤ m) ∨ (towI x m base share ≤ x ∧ m ≤ towI x m base share) := by
  unfold towI
  have hd : (0 ≤ m - x ∧ 0 ≤ Int.tdiv ((m - x) * share) 100 ∧ Int.tdiv ((m - x) * share) 100 ≤ m - x) ∨ (m - x ≤ 0 ∧ Int.tdiv ((m - x) * share) 100 ≤ 0 ∧ m - x ≤ Int.tdiv ((m - x) * share) 100) := by
    rcases Int.le_total 0 (m - x) with h | h
    · left
      have h1 := Int.mul_nonneg h hs.1
      have h2 := Int.mul_le_mul_of_nonneg_left hs.2 h
      rw [Int.tdiv_eq_ediv_of_nonneg h1]
      omega
    · right
      have h1 := Int.mul_nonneg (show 0 ≤ x - m by omega) hs.1
      have h2 := Int.mul_le_mul_of_nonneg_left hs.2 (show 0 ≤ x - m by omega)
      rw [show (m - x) * share = -((x - m) * share) from by rw [← Int.neg_mul]; congr 1; omega, Int.neg_tdiv, Int.tdiv_eq_ediv_of_nonneg h1]
      omega
  omega
theorem tow_in {x m base share : Int} (hs : 0 ≤ share ∧ share ≤ 100) (hb : base - 40 ≤ x ∧ x ≤ base + 40) (hx : 0 ≤ x ∧ x ≤ 255) (hm : 0 ≤ m ∧ m ≤ 255) : (0 ≤ towI x m base share ∧ towI x m base share ≤ 255) ∧ base - 40 ≤ towI x m base share ∧ towI x m base share ≤ base + 40 := by
  have h := tow_between (m := m) hs hb
  refine ⟨by omega, ?_⟩
  unfold towI; omega
theorem near_at {t : Trained} (h : okTrained' t = true) {i : Nat} (hi : i < t.Feats.length) : (at_ t.Base i).D = (at_ t.Feats i).D ∧ ((at_ t.Base i).X - 40 ≤ (at_ t.Feats i).X ∧ (at_ t.Feats i).X ≤ (at_ t.Base i).X + 40) ∧ ((at_ t.Base i).Y - 40 ≤ (at_ t.Feats i).Y ∧ (at_ t.Feats i).Y ≤ (at_ t.Base i).Y + 40) := by
  have q := (okTr_iff.1 h).2.2.2.1
  have := allN_get q.2 (show i < t.Base.length by omega)
  simp only [nearB, Bool.and_eq_true, decide_eq_true_eq] at this
  omega
theorem adpT_at {t : Trained} {s : List Feat} {band share : Int} {i : Nat} (hi : i < t.Feats.length) : at_ (adpT t s band share).Feats i = adpF t s band share i := by
  show at_ (adpN t s band share t.Feats.length) i = _
  rw [at_eq (by rw [adpN_len]; exact hi)]
  simp [adpN]
/-- An adapted template is valid. -/
theorem adpT_ok {t : Trained} {s : List Feat} {band share : Int} (h : okTrained' t = true) (hs : okFeats s 72 = true) (hb : inBd band t.Feats.length s.length) (hsh : 0 ≤ share ∧ share ≤ 100) (hc : t.Count < 100) : okTrained' (adpT t s band share) = true := by
  have q := okTr_iff.1 h
  have hl := adpT_len t s band share
  have ha : ∀ i : Nat, i < t.Feats.length → okF (adpF t s band share i) = true ∧ nearB (at_ t.Base i) (adpF t s band share i) = true := fun i hi => by
    have f1 := okF_iff.1 (okFeats_at q.2.2.1 hi)
    have n := near_at h hi
    have mx := med_bd q.2.2.1 hs hb okF_X hi
    have my := med_bd q.2.2.1 hs hb okF_Y hi
    have tx := tow_in hsh n.2.1 (by omega) mx
    have ty := tow_in hsh n.2.2 (by omega) my
    refine ⟨okF_iff.2 ⟨tx.1, ty.1, f1.2.2⟩, ?_⟩
    simp only [nearB, Bool.and_eq_true, decide_eq_true_eq]
    refine ⟨n.1, ?_, ?_⟩
    · show ((((at_ t.Base i).X - towI _ _ _ _).natAbs : Nat) : Int) ≤ 40; omega
    · show ((((at_ t.Base i).Y - towI _ _ _ _).natAbs : Nat) : Int) ≤ 40; omega
  have n := okFeats_n q.2.2.1
  refine okTr_iff.2 ⟨q.1, q.2.1, ?_, ⟨by rw [hl]; exact q.2.2.2.1.1, allN_at fun j hj => ?_⟩, ?_⟩
  · simp only [okFeats, Bool.and_eq_true, decide_eq_true_eq]
    refine ⟨by rw [hl]; omega, allN_at fun j hj => ?_⟩
    rw [hl] at hj
    rw [adpT_at hj]; exact (ha j hj).1
  · have hj' : j < t.Feats.length := by have := q.2.2.2.1.1; show j < _; have : (adpT t s band share).Base = t.Base := rfl; rw [this] at hj; omega
    rw [adpT_at hj']; exact (ha j hj').2
  · have := inB_iff.1 q.2.2.2.2
    exact inB_iff.2 (show 0 ≤ t.Count + 1 ∧ t.Count + 1 ≤ 100 by omega)
theorem row_cost (a b : List Feat) (P : List Pair) (k : Nat) : smL (fun p => costF (at_ a p.I.toNat) (at_ b p.J.toNat)) (P.filter fun p => decide (p.I = (k : Int))) =
    devL (at_ a k).X (xsF Feat.X P b k) + devL (at_ a k).Y (xsF Feat.Y P b k) + smL (fun p => 16 * min (((at_ a k).D - (at_ b p.J.toNat).D).natAbs : Int) (8 - (((at_ a k).D - (at_ b p.J.toNat).D).natAbs : Int))) (P.filter fun p => decide (p.I = (k : Int))) := by
  unfold xsF
  have hm : ∀ p ∈ P.filter (fun p => decide (p.I = (k : Int))), p.I.toNat = k := fun p hp => by have := (List.mem_filter.1 hp).2; simp at this; omega
  revert hm
  generalize P.filter (fun p => decide (p.I = (k : Int))) = Q
  intro hm
  induction Q with
  | nil => rfl
  | cons p r ih =>
    have e := hm p (by simp)
    have q := ih fun w hw => hm w (by simp [hw])
    simp only [devL, smL, List.map_cons] at q ⊢
    rw [e, q]
    unfold costF
    omega
/-- A sample costs no more after it was learnt. -/
theorem adp_less {t : Trained} {s : List Feat} {band share : Int} (h : okTrained' t = true) (hs : okFeats s 72 = true) (hb : inBd band t.Feats.length s.length) (hsh : 0 ≤ share ∧ share ≤ 100) (hc : t.Count < 100) :
    cv farS (adpT t s band share).Feats s band ((adpT t s band share).Feats.length - 1) (s.length - 1) ≤ cv farS t.Feats s band (t.Feats.length - 1) (s.length - 1) := by
  have q := okTr_iff.1 h
  have hl := adpT_len t s band share
  have ok' := (okTr_iff.1 (adpT_ok h hs hb hsh hc)).2.2.1
  have hab := okAB_of q.2.2.1 hs
  have hab' := okAB_of ok' hs
  have n1 := okFeats_n q.2.2.1
  have n2 := okFeats_n hs
  have he := inBd_end hb n1.1 n2.1
  rw [hl]
  have e1 := bk_cost (band := band) hab (t.Feats.length + s.length - 1) (t.Feats.length - 1) (s.length - 1) (by omega) (by omega) he (by omega)
  have e2 := bk_least (band := band) hab hab' hl (t.Feats.length + s.length - 1) (t.Feats.length - 1) (s.length - 1) (by omega) (by omega) he (by omega)
  refine Int.le_trans e2 ?_
  rw [e1, pcL_eq, pcL_eq]
  have hall : (bk t.Feats s band (t.Feats.length + s.length - 1) (t.Feats.length - 1) (s.length - 1)).filter (fun p => decide (p.I < (t.Feats.length : Int))) = bk t.Feats s band (t.Feats.length + s.length - 1) (t.Feats.length - 1) (s.length - 1) := List.filter_eq_self.2 fun p hp => by have := bk_mem hp; simp; omega
  rw [← hall]
  refine smL_le_all (fun p hp => (bk_mem hp).1.1) t.Feats.length fun k hk => ?_
  rw [row_cost, row_cost, adpT_at hk]
  have n := near_at h hk
  have px := xs_pos q.2.2.1 hs hb Feat.X hk
  have py := xs_pos q.2.2.1 hs hb Feat.Y hk
  have rv : ∀ f : Feat → Int, List.Perm (xsF f (pathOf t.Feats s band) s k) (xsF f (bk t.Feats s band (t.Feats.length + s.length - 1) (t.Feats.length - 1) (s.length - 1)) s k) := fun f => by
    unfold xsF pathOf tot
    rw [List.filter_reverse, List.map_reverse]
    exact List.reverse_perm _
  have dx := dev_med px.1 (tow_between (m := medI (xsF Feat.X (pathOf t.Feats s band) s k)) hsh n.2.1)
  have dy := dev_med py.1 (tow_between (m := medI (xsF Feat.Y (pathOf t.Feats s band) s k)) hsh n.2.2)
  unfold devL at dx dy ⊢
  rw [smL_perm _ (rv Feat.X), smL_perm _ (rv Feat.X)] at dx
  rw [smL_perm _ (rv Feat.Y), smL_perm _ (rv Feat.Y)] at dy
  show smL (fun v => (((towI _ _ _ _ - v).natAbs : Nat) : Int)) _ + smL (fun v => (((towI _ _ _ _ - v).natAbs : Nat) : Int)) _ + _ ≤ _
  have := Int.add_le_add dx dy
  exact Int.add_le_add_right this _

/-- Whether a template may learn a sample. -/
def lrnB (w : Writer) (label : ByteArray) (s : List Feat) (j : Nat) : Bool := decide ((at_ w.Trained j).Label = label) && (decide ((at_ w.Trained j).Count < 100) && (inB w.Band 0 72 && decide (((((at_ w.Trained j).Feats.length : Int) - (s.length : Int)).natAbs : Int) ≤ w.Band)))
/-- Which of the first k templates learns a sample, and its cost. -/
def pkS (w : Writer) (label : ByteArray) (s : List Feat) : Nat → Int × Int
  | 0 => (-1, 0)
  | k + 1 => if lrnB w label s k = true ∧ ((pkS w label s k).1 < 0 ∨ cv farS s (at_ w.Trained k).Feats w.Band (s.length - 1) ((at_ w.Trained k).Feats.length - 1) < (pkS w label s k).2) then ((k : Int), cv farS s (at_ w.Trained k).Feats w.Band (s.length - 1) ((at_ w.Trained k).Feats.length - 1)) else pkS w label s k
def pkI (w : Writer) (label : ByteArray) (s : List Feat) : Int := (pkS w label s w.Trained.length).1
theorem pkS_bd (w : Writer) (label : ByteArray) (s : List Feat) : ∀ k : Nat, (-1 ≤ (pkS w label s k).1 ∧ (pkS w label s k).1 < (k : Int) ∨ (pkS w label s k).1 = -1) ∧ (0 ≤ (pkS w label s k).1 → lrnB w label s (pkS w label s k).1.toNat = true)
  | 0 => ⟨.inr rfl, fun h => absurd h (by show ¬ (0 : Int) ≤ -1; decide)⟩
  | k + 1 => by
    have ih := pkS_bd w label s k
    unfold pkS
    split
    · rename_i h
      exact ⟨.inl ⟨by dsimp only; omega, by dsimp only; omega⟩, fun _ => h.1⟩
    · refine ⟨?_, ih.2⟩
      rcases ih.1 with q | q
      · exact .inl ⟨q.1, by omega⟩
      · exact .inr q
theorem pkI_bd (w : Writer) (label : ByteArray) (s : List Feat) : (-1 ≤ pkI w label s ∧ pkI w label s < (w.Trained.length : Int)) ∧ (0 ≤ pkI w label s → lrnB w label s (pkI w label s).toNat = true) := by
  have h := pkS_bd w label s w.Trained.length
  unfold pkI
  exact ⟨by omega, h.2⟩
theorem okW_iff {w : Writer} : okWriter' w = true ↔ (0 ≤ w.Band ∧ w.Band ≤ 72) ∧ w.Trained.length ≤ 40 ∧ ∀ j, j < w.Trained.length → okTrained' (at_ w.Trained j) = true := by
  simp only [okWriter', Bool.and_eq_true, decide_eq_true_eq, inB, allN_iff]
  constructor
  · rintro ⟨a, b, c⟩; exact ⟨a, by omega, c⟩
  · rintro ⟨a, b, c⟩; exact ⟨a, by omega, c⟩
theorem lrn_iff {w : Writer} {label : ByteArray} {s : List Feat} {j : Nat} : lrnB w label s j = true ↔ (at_ w.Trained j).Label = label ∧ (at_ w.Trained j).Count < 100 ∧ (0 ≤ w.Band ∧ w.Band ≤ 72) ∧ inBd w.Band (at_ w.Trained j).Feats.length s.length := by
  simp only [lrnB, Bool.and_eq_true, decide_eq_true_eq, inB, inBd]
/-- A writer after a sample that the template k learns; a new one if k is negative. -/
def lrnT (w : Writer) (label : ByteArray) (s : List Feat) (share k : Int) : List Trained := if k < 0 then w.Trained ++ [⟨label, s, s, 0⟩] else w.Trained.set k.toNat (adpT (at_ w.Trained k.toNat) s w.Band share)
def lrnW (w : Writer) (label : ByteArray) (s : List Feat) (share : Int) : Writer := ⟨w.Band, lrnT w label s share (pkI w label s)⟩
def lrnA (w : Writer) (label : ByteArray) (s : List Feat) : Int := if pkI w label s < 0 then (w.Trained.length : Int) else pkI w label s
/-- The first templates after the sample. -/
def lrnP (w : Writer) (s : List Feat) (share k : Int) (n : Nat) : List Trained := (List.range n).map fun j : Nat => if (j : Int) = k then adpT (at_ w.Trained j) s w.Band share else at_ w.Trained j
theorem lrnP_len (w : Writer) (s : List Feat) (share k : Int) (n : Nat) : (lrnP w s share k n).length = n := by simp [lrnP]
theorem lrnP_y {w : Writer} {s : List Feat} {share k : Int} {n : Nat} {y : Trained} (h : (n : Int) = k) (hy : y = adpT (at_ w.Trained n) s w.Band share) : lrnP w s share k n ++ [y] = lrnP w s share k (n + 1) := by
  subst hy; simp [lrnP, List.range_succ, h]
theorem lrnP_n {w : Writer} {s : List Feat} {share k : Int} {n : Nat} {y : Trained} (h : ¬ (n : Int) = k) (hy : y = at_ w.Trained n) : lrnP w s share k n ++ [y] = lrnP w s share k (n + 1) := by
  subst hy; simp [lrnP, List.range_succ, h]
theorem lrnP_neg {w : Writer} {s : List Feat} {share k : Int} (h : k < 0) : lrnP w s share k w.Trained.length = w.Trained := by
  refine ext_at (lrnP_len _ _ _ _ _) fun j hj => ?_
  rw [lrnP_len] at hj
  rw [at_eq (by rw [lrnP_len]; exact hj)]
  simp only [lrnP, List.getElem_map, List.getElem_range]
  rw [if_neg (by omega)]
theorem lrnP_pos {w : Writer} {s : List Feat} {share k : Int} (h : 0 ≤ k ∧ k < (w.Trained.length : Int)) : lrnP w s share k w.Trained.length = w.Trained.set k.toNat (adpT (at_ w.Trained k.toNat) s w.Band share) := by
  refine ext_at (by rw [lrnP_len, List.length_set]) fun j hj => ?_
  rw [lrnP_len] at hj
  rw [at_eq (by rw [lrnP_len]; exact hj)]
  simp only [lrnP, List.getElem_map, List.getElem_range]
  by_cases e : j = k.toNat
  · subst e
    rw [if_pos (by omega), at_set_same hj]
  · rw [if_neg (by omega), at_set_oth e]
theorem at_stT (y : Trained) : y = ⟨y.Label, y.Base, y.Feats, y.Count⟩ := rfl

theorem pk_no {w : Writer} {label : ByteArray} {s : List Feat} {k : Nat} (h : lrnB w label s k = false) : pkS w label s (k + 1) = pkS w label s k := by
  rw [pkS, if_neg (fun q => by rw [h] at q; exact absurd q.1 (by decide))]
theorem pk_same {w : Writer} {label : ByteArray} {s : List Feat} {k : Nat} {c : Int} (hc : c = cv farS s (at_ w.Trained k).Feats w.Band (s.length - 1) ((at_ w.Trained k).Feats.length - 1)) {b l : Int} (hb : pkS w label s k = (b, l)) (h1 : ¬ b < 0) (h2 : ¬ c < l) : pkS w label s (k + 1) = (b, l) := by
  rw [pkS, hb, if_neg (fun q => by rw [← hc] at q; rcases q.2 with q | q <;> simp only at q <;> omega)]
theorem pk_yes {w : Writer} {label : ByteArray} {s : List Feat} {k : Nat} {c : Int} (h : lrnB w label s k = true) (hc : c = cv farS s (at_ w.Trained k).Feats w.Band (s.length - 1) ((at_ w.Trained k).Feats.length - 1)) {b l : Int} (hb : pkS w label s k = (b, l)) (h1 : b < 0 ∨ c < l) : pkS w label s (k + 1) = ((k : Int), c) := by
  rw [pkS, hb, if_pos ⟨h, by rw [← hc]; exact h1⟩, hc]
theorem lrn_cv {w : Writer} {label : ByteArray} {s : List Feat} {k : Nat} (hs : okFeats s 72 = true) (ht : okTrained' (at_ w.Trained k) = true) (h : lrnB w label s k = true) : cv farI s (at_ w.Trained k).Feats w.Band (s.length - 1) ((at_ w.Trained k).Feats.length - 1) = cv farS s (at_ w.Trained k).Feats w.Band (s.length - 1) ((at_ w.Trained k).Feats.length - 1) := by
  have q := (lrn_iff.1 h).2.2.2
  have h1 := okFeats_n hs
  have hf := (okTr_iff.1 ht).2.2.1
  have h2 := okFeats_n hf
  have hb := inBd_end q h2.1 h1.1
  rcases cv_fin (band := w.Band) (i := s.length - 1) (j := (at_ w.Trained k).Feats.length - 1) (okAB_of hs hf) (by omega) (by omega) with g | g
  · exact g.2.1
  · exact absurd (by unfold inBd at hb ⊢; omega) g.1
theorem lrn_mk {w : Writer} {label : ByteArray} {s : List Feat} {k : Nat} (h1 : (at_ w.Trained k).Label = label) (h2 : (at_ w.Trained k).Count < 100) (h3 : (inB w.Band 0 72 && decide (((((at_ w.Trained k).Feats.length : Int) - (s.length : Int)).natAbs : Int) ≤ w.Band)) = true) : lrnB w label s k = true := by
  unfold lrnB; rw [h3]; simp [h1, h2]
theorem lrn_n1 {w : Writer} {label : ByteArray} {s : List Feat} {k : Nat} (h1 : ¬ (at_ w.Trained k).Label = label) : lrnB w label s k = false := by simp [lrnB, h1]
theorem lrn_n2 {w : Writer} {label : ByteArray} {s : List Feat} {k : Nat} (h1 : 100 ≤ (at_ w.Trained k).Count) : lrnB w label s k = false := by
  have : ¬ (at_ w.Trained k).Count < 100 := by omega
  simp [lrnB, this]
theorem lrn_n3 {w : Writer} {label : ByteArray} {s : List Feat} {k : Nat} (h3 : (inB w.Band 0 72 && decide (((((at_ w.Trained k).Feats.length : Int) - (s.length : Int)).natAbs : Int) ≤ w.Band)) = false) : lrnB w label s k = false := by
  unfold lrnB; rw [h3]; simp

-- spec.l24Pick
theorem l24Pick_ok (w : Writer) (label : ByteArray) (sample : List Feat) (hw : (0 ≤ w.Band ∧ w.Band ≤ 72) ∧ w.Trained.length ≤ 40 ∧ ∀ j, j < w.Trained.length → okTrained' (at_ w.Trained j) = true) (oks : okFeats sample 72 = true) : ∃ (v : Int), (v = pkI w label sample) ∧ Con Tryz.prog 50 [.ptr false [I w.Band, slTrained false w.Trained], Sv label, slFeat false sample] true (I v) := by
  have hh : ∃ r : Int, ((r = pkI w label sample) ∧ (True)) ∧ CallOK Tryz.prog 50 [.ptr false [I w.Band, slTrained false w.Trained], Sv label, slFeat false sample] (lookO []) true (I r) (lookO []) := by
    refine fn_okX (Φ := fun r : Int => (r = pkI w label sample) ∧ (True)) [] (fun r => []) (fn := Tryz.f50) (nt := 73) Tryz.func50 rfl rfl (args := [.ptr false [I w.Band, slTrained false w.Trained], Sv label, slFeat false sample]) rfl (allcons (.inl ⟨rfl, by simp [tagged, taggedL, tagTrained]⟩) (allcons (.inl ⟨rfl, trivial⟩) (allcons (.inl ⟨rfl, tagFeat false _⟩) allnil))) (res := fun r => I r) ?_
    refine xR [] [0, 1, 2] [] [.ptr false [I w.Band, slTrained false w.Trained], Sv label, slFeat false sample] [] [] trivial ?_
    refine xR [] [0, 1, 2, 7] [] [.ptr false [I w.Band, slTrained false w.Trained], Sv label, slFeat false sample, I (-1)] [] [] trivial ?_
    refine xR [] [0, 1, 2, 7, 8] [] [.ptr false [I w.Band, slTrained false w.Trained], Sv label, slFeat false sample, I (-1), I 0] [] [] trivial ?_
    refine x_seq ?_
    refine xR [] [0, 1, 2, 7, 8, 9] [] [.ptr false [I w.Band, slTrained false w.Trained], Sv label, slFeat false sample, I (-1), I 0, I 0] [] [] trivial ?_
    refine x_block ?_
    refine x_loop (X := Int × Int × Int) (fun x => mkS [(0, .ptr false [I w.Band, slTrained false w.Trained]), (1, Sv label), (2, slFeat false sample), (7, I x.1), (8, I x.2.1), (9, I x.2.2)] []) (fun x => (0 ≤ x.2.2 ∧ x.2.2 ≤ (w.Trained.length : Int)) ∧ (pkS w label sample x.2.2.toNat = (x.1, x.2.1)) ∧ True) (fun x => ((w.Trained.length : Int) - x.2.2).toNat) ((-1), 0, 0) rfl (show (0 ≤ (0 : Int) ∧ (0 : Int) ≤ (w.Trained.length : Int)) ∧ (pkS w label sample (0 : Int).toNat = ((-1), (0 : Int))) ∧ True from ⟨(by omega), (by rfl), trivial⟩) (fun x hI => ?_)
    obtain ⟨best, least, i⟩ := x
    obtain ⟨hi0, hbs, _⟩ : (0 ≤ i ∧ i ≤ (w.Trained.length : Int)) ∧ (pkS w label sample i.toNat = (best, least)) ∧ True := hI
    show XW _ _ _ _ (mkS [(0, .ptr false [I w.Band, slTrained false w.Trained]), (1, Sv label), (2, slFeat false sample), (7, I best), (8, I least), (9, I i)] []) _ _
    refine x_seq ?_
    refine x_seq ?_
    by_cases h1 : i < (w.Trained.length : Int)
    ·have hi : i.toNat < w.Trained.length := by omega
     have hix : ((i.toNat : Nat) : Int) = i := by omega
     have htr := hw.2.2 _ hi
     have htn := okFeats_n (okTr_iff.1 htr).2.2.1
     have hon := okFeats_n oks
     have hnx : (i + 1).toNat = i.toNat + 1 := by omega
     refine x_r [(6, .dec true)] [0, 1, 2, 7, 8, 9, 18] [] [.ptr false [I w.Band, slTrained false w.Trained], Sv label, slFeat false sample, I best, I least, I i, Bv true] [] [i < (w.Trained.length : Int)] ⟨h1, trivial⟩ ?_
     refine xe_then ?_
     refine x_true rfl ?_
     refine x_skip ?_
     refine xe_then ?_
     refine x_seq ?_
     refine x_block ?_
     refine xR [] [0, 1, 2, 7, 8, 9, 10] [] [.ptr false [I w.Band, slTrained false w.Trained], Sv label, slFeat false sample, I best, I least, I i, .ptr false [Sv ((at_ w.Trained i.toNat).Label), slFeat false ((at_ w.Trained i.toNat).Base), slFeat false ((at_ w.Trained i.toNat).Feats), I ((at_ w.Trained i.toNat).Count)]] [] [(0 : Int) ≤ i ∧ i < (w.Trained.length : Int)] ⟨⟨(by omega), (by omega)⟩, trivial⟩ ?_
     refine x_seq ?_
     refine x_seq ?_
     by_cases h2 : ((at_ w.Trained i.toNat).Label) = label
     ·by_cases h3 : 100 ≤ ((at_ w.Trained i.toNat).Count)
      ·have hpk := pk_no (label := label) (s := sample) (lrn_n2 h3)
       refine x_r [(5, .dec false), (11, .dec true)] [0, 1, 2, 7, 8, 9, 10, 52] [] [.ptr false [I w.Band, slTrained false w.Trained], Sv label, slFeat false sample, I best, I least, I i, .ptr false [Sv ((at_ w.Trained i.toNat).Label), slFeat false ((at_ w.Trained i.toNat).Base), slFeat false ((at_ w.Trained i.toNat).Feats), I ((at_ w.Trained i.toNat).Count)], Bv true] [] [¬ (((at_ w.Trained i.toNat).Label) ≠ label), 100 ≤ ((at_ w.Trained i.toNat).Count)] ⟨(fun hq => hq h2), h3, trivial⟩ ?_
       refine xe_then ?_
       refine x_true rfl ?_
       refine x_exit ?_
       refine xe_exit_then ?_
       refine xe_exit_same ?_
       refine xe_then ?_
       refine x_r [] [0, 1, 2, 7, 8, 9] [] [.ptr false [I w.Band, slTrained false w.Trained], Sv label, slFeat false sample, I best, I least, I (i + 1)] [] [inR .i64 (i + 1)] ⟨(inR_i64 (by omega) (by omega)), trivial⟩ ?_
       exact xe_again (best, least, (i + 1)) rfl (show (0 ≤ (i + 1) ∧ (i + 1) ≤ (w.Trained.length : Int)) ∧ (pkS w label sample (i + 1).toNat = (best, least)) ∧ True from ⟨(by omega), (by rw [hnx]; first | (rw [hpk]; exact hbs) | (rw [hpk, hix]) | exact hpk), trivial⟩) (by first | (show (((w.Trained.length : Int) - (i + 1)).toNat : Nat) < ((w.Trained.length : Int) - i).toNat; omega) | (dsimp only; omega))
      rcases Bool.eq_false_or_eq_true (inB w.Band 0 72 && decide (((((((at_ w.Trained i.toNat).Feats).length : Int) - (sample.length : Int)).natAbs : Int) ≤ w.Band))) with h4 | h4
      ·have hlb : lrnB w label sample i.toNat = true := lrn_mk (by assumption) (by omega) h4
       have hcvs := lrn_cv oks htr hlb
       refine x_r [(5, .dec false), (11, .dec false), (23, .call [(true, .any), (true, .any), (true, .any)] true (Bv true))] [0, 1, 2, 7, 8, 9, 10, 52] [] [.ptr false [I w.Band, slTrained false w.Trained], Sv label, slFeat false sample, I best, I least, I i, .ptr false [Sv ((at_ w.Trained i.toNat).Label), slFeat false ((at_ w.Trained i.toNat).Base), slFeat false ((at_ w.Trained i.toNat).Feats), I ((at_ w.Trained i.toNat).Count)], Bv false] [] [¬ (((at_ w.Trained i.toNat).Label) ≠ label), ¬ (100 ≤ ((at_ w.Trained i.toNat).Count)), Con Tryz.prog 86 [slFeat false sample, slFeat false ((at_ w.Trained i.toNat).Feats), I w.Band] true (Bv true) ∧ True] ⟨(fun hq => hq h2), h3, ⟨(con_bool h4 (l10In_ok sample ((at_ w.Trained i.toNat).Feats) w.Band (by omega) (by omega))), trivial⟩, trivial⟩ ?_
       refine xe_then ?_
       refine x_false rfl ?_
       refine x_skip ?_
       refine xe_then ?_
       refine x_seq ?_
       obtain ⟨v_1, hx1_0, hc1⟩ := l09Least_ok sample ((at_ w.Trained i.toNat).Feats) w.Band (okAB_of oks (okTr_iff.1 htr).2.2.1) (by omega) (by omega)
       have hcvx : v_1 = cv farS sample (at_ w.Trained i.toNat).Feats w.Band (sample.length - 1) ((at_ w.Trained i.toNat).Feats.length - 1) := hx1_0
       refine x_r [(9, .call [(true, .any), (true, .any), (true, .any)] true (I v_1))] [0, 1, 2, 7, 8, 9, 11] [] [.ptr false [I w.Band, slTrained false w.Trained], Sv label, slFeat false sample, I best, I least, I i, I v_1] [] [Con Tryz.prog 44 [slFeat false sample, slFeat false ((at_ w.Trained i.toNat).Feats), I w.Band] true (I v_1) ∧ True] ⟨⟨hc1, trivial⟩, trivial⟩ ?_
       refine xe_then ?_
       refine x_seq ?_
       by_cases h5 : best < 0
       ·have hpk := pk_yes (c := v_1) hlb hcvx hbs (.inl h5)
        refine x_r [(1, .dec true)] [0, 1, 2, 7, 8, 9, 11, 69] [] [.ptr false [I w.Band, slTrained false w.Trained], Sv label, slFeat false sample, I best, I least, I i, I v_1, Bv true] [] [best < 0] ⟨h5, trivial⟩ ?_
        refine xe_then ?_
        refine x_true rfl ?_
        refine xR [] [0, 1, 2, 7, 9, 11] [] [.ptr false [I w.Band, slTrained false w.Trained], Sv label, slFeat false sample, I i, I i, I v_1] [] [] trivial ?_
        refine x_r [] [0, 1, 2, 7, 8, 9] [] [.ptr false [I w.Band, slTrained false w.Trained], Sv label, slFeat false sample, I i, I v_1, I i] [] [] trivial ?_
        refine xe_block 1 ?_
        refine xe_then ?_
        refine x_r [] [0, 1, 2, 7, 8, 9] [] [.ptr false [I w.Band, slTrained false w.Trained], Sv label, slFeat false sample, I i, I v_1, I (i + 1)] [] [inR .i64 (i + 1)] ⟨(inR_i64 (by omega) (by omega)), trivial⟩ ?_
        exact xe_again (i, v_1, (i + 1)) rfl (show (0 ≤ (i + 1) ∧ (i + 1) ≤ (w.Trained.length : Int)) ∧ (pkS w label sample (i + 1).toNat = (i, v_1)) ∧ True from ⟨(by omega), (by rw [hnx]; first | (rw [hpk]; exact hbs) | (rw [hpk, hix]) | exact hpk), trivial⟩) (by first | (show (((w.Trained.length : Int) - (i + 1)).toNat : Nat) < ((w.Trained.length : Int) - i).toNat; omega) | (dsimp only; omega))
       by_cases h6 : v_1 < least
       ·have hpk := pk_yes (c := v_1) hlb hcvx hbs (.inr h6)
        refine x_r [(1, .dec false), (5, .dec true)] [0, 1, 2, 7, 8, 9, 11, 69] [] [.ptr false [I w.Band, slTrained false w.Trained], Sv label, slFeat false sample, I best, I least, I i, I v_1, Bv true] [] [¬ (best < 0), v_1 < least] ⟨h5, h6, trivial⟩ ?_
        refine xe_then ?_
        refine x_true rfl ?_
        refine xR [] [0, 1, 2, 7, 9, 11] [] [.ptr false [I w.Band, slTrained false w.Trained], Sv label, slFeat false sample, I i, I i, I v_1] [] [] trivial ?_
        refine x_r [] [0, 1, 2, 7, 8, 9] [] [.ptr false [I w.Band, slTrained false w.Trained], Sv label, slFeat false sample, I i, I v_1, I i] [] [] trivial ?_
        refine xe_block 1 ?_
        refine xe_then ?_
        refine x_r [] [0, 1, 2, 7, 8, 9] [] [.ptr false [I w.Band, slTrained false w.Trained], Sv label, slFeat false sample, I i, I v_1, I (i + 1)] [] [inR .i64 (i + 1)] ⟨(inR_i64 (by omega) (by omega)), trivial⟩ ?_
        exact xe_again (i, v_1, (i + 1)) rfl (show (0 ≤ (i + 1) ∧ (i + 1) ≤ (w.Trained.length : Int)) ∧ (pkS w label sample (i + 1).toNat = (i, v_1)) ∧ True from ⟨(by omega), (by rw [hnx]; first | (rw [hpk]; exact hbs) | (rw [hpk, hix]) | exact hpk), trivial⟩) (by first | (show (((w.Trained.length : Int) - (i + 1)).toNat : Nat) < ((w.Trained.length : Int) - i).toNat; omega) | (dsimp only; omega))
       have hpk := pk_same (c := v_1) hcvx hbs (by assumption) h6
       refine x_r [(1, .dec false), (5, .dec false)] [0, 1, 2, 7, 8, 9, 11, 69] [] [.ptr false [I w.Band, slTrained false w.Trained], Sv label, slFeat false sample, I best, I least, I i, I v_1, Bv false] [] [¬ (best < 0), ¬ (v_1 < least)] ⟨h5, h6, trivial⟩ ?_
       refine xe_then ?_
       refine x_false rfl ?_
       refine x_skip ?_
       refine xe_block 1 ?_
       refine xe_then ?_
       refine x_r [] [0, 1, 2, 7, 8, 9] [] [.ptr false [I w.Band, slTrained false w.Trained], Sv label, slFeat false sample, I best, I least, I (i + 1)] [] [inR .i64 (i + 1)] ⟨(inR_i64 (by omega) (by omega)), trivial⟩ ?_
       exact xe_again (best, least, (i + 1)) rfl (show (0 ≤ (i + 1) ∧ (i + 1) ≤ (w.Trained.length : Int)) ∧ (pkS w label sample (i + 1).toNat = (best, least)) ∧ True from ⟨(by omega), (by rw [hnx]; first | (rw [hpk]; exact hbs) | (rw [hpk, hix]) | exact hpk), trivial⟩) (by first | (show (((w.Trained.length : Int) - (i + 1)).toNat : Nat) < ((w.Trained.length : Int) - i).toNat; omega) | (dsimp only; omega))
      have hpk := pk_no (label := label) (lrn_n3 h4)
      refine x_r [(5, .dec false), (11, .dec false), (23, .call [(true, .any), (true, .any), (true, .any)] true (Bv false))] [0, 1, 2, 7, 8, 9, 10, 52] [] [.ptr false [I w.Band, slTrained false w.Trained], Sv label, slFeat false sample, I best, I least, I i, .ptr false [Sv ((at_ w.Trained i.toNat).Label), slFeat false ((at_ w.Trained i.toNat).Base), slFeat false ((at_ w.Trained i.toNat).Feats), I ((at_ w.Trained i.toNat).Count)], Bv true] [] [¬ (((at_ w.Trained i.toNat).Label) ≠ label), ¬ (100 ≤ ((at_ w.Trained i.toNat).Count)), Con Tryz.prog 86 [slFeat false sample, slFeat false ((at_ w.Trained i.toNat).Feats), I w.Band] true (Bv false) ∧ True] ⟨(fun hq => hq h2), h3, ⟨(con_bool h4 (l10In_ok sample ((at_ w.Trained i.toNat).Feats) w.Band (by omega) (by omega))), trivial⟩, trivial⟩ ?_
      refine xe_then ?_
      refine x_true rfl ?_
      refine x_exit ?_
      refine xe_exit_then ?_
      refine xe_exit_same ?_
      refine xe_then ?_
      refine x_r [] [0, 1, 2, 7, 8, 9] [] [.ptr false [I w.Band, slTrained false w.Trained], Sv label, slFeat false sample, I best, I least, I (i + 1)] [] [inR .i64 (i + 1)] ⟨(inR_i64 (by omega) (by omega)), trivial⟩ ?_
      exact xe_again (best, least, (i + 1)) rfl (show (0 ≤ (i + 1) ∧ (i + 1) ≤ (w.Trained.length : Int)) ∧ (pkS w label sample (i + 1).toNat = (best, least)) ∧ True from ⟨(by omega), (by rw [hnx]; first | (rw [hpk]; exact hbs) | (rw [hpk, hix]) | exact hpk), trivial⟩) (by first | (show (((w.Trained.length : Int) - (i + 1)).toNat : Nat) < ((w.Trained.length : Int) - i).toNat; omega) | (dsimp only; omega))
     have hpk := pk_no (lrn_n1 (s := sample) h2)
     refine x_r [(5, .dec true)] [0, 1, 2, 7, 8, 9, 10, 52] [] [.ptr false [I w.Band, slTrained false w.Trained], Sv label, slFeat false sample, I best, I least, I i, .ptr false [Sv ((at_ w.Trained i.toNat).Label), slFeat false ((at_ w.Trained i.toNat).Base), slFeat false ((at_ w.Trained i.toNat).Feats), I ((at_ w.Trained i.toNat).Count)], Bv true] [] [((at_ w.Trained i.toNat).Label) ≠ label] ⟨h2, trivial⟩ ?_
     refine xe_then ?_
     refine x_true rfl ?_
     refine x_exit ?_
     refine xe_exit_then ?_
     refine xe_exit_same ?_
     refine xe_then ?_
     refine x_r [] [0, 1, 2, 7, 8, 9] [] [.ptr false [I w.Band, slTrained false w.Trained], Sv label, slFeat false sample, I best, I least, I (i + 1)] [] [inR .i64 (i + 1)] ⟨(inR_i64 (by omega) (by omega)), trivial⟩ ?_
     exact xe_again (best, least, (i + 1)) rfl (show (0 ≤ (i + 1) ∧ (i + 1) ≤ (w.Trained.length : Int)) ∧ (pkS w label sample (i + 1).toNat = (best, least)) ∧ True from ⟨(by omega), (by rw [hnx]; first | (rw [hpk]; exact hbs) | (rw [hpk, hix]) | exact hpk), trivial⟩) (by first | (show (((w.Trained.length : Int) - (i + 1)).toNat : Nat) < ((w.Trained.length : Int) - i).toNat; omega) | (dsimp only; omega))
    have hie : i.toNat = w.Trained.length := by omega
    refine x_r [(6, .dec false)] [0, 1, 2, 7, 8, 9, 18] [] [.ptr false [I w.Band, slTrained false w.Trained], Sv label, slFeat false sample, I best, I least, I i, Bv false] [] [¬ (i < (w.Trained.length : Int))] ⟨h1, trivial⟩ ?_
    refine xe_then ?_
    refine x_false rfl ?_
    refine x_exit ?_
    refine xe_exit_then ?_
    refine xe_loop_exit ?_
    refine xe_exit_same ?_
    refine xe_then ?_
    refine xR [] [6] [] [I best] [] [] trivial ?_
    refine x_ret ?_
    refine xe_end best (show (best = pkI w label sample) ∧ (True) from ⟨(by (unfold pkI; rw [← hie, hbs])), trivial⟩) (trivial) (I best) (by kernel_rfl) (.inl rfl) (fun _ => rfl) (fun _ => trivial)
  obtain ⟨v, ⟨hh0, _⟩, hc⟩ := hh
  exact ⟨v, hh0, hc⟩


theorem ixn {i j : Int} {M : Nat} (hi : 0 ≤ i) (hj : 0 ≤ j) : (i * (M : Int) + j).toNat = i.toNat * M + j.toNat := by
  obtain ⟨p, rfl⟩ : ∃ p : Nat, i = (p : Int) := ⟨i.toNat, by omega⟩
  obtain ⟨q, rfl⟩ : ∃ q : Nat, j = (q : Int) := ⟨j.toNat, by omega⟩
  rw [← Int.natCast_mul, Int.toNat_natCast, Int.toNat_natCast]; omega
theorem ixm {i j : Int} {M : Nat} (hi : 0 ≤ i) (hj : 1 ≤ j) : (i * (M : Int) + j - 1).toNat = i.toNat * M + (j.toNat - 1) := by
  rw [Int.add_sub_assoc, ixn hi (by omega)]; omega
theorem fl_at {a b : List Feat} {band i j : Int} {t : List Int} (h : flOk a b band t (a.length * b.length)) (hi : 0 ≤ i ∧ i < (a.length : Int)) (hj : 0 ≤ j ∧ j < (b.length : Int)) : at_ t (i * (b.length : Int) + j).toNat = cv farS a b band i.toNat j.toNat := by
  rw [ixn hi.1 hj.1, fl_all h (by omega) (by omega)]
theorem fl_at1 {a b : List Feat} {band i j : Int} {t : List Int} (h : flOk a b band t (a.length * b.length)) (hi : 1 ≤ i ∧ i < (a.length : Int)) (hj : 1 ≤ j ∧ j < (b.length : Int)) : at_ t ((i - 1) * (b.length : Int) + j - 1).toNat = cv farS a b band (i.toNat - 1) (j.toNat - 1) := by
  rw [ixm (by omega) hj.1, fl_all h (by omega) (by omega), show (i - 1).toNat = i.toNat - 1 from by omega]
theorem fl_at2 {a b : List Feat} {band i j : Int} {t : List Int} (h : flOk a b band t (a.length * b.length)) (hi : 1 ≤ i ∧ i < (a.length : Int)) (hj : 0 ≤ j ∧ j < (b.length : Int)) : at_ t ((i - 1) * (b.length : Int) + j).toNat = cv farS a b band (i.toNat - 1) j.toNat := by
  rw [ixn (by omega) hj.1, fl_all h (by omega) (by omega), show (i - 1).toNat = i.toNat - 1 from by omega]
theorem sn_1 {a b : List Feat} {band i j : Int} {t : List Int} (h : flOk a b band t (a.length * b.length)) (hi : 0 ≤ i ∧ i < (a.length : Int)) (hj : 0 ≤ j ∧ j < (b.length : Int))
    (c1 : 0 < i ∧ 0 < j ∧ at_ t ((i - 1) * (b.length : Int) + j - 1).toNat = at_ t (i * (b.length : Int) + j).toNat - costF (at_ a i.toNat) (at_ b j.toNat)) : isNx a b band i j (i - 1) (j - 1) := by
  have e := c1.2.2
  rw [fl_at1 h (by omega) (by omega), fl_at h hi hj] at e
  unfold isNx nx
  rw [if_pos ⟨by omega, e⟩]
  dsimp only; omega
theorem sn_2 {a b : List Feat} {band i j : Int} {t : List Int} (h : flOk a b band t (a.length * b.length)) (hi : 0 ≤ i ∧ i < (a.length : Int)) (hj : 0 ≤ j ∧ j < (b.length : Int))
    (c1 : ¬ (0 < i ∧ 0 < j ∧ at_ t ((i - 1) * (b.length : Int) + j - 1).toNat = at_ t (i * (b.length : Int) + j).toNat - costF (at_ a i.toNat) (at_ b j.toNat)))
    (c2 : 0 < i ∧ at_ t ((i - 1) * (b.length : Int) + j).toNat = at_ t (i * (b.length : Int) + j).toNat - costF (at_ a i.toNat) (at_ b j.toNat)) : isNx a b band i j (i - 1) j := by
  have e := c2.2
  rw [fl_at2 h (by omega) hj, fl_at h hi hj] at e
  unfold isNx nx
  rw [if_neg (fun q => c1 ⟨by omega, by omega, by rw [fl_at1 h (by omega) (by omega), fl_at h hi hj]; exact q.2⟩), if_pos ⟨by omega, e⟩]
  dsimp only; omega
theorem sn_3 {a b : List Feat} {band i j : Int} {t : List Int} (hab : okAB a b) (hb : inBd band i.toNat j.toNat) (h0 : ¬ (i = 0 ∧ j = 0)) (h : flOk a b band t (a.length * b.length)) (hi : 0 ≤ i ∧ i < (a.length : Int)) (hj : 0 ≤ j ∧ j < (b.length : Int))
    (c1 : ¬ (0 < i ∧ 0 < j ∧ at_ t ((i - 1) * (b.length : Int) + j - 1).toNat = at_ t (i * (b.length : Int) + j).toNat - costF (at_ a i.toNat) (at_ b j.toNat)))
    (c2 : ¬ (0 < i ∧ at_ t ((i - 1) * (b.length : Int) + j).toNat = at_ t (i * (b.length : Int) + j).toNat - costF (at_ a i.toNat) (at_ b j.toNat))) : isNx a b band i j i (j - 1) := by
  have n := nx_ok hab (i := i.toNat) (j := j.toNat) (by omega) (by omega) hb (by omega)
  unfold isNx
  unfold nx at n ⊢
  rw [if_neg (fun q => c1 ⟨by omega, by omega, by rw [fl_at1 h (by omega) (by omega), fl_at h hi hj]; exact q.2⟩), if_neg (fun q => c2 ⟨by omega, by rw [fl_at2 h (by omega) hj, fl_at h hi hj]; exact q.2⟩)] at n ⊢
  dsimp only at n ⊢; omega

theorem cat_one {α : Type} [Inhabited α] {enc : α → List AV} {x : α} {xs : List α} {g : Nat → List AV} (hx : g 0 = enc x) (i : Nat) (hi : i < ([x] ++ xs).length) : catF 1 g (fun i => enc (at_ xs i)) i = enc (at_ ([x] ++ xs) i) := by
  cases i with
  | zero => rw [catF_lt (by decide), hx]; rfl
  | succ i => rw [catF_ge (by omega), at_right (by simp)]; simp

-- spec.l09Trace
set_option maxHeartbeats 4000000 in
theorem l09Trace_ok (a : List Feat) (b : List Feat) (band : Int) (oka : okFeats a 72 = true) (okb : okFeats b 72 = true) (hbd : 0 ≤ band ∧ band ≤ 72) (hnm : inBd band a.length b.length) : ∃ (v : List Pair), (v = (tot a b band).reverse) ∧ Con Tryz.prog 87 [slFeat false a, slFeat false b, I band] true (slPair true v) := by
  have hab := okAB_of oka okb
  have hla := hab.2.2
  have hna := okFeats_n oka
  have hnb := okFeats_n okb
  have hnm_ : (a.length : Int) * (b.length : Int) = ((a.length * b.length : Nat) : Int) := (Int.natCast_mul _ _).symm
  have hh : ∃ r : (List Pair), ((r = (tot a b band).reverse) ∧ (True)) ∧ CallOK Tryz.prog 87 [slFeat false a, slFeat false b, I band] (lookO []) true (slPair true r) (lookO []) := by
    refine fn_okX (Φ := fun r : (List Pair) => (r = (tot a b band).reverse) ∧ (True)) [] (fun r => []) (fn := Tryz.f87) (nt := 104) Tryz.func87 rfl rfl (args := [slFeat false a, slFeat false b, I band]) rfl (allcons (.inl ⟨rfl, tagFeat false _⟩) (allcons (.inl ⟨rfl, tagFeat false _⟩) (allcons (.inl ⟨rfl, trivial⟩) allnil))) (res := fun r => slPair true r) ?_
    refine xR [] [0, 1, 2] [] [slFeat false a, slFeat false b, I band] [] [] trivial ?_
    refine x_seq ?_
    obtain ⟨out_1, hx1_0, hc1⟩ := l09Table_ok a b band hab (by omega)
    have hfl := hx1_0
    have hfll := hfl.1
    refine x_r [(3, .call [(true, .any), (true, .any), (true, .any)] true (slI true out_1))] [0, 1, 7] [] [slFeat false a, slFeat false b, slI true out_1] [] [Con Tryz.prog 81 [slFeat false a, slFeat false b, I band] true (slI true out_1) ∧ True] ⟨⟨hc1, trivial⟩, trivial⟩ ?_
    refine xe_then ?_
    refine xR [] [0, 1, 7, 8] [] [slFeat false a, slFeat false b, slI true out_1, I (b.length : Int)] [] [] trivial ?_
    refine xR [] [0, 1, 7, 8, 9] [] [slFeat false a, slFeat false b, slI true out_1, I (b.length : Int), I ((a.length : Int) - 1)] [] [inR .i64 ((a.length : Int) - 1)] ⟨(inR_i64 (by omega) (by omega)), trivial⟩ ?_
    refine xR [] [0, 1, 7, 8, 9, 10] [] [slFeat false a, slFeat false b, slI true out_1, I (b.length : Int), I ((a.length : Int) - 1), I ((b.length : Int) - 1)] [] [inR .i64 ((b.length : Int) - 1)] ⟨(inR_i64 (by omega) (by omega)), trivial⟩ ?_
    refine xR [(3, .new 27)] [0, 1, 7, 8, 9, 10, 11] [27] [slFeat false a, slFeat false b, slI true out_1, I (b.length : Int), I ((a.length : Int) - 1), I ((b.length : Int) - 1), .arr 27] [some (.arr 2 1 (litF [I ((a.length : Int) - 1), I ((b.length : Int) - 1)] 2))] [] trivial ?_
    refine x_seq ?_
    refine x_block ?_
    refine x_weak [] (T := [(0, slFeat false a), (1, slFeat false b), (7, slI true out_1), (8, I (b.length : Int)), (9, I ((a.length : Int) - 1)), (10, I ((b.length : Int) - 1)), (11, .arr 27)]) (O := [(27, tAPair ([(Pair.mk ((a.length : Int) - 1) ((b.length : Int) - 1))]))]) rfl (⟨.inl rfl, .inl rfl, .inl rfl, .inl rfl, .inl rfl, .inl rfl, .inl rfl, trivial⟩) (⟨.inr ⟨rfl, (by first | rfl | (simp; done) | (simp; omega) | omega), fun i_ hi_ => .inl (match i_, hi_ with | 0, _ => rfl | (i + 1), h => absurd h (by simp))⟩, trivial⟩) ?_
    refine x_loop (X := Int × Int × (List Pair)) (fun x => mkS [(0, slFeat false a), (1, slFeat false b), (7, slI true out_1), (8, I (b.length : Int)), (9, I x.1), (10, I x.2.1), (11, .arr 27)] [(27, tAPair x.2.2)]) (fun x => (0 ≤ x.1 ∧ x.1 < (a.length : Int)) ∧ (0 ≤ x.2.1 ∧ x.2.1 < (b.length : Int)) ∧ (inBd band x.1.toNat x.2.1.toNat) ∧ (x.1 + x.2.1 + (x.2.2.length : Int) ≤ (a.length : Int) + (b.length : Int) - 1) ∧ (x.2.2.reverse ++ (bk a b band (a.length + b.length - x.2.2.length) x.1.toNat x.2.1.toNat).tail = tot a b band) ∧ True) (fun x => (x.1 + x.2.1).toNat) (((a.length : Int) - 1), ((b.length : Int) - 1), [(Pair.mk ((a.length : Int) - 1) ((b.length : Int) - 1))]) rfl (show (0 ≤ ((a.length : Int) - 1) ∧ ((a.length : Int) - 1) < (a.length : Int)) ∧ (0 ≤ ((b.length : Int) - 1) ∧ ((b.length : Int) - 1) < (b.length : Int)) ∧ (inBd band ((a.length : Int) - 1).toNat ((b.length : Int) - 1).toNat) ∧ (((a.length : Int) - 1) + ((b.length : Int) - 1) + (([(Pair.mk ((a.length : Int) - 1) ((b.length : Int) - 1))]).length : Int) ≤ (a.length : Int) + (b.length : Int) - 1) ∧ (([(Pair.mk ((a.length : Int) - 1) ((b.length : Int) - 1))]).reverse ++ (bk a b band (a.length + b.length - ([(Pair.mk ((a.length : Int) - 1) ((b.length : Int) - 1))]).length) ((a.length : Int) - 1).toNat ((b.length : Int) - 1).toNat).tail = tot a b band) ∧ True from ⟨(by omega), (by omega), (by (rw [show ((a.length : Int) - 1).toNat = a.length - 1 from by omega, show ((b.length : Int) - 1).toNat = b.length - 1 from by omega]; exact inBd_end hnm hna.1 hnb.1)), (by (simp; omega)), (by exact tot_start rfl rfl hna.1 hnb.1), trivial⟩) (fun x hI => ?_)
    obtain ⟨i, j, bs⟩ := x
    obtain ⟨hi0, hj0, hbb, hsm, htt, _⟩ : (0 ≤ i ∧ i < (a.length : Int)) ∧ (0 ≤ j ∧ j < (b.length : Int)) ∧ (inBd band i.toNat j.toNat) ∧ (i + j + (bs.length : Int) ≤ (a.length : Int) + (b.length : Int) - 1) ∧ (bs.reverse ++ (bk a b band (a.length + b.length - bs.length) i.toNat j.toNat).tail = tot a b band) ∧ True := hI
    show XW _ _ _ _ (mkS [(0, slFeat false a), (1, slFeat false b), (7, slI true out_1), (8, I (b.length : Int)), (9, I i), (10, I j), (11, .arr 27)] [(27, tAPair bs)]) _ _
    refine x_seq ?_
    refine x_seq ?_
    by_cases h1 : 0 < i
    ·have h00 : ¬ (i = 0 ∧ j = 0) := by omega
     have hcst := costF_bd (hab.1 i.toNat (by omega)) (hab.2.1 j.toNat (by omega))
     have hlt := fl_lt (j := 0) (show i.toNat < a.length by omega) (show j.toNat < b.length by omega)
     have hix : ((i.toNat : Nat) : Int) = i := by omega
     have hpr : i * (b.length : Int) = ((i.toNat * b.length : Nat) : Int) := by rw [Int.natCast_mul, hix]
     have hpq : (i - 1) * (b.length : Int) = ((i.toNat * b.length : Nat) : Int) - b.length := by rw [Int.sub_mul, Int.one_mul, hpr]
     have hps := Nat.mul_le_mul (show i.toNat ≤ 72 by omega) (show b.length ≤ 72 by omega)
     have hpt : 1 ≤ i → b.length ≤ i.toNat * b.length := fun q => Nat.le_mul_of_pos_left _ (by omega)
     have hcf := cv_fin (band := band) hab (i := i.toNat) (j := j.toNat) (by omega) (by omega)
     have hcu := fl_at (i := i) (j := j) hfl (by omega) (by omega)
     refine x_r [(1, .dec true)] [0, 1, 7, 8, 9, 10, 11, 33] [27] [slFeat false a, slFeat false b, slI true out_1, I (b.length : Int), I i, I j, .arr 27, Bv true] [some (tAPair bs)] [0 < i] ⟨h1, trivial⟩ ?_
     refine xe_then ?_
     refine x_true rfl ?_
     refine x_skip ?_
     refine xe_then ?_
     refine x_block ?_
     refine xR [(16, .call [(true, .any), (true, .any)] true (I (costF (at_ a i.toNat) (at_ b j.toNat))))] [0, 1, 7, 8, 9, 10, 11, 12] [27] [slFeat false a, slFeat false b, slI true out_1, I (b.length : Int), I i, I j, .arr 27, I ((at_ out_1 (((i * (b.length : Int)) + j).toNat)) - (costF (at_ a i.toNat) (at_ b j.toNat)))] [some (tAPair bs)] [inR .i64 (i * (b.length : Int)), inR .i64 ((i * (b.length : Int)) + j), (0 : Int) ≤ ((i * (b.length : Int)) + j) ∧ ((i * (b.length : Int)) + j) < (out_1.length : Int), (0 : Int) ≤ i ∧ i < (a.length : Int), (0 : Int) ≤ j ∧ j < (b.length : Int), Con Tryz.prog 109 [agFeat (at_ a i.toNat), agFeat (at_ b j.toNat)] true (I (costF (at_ a i.toNat) (at_ b j.toNat))) ∧ True, inR .i64 ((at_ out_1 (((i * (b.length : Int)) + j).toNat)) - (costF (at_ a i.toNat) (at_ b j.toNat)))] ⟨(inR_i64 (by omega) (by omega)), (inR_i64 (by omega) (by omega)), ⟨(by omega), (by omega)⟩, ⟨(by omega), (by omega)⟩, ⟨(by omega), (by omega)⟩, ⟨(l09Cost_ok (at_ a i.toNat) (at_ b j.toNat) (by first | exact hab.1 _ (by omega) | exact hab.2.1 _ (by omega)) (by first | exact hab.1 _ (by omega) | exact hab.2.1 _ (by omega))), trivial⟩, (inR_i64 (by omega) (by omega)), trivial⟩ ?_
     refine x_seq ?_
     refine x_block ?_
     refine x_seq ?_
     by_cases h2 : 0 < j
     ·by_cases h3 : (at_ out_1 (((((i - 1) * (b.length : Int)) + j) - 1).toNat)) = ((at_ out_1 (((i * (b.length : Int)) + j).toNat)) - (costF (at_ a i.toNat) (at_ b j.toNat)))
      ·have hnx := sn_1 hfl (by omega) (by omega) ⟨by omega, by omega, h3⟩
       have hgo := (nx_go hab (by omega) (by omega) hbb h00 hnx (s := 0)).1
       have hr1 := hnx.1
       have hr2 := hnx.2.1
       have htx := tot_pre hab (by omega) (by omega) hbb h00 hnx hsm htt
       refine x_r [(1, .dec true), (4, .dec true), (18, .dec true)] [0, 1, 7, 8, 9, 10, 11, 12, 54] [27] [slFeat false a, slFeat false b, slI true out_1, I (b.length : Int), I i, I j, .arr 27, I ((at_ out_1 (((i * (b.length : Int)) + j).toNat)) - (costF (at_ a i.toNat) (at_ b j.toNat))), Bv true] [some (tAPair bs)] [0 < i, 0 < j, inR .i64 (i - 1), inR .i64 ((i - 1) * (b.length : Int)), inR .i64 (((i - 1) * (b.length : Int)) + j), inR .i64 ((((i - 1) * (b.length : Int)) + j) - 1), (0 : Int) ≤ ((((i - 1) * (b.length : Int)) + j) - 1) ∧ ((((i - 1) * (b.length : Int)) + j) - 1) < (out_1.length : Int), (at_ out_1 (((((i - 1) * (b.length : Int)) + j) - 1).toNat)) = ((at_ out_1 (((i * (b.length : Int)) + j).toNat)) - (costF (at_ a i.toNat) (at_ b j.toNat)))] ⟨h1, h2, (inR_i64 (by omega) (by omega)), (inR_i64 (by omega) (by omega)), (inR_i64 (by omega) (by omega)), (inR_i64 (by omega) (by omega)), ⟨(by omega), (by omega)⟩, h3, trivial⟩ ?_
       refine xe_then ?_
       refine x_true rfl ?_
       refine xR [] [0, 1, 7, 8, 9, 10, 11] [27] [slFeat false a, slFeat false b, slI true out_1, I (b.length : Int), I (i - 1), I j, .arr 27] [some (tAPair bs)] [inR .i64 (i - 1)] ⟨(inR_i64 (by omega) (by omega)), trivial⟩ ?_
       refine x_r [] [0, 1, 7, 8, 9, 10, 11] [27] [slFeat false a, slFeat false b, slI true out_1, I (b.length : Int), I (i - 1), I (j - 1), .arr 27] [some (tAPair bs)] [inR .i64 (j - 1)] ⟨(inR_i64 (by omega) (by omega)), trivial⟩ ?_
       refine xe_block 2 ?_
       refine xe_then ?_
       refine x_r [(3, .new 100), (5, .new 102)] [0, 1, 7, 8, 9, 10, 11] [102] [slFeat false a, slFeat false b, slI true out_1, I (b.length : Int), I (i - 1), I (j - 1), .arr 102] [some (.arr 2 (1 + bs.length) (catF 1 (litF [I (i - 1), I (j - 1)] 2) (fPair bs)))] [(1 + bs.length) * 16 ≤ 140737488355328] ⟨(by omega), trivial⟩ ?_
       refine xe_block 1 ?_
       refine xe_weak [(27, 102)] (T := [(0, slFeat false a), (1, slFeat false b), (7, slI true out_1), (8, I (b.length : Int)), (9, I (i - 1)), (10, I (j - 1)), (11, .arr 27)]) (O := [(27, tAPair ([(Pair.mk (i - 1) (j - 1))] ++ bs))]) rfl (⟨.inl rfl, .inl rfl, .inl rfl, .inl rfl, .inl rfl, .inl rfl, .inl rfl, trivial⟩) (⟨.inr ⟨rfl, (by first | rfl | (simp; done) | (simp; omega) | omega), fun i_ hi_ => .inl (cat_one (enc := cPair) rfl i_ hi_)⟩, trivial⟩) (xe_again ((i - 1), (j - 1), ([(Pair.mk (i - 1) (j - 1))] ++ bs)) rfl (show (0 ≤ (i - 1) ∧ (i - 1) < (a.length : Int)) ∧ (0 ≤ (j - 1) ∧ (j - 1) < (b.length : Int)) ∧ (inBd band (i - 1).toNat (j - 1).toNat) ∧ ((i - 1) + (j - 1) + (([(Pair.mk (i - 1) (j - 1))] ++ bs).length : Int) ≤ (a.length : Int) + (b.length : Int) - 1) ∧ (([(Pair.mk (i - 1) (j - 1))] ++ bs).reverse ++ (bk a b band (a.length + b.length - ([(Pair.mk (i - 1) (j - 1))] ++ bs).length) (i - 1).toNat (j - 1).toNat).tail = tot a b band) ∧ True from ⟨(by omega), (by omega), (by exact hgo.1), (by (simp; omega)), (by exact htx), trivial⟩) (by first | (show (((i - 1) + (j - 1)).toNat : Nat) < (i + j).toNat; omega) | (dsimp only; omega)))
      refine x_r [(1, .dec true), (4, .dec true), (18, .dec false)] [0, 1, 7, 8, 9, 10, 11, 12, 54] [27] [slFeat false a, slFeat false b, slI true out_1, I (b.length : Int), I i, I j, .arr 27, I ((at_ out_1 (((i * (b.length : Int)) + j).toNat)) - (costF (at_ a i.toNat) (at_ b j.toNat))), Bv false] [some (tAPair bs)] [0 < i, 0 < j, inR .i64 (i - 1), inR .i64 ((i - 1) * (b.length : Int)), inR .i64 (((i - 1) * (b.length : Int)) + j), inR .i64 ((((i - 1) * (b.length : Int)) + j) - 1), (0 : Int) ≤ ((((i - 1) * (b.length : Int)) + j) - 1) ∧ ((((i - 1) * (b.length : Int)) + j) - 1) < (out_1.length : Int), ¬ ((at_ out_1 (((((i - 1) * (b.length : Int)) + j) - 1).toNat)) = ((at_ out_1 (((i * (b.length : Int)) + j).toNat)) - (costF (at_ a i.toNat) (at_ b j.toNat))))] ⟨h1, h2, (inR_i64 (by omega) (by omega)), (inR_i64 (by omega) (by omega)), (inR_i64 (by omega) (by omega)), (inR_i64 (by omega) (by omega)), ⟨(by omega), (by omega)⟩, h3, trivial⟩ ?_
      refine xe_then ?_
      refine x_false rfl ?_
      refine x_seq ?_
      by_cases h4 : (at_ out_1 ((((i - 1) * (b.length : Int)) + j).toNat)) = ((at_ out_1 (((i * (b.length : Int)) + j).toNat)) - (costF (at_ a i.toNat) (at_ b j.toNat)))
      ·have hnx := sn_2 hfl (by omega) (by omega) (fun q => by first | omega | exact absurd q.2.2 (by assumption)) ⟨by omega, h4⟩
       have hgo := (nx_go hab (by omega) (by omega) hbb h00 hnx (s := 0)).1
       have hr1 := hnx.1
       have hr2 := hnx.2.1
       have htx := tot_pre hab (by omega) (by omega) hbb h00 hnx hsm htt
       refine x_r [(1, .dec true), (13, .dec true)] [0, 1, 7, 8, 9, 10, 11, 79] [27] [slFeat false a, slFeat false b, slI true out_1, I (b.length : Int), I i, I j, .arr 27, Bv true] [some (tAPair bs)] [0 < i, inR .i64 (i - 1), inR .i64 ((i - 1) * (b.length : Int)), inR .i64 (((i - 1) * (b.length : Int)) + j), (0 : Int) ≤ (((i - 1) * (b.length : Int)) + j) ∧ (((i - 1) * (b.length : Int)) + j) < (out_1.length : Int), (at_ out_1 ((((i - 1) * (b.length : Int)) + j).toNat)) = ((at_ out_1 (((i * (b.length : Int)) + j).toNat)) - (costF (at_ a i.toNat) (at_ b j.toNat)))] ⟨h1, (inR_i64 (by omega) (by omega)), (inR_i64 (by omega) (by omega)), (inR_i64 (by omega) (by omega)), ⟨(by omega), (by omega)⟩, h4, trivial⟩ ?_
       refine xe_then ?_
       refine x_true rfl ?_
       refine x_r [] [0, 1, 7, 8, 9, 10, 11] [27] [slFeat false a, slFeat false b, slI true out_1, I (b.length : Int), I (i - 1), I j, .arr 27] [some (tAPair bs)] [inR .i64 (i - 1)] ⟨(inR_i64 (by omega) (by omega)), trivial⟩ ?_
       refine xe_block 2 ?_
       refine xe_then ?_
       refine x_r [(3, .new 100), (5, .new 102)] [0, 1, 7, 8, 9, 10, 11] [102] [slFeat false a, slFeat false b, slI true out_1, I (b.length : Int), I (i - 1), I j, .arr 102] [some (.arr 2 (1 + bs.length) (catF 1 (litF [I (i - 1), I j] 2) (fPair bs)))] [(1 + bs.length) * 16 ≤ 140737488355328] ⟨(by omega), trivial⟩ ?_
       refine xe_block 1 ?_
       refine xe_weak [(27, 102)] (T := [(0, slFeat false a), (1, slFeat false b), (7, slI true out_1), (8, I (b.length : Int)), (9, I (i - 1)), (10, I j), (11, .arr 27)]) (O := [(27, tAPair ([(Pair.mk (i - 1) j)] ++ bs))]) rfl (⟨.inl rfl, .inl rfl, .inl rfl, .inl rfl, .inl rfl, .inl rfl, .inl rfl, trivial⟩) (⟨.inr ⟨rfl, (by first | rfl | (simp; done) | (simp; omega) | omega), fun i_ hi_ => .inl (cat_one (enc := cPair) rfl i_ hi_)⟩, trivial⟩) (xe_again ((i - 1), j, ([(Pair.mk (i - 1) j)] ++ bs)) rfl (show (0 ≤ (i - 1) ∧ (i - 1) < (a.length : Int)) ∧ (0 ≤ j ∧ j < (b.length : Int)) ∧ (inBd band (i - 1).toNat j.toNat) ∧ ((i - 1) + j + (([(Pair.mk (i - 1) j)] ++ bs).length : Int) ≤ (a.length : Int) + (b.length : Int) - 1) ∧ (([(Pair.mk (i - 1) j)] ++ bs).reverse ++ (bk a b band (a.length + b.length - ([(Pair.mk (i - 1) j)] ++ bs).length) (i - 1).toNat j.toNat).tail = tot a b band) ∧ True from ⟨(by omega), (by omega), (by exact hgo.1), (by (simp; omega)), (by exact htx), trivial⟩) (by first | (show (((i - 1) + j).toNat : Nat) < (i + j).toNat; omega) | (dsimp only; omega)))
      have hnx := sn_3 hab hbb h00 hfl (by omega) (by omega) (fun q => by first | omega | exact absurd q.2.2 (by assumption)) (fun q => by first | omega | exact absurd q.2 (by assumption))
      have hgo := (nx_go hab (by omega) (by omega) hbb h00 hnx (s := 0)).1
      have hr1 := hnx.1
      have hr2 := hnx.2.1
      have htx := tot_pre hab (by omega) (by omega) hbb h00 hnx hsm htt
      refine x_r [(1, .dec true), (13, .dec false)] [0, 1, 7, 8, 9, 10, 11, 79] [27] [slFeat false a, slFeat false b, slI true out_1, I (b.length : Int), I i, I j, .arr 27, Bv false] [some (tAPair bs)] [0 < i, inR .i64 (i - 1), inR .i64 ((i - 1) * (b.length : Int)), inR .i64 (((i - 1) * (b.length : Int)) + j), (0 : Int) ≤ (((i - 1) * (b.length : Int)) + j) ∧ (((i - 1) * (b.length : Int)) + j) < (out_1.length : Int), ¬ ((at_ out_1 ((((i - 1) * (b.length : Int)) + j).toNat)) = ((at_ out_1 (((i * (b.length : Int)) + j).toNat)) - (costF (at_ a i.toNat) (at_ b j.toNat))))] ⟨h1, (inR_i64 (by omega) (by omega)), (inR_i64 (by omega) (by omega)), (inR_i64 (by omega) (by omega)), ⟨(by omega), (by omega)⟩, h4, trivial⟩ ?_
      refine xe_then ?_
      refine x_false rfl ?_
      refine x_r [] [0, 1, 7, 8, 9, 10, 11] [27] [slFeat false a, slFeat false b, slI true out_1, I (b.length : Int), I i, I (j - 1), .arr 27] [some (tAPair bs)] [inR .i64 (j - 1)] ⟨(inR_i64 (by omega) (by omega)), trivial⟩ ?_
      refine xe_block 2 ?_
      refine xe_then ?_
      refine x_r [(3, .new 100), (5, .new 102)] [0, 1, 7, 8, 9, 10, 11] [102] [slFeat false a, slFeat false b, slI true out_1, I (b.length : Int), I i, I (j - 1), .arr 102] [some (.arr 2 (1 + bs.length) (catF 1 (litF [I i, I (j - 1)] 2) (fPair bs)))] [(1 + bs.length) * 16 ≤ 140737488355328] ⟨(by omega), trivial⟩ ?_
      refine xe_block 1 ?_
      refine xe_weak [(27, 102)] (T := [(0, slFeat false a), (1, slFeat false b), (7, slI true out_1), (8, I (b.length : Int)), (9, I i), (10, I (j - 1)), (11, .arr 27)]) (O := [(27, tAPair ([(Pair.mk i (j - 1))] ++ bs))]) rfl (⟨.inl rfl, .inl rfl, .inl rfl, .inl rfl, .inl rfl, .inl rfl, .inl rfl, trivial⟩) (⟨.inr ⟨rfl, (by first | rfl | (simp; done) | (simp; omega) | omega), fun i_ hi_ => .inl (cat_one (enc := cPair) rfl i_ hi_)⟩, trivial⟩) (xe_again (i, (j - 1), ([(Pair.mk i (j - 1))] ++ bs)) rfl (show (0 ≤ i ∧ i < (a.length : Int)) ∧ (0 ≤ (j - 1) ∧ (j - 1) < (b.length : Int)) ∧ (inBd band i.toNat (j - 1).toNat) ∧ (i + (j - 1) + (([(Pair.mk i (j - 1))] ++ bs).length : Int) ≤ (a.length : Int) + (b.length : Int) - 1) ∧ (([(Pair.mk i (j - 1))] ++ bs).reverse ++ (bk a b band (a.length + b.length - ([(Pair.mk i (j - 1))] ++ bs).length) i.toNat (j - 1).toNat).tail = tot a b band) ∧ True from ⟨(by omega), (by omega), (by exact hgo.1), (by (simp; omega)), (by exact htx), trivial⟩) (by first | (show ((i + (j - 1)).toNat : Nat) < (i + j).toNat; omega) | (dsimp only; omega)))
     refine x_r [(1, .dec true), (4, .dec false)] [0, 1, 7, 8, 9, 10, 11, 12, 54] [27] [slFeat false a, slFeat false b, slI true out_1, I (b.length : Int), I i, I j, .arr 27, I ((at_ out_1 (((i * (b.length : Int)) + j).toNat)) - (costF (at_ a i.toNat) (at_ b j.toNat))), Bv false] [some (tAPair bs)] [0 < i, ¬ (0 < j)] ⟨h1, h2, trivial⟩ ?_
     refine xe_then ?_
     refine x_false rfl ?_
     refine x_seq ?_
     by_cases h5 : (at_ out_1 ((((i - 1) * (b.length : Int)) + j).toNat)) = ((at_ out_1 (((i * (b.length : Int)) + j).toNat)) - (costF (at_ a i.toNat) (at_ b j.toNat)))
     ·have hnx := sn_2 hfl (by omega) (by omega) (fun q => by first | omega | exact absurd q.2.2 (by assumption)) ⟨by omega, h5⟩
      have hgo := (nx_go hab (by omega) (by omega) hbb h00 hnx (s := 0)).1
      have hr1 := hnx.1
      have hr2 := hnx.2.1
      have htx := tot_pre hab (by omega) (by omega) hbb h00 hnx hsm htt
      refine x_r [(1, .dec true), (13, .dec true)] [0, 1, 7, 8, 9, 10, 11, 79] [27] [slFeat false a, slFeat false b, slI true out_1, I (b.length : Int), I i, I j, .arr 27, Bv true] [some (tAPair bs)] [0 < i, inR .i64 (i - 1), inR .i64 ((i - 1) * (b.length : Int)), inR .i64 (((i - 1) * (b.length : Int)) + j), (0 : Int) ≤ (((i - 1) * (b.length : Int)) + j) ∧ (((i - 1) * (b.length : Int)) + j) < (out_1.length : Int), (at_ out_1 ((((i - 1) * (b.length : Int)) + j).toNat)) = ((at_ out_1 (((i * (b.length : Int)) + j).toNat)) - (costF (at_ a i.toNat) (at_ b j.toNat)))] ⟨h1, (inR_i64 (by omega) (by omega)), (inR_i64 (by omega) (by omega)), (inR_i64 (by omega) (by omega)), ⟨(by omega), (by omega)⟩, h5, trivial⟩ ?_
      refine xe_then ?_
      refine x_true rfl ?_
      refine x_r [] [0, 1, 7, 8, 9, 10, 11] [27] [slFeat false a, slFeat false b, slI true out_1, I (b.length : Int), I (i - 1), I j, .arr 27] [some (tAPair bs)] [inR .i64 (i - 1)] ⟨(inR_i64 (by omega) (by omega)), trivial⟩ ?_
      refine xe_block 2 ?_
      refine xe_then ?_
      refine x_r [(3, .new 100), (5, .new 102)] [0, 1, 7, 8, 9, 10, 11] [102] [slFeat false a, slFeat false b, slI true out_1, I (b.length : Int), I (i - 1), I j, .arr 102] [some (.arr 2 (1 + bs.length) (catF 1 (litF [I (i - 1), I j] 2) (fPair bs)))] [(1 + bs.length) * 16 ≤ 140737488355328] ⟨(by omega), trivial⟩ ?_
      refine xe_block 1 ?_
      refine xe_weak [(27, 102)] (T := [(0, slFeat false a), (1, slFeat false b), (7, slI true out_1), (8, I (b.length : Int)), (9, I (i - 1)), (10, I j), (11, .arr 27)]) (O := [(27, tAPair ([(Pair.mk (i - 1) j)] ++ bs))]) rfl (⟨.inl rfl, .inl rfl, .inl rfl, .inl rfl, .inl rfl, .inl rfl, .inl rfl, trivial⟩) (⟨.inr ⟨rfl, (by first | rfl | (simp; done) | (simp; omega) | omega), fun i_ hi_ => .inl (cat_one (enc := cPair) rfl i_ hi_)⟩, trivial⟩) (xe_again ((i - 1), j, ([(Pair.mk (i - 1) j)] ++ bs)) rfl (show (0 ≤ (i - 1) ∧ (i - 1) < (a.length : Int)) ∧ (0 ≤ j ∧ j < (b.length : Int)) ∧ (inBd band (i - 1).toNat j.toNat) ∧ ((i - 1) + j + (([(Pair.mk (i - 1) j)] ++ bs).length : Int) ≤ (a.length : Int) + (b.length : Int) - 1) ∧ (([(Pair.mk (i - 1) j)] ++ bs).reverse ++ (bk a b band (a.length + b.length - ([(Pair.mk (i - 1) j)] ++ bs).length) (i - 1).toNat j.toNat).tail = tot a b band) ∧ True from ⟨(by omega), (by omega), (by exact hgo.1), (by (simp; omega)), (by exact htx), trivial⟩) (by first | (show (((i - 1) + j).toNat : Nat) < (i + j).toNat; omega) | (dsimp only; omega)))
     have hnx := sn_3 hab hbb h00 hfl (by omega) (by omega) (fun q => by first | omega | exact absurd q.2.2 (by assumption)) (fun q => by first | omega | exact absurd q.2 (by assumption))
     have hgo := (nx_go hab (by omega) (by omega) hbb h00 hnx (s := 0)).1
     have hr1 := hnx.1
     have hr2 := hnx.2.1
     have htx := tot_pre hab (by omega) (by omega) hbb h00 hnx hsm htt
     refine x_r [(1, .dec true), (13, .dec false)] [0, 1, 7, 8, 9, 10, 11, 79] [27] [slFeat false a, slFeat false b, slI true out_1, I (b.length : Int), I i, I j, .arr 27, Bv false] [some (tAPair bs)] [0 < i, inR .i64 (i - 1), inR .i64 ((i - 1) * (b.length : Int)), inR .i64 (((i - 1) * (b.length : Int)) + j), (0 : Int) ≤ (((i - 1) * (b.length : Int)) + j) ∧ (((i - 1) * (b.length : Int)) + j) < (out_1.length : Int), ¬ ((at_ out_1 ((((i - 1) * (b.length : Int)) + j).toNat)) = ((at_ out_1 (((i * (b.length : Int)) + j).toNat)) - (costF (at_ a i.toNat) (at_ b j.toNat))))] ⟨h1, (inR_i64 (by omega) (by omega)), (inR_i64 (by omega) (by omega)), (inR_i64 (by omega) (by omega)), ⟨(by omega), (by omega)⟩, h5, trivial⟩ ?_
     refine xe_then ?_
     refine x_false rfl ?_
     refine x_r [] [0, 1, 7, 8, 9, 10, 11] [27] [slFeat false a, slFeat false b, slI true out_1, I (b.length : Int), I i, I (j - 1), .arr 27] [some (tAPair bs)] [inR .i64 (j - 1)] ⟨(inR_i64 (by omega) (by omega)), trivial⟩ ?_
     refine xe_block 2 ?_
     refine xe_then ?_
     refine x_r [(3, .new 100), (5, .new 102)] [0, 1, 7, 8, 9, 10, 11] [102] [slFeat false a, slFeat false b, slI true out_1, I (b.length : Int), I i, I (j - 1), .arr 102] [some (.arr 2 (1 + bs.length) (catF 1 (litF [I i, I (j - 1)] 2) (fPair bs)))] [(1 + bs.length) * 16 ≤ 140737488355328] ⟨(by omega), trivial⟩ ?_
     refine xe_block 1 ?_
     refine xe_weak [(27, 102)] (T := [(0, slFeat false a), (1, slFeat false b), (7, slI true out_1), (8, I (b.length : Int)), (9, I i), (10, I (j - 1)), (11, .arr 27)]) (O := [(27, tAPair ([(Pair.mk i (j - 1))] ++ bs))]) rfl (⟨.inl rfl, .inl rfl, .inl rfl, .inl rfl, .inl rfl, .inl rfl, .inl rfl, trivial⟩) (⟨.inr ⟨rfl, (by first | rfl | (simp; done) | (simp; omega) | omega), fun i_ hi_ => .inl (cat_one (enc := cPair) rfl i_ hi_)⟩, trivial⟩) (xe_again (i, (j - 1), ([(Pair.mk i (j - 1))] ++ bs)) rfl (show (0 ≤ i ∧ i < (a.length : Int)) ∧ (0 ≤ (j - 1) ∧ (j - 1) < (b.length : Int)) ∧ (inBd band i.toNat (j - 1).toNat) ∧ (i + (j - 1) + (([(Pair.mk i (j - 1))] ++ bs).length : Int) ≤ (a.length : Int) + (b.length : Int) - 1) ∧ (([(Pair.mk i (j - 1))] ++ bs).reverse ++ (bk a b band (a.length + b.length - ([(Pair.mk i (j - 1))] ++ bs).length) i.toNat (j - 1).toNat).tail = tot a b band) ∧ True from ⟨(by omega), (by omega), (by exact hgo.1), (by (simp; omega)), (by exact htx), trivial⟩) (by first | (show ((i + (j - 1)).toNat : Nat) < (i + j).toNat; omega) | (dsimp only; omega)))
    by_cases h6 : 0 < j
    ·have h00 : ¬ (i = 0 ∧ j = 0) := by omega
     have hcst := costF_bd (hab.1 i.toNat (by omega)) (hab.2.1 j.toNat (by omega))
     have hlt := fl_lt (j := 0) (show i.toNat < a.length by omega) (show j.toNat < b.length by omega)
     have hix : ((i.toNat : Nat) : Int) = i := by omega
     have hpr : i * (b.length : Int) = ((i.toNat * b.length : Nat) : Int) := by rw [Int.natCast_mul, hix]
     have hpq : (i - 1) * (b.length : Int) = ((i.toNat * b.length : Nat) : Int) - b.length := by rw [Int.sub_mul, Int.one_mul, hpr]
     have hps := Nat.mul_le_mul (show i.toNat ≤ 72 by omega) (show b.length ≤ 72 by omega)
     have hpt : 1 ≤ i → b.length ≤ i.toNat * b.length := fun q => Nat.le_mul_of_pos_left _ (by omega)
     have hcf := cv_fin (band := band) hab (i := i.toNat) (j := j.toNat) (by omega) (by omega)
     have hcu := fl_at (i := i) (j := j) hfl (by omega) (by omega)
     have hnx := sn_3 hab hbb h00 hfl (by omega) (by omega) (fun q => by first | omega | exact absurd q.2.2 (by assumption)) (fun q => by first | omega | exact absurd q.2 (by assumption))
     have hgo := (nx_go hab (by omega) (by omega) hbb h00 hnx (s := 0)).1
     have hr1 := hnx.1
     have hr2 := hnx.2.1
     have htx := tot_pre hab (by omega) (by omega) hbb h00 hnx hsm htt
     refine x_r [(1, .dec false), (4, .dec true)] [0, 1, 7, 8, 9, 10, 11, 33] [27] [slFeat false a, slFeat false b, slI true out_1, I (b.length : Int), I i, I j, .arr 27, Bv true] [some (tAPair bs)] [¬ (0 < i), 0 < j] ⟨h1, h6, trivial⟩ ?_
     refine xe_then ?_
     refine x_true rfl ?_
     refine x_skip ?_
     refine xe_then ?_
     refine x_block ?_
     refine xR [(16, .call [(true, .any), (true, .any)] true (I (costF (at_ a i.toNat) (at_ b j.toNat))))] [0, 1, 7, 8, 9, 10, 11, 12] [27] [slFeat false a, slFeat false b, slI true out_1, I (b.length : Int), I i, I j, .arr 27, I ((at_ out_1 (((i * (b.length : Int)) + j).toNat)) - (costF (at_ a i.toNat) (at_ b j.toNat)))] [some (tAPair bs)] [inR .i64 (i * (b.length : Int)), inR .i64 ((i * (b.length : Int)) + j), (0 : Int) ≤ ((i * (b.length : Int)) + j) ∧ ((i * (b.length : Int)) + j) < (out_1.length : Int), (0 : Int) ≤ i ∧ i < (a.length : Int), (0 : Int) ≤ j ∧ j < (b.length : Int), Con Tryz.prog 109 [agFeat (at_ a i.toNat), agFeat (at_ b j.toNat)] true (I (costF (at_ a i.toNat) (at_ b j.toNat))) ∧ True, inR .i64 ((at_ out_1 (((i * (b.length : Int)) + j).toNat)) - (costF (at_ a i.toNat) (at_ b j.toNat)))] ⟨(inR_i64 (by omega) (by omega)), (inR_i64 (by omega) (by omega)), ⟨(by omega), (by omega)⟩, ⟨(by omega), (by omega)⟩, ⟨(by omega), (by omega)⟩, ⟨(l09Cost_ok (at_ a i.toNat) (at_ b j.toNat) (by first | exact hab.1 _ (by omega) | exact hab.2.1 _ (by omega)) (by first | exact hab.1 _ (by omega) | exact hab.2.1 _ (by omega))), trivial⟩, (inR_i64 (by omega) (by omega)), trivial⟩ ?_
     refine x_seq ?_
     refine x_block ?_
     refine xR [(1, .dec false)] [0, 1, 7, 8, 9, 10, 11, 12, 54] [27] [slFeat false a, slFeat false b, slI true out_1, I (b.length : Int), I i, I j, .arr 27, I ((at_ out_1 (((i * (b.length : Int)) + j).toNat)) - (costF (at_ a i.toNat) (at_ b j.toNat))), Bv false] [some (tAPair bs)] [¬ (0 < i)] ⟨h1, trivial⟩ ?_
     refine x_false rfl ?_
     refine xR [(1, .dec false)] [0, 1, 7, 8, 9, 10, 11, 79] [27] [slFeat false a, slFeat false b, slI true out_1, I (b.length : Int), I i, I j, .arr 27, Bv false] [some (tAPair bs)] [¬ (0 < i)] ⟨h1, trivial⟩ ?_
     refine x_false rfl ?_
     refine x_r [] [0, 1, 7, 8, 9, 10, 11] [27] [slFeat false a, slFeat false b, slI true out_1, I (b.length : Int), I i, I (j - 1), .arr 27] [some (tAPair bs)] [inR .i64 (j - 1)] ⟨(inR_i64 (by omega) (by omega)), trivial⟩ ?_
     refine xe_block 2 ?_
     refine xe_then ?_
     refine x_r [(3, .new 100), (5, .new 102)] [0, 1, 7, 8, 9, 10, 11] [102] [slFeat false a, slFeat false b, slI true out_1, I (b.length : Int), I i, I (j - 1), .arr 102] [some (.arr 2 (1 + bs.length) (catF 1 (litF [I i, I (j - 1)] 2) (fPair bs)))] [(1 + bs.length) * 16 ≤ 140737488355328] ⟨(by omega), trivial⟩ ?_
     refine xe_block 1 ?_
     refine xe_weak [(27, 102)] (T := [(0, slFeat false a), (1, slFeat false b), (7, slI true out_1), (8, I (b.length : Int)), (9, I i), (10, I (j - 1)), (11, .arr 27)]) (O := [(27, tAPair ([(Pair.mk i (j - 1))] ++ bs))]) rfl (⟨.inl rfl, .inl rfl, .inl rfl, .inl rfl, .inl rfl, .inl rfl, .inl rfl, trivial⟩) (⟨.inr ⟨rfl, (by first | rfl | (simp; done) | (simp; omega) | omega), fun i_ hi_ => .inl (cat_one (enc := cPair) rfl i_ hi_)⟩, trivial⟩) (xe_again (i, (j - 1), ([(Pair.mk i (j - 1))] ++ bs)) rfl (show (0 ≤ i ∧ i < (a.length : Int)) ∧ (0 ≤ (j - 1) ∧ (j - 1) < (b.length : Int)) ∧ (inBd band i.toNat (j - 1).toNat) ∧ (i + (j - 1) + (([(Pair.mk i (j - 1))] ++ bs).length : Int) ≤ (a.length : Int) + (b.length : Int) - 1) ∧ (([(Pair.mk i (j - 1))] ++ bs).reverse ++ (bk a b band (a.length + b.length - ([(Pair.mk i (j - 1))] ++ bs).length) i.toNat (j - 1).toNat).tail = tot a b band) ∧ True from ⟨(by omega), (by omega), (by exact hgo.1), (by (simp; omega)), (by exact htx), trivial⟩) (by first | (show ((i + (j - 1)).toNat : Nat) < (i + j).toNat; omega) | (dsimp only; omega)))
    have hfin := tot_end (by omega) htt
    have htn := tot_len a b band
    rw [← hfin, List.length_reverse] at htn
    refine x_r [(1, .dec false), (4, .dec false)] [0, 1, 7, 8, 9, 10, 11, 33] [27] [slFeat false a, slFeat false b, slI true out_1, I (b.length : Int), I i, I j, .arr 27, Bv false] [some (tAPair bs)] [¬ (0 < i), ¬ (0 < j)] ⟨h1, h6, trivial⟩ ?_
    refine xe_then ?_
    refine x_false rfl ?_
    refine x_exit ?_
    refine xe_exit_then ?_
    refine xe_loop_exit ?_
    refine xe_exit_same ?_
    refine xe_then ?_
    refine xR [] [6] [27] [.arr 27] [some (tAPair bs)] [] trivial ?_
    refine x_ret ?_
    refine xe_end bs (show (bs = (tot a b band).reverse) ∧ (True) from ⟨(by rw [← hfin, List.reverse_reverse]), trivial⟩) (trivial) (.arr 27) (by kernel_rfl) (.inr ⟨(fun _ => rfl), rfl, rfl, fun i _ => .inl rfl⟩) (fun _ => rfl) (fun _ => (tagPair true _))
  obtain ⟨v, ⟨hh0, _⟩, hc⟩ := hh
  exact ⟨v, hh0, hc⟩


theorem sortL_pw (xs : List Int) : (sortL xs).Pairwise fun x y => x ≤ y := by
  have h := List.pairwise_mergeSort (le := fun (x y : Int) => decide (x ≤ y)) (fun a b c h1 h2 => by simp only [decide_eq_true_eq] at *; omega) (fun a b => by simp only [Bool.or_eq_true, decide_eq_true_eq]; omega) xs
  exact h.imp fun h => by simpa using h
theorem sortL_perm (xs : List Int) : List.Perm (sortL xs) xs := List.mergeSort_perm _ _
theorem sort_uniq {a b : List Int} (ha : a.Pairwise fun x y => x ≤ y) (hb : b.Pairwise fun x y => x ≤ y) (h : List.Perm a b) : a = b :=
  List.Perm.eq_of_pairwise (le := fun x y => x ≤ y) (fun x y _ _ h1 h2 => Int.le_antisymm h1 h2) ha hb h
/-- A number put to its place. -/
theorem ins_sort {p : List Int} {x : Int} {k : Nat} (hk : k ≤ (sortL p).length) (h1 : ∀ j, k ≤ j → j < (sortL p).length → x < at_ (sortL p) j) (h2 : k = 0 ∨ at_ (sortL p) (k - 1) ≤ x) :
    (sortL p).take k ++ [x] ++ (sortL p).drop k = sortL (p ++ [x]) := by
  have hs := sortL_pw p
  generalize hl : sortL p = l at *
  refine sort_uniq ?_ (sortL_pw _) ?_
  · have ht := hs
    rw [← List.take_append_drop k l, List.pairwise_append] at ht
    obtain ⟨ta, tb, tc⟩ := ht
    have hlow : ∀ a ∈ l.take k, a ≤ x := fun a ha => by
      obtain ⟨j, hj, e⟩ := List.getElem_of_mem ha
      rcases h2 with h2 | h2
      · subst h2; simp at ha
      · have hjk : j < k := by simp at hj; omega
        have hjl : j < l.length := by simp at hj; omega
        have he : a = at_ l j := by rw [← e, at_eq hjl]; simp
        by_cases e2 : j = k - 1
        · rw [he, e2]; exact h2
        · have := List.pairwise_iff_getElem.1 hs j (k - 1) hjl (by omega) (by omega)
          rw [he, at_eq hjl]
          rw [at_eq (by omega)] at h2
          omega
    have hhigh : ∀ b ∈ l.drop k, x ≤ b := fun b hb => by
      obtain ⟨j, hj, e⟩ := List.getElem_of_mem hb
      simp at hj
      have h := h1 (k + j) (by omega) (by omega)
      rw [at_eq (by omega)] at h
      rw [← e]; simp; omega
    rw [List.append_assoc, List.pairwise_append]
    refine ⟨ta, ?_, ?_⟩
    · rw [List.singleton_append, List.pairwise_cons]
      exact ⟨hhigh, tb⟩
    · intro a ha b hb
      simp at hb
      rcases hb with rfl | hb
      · exact hlow a ha
      · exact tc a ha b hb
  · have e : List.Perm l p := by rw [← hl]; exact sortL_perm p
    refine List.Perm.trans ?_ (sortL_perm (p ++ [x])).symm
    refine List.Perm.trans ?_ (e.append_right [x])
    rw [List.append_assoc]
    refine List.Perm.trans (List.perm_append_comm.append_left _) ?_
    rw [← List.append_assoc, List.take_append_drop]
theorem sortL_nil : sortL [] = [] := by simp [sortL]
theorem sorted_le {p : List Int} {i j : Nat} (hij : i ≤ j) (hj : j < (sortL p).length) : at_ (sortL p) i ≤ at_ (sortL p) j := by
  by_cases e : i = j
  · subst e; exact Int.le_refl _
  · have := List.pairwise_iff_getElem.1 (sortL_pw p) i j (by omega) hj (by omega)
    rw [at_eq (by omega), at_eq hj]; exact this

theorem ins_next {xs l : List Int} {i k : Int} (e : l = sortL (xs.take i.toNat)) (h0 : 0 ≤ i) (hi : i.toNat < xs.length) (hk : 0 ≤ k ∧ k ≤ (l.length : Int)) (h1 : ∀ j : Nat, k ≤ (j : Int) → j < l.length → at_ xs i.toNat < at_ l j) (h2 : k ≤ 0 ∨ at_ l (k - 1).toNat ≤ at_ xs i.toNat) :
    l.take k.toNat ++ [at_ xs i.toNat] ++ l.drop k.toNat = sortL (xs.take (i + 1).toNat) := by
  subst e
  have e1 : (i + 1).toNat = i.toNat + 1 := by omega
  rw [e1, List.take_succ_eq_append_getElem hi, ← at_eq hi]
  refine ins_sort (by omega) (fun j hj hl => h1 j (by omega) hl) ?_
  rcases h2 with h2 | h2
  · left; omega
  · by_cases hz : k.toNat = 0
    · exact .inl hz
    · right
      have e2 : (k - 1).toNat = k.toNat - 1 := by omega
      rw [e2] at h2; exact h2

/-- A list with another number at a place, the rest moved up. -/
def holeL (p : List Int) (k : Nat) (y : Int) : List Int := p.take k ++ [y] ++ p.drop k
theorem hole_len {p : List Int} {k : Nat} {y : Int} (h : k ≤ p.length) : (holeL p k y).length = p.length + 1 := by simp [holeL]; omega
theorem hole_lt {p : List Int} {k j : Nat} {y : Int} (h : k ≤ p.length) (hj : j < k) : at_ (holeL p k y) j = at_ p j := by
  unfold holeL at_
  rw [List.append_assoc]
  simp only [List.getD_eq_getElem?_getD]
  rw [List.getElem?_append_left (by rw [List.length_take]; omega), List.getElem?_take, if_pos hj]
theorem hole_eq {p : List Int} {k : Nat} {y : Int} (h : k ≤ p.length) : at_ (holeL p k y) k = y := by
  unfold holeL
  rw [List.append_assoc]
  simp [at_, List.getElem?_append, Nat.min_eq_left h]
theorem hole_set {p : List Int} {k : Nat} {y z : Int} (h : k ≤ p.length) : (holeL p k y).set k z = holeL p k z := by
  unfold holeL
  rw [List.append_assoc, List.append_assoc, List.set_append]
  rw [if_neg (by simp; omega)]
  rw [List.length_take, Nat.min_eq_left h, Nat.sub_self]; rfl
theorem hole_dn {p : List Int} {k : Nat} (h : k + 1 ≤ p.length) : holeL p (k + 1) (at_ p k) = holeL p k (at_ p k) := by
  unfold holeL
  rw [List.take_succ_eq_append_getElem (show k < p.length by omega), at_eq (show k < p.length by omega), List.drop_eq_getElem_cons (show k < p.length by omega)]
  simp
theorem hole_end (p : List Int) (y : Int) : p ++ [y] = holeL p p.length y := by simp [holeL]
/-- One number moves up. -/
theorem hole_up {p out : List Int} {k : Int} (hk : 1 ≤ k ∧ k ≤ (p.length : Int)) (h : out = holeL p k.toNat (at_ out k.toNat)) : out.set k.toNat (at_ out (k - 1).toNat) = holeL p (k - 1).toNat (at_ (out.set k.toNat (at_ out (k - 1).toNat)) (k - 1).toNat) := by
  have e1 : at_ out (k - 1).toNat = at_ p (k - 1).toNat := by rw [h, hole_lt (by omega) (by omega)]
  have e2 : out.set k.toNat (at_ out (k - 1).toNat) = holeL p k.toNat (at_ p (k - 1).toNat) := by rw [e1, h, hole_set (by omega)]
  rw [e2, hole_lt (by omega) (by omega)]
  have e3 : k.toNat = (k - 1).toNat + 1 := by omega
  rw [e3]; exact hole_dn (by omega)
theorem hole_put {xs out : List Int} {i k x : Int} {p : List Int} (hp : p = sortL (xs.take i.toNat)) (h0 : 0 ≤ i) (hi : i.toNat < xs.length) (hk : 0 ≤ k ∧ k ≤ (p.length : Int)) (h : out = holeL p k.toNat (at_ out k.toNat)) (h1 : ∀ j : Nat, k ≤ (j : Int) → j < p.length → at_ xs i.toNat < at_ p j) (h2 : k ≤ 0 ∨ at_ out (k - 1).toNat ≤ at_ xs i.toNat) (hx : x = at_ xs i.toNat) : out.set k.toNat x = sortL (xs.take (i + 1).toNat) := by
  subst hx
  rw [h, hole_set (by omega)]
  refine ins_next hp h0 hi hk h1 ?_
  rcases h2 with h2 | h2
  · exact .inl h2
  · by_cases e : k ≤ 0
    · exact .inl e
    · right; rw [h, hole_lt (by omega) (by omega)] at h2; exact h2
theorem hole_gt {xs out p : List Int} {i : Nat} {k : Int} (hk : 1 ≤ k ∧ k ≤ (p.length : Int)) (h : out = holeL p k.toNat (at_ out k.toNat)) (h1 : ∀ j : Nat, k ≤ (j : Int) → j < p.length → at_ xs i < at_ p j) (h2 : at_ xs i < at_ out (k - 1).toNat) : ∀ j : Nat, k - 1 ≤ (j : Int) → j < p.length → at_ xs i < at_ p j := fun j hj hl => by
  by_cases e : (j : Int) = k - 1
  · rw [h, hole_lt (by omega) (by omega)] at h2
    rw [show j = (k - 1).toNat from by omega]; exact h2
  · exact h1 j (by omega) hl

-- spec.l24Median
theorem l24Median_ok (list : List Int) (hl : 1 ≤ list.length ∧ list.length ≤ 1000) : ∃ (v : Int), (v = medI list) ∧ Con Tryz.prog 89 [slI false list] true (I v) := by
  have hh : ∃ r : Int, ((r = medI list) ∧ (True)) ∧ CallOK Tryz.prog 89 [slI false list] (lookO []) true (I r) (lookO []) := by
    refine fn_okX (Φ := fun r : Int => (r = medI list) ∧ (True)) [] (fun r => []) (fn := Tryz.f89) (nt := 60) Tryz.func89 rfl rfl (args := [slI false list]) rfl (allcons (.inl ⟨rfl, tagI false _⟩) allnil) (res := fun r => I r) ?_
    refine xR [] [0] [] [slI false list] [] [] trivial ?_
    refine xR [(0, .new 6)] [0, 3] [6] [slI false list, .arr 6] [some (.arr 1 0 (litF [] 1))] [] trivial ?_
    refine x_seq ?_
    refine xR [] [0, 3, 4] [6] [slI false list, .arr 6, I 0] [some (.arr 1 0 (litF [] 1))] [] trivial ?_
    refine x_block ?_
    refine x_weak [] (T := [(0, slI false list), (3, .arr 6), (4, I 0)]) (O := [(6, tAI ([] : List Int))]) rfl (⟨.inl rfl, .inl rfl, .inl rfl, trivial⟩) (⟨.inr ⟨rfl, (by first | rfl | (simp; done) | (simp; omega) | omega), fun i_ hi_ => absurd hi_ (Nat.not_lt_zero _)⟩, trivial⟩) ?_
    refine x_loop (X := (List Int) × Int) (fun x => mkS [(0, slI false list), (3, .arr 6), (4, I x.2)] [(6, tAI x.1)]) (fun x => (0 ≤ x.2 ∧ x.2 ≤ (list.length : Int)) ∧ (x.1 = sortL (list.take x.2.toNat)) ∧ True) (fun x => ((list.length : Int) - x.2).toNat) (([] : List Int), 0) rfl (show (0 ≤ (0 : Int) ∧ (0 : Int) ≤ (list.length : Int)) ∧ (([] : List Int) = sortL (list.take (0 : Int).toNat)) ∧ True from ⟨(by omega), (by exact sortL_nil.symm), trivial⟩) (fun x hI => ?_)
    obtain ⟨out, i⟩ := x
    obtain ⟨hi0, hs0, _⟩ : (0 ≤ i ∧ i ≤ (list.length : Int)) ∧ (out = sortL (list.take i.toNat)) ∧ True := hI
    show XW _ _ _ _ (mkS [(0, slI false list), (3, .arr 6), (4, I i)] [(6, tAI out)]) _ _
    refine x_seq ?_
    refine x_seq ?_
    by_cases h1 : i < (list.length : Int)
    ·have hi : i.toNat < list.length := by omega
     have hsp := sortL_len (list.take i.toNat)
     have htk : (list.take i.toNat).length = i.toNat := by rw [List.length_take]; omega
     have hol : out.length = i.toNat := by rw [hs0, hsp, htk]
     have hen : out ++ [at_ list i.toNat] = holeL (sortL (list.take i.toNat)) (sortL (list.take i.toNat)).length (at_ list i.toNat) := by rw [hs0]; exact hole_end _ _
     refine x_r [(3, .dec true)] [0, 3, 4, 10] [6] [slI false list, .arr 6, I i, Bv true] [some (tAI out)] [i < (list.length : Int)] ⟨h1, trivial⟩ ?_
     refine xe_then ?_
     refine x_true rfl ?_
     refine x_skip ?_
     refine xe_then ?_
     refine x_seq ?_
     refine x_block ?_
     refine xR [] [0, 3, 4, 5] [6] [slI false list, .arr 6, I i, I (out.length : Int)] [some (tAI out)] [] trivial ?_
     refine xR [(5, .new 20), (6, .new 21)] [0, 3, 4, 5] [21] [slI false list, .arr 21, I i, I (out.length : Int)] [some (.arr 1 (out.length + 1) (catF out.length (fI out) (litF [I (at_ list i.toNat)] 1)))] [(0 : Int) ≤ i ∧ i < (list.length : Int), (out.length + 1) * 8 ≤ 140737488355328] ⟨⟨(by omega), (by omega)⟩, (by omega), trivial⟩ ?_
     refine x_seq ?_
     refine x_block ?_
     refine x_weak [] (T := [(0, slI false list), (3, .arr 21), (4, I i), (5, I (out.length : Int))]) (O := [(21, tAI (out ++ [(at_ list i.toNat)]))]) rfl (⟨.inl rfl, .inl rfl, .inl rfl, .inl rfl, trivial⟩) (⟨.inr ⟨rfl, (by first | rfl | (simp; done) | (simp; omega) | omega), fun i_ hi_ => .inl (cat_snoc (enc := cI) (xs := out) rfl i_ hi_)⟩, trivial⟩) ?_
     refine x_loop (X := Int × (List Int)) (fun x => mkS [(0, slI false list), (3, .arr 21), (4, I i), (5, I x.1)] [(21, tAI x.2)]) (fun x => (0 ≤ x.1 ∧ x.1 ≤ ((sortL (list.take i.toNat)).length : Int)) ∧ (x.2 = holeL (sortL (list.take i.toNat)) x.1.toNat (at_ x.2 x.1.toNat)) ∧ (∀ j : Nat, x.1 ≤ (j : Int) → j < (sortL (list.take i.toNat)).length → at_ list i.toNat < at_ (sortL (list.take i.toNat)) j) ∧ True) (fun x => x.1.toNat) ((out.length : Int), (out ++ [(at_ list i.toNat)])) rfl (show (0 ≤ (out.length : Int) ∧ (out.length : Int) ≤ ((sortL (list.take i.toNat)).length : Int)) ∧ ((out ++ [(at_ list i.toNat)]) = holeL (sortL (list.take i.toNat)) (out.length : Int).toNat (at_ (out ++ [(at_ list i.toNat)]) (out.length : Int).toNat)) ∧ (∀ j : Nat, (out.length : Int) ≤ (j : Int) → j < (sortL (list.take i.toNat)).length → at_ list i.toNat < at_ (sortL (list.take i.toNat)) j) ∧ True from ⟨(by omega), (by (rw [hen, show (out.length : Int).toNat = (sortL (list.take i.toNat)).length from by omega, hole_eq (Nat.le_refl _)])), (by intro j h1 h2; omega), trivial⟩) (fun x hI => ?_)
     obtain ⟨k, ou⟩ := x
     obtain ⟨hk0, hh0, hgt, _⟩ : (0 ≤ k ∧ k ≤ ((sortL (list.take i.toNat)).length : Int)) ∧ (ou = holeL (sortL (list.take i.toNat)) k.toNat (at_ ou k.toNat)) ∧ (∀ j : Nat, k ≤ (j : Int) → j < (sortL (list.take i.toNat)).length → at_ list i.toNat < at_ (sortL (list.take i.toNat)) j) ∧ True := hI
     show XW _ _ _ _ (mkS [(0, slI false list), (3, .arr 21), (4, I i), (5, I k)] [(21, tAI ou)]) _ _
     refine x_seq ?_
     refine x_seq ?_
     by_cases h2 : 0 < k
     ·have hol2 : ou.length = (sortL (list.take i.toNat)).length + 1 := by rw [hh0, hole_len (by omega)]
      by_cases h3 : (at_ list i.toNat) < (at_ ou ((k - 1).toNat))
      ·have hup := hole_up ⟨by omega, by omega⟩ hh0
       have hgn := hole_gt ⟨by omega, by omega⟩ hh0 hgt h3
       refine x_r [(1, .dec true), (12, .dec true)] [0, 3, 4, 5, 35] [21] [slI false list, .arr 21, I i, I k, Bv true] [some (tAI ou)] [0 < k, inR .i64 (k - 1), (0 : Int) ≤ (k - 1) ∧ (k - 1) < (ou.length : Int), (k - 1).toNat < ou.length, (0 : Int) ≤ i ∧ i < (list.length : Int), (at_ list i.toNat) < (at_ ou ((k - 1).toNat))] ⟨h2, (inR_i64 (by omega) (by omega)), ⟨(by omega), (by omega)⟩, (by omega), ⟨(by omega), (by omega)⟩, h3, trivial⟩ ?_
       refine xe_then ?_
       refine x_true rfl ?_
       refine x_skip ?_
       refine xe_then ?_
       refine x_block ?_
       refine xR [] [0, 3, 4, 5] [21] [slI false list, .arr 21, I i, I k] [some (.arr 1 ou.length (fun q => bif Nat.beq q k.toNat then [I (at_ ou ((k - 1).toNat))] else (fI ou) q))] [inR .i64 (k - 1), (0 : Int) ≤ (k - 1) ∧ (k - 1) < (ou.length : Int), (k - 1).toNat < ou.length, (0 : Int) ≤ k ∧ k < (ou.length : Int), k.toNat < ou.length] ⟨(inR_i64 (by omega) (by omega)), ⟨(by omega), (by omega)⟩, (by omega), ⟨(by omega), (by omega)⟩, (by omega), trivial⟩ ?_
       refine x_weak [] (T := [(0, slI false list), (3, .arr 21), (4, I i), (5, I k)]) (O := [(21, tAI (ou.set k.toNat (at_ ou ((k - 1).toNat))))]) rfl (⟨.inl rfl, .inl rfl, .inl rfl, .inl rfl, trivial⟩) (⟨.inr ⟨rfl, (by first | rfl | (simp; done) | (simp; omega) | omega), fun i_ hi_ => .inl (upd_enc (enc := cI) rfl i_ hi_)⟩, trivial⟩) ?_
       refine x_r [] [0, 3, 4, 5] [21] [slI false list, .arr 21, I i, I (k - 1)] [some (tAI (ou.set k.toNat (at_ ou ((k - 1).toNat))))] [inR .i64 (k - 1)] ⟨(inR_i64 (by omega) (by omega)), trivial⟩ ?_
       refine xe_block 3 ?_
       exact xe_again ((k - 1), (ou.set k.toNat (at_ ou ((k - 1).toNat)))) rfl (show (0 ≤ (k - 1) ∧ (k - 1) ≤ ((sortL (list.take i.toNat)).length : Int)) ∧ ((ou.set k.toNat (at_ ou ((k - 1).toNat))) = holeL (sortL (list.take i.toNat)) (k - 1).toNat (at_ (ou.set k.toNat (at_ ou ((k - 1).toNat))) (k - 1).toNat)) ∧ (∀ j : Nat, (k - 1) ≤ (j : Int) → j < (sortL (list.take i.toNat)).length → at_ list i.toNat < at_ (sortL (list.take i.toNat)) j) ∧ True from ⟨(by omega), (by exact hup), (by exact hgn), trivial⟩) (by first | (show ((k - 1).toNat : Nat) < k.toNat; omega) | (dsimp only; omega))
      have hpt := hole_put (x := at_ list i.toNat) rfl hi0.1 hi hk0 hh0 hgt (Or.inr (by omega)) rfl
      refine x_r [(1, .dec true), (12, .dec false)] [0, 3, 4, 5, 35] [21] [slI false list, .arr 21, I i, I k, Bv false] [some (tAI ou)] [0 < k, inR .i64 (k - 1), (0 : Int) ≤ (k - 1) ∧ (k - 1) < (ou.length : Int), (k - 1).toNat < ou.length, (0 : Int) ≤ i ∧ i < (list.length : Int), ¬ ((at_ list i.toNat) < (at_ ou ((k - 1).toNat)))] ⟨h2, (inR_i64 (by omega) (by omega)), ⟨(by omega), (by omega)⟩, (by omega), ⟨(by omega), (by omega)⟩, h3, trivial⟩ ?_
      refine xe_then ?_
      refine x_false rfl ?_
      refine x_exit ?_
      refine xe_exit_then ?_
      refine xe_loop_exit ?_
      refine xe_exit_same ?_
      refine xe_then ?_
      refine x_r [] [0, 3, 4] [21] [slI false list, .arr 21, I i] [some (.arr 1 ou.length (fun q => bif Nat.beq q k.toNat then [I (at_ list i.toNat)] else (fI ou) q))] [(0 : Int) ≤ i ∧ i < (list.length : Int), (0 : Int) ≤ k ∧ k < (ou.length : Int), k.toNat < ou.length] ⟨⟨(by omega), (by omega)⟩, ⟨(by omega), (by omega)⟩, (by omega), trivial⟩ ?_
      refine xe_block 1 ?_
      refine xe_then ?_
      refine x_weak [] (T := [(0, slI false list), (3, .arr 21), (4, I i)]) (O := [(21, tAI (ou.set k.toNat (at_ list i.toNat)))]) rfl (⟨.inl rfl, .inl rfl, .inl rfl, trivial⟩) (⟨.inr ⟨rfl, (by first | rfl | (simp; done) | (simp; omega) | omega), fun i_ hi_ => .inl (upd_enc (enc := cI) rfl i_ hi_)⟩, trivial⟩) ?_
      refine x_r [] [0, 3, 4] [21] [slI false list, .arr 21, I (i + 1)] [some (tAI (ou.set k.toNat (at_ list i.toNat)))] [inR .i64 (i + 1)] ⟨(inR_i64 (by omega) (by omega)), trivial⟩ ?_
      refine xe_weak [(6, 21)] (T := [(0, slI false list), (3, .arr 6), (4, I (i + 1))]) (O := [(6, tAI (ou.set k.toNat (at_ list i.toNat)))]) rfl (⟨.inl rfl, .inl rfl, .inl rfl, trivial⟩) (⟨.inl rfl, trivial⟩) (xe_again ((ou.set k.toNat (at_ list i.toNat)), (i + 1)) rfl (show (0 ≤ (i + 1) ∧ (i + 1) ≤ (list.length : Int)) ∧ ((ou.set k.toNat (at_ list i.toNat)) = sortL (list.take (i + 1).toNat)) ∧ True from ⟨(by omega), (by first | exact hpt | (rw [← hpt]; done)), trivial⟩) (by first | (show (((list.length : Int) - (i + 1)).toNat : Nat) < ((list.length : Int) - i).toNat; omega) | (dsimp only; omega)))
     have hol2 : ou.length = (sortL (list.take i.toNat)).length + 1 := by rw [hh0, hole_len (by omega)]
     have hpt := hole_put (x := at_ list i.toNat) rfl hi0.1 hi hk0 hh0 hgt (Or.inl (by omega)) rfl
     refine x_r [(1, .dec false)] [0, 3, 4, 5, 35] [21] [slI false list, .arr 21, I i, I k, Bv false] [some (tAI ou)] [¬ (0 < k)] ⟨h2, trivial⟩ ?_
     refine xe_then ?_
     refine x_false rfl ?_
     refine x_exit ?_
     refine xe_exit_then ?_
     refine xe_loop_exit ?_
     refine xe_exit_same ?_
     refine xe_then ?_
     refine x_r [] [0, 3, 4] [21] [slI false list, .arr 21, I i] [some (.arr 1 ou.length (fun q => bif Nat.beq q k.toNat then [I (at_ list i.toNat)] else (fI ou) q))] [(0 : Int) ≤ i ∧ i < (list.length : Int), (0 : Int) ≤ k ∧ k < (ou.length : Int), k.toNat < ou.length] ⟨⟨(by omega), (by omega)⟩, ⟨(by omega), (by omega)⟩, (by omega), trivial⟩ ?_
     refine xe_block 1 ?_
     refine xe_then ?_
     refine x_weak [] (T := [(0, slI false list), (3, .arr 21), (4, I i)]) (O := [(21, tAI (ou.set k.toNat (at_ list i.toNat)))]) rfl (⟨.inl rfl, .inl rfl, .inl rfl, trivial⟩) (⟨.inr ⟨rfl, (by first | rfl | (simp; done) | (simp; omega) | omega), fun i_ hi_ => .inl (upd_enc (enc := cI) rfl i_ hi_)⟩, trivial⟩) ?_
     refine x_r [] [0, 3, 4] [21] [slI false list, .arr 21, I (i + 1)] [some (tAI (ou.set k.toNat (at_ list i.toNat)))] [inR .i64 (i + 1)] ⟨(inR_i64 (by omega) (by omega)), trivial⟩ ?_
     refine xe_weak [(6, 21)] (T := [(0, slI false list), (3, .arr 6), (4, I (i + 1))]) (O := [(6, tAI (ou.set k.toNat (at_ list i.toNat)))]) rfl (⟨.inl rfl, .inl rfl, .inl rfl, trivial⟩) (⟨.inl rfl, trivial⟩) (xe_again ((ou.set k.toNat (at_ list i.toNat)), (i + 1)) rfl (show (0 ≤ (i + 1) ∧ (i + 1) ≤ (list.length : Int)) ∧ ((ou.set k.toNat (at_ list i.toNat)) = sortL (list.take (i + 1).toNat)) ∧ True from ⟨(by omega), (by first | exact hpt | (rw [← hpt]; done)), trivial⟩) (by first | (show (((list.length : Int) - (i + 1)).toNat : Nat) < ((list.length : Int) - i).toNat; omega) | (dsimp only; omega)))
    have hie : i.toNat = list.length := by omega
    rw [hie, List.take_of_length_le (Nat.le_refl _)] at hs0
    have hol : out.length = list.length := by rw [hs0, sortL_len]
    refine x_r [(3, .dec false)] [0, 3, 4, 10] [6] [slI false list, .arr 6, I i, Bv false] [some (tAI out)] [¬ (i < (list.length : Int))] ⟨h1, trivial⟩ ?_
    refine xe_then ?_
    refine x_false rfl ?_
    refine x_exit ?_
    refine xe_exit_then ?_
    refine xe_loop_exit ?_
    refine xe_exit_same ?_
    refine xe_then ?_
    refine xR [(4, .nn)] [2] [] [I (at_ out ((((out.length : Int) - 1) / 2).toNat))] [] [inR .i64 ((out.length : Int) - 1), (0 : Int) ≤ ((out.length : Int) - 1) ∧ (0 : Int) < 2 ∧ inR .i64 ((out.length : Int) - 1), (0 : Int) ≤ (((out.length : Int) - 1) / 2) ∧ (((out.length : Int) - 1) / 2) < (out.length : Int), (((out.length : Int) - 1) / 2).toNat < out.length] ⟨(inR_i64 (by omega) (by omega)), ⟨(by omega), (by omega), (inR_i64 (by omega) (by omega))⟩, ⟨(by omega), (by omega)⟩, (by omega), trivial⟩ ?_
    refine x_ret ?_
    refine xe_end (at_ out ((((out.length : Int) - 1) / 2).toNat)) (show ((at_ out ((((out.length : Int) - 1) / 2).toNat)) = medI list) ∧ (True) from ⟨(by (rw [hs0, sortL_len]; unfold medI; congr 1; omega)), trivial⟩) (trivial) (I (at_ out ((((out.length : Int) - 1) / 2).toNat))) (by kernel_rfl) (.inl rfl) (fun _ => rfl) (fun _ => trivial)
  obtain ⟨v, ⟨hh0, _⟩, hc⟩ := hh
  exact ⟨v, hh0, hc⟩


-- spec.l00Max
theorem l00Max_ok (a : Int) (b : Int) : Con Tryz.prog 61 [I a, I b] true (I (max a b)) := by
  refine fn_ok (fn := Tryz.f61) (nt := 10) Tryz.func61 rfl rfl rfl rfl (by simp [taggedL, tagged]) fun B hB => ?_
  refine aR [] [0, 1] [] [I a, I b] [] [] hB trivial ?_
  refine aw_seq ?_
  refine aw_seq ?_
  by_cases h1 : b < a
  ·refine aw_r [(2, .dec true)] [0, 1, 7] [] [I a, I b, Bv true] [] [b < a] hB ⟨h1, trivial⟩ ?_
   refine ae_then ?_
   refine aw_true rfl ?_
   refine aR [] [4] [] [I a] [] [] hB trivial ?_
   refine aw_ret ?_
   refine ae_ret_then ?_
   refine ae_ret hB (I a) (by kernel_rfl) (.inl (by refine congrArg I ?_; omega)) rfl (fun _ => trivial)
  refine aw_r [(2, .dec false)] [0, 1, 7] [] [I a, I b, Bv false] [] [¬ (b < a)] hB ⟨h1, trivial⟩ ?_
  refine ae_then ?_
  refine aw_false rfl ?_
  refine aw_skip ?_
  refine ae_then ?_
  refine aR [] [4] [] [I b] [] [] hB trivial ?_
  refine aw_ret ?_
  refine ae_ret hB (I b) (by kernel_rfl) (.inl (by refine congrArg I ?_; omega)) rfl (fun _ => trivial)


theorem down_spec (n : Int) {d : Int} (hd : 0 < d) : (Int.tmod n d < 0 → Int.tdiv n d - 1 = n / d) ∧ (¬ Int.tmod n d < 0 → Int.tdiv n d = n / d) := by
  have h1 := Int.mul_tdiv_add_tmod n d
  have h2 := Int.tmod_lt_of_pos n hd
  have h3 := Int.lt_tmod_of_pos n hd
  generalize Int.tdiv n d = q at *
  generalize Int.tmod n d = r at *
  subst h1
  constructor
  · intro h
    have e : d * q + r = (r + d) + d * (q - 1) := by rw [Int.mul_sub, Int.mul_one]; omega
    rw [e, Int.add_mul_ediv_left _ _ (by omega), Int.ediv_eq_zero_of_lt (by omega) (by omega)]; omega
  · intro h
    rw [Int.add_comm, Int.add_mul_ediv_left _ _ (by omega), Int.ediv_eq_zero_of_lt (by omega) (by omega)]; omega
theorem quo_bd {n r : Int} (h : 0 ≤ n) (hr : 0 < r) : 0 ≤ n / r ∧ n / r ≤ n := ⟨Int.ediv_nonneg h (by omega), Int.ediv_le_self _ h⟩
theorem tdiv_bd (n d : Int) : ((Int.tdiv n d).natAbs : Int) ≤ (n.natAbs : Int) := by
  rw [Int.natAbs_tdiv]
  exact Int.ofNat_le.2 (Nat.div_le_self _ _)

-- spec.l24Move
theorem l24Move_ok (now : Int) (base : Int) (median : Int) (share : Int) (hx : 0 ≤ now ∧ now ≤ 4095) (hb : 0 ≤ base ∧ base ≤ 4095) (hm : 0 ≤ median ∧ median ≤ 4095) (hs : 0 ≤ share ∧ share ≤ 100) : Con Tryz.prog 88 [I now, I base, I median, I share] true (I (towI now median base share)) := by
  have hq := tdiv_bd ((median - now) * share) 100
  have hml := Int.mul_le_mul_of_nonneg_right (show median - now ≤ 4095 by omega) hs.1
  have hmg := Int.mul_le_mul_of_nonneg_right (show -4095 ≤ median - now by omega) hs.1
  refine fn_ok (fn := Tryz.f88) (nt := 25) Tryz.func88 rfl rfl rfl rfl (by simp [taggedL, tagged]) fun B hB => ?_
  refine aR [] [0, 1, 2, 3] [] [I now, I base, I median, I share] [] [] hB trivial ?_
  refine aR [] [1, 9] [] [I base, I (now + (Int.tdiv ((median - now) * share) 100))] [] [inR .i64 (median - now), inR .i64 ((median - now) * share), (100 : Int) ≠ 0 ∧ inR .i64 (Int.tdiv ((median - now) * share) 100), inR .i64 (now + (Int.tdiv ((median - now) * share) 100))] hB ⟨(inR_i64 (by omega) (by omega)), (inR_i64 (by omega) (by omega)), ⟨by omega, (inR_i64 (by omega) (by omega))⟩, (inR_i64 (by omega) (by omega)), trivial⟩ ?_
  refine aR [(5, .call [(true, .any), (true, .any)] true (I (min (base + 40) (now + (Int.tdiv ((median - now) * share) 100))))), (6, .call [(true, .any), (true, .any)] true (I (max (base - 40) (min (base + 40) (now + (Int.tdiv ((median - now) * share) 100))))))] [8] [] [I (max (base - 40) (min (base + 40) (now + (Int.tdiv ((median - now) * share) 100))))] [] [inR .i64 (base - 40), inR .i64 (base + 40), Con Tryz.prog 62 [I (base + 40), I (now + (Int.tdiv ((median - now) * share) 100))] true (I (min (base + 40) (now + (Int.tdiv ((median - now) * share) 100)))) ∧ True, Con Tryz.prog 61 [I (base - 40), I (min (base + 40) (now + (Int.tdiv ((median - now) * share) 100)))] true (I (max (base - 40) (min (base + 40) (now + (Int.tdiv ((median - now) * share) 100))))) ∧ True] hB ⟨(inR_i64 (by omega) (by omega)), (inR_i64 (by omega) (by omega)), ⟨(l00Min_ok (base + 40) (now + (Int.tdiv ((median - now) * share) 100))), trivial⟩, ⟨(l00Max_ok (base - 40) (min (base + 40) (now + (Int.tdiv ((median - now) * share) 100)))), trivial⟩, trivial⟩ ?_
  refine aw_ret ?_
  refine ae_ret hB (I (max (base - 40) (min (base + 40) (now + (Int.tdiv ((median - now) * share) 100))))) (by kernel_rfl) (.inl (by refine congrArg I ?_; unfold towI; first | rfl | omega)) rfl (fun _ => trivial)


-- spec.l24Adapt
set_option maxHeartbeats 4000000 in
theorem l24Adapt_ok (t : Trained) (sample : List Feat) (band : Int) (share : Int) (okt : okTrained' t = true) (oks : okFeats sample 72 = true) (hbd : 0 ≤ band ∧ band ≤ 72) (hnm : inBd band t.Feats.length sample.length) (hsh : 0 ≤ share ∧ share ≤ 100) (hct : t.Count < 100) : ∃ (v : Trained), (v = adpT t sample band share) ∧ Con Tryz.prog 51 [.ptr false [Sv t.Label, slFeat false t.Base, slFeat false t.Feats, I t.Count], slFeat false sample, I band, I share] true (agTrainedT v) := by
  have oka := (okTr_iff.1 okt).2.2.1
  have okb := (okTr_iff.1 okt).2.1
  have hlen := (okTr_iff.1 okt).2.2.2.1.1
  have hcn := inB_iff.1 (okTr_iff.1 okt).2.2.2.2
  have hna := okFeats_n oka
  have hns := okFeats_n oks
  have hpl := path_bd oka oks band
  have hh : ∃ r : Trained, ((r = adpT t sample band share) ∧ (True)) ∧ CallOK Tryz.prog 51 [.ptr false [Sv t.Label, slFeat false t.Base, slFeat false t.Feats, I t.Count], slFeat false sample, I band, I share] (lookO []) true (agTrainedT r) (lookO []) := by
    refine fn_okX (Φ := fun r : Trained => (r = adpT t sample band share) ∧ (True)) [] (fun r => []) (fn := Tryz.f51) (nt := 134) Tryz.func51 rfl rfl (args := [.ptr false [Sv t.Label, slFeat false t.Base, slFeat false t.Feats, I t.Count], slFeat false sample, I band, I share]) rfl (allcons (.inl ⟨rfl, by simp [tagged, taggedL, tagFeat]⟩) (allcons (.inl ⟨rfl, tagFeat false _⟩) (allcons (.inl ⟨rfl, trivial⟩) (allcons (.inl ⟨rfl, trivial⟩) allnil)))) (res := fun r => agTrainedT r) ?_
    refine xR [(0, .new 8)] [0, 1, 2, 3, 8] [8] [.ptr false [Sv t.Label, slFeat false t.Base, slFeat false t.Feats, I t.Count], slFeat false sample, I band, I share, .ref 8 0] [some (.box [Sv (⟨#[]⟩ : ByteArray), nilA, nilA, I 0])] [] trivial ?_
    refine x_seq ?_
    obtain ⟨v_1, hx1_0, hc1⟩ := l09Trace_ok t.Feats sample band oka oks hbd hnm
    have hpv : v_1 = pathOf t.Feats sample band := hx1_0
    have hpl : v_1.length ≤ 145 := by rw [hpv]; exact path_bd oka oks band
    have hpa : ∀ k, k < v_1.length → (0 ≤ (at_ v_1 k).I ∧ (at_ v_1 k).I < (t.Feats.length : Int)) ∧ 0 ≤ (at_ v_1 k).J ∧ (at_ v_1 k).J < (sample.length : Int) := by rw [hpv]; exact fun k hk => path_at oka oks hk
    have hxp : ∀ (f : Feat → Int) (i : Nat), i < t.Feats.length → 1 ≤ (xsF f v_1 sample i).length ∧ (xsF f v_1 sample i).length ≤ 145 := by rw [hpv]; exact fun f i hi => xs_pos oka oks hnm f hi
    have hmX : ∀ i : Nat, i < t.Feats.length → 0 ≤ medI (xsF Feat.X v_1 sample i) ∧ medI (xsF Feat.X v_1 sample i) ≤ 255 := by rw [hpv]; exact fun i hi => med_bd oka oks hnm okF_X hi
    have hmY : ∀ i : Nat, i < t.Feats.length → 0 ≤ medI (xsF Feat.Y v_1 sample i) ∧ medI (xsF Feat.Y v_1 sample i) ≤ 255 := by rw [hpv]; exact fun i hi => med_bd oka oks hnm okF_Y hi
    have had : ∀ i : Nat, adpF t sample band share i = ⟨towI (at_ t.Feats i).X (medI (xsF Feat.X v_1 sample i)) (at_ t.Base i).X share, towI (at_ t.Feats i).Y (medI (xsF Feat.Y v_1 sample i)) (at_ t.Base i).Y share, (at_ t.Feats i).D⟩ := by rw [hpv]; exact fun _ => rfl
    refine x_r [(6, .call [(true, .any), (true, .any), (true, .any)] true (slPair true v_1))] [0, 1, 3, 8, 9] [8] [.ptr false [Sv t.Label, slFeat false t.Base, slFeat false t.Feats, I t.Count], slFeat false sample, I share, .ref 8 0, slPair true v_1] [some (.box [Sv (⟨#[]⟩ : ByteArray), nilA, nilA, I 0])] [Con Tryz.prog 87 [slFeat false t.Feats, slFeat false sample, I band] true (slPair true v_1) ∧ True] ⟨⟨hc1, trivial⟩, trivial⟩ ?_
    refine xe_then ?_
    refine xR [(8, .call [(true, .any)] true (slFeat true t.Base)), (15, .new 10)] [0, 1, 3, 8, 9, 10] [8, 10] [.ptr false [Sv t.Label, slFeat false t.Base, slFeat false t.Feats, I t.Count], slFeat false sample, I share, .ref 8 0, slPair true v_1, .ref 10 0] [some (.box [Sv (⟨#[]⟩ : ByteArray), nilA, nilA, I 0]), some (.box [Sv t.Label, slFeat true t.Base, nilA, I (t.Count + 1)])] [Con Tryz.prog 85 [slFeat false t.Base] true (slFeat true t.Base) ∧ True, inR .i64 (t.Count + 1)] ⟨⟨(l24Copy_ok t.Base (by omega)), trivial⟩, (inR_i64 (by omega) (by omega)), trivial⟩ ?_
    refine x_seq ?_
    refine xR [] [0, 1, 3, 8, 9, 10, 11] [8, 10] [.ptr false [Sv t.Label, slFeat false t.Base, slFeat false t.Feats, I t.Count], slFeat false sample, I share, .ref 8 0, slPair true v_1, .ref 10 0, I 0] [some (.box [Sv (⟨#[]⟩ : ByteArray), nilA, nilA, I 0]), some (.box [Sv t.Label, slFeat true t.Base, nilA, I (t.Count + 1)])] [] trivial ?_
    refine x_block ?_
    refine x_nilC 10 2 802 3 (fun _ => []) rfl (by kernel_rfl) ?_
    refine x_weak [] (T := [(0, .ptr false [Sv t.Label, slFeat false t.Base, slFeat false t.Feats, I t.Count]), (1, slFeat false sample), (3, I share), (8, .ref 8 0), (9, slPair true v_1), (10, .ref 10 0), (11, I 0)]) (O := [(8, .box [Sv (⟨#[]⟩ : ByteArray), nilA, nilA, I 0]), (10, .box [Sv t.Label, slFeat true t.Base, .arr 802, I (t.Count + 1)]), (802, tAFeat ([] : List Feat))]) rfl (⟨.inl rfl, .inl rfl, .inl rfl, .inl rfl, .inl rfl, .inl rfl, .inl rfl, trivial⟩) (⟨.inl rfl, .inl rfl, .inr ⟨rfl, (by first | rfl | (simp; done) | (simp; omega) | omega), fun i_ hi_ => absurd hi_ (Nat.not_lt_zero _)⟩, trivial⟩) ?_
    refine x_loop (X := Int × (List Feat)) (fun x => mkS [(0, .ptr false [Sv t.Label, slFeat false t.Base, slFeat false t.Feats, I t.Count]), (1, slFeat false sample), (3, I share), (8, .ref 8 0), (9, slPair true v_1), (10, .ref 10 0), (11, I x.1)] [(8, .box [Sv (⟨#[]⟩ : ByteArray), nilA, nilA, I 0]), (10, .box [Sv t.Label, slFeat true t.Base, .arr 802, I (t.Count + 1)]), (802, tAFeat x.2)]) (fun x => (0 ≤ x.1 ∧ x.1 ≤ (t.Feats.length : Int)) ∧ (x.2 = adpN t sample band share x.1.toNat) ∧ True) (fun x => ((t.Feats.length : Int) - x.1).toNat) (0, ([] : List Feat)) rfl (show (0 ≤ (0 : Int) ∧ (0 : Int) ≤ (t.Feats.length : Int)) ∧ (([] : List Feat) = adpN t sample band share (0 : Int).toNat) ∧ True from ⟨(by omega), (by rfl), trivial⟩) (fun x hI => ?_)
    obtain ⟨i, fs⟩ := x
    obtain ⟨hi0, hfs, _⟩ : (0 ≤ i ∧ i ≤ (t.Feats.length : Int)) ∧ (fs = adpN t sample band share i.toNat) ∧ True := hI
    show XW _ _ _ _ (mkS [(0, .ptr false [Sv t.Label, slFeat false t.Base, slFeat false t.Feats, I t.Count]), (1, slFeat false sample), (3, I share), (8, .ref 8 0), (9, slPair true v_1), (10, .ref 10 0), (11, I i)] [(8, .box [Sv (⟨#[]⟩ : ByteArray), nilA, nilA, I 0]), (10, .box [Sv t.Label, slFeat true t.Base, .arr 802, I (t.Count + 1)]), (802, tAFeat fs)]) _ _
    refine x_seq ?_
    refine x_seq ?_
    by_cases h1 : i < (t.Feats.length : Int)
    ·have hi : i.toNat < t.Feats.length := by omega
     have hix : ((i.toNat : Nat) : Int) = i := by omega
     have hfo := okF_iff.1 (okFeats_at oka hi)
     have hbo := okF_iff.1 (okFeats_at okb (show i.toNat < t.Base.length by omega))
     have hfl : fs.length = i.toNat := by rw [hfs, adpN_len]
     refine x_r [(6, .dec true)] [0, 1, 3, 8, 9, 10, 11, 46] [8, 10, 802] [.ptr false [Sv t.Label, slFeat false t.Base, slFeat false t.Feats, I t.Count], slFeat false sample, I share, .ref 8 0, slPair true v_1, .ref 10 0, I i, Bv true] [some (.box [Sv (⟨#[]⟩ : ByteArray), nilA, nilA, I 0]), some (.box [Sv t.Label, slFeat true t.Base, .arr 802, I (t.Count + 1)]), some (tAFeat fs)] [i < (t.Feats.length : Int)] ⟨h1, trivial⟩ ?_
     refine xe_then ?_
     refine x_true rfl ?_
     refine x_skip ?_
     refine xe_then ?_
     refine x_seq ?_
     refine x_block ?_
     refine xR [(0, .new 49)] [0, 1, 3, 8, 9, 10, 11, 12] [8, 10, 49, 802] [.ptr false [Sv t.Label, slFeat false t.Base, slFeat false t.Feats, I t.Count], slFeat false sample, I share, .ref 8 0, slPair true v_1, .ref 10 0, I i, .arr 49] [some (.box [Sv (⟨#[]⟩ : ByteArray), nilA, nilA, I 0]), some (.box [Sv t.Label, slFeat true t.Base, .arr 802, I (t.Count + 1)]), some (.arr 1 0 (litF [] 1)), some (tAFeat fs)] [] trivial ?_
     refine xR [(0, .new 50)] [0, 1, 3, 8, 9, 10, 11, 12, 13] [8, 10, 49, 50, 802] [.ptr false [Sv t.Label, slFeat false t.Base, slFeat false t.Feats, I t.Count], slFeat false sample, I share, .ref 8 0, slPair true v_1, .ref 10 0, I i, .arr 49, .arr 50] [some (.box [Sv (⟨#[]⟩ : ByteArray), nilA, nilA, I 0]), some (.box [Sv t.Label, slFeat true t.Base, .arr 802, I (t.Count + 1)]), some (.arr 1 0 (litF [] 1)), some (.arr 1 0 (litF [] 1)), some (tAFeat fs)] [] trivial ?_
     refine x_seq ?_
     refine xR [] [0, 1, 3, 8, 9, 10, 11, 12, 13, 14] [8, 10, 49, 50, 802] [.ptr false [Sv t.Label, slFeat false t.Base, slFeat false t.Feats, I t.Count], slFeat false sample, I share, .ref 8 0, slPair true v_1, .ref 10 0, I i, .arr 49, .arr 50, I 0] [some (.box [Sv (⟨#[]⟩ : ByteArray), nilA, nilA, I 0]), some (.box [Sv t.Label, slFeat true t.Base, .arr 802, I (t.Count + 1)]), some (.arr 1 0 (litF [] 1)), some (.arr 1 0 (litF [] 1)), some (tAFeat fs)] [] trivial ?_
     refine x_block ?_
     refine x_weak [] (T := [(0, .ptr false [Sv t.Label, slFeat false t.Base, slFeat false t.Feats, I t.Count]), (1, slFeat false sample), (3, I share), (8, .ref 8 0), (9, slPair true v_1), (10, .ref 10 0), (11, I i), (12, .arr 49), (13, .arr 50), (14, I 0)]) (O := [(8, .box [Sv (⟨#[]⟩ : ByteArray), nilA, nilA, I 0]), (10, .box [Sv t.Label, slFeat true t.Base, .arr 802, I (t.Count + 1)]), (49, tAI ([] : List Int)), (50, tAI ([] : List Int)), (802, tAFeat fs)]) rfl (⟨.inl rfl, .inl rfl, .inl rfl, .inl rfl, .inl rfl, .inl rfl, .inl rfl, .inl rfl, .inl rfl, .inl rfl, trivial⟩) (⟨.inl rfl, .inl rfl, .inr ⟨rfl, (by first | rfl | (simp; done) | (simp; omega) | omega), fun i_ hi_ => absurd hi_ (Nat.not_lt_zero _)⟩, .inr ⟨rfl, (by first | rfl | (simp; done) | (simp; omega) | omega), fun i_ hi_ => absurd hi_ (Nat.not_lt_zero _)⟩, .inl rfl, trivial⟩) ?_
     refine x_loop (X := (List Int) × (List Int) × Int) (fun x => mkS [(0, .ptr false [Sv t.Label, slFeat false t.Base, slFeat false t.Feats, I t.Count]), (1, slFeat false sample), (3, I share), (8, .ref 8 0), (9, slPair true v_1), (10, .ref 10 0), (11, I i), (12, .arr 49), (13, .arr 50), (14, I x.2.2)] [(8, .box [Sv (⟨#[]⟩ : ByteArray), nilA, nilA, I 0]), (10, .box [Sv t.Label, slFeat true t.Base, .arr 802, I (t.Count + 1)]), (49, tAI x.1), (50, tAI x.2.1), (802, tAFeat fs)]) (fun x => (0 ≤ x.2.2 ∧ x.2.2 ≤ (v_1.length : Int)) ∧ (x.1 = xsF Feat.X (v_1.take x.2.2.toNat) sample i) ∧ (x.2.1 = xsF Feat.Y (v_1.take x.2.2.toNat) sample i) ∧ True) (fun x => ((v_1.length : Int) - x.2.2).toNat) (([] : List Int), ([] : List Int), 0) rfl (show (0 ≤ (0 : Int) ∧ (0 : Int) ≤ (v_1.length : Int)) ∧ (([] : List Int) = xsF Feat.X (v_1.take (0 : Int).toNat) sample i) ∧ (([] : List Int) = xsF Feat.Y (v_1.take (0 : Int).toNat) sample i) ∧ True from ⟨(by omega), (by rfl), (by rfl), trivial⟩) (fun x hI => ?_)
     obtain ⟨xs, ys, p⟩ := x
     obtain ⟨hp0, hx0, hy0, _⟩ : (0 ≤ p ∧ p ≤ (v_1.length : Int)) ∧ (xs = xsF Feat.X (v_1.take p.toNat) sample i) ∧ (ys = xsF Feat.Y (v_1.take p.toNat) sample i) ∧ True := hI
     show XW _ _ _ _ (mkS [(0, .ptr false [Sv t.Label, slFeat false t.Base, slFeat false t.Feats, I t.Count]), (1, slFeat false sample), (3, I share), (8, .ref 8 0), (9, slPair true v_1), (10, .ref 10 0), (11, I i), (12, .arr 49), (13, .arr 50), (14, I p)] [(8, .box [Sv (⟨#[]⟩ : ByteArray), nilA, nilA, I 0]), (10, .box [Sv t.Label, slFeat true t.Base, .arr 802, I (t.Count + 1)]), (49, tAI xs), (50, tAI ys), (802, tAFeat fs)]) _ _
     refine x_seq ?_
     refine x_seq ?_
     by_cases h2 : p < (v_1.length : Int)
     ·have hp : p.toNat < v_1.length := by omega
      have hpp := hpa p.toNat hp
      have hxl := xsF_le Feat.X (v_1.take p.toNat) sample i
      have hyl := xsF_le Feat.Y (v_1.take p.toNat) sample i
      rw [← hx0, List.length_take] at hxl
      rw [← hy0, List.length_take] at hyl
      have hs1 := okF_iff.1 (okFeats_at oks (show (at_ v_1 p.toNat).J.toNat < sample.length by omega))
      refine x_r [(3, .dec true)] [0, 1, 3, 8, 9, 10, 11, 12, 13, 14, 54] [8, 10, 49, 50, 802] [.ptr false [Sv t.Label, slFeat false t.Base, slFeat false t.Feats, I t.Count], slFeat false sample, I share, .ref 8 0, slPair true v_1, .ref 10 0, I i, .arr 49, .arr 50, I p, Bv true] [some (.box [Sv (⟨#[]⟩ : ByteArray), nilA, nilA, I 0]), some (.box [Sv t.Label, slFeat true t.Base, .arr 802, I (t.Count + 1)]), some (tAI xs), some (tAI ys), some (tAFeat fs)] [p < (v_1.length : Int)] ⟨h2, trivial⟩ ?_
      refine xe_then ?_
      refine x_true rfl ?_
      refine x_skip ?_
      refine xe_then ?_
      refine x_seq ?_
      refine x_block ?_
      refine x_seq ?_
      by_cases h3 : ((at_ v_1 p.toNat).I) = i
      ·refine x_r [(6, .dec true)] [0, 1, 3, 8, 9, 10, 11, 12, 13, 14, 63] [8, 10, 49, 50, 802] [.ptr false [Sv t.Label, slFeat false t.Base, slFeat false t.Feats, I t.Count], slFeat false sample, I share, .ref 8 0, slPair true v_1, .ref 10 0, I i, .arr 49, .arr 50, I p, Bv true] [some (.box [Sv (⟨#[]⟩ : ByteArray), nilA, nilA, I 0]), some (.box [Sv t.Label, slFeat true t.Base, .arr 802, I (t.Count + 1)]), some (tAI xs), some (tAI ys), some (tAFeat fs)] [(0 : Int) ≤ p ∧ p < (v_1.length : Int), ((at_ v_1 p.toNat).I) = i] ⟨⟨(by omega), (by omega)⟩, h3, trivial⟩ ?_
       refine xe_then ?_
       refine x_true rfl ?_
       refine xR [(10, .new 74), (11, .new 75)] [0, 1, 3, 8, 9, 10, 11, 12, 13, 14] [8, 10, 50, 75, 802] [.ptr false [Sv t.Label, slFeat false t.Base, slFeat false t.Feats, I t.Count], slFeat false sample, I share, .ref 8 0, slPair true v_1, .ref 10 0, I i, .arr 75, .arr 50, I p] [some (.box [Sv (⟨#[]⟩ : ByteArray), nilA, nilA, I 0]), some (.box [Sv t.Label, slFeat true t.Base, .arr 802, I (t.Count + 1)]), some (tAI ys), some (.arr 1 (xs.length + 1) (catF xs.length (fI xs) (litF [I ((at_ sample (((at_ v_1 p.toNat).J).toNat)).X)] 1))), some (tAFeat fs)] [(0 : Int) ≤ p ∧ p < (v_1.length : Int), (0 : Int) ≤ ((at_ v_1 p.toNat).J) ∧ ((at_ v_1 p.toNat).J) < (sample.length : Int), (xs.length + 1) * 8 ≤ 140737488355328] ⟨⟨(by omega), (by omega)⟩, ⟨(by omega), (by omega)⟩, (by omega), trivial⟩ ?_
       refine x_r [(10, .new 86), (11, .new 87)] [0, 1, 3, 8, 9, 10, 11, 12, 13, 14] [8, 10, 75, 87, 802] [.ptr false [Sv t.Label, slFeat false t.Base, slFeat false t.Feats, I t.Count], slFeat false sample, I share, .ref 8 0, slPair true v_1, .ref 10 0, I i, .arr 75, .arr 87, I p] [some (.box [Sv (⟨#[]⟩ : ByteArray), nilA, nilA, I 0]), some (.box [Sv t.Label, slFeat true t.Base, .arr 802, I (t.Count + 1)]), some (.arr 1 (xs.length + 1) (catF xs.length (fI xs) (litF [I ((at_ sample (((at_ v_1 p.toNat).J).toNat)).X)] 1))), some (.arr 1 (ys.length + 1) (catF ys.length (fI ys) (litF [I ((at_ sample (((at_ v_1 p.toNat).J).toNat)).Y)] 1))), some (tAFeat fs)] [(0 : Int) ≤ p ∧ p < (v_1.length : Int), (0 : Int) ≤ ((at_ v_1 p.toNat).J) ∧ ((at_ v_1 p.toNat).J) < (sample.length : Int), (ys.length + 1) * 8 ≤ 140737488355328] ⟨⟨(by omega), (by omega)⟩, ⟨(by omega), (by omega)⟩, (by omega), trivial⟩ ?_
       refine xe_block 3 ?_
       refine xe_then ?_
       refine x_r [] [0, 1, 3, 8, 9, 10, 11, 12, 13, 14] [8, 10, 75, 87, 802] [.ptr false [Sv t.Label, slFeat false t.Base, slFeat false t.Feats, I t.Count], slFeat false sample, I share, .ref 8 0, slPair true v_1, .ref 10 0, I i, .arr 75, .arr 87, I (p + 1)] [some (.box [Sv (⟨#[]⟩ : ByteArray), nilA, nilA, I 0]), some (.box [Sv t.Label, slFeat true t.Base, .arr 802, I (t.Count + 1)]), some (.arr 1 (xs.length + 1) (catF xs.length (fI xs) (litF [I ((at_ sample (((at_ v_1 p.toNat).J).toNat)).X)] 1))), some (.arr 1 (ys.length + 1) (catF ys.length (fI ys) (litF [I ((at_ sample (((at_ v_1 p.toNat).J).toNat)).Y)] 1))), some (tAFeat fs)] [inR .i64 (p + 1)] ⟨(inR_i64 (by omega) (by omega)), trivial⟩ ?_
       refine xe_weak [(49, 75), (50, 87)] (T := [(0, .ptr false [Sv t.Label, slFeat false t.Base, slFeat false t.Feats, I t.Count]), (1, slFeat false sample), (3, I share), (8, .ref 8 0), (9, slPair true v_1), (10, .ref 10 0), (11, I i), (12, .arr 49), (13, .arr 50), (14, I (p + 1))]) (O := [(8, .box [Sv (⟨#[]⟩ : ByteArray), nilA, nilA, I 0]), (10, .box [Sv t.Label, slFeat true t.Base, .arr 802, I (t.Count + 1)]), (49, tAI (xs ++ [(at_ sample (((at_ v_1 p.toNat).J).toNat)).X])), (50, tAI (ys ++ [(at_ sample (((at_ v_1 p.toNat).J).toNat)).Y])), (802, tAFeat fs)]) rfl (⟨.inl rfl, .inl rfl, .inl rfl, .inl rfl, .inl rfl, .inl rfl, .inl rfl, .inl rfl, .inl rfl, .inl rfl, trivial⟩) (⟨.inl rfl, .inl rfl, .inr ⟨rfl, (by first | rfl | (simp; done) | (simp; omega) | omega), fun i_ hi_ => .inl (cat_snoc (enc := cI) (xs := xs) rfl i_ hi_)⟩, .inr ⟨rfl, (by first | rfl | (simp; done) | (simp; omega) | omega), fun i_ hi_ => .inl (cat_snoc (enc := cI) (xs := ys) rfl i_ hi_)⟩, .inl rfl, trivial⟩) (xe_again ((xs ++ [(at_ sample (((at_ v_1 p.toNat).J).toNat)).X]), (ys ++ [(at_ sample (((at_ v_1 p.toNat).J).toNat)).Y]), (p + 1)) rfl (show (0 ≤ (p + 1) ∧ (p + 1) ≤ (v_1.length : Int)) ∧ ((xs ++ [(at_ sample (((at_ v_1 p.toNat).J).toNat)).X]) = xsF Feat.X (v_1.take (p + 1).toNat) sample i) ∧ ((ys ++ [(at_ sample (((at_ v_1 p.toNat).J).toNat)).Y]) = xsF Feat.Y (v_1.take (p + 1).toNat) sample i) ∧ True from ⟨(by omega), (by rw [show (p + 1).toNat = p.toNat + 1 from by omega]; first | (rw [xsF_yes hp (by assumption), ← hx0]; done) | (rw [xsF_no hp (by assumption)]; exact hx0)), (by rw [show (p + 1).toNat = p.toNat + 1 from by omega]; first | (rw [xsF_yes hp (by assumption), ← hy0]; done) | (rw [xsF_no hp (by assumption)]; exact hy0)), trivial⟩) (by first | (show (((v_1.length : Int) - (p + 1)).toNat : Nat) < ((v_1.length : Int) - p).toNat; omega) | (dsimp only; omega)))
      refine x_r [(6, .dec false)] [0, 1, 3, 8, 9, 10, 11, 12, 13, 14, 63] [8, 10, 49, 50, 802] [.ptr false [Sv t.Label, slFeat false t.Base, slFeat false t.Feats, I t.Count], slFeat false sample, I share, .ref 8 0, slPair true v_1, .ref 10 0, I i, .arr 49, .arr 50, I p, Bv false] [some (.box [Sv (⟨#[]⟩ : ByteArray), nilA, nilA, I 0]), some (.box [Sv t.Label, slFeat true t.Base, .arr 802, I (t.Count + 1)]), some (tAI xs), some (tAI ys), some (tAFeat fs)] [(0 : Int) ≤ p ∧ p < (v_1.length : Int), ¬ (((at_ v_1 p.toNat).I) = i)] ⟨⟨(by omega), (by omega)⟩, h3, trivial⟩ ?_
      refine xe_then ?_
      refine x_false rfl ?_
      refine x_skip ?_
      refine xe_block 3 ?_
      refine xe_then ?_
      refine x_r [] [0, 1, 3, 8, 9, 10, 11, 12, 13, 14] [8, 10, 49, 50, 802] [.ptr false [Sv t.Label, slFeat false t.Base, slFeat false t.Feats, I t.Count], slFeat false sample, I share, .ref 8 0, slPair true v_1, .ref 10 0, I i, .arr 49, .arr 50, I (p + 1)] [some (.box [Sv (⟨#[]⟩ : ByteArray), nilA, nilA, I 0]), some (.box [Sv t.Label, slFeat true t.Base, .arr 802, I (t.Count + 1)]), some (tAI xs), some (tAI ys), some (tAFeat fs)] [inR .i64 (p + 1)] ⟨(inR_i64 (by omega) (by omega)), trivial⟩ ?_
      exact xe_again (xs, ys, (p + 1)) rfl (show (0 ≤ (p + 1) ∧ (p + 1) ≤ (v_1.length : Int)) ∧ (xs = xsF Feat.X (v_1.take (p + 1).toNat) sample i) ∧ (ys = xsF Feat.Y (v_1.take (p + 1).toNat) sample i) ∧ True from ⟨(by omega), (by rw [show (p + 1).toNat = p.toNat + 1 from by omega]; first | (rw [xsF_yes hp (by assumption), ← hx0]; done) | (rw [xsF_no hp (by assumption)]; exact hx0)), (by rw [show (p + 1).toNat = p.toNat + 1 from by omega]; first | (rw [xsF_yes hp (by assumption), ← hy0]; done) | (rw [xsF_no hp (by assumption)]; exact hy0)), trivial⟩) (by first | (show (((v_1.length : Int) - (p + 1)).toNat : Nat) < ((v_1.length : Int) - p).toNat; omega) | (dsimp only; omega))
     have hpe : p.toNat = v_1.length := by omega
     have hxe : xs = xsF Feat.X v_1 sample i := by rw [hx0, hpe, List.take_of_length_le (Nat.le_refl _)]
     have hye : ys = xsF Feat.Y v_1 sample i := by rw [hy0, hpe, List.take_of_length_le (Nat.le_refl _)]
     have hxq := hxp Feat.X i.toNat hi
     have hyq := hxp Feat.Y i.toNat hi
     rw [hix, ← hxe] at hxq
     rw [hix, ← hye] at hyq
     refine x_r [(3, .dec false)] [0, 1, 3, 8, 9, 10, 11, 12, 13, 14, 54] [8, 10, 49, 50, 802] [.ptr false [Sv t.Label, slFeat false t.Base, slFeat false t.Feats, I t.Count], slFeat false sample, I share, .ref 8 0, slPair true v_1, .ref 10 0, I i, .arr 49, .arr 50, I p, Bv false] [some (.box [Sv (⟨#[]⟩ : ByteArray), nilA, nilA, I 0]), some (.box [Sv t.Label, slFeat true t.Base, .arr 802, I (t.Count + 1)]), some (tAI xs), some (tAI ys), some (tAFeat fs)] [¬ (p < (v_1.length : Int))] ⟨h2, trivial⟩ ?_
     refine xe_then ?_
     refine x_false rfl ?_
     refine x_exit ?_
     refine xe_exit_then ?_
     refine xe_loop_exit ?_
     refine xe_exit_same ?_
     refine xe_then ?_
     refine xR [(7, .new 15)] [0, 1, 3, 8, 9, 10, 11, 12, 13, 15] [8, 10, 15, 49, 50, 802] [.ptr false [Sv t.Label, slFeat false t.Base, slFeat false t.Feats, I t.Count], slFeat false sample, I share, .ref 8 0, slPair true v_1, .ref 10 0, I i, .arr 49, .arr 50, .ref 15 0] [some (.box [Sv (⟨#[]⟩ : ByteArray), nilA, nilA, I 0]), some (.box [Sv t.Label, slFeat true t.Base, .arr 802, I (t.Count + 1)]), some (bxFeat (at_ t.Feats i.toNat)), some (tAI xs), some (tAI ys), some (tAFeat fs)] [(0 : Int) ≤ i ∧ i < (t.Feats.length : Int)] ⟨⟨(by omega), (by omega)⟩, trivial⟩ ?_
     refine x_seq ?_
     obtain ⟨v_2, hx2_0, hc2⟩ := l24Median_ok xs (by omega)
     have hMX : medI (xsF Feat.X v_1 sample i) = v_2 := by rw [← hxe]; exact hx2_0.symm
     have hmX2 : 0 ≤ v_2 ∧ v_2 ≤ 255 := by have q := hmX i.toNat hi; rw [hix, ← hxe] at q; rw [hx2_0]; exact q
     refine x_r [(11, .call [(false, slI false xs)] true (I v_2)), (13, .call [(true, .any), (true, .any), (true, .any), (true, .any)] true (I (towI ((at_ t.Feats i.toNat).X) v_2 ((at_ t.Base i.toNat).X) share)))] [0, 1, 3, 8, 9, 10, 11, 13, 15, 16] [8, 10, 15, 50, 802] [.ptr false [Sv t.Label, slFeat false t.Base, slFeat false t.Feats, I t.Count], slFeat false sample, I share, .ref 8 0, slPair true v_1, .ref 10 0, I i, .arr 50, .ref 15 0, I (towI ((at_ t.Feats i.toNat).X) v_2 ((at_ t.Base i.toNat).X) share)] [some (.box [Sv (⟨#[]⟩ : ByteArray), nilA, nilA, I 0]), some (.box [Sv t.Label, slFeat true t.Base, .arr 802, I (t.Count + 1)]), some (bxFeat (at_ t.Feats i.toNat)), some (tAI ys), some (tAFeat fs)] [(0 : Int) ≤ i ∧ i < (t.Base.length : Int), Con Tryz.prog 89 [slI false xs] true (I v_2) ∧ ((false = true → true = true) ∧ 1 = 1 ∧ xs.length = xs.length ∧ ∀ i_, i_ < xs.length → (fI xs) i_ = (fI xs) i_ ∨ (AV.idsL ((fI xs) i_) = [] ∧ leL (fun _ => none) false ((fI xs) i_) ((fI xs) i_))) ∧ True, Con Tryz.prog 88 [I ((at_ t.Feats i.toNat).X), I ((at_ t.Base i.toNat).X), I v_2, I share] true (I (towI ((at_ t.Feats i.toNat).X) v_2 ((at_ t.Base i.toNat).X) share)) ∧ True] ⟨⟨(by omega), (by omega)⟩, ⟨hc2, ⟨(fun h => by cases h), rfl, rfl, fun i _ => .inl rfl⟩, trivial⟩, ⟨(l24Move_ok ((at_ t.Feats i.toNat).X) ((at_ t.Base i.toNat).X) v_2 share (by omega) (by omega) (by omega) (by omega)), trivial⟩, trivial⟩ ?_
     refine xe_then ?_
     refine x_seq ?_
     obtain ⟨v_3, hx3_0, hc3⟩ := l24Median_ok ys (by omega)
     have hMY : medI (xsF Feat.Y v_1 sample i) = v_3 := by rw [← hye]; exact hx3_0.symm
     have hmY2 : 0 ≤ v_3 ∧ v_3 ≤ 255 := by have q := hmY i.toNat hi; rw [hix, ← hye] at q; rw [hx3_0]; exact q
     refine x_r [(11, .call [(false, slI false ys)] true (I v_3)), (13, .call [(true, .any), (true, .any), (true, .any), (true, .any)] true (I (towI ((at_ t.Feats i.toNat).Y) v_3 ((at_ t.Base i.toNat).Y) share)))] [0, 1, 3, 8, 9, 10, 11, 15, 16, 17] [8, 10, 15, 802] [.ptr false [Sv t.Label, slFeat false t.Base, slFeat false t.Feats, I t.Count], slFeat false sample, I share, .ref 8 0, slPair true v_1, .ref 10 0, I i, .ref 15 0, I (towI ((at_ t.Feats i.toNat).X) v_2 ((at_ t.Base i.toNat).X) share), I (towI ((at_ t.Feats i.toNat).Y) v_3 ((at_ t.Base i.toNat).Y) share)] [some (.box [Sv (⟨#[]⟩ : ByteArray), nilA, nilA, I 0]), some (.box [Sv t.Label, slFeat true t.Base, .arr 802, I (t.Count + 1)]), some (bxFeat (at_ t.Feats i.toNat)), some (tAFeat fs)] [(0 : Int) ≤ i ∧ i < (t.Base.length : Int), Con Tryz.prog 89 [slI false ys] true (I v_3) ∧ ((false = true → true = true) ∧ 1 = 1 ∧ ys.length = ys.length ∧ ∀ i_, i_ < ys.length → (fI ys) i_ = (fI ys) i_ ∨ (AV.idsL ((fI ys) i_) = [] ∧ leL (fun _ => none) false ((fI ys) i_) ((fI ys) i_))) ∧ True, Con Tryz.prog 88 [I ((at_ t.Feats i.toNat).Y), I ((at_ t.Base i.toNat).Y), I v_3, I share] true (I (towI ((at_ t.Feats i.toNat).Y) v_3 ((at_ t.Base i.toNat).Y) share)) ∧ True] ⟨⟨(by omega), (by omega)⟩, ⟨hc3, ⟨(fun h => by cases h), rfl, rfl, fun i _ => .inl rfl⟩, trivial⟩, ⟨(l24Move_ok ((at_ t.Feats i.toNat).Y) ((at_ t.Base i.toNat).Y) v_3 share (by omega) (by omega) (by omega) (by omega)), trivial⟩, trivial⟩ ?_
     refine xe_then ?_
     refine x_r [(7, .new 130), (8, .new 131)] [0, 1, 3, 8, 9, 10, 11] [8, 10, 131] [.ptr false [Sv t.Label, slFeat false t.Base, slFeat false t.Feats, I t.Count], slFeat false sample, I share, .ref 8 0, slPair true v_1, .ref 10 0, I i] [some (.box [Sv (⟨#[]⟩ : ByteArray), nilA, nilA, I 0]), some (.box [Sv t.Label, slFeat true t.Base, .arr 131, I (t.Count + 1)]), some (.arr 3 (fs.length + 1) (catF fs.length (fFeat fs) (litF [I (towI ((at_ t.Feats i.toNat).X) v_2 ((at_ t.Base i.toNat).X) share), I (towI ((at_ t.Feats i.toNat).Y) v_3 ((at_ t.Base i.toNat).Y) share), I ((at_ t.Feats i.toNat).D)] 3)))] [(fs.length + 1) * 24 ≤ 140737488355328] ⟨(by omega), trivial⟩ ?_
     refine xe_block 1 ?_
     refine xe_then ?_
     refine x_r [] [0, 1, 3, 8, 9, 10, 11] [8, 10, 131] [.ptr false [Sv t.Label, slFeat false t.Base, slFeat false t.Feats, I t.Count], slFeat false sample, I share, .ref 8 0, slPair true v_1, .ref 10 0, I (i + 1)] [some (.box [Sv (⟨#[]⟩ : ByteArray), nilA, nilA, I 0]), some (.box [Sv t.Label, slFeat true t.Base, .arr 131, I (t.Count + 1)]), some (.arr 3 (fs.length + 1) (catF fs.length (fFeat fs) (litF [I (towI ((at_ t.Feats i.toNat).X) v_2 ((at_ t.Base i.toNat).X) share), I (towI ((at_ t.Feats i.toNat).Y) v_3 ((at_ t.Base i.toNat).Y) share), I ((at_ t.Feats i.toNat).D)] 3)))] [inR .i64 (i + 1)] ⟨(inR_i64 (by omega) (by omega)), trivial⟩ ?_
     refine xe_weak [(802, 131)] (T := [(0, .ptr false [Sv t.Label, slFeat false t.Base, slFeat false t.Feats, I t.Count]), (1, slFeat false sample), (3, I share), (8, .ref 8 0), (9, slPair true v_1), (10, .ref 10 0), (11, I (i + 1))]) (O := [(8, .box [Sv (⟨#[]⟩ : ByteArray), nilA, nilA, I 0]), (10, .box [Sv t.Label, slFeat true t.Base, .arr 802, I (t.Count + 1)]), (802, tAFeat (fs ++ [(Feat.mk (towI ((at_ t.Feats i.toNat).X) v_2 ((at_ t.Base i.toNat).X) share) (towI ((at_ t.Feats i.toNat).Y) v_3 ((at_ t.Base i.toNat).Y) share) ((at_ t.Feats i.toNat).D))]))]) rfl (⟨.inl rfl, .inl rfl, .inl rfl, .inl rfl, .inl rfl, .inl rfl, .inl rfl, trivial⟩) (⟨.inl rfl, .inl rfl, .inr ⟨rfl, (by first | rfl | (simp; done) | (simp; omega) | omega), fun i_ hi_ => .inl (cat_snoc (enc := cFeat) (xs := fs) rfl i_ hi_)⟩, trivial⟩) (xe_again ((i + 1), (fs ++ [(Feat.mk (towI ((at_ t.Feats i.toNat).X) v_2 ((at_ t.Base i.toNat).X) share) (towI ((at_ t.Feats i.toNat).Y) v_3 ((at_ t.Base i.toNat).Y) share) ((at_ t.Feats i.toNat).D))])) rfl (show (0 ≤ (i + 1) ∧ (i + 1) ≤ (t.Feats.length : Int)) ∧ ((fs ++ [(Feat.mk (towI ((at_ t.Feats i.toNat).X) v_2 ((at_ t.Base i.toNat).X) share) (towI ((at_ t.Feats i.toNat).Y) v_3 ((at_ t.Base i.toNat).Y) share) ((at_ t.Feats i.toNat).D))]) = adpN t sample band share (i + 1).toNat) ∧ True from ⟨(by omega), (by (rw [show (i + 1).toNat = i.toNat + 1 from by omega, hfs]; exact adpN_succ (by rw [had, hix, hMX, hMY]))), trivial⟩) (by first | (show (((t.Feats.length : Int) - (i + 1)).toNat : Nat) < ((t.Feats.length : Int) - i).toNat; omega) | (dsimp only; omega)))
    have hie : i.toNat = t.Feats.length := by omega
    refine x_r [(6, .dec false)] [0, 1, 3, 8, 9, 10, 11, 46] [8, 10, 802] [.ptr false [Sv t.Label, slFeat false t.Base, slFeat false t.Feats, I t.Count], slFeat false sample, I share, .ref 8 0, slPair true v_1, .ref 10 0, I i, Bv false] [some (.box [Sv (⟨#[]⟩ : ByteArray), nilA, nilA, I 0]), some (.box [Sv t.Label, slFeat true t.Base, .arr 802, I (t.Count + 1)]), some (tAFeat fs)] [¬ (i < (t.Feats.length : Int))] ⟨h1, trivial⟩ ?_
    refine xe_then ?_
    refine x_false rfl ?_
    refine x_exit ?_
    refine xe_exit_then ?_
    refine xe_loop_exit ?_
    refine xe_exit_same ?_
    refine xe_then ?_
    refine xR [] [8] [8, 802] [.ref 8 0] [some (.box [Sv t.Label, slFeat true t.Base, .arr 802, I (t.Count + 1)]), some (tAFeat fs)] [] trivial ?_
    refine x_ret ?_
    refine xe_end (Trained.mk t.Label t.Base fs (t.Count + 1)) (show ((Trained.mk t.Label t.Base fs (t.Count + 1)) = adpT t sample band share) ∧ (True) from ⟨(by (unfold adpT; rw [hfs, hie])), trivial⟩) (trivial) (.agg [Sv t.Label, slFeat true t.Base, .arr 802, I (t.Count + 1)]) (by kernel_rfl) (.inr ⟨rfl, ⟨⟨(fun _ => rfl), rfl, rfl, fun i _ => .inl rfl⟩, ⟨⟨(fun _ => rfl), rfl, rfl, fun i _ => .inl rfl⟩, ⟨rfl, rfl⟩⟩⟩⟩) (fun _ => rfl) (fun _ => (by simp [tagged, taggedL, tagFeat]))
  obtain ⟨v, ⟨hh0, _⟩, hc⟩ := hh
  exact ⟨v, hh0, hc⟩


-- spec.l24Start
theorem l24Start_ok (label : ByteArray) (feats : List Feat) (hl : feats.length ≤ 72) : Con Tryz.prog 52 [Sv label, slFeat false feats] true (agTrainedT (Trained.mk label feats feats 0)) := by
  refine fn_ok (fn := Tryz.f52) (nt := 11) Tryz.func52 rfl rfl rfl rfl (by simp [taggedL, tagged, tagFeat]) fun B hB => ?_
  refine aw_lens (x := slFeat false feats) 1 rfl (fun len_feats => ?_)
  simp [LenOK, LenL, cFeat, fFeat, slFeat] at len_feats
  refine aR [(0, .new 4)] [0, 1, 4] [4] [Sv label, slFeat false feats, .ref 4 0] [some (.box [Sv (⟨#[]⟩ : ByteArray), nilA, nilA, I 0])] [] hB trivial ?_
  refine aR [(2, .call [(true, .any)] true (slFeat true feats)), (4, .call [(true, .any)] true (slFeat true feats))] [4] [4] [.ref 4 0] [some (.box [Sv label, slFeat true feats, slFeat true feats, I 0])] [Con Tryz.prog 85 [slFeat false feats] true (slFeat true feats) ∧ True, Con Tryz.prog 85 [slFeat false feats] true (slFeat true feats) ∧ True] hB ⟨⟨(l24Copy_ok feats hl), trivial⟩, ⟨(l24Copy_ok feats hl), trivial⟩, trivial⟩ ?_
  refine aw_ret ?_
  refine ae_ret hB (.agg [Sv label, slFeat true feats, slFeat true feats, I 0]) (by kernel_rfl) (.inr ⟨(by first | rfl | (simp [valOf]; done) | (simp [valOf]; omega)), ⟨⟨(fun _ => rfl), rfl, (by first | rfl | (simp; done) | (simp; omega) | omega), fun i_ hi_ => .inl (by first | rfl | fail)⟩, ⟨⟨(fun _ => rfl), rfl, (by first | rfl | (simp; done) | (simp; omega) | omega), fun i_ hi_ => .inl (by first | rfl | fail)⟩, ⟨(by first | rfl | (simp [valOf]; done) | (simp [valOf]; omega)), rfl⟩⟩⟩⟩) rfl (fun _ => (by simp [tagged, taggedL, tagFeat]))


/-- The string with these bytes. -/
def strB (xs : List Int) : ByteArray := ⟨(xs.map fun n => UInt8.ofNat n.toNat).toArray⟩
theorem strB_size (xs : List Int) : (strB xs).size = xs.length := by simp [strB, ByteArray.size]
theorem strB_at {xs : List Int} {i : Nat} (h : i < xs.length) (hb : 0 ≤ at_ xs i ∧ at_ xs i ≤ 255) : bAt (strB xs) i = at_ xs i := by
  have e : (strB xs).data.toList[i]? = some (UInt8.ofNat (at_ xs i).toNat) := by simp [strB, at_, List.getElem?_eq_getElem h]
  rw [bAt, List.getD_eq_getElem?_getD, e]
  simp
  omega
theorem strB_ok' {xs : List Int} (h : ∀ x ∈ xs, 0 ≤ x ∧ x ≤ 255) {n : Nat} {f : Nat → List AV} (hn : n = xs.length) (hf : ∀ i, i < xs.length → f i = fU8 xs i ∨ False) : (strB xs).size = n ∧ ∀ i, i < n → f i = byteF (strB xs) i := by
  subst hn
  refine ⟨strB_size xs, fun i hi => ?_⟩
  rw [(hf i hi).resolve_right id]
  unfold byteF
  rw [strB_at hi (h _ (at_mem hi))]
  rfl
theorem strB_ok {xs : List Int} (h : ∀ x ∈ xs, 0 ≤ x ∧ x ≤ 255) : (strB xs).size = xs.length ∧ ∀ i, i < xs.length → fU8 xs i = byteF (strB xs) i := strB_ok' h rfl fun i _ => .inl rfl
/-- A string's bytes. -/
def bytesL (s : ByteArray) : List Int := s.data.toList.map fun b => (b.toNat : Int)
theorem bytesL_len (s : ByteArray) : (bytesL s).length = s.size := by unfold bytesL; rw [List.length_map, Array.length_toList]; rfl
theorem bytesL_at {s : ByteArray} (i : Nat) (h : i < (bytesL s).length) : byteF s i = fU8 (bytesL s) i := by
  unfold byteF fU8 cU8
  have h' : i < s.data.toList.length := by simpa [bytesL] using h
  congr 3
  simp only [bAt, at_, bytesL, List.getD_eq_getElem?_getD, List.getElem?_map, List.getElem?_eq_getElem h', Option.map_some, Option.getD_some]

/-- The text that marks a place. -/
def mkD : Nat → Int → ByteArray → ByteArray
  | 0, _, out => out
  | n + 1, k, out => if 0 < k then mkD n (k / 10) (strB [48 + k % 10] ++ out) else out
theorem mkD_neg (n : Nat) {k : Int} (h : ¬ 0 < k) (out : ByteArray) : mkD n k out = out := by cases n with | zero => rfl | succ n => exact if_neg h
theorem mkD_any : ∀ (n m : Nat) (k : Int) (out : ByteArray), k.toNat ≤ n → k.toNat ≤ m → mkD n k out = mkD m k out
  | 0, m, k, out, h1, h2 => (mkD_neg 0 (by omega) _).trans (mkD_neg m (by omega) _).symm
  | n + 1, 0, k, out, h1, h2 => (mkD_neg (n + 1) (by omega) _).trans (mkD_neg 0 (by omega) _).symm
  | n + 1, m + 1, k, out, h1, h2 => by
    by_cases h : 0 < k
    · simp only [mkD, if_pos h]; exact mkD_any n m _ _ (by omega) (by omega)
    · rw [mkD_neg _ h, mkD_neg _ h]
theorem mkD_step {k : Int} (h : 0 < k) (out : ByteArray) : mkD k.toNat k out = mkD (k / 10).toNat (k / 10) (strB [48 + k % 10] ++ out) := by
  obtain ⟨n, hn⟩ : ∃ n, k.toNat = n + 1 := ⟨k.toNat - 1, by omega⟩
  rw [hn, mkD, if_pos h]
  exact mkD_any _ _ _ _ (by omega) (Nat.le_refl _)
def mkTx (k : Int) : ByteArray := if k ≤ 0 then ⟨#[109, 48]⟩ else ⟨#[109]⟩ ++ mkD k.toNat k ⟨#[]⟩
theorem mkTx_nn {k : Int} (h : k ≤ 0) : mkTx k = ⟨#[109, 48]⟩ := if_pos h
theorem mkTx_ps {k : Int} (h : ¬ k ≤ 0) : mkTx k = ⟨#[109]⟩ ++ mkD k.toNat k ⟨#[]⟩ := if_neg h

theorem mid_at {α : Type} [Inhabited α] {p l : List α} {i : Nat} (hp : p.length = i) : at_ (p ++ l.drop i) i = at_ l i := by
  subst hp; rw [at_right (Nat.le_refl _)]; simp [at_]
theorem mid_set {α : Type} [Inhabited α] {p l : List α} {i : Nat} (hp : p.length = i) (hi : i < l.length) (y : α) : (p ++ l.drop i).set i y = (p ++ [y]) ++ l.drop (i + 1) := by
  subst hp
  have e := List.drop_eq_getElem_cons hi
  rw [List.set_append_right _ _ (Nat.le_refl _), Nat.sub_self, e]
  simp only [List.set_cons_zero, List.append_assoc, List.singleton_append]
theorem mid_len {α : Type} {p l : List α} {i : Nat} (hp : p.length = i) (hi : i ≤ l.length) : (p ++ l.drop i).length = l.length := by simp; omega

def mTr (k : Int) (t : Trained) : Trained := ⟨mkTx k, mkL (k + 1) t.Base.length, mkL (k + 1 + 3 * (t.Base.length : Int)) t.Feats.length, k + 1 + 3 * (t.Base.length : Int) + 3 * (t.Feats.length : Int)⟩
def nTr (k : Int) (t : Trained) : Int := k + 2 + 3 * (t.Base.length : Int) + 3 * (t.Feats.length : Int)
def mRs : Int → List Trained → List Trained
  | _, [] => []
  | k, t :: r => mTr k t :: mRs (nTr k t) r
def nRs : Int → List Trained → Int
  | k, [] => k
  | k, t :: r => nRs (nTr k t) r
theorem mRs_app : ∀ (a b : List Trained) (k : Int), mRs k (a ++ b) = mRs k a ++ mRs (nRs k a) b
  | [], b, k => rfl
  | t :: r, b, k => by simp only [List.cons_append, mRs, nRs]; rw [mRs_app r b]
theorem nRs_app : ∀ (a b : List Trained) (k : Int), nRs k (a ++ b) = nRs (nRs k a) b
  | [], b, k => rfl
  | t :: r, b, k => by simp only [List.cons_append, nRs]; rw [nRs_app r b]
theorem mRs_len : ∀ (a : List Trained) (k : Int), (mRs k a).length = a.length
  | [], k => rfl
  | t :: r, k => by simp only [mRs, List.length_cons, mRs_len r]
theorem nRs_lo : ∀ (a : List Trained) (k : Int), k + (a.length : Int) ≤ nRs k a
  | [], k => by simp [nRs]
  | t :: r, k => by
    have h := nRs_lo r (nTr k t)
    simp only [nRs, List.length_cons]
    unfold nTr at *
    omega
theorem nRs_bd : ∀ (a : List Trained) (k : Int), k ≤ nRs k a ∧ nRs k a ≤ k + 3 * (bulkTrainedS a : Int)
  | [], k => by simp [nRs, bulkTrainedS]
  | t :: r, k => by
    have h := nRs_bd r (nTr k t)
    have e := bulkFeatS_len t.Feats
    have e2 := bulkFeatS_len t.Base
    simp only [nRs, bulkTrainedS, bulkTrained]
    unfold nTr at *
    omega
theorem mRs_take {l : List Trained} {i : Nat} (hi : i < l.length) (k : Int) : mRs k (l.take (i + 1)) = mRs k (l.take i) ++ [mTr (nRs k (l.take i)) (at_ l i)] ∧ nRs k (l.take (i + 1)) = nTr (nRs k (l.take i)) (at_ l i) := by
  rw [take_snoc' hi, mRs_app, nRs_app]; exact ⟨rfl, rfl⟩
theorem nRs_mid {l : List Trained} {i : Nat} (hi : i < l.length) (k : Int) : nTr (nRs k (l.take i)) (at_ l i) ≤ nRs k l := by
  have h := nRs_lo (l.drop (i + 1)) (nRs k (l.take (i + 1)))
  rw [← nRs_app, List.take_append_drop, (mRs_take hi k).2] at h
  omega

theorem mRs_self {l : List Trained} {k : Int} (h : l = mRs k l) {i : Nat} (hi : i < l.length) : at_ l i = mTr (nRs k (l.take i)) (at_ l i) := by
  have e : mRs k l = (mRs k (l.take i) ++ [mTr (nRs k (l.take i)) (at_ l i)]) ++ mRs (nRs k (l.take (i + 1))) (l.drop (i + 1)) := by
    rw [← (mRs_take hi k).1, ← mRs_app, List.take_append_drop]
  have hp : (mRs k (l.take i)).length = i := by rw [mRs_len]; simp; omega
  have h2 : at_ l i = at_ ((mRs k (l.take i) ++ [mTr (nRs k (l.take i)) (at_ l i)]) ++ mRs (nRs k (l.take (i + 1))) (l.drop (i + 1))) i := congrArg (fun z => at_ z i) (h.trans e)
  rw [List.append_assoc, at_right (by omega), hp, Nat.sub_self] at h2
  exact h2

def zW : Writer := ⟨0, []⟩
def lsR (w : Writer) (label : ByteArray) (s : List Feat) (share : Int) : Writer × Int × Int :=
  if okWriter' w = true ∧ okFeats s 72 = true then
    if okLabel label = true then
      if inB share 0 100 = true then
        if pkI w label s < 0 ∧ 40 ≤ (w.Trained.length : Int) then (zW, 0, 5) else (lrnW w label s share, lrnA w label s, 0)
      else (zW, 0, 2)
    else (zW, 0, 7)
  else (zW, 0, 1)
theorem lsR_1 {w : Writer} {label : ByteArray} {s : List Feat} {share : Int} (h : ¬ (okWriter' w = true ∧ okFeats s 72 = true)) : lsR w label s share = (zW, 0, 1) := if_neg h
theorem lsR_7 {w : Writer} {label : ByteArray} {s : List Feat} {share : Int} (h : okWriter' w = true ∧ okFeats s 72 = true) (h1 : ¬ okLabel label = true) : lsR w label s share = (zW, 0, 7) := by unfold lsR; rw [if_pos h, if_neg h1]
theorem lsR_2 {w : Writer} {label : ByteArray} {s : List Feat} {share : Int} (h : okWriter' w = true ∧ okFeats s 72 = true) (h1 : okLabel label = true) (h2 : ¬ inB share 0 100 = true) : lsR w label s share = (zW, 0, 2) := by unfold lsR; rw [if_pos h, if_pos h1, if_neg h2]
theorem lsR_5 {w : Writer} {label : ByteArray} {s : List Feat} {share : Int} (h : okWriter' w = true ∧ okFeats s 72 = true) (h1 : okLabel label = true) (h2 : inB share 0 100 = true) (h3 : pkI w label s < 0 ∧ 40 ≤ (w.Trained.length : Int)) : lsR w label s share = (zW, 0, 5) := by unfold lsR; rw [if_pos h, if_pos h1, if_pos h2, if_pos h3]
theorem lsR_0 {w : Writer} {label : ByteArray} {s : List Feat} {share : Int} (h : okWriter' w = true ∧ okFeats s 72 = true) (h1 : okLabel label = true) (h2 : inB share 0 100 = true) (h3 : ¬ (pkI w label s < 0 ∧ 40 ≤ (w.Trained.length : Int))) : lsR w label s share = (lrnW w label s share, lrnA w label s, 0) := by unfold lsR; rw [if_pos h, if_pos h1, if_pos h2, if_neg h3]
theorem ls_neg {w : Writer} {l : ByteArray} {s : List Feat} {share : Int} (h : pkI w l s < 0) : lrnA w l s = (w.Trained.length : Int) ∧ (lrnW w l s share).Trained = w.Trained ++ [⟨l, s, s, 0⟩] := by
  refine ⟨if_pos h, ?_⟩
  show lrnT w l s share (pkI w l s) = _
  exact if_pos h
theorem ls_pos {w : Writer} {l : ByteArray} {s : List Feat} {share : Int} (h : ¬ pkI w l s < 0) : lrnA w l s = pkI w l s ∧ (lrnW w l s share).Trained = w.Trained.set (pkI w l s).toNat (adpT (at_ w.Trained (pkI w l s).toNat) s w.Band share) := by
  refine ⟨if_neg h, ?_⟩
  show lrnT w l s share (pkI w l s) = _
  exact if_neg h
theorem nRs_le : ∀ (l : List Trained) (k : Int), (∀ t ∈ l, t.Base.length ≤ 72 ∧ t.Feats.length ≤ 72) → nRs k l ≤ k + 434 * (l.length : Int)
  | [], k, _ => by simp [nRs]
  | t :: r, k, h => by
    have h1 := nRs_le r (nTr k t) fun x hx => h x (List.mem_cons_of_mem _ hx)
    have h2 := h t (List.mem_cons_self ..)
    simp only [nRs, List.length_cons]
    unfold nTr at *
    omega
theorem lsR_n (w : Writer) (label : ByteArray) (s : List Feat) (share : Int) : nRs 1 (lsR w label s share).1.Trained ≤ 4000000 := by
  have hz : nRs 1 zW.Trained ≤ 4000000 := by decide
  by_cases h : okWriter' w = true ∧ okFeats s 72 = true
  · by_cases h1 : okLabel label = true
    · by_cases h2 : inB share 0 100 = true
      · by_cases h3 : pkI w label s < 0 ∧ 40 ≤ (w.Trained.length : Int)
        · rw [lsR_5 h h1 h2 h3]; exact hz
        · rw [lsR_0 h h1 h2 h3]
          have q := okW_iff.1 h.1
          have hs := okFeats_n h.2
          have hm : ∀ t ∈ w.Trained, t.Base.length ≤ 72 ∧ t.Feats.length ≤ 72 := fun t ht => by
            obtain ⟨j, hj, e⟩ := List.getElem_of_mem ht
            have h5 := okTr_iff.1 (q.2.2 j hj)
            rw [at_eq hj, e] at h5
            have e1 := okFeats_n h5.2.1
            have e2 := okFeats_n h5.2.2.1
            exact ⟨by omega, by omega⟩
          show nRs 1 (lrnW w label s share).Trained ≤ _
          by_cases hp : pkI w label s < 0
          · rw [(ls_neg (share := share) hp).2]
            have := nRs_le (w.Trained ++ [⟨label, s, s, 0⟩]) 1 fun t ht => by
              rcases List.mem_append.1 ht with ht | ht
              · exact hm t ht
              · obtain rfl := List.mem_singleton.1 ht; exact ⟨show s.length ≤ 72 by omega, show s.length ≤ 72 by omega⟩
            simp only [List.length_append, List.length_singleton] at this
            omega
          · rw [(ls_pos (share := share) hp).2]
            have hk : (pkI w label s).toNat < w.Trained.length := by have := (pkI_bd w label s).1; omega
            have := nRs_le (w.Trained.set (pkI w label s).toNat (adpT (at_ w.Trained (pkI w label s).toNat) s w.Band share)) 1 fun t ht => by
              rcases List.mem_or_eq_of_mem_set ht with ht | ht
              · exact hm t ht
              · subst ht
                have h6 := hm _ (at_mem hk)
                rw [adpT_len]
                exact ⟨h6.1, h6.2⟩
            rw [List.length_set] at this
            omega
      · rw [lsR_2 h h1 h2]; exact hz
    · rw [lsR_7 h h1]; exact hz
  · rw [lsR_1 h]; exact hz

-- spec.LearnSample
theorem specLearnSample_ok (w : Writer) (label : ByteArray) (sample : List Feat) (share : Int) (ok : okWriter w) (okz : label.size ≤ 9223372036854775807) : ∃ (v : Writer) (ix : Int) (c : Int), (v = (lsR w label sample share).1) ∧ (ix = (lsR w label sample share).2.1) ∧ (c = (lsR w label sample share).2.2) ∧ Con Tryz.prog 18 [agWriter w, Sv label, slFeat false sample, I share] true (.tup [agWriterT v, I ix, I c]) := by
  have hh : ∃ r : Writer × Int × Int, ((r.1 = (lsR w label sample share).1) ∧ (r.2.1 = (lsR w label sample share).2.1) ∧ (r.2.2 = (lsR w label sample share).2.2) ∧ (True)) ∧ CallOK Tryz.prog 18 [agWriter w, Sv label, slFeat false sample, I share] (lookO []) true (.tup [agWriterT r.1, I r.2.1, I r.2.2]) (lookO []) := by
    refine fn_okX (Φ := fun r : Writer × Int × Int => (r.1 = (lsR w label sample share).1) ∧ (r.2.1 = (lsR w label sample share).2.1) ∧ (r.2.2 = (lsR w label sample share).2.2) ∧ (True)) [] (fun r => []) (fn := Tryz.f18) (nt := 69) Tryz.func18 rfl rfl (args := [agWriter w, Sv label, slFeat false sample, I share]) rfl (allcons (.inl ⟨rfl, by simp [tagged, taggedL, tagTrained]⟩) (allcons (.inl ⟨rfl, trivial⟩) (allcons (.inl ⟨rfl, tagFeat false _⟩) (allcons (.inl ⟨rfl, trivial⟩) allnil)))) (res := fun r => .tup [agWriterT r.1, I r.2.1, I r.2.2]) ?_
    refine xR [(0, .new 4), (1, .new 8)] [1, 2, 3, 4, 8] [4, 8] [Sv label, slFeat false sample, I share, .ref 4 0, .ref 8 0] [some (bxWriter w), some (.box [I 0, nilA])] [] trivial ?_
    refine x_seq ?_
    refine x_seq ?_
    rcases Bool.eq_false_or_eq_true (okWriter' w) with h1 | h1
    ·have hwk := h1
     have hw := okW_iff.1 hwk
     rcases Bool.eq_false_or_eq_true (okFeats sample 72) with h2 | h2
     ·have oks := h2
      have hon0 := okFeats_n oks
      have hlen : sample.length ≤ 72 := by omega
      refine x_r [(0, .call [(false, .ptr false [I w.Band, slTrained false w.Trained])] true (Bv true)), (4, .call [(true, .any)] true (Bv true))] [1, 2, 3, 4, 8, 20] [4, 8] [Sv label, slFeat false sample, I share, .ref 4 0, .ref 8 0, Bv false] [some (bxWriter w), some (.box [I 0, nilA])] [Con Tryz.prog 38 [.ptr false [I w.Band, slTrained false w.Trained]] true (Bv true) ∧ ((false = true → true = true) ∧ AV.idsL [I w.Band, slTrained false w.Trained] = [] ∧ (valOf (I w.Band) = valOf (I w.Band)) ∧ ((false = true → false = true) ∧ 4 = 4 ∧ w.Trained.length = w.Trained.length ∧ ∀ i_, i_ < w.Trained.length → (fTrained false w.Trained) i_ = (fTrained false w.Trained) i_ ∨ (AV.idsL ((fTrained false w.Trained) i_) = [] ∧ leL (fun _ => none) false ((fTrained false w.Trained) i_) ((fTrained false w.Trained) i_))) ∧ ([] : List AV) = []) ∧ True, Con Tryz.prog 46 [slFeat false sample] true (Bv true) ∧ True] ⟨⟨(con_bool h1 (l24Writer_ok w ok)), ⟨(fun h => by cases h), rfl, ⟨rfl, ⟨⟨(fun h => by cases h), rfl, rfl, fun i _ => .inl rfl⟩, rfl⟩⟩⟩, trivial⟩, ⟨(con_bool h2 (l09Ok_ok sample)), trivial⟩, trivial⟩ ?_
      refine xe_then ?_
      refine x_false rfl ?_
      refine x_skip ?_
      refine xe_then ?_
      refine x_seq ?_
      refine x_seq ?_
      rcases Bool.eq_false_or_eq_true (okLabel label) with h3 | h3
      ·have okl := h3
       refine x_r [(1, .call [(true, .any)] true (Bv true))] [1, 2, 3, 4, 8, 24] [4, 8] [Sv label, slFeat false sample, I share, .ref 4 0, .ref 8 0, Bv false] [some (bxWriter w), some (.box [I 0, nilA])] [Con Tryz.prog 47 [Sv label] true (Bv true) ∧ True] ⟨⟨(con_bool h3 (specIsLabel_ok label okz)), trivial⟩, trivial⟩ ?_
       refine xe_then ?_
       refine x_false rfl ?_
       refine x_skip ?_
       refine xe_then ?_
       refine x_seq ?_
       refine x_seq ?_
       rcases Bool.eq_false_or_eq_true (inB share 0 100) with h4 | h4
       ·have hshb := h4
        have hsh := inB_iff.1 h4
        refine x_r [(1, .call [(true, .any), (true, .any), (true, .any)] true (Bv true))] [1, 2, 3, 4, 8, 28] [4, 8] [Sv label, slFeat false sample, I share, .ref 4 0, .ref 8 0, Bv false] [some (bxWriter w), some (.box [I 0, nilA])] [Con Tryz.prog 48 [I share, I 0, I 100] true (Bv true) ∧ True] ⟨⟨(con_bool h4 (l00In_ok share 0 100)), trivial⟩, trivial⟩ ?_
        refine xe_then ?_
        refine x_false rfl ?_
        refine x_skip ?_
        refine xe_then ?_
        refine x_seq ?_
        refine x_weak [] (T := [(1, Sv label), (2, slFeat false sample), (3, I share), (4, .ptr true [I w.Band, slTrained false w.Trained]), (8, .ref 8 0), (28, Bv false)]) (O := [(8, .box [I 0, nilA])]) rfl (⟨.inl rfl, .inl rfl, .inl rfl, .inr ⟨(fun _ => rfl), rfl, ⟨rfl, ⟨⟨(fun h => by cases h), rfl, rfl, fun i _ => .inl rfl⟩, rfl⟩⟩⟩, .inl rfl, .inl rfl, trivial⟩) (⟨.inl rfl, trivial⟩) ?_
        obtain ⟨us_1, hx1_0, hc1⟩ := l24Own_ok w ⟨hw.2.1, fun j hj => ⟨by have := okFeats_n (okTr_iff.1 (hw.2.2 j hj)).2.1; omega, by have := okFeats_n (okTr_iff.1 (hw.2.2 j hj)).2.2.1; omega⟩⟩
        have hus := hx1_0
        refine x_r [(0, .lend [] [(7921, tATrained true us_1)] [(false, .ptr false [I w.Band, slTrained false w.Trained])] false (.agg [I w.Band, .arr 7921])), (1, .new 11)] [1, 2, 3, 4, 8, 11] [8, 11, 7921] [Sv label, slFeat false sample, I share, .ptr true [I w.Band, slTrained false w.Trained], .ref 8 0, .ref 11 0] [some (.box [I 0, nilA]), some (.box [I w.Band, .arr 7921]), some (tATrained true us_1)] [CallOK Tryz.prog 49 [.ptr false [I w.Band, slTrained false w.Trained]] (lookO []) false (.agg [I w.Band, .arr 7921]) (lookO [(7921, tATrained true us_1)]) ∧ ((false = true → true = true) ∧ AV.idsL [I w.Band, slTrained false w.Trained] = [] ∧ (valOf (I w.Band) = valOf (I w.Band)) ∧ ((false = true → false = true) ∧ 4 = 4 ∧ w.Trained.length = w.Trained.length ∧ ∀ i_, i_ < w.Trained.length → (fTrained false w.Trained) i_ = (fTrained false w.Trained) i_ ∨ (AV.idsL ((fTrained false w.Trained) i_) = [] ∧ leL (fun _ => none) false ((fTrained false w.Trained) i_) ((fTrained false w.Trained) i_))) ∧ ([] : List AV) = []) ∧ True] ⟨⟨hc1, ⟨(fun h => by cases h), rfl, ⟨rfl, ⟨⟨(fun h => by cases h), rfl, rfl, fun i _ => .inl rfl⟩, rfl⟩⟩⟩, trivial⟩, trivial⟩ ?_
        refine xe_then ?_
        refine x_seq ?_
        obtain ⟨v_2, hx2_0, hc2⟩ := l24Pick_ok w label sample hw oks
        have hkk : v_2 = pkI w label sample := hx2_0
        have hkb := pkI_bd w label sample
        rw [← hkk] at hkb
        refine x_r [(2, .call [(false, .ptr false [I w.Band, slTrained false w.Trained]), (true, .any), (true, .any)] true (I v_2))] [1, 2, 3, 4, 8, 11, 12] [8, 11, 7921] [Sv label, slFeat false sample, I share, .ptr true [I w.Band, slTrained false w.Trained], .ref 8 0, .ref 11 0, I v_2] [some (.box [I 0, nilA]), some (.box [I w.Band, .arr 7921]), some (tATrained true us_1)] [Con Tryz.prog 50 [.ptr false [I w.Band, slTrained false w.Trained], Sv label, slFeat false sample] true (I v_2) ∧ ((false = true → true = true) ∧ AV.idsL [I w.Band, slTrained false w.Trained] = [] ∧ (valOf (I w.Band) = valOf (I w.Band)) ∧ ((false = true → false = true) ∧ 4 = 4 ∧ w.Trained.length = w.Trained.length ∧ ∀ i_, i_ < w.Trained.length → (fTrained false w.Trained) i_ = (fTrained false w.Trained) i_ ∨ (AV.idsL ((fTrained false w.Trained) i_) = [] ∧ leL (fun _ => none) false ((fTrained false w.Trained) i_) ((fTrained false w.Trained) i_))) ∧ ([] : List AV) = []) ∧ True] ⟨⟨hc2, ⟨(fun h => by cases h), rfl, ⟨rfl, ⟨⟨(fun h => by cases h), rfl, rfl, fun i _ => .inl rfl⟩, rfl⟩⟩⟩, trivial⟩, trivial⟩ ?_
        refine xe_then ?_
        refine x_seq ?_
        refine x_seq ?_
        by_cases h5 : 0 ≤ v_2
        ·have hst := lsR_0 (w := w) (label := label) (s := sample) (share := share) ⟨hwk, oks⟩ okl hshb (fun q => by have := q.1; omega)
         have hln := ls_pos (w := w) (l := label) (s := sample) (share := share) (by omega)
         rw [← hkk] at hln
         have hsA : (lsR w label sample share).2.1 = v_2 := by rw [hst]; exact hln.1
         have hsT : (lsR w label sample share).1.Trained = w.Trained.set v_2.toNat (adpT (at_ w.Trained v_2.toNat) sample w.Band share) := by rw [hst]; exact hln.2
         have hsW : (lsR w label sample share).1 = Writer.mk w.Band (w.Trained.set v_2.toNat (adpT (at_ w.Trained v_2.toNat) sample w.Band share)) := by rw [hst]; exact congrArg (Writer.mk w.Band) hln.2
         have hlq := hkb.2 (by omega)
         have hlq := lrn_iff.1 hlq
         have hkl : v_2.toNat < w.Trained.length := by omega
         have htr := hw.2.2 _ hkl
         have htn := okFeats_n (okTr_iff.1 htr).2.2.1
         have htb := okFeats_n (okTr_iff.1 htr).2.1
         refine x_r [(1, .dec true)] [1, 2, 3, 4, 8, 11, 12, 35] [8, 11, 7921] [Sv label, slFeat false sample, I share, .ptr true [I w.Band, slTrained false w.Trained], .ref 8 0, .ref 11 0, I v_2, Bv true] [some (.box [I 0, nilA]), some (.box [I w.Band, .arr 7921]), some (tATrained true us_1)] [0 ≤ v_2] ⟨h5, trivial⟩ ?_
         refine xe_then ?_
         refine x_true rfl ?_
         refine x_seq ?_
         obtain ⟨v_3, hx3_0, hc3⟩ := l24Adapt_ok (at_ w.Trained v_2.toNat) sample w.Band share htr oks hlq.2.2.1 hlq.2.2.2 hsh hlq.2.1
         have hnx := hx3_0
         refine x_r [(8, .call [(true, .any), (true, .any), (true, .any), (true, .any)] true (agTrainedT v_3)), (9, .new 13)] [8, 11, 12, 13] [8, 11, 13, 7921] [.ref 8 0, .ref 11 0, I v_2, .ref 13 0] [some (.box [I 0, nilA]), some (.box [I w.Band, .arr 7921]), some (bxTrainedT v_3), some (tATrained true us_1)] [(0 : Int) ≤ v_2 ∧ v_2 < (w.Trained.length : Int), Con Tryz.prog 51 [.ptr false [Sv ((at_ w.Trained v_2.toNat).Label), slFeat false ((at_ w.Trained v_2.toNat).Base), slFeat false ((at_ w.Trained v_2.toNat).Feats), I ((at_ w.Trained v_2.toNat).Count)], slFeat false sample, I w.Band, I share] true (agTrainedT v_3) ∧ True] ⟨⟨(by (try rw [hus]); omega), (by (try rw [hus]); omega)⟩, ⟨hc3, trivial⟩, trivial⟩ ?_
         refine xe_then ?_
         refine xR [] [8, 11, 12] [8, 11, 7921] [.ref 8 0, .ref 11 0, I v_2] [some (.box [I 0, nilA]), some (.box [I w.Band, .arr 7921]), some (.arr 4 us_1.length (fun q => bif Nat.beq q v_2.toNat then [Sv v_3.Label, slFeat true v_3.Base, slFeat true v_3.Feats, I v_3.Count] else (fTrained true us_1) q))] [(0 : Int) ≤ v_2 ∧ v_2 < (us_1.length : Int), v_2.toNat < us_1.length] ⟨⟨(by (try rw [hus]); omega), (by (try rw [hus]); omega)⟩, (by (try rw [hus]); omega), trivial⟩ ?_
         refine xR [] [8, 9, 10] [8, 7921] [.ref 8 0, I v_2, I 0] [some (.box [I w.Band, .arr 7921]), some (.arr 4 us_1.length (fun q => bif Nat.beq q v_2.toNat then [Sv v_3.Label, slFeat true v_3.Base, slFeat true v_3.Feats, I v_3.Count] else (fTrained true us_1) q))] [] trivial ?_
         refine x_ret ?_
         refine xe_ret_then ?_
         refine xe_end ((Writer.mk w.Band (us_1.set v_2.toNat v_3)), v_2, 0) (show ((Writer.mk w.Band (us_1.set v_2.toNat v_3)) = (lsR w label sample share).1) ∧ (v_2 = (lsR w label sample share).2.1) ∧ (0 = (lsR w label sample share).2.2) ∧ (True) from ⟨(by first | (rw [hst]; done) | (rw [hst]; rfl) | (rw [hsA]; done) | (rw [hsW, hus]; done) | (rw [hsW, hus, hnx]; done) | (rw [hsW, hus, hnx]; rfl) | (rw [hst])), (by first | (rw [hst]; done) | (rw [hst]; rfl) | (rw [hsA]; done) | (rw [hsW, hus]; done) | (rw [hsW, hus, hnx]; done) | (rw [hsW, hus, hnx]; rfl) | (rw [hst])), (by first | (rw [hst]; done) | (rw [hst]; rfl) | (rw [hsA]; done) | (rw [hsW, hus]; done) | (rw [hsW, hus, hnx]; done) | (rw [hsW, hus, hnx]; rfl) | (rw [hst])), trivial⟩) (trivial) (.tup [.agg [I w.Band, .arr 7921], I v_2, I 0]) (by kernel_rfl) (.inr ⟨⟨rfl, ⟨⟨(fun _ => rfl), rfl, (by first | rfl | (simp; done) | (simp; omega) | omega), fun i_ hi_ => .inl (upd_enc (enc := (cTrained true)) rfl i_ hi_)⟩, rfl⟩⟩, ⟨rfl, ⟨rfl, rfl⟩⟩⟩) (fun _ => rfl) (fun _ => (by simp [tagged, taggedL, tagTrained]))
        have hK0 : v_2 < 0 := by omega
        refine x_r [(1, .dec false)] [1, 2, 3, 4, 8, 11, 12, 35] [8, 11, 7921] [Sv label, slFeat false sample, I share, .ptr true [I w.Band, slTrained false w.Trained], .ref 8 0, .ref 11 0, I v_2, Bv false] [some (.box [I 0, nilA]), some (.box [I w.Band, .arr 7921]), some (tATrained true us_1)] [¬ (0 ≤ v_2)] ⟨h5, trivial⟩ ?_
        refine xe_then ?_
        refine x_false rfl ?_
        refine x_skip ?_
        refine xe_then ?_
        refine x_seq ?_
        refine x_seq ?_
        by_cases h6 : 40 ≤ (w.Trained.length : Int)
        ·have hst := lsR_5 (w := w) (label := label) (s := sample) (share := share) ⟨hwk, oks⟩ okl hshb ⟨by omega, by omega⟩
         refine x_r [(3, .dec true)] [1, 2, 4, 8, 11, 55] [8, 11, 7921] [Sv label, slFeat false sample, .ptr true [I w.Band, slTrained false w.Trained], .ref 8 0, .ref 11 0, Bv true] [some (.box [I 0, nilA]), some (.box [I w.Band, .arr 7921]), some (tATrained true us_1)] [40 ≤ (w.Trained.length : Int)] ⟨h6, trivial⟩ ?_
         refine xe_then ?_
         refine x_true rfl ?_
         refine xR [] [8, 9, 10] [8] [.ref 8 0, I 0, I 5] [some (.box [I 0, nilA])] [] trivial ?_
         refine x_ret ?_
         refine xe_ret_then ?_
         refine xe_end ((Writer.mk 0 ([] : List Trained)), 0, 5) (show ((Writer.mk 0 ([] : List Trained)) = (lsR w label sample share).1) ∧ (0 = (lsR w label sample share).2.1) ∧ (5 = (lsR w label sample share).2.2) ∧ (True) from ⟨(by first | (rw [hst]; done) | (rw [hst]; rfl) | (rw [hsA]; done) | (rw [hsW, hus]; done) | (rw [hsW, hus, hnx]; done) | (rw [hsW, hus, hnx]; rfl) | (rw [hst])), (by first | (rw [hst]; done) | (rw [hst]; rfl) | (rw [hsA]; done) | (rw [hsW, hus]; done) | (rw [hsW, hus, hnx]; done) | (rw [hsW, hus, hnx]; rfl) | (rw [hst])), (by first | (rw [hst]; done) | (rw [hst]; rfl) | (rw [hsA]; done) | (rw [hsW, hus]; done) | (rw [hsW, hus, hnx]; done) | (rw [hsW, hus, hnx]; rfl) | (rw [hst])), trivial⟩) (trivial) (.tup [.agg [I 0, nilA], I 0, I 5]) (by kernel_rfl) (.inr ⟨⟨rfl, ⟨⟨rfl, rfl⟩, rfl⟩⟩, ⟨rfl, ⟨rfl, rfl⟩⟩⟩) (fun _ => rfl) (fun _ => (by simp [tagged, taggedL, tagTrained]))
        have hst := lsR_0 (w := w) (label := label) (s := sample) (share := share) ⟨hwk, oks⟩ okl hshb (fun q => by have := q.2; omega)
        have hln := ls_neg (w := w) (l := label) (s := sample) (share := share) (by omega)
        have hsA : (lsR w label sample share).2.1 = (w.Trained.length : Int) := by rw [hst]; exact hln.1
        have hsT : (lsR w label sample share).1.Trained = w.Trained ++ [⟨label, sample, sample, 0⟩] := by rw [hst]; exact hln.2
        have hsW : (lsR w label sample share).1 = Writer.mk w.Band (w.Trained ++ [⟨label, sample, sample, 0⟩]) := by rw [hst]; exact congrArg (Writer.mk w.Band) hln.2
        refine x_r [(3, .dec false)] [1, 2, 4, 8, 11, 55] [8, 11, 7921] [Sv label, slFeat false sample, .ptr true [I w.Band, slTrained false w.Trained], .ref 8 0, .ref 11 0, Bv false] [some (.box [I 0, nilA]), some (.box [I w.Band, .arr 7921]), some (tATrained true us_1)] [¬ (40 ≤ (w.Trained.length : Int))] ⟨h6, trivial⟩ ?_
        refine xe_then ?_
        refine x_false rfl ?_
        refine x_skip ?_
        refine xe_then ?_
        refine xR [(4, .call [(true, .any), (true, .any)] true (agTrainedT (Trained.mk label sample sample 0))), (5, .new 62), (6, .new 63)] [4, 8, 11] [8, 11, 63] [.ptr true [I w.Band, slTrained false w.Trained], .ref 8 0, .ref 11 0] [some (.box [I 0, nilA]), some (.box [I w.Band, .arr 63]), some (.arr 4 (us_1.length + 1) (catF us_1.length (fTrained true us_1) (litF [Sv ((Trained.mk label sample sample 0).Label), slFeat true ((Trained.mk label sample sample 0).Base), slFeat true ((Trained.mk label sample sample 0).Feats), I ((Trained.mk label sample sample 0).Count)] 4)))] [Con Tryz.prog 52 [Sv label, slFeat false sample] true (agTrainedT (Trained.mk label sample sample 0)) ∧ True, (us_1.length + 1) * 72 ≤ 140737488355328] ⟨⟨(l24Start_ok label sample (by omega)), trivial⟩, (by (try rw [hus]); omega), trivial⟩ ?_
        refine xR [] [8, 9, 10] [8, 63] [.ref 8 0, I (w.Trained.length : Int), I 0] [some (.box [I w.Band, .arr 63]), some (.arr 4 (us_1.length + 1) (catF us_1.length (fTrained true us_1) (litF [Sv ((Trained.mk label sample sample 0).Label), slFeat true ((Trained.mk label sample sample 0).Base), slFeat true ((Trained.mk label sample sample 0).Feats), I ((Trained.mk label sample sample 0).Count)] 4)))] [] trivial ?_
        refine x_ret ?_
        refine xe_end ((Writer.mk w.Band (us_1 ++ [(Trained.mk label sample sample 0)])), (w.Trained.length : Int), 0) (show ((Writer.mk w.Band (us_1 ++ [(Trained.mk label sample sample 0)])) = (lsR w label sample share).1) ∧ ((w.Trained.length : Int) = (lsR w label sample share).2.1) ∧ (0 = (lsR w label sample share).2.2) ∧ (True) from ⟨(by first | (rw [hst]; done) | (rw [hst]; rfl) | (rw [hsA]; done) | (rw [hsW, hus]; done) | (rw [hsW, hus, hnx]; done) | (rw [hsW, hus, hnx]; rfl) | (rw [hst])), (by first | (rw [hst]; done) | (rw [hst]; rfl) | (rw [hsA]; done) | (rw [hsW, hus]; done) | (rw [hsW, hus, hnx]; done) | (rw [hsW, hus, hnx]; rfl) | (rw [hst])), (by first | (rw [hst]; done) | (rw [hst]; rfl) | (rw [hsA]; done) | (rw [hsW, hus]; done) | (rw [hsW, hus, hnx]; done) | (rw [hsW, hus, hnx]; rfl) | (rw [hst])), trivial⟩) (trivial) (.tup [.agg [I w.Band, .arr 63], I (w.Trained.length : Int), I 0]) (by kernel_rfl) (.inr ⟨⟨rfl, ⟨⟨(fun _ => rfl), rfl, (by first | rfl | (simp; done) | (simp; omega) | omega), fun i_ hi_ => .inl (cat_snoc (enc := (cTrained true)) (xs := us_1) rfl i_ hi_)⟩, rfl⟩⟩, ⟨rfl, ⟨rfl, rfl⟩⟩⟩) (fun _ => rfl) (fun _ => (by simp [tagged, taggedL, tagTrained]))
       have hst := lsR_2 (w := w) (label := label) (s := sample) (share := share) ⟨hwk, oks⟩ okl (by rw [h4]; decide)
       refine x_r [(1, .call [(true, .any), (true, .any), (true, .any)] true (Bv false))] [1, 2, 3, 4, 8, 28] [4, 8] [Sv label, slFeat false sample, I share, .ref 4 0, .ref 8 0, Bv true] [some (bxWriter w), some (.box [I 0, nilA])] [Con Tryz.prog 48 [I share, I 0, I 100] true (Bv false) ∧ True] ⟨⟨(con_bool h4 (l00In_ok share 0 100)), trivial⟩, trivial⟩ ?_
       refine xe_then ?_
       refine x_true rfl ?_
       refine xR [] [8, 9, 10] [8] [.ref 8 0, I 0, I 2] [some (.box [I 0, nilA])] [] trivial ?_
       refine x_ret ?_
       refine xe_ret_then ?_
       refine xe_end ((Writer.mk 0 ([] : List Trained)), 0, 2) (show ((Writer.mk 0 ([] : List Trained)) = (lsR w label sample share).1) ∧ (0 = (lsR w label sample share).2.1) ∧ (2 = (lsR w label sample share).2.2) ∧ (True) from ⟨(by first | (rw [hst]; done) | (rw [hst]; rfl) | (rw [hsA]; done) | (rw [hsW, hus]; done) | (rw [hsW, hus, hnx]; done) | (rw [hsW, hus, hnx]; rfl) | (rw [hst])), (by first | (rw [hst]; done) | (rw [hst]; rfl) | (rw [hsA]; done) | (rw [hsW, hus]; done) | (rw [hsW, hus, hnx]; done) | (rw [hsW, hus, hnx]; rfl) | (rw [hst])), (by first | (rw [hst]; done) | (rw [hst]; rfl) | (rw [hsA]; done) | (rw [hsW, hus]; done) | (rw [hsW, hus, hnx]; done) | (rw [hsW, hus, hnx]; rfl) | (rw [hst])), trivial⟩) (trivial) (.tup [.agg [I 0, nilA], I 0, I 2]) (by kernel_rfl) (.inr ⟨⟨rfl, ⟨⟨rfl, rfl⟩, rfl⟩⟩, ⟨rfl, ⟨rfl, rfl⟩⟩⟩) (fun _ => rfl) (fun _ => (by simp [tagged, taggedL, tagTrained]))
      have hst := lsR_7 (w := w) (label := label) (s := sample) (share := share) ⟨hwk, oks⟩ (by rw [h3]; decide)
      refine x_r [(1, .call [(true, .any)] true (Bv false))] [1, 2, 3, 4, 8, 24] [4, 8] [Sv label, slFeat false sample, I share, .ref 4 0, .ref 8 0, Bv true] [some (bxWriter w), some (.box [I 0, nilA])] [Con Tryz.prog 47 [Sv label] true (Bv false) ∧ True] ⟨⟨(con_bool h3 (specIsLabel_ok label okz)), trivial⟩, trivial⟩ ?_
      refine xe_then ?_
      refine x_true rfl ?_
      refine xR [] [8, 9, 10] [8] [.ref 8 0, I 0, I 7] [some (.box [I 0, nilA])] [] trivial ?_
      refine x_ret ?_
      refine xe_ret_then ?_
      refine xe_end ((Writer.mk 0 ([] : List Trained)), 0, 7) (show ((Writer.mk 0 ([] : List Trained)) = (lsR w label sample share).1) ∧ (0 = (lsR w label sample share).2.1) ∧ (7 = (lsR w label sample share).2.2) ∧ (True) from ⟨(by first | (rw [hst]; done) | (rw [hst]; rfl) | (rw [hsA]; done) | (rw [hsW, hus]; done) | (rw [hsW, hus, hnx]; done) | (rw [hsW, hus, hnx]; rfl) | (rw [hst])), (by first | (rw [hst]; done) | (rw [hst]; rfl) | (rw [hsA]; done) | (rw [hsW, hus]; done) | (rw [hsW, hus, hnx]; done) | (rw [hsW, hus, hnx]; rfl) | (rw [hst])), (by first | (rw [hst]; done) | (rw [hst]; rfl) | (rw [hsA]; done) | (rw [hsW, hus]; done) | (rw [hsW, hus, hnx]; done) | (rw [hsW, hus, hnx]; rfl) | (rw [hst])), trivial⟩) (trivial) (.tup [.agg [I 0, nilA], I 0, I 7]) (by kernel_rfl) (.inr ⟨⟨rfl, ⟨⟨rfl, rfl⟩, rfl⟩⟩, ⟨rfl, ⟨rfl, rfl⟩⟩⟩) (fun _ => rfl) (fun _ => (by simp [tagged, taggedL, tagTrained]))
     have hst := lsR_1 (w := w) (label := label) (s := sample) (share := share) (fun q => by rw [h2] at q; exact absurd q.2 (by decide))
     refine x_r [(0, .call [(false, .ptr false [I w.Band, slTrained false w.Trained])] true (Bv true)), (4, .call [(true, .any)] true (Bv false))] [1, 2, 3, 4, 8, 20] [4, 8] [Sv label, slFeat false sample, I share, .ref 4 0, .ref 8 0, Bv true] [some (bxWriter w), some (.box [I 0, nilA])] [Con Tryz.prog 38 [.ptr false [I w.Band, slTrained false w.Trained]] true (Bv true) ∧ ((false = true → true = true) ∧ AV.idsL [I w.Band, slTrained false w.Trained] = [] ∧ (valOf (I w.Band) = valOf (I w.Band)) ∧ ((false = true → false = true) ∧ 4 = 4 ∧ w.Trained.length = w.Trained.length ∧ ∀ i_, i_ < w.Trained.length → (fTrained false w.Trained) i_ = (fTrained false w.Trained) i_ ∨ (AV.idsL ((fTrained false w.Trained) i_) = [] ∧ leL (fun _ => none) false ((fTrained false w.Trained) i_) ((fTrained false w.Trained) i_))) ∧ ([] : List AV) = []) ∧ True, Con Tryz.prog 46 [slFeat false sample] true (Bv false) ∧ True] ⟨⟨(con_bool h1 (l24Writer_ok w ok)), ⟨(fun h => by cases h), rfl, ⟨rfl, ⟨⟨(fun h => by cases h), rfl, rfl, fun i _ => .inl rfl⟩, rfl⟩⟩⟩, trivial⟩, ⟨(con_bool h2 (l09Ok_ok sample)), trivial⟩, trivial⟩ ?_
     refine xe_then ?_
     refine x_true rfl ?_
     refine xR [] [8, 9, 10] [8] [.ref 8 0, I 0, I 1] [some (.box [I 0, nilA])] [] trivial ?_
     refine x_ret ?_
     refine xe_ret_then ?_
     refine xe_end ((Writer.mk 0 ([] : List Trained)), 0, 1) (show ((Writer.mk 0 ([] : List Trained)) = (lsR w label sample share).1) ∧ (0 = (lsR w label sample share).2.1) ∧ (1 = (lsR w label sample share).2.2) ∧ (True) from ⟨(by first | (rw [hst]; done) | (rw [hst]; rfl) | (rw [hsA]; done) | (rw [hsW, hus]; done) | (rw [hsW, hus, hnx]; done) | (rw [hsW, hus, hnx]; rfl) | (rw [hst])), (by first | (rw [hst]; done) | (rw [hst]; rfl) | (rw [hsA]; done) | (rw [hsW, hus]; done) | (rw [hsW, hus, hnx]; done) | (rw [hsW, hus, hnx]; rfl) | (rw [hst])), (by first | (rw [hst]; done) | (rw [hst]; rfl) | (rw [hsA]; done) | (rw [hsW, hus]; done) | (rw [hsW, hus, hnx]; done) | (rw [hsW, hus, hnx]; rfl) | (rw [hst])), trivial⟩) (trivial) (.tup [.agg [I 0, nilA], I 0, I 1]) (by kernel_rfl) (.inr ⟨⟨rfl, ⟨⟨rfl, rfl⟩, rfl⟩⟩, ⟨rfl, ⟨rfl, rfl⟩⟩⟩) (fun _ => rfl) (fun _ => (by simp [tagged, taggedL, tagTrained]))
    have hst := lsR_1 (w := w) (label := label) (s := sample) (share := share) (fun q => by rw [h1] at q; exact absurd q.1 (by decide))
    refine x_r [(0, .call [(false, .ptr false [I w.Band, slTrained false w.Trained])] true (Bv false))] [1, 2, 3, 4, 8, 20] [4, 8] [Sv label, slFeat false sample, I share, .ref 4 0, .ref 8 0, Bv true] [some (bxWriter w), some (.box [I 0, nilA])] [Con Tryz.prog 38 [.ptr false [I w.Band, slTrained false w.Trained]] true (Bv false) ∧ ((false = true → true = true) ∧ AV.idsL [I w.Band, slTrained false w.Trained] = [] ∧ (valOf (I w.Band) = valOf (I w.Band)) ∧ ((false = true → false = true) ∧ 4 = 4 ∧ w.Trained.length = w.Trained.length ∧ ∀ i_, i_ < w.Trained.length → (fTrained false w.Trained) i_ = (fTrained false w.Trained) i_ ∨ (AV.idsL ((fTrained false w.Trained) i_) = [] ∧ leL (fun _ => none) false ((fTrained false w.Trained) i_) ((fTrained false w.Trained) i_))) ∧ ([] : List AV) = []) ∧ True] ⟨⟨(con_bool h1 (l24Writer_ok w ok)), ⟨(fun h => by cases h), rfl, ⟨rfl, ⟨⟨(fun h => by cases h), rfl, rfl, fun i _ => .inl rfl⟩, rfl⟩⟩⟩, trivial⟩, trivial⟩ ?_
    refine xe_then ?_
    refine x_true rfl ?_
    refine xR [] [8, 9, 10] [8] [.ref 8 0, I 0, I 1] [some (.box [I 0, nilA])] [] trivial ?_
    refine x_ret ?_
    refine xe_ret_then ?_
    refine xe_end ((Writer.mk 0 ([] : List Trained)), 0, 1) (show ((Writer.mk 0 ([] : List Trained)) = (lsR w label sample share).1) ∧ (0 = (lsR w label sample share).2.1) ∧ (1 = (lsR w label sample share).2.2) ∧ (True) from ⟨(by first | (rw [hst]; done) | (rw [hst]; rfl) | (rw [hsA]; done) | (rw [hsW, hus]; done) | (rw [hsW, hus, hnx]; done) | (rw [hsW, hus, hnx]; rfl) | (rw [hst])), (by first | (rw [hst]; done) | (rw [hst]; rfl) | (rw [hsA]; done) | (rw [hsW, hus]; done) | (rw [hsW, hus, hnx]; done) | (rw [hsW, hus, hnx]; rfl) | (rw [hst])), (by first | (rw [hst]; done) | (rw [hst]; rfl) | (rw [hsA]; done) | (rw [hsW, hus]; done) | (rw [hsW, hus, hnx]; done) | (rw [hsW, hus, hnx]; rfl) | (rw [hst])), trivial⟩) (trivial) (.tup [.agg [I 0, nilA], I 0, I 1]) (by kernel_rfl) (.inr ⟨⟨rfl, ⟨⟨rfl, rfl⟩, rfl⟩⟩, ⟨rfl, ⟨rfl, rfl⟩⟩⟩) (fun _ => rfl) (fun _ => (by simp [tagged, taggedL, tagTrained]))
  obtain ⟨⟨v, ix, c⟩, ⟨hh0, hh1, hh2, _⟩, hc⟩ := hh
  exact ⟨v, ix, c, hh0, hh1, hh2, hc⟩


-- impl.within
theorem within_ok (n : Int) (low : Int) (high : Int) : Con Tryz.prog 33 [I n, I low, I high] true (Bv (inB n low high)) := by
  refine fn_ok (fn := Tryz.f33) (nt := 15) Tryz.func33 rfl rfl rfl rfl (by simp [taggedL, tagged]) fun B hB => ?_
  refine aR [] [0, 1, 2] [] [I n, I low, I high] [] [] hB trivial ?_
  refine aw_seq ?_
  by_cases h1 : low ≤ n
  ·refine aw_r [(2, .dec true)] [6] [] [Bv (decide (n ≤ high))] [] [low ≤ n] hB ⟨h1, trivial⟩ ?_
   refine ae_then ?_
   refine aw_ret ?_
   refine ae_ret hB (Bv (decide (n ≤ high))) (by kernel_rfl) (.inl (by first | rfl | (refine congrArg Bv ?_; simp [inB, *]; done) | (refine congrArg Bv ?_; simp [inB, *]; omega) | (refine congrArg Bv ?_; simp_all [inB]; done) | (refine congrArg Bv ?_; simp_all [inB]; omega))) rfl (fun _ => trivial)
  refine aw_r [(2, .dec false)] [6] [] [Bv false] [] [¬ (low ≤ n)] hB ⟨h1, trivial⟩ ?_
  refine ae_then ?_
  refine aw_ret ?_
  refine ae_ret hB (Bv false) (by kernel_rfl) (.inl (by first | rfl | (refine congrArg Bv ?_; simp [inB, *]; done) | (refine congrArg Bv ?_; simp [inB, *]; omega) | (refine congrArg Bv ?_; simp_all [inB]; done) | (refine congrArg Bv ?_; simp_all [inB]; omega))) rfl (fun _ => trivial)


-- impl.isLetter
theorem isLetter_ok (c : Int) : Con Tryz.prog 67 [.val (.int .u8 c)] true (Bv (inB c 97 122)) := by
  refine fn_ok (fn := Tryz.f67) (nt := 9) Tryz.func67 rfl rfl rfl rfl (by simp [taggedL, tagged]) fun B hB => ?_
  refine aR [] [0] [] [.val (.int .u8 c)] [] [] hB trivial ?_
  refine aw_seq ?_
  by_cases h1 : 97 ≤ c
  ·refine aw_r [(1, .dec true)] [2] [] [Bv (decide (c ≤ 122))] [] [97 ≤ c] hB ⟨h1, trivial⟩ ?_
   refine ae_then ?_
   refine aw_ret ?_
   refine ae_ret hB (Bv (decide (c ≤ 122))) (by kernel_rfl) (.inl (by first | rfl | (refine congrArg Bv ?_; simp [inB, *]; done) | (refine congrArg Bv ?_; simp [inB, *]; omega) | (refine congrArg Bv ?_; simp_all [inB]; done) | (refine congrArg Bv ?_; simp_all [inB]; omega))) rfl (fun _ => trivial)
  refine aw_r [(1, .dec false)] [2] [] [Bv false] [] [¬ (97 ≤ c)] hB ⟨h1, trivial⟩ ?_
  refine ae_then ?_
  refine aw_ret ?_
  refine ae_ret hB (Bv false) (by kernel_rfl) (.inl (by first | rfl | (refine congrArg Bv ?_; simp [inB, *]; done) | (refine congrArg Bv ?_; simp [inB, *]; omega) | (refine congrArg Bv ?_; simp_all [inB]; done) | (refine congrArg Bv ?_; simp_all [inB]; omega))) rfl (fun _ => trivial)


/-- Whether a byte occurs. -/
def hasB (s : ByteArray) (n : Int) : Bool := s.data.toList.any fun x => decide ((x.toNat : Int) = n)
theorem one_byte {t : ByteArray} (h : t.size = 1) : ∃ c, t = ⟨#[c]⟩ := by
  obtain ⟨⟨l⟩⟩ := t
  cases l with
  | nil => cases h
  | cons c l =>
    cases l with
    | nil => exact ⟨c, rfl⟩
    | cons d l => simp [ByteArray.size] at h
theorem has_index (l : List UInt8) (c : UInt8) : decide (0 ≤ Lib.indexByte l c) = l.any fun x => decide ((x.toNat : Int) = bAt ⟨#[c]⟩ 0) := by
  rw [← Lib.contains_iff_indexByte, Bool.eq_iff_iff]
  simp [bAt, List.contains_iff_mem]
  constructor
  · intro h; exact ⟨c, h, rfl⟩
  · rintro ⟨x, hx, e⟩
    have : x = c := UInt8.toNat_inj.1 (by omega)
    exact this ▸ hx

-- strings.Contains
theorem contains_ok (s t : ByteArray) (h : t.size = 1) : Con Tryz.prog 68 [Sv s, Sv t] true (Bv (hasB s (bAt t 0))) := by
  obtain ⟨c, rfl⟩ := one_byte h
  refine con_of_calls (vals := [.string s, .string ⟨#[c]⟩]) fun w _ => ?_
  refine (Tryz.strings_Contains_one s c w).mono ?_
  rintro e w' ⟨rfl, rfl⟩
  refine ⟨?_, Below.refl _ _⟩
  simp only [has_index, hasB]


-- impl.IsLabel
theorem implIsLabel_ok (s : ByteArray) (ok : s.size ≤ 9223372036854775807) : Con Tryz.prog 32 [Sv s] true (Bv (okLabel s)) := by
  refine fn_ok (fn := Tryz.f32) (nt := 15) Tryz.func32 rfl rfl rfl rfl (by simp [taggedL, tagged]) fun B hB => ?_
  refine aR [] [0] [] [Sv s] [] [] hB trivial ?_
  refine aw_seq ?_
  by_cases h1 : (s.size : Int) = 1
  ·rcases Bool.eq_false_or_eq_true (inB (bAt s 0) 97 122) with h2 | h2
   ·refine aw_r [(2, .dec true), (6, .call [(true, .any)] true (Bv true))] [2] [] [Bv true] [] [(s.size : Int) = 1, (0 : Int) ≤ 0 ∧ 0 < (s.size : Int), Con Tryz.prog 67 [.val (.int .u8 (bAt s 0))] true (Bv true) ∧ True] hB ⟨h1, ⟨(by omega), (by omega)⟩, ⟨(con_bool h2 (isLetter_ok (bAt s 0))), trivial⟩, trivial⟩ ?_
    refine ae_then ?_
    refine aw_ret ?_
    refine ae_ret hB (Bv true) (by kernel_rfl) (.inl (by first | (refine congrArg Bv ?_; simp_all [okLabel, labB, inB]; done) | (refine congrArg Bv ?_; have hbd := bAt_bd s 0; rw [Bool.eq_iff_iff]; simp_all [okLabel, hasB, labB, inB]; omega))) rfl (fun _ => trivial)
   refine aw_r [(2, .dec true), (6, .call [(true, .any)] true (Bv false)), (9, .call [(true, .any), (true, .any)] true (Bv (hasB (⟨#[48, 49, 50, 51, 52, 53, 54, 55, 56, 57, 43, 45, 42, 47, 61, 40, 41, 46, 44]⟩ : ByteArray) (bAt s 0))))] [2] [] [Bv (hasB (⟨#[48, 49, 50, 51, 52, 53, 54, 55, 56, 57, 43, 45, 42, 47, 61, 40, 41, 46, 44]⟩ : ByteArray) (bAt s 0))] [] [(s.size : Int) = 1, (0 : Int) ≤ 0 ∧ 0 < (s.size : Int), Con Tryz.prog 67 [.val (.int .u8 (bAt s 0))] true (Bv false) ∧ True, Con Tryz.prog 68 [Sv (⟨#[48, 49, 50, 51, 52, 53, 54, 55, 56, 57, 43, 45, 42, 47, 61, 40, 41, 46, 44]⟩ : ByteArray), Sv s] true (Bv (hasB (⟨#[48, 49, 50, 51, 52, 53, 54, 55, 56, 57, 43, 45, 42, 47, 61, 40, 41, 46, 44]⟩ : ByteArray) (bAt s 0))) ∧ True] hB ⟨h1, ⟨(by omega), (by omega)⟩, ⟨(con_bool h2 (isLetter_ok (bAt s 0))), trivial⟩, ⟨(contains_ok (⟨#[48, 49, 50, 51, 52, 53, 54, 55, 56, 57, 43, 45, 42, 47, 61, 40, 41, 46, 44]⟩ : ByteArray) s (by omega)), trivial⟩, trivial⟩ ?_
   refine ae_then ?_
   refine aw_ret ?_
   refine ae_ret hB (Bv (hasB (⟨#[48, 49, 50, 51, 52, 53, 54, 55, 56, 57, 43, 45, 42, 47, 61, 40, 41, 46, 44]⟩ : ByteArray) (bAt s 0))) (by kernel_rfl) (.inl (by first | (refine congrArg Bv ?_; simp_all [okLabel, labB, inB]; done) | (refine congrArg Bv ?_; have hbd := bAt_bd s 0; rw [Bool.eq_iff_iff]; simp_all [okLabel, hasB, labB, inB]; omega))) rfl (fun _ => trivial)
  refine aw_r [(2, .dec false)] [2] [] [Bv false] [] [¬ ((s.size : Int) = 1)] hB ⟨h1, trivial⟩ ?_
  refine ae_then ?_
  refine aw_ret ?_
  refine ae_ret hB (Bv false) (by kernel_rfl) (.inl (by first | (refine congrArg Bv ?_; simp_all [okLabel, labB, inB]; done) | (refine congrArg Bv ?_; have hbd := bAt_bd s 0; rw [Bool.eq_iff_iff]; simp_all [okLabel, hasB, labB, inB]; omega))) rfl (fun _ => trivial)


-- impl.ValidFeat
theorem ValidFeat_ok (f : Feat) : Con Tryz.prog 99 [agFeat f] true (Bv (okF f)) := by
  refine fn_ok (fn := Tryz.f99) (nt := 16) Tryz.func99 rfl rfl rfl rfl (by simp [taggedL, tagged]) fun B hB => ?_
  refine aR [(0, .new 1)] [1] [1] [.ref 1 0] [some (bxFeat f)] [] hB trivial ?_
  refine aw_seq ?_
  rcases Bool.eq_false_or_eq_true (inB f.X 0 255) with h1 | h1
  ·rcases Bool.eq_false_or_eq_true (inB f.Y 0 255) with h2 | h2
   ·refine aw_r [(2, .call [(true, .any), (true, .any), (true, .any)] true (Bv true)), (6, .call [(true, .any), (true, .any), (true, .any)] true (Bv true)), (11, .call [(true, .any), (true, .any), (true, .any)] true (Bv (inB f.D 0 7)))] [2] [] [Bv (inB f.D 0 7)] [] [Con Tryz.prog 33 [I f.X, I 0, I 255] true (Bv true) ∧ True, Con Tryz.prog 33 [I f.Y, I 0, I 255] true (Bv true) ∧ True, Con Tryz.prog 33 [I f.D, I 0, I 7] true (Bv (inB f.D 0 7)) ∧ True] hB ⟨⟨(con_bool h1 (within_ok f.X 0 255)), trivial⟩, ⟨(con_bool h2 (within_ok f.Y 0 255)), trivial⟩, ⟨(within_ok f.D 0 7), trivial⟩, trivial⟩ ?_
    refine ae_then ?_
    refine aw_ret ?_
    refine ae_ret hB (Bv (inB f.D 0 7)) (by kernel_rfl) (.inl (by first | rfl | (refine congrArg Bv ?_; simp [okF, *]; done) | (refine congrArg Bv ?_; simp [okF, *]; omega) | (refine congrArg Bv ?_; simp_all [okF]; done) | (refine congrArg Bv ?_; simp_all [okF]; omega))) rfl (fun _ => trivial)
   refine aw_r [(2, .call [(true, .any), (true, .any), (true, .any)] true (Bv true)), (6, .call [(true, .any), (true, .any), (true, .any)] true (Bv false))] [2] [] [Bv false] [] [Con Tryz.prog 33 [I f.X, I 0, I 255] true (Bv true) ∧ True, Con Tryz.prog 33 [I f.Y, I 0, I 255] true (Bv false) ∧ True] hB ⟨⟨(con_bool h1 (within_ok f.X 0 255)), trivial⟩, ⟨(con_bool h2 (within_ok f.Y 0 255)), trivial⟩, trivial⟩ ?_
   refine ae_then ?_
   refine aw_ret ?_
   refine ae_ret hB (Bv false) (by kernel_rfl) (.inl (by first | rfl | (refine congrArg Bv ?_; simp [okF, *]; done) | (refine congrArg Bv ?_; simp [okF, *]; omega) | (refine congrArg Bv ?_; simp_all [okF]; done) | (refine congrArg Bv ?_; simp_all [okF]; omega))) rfl (fun _ => trivial)
  refine aw_r [(2, .call [(true, .any), (true, .any), (true, .any)] true (Bv false))] [2] [] [Bv false] [] [Con Tryz.prog 33 [I f.X, I 0, I 255] true (Bv false) ∧ True] hB ⟨⟨(con_bool h1 (within_ok f.X 0 255)), trivial⟩, trivial⟩ ?_
  refine ae_then ?_
  refine aw_ret ?_
  refine ae_ret hB (Bv false) (by kernel_rfl) (.inl (by first | rfl | (refine congrArg Bv ?_; simp [okF, *]; done) | (refine congrArg Bv ?_; simp [okF, *]; omega) | (refine congrArg Bv ?_; simp_all [okF]; done) | (refine congrArg Bv ?_; simp_all [okF]; omega))) rfl (fun _ => trivial)


-- impl.areFeats$1
theorem areFeats1_ok (f : Feat) : Con Tryz.prog 98 [agFeat f] true (Bv (!(okF f))) := by
  refine fn_ok (fn := Tryz.f98) (nt := 6) Tryz.func98 rfl rfl rfl rfl (by simp [taggedL, tagged]) fun B hB => ?_
  refine aR [(0, .new 1)] [1] [1] [.ref 1 0] [some (bxFeat f)] [] hB trivial ?_
  refine aR [(1, .call [(true, .any)] true (Bv (okF f)))] [2] [] [Bv (!(okF f))] [] [Con Tryz.prog 99 [agFeat f] true (Bv (okF f)) ∧ True] hB ⟨⟨(ValidFeat_ok f), trivial⟩, trivial⟩ ?_
  refine aw_ret ?_
  refine ae_ret hB (Bv (!(okF f))) (by kernel_rfl) (.inl rfl) rfl (fun _ => trivial)


/-- The first number below n that p holds of, or -1. -/
def firstN (n : Nat) (p : Nat → Bool) : Int := match (List.range n).find? p with
  | some i => i
  | none => -1
theorem firstN_hit {n : Nat} {p : Nat → Bool} {k : Nat} (hk : k < n) (hp : p k = true) (hn : ∀ i, i < k → p i = false) : firstN n p = k := by
  have h : (List.range n).find? p = some k := by
    rw [List.find?_range_eq_some]
    exact ⟨hp, List.mem_range.2 hk, fun j hj => by simpa using hn j hj⟩
  simp [firstN, h]
theorem firstN_none {n : Nat} {p : Nat → Bool} (hn : ∀ i, i < n → p i = false) : firstN n p = -1 := by
  have h : (List.range n).find? p = none := by
    rw [List.find?_range_eq_none]
    intro i hi; simpa using hn i hi
  simp [firstN, h]
theorem firstN_cases (n : Nat) (p : Nat → Bool) : (firstN n p = -1 ∧ ∀ i, i < n → p i = false) ∨ ∃ k : Nat, firstN n p = k ∧ k < n ∧ p k = true ∧ ∀ i, i < k → p i = false := by
  by_cases h : ∃ k, k < n ∧ p k = true
  · right
    obtain ⟨k, hk, hp⟩ := h
    cases e : (List.range n).find? p with
    | none => rw [List.find?_range_eq_none] at e; exact absurd hp (by simpa using e k hk)
    | some i =>
      have e' := e
      rw [List.find?_range_eq_some] at e
      exact ⟨i, by simp [firstN, e'], List.mem_range.1 e.2.1, e.1, fun j hj => by simpa using e.2.2 j hj⟩
  · left
    have h' : ∀ i, i < n → p i = false := fun i hi => by rw [← Bool.not_eq_true]; exact fun hp => h ⟨i, hi, hp⟩
    exact ⟨firstN_none h', h'⟩
theorem firstN_any (n : Nat) (p : Nat → Bool) : decide (0 ≤ firstN n p) = anyN n p := by
  rcases firstN_cases n p with ⟨h1, h2⟩ | ⟨k, h1, h2, h3, _⟩
  · rw [h1, anyN_none h2]; decide
  · rw [h1, anyN_at h2 h3]; simp

-- impl.areFeats
theorem containsFeat_ok_idx (s : List Feat) : Con Tryz.prog 112 [slFeat false s, .fn 98 []] true (I (firstN s.length (fun j => (!(okF (at_ s j)))))) := by
  refine fn_ok (fn := Tryz.f112) (nt := 19) Tryz.func112 rfl rfl rfl rfl (by simp [taggedL, tagged, tagFeat]) fun B hB => ?_
  refine aw_lens (x := slFeat false s) 0 rfl (fun len_s => ?_)
  simp [LenOK, LenL, cFeat, fFeat, slFeat] at len_s
  refine aR [] [0, 1] [] [slFeat false s, .fn 98 []] [] [] hB trivial ?_
  refine aw_seq ?_
  refine aR [] [0, 1, 7, 8] [] [slFeat false s, .fn 98 [], I (s.length : Int), I 0] [] [] hB trivial ?_
  refine aw_block ?_
  refine aw_loop (fun gn gσ => ∃ (t8 : Int), gn = ((s.length : Int) - t8).toNat ∧ (0 ≤ t8 ∧ t8 ≤ (s.length : Int)) ∧ (∀ j : Nat, (j : Int) < t8 → (!(okF (at_ s j))) = false) ∧ gσ = mkS [(0, slFeat false s), (1, .fn 98 []), (7, I (s.length : Int)), (8, I t8)] []) (((s.length : Int) - 0).toNat) ⟨0, rfl, (by omega), (by intro j hj; omega), rfl⟩ (fun gn gσ hI => ?_)
  obtain ⟨t8, rfl, hi0, hall0, rfl⟩ := hI
  refine aw_seq ?_
  by_cases h1 : t8 < (s.length : Int)
  ·have hi : t8.toNat < s.length := by omega
   refine aw_r [(0, .dec true)] [0, 1, 7, 8, 9] [] [slFeat false s, .fn 98 [], I (s.length : Int), I t8, Bv true] [] [t8 < (s.length : Int)] hB ⟨h1, trivial⟩ ?_
   refine ae_then ?_
   refine aw_seq ?_
   refine aw_true rfl ?_
   refine aw_skip ?_
   refine ae_then ?_
   refine aw_seq ?_
   refine aw_block ?_
   refine aR [] [0, 1, 5, 7, 8] [] [slFeat false s, .fn 98 [], I t8, I (s.length : Int), I t8] [] [] hB trivial ?_
   refine aw_seq ?_
   rcases Bool.eq_false_or_eq_true (!(okF (at_ s t8.toNat))) with h2 | h2
   ·have hfin : firstN s.length (fun j => (!(okF (at_ s j)))) = t8.toNat := firstN_hit hi h2 (fun j hj => hall0 j (by omega))
    refine aw_r [(5, .call [(true, .any)] true (Bv true))] [0, 1, 5, 7, 8, 16] [] [slFeat false s, .fn 98 [], I t8, I (s.length : Int), I t8, Bv true] [] [(0 : Int) ≤ t8 ∧ t8 < (s.length : Int), Con Tryz.prog 98 [agFeat (at_ s t8.toNat)] true (Bv true) ∧ True] hB ⟨⟨(by omega), (by omega)⟩, ⟨(con_bool h2 (areFeats1_ok (at_ s t8.toNat))), trivial⟩, trivial⟩ ?_
    refine ae_then ?_
    refine aw_true rfl ?_
    refine aR [] [4] [] [I t8] [] [] hB trivial ?_
    refine aw_ret ?_
    refine ae_ret_block (ae_ret_then (ae_ret_then (ae_ret_block (ae_ret_then ?_))))
    refine ae_ret hB (I t8) (by kernel_rfl) (.inl (by refine congrArg I ?_; first | (rw [hfin]; done) | (rw [hfin]; omega))) rfl (fun _ => trivial)
   refine aw_r [(5, .call [(true, .any)] true (Bv false))] [0, 1, 5, 7, 8, 16] [] [slFeat false s, .fn 98 [], I t8, I (s.length : Int), I t8, Bv false] [] [(0 : Int) ≤ t8 ∧ t8 < (s.length : Int), Con Tryz.prog 98 [agFeat (at_ s t8.toNat)] true (Bv false) ∧ True] hB ⟨⟨(by omega), (by omega)⟩, ⟨(con_bool h2 (areFeats1_ok (at_ s t8.toNat))), trivial⟩, trivial⟩ ?_
   refine ae_then ?_
   refine aw_false rfl ?_
   refine aw_skip ?_
   refine ae_block 1 ?_
   refine ae_then ?_
   refine aw_r [] [0, 1, 7, 8] [] [slFeat false s, .fn 98 [], I (s.length : Int), I (t8 + 1)] [] [inR .i64 (t8 + 1)] hB ⟨(inR_i64 (by omega) (by omega)), trivial⟩ ?_
   exact ae_again _ (by omega) ⟨(t8 + 1), rfl, (by omega), (by intro j hj; by_cases ej : j = t8.toNat; (subst ej; first | assumption | rfl); exact hall0 j (by omega)), rfl⟩
  have hfin : firstN s.length (fun j => (!(okF (at_ s j)))) = -1 := firstN_none (fun j hj => hall0 j (by omega))
  refine aw_r [(0, .dec false)] [0, 1, 7, 8, 9] [] [slFeat false s, .fn 98 [], I (s.length : Int), I t8, Bv false] [] [¬ (t8 < (s.length : Int))] hB ⟨h1, trivial⟩ ?_
  refine ae_then ?_
  refine aw_seq ?_
  refine aw_false rfl ?_
  refine aw_exit ?_
  refine ae_exit_then ?_
  refine ae_exit_then ?_
  refine ae_exit_same ?_
  refine ae_then ?_
  refine aR [] [4] [] [I (-1)] [] [] hB trivial ?_
  refine aw_ret ?_
  refine ae_ret hB (I (-1)) (by kernel_rfl) (.inl (by refine congrArg I ?_; first | (rw [hfin]; done) | (rw [hfin]; omega))) rfl (fun _ => trivial)

theorem containsFeat_ok (s : List Feat) : Con Tryz.prog 97 [slFeat false s, .fn 98 []] true (Bv (anyN s.length (fun j => (!(okF (at_ s j)))))) := by
  refine fn_ok (fn := Tryz.f97) (nt := 9) Tryz.func97 rfl rfl rfl rfl (by simp [taggedL, tagged, tagFeat]) fun B hB => ?_
  refine aw_lens (x := slFeat false s) 0 rfl (fun len_s => ?_)
  simp [LenOK, LenL, cFeat, fFeat, slFeat] at len_s
  refine aR [] [0, 1] [] [slFeat false s, .fn 98 []] [] [] hB trivial ?_
  refine aR [(2, .call [(true, .any), (true, .any)] true (I (firstN s.length (fun j => (!(okF (at_ s j)))))))] [4] [] [Bv (decide (0 ≤ (firstN s.length (fun j => (!(okF (at_ s j)))))))] [] [Con Tryz.prog 112 [slFeat false s, .fn 98 []] true (I (firstN s.length (fun j => (!(okF (at_ s j)))))) ∧ True] hB ⟨⟨(containsFeat_ok_idx s), trivial⟩, trivial⟩ ?_
  refine aw_ret ?_
  refine ae_ret hB (Bv (decide (0 ≤ (firstN s.length (fun j => (!(okF (at_ s j)))))))) (by kernel_rfl) (.inl (by exact congrArg Bv (firstN_any _ _))) rfl (fun _ => trivial)

theorem areFeats_ok (list : List Feat) (most : Int) : Con Tryz.prog 66 [slFeat false list, I most] true (Bv (okFeats list most)) := by
  refine fn_ok (fn := Tryz.f66) (nt := 19) Tryz.func66 rfl rfl rfl rfl (by simp [taggedL, tagged, tagFeat]) fun B hB => ?_
  refine aw_lens (x := slFeat false list) 0 rfl (fun len_list => ?_)
  simp [LenOK, LenL, cFeat, fFeat, slFeat] at len_list
  refine aR [] [0, 1] [] [slFeat false list, I most] [] [] hB trivial ?_
  refine aw_seq ?_
  by_cases h1 : 1 ≤ (list.length : Int)
  ·by_cases h2 : (list.length : Int) ≤ most
   ·refine aw_r [(2, .dec true), (7, .dec true), (11, .call [(true, .any), (true, .any)] true (Bv (anyN list.length (fun j => (!(okF (at_ list j)))))))] [4] [] [Bv (!(anyN list.length (fun j => (!(okF (at_ list j))))))] [] [1 ≤ (list.length : Int), (list.length : Int) ≤ most, Con Tryz.prog 97 [slFeat false list, .fn 98 []] true (Bv (anyN list.length (fun j => (!(okF (at_ list j)))))) ∧ True] hB ⟨h1, h2, ⟨(containsFeat_ok list), trivial⟩, trivial⟩ ?_
    refine ae_then ?_
    refine aw_ret ?_
    refine ae_ret hB (Bv (!(anyN list.length (fun j => (!(okF (at_ list j))))))) (by kernel_rfl) (.inl (by first | rfl | (refine congrArg Bv ?_; simp [okFeats, anyN_not, *]; done) | (refine congrArg Bv ?_; simp [okFeats, anyN_not, *]; omega) | (refine congrArg Bv ?_; simp_all [okFeats, anyN_not]; done) | (refine congrArg Bv ?_; simp_all [okFeats, anyN_not]; omega))) rfl (fun _ => trivial)
   refine aw_r [(2, .dec true), (7, .dec false)] [4] [] [Bv false] [] [1 ≤ (list.length : Int), ¬ ((list.length : Int) ≤ most)] hB ⟨h1, h2, trivial⟩ ?_
   refine ae_then ?_
   refine aw_ret ?_
   refine ae_ret hB (Bv false) (by kernel_rfl) (.inl (by first | rfl | (refine congrArg Bv ?_; simp [okFeats, anyN_not, *]; done) | (refine congrArg Bv ?_; simp [okFeats, anyN_not, *]; omega) | (refine congrArg Bv ?_; simp_all [okFeats, anyN_not]; done) | (refine congrArg Bv ?_; simp_all [okFeats, anyN_not]; omega))) rfl (fun _ => trivial)
  refine aw_r [(2, .dec false)] [4] [] [Bv false] [] [¬ (1 ≤ (list.length : Int))] hB ⟨h1, trivial⟩ ?_
  refine ae_then ?_
  refine aw_ret ?_
  refine ae_ret hB (Bv false) (by kernel_rfl) (.inl (by first | rfl | (refine congrArg Bv ?_; simp [okFeats, anyN_not, *]; done) | (refine congrArg Bv ?_; simp [okFeats, anyN_not, *]; omega) | (refine congrArg Bv ?_; simp_all [okFeats, anyN_not]; done) | (refine congrArg Bv ?_; simp_all [okFeats, anyN_not]; omega))) rfl (fun _ => trivial)


-- impl.ValidSeq
theorem ValidSeq_ok (list : List Feat) : Con Tryz.prog 31 [slFeat false list] true (Bv (okFeats list 72)) := by
  refine fn_ok (fn := Tryz.f31) (nt := 5) Tryz.func31 rfl rfl rfl rfl (by simp [taggedL, tagged, tagFeat]) fun B hB => ?_
  refine aw_lens (x := slFeat false list) 0 rfl (fun len_list => ?_)
  simp [LenOK, LenL, cFeat, fFeat, slFeat] at len_list
  refine aR [] [0] [] [slFeat false list] [] [] hB trivial ?_
  refine aR [(1, .call [(true, .any), (true, .any)] true (Bv (okFeats list 72)))] [2] [] [Bv (okFeats list 72)] [] [Con Tryz.prog 66 [slFeat false list, I 72] true (Bv (okFeats list 72)) ∧ True] hB ⟨⟨(areFeats_ok list 72), trivial⟩, trivial⟩ ?_
  refine aw_ret ?_
  refine ae_ret hB (Bv (okFeats list 72)) (by kernel_rfl) (.inl rfl) rfl (fun _ => trivial)


-- impl.abs
theorem abs_ok (n : Int) (hn : -9223372036854775807 ≤ n ∧ n ≤ 9223372036854775807) : Con Tryz.prog 101 [I n] true (I (n.natAbs : Int)) := by
  refine fn_ok (fn := Tryz.f101) (nt := 8) Tryz.func101 rfl rfl rfl rfl (by simp [taggedL, tagged]) fun B hB => ?_
  refine aR [] [0] [] [I n] [] [] hB trivial ?_
  refine aw_seq ?_
  refine aw_seq ?_
  by_cases h1 : n < 0
  ·refine aw_r [(1, .dec true)] [0, 4] [] [I n, Bv true] [] [n < 0] hB ⟨h1, trivial⟩ ?_
   refine ae_then ?_
   refine aw_true rfl ?_
   refine aR [] [2] [] [I (-n)] [] [inR .i64 (-n)] hB ⟨(inR_i64 (by omega) (by omega)), trivial⟩ ?_
   refine aw_ret ?_
   refine ae_ret_then ?_
   refine ae_ret hB (I (-n)) (by kernel_rfl) (.inl (by refine congrArg I ?_; omega)) rfl (fun _ => trivial)
  refine aw_r [(1, .dec false)] [0, 4] [] [I n, Bv false] [] [¬ (n < 0)] hB ⟨h1, trivial⟩ ?_
  refine ae_then ?_
  refine aw_false rfl ?_
  refine aw_skip ?_
  refine ae_then ?_
  refine aR [] [2] [] [I n] [] [] hB trivial ?_
  refine aw_ret ?_
  refine ae_ret hB (I n) (by kernel_rfl) (.inl (by refine congrArg I ?_; omega)) rfl (fun _ => trivial)


-- impl.near
theorem near_ok (a : Feat) (b : Feat) (ha : okF a = true) (hb : okF b = true) : Con Tryz.prog 96 [agFeat a, agFeat b] true (Bv (nearB a b)) := by
  have ha' := okF_iff.1 ha
  have hb' := okF_iff.1 hb
  refine fn_ok (fn := Tryz.f96) (nt := 28) Tryz.func96 rfl rfl rfl rfl (by simp [taggedL, tagged]) fun B hB => ?_
  refine aR [(0, .new 2), (1, .new 3)] [2, 3] [2, 3] [.ref 2 0, .ref 3 0] [some (bxFeat a), some (bxFeat b)] [] hB trivial ?_
  refine aw_seq ?_
  by_cases h1 : a.D = b.D
  ·by_cases h2 : ((a.X - b.X).natAbs : Int) ≤ 40
   ·refine aw_r [(4, .dec true), (11, .call [(true, .any)] true (I ((a.X - b.X).natAbs : Int))), (12, .dec true), (20, .call [(true, .any)] true (I ((a.Y - b.Y).natAbs : Int)))] [4] [] [Bv (decide (((a.Y - b.Y).natAbs : Int) ≤ 40))] [] [a.D = b.D, inR .i64 (a.X - b.X), Con Tryz.prog 101 [I (a.X - b.X)] true (I ((a.X - b.X).natAbs : Int)) ∧ True, ((a.X - b.X).natAbs : Int) ≤ 40, inR .i64 (a.Y - b.Y), Con Tryz.prog 101 [I (a.Y - b.Y)] true (I ((a.Y - b.Y).natAbs : Int)) ∧ True] hB ⟨h1, (inR_i64 (by omega) (by omega)), ⟨(abs_ok (a.X - b.X) (by omega)), trivial⟩, h2, (inR_i64 (by omega) (by omega)), ⟨(abs_ok (a.Y - b.Y) (by omega)), trivial⟩, trivial⟩ ?_
    refine ae_then ?_
    refine aw_ret ?_
    refine ae_ret hB (Bv (decide (((a.Y - b.Y).natAbs : Int) ≤ 40))) (by kernel_rfl) (.inl (by first | rfl | (refine congrArg Bv ?_; simp [nearB, *]; done) | (refine congrArg Bv ?_; simp [nearB, *]; omega) | (refine congrArg Bv ?_; simp_all [nearB]; done) | (refine congrArg Bv ?_; simp_all [nearB]; omega))) rfl (fun _ => trivial)
   refine aw_r [(4, .dec true), (11, .call [(true, .any)] true (I ((a.X - b.X).natAbs : Int))), (12, .dec false)] [4] [] [Bv false] [] [a.D = b.D, inR .i64 (a.X - b.X), Con Tryz.prog 101 [I (a.X - b.X)] true (I ((a.X - b.X).natAbs : Int)) ∧ True, ¬ (((a.X - b.X).natAbs : Int) ≤ 40)] hB ⟨h1, (inR_i64 (by omega) (by omega)), ⟨(abs_ok (a.X - b.X) (by omega)), trivial⟩, h2, trivial⟩ ?_
   refine ae_then ?_
   refine aw_ret ?_
   refine ae_ret hB (Bv false) (by kernel_rfl) (.inl (by first | rfl | (refine congrArg Bv ?_; simp [nearB, *]; done) | (refine congrArg Bv ?_; simp [nearB, *]; omega) | (refine congrArg Bv ?_; simp_all [nearB]; done) | (refine congrArg Bv ?_; simp_all [nearB]; omega))) rfl (fun _ => trivial)
  refine aw_r [(4, .dec false)] [4] [] [Bv false] [] [¬ (a.D = b.D)] hB ⟨h1, trivial⟩ ?_
  refine ae_then ?_
  refine aw_ret ?_
  refine ae_ret hB (Bv false) (by kernel_rfl) (.inl (by first | rfl | (refine congrArg Bv ?_; simp [nearB, *]; done) | (refine congrArg Bv ?_; simp [nearB, *]; omega) | (refine congrArg Bv ?_; simp_all [nearB]; done) | (refine congrArg Bv ?_; simp_all [nearB]; omega))) rfl (fun _ => trivial)


-- impl.ValidTrained
theorem equalNear_ok (s1 : List Feat) (s2 : List Feat) (hel : ∀ j, j < s1.length → j < s2.length → okF (at_ s1 j) = true ∧ okF (at_ s2 j) = true) : Con Tryz.prog 95 [slFeat false s1, slFeat false s2, .fn 96 []] true (Bv (decide (s1.length = s2.length) && allN s1.length (fun j => nearB (at_ s1 j) (at_ s2 j)))) := by
  refine fn_ok (fn := Tryz.f95) (nt := 32) Tryz.func95 rfl rfl rfl rfl (by simp [taggedL, tagged, tagFeat]) fun B hB => ?_
  refine aw_lens (x := slFeat false s1) 0 rfl (fun len_s1 => ?_)
  simp [LenOK, LenL, cFeat, fFeat, slFeat] at len_s1
  refine aw_lens (x := slFeat false s2) 1 rfl (fun len_s2 => ?_)
  simp [LenOK, LenL, cFeat, fFeat, slFeat] at len_s2
  refine aR [] [0, 1, 2] [] [slFeat false s1, slFeat false s2, .fn 96 []] [] [] hB trivial ?_
  refine aw_seq ?_
  refine aw_seq ?_
  by_cases h1 : (s1.length : Int) = (s2.length : Int)
  ·have hle :  s1.length = s2.length := by omega
   refine aw_r [(4, .dec false)] [0, 1, 2, 14] [] [slFeat false s1, slFeat false s2, .fn 96 [], Bv false] [] [¬ ((s1.length : Int) ≠ (s2.length : Int))] hB ⟨(fun hq => hq h1), trivial⟩ ?_
   refine ae_then ?_
   refine aw_false rfl ?_
   refine aw_skip ?_
   refine ae_then ?_
   refine aw_seq ?_
   refine aR [] [1, 2, 15, 16, 17] [] [slFeat false s2, .fn 96 [], slFeat false s1, I (s1.length : Int), I 0] [] [] hB trivial ?_
   refine aw_block ?_
   refine aw_loop (fun gn gσ => ∃ (t17 : Int), gn = ((s1.length : Int) - t17).toNat ∧ (0 ≤ t17 ∧ t17 ≤ (s1.length : Int)) ∧ (∀ j : Nat, (j : Int) < t17 → nearB (at_ s1 j) (at_ s2 j) = true) ∧ gσ = mkS [(1, slFeat false s2), (2, .fn 96 []), (15, slFeat false s1), (16, I (s1.length : Int)), (17, I t17)] []) (((s1.length : Int) - 0).toNat) ⟨0, rfl, (by omega), (by intro j hj; omega), rfl⟩ (fun gn gσ hI => ?_)
   obtain ⟨t17, rfl, hi0, hall0, rfl⟩ := hI
   refine aw_seq ?_
   by_cases h2 : t17 < (s1.length : Int)
   ·have hi : t17.toNat < s1.length := by omega
    have hi2 : t17.toNat < s2.length := by omega
    refine aw_r [(0, .dec true)] [1, 2, 15, 16, 17, 18] [] [slFeat false s2, .fn 96 [], slFeat false s1, I (s1.length : Int), I t17, Bv true] [] [t17 < (s1.length : Int)] hB ⟨h2, trivial⟩ ?_
    refine ae_then ?_
    refine aw_seq ?_
    refine aw_true rfl ?_
    refine aw_skip ?_
    refine ae_then ?_
    refine aw_seq ?_
    refine aw_block ?_
    refine aR [(3, .new 8)] [1, 2, 7, 8, 15, 16, 17] [8] [slFeat false s2, .fn 96 [], I t17, .ref 8 0, slFeat false s1, I (s1.length : Int), I t17] [some (bxFeat (at_ s1 t17.toNat))] [(0 : Int) ≤ t17 ∧ t17 < (s1.length : Int)] hB ⟨⟨(by omega), (by omega)⟩, trivial⟩ ?_
    refine aR [(4, .new 9)] [1, 2, 8, 9, 15, 16, 17] [8, 9] [slFeat false s2, .fn 96 [], .ref 8 0, .ref 9 0, slFeat false s1, I (s1.length : Int), I t17] [some (bxFeat (at_ s1 t17.toNat)), some (bxFeat (at_ s2 t17.toNat))] [(0 : Int) ≤ t17 ∧ t17 < (s2.length : Int)] hB ⟨⟨(by omega), (by omega)⟩, trivial⟩ ?_
    refine aw_seq ?_
    rcases Bool.eq_false_or_eq_true (nearB (at_ s1 t17.toNat) (at_ s2 t17.toNat)) with h3 | h3
    ·refine aw_r [(3, .call [(true, .any), (true, .any)] true (Bv true))] [1, 2, 15, 16, 17, 30] [] [slFeat false s2, .fn 96 [], slFeat false s1, I (s1.length : Int), I t17, Bv false] [] [Con Tryz.prog 96 [agFeat (at_ s1 t17.toNat), agFeat (at_ s2 t17.toNat)] true (Bv true) ∧ True] hB ⟨⟨(con_bool h3 (near_ok (at_ s1 t17.toNat) (at_ s2 t17.toNat) (hel _ hi hi2).1 (hel _ hi hi2).2)), trivial⟩, trivial⟩ ?_
     refine ae_then ?_
     refine aw_false rfl ?_
     refine aw_skip ?_
     refine ae_block 1 ?_
     refine ae_then ?_
     refine aw_r [] [1, 2, 15, 16, 17] [] [slFeat false s2, .fn 96 [], slFeat false s1, I (s1.length : Int), I (t17 + 1)] [] [inR .i64 (t17 + 1)] hB ⟨(inR_i64 (by omega) (by omega)), trivial⟩ ?_
     exact ae_again _ (by omega) ⟨(t17 + 1), rfl, (by omega), (by intro j hj; by_cases ej : j = t17.toNat; (subst ej; assumption); exact hall0 j (by omega)), rfl⟩
    have hfin : allN s1.length (fun j => nearB (at_ s1 j) (at_ s2 j)) = false := allN_not hi h3
    refine aw_r [(3, .call [(true, .any), (true, .any)] true (Bv false))] [1, 2, 15, 16, 17, 30] [] [slFeat false s2, .fn 96 [], slFeat false s1, I (s1.length : Int), I t17, Bv true] [] [Con Tryz.prog 96 [agFeat (at_ s1 t17.toNat), agFeat (at_ s2 t17.toNat)] true (Bv false) ∧ True] hB ⟨⟨(con_bool h3 (near_ok (at_ s1 t17.toNat) (at_ s2 t17.toNat) (hel _ hi hi2).1 (hel _ hi hi2).2)), trivial⟩, trivial⟩ ?_
    refine ae_then ?_
    refine aw_true rfl ?_
    refine aR [] [6] [] [Bv false] [] [] hB trivial ?_
    refine aw_ret ?_
    refine ae_ret_block (ae_ret_then (ae_ret_then (ae_ret_block (ae_ret_then ?_))))
    refine ae_ret hB (Bv false) (by kernel_rfl) (.inl (by refine congrArg Bv ?_; first | (rw [hfin, decide_eq_true hle]; rfl) | (rw [hfin, Bool.and_false]) | (rw [decide_eq_false hle, Bool.false_and]))) rfl (fun _ => trivial)
   have hfin : allN s1.length (fun j => nearB (at_ s1 j) (at_ s2 j)) = true := allN_at (fun j hj => hall0 j (by omega))
   have hle : s1.length = s2.length := by omega
   refine aw_r [(0, .dec false)] [1, 2, 15, 16, 17, 18] [] [slFeat false s2, .fn 96 [], slFeat false s1, I (s1.length : Int), I t17, Bv false] [] [¬ (t17 < (s1.length : Int))] hB ⟨h2, trivial⟩ ?_
   refine ae_then ?_
   refine aw_seq ?_
   refine aw_false rfl ?_
   refine aw_exit ?_
   refine ae_exit_then ?_
   refine ae_exit_then ?_
   refine ae_exit_same ?_
   refine ae_then ?_
   refine aR [] [6] [] [Bv true] [] [] hB trivial ?_
   refine aw_ret ?_
   refine ae_ret hB (Bv true) (by kernel_rfl) (.inl (by refine congrArg Bv ?_; first | (rw [hfin, decide_eq_true hle]; rfl) | (rw [hfin, Bool.and_false]) | (rw [decide_eq_false hle, Bool.false_and]))) rfl (fun _ => trivial)
  have hle : ¬ s1.length = s2.length := by omega
  refine aw_r [(4, .dec true)] [0, 1, 2, 14] [] [slFeat false s1, slFeat false s2, .fn 96 [], Bv true] [] [(s1.length : Int) ≠ (s2.length : Int)] hB ⟨h1, trivial⟩ ?_
  refine ae_then ?_
  refine aw_true rfl ?_
  refine aR [] [6] [] [Bv false] [] [] hB trivial ?_
  refine aw_ret ?_
  refine ae_ret_then ?_
  refine ae_ret hB (Bv false) (by kernel_rfl) (.inl (by refine congrArg Bv ?_; first | (rw [hfin, decide_eq_true hle]; rfl) | (rw [hfin, Bool.and_false]) | (rw [decide_eq_false hle, Bool.false_and]))) rfl (fun _ => trivial)

theorem ValidTrained_ok (t : Trained) (ok : okTrained t) : Con Tryz.prog 65 [agTrained t] true (Bv (okTrained' t)) := by
  refine fn_ok (fn := Tryz.f65) (nt := 28) Tryz.func65 rfl rfl rfl rfl (by simp [taggedL, tagged, tagFeat]) fun B hB => ?_
  refine aw_lens (x := agTrained t) 0 rfl (fun len_t => ?_)
  simp [LenOK, LenL, cFeat, fFeat, slFeat] at len_t
  refine aR [(0, .new 1)] [1] [1] [.ref 1 0] [some (bxTrained t)] [] hB trivial ?_
  refine aw_seq ?_
  rcases Bool.eq_false_or_eq_true (okLabel t.Label) with h1 | h1
  ·rcases Bool.eq_false_or_eq_true (okFeats t.Base 72) with h2 | h2
   ·rcases Bool.eq_false_or_eq_true (okFeats t.Feats 72) with h3 | h3
    ·rcases Bool.eq_false_or_eq_true (decide (t.Base.length = t.Feats.length) && allN t.Base.length (fun j => nearB (at_ t.Base j) (at_ t.Feats j))) with h4 | h4
     ·refine aw_r [(2, .call [(true, .any)] true (Bv true)), (6, .call [(true, .any)] true (Bv true)), (11, .call [(true, .any)] true (Bv true)), (18, .call [(true, .any), (true, .any), (true, .any)] true (Bv true)), (23, .call [(true, .any), (true, .any), (true, .any)] true (Bv (inB t.Count 0 100)))] [2] [] [Bv (inB t.Count 0 100)] [] [Con Tryz.prog 32 [Sv t.Label] true (Bv true) ∧ True, Con Tryz.prog 31 [slFeat false t.Base] true (Bv true) ∧ True, Con Tryz.prog 31 [slFeat false t.Feats] true (Bv true) ∧ True, Con Tryz.prog 95 [slFeat false t.Base, slFeat false t.Feats, .fn 96 []] true (Bv true) ∧ True, Con Tryz.prog 33 [I t.Count, I 0, I 100] true (Bv (inB t.Count 0 100)) ∧ True] hB ⟨⟨(con_bool h1 (implIsLabel_ok t.Label ok)), trivial⟩, ⟨(con_bool h2 (ValidSeq_ok t.Base)), trivial⟩, ⟨(con_bool h3 (ValidSeq_ok t.Feats)), trivial⟩, ⟨(con_bool h4 (equalNear_ok t.Base t.Feats (fun j h1 h2 => ⟨okFeats_at (by assumption) h1, okFeats_at (by assumption) h2⟩))), trivial⟩, ⟨(within_ok t.Count 0 100), trivial⟩, trivial⟩ ?_
      refine ae_then ?_
      refine aw_ret ?_
      refine ae_ret hB (Bv (inB t.Count 0 100)) (by kernel_rfl) (.inl (by first | rfl | (refine congrArg Bv ?_; simp [okTrained', inB, *]; done) | (refine congrArg Bv ?_; simp [okTrained', inB, *]; omega) | (refine congrArg Bv ?_; simp_all [okTrained', inB]; done) | (refine congrArg Bv ?_; simp_all [okTrained', inB]; omega))) rfl (fun _ => trivial)
     refine aw_r [(2, .call [(true, .any)] true (Bv true)), (6, .call [(true, .any)] true (Bv true)), (11, .call [(true, .any)] true (Bv true)), (18, .call [(true, .any), (true, .any), (true, .any)] true (Bv false))] [2] [] [Bv false] [] [Con Tryz.prog 32 [Sv t.Label] true (Bv true) ∧ True, Con Tryz.prog 31 [slFeat false t.Base] true (Bv true) ∧ True, Con Tryz.prog 31 [slFeat false t.Feats] true (Bv true) ∧ True, Con Tryz.prog 95 [slFeat false t.Base, slFeat false t.Feats, .fn 96 []] true (Bv false) ∧ True] hB ⟨⟨(con_bool h1 (implIsLabel_ok t.Label ok)), trivial⟩, ⟨(con_bool h2 (ValidSeq_ok t.Base)), trivial⟩, ⟨(con_bool h3 (ValidSeq_ok t.Feats)), trivial⟩, ⟨(con_bool h4 (equalNear_ok t.Base t.Feats (fun j h1 h2 => ⟨okFeats_at (by assumption) h1, okFeats_at (by assumption) h2⟩))), trivial⟩, trivial⟩ ?_
     refine ae_then ?_
     refine aw_ret ?_
     refine ae_ret hB (Bv false) (by kernel_rfl) (.inl (by first | rfl | (refine congrArg Bv ?_; simp [okTrained', inB, *]; done) | (refine congrArg Bv ?_; simp [okTrained', inB, *]; omega) | (refine congrArg Bv ?_; simp_all [okTrained', inB]; done) | (refine congrArg Bv ?_; simp_all [okTrained', inB]; omega))) rfl (fun _ => trivial)
    refine aw_r [(2, .call [(true, .any)] true (Bv true)), (6, .call [(true, .any)] true (Bv true)), (11, .call [(true, .any)] true (Bv false))] [2] [] [Bv false] [] [Con Tryz.prog 32 [Sv t.Label] true (Bv true) ∧ True, Con Tryz.prog 31 [slFeat false t.Base] true (Bv true) ∧ True, Con Tryz.prog 31 [slFeat false t.Feats] true (Bv false) ∧ True] hB ⟨⟨(con_bool h1 (implIsLabel_ok t.Label ok)), trivial⟩, ⟨(con_bool h2 (ValidSeq_ok t.Base)), trivial⟩, ⟨(con_bool h3 (ValidSeq_ok t.Feats)), trivial⟩, trivial⟩ ?_
    refine ae_then ?_
    refine aw_ret ?_
    refine ae_ret hB (Bv false) (by kernel_rfl) (.inl (by first | rfl | (refine congrArg Bv ?_; simp [okTrained', inB, *]; done) | (refine congrArg Bv ?_; simp [okTrained', inB, *]; omega) | (refine congrArg Bv ?_; simp_all [okTrained', inB]; done) | (refine congrArg Bv ?_; simp_all [okTrained', inB]; omega))) rfl (fun _ => trivial)
   refine aw_r [(2, .call [(true, .any)] true (Bv true)), (6, .call [(true, .any)] true (Bv false))] [2] [] [Bv false] [] [Con Tryz.prog 32 [Sv t.Label] true (Bv true) ∧ True, Con Tryz.prog 31 [slFeat false t.Base] true (Bv false) ∧ True] hB ⟨⟨(con_bool h1 (implIsLabel_ok t.Label ok)), trivial⟩, ⟨(con_bool h2 (ValidSeq_ok t.Base)), trivial⟩, trivial⟩ ?_
   refine ae_then ?_
   refine aw_ret ?_
   refine ae_ret hB (Bv false) (by kernel_rfl) (.inl (by first | rfl | (refine congrArg Bv ?_; simp [okTrained', inB, *]; done) | (refine congrArg Bv ?_; simp [okTrained', inB, *]; omega) | (refine congrArg Bv ?_; simp_all [okTrained', inB]; done) | (refine congrArg Bv ?_; simp_all [okTrained', inB]; omega))) rfl (fun _ => trivial)
  refine aw_r [(2, .call [(true, .any)] true (Bv false))] [2] [] [Bv false] [] [Con Tryz.prog 32 [Sv t.Label] true (Bv false) ∧ True] hB ⟨⟨(con_bool h1 (implIsLabel_ok t.Label ok)), trivial⟩, trivial⟩ ?_
  refine ae_then ?_
  refine aw_ret ?_
  refine ae_ret hB (Bv false) (by kernel_rfl) (.inl (by first | rfl | (refine congrArg Bv ?_; simp [okTrained', inB, *]; done) | (refine congrArg Bv ?_; simp [okTrained', inB, *]; omega) | (refine congrArg Bv ?_; simp_all [okTrained', inB]; done) | (refine congrArg Bv ?_; simp_all [okTrained', inB]; omega))) rfl (fun _ => trivial)


-- impl.ValidWriter$1
theorem ValidWriter1_ok (t : Trained) (ok : okTrained t) : Con Tryz.prog 64 [agTrained t] true (Bv (!(okTrained' t))) := by
  refine fn_ok (fn := Tryz.f64) (nt := 6) Tryz.func64 rfl rfl rfl rfl (by simp [taggedL, tagged, tagFeat]) fun B hB => ?_
  refine aw_lens (x := agTrained t) 0 rfl (fun len_t => ?_)
  simp [LenOK, LenL, cFeat, fFeat, slFeat] at len_t
  refine aR [(0, .new 1)] [1] [1] [.ref 1 0] [some (bxTrained t)] [] hB trivial ?_
  refine aR [(1, .call [(true, .any)] true (Bv (okTrained' t)))] [2] [] [Bv (!(okTrained' t))] [] [Con Tryz.prog 65 [agTrained t] true (Bv (okTrained' t)) ∧ True] hB ⟨⟨(ValidTrained_ok t ok), trivial⟩, trivial⟩ ?_
  refine aw_ret ?_
  refine ae_ret hB (Bv (!(okTrained' t))) (by kernel_rfl) (.inl rfl) rfl (fun _ => trivial)


-- impl.ValidWriter
theorem containsTr_ok_idx (s : List Trained) (hel : ∀ j, j < s.length → okTrained (at_ s j)) : Con Tryz.prog 94 [slTrained false s, .fn 64 []] true (I (firstN s.length (fun j => (!(okTrained' (at_ s j)))))) := by
  refine fn_ok (fn := Tryz.f94) (nt := 19) Tryz.func94 rfl rfl rfl rfl (by simp [taggedL, tagged, tagTrained]) fun B hB => ?_
  refine aw_lens (x := slTrained false s) 0 rfl (fun len_s => ?_)
  simp [LenOK, LenL, cFeat, cTrained, fFeat, fTrained, slFeat, slTrained] at len_s
  refine aR [] [0, 1] [] [slTrained false s, .fn 64 []] [] [] hB trivial ?_
  refine aw_seq ?_
  refine aR [] [0, 1, 7, 8] [] [slTrained false s, .fn 64 [], I (s.length : Int), I 0] [] [] hB trivial ?_
  refine aw_block ?_
  refine aw_loop (fun gn gσ => ∃ (t8 : Int), gn = ((s.length : Int) - t8).toNat ∧ (0 ≤ t8 ∧ t8 ≤ (s.length : Int)) ∧ (∀ j : Nat, (j : Int) < t8 → (!(okTrained' (at_ s j))) = false) ∧ gσ = mkS [(0, slTrained false s), (1, .fn 64 []), (7, I (s.length : Int)), (8, I t8)] []) (((s.length : Int) - 0).toNat) ⟨0, rfl, (by omega), (by intro j hj; omega), rfl⟩ (fun gn gσ hI => ?_)
  obtain ⟨t8, rfl, hi0, hall0, rfl⟩ := hI
  refine aw_seq ?_
  by_cases h1 : t8 < (s.length : Int)
  ·have hi : t8.toNat < s.length := by omega
   refine aw_r [(0, .dec true)] [0, 1, 7, 8, 9] [] [slTrained false s, .fn 64 [], I (s.length : Int), I t8, Bv true] [] [t8 < (s.length : Int)] hB ⟨h1, trivial⟩ ?_
   refine ae_then ?_
   refine aw_seq ?_
   refine aw_true rfl ?_
   refine aw_skip ?_
   refine ae_then ?_
   refine aw_seq ?_
   refine aw_block ?_
   refine aR [] [0, 1, 5, 7, 8] [] [slTrained false s, .fn 64 [], I t8, I (s.length : Int), I t8] [] [] hB trivial ?_
   refine aw_seq ?_
   rcases Bool.eq_false_or_eq_true (!(okTrained' (at_ s t8.toNat))) with h2 | h2
   ·have hfin : firstN s.length (fun j => (!(okTrained' (at_ s j)))) = t8.toNat := firstN_hit hi h2 (fun j hj => hall0 j (by omega))
    refine aw_r [(5, .call [(true, .any)] true (Bv true))] [0, 1, 5, 7, 8, 16] [] [slTrained false s, .fn 64 [], I t8, I (s.length : Int), I t8, Bv true] [] [(0 : Int) ≤ t8 ∧ t8 < (s.length : Int), Con Tryz.prog 64 [agTrained (at_ s t8.toNat)] true (Bv true) ∧ True] hB ⟨⟨(by omega), (by omega)⟩, ⟨(con_bool h2 (ValidWriter1_ok (at_ s t8.toNat) (hel _ hi))), trivial⟩, trivial⟩ ?_
    refine ae_then ?_
    refine aw_true rfl ?_
    refine aR [] [4] [] [I t8] [] [] hB trivial ?_
    refine aw_ret ?_
    refine ae_ret_block (ae_ret_then (ae_ret_then (ae_ret_block (ae_ret_then ?_))))
    refine ae_ret hB (I t8) (by kernel_rfl) (.inl (by refine congrArg I ?_; first | (rw [hfin]; done) | (rw [hfin]; omega))) rfl (fun _ => trivial)
   refine aw_r [(5, .call [(true, .any)] true (Bv false))] [0, 1, 5, 7, 8, 16] [] [slTrained false s, .fn 64 [], I t8, I (s.length : Int), I t8, Bv false] [] [(0 : Int) ≤ t8 ∧ t8 < (s.length : Int), Con Tryz.prog 64 [agTrained (at_ s t8.toNat)] true (Bv false) ∧ True] hB ⟨⟨(by omega), (by omega)⟩, ⟨(con_bool h2 (ValidWriter1_ok (at_ s t8.toNat) (hel _ hi))), trivial⟩, trivial⟩ ?_
   refine ae_then ?_
   refine aw_false rfl ?_
   refine aw_skip ?_
   refine ae_block 1 ?_
   refine ae_then ?_
   refine aw_r [] [0, 1, 7, 8] [] [slTrained false s, .fn 64 [], I (s.length : Int), I (t8 + 1)] [] [inR .i64 (t8 + 1)] hB ⟨(inR_i64 (by omega) (by omega)), trivial⟩ ?_
   exact ae_again _ (by omega) ⟨(t8 + 1), rfl, (by omega), (by intro j hj; by_cases ej : j = t8.toNat; (subst ej; first | assumption | rfl); exact hall0 j (by omega)), rfl⟩
  have hfin : firstN s.length (fun j => (!(okTrained' (at_ s j)))) = -1 := firstN_none (fun j hj => hall0 j (by omega))
  refine aw_r [(0, .dec false)] [0, 1, 7, 8, 9] [] [slTrained false s, .fn 64 [], I (s.length : Int), I t8, Bv false] [] [¬ (t8 < (s.length : Int))] hB ⟨h1, trivial⟩ ?_
  refine ae_then ?_
  refine aw_seq ?_
  refine aw_false rfl ?_
  refine aw_exit ?_
  refine ae_exit_then ?_
  refine ae_exit_then ?_
  refine ae_exit_same ?_
  refine ae_then ?_
  refine aR [] [4] [] [I (-1)] [] [] hB trivial ?_
  refine aw_ret ?_
  refine ae_ret hB (I (-1)) (by kernel_rfl) (.inl (by refine congrArg I ?_; first | (rw [hfin]; done) | (rw [hfin]; omega))) rfl (fun _ => trivial)

theorem containsTr_ok (s : List Trained) (hel : ∀ j, j < s.length → okTrained (at_ s j)) : Con Tryz.prog 63 [slTrained false s, .fn 64 []] true (Bv (anyN s.length (fun j => (!(okTrained' (at_ s j)))))) := by
  refine fn_ok (fn := Tryz.f63) (nt := 9) Tryz.func63 rfl rfl rfl rfl (by simp [taggedL, tagged, tagTrained]) fun B hB => ?_
  refine aw_lens (x := slTrained false s) 0 rfl (fun len_s => ?_)
  simp [LenOK, LenL, cFeat, cTrained, fFeat, fTrained, slFeat, slTrained] at len_s
  refine aR [] [0, 1] [] [slTrained false s, .fn 64 []] [] [] hB trivial ?_
  refine aR [(2, .call [(true, .any), (true, .any)] true (I (firstN s.length (fun j => (!(okTrained' (at_ s j)))))))] [4] [] [Bv (decide (0 ≤ (firstN s.length (fun j => (!(okTrained' (at_ s j)))))))] [] [Con Tryz.prog 94 [slTrained false s, .fn 64 []] true (I (firstN s.length (fun j => (!(okTrained' (at_ s j)))))) ∧ True] hB ⟨⟨(containsTr_ok_idx s hel), trivial⟩, trivial⟩ ?_
  refine aw_ret ?_
  refine ae_ret hB (Bv (decide (0 ≤ (firstN s.length (fun j => (!(okTrained' (at_ s j)))))))) (by kernel_rfl) (.inl (by exact congrArg Bv (firstN_any _ _))) rfl (fun _ => trivial)

theorem ValidWriter_ok (w : Writer) (ok : okWriter w) : Con Tryz.prog 30 [agWriter w] true (Bv (okWriter' w)) := by
  refine fn_ok (fn := Tryz.f30) (nt := 18) Tryz.func30 rfl rfl rfl rfl (by simp [taggedL, tagged, tagTrained]) fun B hB => ?_
  refine aw_lens (x := agWriter w) 0 rfl (fun len_w => ?_)
  simp [LenOK, LenL, cFeat, cTrained, fFeat, fTrained, slFeat, slTrained] at len_w
  refine aR [(0, .new 1)] [1] [1] [.ref 1 0] [some (bxWriter w)] [] hB trivial ?_
  refine aw_seq ?_
  rcases Bool.eq_false_or_eq_true (inB w.Band 0 72) with h1 | h1
  ·by_cases h2 : (w.Trained.length : Int) ≤ 40
   ·refine aw_r [(2, .call [(true, .any), (true, .any), (true, .any)] true (Bv true)), (7, .dec true), (12, .call [(true, .any), (true, .any)] true (Bv (anyN w.Trained.length (fun j => (!(okTrained' (at_ w.Trained j)))))))] [2] [] [Bv (!(anyN w.Trained.length (fun j => (!(okTrained' (at_ w.Trained j))))))] [] [Con Tryz.prog 33 [I w.Band, I 0, I 72] true (Bv true) ∧ True, (w.Trained.length : Int) ≤ 40, Con Tryz.prog 63 [slTrained false w.Trained, .fn 64 []] true (Bv (anyN w.Trained.length (fun j => (!(okTrained' (at_ w.Trained j)))))) ∧ True] hB ⟨⟨(con_bool h1 (within_ok w.Band 0 72)), trivial⟩, h2, ⟨(containsTr_ok w.Trained (fun j hj => ok _ (at_mem hj))), trivial⟩, trivial⟩ ?_
    refine ae_then ?_
    refine aw_ret ?_
    refine ae_ret hB (Bv (!(anyN w.Trained.length (fun j => (!(okTrained' (at_ w.Trained j))))))) (by kernel_rfl) (.inl (by first | rfl | (refine congrArg Bv ?_; simp [okWriter', anyN_not, *]; done) | (refine congrArg Bv ?_; simp [okWriter', anyN_not, *]; omega) | (refine congrArg Bv ?_; simp_all [okWriter', anyN_not]; done) | (refine congrArg Bv ?_; simp_all [okWriter', anyN_not]; omega))) rfl (fun _ => trivial)
   refine aw_r [(2, .call [(true, .any), (true, .any), (true, .any)] true (Bv true)), (7, .dec false)] [2] [] [Bv false] [] [Con Tryz.prog 33 [I w.Band, I 0, I 72] true (Bv true) ∧ True, ¬ ((w.Trained.length : Int) ≤ 40)] hB ⟨⟨(con_bool h1 (within_ok w.Band 0 72)), trivial⟩, h2, trivial⟩ ?_
   refine ae_then ?_
   refine aw_ret ?_
   refine ae_ret hB (Bv false) (by kernel_rfl) (.inl (by first | rfl | (refine congrArg Bv ?_; simp [okWriter', anyN_not, *]; done) | (refine congrArg Bv ?_; simp [okWriter', anyN_not, *]; omega) | (refine congrArg Bv ?_; simp_all [okWriter', anyN_not]; done) | (refine congrArg Bv ?_; simp_all [okWriter', anyN_not]; omega))) rfl (fun _ => trivial)
  refine aw_r [(2, .call [(true, .any), (true, .any), (true, .any)] true (Bv false))] [2] [] [Bv false] [] [Con Tryz.prog 33 [I w.Band, I 0, I 72] true (Bv false) ∧ True] hB ⟨⟨(con_bool h1 (within_ok w.Band 0 72)), trivial⟩, trivial⟩ ?_
  refine ae_then ?_
  refine aw_ret ?_
  refine ae_ret hB (Bv false) (by kernel_rfl) (.inl (by first | rfl | (refine congrArg Bv ?_; simp [okWriter', anyN_not, *]; done) | (refine congrArg Bv ?_; simp [okWriter', anyN_not, *]; omega) | (refine congrArg Bv ?_; simp_all [okWriter', anyN_not]; done) | (refine congrArg Bv ?_; simp_all [okWriter', anyN_not]; omega))) rfl (fun _ => trivial)


-- impl.isBand
theorem isBand_ok (band : Int) (n : Int) (m : Int) (hn : 0 ≤ n ∧ n ≤ 4611686018427387904) (hm : 0 ≤ m ∧ m ≤ 4611686018427387904) : Con Tryz.prog 69 [I band, I n, I m] true (Bv (inB band 0 72 && decide (((n - m).natAbs : Int) ≤ band))) := by
  refine fn_ok (fn := Tryz.f69) (nt := 17) Tryz.func69 rfl rfl rfl rfl (by simp [taggedL, tagged]) fun B hB => ?_
  refine aR [] [0, 1, 2] [] [I band, I n, I m] [] [] hB trivial ?_
  refine aw_seq ?_
  rcases Bool.eq_false_or_eq_true (inB band 0 72) with h1 | h1
  ·refine aw_r [(1, .call [(true, .any), (true, .any), (true, .any)] true (Bv true)), (6, .call [(true, .any)] true (I ((n - m).natAbs : Int)))] [6] [] [Bv (decide (((n - m).natAbs : Int) ≤ band))] [] [Con Tryz.prog 33 [I band, I 0, I 72] true (Bv true) ∧ True, inR .i64 (n - m), Con Tryz.prog 101 [I (n - m)] true (I ((n - m).natAbs : Int)) ∧ True] hB ⟨⟨(con_bool h1 (within_ok band 0 72)), trivial⟩, (inR_i64 (by omega) (by omega)), ⟨(abs_ok (n - m) (by omega)), trivial⟩, trivial⟩ ?_
   refine ae_then ?_
   refine aw_ret ?_
   refine ae_ret hB (Bv (decide (((n - m).natAbs : Int) ≤ band))) (by kernel_rfl) (.inl (by refine congrArg Bv ?_; first | (simp [*]; done) | (simp [inB] at *; omega))) rfl (fun _ => trivial)
  refine aw_r [(1, .call [(true, .any), (true, .any), (true, .any)] true (Bv false))] [6] [] [Bv false] [] [Con Tryz.prog 33 [I band, I 0, I 72] true (Bv false) ∧ True] hB ⟨⟨(con_bool h1 (within_ok band 0 72)), trivial⟩, trivial⟩ ?_
  refine ae_then ?_
  refine aw_ret ?_
  refine ae_ret hB (Bv false) (by kernel_rfl) (.inl (by refine congrArg Bv ?_; first | (simp [*]; done) | (simp [inB] at *; omega))) rfl (fun _ => trivial)


-- impl.stepsBack
theorem stepsBack_ok : Con Tryz.prog 105 [] true (.agg [I 1, I 1, I 1, I 0, I 0, I 1]) := by
  refine fn_ok (fn := Tryz.f105) (nt := 5) Tryz.func105 rfl rfl rfl rfl (by simp [taggedL, tagged]) fun B hB => ?_
  refine aR [(0, .new 0)] [0] [0] [.ref 0 0] [some (.box [I 0, I 0, I 0, I 0, I 0, I 0])] [] hB trivial ?_
  refine aR [] [0] [0] [.ref 0 0] [some (.box [I 1, I 1, I 1, I 0, I 0, I 1])] [] hB trivial ?_
  refine aw_ret ?_
  refine ae_ret hB (.agg [I 1, I 1, I 1, I 0, I 0, I 1]) (by kernel_rfl) (.inl rfl) rfl (fun _ => (by simp [tagged, taggedL]))


-- impl.leastBefore
theorem leastBefore_ok (table : List (List Int)) (i : Int) (j : Int) (hi : 0 ≤ i ∧ i < (table.length : Int)) (hj : 0 ≤ j ∧ j ≤ 1000) (h1 : 1 ≤ i → j < ((at_ table (i - 1).toNat).length : Int)) (h2 : 1 ≤ j → j ≤ ((at_ table (i - 0).toNat).length : Int)) : Con Tryz.prog 104 [slLI false table, I i, I j] true (I (lb3 table i j)) := by
  refine fn_ok (fn := Tryz.f104) (nt := 41) Tryz.func104 rfl rfl rfl rfl (by simp [taggedL, tagged, tagLI]) fun B hB => ?_
  refine aw_lens (x := slLI false table) 0 rfl (fun len_table => ?_)
  simp [LenOK, LenL, cI, cLI, fI, fLI, slI, slLI] at len_table
  refine aR [] [0, 1, 2] [] [slLI false table, I i, I j] [] [] hB trivial ?_
  refine aR [] [0, 1, 2, 7] [] [slLI false table, I i, I j, I 1099511627776] [] [] hB trivial ?_
  refine aw_seq ?_
  refine aR [(0, .call [] true (.agg [I 1, I 1, I 1, I 0, I 0, I 1]))] [0, 1, 2, 7, 10, 11] [] [slLI false table, I i, I j, I 1099511627776, .agg [I 1, I 1, I 1, I 0, I 0, I 1], I 0] [] [Con Tryz.prog 105 [] true (.agg [I 1, I 1, I 1, I 0, I 0, I 1]) ∧ True] hB ⟨⟨(stepsBack_ok), trivial⟩, trivial⟩ ?_
  refine aw_block ?_
  refine aw_loop (fun gn gσ => ∃ (least : Int) (t11 : Int), gn = ((3 : Int) - t11).toNat ∧ (0 ≤ t11 ∧ t11 ≤ 3) ∧ (least = lbk table i j t11.toNat) ∧ gσ = mkS [(0, slLI false table), (1, I i), (2, I j), (7, I least), (10, .agg [I 1, I 1, I 1, I 0, I 0, I 1]), (11, I t11)] []) (((3 : Int) - 0).toNat) ⟨1099511627776, 0, rfl, (by omega), (by rfl), rfl⟩ (fun gn gσ hI => ?_)
  obtain ⟨least, t11, rfl, ht0, hl0, rfl⟩ := hI
  refine aw_seq ?_
  by_cases h1 : t11 < 3
  ·have hcs : t11 = 0 ∨ t11 = 1 ∨ t11 = 2 := by omega
   rcases hcs with rfl | rfl | rfl
   ·refine aw_r [(0, .dec true)] [0, 1, 2, 7, 10, 11, 12] [] [slLI false table, I i, I j, I least, .agg [I 1, I 1, I 1, I 0, I 0, I 1], I 0, Bv true] [] [(0 : Int) < 3] hB ⟨(by decide), trivial⟩ ?_
    refine ae_then ?_
    refine aw_seq ?_
    refine aw_true rfl ?_
    refine aw_skip ?_
    refine ae_then ?_
    refine aw_seq ?_
    refine aw_block ?_
    refine aR [(1, .new 9)] [0, 1, 2, 7, 9, 10, 11] [9] [slLI false table, I i, I j, I least, .ref 9 0, .agg [I 1, I 1, I 1, I 0, I 0, I 1], I 0] [some (.box [I 1, I 1])] [(0 : Int) ≤ 0 ∧ 0 < (3 : Int)] hB ⟨⟨by decide, by decide⟩, trivial⟩ ?_
    refine aw_seq ?_
    by_cases h2 : 1 ≤ i
    ·by_cases h3 : 1 ≤ j
     ·refine aw_r [(3, .dec true), (8, .dec true)] [0, 1, 2, 7, 9, 10, 11, 23] [9] [slLI false table, I i, I j, I least, .ref 9 0, .agg [I 1, I 1, I 1, I 0, I 0, I 1], I 0, Bv true] [some (.box [I 1, I 1])] [(0 : Int) ≤ 0 ∧ 0 < (2 : Int), 1 ≤ i, (0 : Int) ≤ 1 ∧ 1 < (2 : Int), 1 ≤ j] hB ⟨⟨by decide, by decide⟩, h2, ⟨by decide, by decide⟩, h3, trivial⟩ ?_
      refine ae_then ?_
      refine aw_true rfl ?_
      refine aw_r [] [0, 1, 2, 7, 10, 11] [] [slLI false table, I i, I j, I (min least (at_ (at_ table ((i - 1).toNat)) ((j - 1).toNat))), .agg [I 1, I 1, I 1, I 0, I 0, I 1], I 0] [] [(0 : Int) ≤ 0 ∧ 0 < (2 : Int), inR .i64 (i - 1), (0 : Int) ≤ (i - 1) ∧ (i - 1) < (table.length : Int), (0 : Int) ≤ 1 ∧ 1 < (2 : Int), inR .i64 (j - 1), (0 : Int) ≤ (j - 1) ∧ (j - 1) < (((at_ table ((i - 1).toNat)).length) : Int)] hB ⟨⟨by decide, by decide⟩, (inR_i64 (by omega) (by omega)), ⟨(by omega), (by omega)⟩, ⟨by decide, by decide⟩, (inR_i64 (by omega) (by omega)), ⟨(by omega), (by omega)⟩, trivial⟩ ?_
      refine ae_block 1 ?_
      refine ae_then ?_
      refine aw_r [] [0, 1, 2, 7, 10, 11] [] [slLI false table, I i, I j, I (min least (at_ (at_ table ((i - 1).toNat)) ((j - 1).toNat))), .agg [I 1, I 1, I 1, I 0, I 0, I 1], I (0 + 1)] [] [inR .i64 (0 + 1)] hB ⟨(inR_i64 (by omega) (by omega)), trivial⟩ ?_
      exact ae_again _ (by omega) ⟨(min least (at_ (at_ table ((i - 1).toNat)) ((j - 1).toNat))), (0 + 1), rfl, (by omega), (by rw [hl0]; first | (show _ = lb1 table i j; unfold lb1; first | (rw [if_pos (by omega)]; rfl) | (rw [if_neg (by omega)]; rfl)) | (show _ = lb2 table i j; unfold lb2; first | (rw [if_pos (by omega)]; rfl) | (rw [if_neg (by omega)]; rfl)) | (show _ = lb3 table i j; unfold lb3; first | (rw [if_pos (by omega)]; rfl) | (rw [if_neg (by omega)]; rfl))), rfl⟩
     refine aw_r [(3, .dec true), (8, .dec false)] [0, 1, 2, 7, 9, 10, 11, 23] [9] [slLI false table, I i, I j, I least, .ref 9 0, .agg [I 1, I 1, I 1, I 0, I 0, I 1], I 0, Bv false] [some (.box [I 1, I 1])] [(0 : Int) ≤ 0 ∧ 0 < (2 : Int), 1 ≤ i, (0 : Int) ≤ 1 ∧ 1 < (2 : Int), ¬ (1 ≤ j)] hB ⟨⟨by decide, by decide⟩, h2, ⟨by decide, by decide⟩, h3, trivial⟩ ?_
     refine ae_then ?_
     refine aw_false rfl ?_
     refine aw_skip ?_
     refine ae_block 1 ?_
     refine ae_then ?_
     refine aw_r [] [0, 1, 2, 7, 10, 11] [] [slLI false table, I i, I j, I least, .agg [I 1, I 1, I 1, I 0, I 0, I 1], I (0 + 1)] [] [inR .i64 (0 + 1)] hB ⟨(inR_i64 (by omega) (by omega)), trivial⟩ ?_
     exact ae_again _ (by omega) ⟨least, (0 + 1), rfl, (by omega), (by rw [hl0]; first | (show _ = lb1 table i j; unfold lb1; first | (rw [if_pos (by omega)]; rfl) | (rw [if_neg (by omega)]; rfl)) | (show _ = lb2 table i j; unfold lb2; first | (rw [if_pos (by omega)]; rfl) | (rw [if_neg (by omega)]; rfl)) | (show _ = lb3 table i j; unfold lb3; first | (rw [if_pos (by omega)]; rfl) | (rw [if_neg (by omega)]; rfl))), rfl⟩
    refine aw_r [(3, .dec false)] [0, 1, 2, 7, 9, 10, 11, 23] [9] [slLI false table, I i, I j, I least, .ref 9 0, .agg [I 1, I 1, I 1, I 0, I 0, I 1], I 0, Bv false] [some (.box [I 1, I 1])] [(0 : Int) ≤ 0 ∧ 0 < (2 : Int), ¬ (1 ≤ i)] hB ⟨⟨by decide, by decide⟩, h2, trivial⟩ ?_
    refine ae_then ?_
    refine aw_false rfl ?_
    refine aw_skip ?_
    refine ae_block 1 ?_
    refine ae_then ?_
    refine aw_r [] [0, 1, 2, 7, 10, 11] [] [slLI false table, I i, I j, I least, .agg [I 1, I 1, I 1, I 0, I 0, I 1], I (0 + 1)] [] [inR .i64 (0 + 1)] hB ⟨(inR_i64 (by omega) (by omega)), trivial⟩ ?_
    exact ae_again _ (by omega) ⟨least, (0 + 1), rfl, (by omega), (by rw [hl0]; first | (show _ = lb1 table i j; unfold lb1; first | (rw [if_pos (by omega)]; rfl) | (rw [if_neg (by omega)]; rfl)) | (show _ = lb2 table i j; unfold lb2; first | (rw [if_pos (by omega)]; rfl) | (rw [if_neg (by omega)]; rfl)) | (show _ = lb3 table i j; unfold lb3; first | (rw [if_pos (by omega)]; rfl) | (rw [if_neg (by omega)]; rfl))), rfl⟩
   ·refine aw_r [(0, .dec true)] [0, 1, 2, 7, 10, 11, 12] [] [slLI false table, I i, I j, I least, .agg [I 1, I 1, I 1, I 0, I 0, I 1], I 1, Bv true] [] [(1 : Int) < 3] hB ⟨(by decide), trivial⟩ ?_
    refine ae_then ?_
    refine aw_seq ?_
    refine aw_true rfl ?_
    refine aw_skip ?_
    refine ae_then ?_
    refine aw_seq ?_
    refine aw_block ?_
    refine aR [(1, .new 9)] [0, 1, 2, 7, 9, 10, 11] [9] [slLI false table, I i, I j, I least, .ref 9 0, .agg [I 1, I 1, I 1, I 0, I 0, I 1], I 1] [some (.box [I 1, I 0])] [(0 : Int) ≤ 1 ∧ 1 < (3 : Int)] hB ⟨⟨by decide, by decide⟩, trivial⟩ ?_
    refine aw_seq ?_
    by_cases h4 : 1 ≤ i
    ·refine aw_r [(3, .dec true), (8, .dec true)] [0, 1, 2, 7, 9, 10, 11, 23] [9] [slLI false table, I i, I j, I least, .ref 9 0, .agg [I 1, I 1, I 1, I 0, I 0, I 1], I 1, Bv true] [some (.box [I 1, I 0])] [(0 : Int) ≤ 0 ∧ 0 < (2 : Int), 1 ≤ i, (0 : Int) ≤ 1 ∧ 1 < (2 : Int), 0 ≤ j] hB ⟨⟨by decide, by decide⟩, h4, ⟨by decide, by decide⟩, (by omega), trivial⟩ ?_
     refine ae_then ?_
     refine aw_true rfl ?_
     refine aw_r [] [0, 1, 2, 7, 10, 11] [] [slLI false table, I i, I j, I (min least (at_ (at_ table ((i - 1).toNat)) ((j - 0).toNat))), .agg [I 1, I 1, I 1, I 0, I 0, I 1], I 1] [] [(0 : Int) ≤ 0 ∧ 0 < (2 : Int), inR .i64 (i - 1), (0 : Int) ≤ (i - 1) ∧ (i - 1) < (table.length : Int), (0 : Int) ≤ 1 ∧ 1 < (2 : Int), inR .i64 (j - 0), (0 : Int) ≤ (j - 0) ∧ (j - 0) < (((at_ table ((i - 1).toNat)).length) : Int)] hB ⟨⟨by decide, by decide⟩, (inR_i64 (by omega) (by omega)), ⟨(by omega), (by omega)⟩, ⟨by decide, by decide⟩, (inR_i64 (by omega) (by omega)), ⟨(by omega), (by omega)⟩, trivial⟩ ?_
     refine ae_block 1 ?_
     refine ae_then ?_
     refine aw_r [] [0, 1, 2, 7, 10, 11] [] [slLI false table, I i, I j, I (min least (at_ (at_ table ((i - 1).toNat)) ((j - 0).toNat))), .agg [I 1, I 1, I 1, I 0, I 0, I 1], I (1 + 1)] [] [inR .i64 (1 + 1)] hB ⟨(inR_i64 (by omega) (by omega)), trivial⟩ ?_
     exact ae_again _ (by omega) ⟨(min least (at_ (at_ table ((i - 1).toNat)) ((j - 0).toNat))), (1 + 1), rfl, (by omega), (by rw [hl0]; first | (show _ = lb1 table i j; unfold lb1; first | (rw [if_pos (by omega)]; rfl) | (rw [if_neg (by omega)]; rfl)) | (show _ = lb2 table i j; unfold lb2; first | (rw [if_pos (by omega)]; rfl) | (rw [if_neg (by omega)]; rfl)) | (show _ = lb3 table i j; unfold lb3; first | (rw [if_pos (by omega)]; rfl) | (rw [if_neg (by omega)]; rfl))), rfl⟩
    refine aw_r [(3, .dec false)] [0, 1, 2, 7, 9, 10, 11, 23] [9] [slLI false table, I i, I j, I least, .ref 9 0, .agg [I 1, I 1, I 1, I 0, I 0, I 1], I 1, Bv false] [some (.box [I 1, I 0])] [(0 : Int) ≤ 0 ∧ 0 < (2 : Int), ¬ (1 ≤ i)] hB ⟨⟨by decide, by decide⟩, h4, trivial⟩ ?_
    refine ae_then ?_
    refine aw_false rfl ?_
    refine aw_skip ?_
    refine ae_block 1 ?_
    refine ae_then ?_
    refine aw_r [] [0, 1, 2, 7, 10, 11] [] [slLI false table, I i, I j, I least, .agg [I 1, I 1, I 1, I 0, I 0, I 1], I (1 + 1)] [] [inR .i64 (1 + 1)] hB ⟨(inR_i64 (by omega) (by omega)), trivial⟩ ?_
    exact ae_again _ (by omega) ⟨least, (1 + 1), rfl, (by omega), (by rw [hl0]; first | (show _ = lb1 table i j; unfold lb1; first | (rw [if_pos (by omega)]; rfl) | (rw [if_neg (by omega)]; rfl)) | (show _ = lb2 table i j; unfold lb2; first | (rw [if_pos (by omega)]; rfl) | (rw [if_neg (by omega)]; rfl)) | (show _ = lb3 table i j; unfold lb3; first | (rw [if_pos (by omega)]; rfl) | (rw [if_neg (by omega)]; rfl))), rfl⟩
   ·refine aw_r [(0, .dec true)] [0, 1, 2, 7, 10, 11, 12] [] [slLI false table, I i, I j, I least, .agg [I 1, I 1, I 1, I 0, I 0, I 1], I 2, Bv true] [] [(2 : Int) < 3] hB ⟨(by decide), trivial⟩ ?_
    refine ae_then ?_
    refine aw_seq ?_
    refine aw_true rfl ?_
    refine aw_skip ?_
    refine ae_then ?_
    refine aw_seq ?_
    refine aw_block ?_
    refine aR [(1, .new 9)] [0, 1, 2, 7, 9, 10, 11] [9] [slLI false table, I i, I j, I least, .ref 9 0, .agg [I 1, I 1, I 1, I 0, I 0, I 1], I 2] [some (.box [I 0, I 1])] [(0 : Int) ≤ 2 ∧ 2 < (3 : Int)] hB ⟨⟨by decide, by decide⟩, trivial⟩ ?_
    refine aw_seq ?_
    by_cases h5 : 1 ≤ j
    ·refine aw_r [(3, .dec true), (8, .dec true)] [0, 1, 2, 7, 9, 10, 11, 23] [9] [slLI false table, I i, I j, I least, .ref 9 0, .agg [I 1, I 1, I 1, I 0, I 0, I 1], I 2, Bv true] [some (.box [I 0, I 1])] [(0 : Int) ≤ 0 ∧ 0 < (2 : Int), 0 ≤ i, (0 : Int) ≤ 1 ∧ 1 < (2 : Int), 1 ≤ j] hB ⟨⟨by decide, by decide⟩, (by omega), ⟨by decide, by decide⟩, h5, trivial⟩ ?_
     refine ae_then ?_
     refine aw_true rfl ?_
     refine aw_r [] [0, 1, 2, 7, 10, 11] [] [slLI false table, I i, I j, I (min least (at_ (at_ table ((i - 0).toNat)) ((j - 1).toNat))), .agg [I 1, I 1, I 1, I 0, I 0, I 1], I 2] [] [(0 : Int) ≤ 0 ∧ 0 < (2 : Int), inR .i64 (i - 0), (0 : Int) ≤ (i - 0) ∧ (i - 0) < (table.length : Int), (0 : Int) ≤ 1 ∧ 1 < (2 : Int), inR .i64 (j - 1), (0 : Int) ≤ (j - 1) ∧ (j - 1) < (((at_ table ((i - 0).toNat)).length) : Int)] hB ⟨⟨by decide, by decide⟩, (inR_i64 (by omega) (by omega)), ⟨(by omega), (by omega)⟩, ⟨by decide, by decide⟩, (inR_i64 (by omega) (by omega)), ⟨(by omega), (by omega)⟩, trivial⟩ ?_
     refine ae_block 1 ?_
     refine ae_then ?_
     refine aw_r [] [0, 1, 2, 7, 10, 11] [] [slLI false table, I i, I j, I (min least (at_ (at_ table ((i - 0).toNat)) ((j - 1).toNat))), .agg [I 1, I 1, I 1, I 0, I 0, I 1], I (2 + 1)] [] [inR .i64 (2 + 1)] hB ⟨(inR_i64 (by omega) (by omega)), trivial⟩ ?_
     exact ae_again _ (by omega) ⟨(min least (at_ (at_ table ((i - 0).toNat)) ((j - 1).toNat))), (2 + 1), rfl, (by omega), (by rw [hl0]; first | (show _ = lb1 table i j; unfold lb1; first | (rw [if_pos (by omega)]; rfl) | (rw [if_neg (by omega)]; rfl)) | (show _ = lb2 table i j; unfold lb2; first | (rw [if_pos (by omega)]; rfl) | (rw [if_neg (by omega)]; rfl)) | (show _ = lb3 table i j; unfold lb3; first | (rw [if_pos (by omega)]; rfl) | (rw [if_neg (by omega)]; rfl))), rfl⟩
    refine aw_r [(3, .dec true), (8, .dec false)] [0, 1, 2, 7, 9, 10, 11, 23] [9] [slLI false table, I i, I j, I least, .ref 9 0, .agg [I 1, I 1, I 1, I 0, I 0, I 1], I 2, Bv false] [some (.box [I 0, I 1])] [(0 : Int) ≤ 0 ∧ 0 < (2 : Int), 0 ≤ i, (0 : Int) ≤ 1 ∧ 1 < (2 : Int), ¬ (1 ≤ j)] hB ⟨⟨by decide, by decide⟩, (by omega), ⟨by decide, by decide⟩, h5, trivial⟩ ?_
    refine ae_then ?_
    refine aw_false rfl ?_
    refine aw_skip ?_
    refine ae_block 1 ?_
    refine ae_then ?_
    refine aw_r [] [0, 1, 2, 7, 10, 11] [] [slLI false table, I i, I j, I least, .agg [I 1, I 1, I 1, I 0, I 0, I 1], I (2 + 1)] [] [inR .i64 (2 + 1)] hB ⟨(inR_i64 (by omega) (by omega)), trivial⟩ ?_
    exact ae_again _ (by omega) ⟨least, (2 + 1), rfl, (by omega), (by rw [hl0]; first | (show _ = lb1 table i j; unfold lb1; first | (rw [if_pos (by omega)]; rfl) | (rw [if_neg (by omega)]; rfl)) | (show _ = lb2 table i j; unfold lb2; first | (rw [if_pos (by omega)]; rfl) | (rw [if_neg (by omega)]; rfl)) | (show _ = lb3 table i j; unfold lb3; first | (rw [if_pos (by omega)]; rfl) | (rw [if_neg (by omega)]; rfl))), rfl⟩
  have hte : t11.toNat = 3 := by omega
  refine aw_r [(0, .dec false)] [0, 1, 2, 7, 10, 11, 12] [] [slLI false table, I i, I j, I least, .agg [I 1, I 1, I 1, I 0, I 0, I 1], I t11, Bv false] [] [¬ (t11 < 3)] hB ⟨h1, trivial⟩ ?_
  refine ae_then ?_
  refine aw_seq ?_
  refine aw_false rfl ?_
  refine aw_exit ?_
  refine ae_exit_then ?_
  refine ae_exit_then ?_
  refine ae_exit_same ?_
  refine ae_then ?_
  refine aR [] [6] [] [I least] [] [] hB trivial ?_
  refine aw_ret ?_
  refine ae_ret hB (I least) (by kernel_rfl) (.inl (by rw [hl0, hte]; rfl)) rfl (fun _ => trivial)

end Go.Proofs.YtjiflhglbephbaaGreat.Ax
