/- Contracts that the statement FnPruned reaches, part 2. No conditions. -/
import Derived.Test.YtppknhfdmmnmoaaAxLPruned1
import Derived.Test.YtppknhfdmmnmoaaAxR
import Derived.Test.YtppknhfdmmnmoaaAxS
import Derived.Test.YtppknhfdmmnmoaaAxSF
import Derived.Test.YtppknhfdmmnmoaaSfRdgShelf
namespace Go.Proofs.Ytppknhfdmmnmoaa.Ax
open Go.RowKit Go.ChangeShapes Go.WideShapes
set_option linter.unusedVariables false
set_option linter.unusedSimpArgs false


def sfxK (l : Lattice) : Nat → Nat → Int → Prop
  | 0, j, s => j = (l.Nodes - 1).toNat ∧ s = 0
  | k + 1, j, s => ∃ e ∈ l.Edges, e.From = (j : Int) ∧ ∃ s', sfxK l k e.To.toNat s' ∧ s = e.Cost + s'
theorem sfx_back {l : Lattice} (hl : okLat l) : ∀ (m j : Nat), j ≤ m → j < l.Nodes.toNat → ∀ r, pth l j r → ∀ k s, sfxK l k j s → ∃ k', sfxK l k' 0 (r.Cost + s) := fun m => by
  induction m with
  | zero =>
    intro j hj hj2 r hr k s hs
    rcases (pth_iff hl hj2 r).1 hr with ⟨q1, q2⟩ | ⟨e, he, a, _⟩
    · subst q1; subst q2
      exact ⟨k, by show sfxK l k 0 (0 + s); rw [Int.zero_add]; exact hs⟩
    · have := (ed_ok hl he).1; omega
  | succ m ih =>
    intro j hj hj2 r hr k s hs
    rcases (pth_iff hl hj2 r).1 hr with ⟨q1, q2⟩ | ⟨e, he, a, r', h', q⟩
    · subst q1; subst q2
      exact ⟨k, by show sfxK l k 0 (0 + s); rw [Int.zero_add]; exact hs⟩
    · have b := (ed_ok hl he).1
      obtain ⟨k', h⟩ := ih e.From.toNat (by omega) (by omega) r' h' (k + 1) (e.Cost + s) ⟨e, he, by omega, s, by rw [a]; exact hs, rfl⟩
      refine ⟨k', ?_⟩
      have e2 : r.Cost + s = r'.Cost + (e.Cost + s) := by rw [q]; show r'.Cost + e.Cost + s = _; omega
      rw [e2]; exact h
theorem sfx_go {l : Lattice} (hl : okLat l) : ∀ (k j : Nat), j < l.Nodes.toNat → ∀ r s, pth l j r → sfxK l k j s → ∃ x, endP l x ∧ x.Cost = r.Cost + s
  | 0, j, hj, r, s, hr, h => ⟨r, by unfold endP; rw [← h.1]; exact hr, by rw [h.2]; omega⟩
  | k + 1, j, hj, r, s, hr, h => by
    obtain ⟨e, he, a, s', h1, h2⟩ := h
    have b := (ed_ok hl he).1
    obtain ⟨x, hx, e2⟩ := sfx_go hl k e.To.toNat (by omega) (rdr e r) s' ((pth_iff hl (by omega) _).2 (.inr ⟨e, he, by omega, r, by rw [a]; exact hr, rfl⟩)) h1
    exact ⟨x, hx, by rw [e2]; show r.Cost + e.Cost + s' = _; omega⟩
theorem sfx_end {l : Lattice} (hl : okLat l) {x : Reading} (h : endP l x) : ∃ k, sfxK l k 0 x.Cost := by
  have hN := hl.1
  obtain ⟨k, q⟩ := sfx_back hl _ _ (Nat.le_refl _) (by omega) x h 0 0 ⟨rfl, rfl⟩
  exact ⟨k, by rw [Int.add_zero] at q; exact q⟩
def fvI (l : Lattice) : Nat → List Int
  | 0 => (List.replicate l.Nodes.toNat 1099511627776).set 0 0
  | i + 1 => (fvI l i).set (at_ l.Edges i).To.toNat (min (at_ (fvI l i) (at_ l.Edges i).To.toNat) (at_ (fvI l i) (at_ l.Edges i).From.toNat + (at_ l.Edges i).Cost))
def tvI (l : Lattice) : Nat → List Int
  | 0 => (List.replicate l.Nodes.toNat 1099511627776).set (l.Nodes - 1).toNat 0
  | m + 1 => (tvI l m).set (at_ l.Edges (l.Edges.length - 1 - m)).From.toNat (min (at_ (tvI l m) (at_ l.Edges (l.Edges.length - 1 - m)).From.toNat) (at_ (tvI l m) (at_ l.Edges (l.Edges.length - 1 - m)).To.toNat + (at_ l.Edges (l.Edges.length - 1 - m)).Cost))
theorem fvI_len (l : Lattice) : ∀ i, (fvI l i).length = l.Nodes.toNat
  | 0 => by unfold fvI; rw [List.length_set, List.length_replicate]
  | i + 1 => by unfold fvI; rw [List.length_set]; exact fvI_len l i
theorem tvI_len (l : Lattice) : ∀ i, (tvI l i).length = l.Nodes.toNat
  | 0 => by unfold tvI; rw [List.length_set, List.length_replicate]
  | i + 1 => by unfold tvI; rw [List.length_set]; exact tvI_len l i
theorem fvI_mono {l : Lattice} (hl : okLat l) (j : Nat) : ∀ i k, i ≤ k → k ≤ l.Edges.length → at_ (fvI l k) j ≤ at_ (fvI l i) j := fun i k => by
  induction k with
  | zero => intro h _; rw [show i = 0 from by omega]; exact Int.le_refl _
  | succ k ih =>
    intro h hk
    by_cases e : i = k + 1
    · rw [e]; exact Int.le_refl _
    · refine Int.le_trans ?_ (ih (by omega) (by omega))
      have b := (hl.2.2.1 k (by omega)).1
      show at_ ((fvI l k).set _ _) j ≤ _
      by_cases q : j = (at_ l.Edges k).To.toNat
      · rw [← q, at_set_same (by rw [fvI_len]; omega)]; exact Int.min_le_left _ _
      · rw [at_set_oth q]; exact Int.le_refl _
theorem tvI_mono {l : Lattice} (hl : okLat l) (j : Nat) : ∀ i k, i ≤ k → k ≤ l.Edges.length → at_ (tvI l k) j ≤ at_ (tvI l i) j := fun i k => by
  induction k with
  | zero => intro h _; rw [show i = 0 from by omega]; exact Int.le_refl _
  | succ k ih =>
    intro h hk
    by_cases e : i = k + 1
    · rw [e]; exact Int.le_refl _
    · refine Int.le_trans ?_ (ih (by omega) (by omega))
      have b := (hl.2.2.1 (l.Edges.length - 1 - k) (by omega)).1
      show at_ ((tvI l k).set _ _) j ≤ _
      by_cases q : j = (at_ l.Edges (l.Edges.length - 1 - k)).From.toNat
      · rw [← q, at_set_same (by rw [tvI_len]; omega)]; exact Int.min_le_left _ _
      · rw [at_set_oth q]; exact Int.le_refl _
theorem fvI_bd {l : Lattice} (hl : okLat l) : ∀ i, i ≤ l.Edges.length → ∀ j, j < l.Nodes.toNat → 0 ≤ at_ (fvI l i) j ∧ at_ (fvI l i) j ≤ 1099511627776
  | 0, _, j, hj => by
    unfold fvI
    by_cases e : j = 0
    · subst e; rw [at_set_same (by rw [List.length_replicate]; exact hj)]; omega
    · rw [at_set_oth e, at_rep hj]; omega
  | i + 1, hi, j, hj => by
    have ih := fvI_bd hl i (by omega)
    have b := hl.2.2.1 i (by omega)
    have b1 := b.1
    have b2 := b.2.1
    show 0 ≤ at_ ((fvI l i).set _ _) j ∧ at_ ((fvI l i).set _ _) j ≤ _
    by_cases q : j = (at_ l.Edges i).To.toNat
    · rw [← q, at_set_same (by rw [fvI_len]; exact hj)]
      have h1 := ih j hj
      have h2 := ih (at_ l.Edges i).From.toNat (by omega)
      omega
    · rw [at_set_oth q]; exact ih j hj
theorem tvI_bd {l : Lattice} (hl : okLat l) : ∀ i, i ≤ l.Edges.length → ∀ j, j < l.Nodes.toNat → 0 ≤ at_ (tvI l i) j ∧ at_ (tvI l i) j ≤ 1099511627776
  | 0, _, j, hj => by
    unfold tvI
    by_cases e : j = (l.Nodes - 1).toNat
    · rw [← e, at_set_same (by rw [List.length_replicate]; exact hj)]; omega
    · rw [at_set_oth e, at_rep hj]; omega
  | i + 1, hi, j, hj => by
    have ih := tvI_bd hl i (by omega)
    have b := hl.2.2.1 (l.Edges.length - 1 - i) (by omega)
    have b1 := b.1
    have b2 := b.2.1
    show 0 ≤ at_ ((tvI l i).set _ _) j ∧ at_ ((tvI l i).set _ _) j ≤ _
    by_cases q : j = (at_ l.Edges (l.Edges.length - 1 - i)).From.toNat
    · rw [← q, at_set_same (by rw [tvI_len]; exact hj)]
      have h1 := ih j hj
      have h2 := ih (at_ l.Edges (l.Edges.length - 1 - i)).To.toNat (by omega)
      omega
    · rw [at_set_oth q]; exact ih j hj
theorem ed_ord {l : Lattice} (hl : okLat l) {i j : Nat} (hij : i < j) (hj : j < l.Edges.length) : (at_ l.Edges i).From ≤ (at_ l.Edges j).From := by
  have h := pw_get hl.2.2.2 hij hj
  rw [cmpE_eq] at h
  by_cases q : cmpI (at_ l.Edges i).From (at_ l.Edges j).From = 0
  · rw [cmpI_zero] at q; omega
  · rw [if_neg q, cmpI_neg] at h; omega
theorem fv_min {l : Lattice} (hl : okLat l) : ∀ (m j : Nat), j ≤ m → j < l.Nodes.toNat → ∀ i, i ≤ l.Edges.length → (∀ i', i' < l.Edges.length → (at_ l.Edges i').To = (j : Int) → i' < i) → ∀ r, pth l j r → at_ (fvI l i) j ≤ r.Cost := fun m => by
  induction m using Nat.strongRecOn with
  | _ m ih =>
  intro j hjm hj i hi hall r hr
  rcases (pth_iff hl hj r).1 hr with ⟨q1, q2⟩ | ⟨e, he, a, r', h', q⟩
  · subst q1; subst q2
    refine Int.le_trans (fvI_mono hl 0 0 i (Nat.zero_le _) hi) ?_
    show at_ ((List.replicate l.Nodes.toNat (1099511627776 : Int)).set 0 0) 0 ≤ 0
    rw [at_set_same (by rw [List.length_replicate]; exact hj)]; exact Int.le_refl _
  · obtain ⟨i', hi', q3⟩ := List.getElem_of_mem he
    rw [← at_eq hi'] at q3
    subst q3
    have b := (hl.2.2.1 i' hi').1
    have h1 := ih (at_ l.Edges i').From.toNat (by omega) (at_ l.Edges i').From.toNat (Nat.le_refl _) (by omega) i' (by omega) (fun i2 h2 h3 => by
      refine Classical.byContradiction fun hno => ?_
      have b2 := (hl.2.2.1 i2 h2).1
      by_cases e2 : i2 = i'
      · subst e2; omega
      · have := ed_ord hl (show i' < i2 by omega) h2
        omega) r' h'
    refine Int.le_trans (fvI_mono hl j (i' + 1) i (hall i' hi' a) hi) ?_
    show at_ ((fvI l i').set _ _) j ≤ _
    have e2 : j = (at_ l.Edges i').To.toNat := by omega
    rw [← e2, at_set_same (by rw [fvI_len]; exact hj)]
    refine Int.le_trans (Int.min_le_right _ _) ?_
    rw [q]
    show _ ≤ r'.Cost + (at_ l.Edges i').Cost
    omega
theorem tv_min {l : Lattice} (hl : okLat l) : ∀ (k j : Nat), j < l.Nodes.toNat → ∀ m, m ≤ l.Edges.length → (∀ i', i' < l.Edges.length → (at_ l.Edges i').From = (j : Int) → l.Edges.length - m ≤ i') → ∀ s, sfxK l k j s → at_ (tvI l m) j ≤ s
  | 0, j, hj, m, hm, hall, s, hs => by
    have h0 := hs.1
    rw [hs.2, h0]
    refine Int.le_trans (tvI_mono hl _ 0 m (Nat.zero_le _) hm) ?_
    show at_ ((List.replicate l.Nodes.toNat (1099511627776 : Int)).set _ 0) _ ≤ 0
    rw [at_set_same (by rw [List.length_replicate]; omega)]; exact Int.le_refl _
  | k + 1, j, hj, m, hm, hall, s, hs => by
    obtain ⟨e, he, a, s', h1, h2⟩ := hs
    obtain ⟨i', hi', q3⟩ := List.getElem_of_mem he
    rw [← at_eq hi'] at q3
    subst q3
    have b := (hl.2.2.1 i' hi').1
    have g := tv_min hl k (at_ l.Edges i').To.toNat (by omega) (l.Edges.length - 1 - i') (by omega) (fun i2 h3 h4 => by
      refine Classical.byContradiction fun hno => ?_
      by_cases e2 : i2 = i'
      · subst e2; omega
      · have := ed_ord hl (show i2 < i' by omega) hi'
        omega) s' h1
    have hm1 := hall i' hi' a
    refine Int.le_trans (tvI_mono hl j (l.Edges.length - 1 - i' + 1) m (by omega) hm) ?_
    show at_ ((tvI l (l.Edges.length - 1 - i')).set _ _) j ≤ _
    rw [show l.Edges.length - 1 - (l.Edges.length - 1 - i') = i' from by omega]
    have e2 : j = (at_ l.Edges i').From.toNat := by omega
    rw [← e2, at_set_same (by rw [tvI_len]; exact hj)]
    refine Int.le_trans (Int.min_le_right _ _) ?_
    omega
theorem tv_has {l : Lattice} (hl : okLat l) : ∀ m, m ≤ l.Edges.length → ∀ j, j < l.Nodes.toNat → at_ (tvI l m) j < 1099511627776 → ∃ k, sfxK l k j (at_ (tvI l m) j)
  | 0, _, j, hj, h => by
    have hc : at_ (tvI l 0) j = if j = (l.Nodes - 1).toNat then 0 else 1099511627776 := by
      unfold tvI
      by_cases e : j = (l.Nodes - 1).toNat
      · rw [if_pos e, ← e, at_set_same (by rw [List.length_replicate]; exact hj)]
      · rw [if_neg e, at_set_oth e, at_rep hj]
    rw [hc] at h ⊢
    by_cases e : j = (l.Nodes - 1).toNat
    · rw [if_pos e]; exact ⟨0, e, rfl⟩
    · rw [if_neg e] at h; omega
  | m + 1, hm, j, hj, h => by
    have ih := tv_has hl m (by omega)
    have hi : l.Edges.length - 1 - m < l.Edges.length := by omega
    have b := hl.2.2.1 _ hi
    have b1 := b.1
    have b2 := b.2.1
    have hc : at_ (tvI l (m + 1)) j = if j = (at_ l.Edges (l.Edges.length - 1 - m)).From.toNat then min (at_ (tvI l m) j) (at_ (tvI l m) (at_ l.Edges (l.Edges.length - 1 - m)).To.toNat + (at_ l.Edges (l.Edges.length - 1 - m)).Cost) else at_ (tvI l m) j := by
      show at_ ((tvI l m).set _ _) j = _
      by_cases q : j = (at_ l.Edges (l.Edges.length - 1 - m)).From.toNat
      · rw [if_pos q, ← q, at_set_same (by rw [tvI_len]; exact hj)]
      · rw [if_neg q, at_set_oth q]
    rw [hc] at h ⊢
    by_cases q : j = (at_ l.Edges (l.Edges.length - 1 - m)).From.toNat
    · rw [if_pos q] at h ⊢
      rcases Int.le_total (at_ (tvI l m) j) (at_ (tvI l m) (at_ l.Edges (l.Edges.length - 1 - m)).To.toNat + (at_ l.Edges (l.Edges.length - 1 - m)).Cost) with z | z
      · rw [Int.min_eq_left z] at h ⊢; exact ih j hj h
      · rw [Int.min_eq_right z] at h ⊢
        obtain ⟨k, g⟩ := ih (at_ l.Edges (l.Edges.length - 1 - m)).To.toNat (by omega) (by omega)
        exact ⟨k + 1, _, at_mem hi, by omega, _, g, Int.add_comm _ _⟩
    · rw [if_neg q] at h ⊢; exact ih j hj h
def fvL (l : Lattice) : List Int := fvI l l.Edges.length
def tvL (l : Lattice) : List Int := tvI l l.Edges.length
theorem tv_0 {l : Lattice} (hl : okLat l) : (∀ x, endP l x → at_ (tvL l) 0 ≤ x.Cost) ∧ (at_ (tvL l) 0 < 1099511627776 → ∃ x, endP l x ∧ x.Cost = at_ (tvL l) 0) := by
  have hN := hl.1
  constructor
  · intro x hx
    obtain ⟨k, h⟩ := sfx_end hl hx
    exact tv_min hl k 0 (by omega) l.Edges.length (Nat.le_refl _) (fun i' h1 h2 => by omega) _ h
  · intro h
    obtain ⟨k, g⟩ := tv_has hl l.Edges.length (Nat.le_refl _) 0 (by omega) h
    obtain ⟨x, h1, h2⟩ := sfx_go hl k 0 (by omega) rd0 _ ((pth_iff hl (by omega) _).2 (.inl ⟨rfl, rfl⟩)) g
    exact ⟨x, h1, by rw [h2]; show 0 + _ = _; rw [Int.zero_add]; rfl⟩
def keepE (l : Lattice) (b : Int) (e : Edge) : Bool := decide (at_ (fvL l) e.From.toNat + e.Cost + at_ (tvL l) e.To.toNat ≤ b)
def prL (l : Lattice) (b : Int) (i : Nat) : List Edge := (l.Edges.take i).filter (keepE l b)
theorem prL_next {l : Lattice} {b : Int} {i : Nat} (h : i < l.Edges.length) : prL l b (i + 1) = if at_ (fvL l) (at_ l.Edges i).From.toNat + (at_ l.Edges i).Cost + at_ (tvL l) (at_ l.Edges i).To.toNat ≤ b then prL l b i ++ [at_ l.Edges i] else prL l b i := by
  unfold prL
  rw [List.take_succ_eq_append_getElem h, ← at_eq h, List.filter_append, List.filter_cons, List.filter_nil]
  split
  · rename_i q; rw [if_pos (of_decide_eq_true q)]
  · rename_i q; rw [if_neg (fun z => q (decide_eq_true z)), List.append_nil]
theorem prL_len (l : Lattice) (b : Int) (i : Nat) : (prL l b i).length ≤ i ∧ (prL l b i).length ≤ l.Edges.length := by
  have := List.length_filter_le (keepE l b) (l.Edges.take i)
  unfold prL
  rw [List.length_take] at this
  omega
def prT (l : Lattice) (b : Int) : Lattice := ⟨l.Nodes, prL l b l.Edges.length⟩
theorem prT_mem {l : Lattice} {b : Int} {e : Edge} : e ∈ (prT l b).Edges ↔ e ∈ l.Edges ∧ keepE l b e = true := by
  show e ∈ prL l b l.Edges.length ↔ _
  unfold prL
  rw [List.take_length, List.mem_filter]
theorem prT_ok {l : Lattice} (hl : okLat l) (b : Int) : okLat (prT l b) := by
  refine ⟨hl.1, Nat.le_trans (prL_len l b _).2 hl.2.1, fun i hi => ?_, ?_⟩
  · have m := (prT_mem.1 (at_mem hi)).1
    have := ed_ok hl m
    exact this
  · show (prL l b l.Edges.length).Pairwise _
    unfold prL
    rw [List.take_length]
    exact hl.2.2.2.sublist List.filter_sublist
theorem pr_sub {l : Lattice} (hl : okLat l) (b : Int) : ∀ (m j : Nat), j ≤ m → j < l.Nodes.toNat → ∀ r, pth (prT l b) j r → pth l j r := fun m => by
  induction m using Nat.strongRecOn with
  | _ m ih =>
  intro j hjm hj r hr
  rcases (pth_iff (prT_ok hl b) hj r).1 hr with q | ⟨e, he, a, r', h', q⟩
  · exact (pth_iff hl hj r).2 (.inl q)
  · have m1 := (prT_mem.1 he).1
    have b1 := (ed_ok hl m1).1
    exact (pth_iff hl hj r).2 (.inr ⟨e, m1, a, r', ih e.From.toNat (by omega) _ (Nat.le_refl _) (by omega) r' h', q⟩)
theorem pr_keep {l : Lattice} (hl : okLat l) {b : Int} : ∀ (m j : Nat), j ≤ m → j < l.Nodes.toNat → ∀ r, pth l j r → ∀ k s, sfxK l k j s → r.Cost + s ≤ b → pth (prT l b) j r := fun m => by
  induction m using Nat.strongRecOn with
  | _ m ih =>
  intro j hjm hj r hr k s hs hb
  rcases (pth_iff hl hj r).1 hr with q | ⟨e, he, a, r', h', q⟩
  · exact (pth_iff (prT_ok hl b) hj r).2 (.inl q)
  · have b1 := (ed_ok hl he).1
    have hc : r.Cost = r'.Cost + e.Cost := by rw [q]; rfl
    have f1 := fv_min hl e.From.toNat e.From.toNat (Nat.le_refl _) (by omega) l.Edges.length (Nat.le_refl _) (fun i' h1 _ => h1) r' h'
    have f2 := tv_min hl k j hj l.Edges.length (Nat.le_refl _) (fun i' h1 _ => by omega) s hs
    have f3 : at_ (fvL l) e.From.toNat ≤ r'.Cost := f1
    have f4 : at_ (tvL l) e.To.toNat ≤ s := by rw [show e.To.toNat = j from by omega]; exact f2
    refine (pth_iff (prT_ok hl b) hj r).2 (.inr ⟨e, prT_mem.2 ⟨he, decide_eq_true (by omega)⟩, a, r', ?_, q⟩)
    exact ih e.From.toNat (by omega) _ (Nat.le_refl _) (by omega) r' h' (k + 1) (e.Cost + s) ⟨e, he, by omega, s, by rw [show e.To.toNat = j from by omega]; exact hs, rfl⟩ (by omega)
theorem pr_end {l : Lattice} (hl : okLat l) {b : Int} {x : Reading} : (endP (prT l b) x → endP l x) ∧ (endP l x → x.Cost ≤ b → endP (prT l b) x) := by
  have hN := hl.1
  exact ⟨fun h => pr_sub hl b _ _ (Nat.le_refl _) (by show (l.Nodes - 1).toNat < _; omega) x h, fun h hb => pr_keep hl _ _ (Nat.le_refl _) (by show (l.Nodes - 1).toNat < _; omega) x h 0 0 ⟨rfl, rfl⟩ (by omega)⟩


-- impl.costsFromAndTo
theorem costsFT_ok (l : Lattice) (hl : okLat l) : ∃ (f : List Int) (t : List Int), (f = fvL l) ∧ (t = tvL l) ∧ Con Try.prog 18 [agLattice l] true (.tup [slI true f, slI true t]) := by
  have hn20 := hl.1
  have hc := hl.2.1
  have hh : ∃ r : (List Int) × (List Int), ((r.1 = fvL l) ∧ (r.2 = tvL l) ∧ (True)) ∧ CallOK Try.prog 18 [agLattice l] (lookO []) true (.tup [slI true r.1, slI true r.2]) (lookO []) := by
    refine fn_okX (Φ := fun r : (List Int) × (List Int) => (r.1 = fvL l) ∧ (r.2 = tvL l) ∧ (True)) [] (fun r => []) (fn := Try.f18) (nt := 95) Try.func18 rfl rfl (args := [agLattice l]) rfl (allcons (.inl ⟨rfl, by simp [tagged, taggedL, tagEdge]⟩) allnil) (res := fun r => .tup [slI true r.1, slI true r.2]) ?_
    refine xR [(0, .new 1)] [1] [1] [.ref 1 0] [some (bxLattice l)] [] trivial ?_
    refine xR [(2, .new 13), (5, .new 16)] [1, 4, 5] [1, 13, 16] [.ref 1 0, .arr 13, .arr 16] [some (bxLattice l), some (.arr 1 l.Nodes.toNat (fun _ => [I 0])), some (.arr 1 l.Nodes.toNat (fun _ => [I 0]))] [(0 : Int) ≤ l.Nodes ∧ (l.Nodes : Int) ≤ l.Nodes ∧ (8 : Int) * l.Nodes ≤ 281474976710656 ∧ l.Nodes ≤ 9223372036854775807, (0 : Int) ≤ l.Nodes ∧ (l.Nodes : Int) ≤ l.Nodes ∧ (8 : Int) * l.Nodes ≤ 281474976710656 ∧ l.Nodes ≤ 9223372036854775807] ⟨⟨(by first | omega | (simp only [List.length_replicate, List.length_set]; omega)), (by first | omega | (simp only [List.length_replicate, List.length_set]; omega)), (by first | omega | (simp only [List.length_replicate, List.length_set]; omega)), (by first | omega | (simp only [List.length_replicate, List.length_set]; omega))⟩, ⟨(by first | omega | (simp only [List.length_replicate, List.length_set]; omega)), (by first | omega | (simp only [List.length_replicate, List.length_set]; omega)), (by first | omega | (simp only [List.length_replicate, List.length_set]; omega)), (by first | omega | (simp only [List.length_replicate, List.length_set]; omega))⟩, trivial⟩ ?_
    refine x_seq ?_
    refine xR [] [1, 4, 5, 18, 19] [1, 13, 16] [.ref 1 0, .arr 13, .arr 16, I (l.Nodes.toNat : Int), I 0] [some (bxLattice l), some (.arr 1 l.Nodes.toNat (fun _ => [I 0])), some (.arr 1 l.Nodes.toNat (fun _ => [I 0]))] [] trivial ?_
    refine x_block ?_
    refine x_weak [] (T := [(1, .ref 1 0), (4, .arr 13), (5, .arr 16), (18, I (l.Nodes.toNat : Int)), (19, I 0)]) (O := [(1, bxLattice l), (13, tAI (List.replicate l.Nodes.toNat (0 : Int))), (16, tAI (List.replicate l.Nodes.toNat (0 : Int)))]) rfl (⟨.inl rfl, .inl rfl, .inl rfl, .inl rfl, .inl rfl, trivial⟩) (⟨.inl rfl, .inr ⟨rfl, (by first | rfl | (simp; done) | (simp; omega) | omega), fun i_ hi_ => .inl (const_enc (enc := cI) rfl i_ hi_)⟩, .inr ⟨rfl, (by first | rfl | (simp; done) | (simp; omega) | omega), fun i_ hi_ => .inl (const_enc (enc := cI) rfl i_ hi_)⟩, trivial⟩) ?_
    refine x_loop (X := Int × (List Int) × (List Int)) (fun x => mkS [(1, .ref 1 0), (4, .arr 13), (5, .arr 16), (18, I (l.Nodes.toNat : Int)), (19, I x.1)] [(1, bxLattice l), (13, tAI x.2.1), (16, tAI x.2.2)]) (fun x => (0 ≤ x.1 ∧ x.1 ≤ l.Nodes) ∧ (x.2.1 = farN l.Nodes.toNat x.1.toNat) ∧ (x.2.2 = farN l.Nodes.toNat x.1.toNat) ∧ (x.2.1.length = l.Nodes.toNat) ∧ (x.2.2.length = l.Nodes.toNat) ∧ True) (fun x => (l.Nodes - x.1).toNat) (0, (List.replicate l.Nodes.toNat (0 : Int)), (List.replicate l.Nodes.toNat (0 : Int))) rfl (show (0 ≤ (0 : Int) ∧ (0 : Int) ≤ l.Nodes) ∧ ((List.replicate l.Nodes.toNat (0 : Int)) = farN l.Nodes.toNat (0 : Int).toNat) ∧ ((List.replicate l.Nodes.toNat (0 : Int)) = farN l.Nodes.toNat (0 : Int).toNat) ∧ ((List.replicate l.Nodes.toNat (0 : Int)).length = l.Nodes.toNat) ∧ ((List.replicate l.Nodes.toNat (0 : Int)).length = l.Nodes.toNat) ∧ True from ⟨(by omega), (by exact far_0 rfl), (by exact far_0 rfl), (by simp), (by simp), trivial⟩) (fun x hI => ?_)
    obtain ⟨t19, fs, ts⟩ := x
    obtain ⟨hi0, hfs, hts, hfsl, htsl, _⟩ : (0 ≤ t19 ∧ t19 ≤ l.Nodes) ∧ (fs = farN l.Nodes.toNat t19.toNat) ∧ (ts = farN l.Nodes.toNat t19.toNat) ∧ (fs.length = l.Nodes.toNat) ∧ (ts.length = l.Nodes.toNat) ∧ True := hI
    show XW _ _ _ _ (mkS [(1, .ref 1 0), (4, .arr 13), (5, .arr 16), (18, I (l.Nodes.toNat : Int)), (19, I t19)] [(1, bxLattice l), (13, tAI fs), (16, tAI ts)]) _ _
    refine x_seq ?_
    by_cases h1 : t19 < (l.Nodes.toNat : Int)
    ·refine x_r [(0, .dec true)] [1, 4, 5, 18, 19, 20] [1, 13, 16] [.ref 1 0, .arr 13, .arr 16, I (l.Nodes.toNat : Int), I t19, Bv true] [some (bxLattice l), some (tAI fs), some (tAI ts)] [t19 < (l.Nodes.toNat : Int)] ⟨h1, trivial⟩ ?_
     refine xe_then ?_
     refine x_seq ?_
     refine x_true rfl ?_
     refine x_skip ?_
     refine xe_then ?_
     refine x_seq ?_
     refine x_block ?_
     refine xR [] [1, 4, 5, 6, 18, 19] [1, 13, 16] [.ref 1 0, .arr 13, .arr 16, I t19, I (l.Nodes.toNat : Int), I t19] [some (bxLattice l), some (tAI fs), some (tAI ts)] [] trivial ?_
     refine x_r [] [1, 4, 5, 18, 19] [1, 13, 16] [.ref 1 0, .arr 13, .arr 16, I (l.Nodes.toNat : Int), I t19] [some (bxLattice l), some (.arr 1 fs.length (fun q => bif Nat.beq q t19.toNat then [I 1099511627776] else (fI fs) q)), some (.arr 1 ts.length (fun q => bif Nat.beq q t19.toNat then [I 1099511627776] else (fI ts) q))] [(0 : Int) ≤ t19 ∧ t19 < (fs.length : Int), t19.toNat < fs.length, (0 : Int) ≤ t19 ∧ t19 < (ts.length : Int), t19.toNat < ts.length] ⟨⟨(by first | omega | (simp only [List.length_replicate, List.length_set]; omega)), (by first | omega | (simp only [List.length_replicate, List.length_set]; omega))⟩, (by first | omega | (simp only [List.length_replicate, List.length_set]; omega)), ⟨(by first | omega | (simp only [List.length_replicate, List.length_set]; omega)), (by first | omega | (simp only [List.length_replicate, List.length_set]; omega))⟩, (by first | omega | (simp only [List.length_replicate, List.length_set]; omega)), trivial⟩ ?_
     refine xe_block 1 ?_
     refine xe_then ?_
     refine x_r [] [1, 4, 5, 18, 19] [1, 13, 16] [.ref 1 0, .arr 13, .arr 16, I (l.Nodes.toNat : Int), I (t19 + 1)] [some (bxLattice l), some (.arr 1 fs.length (fun q => bif Nat.beq q t19.toNat then [I 1099511627776] else (fI fs) q)), some (.arr 1 ts.length (fun q => bif Nat.beq q t19.toNat then [I 1099511627776] else (fI ts) q))] [inR .i64 (t19 + 1)] ⟨(inR_i64 (by first | omega | (simp only [List.length_replicate, List.length_set]; omega)) (by first | omega | (simp only [List.length_replicate, List.length_set]; omega))), trivial⟩ ?_
     refine xe_weak [] (T := [(1, .ref 1 0), (4, .arr 13), (5, .arr 16), (18, I (l.Nodes.toNat : Int)), (19, I (t19 + 1))]) (O := [(1, bxLattice l), (13, tAI (fs.set t19.toNat 1099511627776)), (16, tAI (ts.set t19.toNat 1099511627776))]) rfl (⟨.inl rfl, .inl rfl, .inl rfl, .inl rfl, .inl rfl, trivial⟩) (⟨.inl rfl, .inr ⟨rfl, (by first | rfl | (simp; done) | (simp; omega) | omega), fun i_ hi_ => .inl (upd_enc (enc := cI) rfl i_ hi_)⟩, .inr ⟨rfl, (by first | rfl | (simp; done) | (simp; omega) | omega), fun i_ hi_ => .inl (upd_enc (enc := cI) rfl i_ hi_)⟩, trivial⟩) (xe_again ((t19 + 1), (fs.set t19.toNat 1099511627776), (ts.set t19.toNat 1099511627776)) rfl (show (0 ≤ (t19 + 1) ∧ (t19 + 1) ≤ l.Nodes) ∧ ((fs.set t19.toNat 1099511627776) = farN l.Nodes.toNat (t19 + 1).toNat) ∧ ((ts.set t19.toNat 1099511627776) = farN l.Nodes.toNat (t19 + 1).toNat) ∧ ((fs.set t19.toNat 1099511627776).length = l.Nodes.toNat) ∧ ((ts.set t19.toNat 1099511627776).length = l.Nodes.toNat) ∧ True from ⟨(by omega), (by rw [hfs, far_next (by omega), show (t19 + 1).toNat = t19.toNat + 1 from by omega]), (by rw [hts, far_next (by omega), show (t19 + 1).toNat = t19.toNat + 1 from by omega]), (by rw [List.length_set]; exact hfsl), (by rw [List.length_set]; exact htsl), trivial⟩) (by first | (show ((l.Nodes - (t19 + 1)).toNat : Nat) < (l.Nodes - t19).toNat; omega) | (dsimp only; omega)))
    have hfE : fs = List.replicate l.Nodes.toNat 1099511627776 := by rw [hfs, show t19.toNat = l.Nodes.toNat from by omega, far_all]
    have htE : ts = List.replicate l.Nodes.toNat 1099511627776 := by rw [hts, show t19.toNat = l.Nodes.toNat from by omega, far_all]
    refine x_r [(0, .dec false)] [1, 4, 5, 18, 19, 20] [1, 13, 16] [.ref 1 0, .arr 13, .arr 16, I (l.Nodes.toNat : Int), I t19, Bv false] [some (bxLattice l), some (tAI fs), some (tAI ts)] [¬ (t19 < (l.Nodes.toNat : Int))] ⟨h1, trivial⟩ ?_
    refine xe_then ?_
    refine x_seq ?_
    refine x_false rfl ?_
    refine x_exit ?_
    refine xe_exit_then ?_
    refine xe_loop_exit ?_
    refine xe_exit_same ?_
    refine xe_then ?_
    refine xR [] [1, 4, 5] [1, 13, 16] [.ref 1 0, .arr 13, .arr 16] [some (bxLattice l), some (.arr 1 fs.length (fun q => bif Nat.beq q 0 then [I 0] else (fI fs) q)), some (.arr 1 ts.length (fun q => bif Nat.beq q ((l.Nodes - 1).toNat) then [I 0] else (fI ts) q))] [inR .i64 (l.Nodes - 1), (0 : Int) ≤ 0 ∧ 0 < (fs.length : Int), 0 < fs.length, (0 : Int) ≤ (l.Nodes - 1) ∧ (l.Nodes - 1) < (ts.length : Int), (l.Nodes - 1).toNat < ts.length] ⟨(inR_i64 (by first | omega | (simp only [List.length_replicate, List.length_set]; omega)) (by first | omega | (simp only [List.length_replicate, List.length_set]; omega))), ⟨(by first | omega | (simp only [List.length_replicate, List.length_set]; omega)), (by first | omega | (simp only [List.length_replicate, List.length_set]; omega))⟩, (by first | omega | (simp only [List.length_replicate, List.length_set]; omega)), ⟨(by first | omega | (simp only [List.length_replicate, List.length_set]; omega)), (by first | omega | (simp only [List.length_replicate, List.length_set]; omega))⟩, (by first | omega | (simp only [List.length_replicate, List.length_set]; omega)), trivial⟩ ?_
    refine x_seq ?_
    refine x_seq ?_
    refine x_weak [] (T := [(1, .ref 1 0), (4, .arr 13), (5, .arr 16)]) (O := [(1, bxLattice l), (13, tAI (fs.set 0 0)), (16, .arr 1 ts.length (fun q => bif Nat.beq q ((l.Nodes - 1).toNat) then [I 0] else (fI ts) q))]) rfl (⟨.inl rfl, .inl rfl, .inl rfl, trivial⟩) (⟨.inl rfl, .inr ⟨rfl, (by first | rfl | (simp; done) | (simp; omega) | omega), fun i_ hi_ => .inl (upd_enc (enc := cI) rfl i_ hi_)⟩, .inl rfl, trivial⟩) ?_
    refine x_weak [] (T := [(1, .ref 1 0), (4, .arr 13), (5, .arr 16)]) (O := [(1, bxLattice l), (13, tAI (fs.set 0 0)), (16, tAI (ts.set ((l.Nodes - 1).toNat) 0))]) rfl (⟨.inl rfl, .inl rfl, .inl rfl, trivial⟩) (⟨.inl rfl, .inl rfl, .inr ⟨rfl, (by first | rfl | (simp; done) | (simp; omega) | omega), fun i_ hi_ => .inl (upd_enc (enc := cI) rfl i_ hi_)⟩, trivial⟩) ?_
    refine x_r [] [1, 4, 5, 37, 38, 39] [1, 13, 16] [.ref 1 0, .arr 13, .arr 16, slEdge false l.Edges, I (l.Edges.length : Int), I 0] [some (bxLattice l), some (tAI (fs.set 0 0)), some (tAI (ts.set ((l.Nodes - 1).toNat) 0))] [] trivial ?_
    refine xe_then ?_
    refine x_block ?_
    refine x_loop (X := Int × (List Int)) (fun x => mkS [(1, .ref 1 0), (4, .arr 13), (5, .arr 16), (37, slEdge false l.Edges), (38, I (l.Edges.length : Int)), (39, I x.1)] [(1, bxLattice l), (13, tAI x.2), (16, tAI (ts.set ((l.Nodes - 1).toNat) 0))]) (fun x => (0 ≤ x.1 ∧ x.1 ≤ (l.Edges.length : Int)) ∧ (x.2 = fvI l x.1.toNat) ∧ True) (fun x => ((l.Edges.length : Int) - x.1).toNat) (0, (fs.set 0 0)) rfl (show (0 ≤ (0 : Int) ∧ (0 : Int) ≤ (l.Edges.length : Int)) ∧ ((fs.set 0 0) = fvI l (0 : Int).toNat) ∧ True from ⟨(by omega), (by rw [hfE]; rfl), trivial⟩) (fun x hI => ?_)
    obtain ⟨t39, f2⟩ := x
    obtain ⟨hi1, hf2, _⟩ : (0 ≤ t39 ∧ t39 ≤ (l.Edges.length : Int)) ∧ (f2 = fvI l t39.toNat) ∧ True := hI
    show XW _ _ _ _ (mkS [(1, .ref 1 0), (4, .arr 13), (5, .arr 16), (37, slEdge false l.Edges), (38, I (l.Edges.length : Int)), (39, I t39)] [(1, bxLattice l), (13, tAI f2), (16, tAI (ts.set ((l.Nodes - 1).toNat) 0))]) _ _
    refine x_seq ?_
    by_cases h2 : t39 < (l.Edges.length : Int)
    ·have hi : t39.toNat < l.Edges.length := by omega
     have hed := hl.2.2.1 _ hi
     have he1 := hed.1
     have he2 := hed.2.1
     have hii : (t39 + 1).toNat = t39.toNat + 1 := by omega
     have hfl := fvI_len l t39.toNat
     rw [← hf2] at hfl
     have hb1 := fvI_bd hl t39.toNat (by omega) (at_ l.Edges t39.toNat).From.toNat (by omega)
     have hb2 := fvI_bd hl t39.toNat (by omega) (at_ l.Edges t39.toNat).To.toNat (by omega)
     rw [← hf2] at hb1 hb2
     refine x_r [(0, .dec true)] [1, 4, 5, 37, 38, 39, 40] [1, 13, 16] [.ref 1 0, .arr 13, .arr 16, slEdge false l.Edges, I (l.Edges.length : Int), I t39, Bv true] [some (bxLattice l), some (tAI f2), some (tAI (ts.set ((l.Nodes - 1).toNat) 0))] [t39 < (l.Edges.length : Int)] ⟨h2, trivial⟩ ?_
     refine xe_then ?_
     refine x_seq ?_
     refine x_true rfl ?_
     refine x_skip ?_
     refine xe_then ?_
     refine x_seq ?_
     refine x_block ?_
     refine xR [(2, .new 8)] [1, 4, 5, 8, 37, 38, 39] [1, 8, 13, 16] [.ref 1 0, .arr 13, .arr 16, .ref 8 0, slEdge false l.Edges, I (l.Edges.length : Int), I t39] [some (bxLattice l), some (bxEdge (at_ l.Edges t39.toNat)), some (tAI f2), some (tAI (ts.set ((l.Nodes - 1).toNat) 0))] [(0 : Int) ≤ t39 ∧ t39 < (l.Edges.length : Int)] ⟨⟨(by first | omega | (simp only [List.length_replicate, List.length_set]; omega)), (by first | omega | (simp only [List.length_replicate, List.length_set]; omega))⟩, trivial⟩ ?_
     refine x_r [] [1, 4, 5, 37, 38, 39] [1, 13, 16] [.ref 1 0, .arr 13, .arr 16, slEdge false l.Edges, I (l.Edges.length : Int), I t39] [some (bxLattice l), some (.arr 1 f2.length (fun q => bif Nat.beq q (((at_ l.Edges t39.toNat).To).toNat) then [I (min (at_ f2 (((at_ l.Edges t39.toNat).To).toNat)) ((at_ f2 (((at_ l.Edges t39.toNat).From).toNat)) + ((at_ l.Edges t39.toNat).Cost)))] else (fI f2) q)), some (tAI (ts.set ((l.Nodes - 1).toNat) 0))] [(0 : Int) ≤ ((at_ l.Edges t39.toNat).To) ∧ ((at_ l.Edges t39.toNat).To) < (f2.length : Int), ((at_ l.Edges t39.toNat).To).toNat < f2.length, (0 : Int) ≤ ((at_ l.Edges t39.toNat).From) ∧ ((at_ l.Edges t39.toNat).From) < (f2.length : Int), ((at_ l.Edges t39.toNat).From).toNat < f2.length, inR .i64 ((at_ f2 (((at_ l.Edges t39.toNat).From).toNat)) + ((at_ l.Edges t39.toNat).Cost)), (0 : Int) ≤ ((at_ l.Edges t39.toNat).To) ∧ ((at_ l.Edges t39.toNat).To) < (f2.length : Int), ((at_ l.Edges t39.toNat).To).toNat < f2.length] ⟨⟨(by first | omega | (simp only [List.length_replicate, List.length_set]; omega)), (by first | omega | (simp only [List.length_replicate, List.length_set]; omega))⟩, (by first | omega | (simp only [List.length_replicate, List.length_set]; omega)), ⟨(by first | omega | (simp only [List.length_replicate, List.length_set]; omega)), (by first | omega | (simp only [List.length_replicate, List.length_set]; omega))⟩, (by first | omega | (simp only [List.length_replicate, List.length_set]; omega)), (inR_i64 (by first | omega | (simp only [List.length_replicate, List.length_set]; omega)) (by first | omega | (simp only [List.length_replicate, List.length_set]; omega))), ⟨(by first | omega | (simp only [List.length_replicate, List.length_set]; omega)), (by first | omega | (simp only [List.length_replicate, List.length_set]; omega))⟩, (by first | omega | (simp only [List.length_replicate, List.length_set]; omega)), trivial⟩ ?_
     refine xe_block 3 ?_
     refine xe_then ?_
     refine x_weak [] (T := [(1, .ref 1 0), (4, .arr 13), (5, .arr 16), (37, slEdge false l.Edges), (38, I (l.Edges.length : Int)), (39, I t39)]) (O := [(1, bxLattice l), (13, tAI (f2.set (((at_ l.Edges t39.toNat).To).toNat) (min (at_ f2 (((at_ l.Edges t39.toNat).To).toNat)) ((at_ f2 (((at_ l.Edges t39.toNat).From).toNat)) + ((at_ l.Edges t39.toNat).Cost))))), (16, tAI (ts.set ((l.Nodes - 1).toNat) 0))]) rfl (⟨.inl rfl, .inl rfl, .inl rfl, .inl rfl, .inl rfl, .inl rfl, trivial⟩) (⟨.inl rfl, .inr ⟨rfl, (by first | rfl | (simp; done) | (simp; omega) | omega), fun i_ hi_ => .inl (upd_enc (enc := cI) rfl i_ hi_)⟩, .inl rfl, trivial⟩) ?_
     refine x_r [] [1, 4, 5, 37, 38, 39] [1, 13, 16] [.ref 1 0, .arr 13, .arr 16, slEdge false l.Edges, I (l.Edges.length : Int), I (t39 + 1)] [some (bxLattice l), some (tAI (f2.set (((at_ l.Edges t39.toNat).To).toNat) (min (at_ f2 (((at_ l.Edges t39.toNat).To).toNat)) ((at_ f2 (((at_ l.Edges t39.toNat).From).toNat)) + ((at_ l.Edges t39.toNat).Cost))))), some (tAI (ts.set ((l.Nodes - 1).toNat) 0))] [inR .i64 (t39 + 1)] ⟨(inR_i64 (by first | omega | (simp only [List.length_replicate, List.length_set]; omega)) (by first | omega | (simp only [List.length_replicate, List.length_set]; omega))), trivial⟩ ?_
     exact xe_again ((t39 + 1), (f2.set (((at_ l.Edges t39.toNat).To).toNat) (min (at_ f2 (((at_ l.Edges t39.toNat).To).toNat)) ((at_ f2 (((at_ l.Edges t39.toNat).From).toNat)) + ((at_ l.Edges t39.toNat).Cost))))) rfl (show (0 ≤ (t39 + 1) ∧ (t39 + 1) ≤ (l.Edges.length : Int)) ∧ ((f2.set (((at_ l.Edges t39.toNat).To).toNat) (min (at_ f2 (((at_ l.Edges t39.toNat).To).toNat)) ((at_ f2 (((at_ l.Edges t39.toNat).From).toNat)) + ((at_ l.Edges t39.toNat).Cost)))) = fvI l (t39 + 1).toNat) ∧ True from ⟨(by omega), (by rw [hii]; show _ = (fvI l t39.toNat).set _ _; rw [← hf2]), trivial⟩) (by first | (show (((l.Edges.length : Int) - (t39 + 1)).toNat : Nat) < ((l.Edges.length : Int) - t39).toNat; omega) | (dsimp only; omega))
    have hfe : f2 = fvL l := by rw [hf2, show t39.toNat = l.Edges.length from by omega]; rfl
    refine x_r [(0, .dec false)] [1, 4, 5, 37, 38, 39, 40] [1, 13, 16] [.ref 1 0, .arr 13, .arr 16, slEdge false l.Edges, I (l.Edges.length : Int), I t39, Bv false] [some (bxLattice l), some (tAI f2), some (tAI (ts.set ((l.Nodes - 1).toNat) 0))] [¬ (t39 < (l.Edges.length : Int))] ⟨h2, trivial⟩ ?_
    refine xe_then ?_
    refine x_seq ?_
    refine x_false rfl ?_
    refine x_exit ?_
    refine xe_exit_then ?_
    refine xe_loop_exit ?_
    refine xe_exit_same ?_
    refine xe_then ?_
    refine x_seq ?_
    refine xR [] [1, 4, 5, 9] [1, 13, 16] [.ref 1 0, .arr 13, .arr 16, I ((l.Edges.length : Int) - 1)] [some (bxLattice l), some (tAI f2), some (tAI (ts.set ((l.Nodes - 1).toNat) 0))] [inR .i64 ((l.Edges.length : Int) - 1)] ⟨(inR_i64 (by first | omega | (simp only [List.length_replicate, List.length_set]; omega)) (by first | omega | (simp only [List.length_replicate, List.length_set]; omega))), trivial⟩ ?_
    refine x_block ?_
    refine x_loop (X := Int × (List Int)) (fun x => mkS [(1, .ref 1 0), (4, .arr 13), (5, .arr 16), (9, I x.1)] [(1, bxLattice l), (13, tAI f2), (16, tAI x.2)]) (fun x => (0 ≤ x.1 + 1 ∧ x.1 < (l.Edges.length : Int)) ∧ (∃ q : Nat, (q : Int) = (l.Edges.length : Int) - 1 - x.1 ∧ x.2 = tvI l q) ∧ True) (fun x => (x.1 + 1).toNat) (((l.Edges.length : Int) - 1), (ts.set ((l.Nodes - 1).toNat) 0)) rfl (show (0 ≤ ((l.Edges.length : Int) - 1) + 1 ∧ ((l.Edges.length : Int) - 1) < (l.Edges.length : Int)) ∧ (∃ q : Nat, (q : Int) = (l.Edges.length : Int) - 1 - ((l.Edges.length : Int) - 1) ∧ (ts.set ((l.Nodes - 1).toNat) 0) = tvI l q) ∧ True from ⟨(by omega), (by exact ⟨0, by omega, by rw [htE]; rfl⟩), trivial⟩) (fun x hI => ?_)
    obtain ⟨k, t3⟩ := x
    obtain ⟨hk0, ht3, _⟩ : (0 ≤ k + 1 ∧ k < (l.Edges.length : Int)) ∧ (∃ q : Nat, (q : Int) = (l.Edges.length : Int) - 1 - k ∧ t3 = tvI l q) ∧ True := hI
    show XW _ _ _ _ (mkS [(1, .ref 1 0), (4, .arr 13), (5, .arr 16), (9, I k)] [(1, bxLattice l), (13, tAI f2), (16, tAI t3)]) _ _
    refine x_seq ?_
    refine x_seq ?_
    by_cases h3 : 0 ≤ k
    ·obtain ⟨q_, hq1, hq2⟩ := ht3
     have hix : k.toNat = l.Edges.length - 1 - q_ := by omega
     have hi : k.toNat < l.Edges.length := by omega
     have hed := hl.2.2.1 _ hi
     have he1 := hed.1
     have he2 := hed.2.1
     have htl := tvI_len l q_
     rw [← hq2] at htl
     have hb1 := tvI_bd hl q_ (by omega) (at_ l.Edges k.toNat).From.toNat (by omega)
     have hb2 := tvI_bd hl q_ (by omega) (at_ l.Edges k.toNat).To.toNat (by omega)
     rw [← hq2] at hb1 hb2
     have hst : tvI l (q_ + 1) = t3.set (at_ l.Edges k.toNat).From.toNat (min (at_ t3 (at_ l.Edges k.toNat).From.toNat) (at_ t3 (at_ l.Edges k.toNat).To.toNat + (at_ l.Edges k.toNat).Cost)) := by rw [hq2, hix]; rfl
     refine x_r [(1, .dec true)] [1, 4, 5, 9, 67] [1, 13, 16] [.ref 1 0, .arr 13, .arr 16, I k, Bv true] [some (bxLattice l), some (tAI f2), some (tAI t3)] [0 ≤ k] ⟨h3, trivial⟩ ?_
     refine xe_then ?_
     refine x_true rfl ?_
     refine x_skip ?_
     refine xe_then ?_
     refine x_seq ?_
     refine x_block ?_
     refine xR [(5, .new 10)] [1, 4, 5, 9, 10] [1, 10, 13, 16] [.ref 1 0, .arr 13, .arr 16, I k, .ref 10 0] [some (bxLattice l), some (bxEdge (at_ l.Edges k.toNat)), some (tAI f2), some (tAI t3)] [(0 : Int) ≤ k ∧ k < (l.Edges.length : Int)] ⟨⟨(by first | omega | (simp only [List.length_replicate, List.length_set]; omega)), (by first | omega | (simp only [List.length_replicate, List.length_set]; omega))⟩, trivial⟩ ?_
     refine x_r [] [1, 4, 5, 9] [1, 13, 16] [.ref 1 0, .arr 13, .arr 16, I k] [some (bxLattice l), some (tAI f2), some (.arr 1 t3.length (fun q => bif Nat.beq q (((at_ l.Edges k.toNat).From).toNat) then [I (min (at_ t3 (((at_ l.Edges k.toNat).From).toNat)) ((at_ t3 (((at_ l.Edges k.toNat).To).toNat)) + ((at_ l.Edges k.toNat).Cost)))] else (fI t3) q))] [(0 : Int) ≤ ((at_ l.Edges k.toNat).From) ∧ ((at_ l.Edges k.toNat).From) < (t3.length : Int), ((at_ l.Edges k.toNat).From).toNat < t3.length, (0 : Int) ≤ ((at_ l.Edges k.toNat).To) ∧ ((at_ l.Edges k.toNat).To) < (t3.length : Int), ((at_ l.Edges k.toNat).To).toNat < t3.length, inR .i64 ((at_ t3 (((at_ l.Edges k.toNat).To).toNat)) + ((at_ l.Edges k.toNat).Cost)), (0 : Int) ≤ ((at_ l.Edges k.toNat).From) ∧ ((at_ l.Edges k.toNat).From) < (t3.length : Int), ((at_ l.Edges k.toNat).From).toNat < t3.length] ⟨⟨(by first | omega | (simp only [List.length_replicate, List.length_set]; omega)), (by first | omega | (simp only [List.length_replicate, List.length_set]; omega))⟩, (by first | omega | (simp only [List.length_replicate, List.length_set]; omega)), ⟨(by first | omega | (simp only [List.length_replicate, List.length_set]; omega)), (by first | omega | (simp only [List.length_replicate, List.length_set]; omega))⟩, (by first | omega | (simp only [List.length_replicate, List.length_set]; omega)), (inR_i64 (by first | omega | (simp only [List.length_replicate, List.length_set]; omega)) (by first | omega | (simp only [List.length_replicate, List.length_set]; omega))), ⟨(by first | omega | (simp only [List.length_replicate, List.length_set]; omega)), (by first | omega | (simp only [List.length_replicate, List.length_set]; omega))⟩, (by first | omega | (simp only [List.length_replicate, List.length_set]; omega)), trivial⟩ ?_
     refine xe_block 5 ?_
     refine xe_then ?_
     refine x_r [] [1, 4, 5, 9] [1, 13, 16] [.ref 1 0, .arr 13, .arr 16, I (k - 1)] [some (bxLattice l), some (tAI f2), some (.arr 1 t3.length (fun q => bif Nat.beq q (((at_ l.Edges k.toNat).From).toNat) then [I (min (at_ t3 (((at_ l.Edges k.toNat).From).toNat)) ((at_ t3 (((at_ l.Edges k.toNat).To).toNat)) + ((at_ l.Edges k.toNat).Cost)))] else (fI t3) q))] [inR .i64 (k - 1)] ⟨(inR_i64 (by first | omega | (simp only [List.length_replicate, List.length_set]; omega)) (by first | omega | (simp only [List.length_replicate, List.length_set]; omega))), trivial⟩ ?_
     refine xe_weak [] (T := [(1, .ref 1 0), (4, .arr 13), (5, .arr 16), (9, I (k - 1))]) (O := [(1, bxLattice l), (13, tAI f2), (16, tAI (t3.set (((at_ l.Edges k.toNat).From).toNat) (min (at_ t3 (((at_ l.Edges k.toNat).From).toNat)) ((at_ t3 (((at_ l.Edges k.toNat).To).toNat)) + ((at_ l.Edges k.toNat).Cost)))))]) rfl (⟨.inl rfl, .inl rfl, .inl rfl, .inl rfl, trivial⟩) (⟨.inl rfl, .inl rfl, .inr ⟨rfl, (by first | rfl | (simp; done) | (simp; omega) | omega), fun i_ hi_ => .inl (upd_enc (enc := cI) rfl i_ hi_)⟩, trivial⟩) (xe_again ((k - 1), (t3.set (((at_ l.Edges k.toNat).From).toNat) (min (at_ t3 (((at_ l.Edges k.toNat).From).toNat)) ((at_ t3 (((at_ l.Edges k.toNat).To).toNat)) + ((at_ l.Edges k.toNat).Cost))))) rfl (show (0 ≤ (k - 1) + 1 ∧ (k - 1) < (l.Edges.length : Int)) ∧ (∃ q : Nat, (q : Int) = (l.Edges.length : Int) - 1 - (k - 1) ∧ (t3.set (((at_ l.Edges k.toNat).From).toNat) (min (at_ t3 (((at_ l.Edges k.toNat).From).toNat)) ((at_ t3 (((at_ l.Edges k.toNat).To).toNat)) + ((at_ l.Edges k.toNat).Cost)))) = tvI l q) ∧ True from ⟨(by omega), (by exact ⟨q_ + 1, by omega, hst.symm⟩), trivial⟩) (by first | (show (((k - 1) + 1).toNat : Nat) < (k + 1).toNat; omega) | (dsimp only; omega)))
    have hte : t3 = tvL l := by obtain ⟨q_, hq1, hq2⟩ := ht3; rw [hq2, show q_ = l.Edges.length from by omega]; rfl
    refine x_r [(1, .dec false)] [1, 4, 5, 9, 67] [1, 13, 16] [.ref 1 0, .arr 13, .arr 16, I k, Bv false] [some (bxLattice l), some (tAI f2), some (tAI t3)] [¬ (0 ≤ k)] ⟨h3, trivial⟩ ?_
    refine xe_then ?_
    refine x_false rfl ?_
    refine x_exit ?_
    refine xe_exit_then ?_
    refine xe_loop_exit ?_
    refine xe_exit_same ?_
    refine xe_then ?_
    refine xR [] [2, 3] [13, 16] [.arr 13, .arr 16] [some (tAI f2), some (tAI t3)] [] trivial ?_
    refine x_ret ?_
    refine xe_end (f2, t3) (show (f2 = fvL l) ∧ (t3 = tvL l) ∧ (True) from ⟨(by exact hfe), (by exact hte), trivial⟩) (trivial) (.tup [.arr 13, .arr 16]) (by kernel_rfl) (.inr ⟨⟨(fun _ => rfl), rfl, rfl, fun i _ => .inl rfl⟩, ⟨⟨(fun _ => rfl), rfl, rfl, fun i _ => .inl rfl⟩, rfl⟩⟩) (fun _ => rfl) (fun _ => (by simp [tagged, taggedL, tagI]))
  obtain ⟨⟨f, t⟩, ⟨hh0, hh1, _⟩, hc⟩ := hh
  exact ⟨f, t, hh0, hh1, hc⟩



-- impl.PruneLattice
theorem PruneLattice_ok (l : Lattice) (slack : Int) (hl : okLat l) (hs : 0 ≤ slack ∧ slack ≤ 1000000) : ∃ (v : Lattice) (c : Int), ((c = 0 ∧ at_ (tvL l) 0 < 1099511627776 ∧ v = prT l (at_ (tvL l) 0 + slack)) ∨ (c = 3 ∧ ¬ at_ (tvL l) 0 < 1099511627776)) ∧ Con Try.prog 7 [agLattice l, I slack] true (.tup [agLatticeT v, I c]) := by
  have hn20 := hl.1
  have hc := hl.2.1
  have hh : ∃ r : Lattice × Int, (((r.2 = 0 ∧ at_ (tvL l) 0 < 1099511627776 ∧ r.1 = prT l (at_ (tvL l) 0 + slack)) ∨ (r.2 = 3 ∧ ¬ at_ (tvL l) 0 < 1099511627776)) ∧ (True)) ∧ CallOK Try.prog 7 [agLattice l, I slack] (lookO []) true (.tup [agLatticeT r.1, I r.2]) (lookO []) := by
    refine fn_okX (Φ := fun r : Lattice × Int => ((r.2 = 0 ∧ at_ (tvL l) 0 < 1099511627776 ∧ r.1 = prT l (at_ (tvL l) 0 + slack)) ∨ (r.2 = 3 ∧ ¬ at_ (tvL l) 0 < 1099511627776)) ∧ (True)) [] (fun r => []) (fn := Try.f7) (nt := 67) Try.func7 rfl rfl (args := [agLattice l, I slack]) rfl (allcons (.inl ⟨rfl, by simp [tagged, taggedL, tagEdge]⟩) (allcons (.inl ⟨rfl, trivial⟩) allnil)) (res := fun r => .tup [agLatticeT r.1, I r.2]) ?_
    refine xR [(0, .new 2), (1, .new 4)] [1, 2, 4] [2, 4] [I slack, .ref 2 0, .ref 4 0] [some (bxLattice l), some (.box [I 0, nilA])] [] trivial ?_
    refine x_seq ?_
    refine xR [(1, .call [(true, .any)] true (Bv true))] [1, 2, 4, 13] [2, 4] [I slack, .ref 2 0, .ref 4 0, Bv false] [some (bxLattice l), some (.box [I 0, nilA])] [Con Try.prog 16 [agLattice l] true (Bv true) ∧ True] ⟨⟨(ValidLattice_ok l hl), trivial⟩, trivial⟩ ?_
    refine x_false rfl ?_
    refine x_skip ?_
    refine xe_then ?_
    refine x_seq ?_
    refine xR [(1, .call [(true, .any)] true (Bv true))] [1, 2, 4, 17] [2, 4] [I slack, .ref 2 0, .ref 4 0, Bv false] [some (bxLattice l), some (.box [I 0, nilA])] [Con Try.prog 17 [I slack] true (Bv true) ∧ True] ⟨⟨(con_bool (inB_iff.2 hs) (isCost_ok slack)), trivial⟩, trivial⟩ ?_
    refine x_false rfl ?_
    refine x_skip ?_
    refine xe_then ?_
    refine x_seq ?_
    obtain ⟨f_1, t_1, hx1_0, hx1_1, hc1⟩ := costsFT_ok l hl
    have hF : f_1 = fvL l := hx1_0
    have hT : t_1 = tvL l := hx1_1
    have hFl : f_1.length = l.Nodes.toNat := by rw [hF]; exact fvI_len l _
    have hTl : t_1.length = l.Nodes.toNat := by rw [hT]; exact tvI_len l _
    have hb0 := tvI_bd hl l.Edges.length (Nat.le_refl _) 0 (by omega)
    have hb00 : 0 ≤ at_ (tvL l) 0 := hb0.1
    refine x_r [(1, .call [(true, .any)] true (.tup [slI true f_1, slI true t_1]))] [1, 2, 4, 6, 7] [2, 4] [I slack, .ref 2 0, .ref 4 0, slI true f_1, slI true t_1] [some (bxLattice l), some (.box [I 0, nilA])] [Con Try.prog 18 [agLattice l] true (.tup [slI true f_1, slI true t_1]) ∧ True] ⟨⟨hc1, trivial⟩, trivial⟩ ?_
    refine xe_then ?_
    refine x_seq ?_
    refine x_seq ?_
    by_cases h1 : 1099511627776 ≤ (at_ t_1 0)
    ·have hno : ¬ at_ (tvL l) 0 < 1099511627776 := by rw [← hT]; omega
     refine x_r [(3, .dec true)] [1, 2, 4, 6, 7, 27] [2, 4] [I slack, .ref 2 0, .ref 4 0, slI true f_1, slI true t_1, Bv true] [some (bxLattice l), some (.box [I 0, nilA])] [(0 : Int) ≤ 0 ∧ 0 < (t_1.length : Int), 1099511627776 ≤ (at_ t_1 0)] ⟨⟨(by omega), (by omega)⟩, h1, trivial⟩ ?_
     refine xe_then ?_
     refine x_true rfl ?_
     refine xR [] [4, 5] [4] [.ref 4 0, I 3] [some (.box [I 0, nilA])] [] trivial ?_
     refine x_ret ?_
     refine xe_ret_then ?_
     refine xe_end ((Lattice.mk 0 ([] : List Edge)), 3) (show ((3 = 0 ∧ at_ (tvL l) 0 < 1099511627776 ∧ (Lattice.mk 0 ([] : List Edge)) = prT l (at_ (tvL l) 0 + slack)) ∨ (3 = 3 ∧ ¬ at_ (tvL l) 0 < 1099511627776)) ∧ (True) from ⟨(by first | exact .inr ⟨rfl, hno⟩ | exact .inl ⟨rfl, hyes, by rw [hes, hie]; rfl⟩), trivial⟩) (trivial) (.tup [.agg [I 0, nilA], I 3]) (by kernel_rfl) (.inr ⟨⟨rfl, ⟨⟨rfl, rfl⟩, rfl⟩⟩, ⟨rfl, rfl⟩⟩) (fun _ => rfl) (fun _ => (by simp [tagged, taggedL, tagEdge]))
    have hyes : at_ (tvL l) 0 < 1099511627776 := by rw [← hT]; omega
    have h00 : at_ t_1 0 = at_ (tvL l) 0 := by rw [hT]
    refine x_r [(3, .dec false)] [1, 2, 4, 6, 7, 27] [2, 4] [I slack, .ref 2 0, .ref 4 0, slI true f_1, slI true t_1, Bv false] [some (bxLattice l), some (.box [I 0, nilA])] [(0 : Int) ≤ 0 ∧ 0 < (t_1.length : Int), ¬ (1099511627776 ≤ (at_ t_1 0))] ⟨⟨(by omega), (by omega)⟩, h1, trivial⟩ ?_
    refine xe_then ?_
    refine x_false rfl ?_
    refine x_skip ?_
    refine xe_then ?_
    refine xR [(3, .new 8)] [1, 2, 4, 6, 7, 8] [2, 4, 8] [I slack, .ref 2 0, .ref 4 0, slI true f_1, slI true t_1, .ref 8 0] [some (bxLattice l), some (.box [I 0, nilA]), some (.box [I l.Nodes, nilA])] [] trivial ?_
    refine x_seq ?_
    refine xR [] [1, 4, 6, 7, 8, 33, 34, 35] [4, 8] [I slack, .ref 4 0, slI true f_1, slI true t_1, .ref 8 0, slEdge false l.Edges, I (l.Edges.length : Int), I 0] [some (.box [I 0, nilA]), some (.box [I l.Nodes, nilA])] [] trivial ?_
    refine x_block ?_
    refine x_nilC 8 1 781 4 (fun _ => []) rfl (by kernel_rfl) ?_
    refine x_weak [] (T := [(1, I slack), (4, .ref 4 0), (6, slI true f_1), (7, slI true t_1), (8, .ref 8 0), (33, slEdge false l.Edges), (34, I (l.Edges.length : Int)), (35, I 0)]) (O := [(4, .box [I 0, nilA]), (8, .box [I l.Nodes, .arr 781]), (781, tAEdge ([] : List Edge))]) rfl (⟨.inl rfl, .inl rfl, .inl rfl, .inl rfl, .inl rfl, .inl rfl, .inl rfl, .inl rfl, trivial⟩) (⟨.inl rfl, .inl rfl, .inr ⟨rfl, (by first | rfl | (simp; done) | (simp; omega) | omega), fun i_ hi_ => absurd hi_ (Nat.not_lt_zero _)⟩, trivial⟩) ?_
    refine x_loop (X := Int × (List Edge)) (fun x => mkS [(1, I slack), (4, .ref 4 0), (6, slI true f_1), (7, slI true t_1), (8, .ref 8 0), (33, slEdge false l.Edges), (34, I (l.Edges.length : Int)), (35, I x.1)] [(4, .box [I 0, nilA]), (8, .box [I l.Nodes, .arr 781]), (781, tAEdge x.2)]) (fun x => (0 ≤ x.1 ∧ x.1 ≤ (l.Edges.length : Int)) ∧ (x.2 = prL l (at_ (tvL l) 0 + slack) x.1.toNat) ∧ True) (fun x => ((l.Edges.length : Int) - x.1).toNat) (0, ([] : List Edge)) rfl (show (0 ≤ (0 : Int) ∧ (0 : Int) ≤ (l.Edges.length : Int)) ∧ (([] : List Edge) = prL l (at_ (tvL l) 0 + slack) (0 : Int).toNat) ∧ True from ⟨(by omega), (by rfl), trivial⟩) (fun x hI => ?_)
    obtain ⟨t35, es⟩ := x
    obtain ⟨hi0, hes, _⟩ : (0 ≤ t35 ∧ t35 ≤ (l.Edges.length : Int)) ∧ (es = prL l (at_ (tvL l) 0 + slack) t35.toNat) ∧ True := hI
    show XW _ _ _ _ (mkS [(1, I slack), (4, .ref 4 0), (6, slI true f_1), (7, slI true t_1), (8, .ref 8 0), (33, slEdge false l.Edges), (34, I (l.Edges.length : Int)), (35, I t35)] [(4, .box [I 0, nilA]), (8, .box [I l.Nodes, .arr 781]), (781, tAEdge es)]) _ _
    refine x_seq ?_
    by_cases h2 : t35 < (l.Edges.length : Int)
    ·have hi : t35.toNat < l.Edges.length := by omega
     have hed := hl.2.2.1 _ hi
     have he1 := hed.1
     have he2 := hed.2.1
     have hii : (t35 + 1).toNat = t35.toNat + 1 := by omega
     have hb1 := fvI_bd hl l.Edges.length (Nat.le_refl _) (at_ l.Edges t35.toNat).From.toNat (by omega)
     have hb2 := tvI_bd hl l.Edges.length (Nat.le_refl _) (at_ l.Edges t35.toNat).To.toNat (by omega)
     have hf1 : at_ f_1 (at_ l.Edges t35.toNat).From.toNat = at_ (fvL l) (at_ l.Edges t35.toNat).From.toNat := by rw [hF]
     have ht1 : at_ t_1 (at_ l.Edges t35.toNat).To.toNat = at_ (tvL l) (at_ l.Edges t35.toNat).To.toNat := by rw [hT]
     have hb3 : 0 ≤ at_ (fvL l) (at_ l.Edges t35.toNat).From.toNat ∧ at_ (fvL l) (at_ l.Edges t35.toNat).From.toNat ≤ 1099511627776 := hb1
     have hb4 : 0 ≤ at_ (tvL l) (at_ l.Edges t35.toNat).To.toNat ∧ at_ (tvL l) (at_ l.Edges t35.toNat).To.toNat ≤ 1099511627776 := hb2
     have hnx := prL_next (l := l) (b := at_ (tvL l) 0 + slack) hi
     have hpl := prL_len l (at_ (tvL l) 0 + slack) t35.toNat
     rw [← hes] at hpl
     refine x_r [(0, .dec true)] [1, 4, 6, 7, 8, 33, 34, 35, 36] [4, 8, 781] [I slack, .ref 4 0, slI true f_1, slI true t_1, .ref 8 0, slEdge false l.Edges, I (l.Edges.length : Int), I t35, Bv true] [some (.box [I 0, nilA]), some (.box [I l.Nodes, .arr 781]), some (tAEdge es)] [t35 < (l.Edges.length : Int)] ⟨h2, trivial⟩ ?_
     refine xe_then ?_
     refine x_seq ?_
     refine x_true rfl ?_
     refine x_skip ?_
     refine xe_then ?_
     refine x_seq ?_
     refine x_block ?_
     refine xR [(2, .new 10)] [1, 4, 6, 7, 8, 10, 33, 34, 35] [4, 8, 10, 781] [I slack, .ref 4 0, slI true f_1, slI true t_1, .ref 8 0, .ref 10 0, slEdge false l.Edges, I (l.Edges.length : Int), I t35] [some (.box [I 0, nilA]), some (.box [I l.Nodes, .arr 781]), some (bxEdge (at_ l.Edges t35.toNat)), some (tAEdge es)] [(0 : Int) ≤ t35 ∧ t35 < (l.Edges.length : Int)] ⟨⟨(by omega), (by omega)⟩, trivial⟩ ?_
     refine x_seq ?_
     by_cases h3 : (((at_ f_1 (((at_ l.Edges t35.toNat).From).toNat)) + ((at_ l.Edges t35.toNat).Cost)) + (at_ t_1 (((at_ l.Edges t35.toNat).To).toNat))) ≤ ((at_ t_1 0) + slack)
     ·refine x_r [(19, .dec true)] [1, 4, 6, 7, 8, 10, 33, 34, 35, 58] [4, 8, 10, 781] [I slack, .ref 4 0, slI true f_1, slI true t_1, .ref 8 0, .ref 10 0, slEdge false l.Edges, I (l.Edges.length : Int), I t35, Bv true] [some (.box [I 0, nilA]), some (.box [I l.Nodes, .arr 781]), some (bxEdge (at_ l.Edges t35.toNat)), some (tAEdge es)] [(0 : Int) ≤ ((at_ l.Edges t35.toNat).From) ∧ ((at_ l.Edges t35.toNat).From) < (f_1.length : Int), inR .i64 ((at_ f_1 (((at_ l.Edges t35.toNat).From).toNat)) + ((at_ l.Edges t35.toNat).Cost)), (0 : Int) ≤ ((at_ l.Edges t35.toNat).To) ∧ ((at_ l.Edges t35.toNat).To) < (t_1.length : Int), inR .i64 (((at_ f_1 (((at_ l.Edges t35.toNat).From).toNat)) + ((at_ l.Edges t35.toNat).Cost)) + (at_ t_1 (((at_ l.Edges t35.toNat).To).toNat))), (0 : Int) ≤ 0 ∧ 0 < (t_1.length : Int), inR .i64 ((at_ t_1 0) + slack), (((at_ f_1 (((at_ l.Edges t35.toNat).From).toNat)) + ((at_ l.Edges t35.toNat).Cost)) + (at_ t_1 (((at_ l.Edges t35.toNat).To).toNat))) ≤ ((at_ t_1 0) + slack)] ⟨⟨(by omega), (by omega)⟩, (inR_i64 (by omega) (by omega)), ⟨(by omega), (by omega)⟩, (inR_i64 (by omega) (by omega)), ⟨(by omega), (by omega)⟩, (inR_i64 (by omega) (by omega)), h3, trivial⟩ ?_
      refine xe_then ?_
      refine x_true rfl ?_
      refine x_r [(3, .new 62), (4, .new 63)] [1, 4, 6, 7, 8, 33, 34, 35] [4, 8, 63] [I slack, .ref 4 0, slI true f_1, slI true t_1, .ref 8 0, slEdge false l.Edges, I (l.Edges.length : Int), I t35] [some (.box [I 0, nilA]), some (.box [I l.Nodes, .arr 63]), some (.arr 4 (es.length + 1) (catF es.length (fEdge es) (litF [I ((at_ l.Edges t35.toNat).From), I ((at_ l.Edges t35.toNat).To), Sv ((at_ l.Edges t35.toNat).Label), I ((at_ l.Edges t35.toNat).Cost)] 4)))] [(es.length + 1) * 40 ≤ 140737488355328] ⟨(by omega), trivial⟩ ?_
      refine xe_block 1 ?_
      refine xe_then ?_
      refine x_r [] [1, 4, 6, 7, 8, 33, 34, 35] [4, 8, 63] [I slack, .ref 4 0, slI true f_1, slI true t_1, .ref 8 0, slEdge false l.Edges, I (l.Edges.length : Int), I (t35 + 1)] [some (.box [I 0, nilA]), some (.box [I l.Nodes, .arr 63]), some (.arr 4 (es.length + 1) (catF es.length (fEdge es) (litF [I ((at_ l.Edges t35.toNat).From), I ((at_ l.Edges t35.toNat).To), Sv ((at_ l.Edges t35.toNat).Label), I ((at_ l.Edges t35.toNat).Cost)] 4)))] [inR .i64 (t35 + 1)] ⟨(inR_i64 (by omega) (by omega)), trivial⟩ ?_
      refine xe_weak [(781, 63)] (T := [(1, I slack), (4, .ref 4 0), (6, slI true f_1), (7, slI true t_1), (8, .ref 8 0), (33, slEdge false l.Edges), (34, I (l.Edges.length : Int)), (35, I (t35 + 1))]) (O := [(4, .box [I 0, nilA]), (8, .box [I l.Nodes, .arr 781]), (781, tAEdge (es ++ [(at_ l.Edges t35.toNat)]))]) rfl (⟨.inl rfl, .inl rfl, .inl rfl, .inl rfl, .inl rfl, .inl rfl, .inl rfl, .inl rfl, trivial⟩) (⟨.inl rfl, .inl rfl, .inr ⟨rfl, (by first | rfl | (simp; done) | (simp; omega) | omega), fun i_ hi_ => .inl (cat_snoc (enc := cEdge) (xs := es) rfl i_ hi_)⟩, trivial⟩) (xe_again ((t35 + 1), (es ++ [(at_ l.Edges t35.toNat)])) rfl (show (0 ≤ (t35 + 1) ∧ (t35 + 1) ≤ (l.Edges.length : Int)) ∧ ((es ++ [(at_ l.Edges t35.toNat)]) = prL l (at_ (tvL l) 0 + slack) (t35 + 1).toNat) ∧ True from ⟨(by omega), (by rw [hii, hnx, ← hes]; first | (rw [if_pos (by omega)]; done) | (rw [if_neg (by omega)]; done)), trivial⟩) (by first | (show (((l.Edges.length : Int) - (t35 + 1)).toNat : Nat) < ((l.Edges.length : Int) - t35).toNat; omega) | (dsimp only; omega)))
     refine x_r [(19, .dec false)] [1, 4, 6, 7, 8, 10, 33, 34, 35, 58] [4, 8, 10, 781] [I slack, .ref 4 0, slI true f_1, slI true t_1, .ref 8 0, .ref 10 0, slEdge false l.Edges, I (l.Edges.length : Int), I t35, Bv false] [some (.box [I 0, nilA]), some (.box [I l.Nodes, .arr 781]), some (bxEdge (at_ l.Edges t35.toNat)), some (tAEdge es)] [(0 : Int) ≤ ((at_ l.Edges t35.toNat).From) ∧ ((at_ l.Edges t35.toNat).From) < (f_1.length : Int), inR .i64 ((at_ f_1 (((at_ l.Edges t35.toNat).From).toNat)) + ((at_ l.Edges t35.toNat).Cost)), (0 : Int) ≤ ((at_ l.Edges t35.toNat).To) ∧ ((at_ l.Edges t35.toNat).To) < (t_1.length : Int), inR .i64 (((at_ f_1 (((at_ l.Edges t35.toNat).From).toNat)) + ((at_ l.Edges t35.toNat).Cost)) + (at_ t_1 (((at_ l.Edges t35.toNat).To).toNat))), (0 : Int) ≤ 0 ∧ 0 < (t_1.length : Int), inR .i64 ((at_ t_1 0) + slack), ¬ ((((at_ f_1 (((at_ l.Edges t35.toNat).From).toNat)) + ((at_ l.Edges t35.toNat).Cost)) + (at_ t_1 (((at_ l.Edges t35.toNat).To).toNat))) ≤ ((at_ t_1 0) + slack))] ⟨⟨(by omega), (by omega)⟩, (inR_i64 (by omega) (by omega)), ⟨(by omega), (by omega)⟩, (inR_i64 (by omega) (by omega)), ⟨(by omega), (by omega)⟩, (inR_i64 (by omega) (by omega)), h3, trivial⟩ ?_
     refine xe_then ?_
     refine x_false rfl ?_
     refine x_skip ?_
     refine xe_block 1 ?_
     refine xe_then ?_
     refine x_r [] [1, 4, 6, 7, 8, 33, 34, 35] [4, 8, 781] [I slack, .ref 4 0, slI true f_1, slI true t_1, .ref 8 0, slEdge false l.Edges, I (l.Edges.length : Int), I (t35 + 1)] [some (.box [I 0, nilA]), some (.box [I l.Nodes, .arr 781]), some (tAEdge es)] [inR .i64 (t35 + 1)] ⟨(inR_i64 (by omega) (by omega)), trivial⟩ ?_
     exact xe_again ((t35 + 1), es) rfl (show (0 ≤ (t35 + 1) ∧ (t35 + 1) ≤ (l.Edges.length : Int)) ∧ (es = prL l (at_ (tvL l) 0 + slack) (t35 + 1).toNat) ∧ True from ⟨(by omega), (by rw [hii, hnx, ← hes]; first | (rw [if_pos (by omega)]; done) | (rw [if_neg (by omega)]; done)), trivial⟩) (by first | (show (((l.Edges.length : Int) - (t35 + 1)).toNat : Nat) < ((l.Edges.length : Int) - t35).toNat; omega) | (dsimp only; omega))
    have hie : t35.toNat = l.Edges.length := by omega
    refine x_r [(0, .dec false)] [1, 4, 6, 7, 8, 33, 34, 35, 36] [4, 8, 781] [I slack, .ref 4 0, slI true f_1, slI true t_1, .ref 8 0, slEdge false l.Edges, I (l.Edges.length : Int), I t35, Bv false] [some (.box [I 0, nilA]), some (.box [I l.Nodes, .arr 781]), some (tAEdge es)] [¬ (t35 < (l.Edges.length : Int))] ⟨h2, trivial⟩ ?_
    refine xe_then ?_
    refine x_seq ?_
    refine x_false rfl ?_
    refine x_exit ?_
    refine xe_exit_then ?_
    refine xe_loop_exit ?_
    refine xe_exit_same ?_
    refine xe_then ?_
    refine xR [] [4, 5] [4, 781] [.ref 4 0, I 0] [some (.box [I l.Nodes, .arr 781]), some (tAEdge es)] [] trivial ?_
    refine x_ret ?_
    refine xe_end ((Lattice.mk l.Nodes es), 0) (show ((0 = 0 ∧ at_ (tvL l) 0 < 1099511627776 ∧ (Lattice.mk l.Nodes es) = prT l (at_ (tvL l) 0 + slack)) ∨ (0 = 3 ∧ ¬ at_ (tvL l) 0 < 1099511627776)) ∧ (True) from ⟨(by first | exact .inr ⟨rfl, hno⟩ | exact .inl ⟨rfl, hyes, by rw [hes, hie]; rfl⟩), trivial⟩) (trivial) (.tup [.agg [I l.Nodes, .arr 781], I 0]) (by kernel_rfl) (.inr ⟨⟨rfl, ⟨⟨(fun _ => rfl), rfl, rfl, fun i _ => .inl rfl⟩, rfl⟩⟩, ⟨rfl, rfl⟩⟩) (fun _ => rfl) (fun _ => (by simp [tagged, taggedL, tagEdge]))
  obtain ⟨⟨v, c⟩, ⟨hh0, _⟩, hc⟩ := hh
  exact ⟨v, c, hh0, hc⟩



theorem fst_uniq {k : Nat} {P : Reading → Prop} : ∀ {L M : List Reading}, fstK k P L → fstK k P M → L = M := fun {L M} h g => by
  have sub : ∀ {A B : List Reading}, fstK k P A → fstK k P B → ∀ x ∈ A, x ∈ B := fun {A B} a b x hx => by
    refine Classical.byContradiction fun hno => ?_
    have hP := (a.2.2.1 x hx).1
    rcases b.2.2.2 x hP with ⟨r, hr, e⟩ | w
    · have c1 := (b.2.2.1 r hr).2 x hP e.symm
      have c2 := (a.2.2.1 x hx).2 r (b.2.2.1 r hr).1 e
      exact hno (by rw [rd_ext e.symm (show x.Cost = r.Cost by omega)]; exact hr)
    · -- all k of B are ahead of x, so all of them are in A
      have hin : ∀ r ∈ B, r ∈ A := fun r hr => by
        rcases a.2.2.2 r (b.2.2.1 r hr).1 with ⟨s, hs, e⟩ | w2
        · have c1 := (a.2.2.1 s hs).2 r (b.2.2.1 r hr).1 e.symm
          have c2 := (b.2.2.1 r hr).2 s (a.2.2.1 s hs).1 e
          rw [← rd_ext e (show s.Cost = r.Cost by omega)]; exact hs
        · have q1 := w2.2 x hx
          have q2 := w.2 r hr
          have := cmpR_w.anti x r
          omega
      have nd := fst_nd b
      have := nd_le (xs := x.Text :: B.map Reading.Text) (ys := A.map Reading.Text) (List.nodup_cons.2 ⟨fun q => by
        obtain ⟨r, hr, e⟩ := List.mem_map.1 q
        have c1 := (b.2.2.1 r hr).2 x hP e.symm
        have c2 := (a.2.2.1 x hx).2 r (b.2.2.1 r hr).1 e
        exact hno (by rw [rd_ext e.symm (show x.Cost = r.Cost by omega)]; exact hr), nd⟩) fun y hy => by
          rcases List.mem_cons.1 hy with q | q
          · rw [q]; exact List.mem_map_of_mem hx
          · obtain ⟨r, hr, rfl⟩ := List.mem_map.1 q
            exact List.mem_map_of_mem (hin r hr)
      simp only [List.length_cons, List.length_map] at this
      have := a.2.1
      omega
  have nd : ∀ {A : List Reading}, fstK k P A → A.Nodup := fun {A} a => a.1.imp fun {x y} q e => by rw [e, cmpR_w.refl] at q; omega
  have hp : L.Perm M := (List.perm_ext_iff_of_nodup (nd h) (nd g)).2 fun x => ⟨sub h g x, sub g h x⟩
  refine List.Perm.eq_of_pairwise (le := fun x y => cmpR x y < 0) (fun a b _ _ q1 q2 => ?_) h.1 g.1 hp
  have := (cmpR_w.anti a b).1 q1
  omega
theorem fst_is {k : Nat} {xs L : List Reading} (h : fstK k (· ∈ xs) L) : L = frL k xs := fst_uniq h (frL_fst k xs)
theorem fst_add {k : Nat} {xs L : List Reading} {r : Reading} (h : fstK k (fun q => q ∈ xs ∨ q = r) L) : L = frL k (xs ++ [r]) := fst_is (fst_congr h fun x => by simp)
theorem fst_keep {k : Nat} {P : Reading → Prop} {L : List Reading} {r e : Reading} (h : fstK k P L) (he : e ∈ L) (ht : e.Text = r.Text) (hc : e.Cost ≤ r.Cost) : fstK k (fun q => P q ∨ q = r) L := by
  refine ⟨h.1, h.2.1, fun x hx => ⟨.inl (h.2.2.1 x hx).1, fun q hq e2 => ?_⟩, fun q hq => ?_⟩
  · rcases hq with hq | hq
    · exact (h.2.2.1 x hx).2 q hq e2
    · subst hq
      have := (h.2.2.1 x hx).2 e (h.2.2.1 e he).1 (ht.trans e2)
      omega
  · rcases hq with hq | hq
    · exact h.2.2.2 q hq
    · exact .inl ⟨e, he, by rw [hq]; exact ht⟩
def othR (t : ByteArray) (xs : List Reading) (i : Nat) : List Reading := (xs.take i).filter fun x => !decide (x.Text = t)
theorem othR_next {t : ByteArray} {xs : List Reading} {i : Nat} (h : i < xs.length) : othR t xs (i + 1) = if (at_ xs i).Text = t then othR t xs i else othR t xs i ++ [at_ xs i] := by
  unfold othR
  rw [List.take_succ_eq_append_getElem h, ← at_eq h, List.filter_append, List.filter_cons, List.filter_nil]
  by_cases q : (at_ xs i).Text = t
  · rw [if_pos q, if_neg (by simp [q]), List.append_nil]
  · rw [if_neg q, if_pos (by simp [q])]
theorem flt_one {t : ByteArray} : ∀ {xs : List Reading}, (xs.map Reading.Text).Nodup → xs.length ≤ (xs.filter fun x => !decide (x.Text = t)).length + 1
  | [], _ => Nat.zero_le _
  | x :: r, h => by
    rw [List.map_cons, List.nodup_cons] at h
    by_cases q : x.Text = t
    · have : (r.filter fun x => !decide (x.Text = t)) = r := List.filter_eq_self.2 fun y hy => by
        have : y.Text ≠ t := fun e => h.1 (by rw [q, ← e]; exact List.mem_map_of_mem hy)
        simp [this]
      rw [List.filter_cons, if_neg (by simp [q]), this]; simp
    · have ih := flt_one (t := t) h.2
      rw [List.filter_cons, if_pos (by simp [q])]
      simp only [List.length_cons]; omega
theorem fst_put {k m : Nat} {P : Reading → Prop} {L : List Reading} {r : Reading} (h : fstK k P L) (hn : ∀ e ∈ L, e.Text = r.Text → r.Cost < e.Cost) (hm : m ≤ (othR r.Text L L.length).length)
    (hlo : m = 0 ∨ ¬ 0 < cmpR (at_ (othR r.Text L L.length) (m - 1)) r) (hhi : ∀ j : Nat, m ≤ j → j < (othR r.Text L L.length).length → 0 < cmpR (at_ (othR r.Text L L.length) j) r) :
    fstK k (fun q => P q ∨ q = r) (((othR r.Text L L.length).take m ++ [r] ++ (othR r.Text L L.length).drop m).take k) := by
  have hO : ∀ x, x ∈ othR r.Text L L.length ↔ x ∈ L ∧ x.Text ≠ r.Text := fun x => by
    unfold othR; rw [List.take_length, List.mem_filter]; simp
  have hf1 : L.length ≤ (othR r.Text L L.length).length + 1 := by unfold othR; rw [List.take_length]; exact flt_one (fst_nd h)
  have hOp : (othR r.Text L L.length).Pairwise fun x y => cmpR x y < 0 := by unfold othR; rw [List.take_length]; exact h.1.sublist List.filter_sublist
  have hOl : (∀ e ∈ L, e.Text ≠ r.Text) → (othR r.Text L L.length).length = L.length := fun q => by
    unfold othR; rw [List.take_length, List.filter_eq_self.2 fun y hy => by have := q y hy; simp [this]]
  generalize othR r.Text L L.length = O at hm hlo hhi hO hf1 hOp hOl ⊢
  have hne : ∀ x ∈ O, cmpR x r ≠ 0 := fun x hx e => ((hO x).1 hx).2 (by rw [cmpR_tot x r e])
  have hZp := ins_ok cmpR_w hOp hm hlo hhi hne
  have hZm : ∀ x, x ∈ O.take m ++ [r] ++ O.drop m ↔ x = r ∨ x ∈ O := fun x => ins_mem
  have hZl : (O.take m ++ [r] ++ O.drop m).length = O.length + 1 := ins_len hm
  -- what follows r
  have hat : ∀ j, m ≤ j → j < O.length → cmpR r (at_ O j) < 0 := fun j h1 h2 => (cmpR_w.anti _ _).2 (hhi j h1 h2)
  generalize hZ : O.take m ++ [r] ++ O.drop m = Z at hZp hZm hZl ⊢
  have hZr : at_ Z m = r := by
    rw [← hZ, at_left (by simp; omega), at_right (by rw [List.length_take]; omega), show m - (O.take m).length = 0 from by rw [List.length_take]; omega]; rfl
  have hmZ : m < Z.length := by omega
  -- an element of Z is among the first k, or all of them are ahead of it
  have hcut : ∀ x ∈ Z, x ∈ Z.take k ∨ ((Z.take k).length = k ∧ ∀ y ∈ Z.take k, cmpR y x < 0) := fun x hx => by
    obtain ⟨i, hi, e⟩ := List.getElem_of_mem hx
    by_cases q : i < k
    · left
      rw [← e, List.mem_take_iff_getElem]
      exact ⟨i, by omega, rfl⟩
    · right
      refine ⟨by rw [List.length_take]; omega, fun y hy => ?_⟩
      obtain ⟨j, hj, e2⟩ := List.getElem_of_mem hy
      rw [List.length_take] at hj
      rw [List.getElem_take] at e2
      rw [← e2, ← e]
      exact (List.pairwise_iff_getElem.1 hZp) j i (by omega) hi (by omega)
  have hrL : r ∈ Z := (hZm r).2 (.inl rfl)
  -- where the old list is full and ahead of q, so is r, if r is among the first ones
  have hful : ∀ q, L.length = k → (∀ y ∈ L, cmpR y q < 0) → (Z.take k).length = k ∧ ∀ y ∈ Z.take k, cmpR y q < 0 := fun q hk hq => by
    have hrq : r ∈ Z.take k → cmpR r q < 0 := fun hr => by
      by_cases hs : ∀ e ∈ L, e.Text ≠ r.Text
      · have hl := hOl hs
        obtain ⟨i, hi, e⟩ := List.getElem_of_mem hr
        rw [List.length_take] at hi
        rw [List.getElem_take] at e
        have him : i = m := by
          rcases Nat.lt_trichotomy i m with q2 | q2 | q2
          · have := (List.pairwise_iff_getElem.1 hZp) i m (by omega) hmZ q2
            rw [e, ← at_eq hmZ, hZr, cmpR_w.refl] at this
            omega
          · exact q2
          · have := (List.pairwise_iff_getElem.1 hZp) m i hmZ (by omega) q2
            rw [e, ← at_eq hmZ, hZr, cmpR_w.refl] at this
            omega
        have a := hat m (Nat.le_refl _) (by omega)
        have b := hq _ ((hO _).1 (at_mem (xs := O) (i := m) (by omega))).1
        exact cmpR_lt_trans a (Int.le_of_lt b)
      · obtain ⟨e, he⟩ := Classical.not_forall.1 hs
        obtain ⟨he, ht⟩ := Classical.not_imp.1 he
        have ht := Classical.not_not.1 ht
        exact cmpR_lt_trans (cmpR_lt (hn e he ht)) (Int.le_of_lt (hq e he))
    refine ⟨by rw [List.length_take]; omega, fun y hy => ?_⟩
    rcases (hZm y).1 (List.mem_of_mem_take hy) with e | e
    · subst e; exact hrq hy
    · exact hq y ((hO y).1 e).1
  refine ⟨hZp.sublist (List.take_sublist _ _), by rw [List.length_take]; omega, fun x hx => ?_, fun q hq => ?_⟩
  · rcases (hZm x).1 (List.mem_of_mem_take hx) with e | e
    · subst e
      refine ⟨.inr rfl, fun q hq e2 => ?_⟩
      rcases hq with hq | hq
      · rcases h.2.2.2 q hq with ⟨r2, h2, h3⟩ | w
        · have a := (h.2.2.1 r2 h2).2 q hq h3.symm
          have b := hn r2 h2 (h3.trans e2)
          omega
        · exact cmpR_cost (Int.le_of_lt ((hful q w.1 w.2).2 x hx))
      · rw [hq]; exact Int.le_refl _
    · have eL := (hO x).1 e
      refine ⟨.inl (h.2.2.1 x eL.1).1, fun q hq e2 => ?_⟩
      rcases hq with hq | hq
      · exact (h.2.2.1 x eL.1).2 q hq e2
      · subst hq; exact absurd e2.symm eL.2
  · rcases hq with hq | hq
    · rcases h.2.2.2 q hq with ⟨r2, h2, h3⟩ | w
      · by_cases et : r2.Text = r.Text
        · have a := hn r2 h2 et
          have b := (h.2.2.1 r2 h2).2 q hq h3.symm
          rcases hcut r hrL with g | g
          · exact .inl ⟨r, g, et.symm.trans h3⟩
          · exact .inr ⟨g.1, fun y hy => cmpR_lt_trans (g.2 y hy) (Int.le_of_lt (cmpR_lt (by omega)))⟩
        · rcases hcut r2 ((hZm r2).2 (.inr ((hO r2).2 ⟨h2, et⟩))) with g | g
          · exact .inl ⟨r2, g, h3⟩
          · exact .inr ⟨g.1, fun y hy => cmpR_lt_trans (g.2 y hy) (cmpR_same h3 ((h.2.2.1 r2 h2).2 q hq h3.symm))⟩
      · exact .inr (hful q w.1 w.2)
    · subst hq
      rcases hcut q hrL with g | g
      · exact .inl ⟨q, g, rfl⟩
      · exact .inr g
theorem frL_keep {k : Nat} {ys : List Reading} {r e : Reading} (he : e ∈ frL k ys) (ht : e.Text = r.Text) (hc : e.Cost ≤ r.Cost) : frL k ys = frL k (ys ++ [r]) := fst_add (fst_keep (frL_fst k ys) he ht hc)
theorem frL_put {k m : Nat} {ys L : List Reading} {r : Reading} (hL : L = frL k ys) (hn : ∀ e ∈ L, e.Text = r.Text → r.Cost < e.Cost) (hm : m ≤ (othR r.Text L L.length).length)
    (hlo : m = 0 ∨ ¬ 0 < cmpR (at_ (othR r.Text L L.length) (m - 1)) r) (hhi : ∀ j : Nat, m ≤ j → j < (othR r.Text L L.length).length → 0 < cmpR (at_ (othR r.Text L L.length) j) r) :
    ((othR r.Text L L.length).take m ++ [r] ++ (othR r.Text L L.length).drop m).take k = frL k (ys ++ [r]) := fst_add (fst_put (by rw [hL]; exact frL_fst k ys) hn hm hlo hhi)
def frA (k n : Nat) (T : List (List Reading)) : List (List Reading) := (List.range T.length).map fun j => if j ≤ n then at_ T j else frL k (at_ T j)
theorem frA_len (k n : Nat) (T : List (List Reading)) : (frA k n T).length = T.length := by unfold frA; simp
theorem frA_at {k n : Nat} {T : List (List Reading)} {j : Nat} (h : j < T.length) : at_ (frA k n T) j = if j ≤ n then at_ T j else frL k (at_ T j) := by
  rw [at_eq (by rw [frA_len]; exact h)]
  unfold frA
  rw [List.getElem_map, List.getElem_range]
theorem frA_put {k n : Nat} {T : List (List Reading)} {j : Nat} (h : j < T.length) (hn : n < j) {x : Reading} {v : List Reading} (hv : v = frL k (at_ T j ++ [x])) : (frA k n T).set j v = frA k n (T.set j (at_ T j ++ [x])) := by
  refine ext_at (by rw [List.length_set, frA_len, frA_len, List.length_set]) fun i hi => ?_
  rw [List.length_set, frA_len] at hi
  rw [frA_at (by rw [List.length_set]; exact hi)]
  by_cases e : i = j
  · subst e
    rw [at_set_same (by rw [frA_len]; exact hi), at_set_same h, if_neg (by omega), hv]
  · rw [at_set_oth e, at_set_oth e, frA_at hi]
theorem frA_next {k n : Nat} {T : List (List Reading)} (h : n < T.length) : frA k n (T.set n (frL k (at_ T n))) = if n = 0 then (frA k 0 T).set 0 (frL k (at_ T 0)) else frA k (n - 1) T := by
  split
  · rename_i e; subst e
    refine ext_at (by rw [List.length_set, frA_len, frA_len, List.length_set]) fun i hi => ?_
    rw [frA_len, List.length_set] at hi
    rw [frA_at (by rw [List.length_set]; exact hi)]
    by_cases e : i = 0
    · subst e; rw [at_set_same h, at_set_same (by rw [frA_len]; exact hi), if_pos (Nat.le_refl _)]
    · rw [at_set_oth e, at_set_oth e, frA_at hi]
  · rename_i e
    refine ext_at (by rw [frA_len, frA_len, List.length_set]) fun i hi => ?_
    rw [frA_len, List.length_set] at hi
    rw [frA_at (by rw [List.length_set]; exact hi), frA_at hi]
    by_cases e2 : i = n
    · subst e2; rw [at_set_same h, if_pos (Nat.le_refl _), if_neg (by omega)]
    · rw [at_set_oth e2]
      by_cases e3 : i ≤ n
      · rw [if_pos e3, if_pos (by omega)]
      · rw [if_neg e3, if_neg (by omega)]
theorem frL_one {k : Nat} (hk : 0 < k) : frL k [rd0] = [rd0] := (fst_is (xs := [rd0]) ⟨List.pairwise_singleton _ _, hk, fun r hr => ⟨hr, fun q hq _ => by rw [List.mem_singleton] at hr hq; rw [hr, hq]; exact Int.le_refl _⟩, fun q hq => .inl ⟨q, hq, rfl⟩⟩).symm

def clT (w : ByteArray) (T : List Int) (j m : Int) : Int := at_ T (j * ((w.size : Int) + 1) + m).toNat
theorem clT_ix {l : Lattice} {w : ByteArray} {j m : Int} (hj : 0 ≤ j ∧ j < l.Nodes) (hm : 0 ≤ m ∧ m ≤ w.size) : 0 ≤ j * ((w.size : Int) + 1) + m ∧ j * ((w.size : Int) + 1) + m < l.Nodes * ((w.size : Int) + 1) := by
  have a := Int.mul_nonneg hj.1 (show (0 : Int) ≤ (w.size : Int) + 1 by omega)
  have b := Int.mul_le_mul_of_nonneg_right (show j + 1 ≤ l.Nodes by omega) (show (0 : Int) ≤ (w.size : Int) + 1 by omega)
  rw [Int.add_mul, Int.one_mul] at b
  omega
theorem clT_inj {n a b c d : Int} (hb : 0 ≤ b ∧ b < n) (hd : 0 ≤ d ∧ d < n) (h : a * n + b = c * n + d) : a = c ∧ b = d := by
  rcases Int.lt_trichotomy a c with q | q | q
  · have := Int.mul_le_mul_of_nonneg_right (show a + 1 ≤ c by omega) (show 0 ≤ n by omega)
    rw [Int.add_mul, Int.one_mul] at this
    omega
  · subst q; omega
  · have := Int.mul_le_mul_of_nonneg_right (show c + 1 ≤ a by omega) (show 0 ≤ n by omega)
    rw [Int.add_mul, Int.one_mul] at this
    omega
theorem clT_set {l : Lattice} {w : ByteArray} {T : List Int} (hT : (T.length : Int) = l.Nodes * ((w.size : Int) + 1)) {j m a b : Int} (hj : 0 ≤ j ∧ j < l.Nodes) (hm : 0 ≤ m ∧ m ≤ w.size) (ha : 0 ≤ a ∧ a < l.Nodes) (hb : 0 ≤ b ∧ b ≤ w.size) (v : Int) : clT w (T.set (a * ((w.size : Int) + 1) + b).toNat v) j m = if j = a ∧ m = b then v else clT w T j m := by
  have i1 := clT_ix hj hm
  have i2 := clT_ix ha hb
  unfold clT
  by_cases q : j = a ∧ m = b
  · rw [if_pos q, q.1, q.2, at_set_same (by omega)]
  · rw [if_neg q, at_set_oth]
    intro e
    have := clT_inj (n := (w.size : Int) + 1) (a := j) (b := m) (c := a) (d := b) (by omega) (by omega) (by omega)
    exact q this
def scCov (l : Lattice) (w : ByteArray) (T : List Int) (i' : Nat) (m : Int) : Prop := 0 ≤ clT w T (at_ l.Edges i').From m → (at_ l.Edges i').Label = chA w m.toNat → 0 ≤ clT w T (at_ l.Edges i').To (m + 1) ∧ clT w T (at_ l.Edges i').To (m + 1) ≤ clT w T (at_ l.Edges i').From m + (at_ l.Edges i').Cost
def scI (l : Lattice) (w : ByteArray) (nd i k : Int) (T : List Int) : Prop := (T.length : Int) = l.Nodes * ((w.size : Int) + 1) ∧ clT w T 0 0 = 0 ∧ (∀ j m : Int, 0 ≤ j → j < l.Nodes → 0 ≤ m → m ≤ w.size → clT w T j m = -1 ∨ (0 ≤ clT w T j m ∧ pth l j.toNat ⟨w.extract 0 m.toNat, clT w T j m⟩)) ∧ ∀ (i' : Nat) (m : Int), i' < l.Edges.length → 0 ≤ m → m < w.size → ((at_ l.Edges i').From < nd ∨ ((at_ l.Edges i').From = nd ∧ ((i' : Int) < i ∨ ((i' : Int) = i ∧ m < k)))) → scCov l w T i' m
theorem sc_start {l : Lattice} (hl : okLat l) {w : ByteArray} {T : List Int} (hT : (T.length : Int) = l.Nodes * ((w.size : Int) + 1)) (h : ∀ j : Nat, j < T.length → at_ T j = -1) : scI l w 0 0 0 (T.set 0 0) := by
  have hN := hl.1
  have e0 : T.set 0 (0 : Int) = T.set ((0 : Int) * ((w.size : Int) + 1) + 0).toNat 0 := by simp
  have hc : ∀ j m : Int, 0 ≤ j → j < l.Nodes → 0 ≤ m → m ≤ w.size → clT w (T.set 0 0) j m = if j = 0 ∧ m = 0 then 0 else -1 := fun j m h1 h2 h3 h4 => by
    rw [e0, clT_set hT ⟨h1, h2⟩ ⟨h3, h4⟩ (by omega) (by omega)]
    split
    · rfl
    · have := clT_ix (l := l) (w := w) ⟨h1, h2⟩ ⟨h3, h4⟩
      exact h _ (by omega)
  refine ⟨by rw [List.length_set]; exact hT, by rw [hc 0 0 (by omega) (by omega) (by omega) (by omega)]; rfl, fun j m h1 h2 h3 h4 => ?_, fun i' m hi h1 h2 h3 => ?_⟩
  · rw [hc j m h1 h2 h3 h4]
    by_cases q : j = 0 ∧ m = 0
    · rw [if_pos q]; right
      refine ⟨Int.le_refl _, ?_⟩
      rw [q.1, q.2]
      show pth l 0 ⟨w.extract 0 0, 0⟩
      rw [ext_zero]
      exact (pth_iff hl (by omega) _).2 (.inl ⟨rfl, rfl⟩)
    · rw [if_neg q]; exact .inl rfl
  · have := (hl.2.2.1 i' hi).1
    rcases h3 with h3 | ⟨h3, h4 | h4⟩ <;> omega
theorem sc_skip {l : Lattice} {w : ByteArray} {nd i k : Int} {T : List Int} (h : scI l w nd i k T) (hc : scCov l w T i.toNat k) : scI l w nd i (k + 1) T :=
  ⟨h.1, h.2.1, h.2.2.1, fun i' m hi h1 h2 h3 => by
    rcases h3 with h3 | ⟨h3, h4 | ⟨h4, h5⟩⟩
    · exact h.2.2.2 i' m hi h1 h2 (.inl h3)
    · exact h.2.2.2 i' m hi h1 h2 (.inr ⟨h3, .inl h4⟩)
    · by_cases e : m = k
      · subst e; have : i' = i.toNat := by omega
        subst this; exact hc
      · exact h.2.2.2 i' m hi h1 h2 (.inr ⟨h3, .inr ⟨h4, by omega⟩⟩)⟩
theorem sc_put {l : Lattice} (hl : okLat l) {w : ByteArray} {nd i k : Int} {T : List Int} (h : scI l w nd i k T) (hi0 : 0 ≤ i) (hi : i.toNat < l.Edges.length) (hk : 0 ≤ k ∧ k < w.size) (hf : (at_ l.Edges i.toNat).From = nd) (hc : 0 ≤ clT w T nd k) (hlb : (at_ l.Edges i.toNat).Label = chA w k.toNat)
    (ho : clT w T (at_ l.Edges i.toNat).To (k + 1) < 0 ∨ clT w T nd k + (at_ l.Edges i.toNat).Cost < clT w T (at_ l.Edges i.toNat).To (k + 1)) : scI l w nd i (k + 1) (T.set ((at_ l.Edges i.toNat).To * ((w.size : Int) + 1) + (k + 1)).toNat (clT w T nd k + (at_ l.Edges i.toNat).Cost)) := by
  have he := hl.2.2.1 i.toNat hi
  have b := he.1
  have hcost := he.2.1
  have hS := fun (j m : Int) (h1 : 0 ≤ j) (h2 : j < l.Nodes) (h3 : 0 ≤ m) (h4 : m ≤ w.size) => clT_set (w := w) h.1 (j := j) (m := m) ⟨h1, h2⟩ ⟨h3, h4⟩ (a := (at_ l.Edges i.toNat).To) (b := k + 1) ⟨by omega, by omega⟩ ⟨by omega, by omega⟩ (clT w T nd k + (at_ l.Edges i.toNat).Cost)
  refine ⟨by rw [List.length_set]; exact h.1, by rw [hS 0 0 (by omega) (by omega) (by omega) (by omega), if_neg (by omega)]; exact h.2.1, fun j m h1 h2 h3 h4 => ?_, fun i' m hi' h1 h2 h3 => ?_⟩
  · rw [hS j m h1 h2 h3 h4]
    by_cases q : j = (at_ l.Edges i.toNat).To ∧ m = k + 1
    · rw [if_pos q]
      right
      refine ⟨by omega, ?_⟩
      rcases h.2.2.1 nd k (by omega) (by omega) hk.1 (by omega) with z | z
      · omega
      · rw [q.1, q.2, show (k + 1).toNat = k.toNat + 1 from by omega, ext_step w (by omega)]
        exact (pth_iff hl (by omega) _).2 (.inr ⟨_, at_mem hi, by omega, ⟨w.extract 0 k.toNat, clT w T nd k⟩, by rw [hf]; exact z.2, by unfold rdr; rw [hlb]⟩)
    · rw [if_neg q]; exact h.2.2.1 j m h1 h2 h3 h4
  · have b' := (hl.2.2.1 i' hi').1
    intro g1 g2
    rw [hS (at_ l.Edges i').From m (by omega) (by omega) h1 (by omega), if_neg (by rcases h3 with h3 | h3 <;> omega)] at g1 ⊢
    rw [hS (at_ l.Edges i').To (m + 1) (by omega) (by omega) (by omega) (by omega)]
    by_cases e : i' = i.toNat ∧ m = k
    · obtain ⟨e1, e2⟩ := e
      subst e1; subst e2
      rw [if_pos ⟨rfl, rfl⟩, hf]
      rw [hf] at g1
      exact ⟨by omega, Int.le_refl _⟩
    · have old := h.2.2.2 i' m hi' h1 h2 (by
        rcases h3 with h3 | ⟨h3, h4 | ⟨h4, h5⟩⟩
        · exact .inl h3
        · exact .inr ⟨h3, .inl h4⟩
        · refine .inr ⟨h3, .inr ⟨h4, ?_⟩⟩
          have : i' = i.toNat := by omega
          have : m ≠ k := fun z => e ⟨this, z⟩
          omega) g1 g2
      split
      · rename_i q
        rw [q.1, q.2] at old
        refine ⟨by omega, ?_⟩
        rcases ho with ho | ho <;> omega
      · exact old
theorem sc_edge {l : Lattice} {w : ByteArray} {nd i k : Int} {T : List Int} (h : scI l w nd i k T) (hi : 0 ≤ i) (hk : (w.size : Int) ≤ k ∨ (at_ l.Edges i.toNat).From ≠ nd) : scI l w nd (i + 1) 0 T :=
  ⟨h.1, h.2.1, h.2.2.1, fun i' m hi' h1 h2 h3 => by
    refine h.2.2.2 i' m hi' h1 h2 ?_
    rcases h3 with h3 | ⟨h3, h4 | ⟨h4, h5⟩⟩
    · exact .inl h3
    · by_cases e : (i' : Int) = i
      · rcases hk with hk | hk
        · exact .inr ⟨h3, .inr ⟨e, by omega⟩⟩
        · have : i' = i.toNat := by omega
          subst this; exact absurd h3 hk
      · exact .inr ⟨h3, .inl (by omega)⟩
    · omega⟩
theorem sc_node {l : Lattice} {w : ByteArray} {nd i : Int} {T : List Int} (h : scI l w nd i 0 T) (hi : (l.Edges.length : Int) ≤ i) : scI l w (nd + 1) 0 0 T :=
  ⟨h.1, h.2.1, h.2.2.1, fun i' m hi' h1 h2 h3 => by
    refine h.2.2.2 i' m hi' h1 h2 ?_
    rcases h3 with h3 | ⟨h3, h4 | ⟨h4, h5⟩⟩
    · by_cases e : (at_ l.Edges i').From = nd
      · exact .inr ⟨e, .inl (by omega)⟩
      · exact .inl (by omega)
    · omega
    · omega⟩
theorem sc_end {l : Lattice} (hl : okLat l) {w : ByteArray} {nd : Int} {T : List Int} (hnd : l.Nodes ≤ nd) (h : scI l w nd 0 0 T) : (clT w T (l.Nodes - 1) w.size = -1 ∧ ¬ tcF l w < 1099511627776) ∨ (0 ≤ clT w T (l.Nodes - 1) w.size ∧ clT w T (l.Nodes - 1) w.size = tcF l w ∧ tcF l w < 1099511627776) := by
  have hN := hl.1
  have key : ∀ m : Nat, m ≤ w.size → ∀ j : Nat, j < l.Nodes.toNat → ∀ c, pth l j ⟨w.extract 0 m, c⟩ → 0 ≤ clT w T j m ∧ clT w T j m ≤ c := fun m => by
    induction m with
    | zero =>
      intro _ j hj c hc
      rcases (pth_iff hl hj _).1 hc with ⟨q1, q2⟩ | ⟨e2, he, a, r, hr, q⟩
      · subst q1
        have := congrArg Reading.Cost q2
        replace this : c = 0 := this
        have z : clT w T ((0 : Nat) : Int) ((0 : Nat) : Int) = 0 := h.2.1
        rw [z]; omega
      · have t := congrArg (fun r : Reading => r.Text.size) q
        replace t : (w.extract 0 0).size = (r.Text ++ e2.Label).size := t
        rw [ByteArray.size_append, lab_size (ed_ok hl he).2.2, ext_zero] at t
        exact absurd t (by show ¬ (0 = _); omega)
    | succ m ih =>
      intro hm j hj c hc
      obtain ⟨e, he, h1, h2, c', h3, h4⟩ := pth_last hl (show m < w.size by omega) hj hc
      obtain ⟨i', hi, q⟩ := List.getElem_of_mem he
      rw [← at_eq hi] at q
      subst q
      have b := (hl.2.2.1 i' hi).1
      have a := ih (by omega) (at_ l.Edges i').From.toNat (by omega) c' h3
      rw [show (((at_ l.Edges i').From.toNat : Nat) : Int) = (at_ l.Edges i').From from by omega] at a
      have := h.2.2.2 i' m hi (by omega) (by omega) (.inl (by omega)) a.1 h2
      rw [h1, show ((m : Nat) : Int) + 1 = ((m + 1 : Nat) : Int) from by omega] at this
      omega
  have e1 : (((l.Nodes - 1).toNat : Nat) : Int) = l.Nodes - 1 := by omega
  have hv := h.2.2.1 (l.Nodes - 1) w.size (by omega) (by omega) (by omega) (by omega)
  have hk := key w.size (Nat.le_refl _) (l.Nodes - 1).toNat (by omega)
  rw [e1, ext_full] at hk
  rw [show ((w.size : Int)).toNat = w.size from by omega, ext_full] at hv
  by_cases q : tcF l w < 1099511627776
  · right
    have a := hk _ (tcF_has hl q)
    rcases hv with z | z
    · omega
    · have := tcF_min hl z.2
      exact ⟨a.1, by omega, q⟩
  · left
    rcases hv with z | z
    · exact ⟨z, q⟩
    · have a := tcF_min hl z.2
      have bd := pth_bd hl _ _ (Nat.le_refl _) (by omega) _ z.2
      have b1 := bd.1
      have b2 := bd.2.2
      replace b1 : w.size ≤ (l.Nodes - 1).toNat := b1
      replace b2 : clT w T (l.Nodes - 1) w.size ≤ 1000000 * ((w.size : Nat) : Int) := b2
      omega
theorem tcF_long {l : Lattice} (hl : okLat l) {w : ByteArray} (h : 20 < w.size) : ¬ tcF l w < 1099511627776 := fun q => by
  have hN := hl.1
  have bd := (pth_bd hl _ _ (Nat.le_refl _) (by omega) _ (tcF_has hl q)).1
  replace bd : w.size ≤ (l.Nodes - 1).toNat := bd
  omega

theorem sc_bd {l : Lattice} (hl : okLat l) {w : ByteArray} {j m v : Int} (hj : 0 ≤ j ∧ j < l.Nodes) (h : v = -1 ∨ (0 ≤ v ∧ pth l j.toNat ⟨w.extract 0 m.toNat, v⟩)) : -1 ≤ v ∧ v ≤ 20000000 := by
  rcases h with q | q
  · omega
  · have hN := hl.1
    have b := pth_bd hl _ _ (Nat.le_refl _) (by omega) _ q.2
    have b1 := b.1
    have b2 := b.2.2
    replace b1 : (w.extract 0 m.toNat).size ≤ j.toNat := b1
    replace b2 : v ≤ 1000000 * (((w.extract 0 m.toNat).size : Nat) : Int) := b2
    omega
theorem sc_no {l : Lattice} {w : ByteArray} {T : List Int} {i : Nat} {k : Int} {nd : Int} (hf : (at_ l.Edges i).From = nd) (h : clT w T nd k < 0 ∨ ¬ w.extract k.toNat (k + 1).toNat = (at_ l.Edges i).Label ∨ (0 ≤ clT w T (at_ l.Edges i).To (k + 1) ∧ clT w T (at_ l.Edges i).To (k + 1) ≤ clT w T nd k + (at_ l.Edges i).Cost)) (hk : 0 ≤ k) : scCov l w T i k := fun h1 h2 => by
  rw [hf] at h1 ⊢
  rcases h with h | h | h
  · omega
  · exact absurd (by rw [h2]; unfold chA; rw [show (k + 1).toNat = k.toNat + 1 from by omega]) h
  · exact h


def shE (d : Int) (e : Edge) : Edge := ⟨e.From + d, e.To + d, e.Label, e.Cost⟩
def joinT (l m : Lattice) : Lattice := ⟨l.Nodes - 1 + m.Nodes, l.Edges ++ m.Edges.map (shE (l.Nodes - 1))⟩
theorem jn_mem {l m : Lattice} {e : Edge} : e ∈ (joinT l m).Edges ↔ e ∈ l.Edges ∨ ∃ f ∈ m.Edges, e = shE (l.Nodes - 1) f := by
  show e ∈ l.Edges ++ _ ↔ _
  rw [List.mem_append, List.mem_map]
  exact ⟨fun h => h.elim .inl fun ⟨f, a, b⟩ => .inr ⟨f, a, b.symm⟩, fun h => h.elim .inl fun ⟨f, a, b⟩ => .inr ⟨f, a, b.symm⟩⟩
theorem cmpE_sh (d : Int) (a b : Edge) : cmpE (shE d a) (shE d b) = cmpE a b := by
  rw [cmpE_eq, cmpE_eq]
  show (if cmpI (a.From + d) (b.From + d) = 0 then (if cmpI (a.To + d) (b.To + d) = 0 then cmpS a.Label b.Label else cmpI (a.To + d) (b.To + d)) else cmpI (a.From + d) (b.From + d)) = _
  rw [cmpI_add, cmpI_add]
theorem jn_ok {l m : Lattice} (hl : okLat l) (hm : okLat m) (h20 : l.Nodes - 1 + m.Nodes ≤ 20) (h200 : l.Edges.length + m.Edges.length ≤ 200) : okLat (joinT l m) := by
  have a := hl.1
  have b := hm.1
  refine ⟨⟨by show 1 ≤ l.Nodes - 1 + m.Nodes; omega, h20⟩, by show (l.Edges ++ m.Edges.map _).length ≤ 200; rw [List.length_append, List.length_map]; exact h200, fun i hi => ?_, ?_⟩
  · rcases jn_mem.1 (at_mem hi) with h | ⟨f, h, e⟩
    · have q := ed_ok hl h
      have q1 := q.1
      exact ⟨⟨q1.1, q1.2.1, by show _ < l.Nodes - 1 + m.Nodes; omega⟩, q.2⟩
    · rw [e]
      have q := ed_ok hm h
      have q1 := q.1
      refine ⟨⟨?_, ?_, ?_⟩, q.2⟩
      · show 0 ≤ f.From + (l.Nodes - 1); omega
      · show f.From + (l.Nodes - 1) < f.To + (l.Nodes - 1); omega
      · show f.To + (l.Nodes - 1) < l.Nodes - 1 + m.Nodes; omega
  · show (l.Edges ++ m.Edges.map _).Pairwise _
    rw [List.pairwise_append, List.pairwise_map]
    refine ⟨hl.2.2.2, hm.2.2.2.imp fun {x y} q => by rw [cmpE_sh]; exact q, fun x hx y hy => ?_⟩
    obtain ⟨f, hf, rfl⟩ := List.mem_map.1 hy
    have q1 := (ed_ok hl hx).1
    have q2 := (ed_ok hm hf).1
    have c : cmpI x.From (shE (l.Nodes - 1) f).From < 0 := cmpI_neg.2 (by show x.From < f.From + (l.Nodes - 1); omega)
    rw [cmpE_eq, if_neg (by omega)]; exact c
theorem jn_lo {l m : Lattice} (hl : okLat l) (hm : okLat m) (hj : okLat (joinT l m)) : ∀ (k j : Nat), j ≤ k → j < l.Nodes.toNat → ∀ x, pth (joinT l m) j x ↔ pth l j x := fun k => by
  induction k using Nat.strongRecOn with
  | _ k ih =>
  intro j hjk hjl x
  have a := hl.1
  have b := hm.1
  rw [pth_iff hj (show j < (l.Nodes - 1 + m.Nodes).toNat by omega) x, pth_iff hl hjl x]
  constructor
  · rintro (q | ⟨e, he, h1, r, h2, h3⟩)
    · exact .inl q
    · rcases jn_mem.1 he with g | ⟨f, g, rfl⟩
      · have q := (ed_ok hl g).1
        exact .inr ⟨e, g, h1, r, (ih e.From.toNat (by omega) _ (Nat.le_refl _) (by omega) r).1 h2, h3⟩
      · have q := (ed_ok hm g).1
        have h4 : f.To + (l.Nodes - 1) = (j : Int) := h1
        omega
  · rintro (q | ⟨e, he, h1, r, h2, h3⟩)
    · exact .inl q
    · have q := (ed_ok hl he).1
      exact .inr ⟨e, jn_mem.2 (.inl he), h1, r, (ih e.From.toNat (by omega) _ (Nat.le_refl _) (by omega) r).2 h2, h3⟩
def catR (a b : Reading) : Reading := ⟨a.Text ++ b.Text, a.Cost + b.Cost⟩
theorem catR_0 (a : Reading) : catR a rd0 = a := by
  refine rd_ext ?_ (show a.Cost + 0 = a.Cost from Int.add_zero _)
  show a.Text ++ ⟨#[]⟩ = a.Text
  apply ba_inj
  rw [toList_app, Lib.toList_data ⟨#[]⟩]; simp
theorem catR_rdr (a b : Reading) (f : Edge) (d : Int) : catR a (rdr f b) = rdr (shE d f) (catR a b) := by
  refine rd_ext ?_ (show a.Cost + (b.Cost + f.Cost) = a.Cost + b.Cost + f.Cost by omega)
  show a.Text ++ (b.Text ++ f.Label) = a.Text ++ b.Text ++ f.Label
  apply ba_inj
  simp only [toList_app, List.append_assoc]
theorem jn_hi {l m : Lattice} (hl : okLat l) (hm : okLat m) (hj : okLat (joinT l m)) : ∀ (k j : Nat), j ≤ k → j < m.Nodes.toNat → ∀ x, pth (joinT l m) ((l.Nodes - 1).toNat + j) x ↔ ∃ a b, endP l a ∧ pth m j b ∧ x = catR a b := fun k => by
  induction k using Nat.strongRecOn with
  | _ k ih =>
  intro j hjk hjm x
  have a := hl.1
  have b := hm.1
  by_cases e0 : j = 0
  · subst e0
    rw [Nat.add_zero, jn_lo hl hm hj _ _ (Nat.le_refl _) (by omega) x]
    constructor
    · intro h
      exact ⟨x, rd0, h, (pth_iff hm hjm _).2 (.inl ⟨rfl, rfl⟩), (catR_0 x).symm⟩
    · rintro ⟨y, z, h1, h2, h3⟩
      rcases (pth_iff hm hjm z).1 h2 with ⟨_, q⟩ | ⟨e, he, h4, _⟩
      · rw [h3, q, catR_0]; exact h1
      · have := (ed_ok hm he).1; omega
  · rw [pth_iff hj (show (l.Nodes - 1).toNat + j < (l.Nodes - 1 + m.Nodes).toNat by omega) x]
    constructor
    · rintro (q | ⟨e, he, h1, r, h2, h3⟩)
      · omega
      · rcases jn_mem.1 he with g | ⟨f, g, rfl⟩
        · have q := (ed_ok hl g).1; omega
        · have q := (ed_ok hm g).1
          have h4 : f.To + (l.Nodes - 1) = (((l.Nodes - 1).toNat + j : Nat) : Int) := h1
          have h5 : (shE (l.Nodes - 1) f).From.toNat = (l.Nodes - 1).toNat + f.From.toNat := by show (f.From + (l.Nodes - 1)).toNat = _; omega
          rw [h5] at h2
          obtain ⟨y, z, g1, g2, g3⟩ := (ih f.From.toNat (by omega) _ (Nat.le_refl _) (by omega) r).1 h2
          exact ⟨y, rdr f z, g1, (pth_iff hm hjm _).2 (.inr ⟨f, g, by omega, z, g2, rfl⟩), by rw [h3, g3, catR_rdr]⟩
    · rintro ⟨y, z, h1, h2, h3⟩
      rcases (pth_iff hm hjm z).1 h2 with ⟨q, _⟩ | ⟨f, g, h4, r, h5, h6⟩
      · exact absurd q e0
      · have q := (ed_ok hm g).1
        refine .inr ⟨shE (l.Nodes - 1) f, jn_mem.2 (.inr ⟨f, g, rfl⟩), ?_, catR y r, ?_, ?_⟩
        · show f.To + (l.Nodes - 1) = _; omega
        · have h7 : (shE (l.Nodes - 1) f).From.toNat = (l.Nodes - 1).toNat + f.From.toNat := by show (f.From + (l.Nodes - 1)).toNat = _; omega
          rw [h7]
          exact (ih f.From.toNat (by omega) _ (Nat.le_refl _) (by omega) _).2 ⟨y, r, h1, h5, rfl⟩
        · rw [h3, h6, catR_rdr]
theorem jn_end {l m : Lattice} (hl : okLat l) (hm : okLat m) (hj : okLat (joinT l m)) (x : Reading) : endP (joinT l m) x ↔ ∃ a b, endP l a ∧ endP m b ∧ x = catR a b := by
  have a := hl.1
  have b := hm.1
  have := jn_hi hl hm hj _ (m.Nodes - 1).toNat (Nat.le_refl _) (by omega) x
  unfold endP
  rw [show ((joinT l m).Nodes - 1).toNat = (l.Nodes - 1).toNat + (m.Nodes - 1).toNat from by show (l.Nodes - 1 + m.Nodes - 1).toNat = _; omega]
  exact this
theorem best_min {l : Lattice} (hl : okLat l) {k : Nat} (h : 0 < (bestL k l).length) : endP l (at_ (bestL k l) 0) ∧ ∀ q, endP l q → (at_ (bestL k l) 0).Cost ≤ q.Cost := by
  have a := fst_head (best_fst hl k) h
  exact ⟨a.1, fun q hq => cmpR_cost (a.2 q hq)⟩
theorem jn_best {l m : Lattice} (hl : okLat l) (hm : okLat m) (hj : okLat (joinT l m)) {k i n : Nat} (hk : 0 < k) (hi : 0 < i) (hn : 0 < n) (h0 : 0 < (bestL k l).length) : (0 < (bestL n (joinT l m)).length ↔ 0 < (bestL i m).length) ∧ (0 < (bestL n (joinT l m)).length → 0 < (bestL i m).length → (at_ (bestL n (joinT l m)) 0).Cost = (at_ (bestL k l) 0).Cost + (at_ (bestL i m) 0).Cost) := by
  constructor
  · rw [fst_some (best_fst hj n) hn, fst_some (best_fst hm i) hi]
    constructor
    · rintro ⟨x, hx⟩
      obtain ⟨a, b, _, h2, _⟩ := (jn_end hl hm hj x).1 hx
      exact ⟨b, h2⟩
    · rintro ⟨b, hb⟩
      exact ⟨_, (jn_end hl hm hj _).2 ⟨_, b, (best_min hl h0).1, hb, rfl⟩⟩
  · intro h1 h2
    have a := best_min hl h0
    have b := best_min hm h2
    have c := best_min hj h1
    obtain ⟨x, y, q1, q2, q3⟩ := (jn_end hl hm hj _).1 c.1
    have d := c.2 _ ((jn_end hl hm hj _).2 ⟨_, _, a.1, b.1, rfl⟩)
    have e1 := a.2 x q1
    have e2 := b.2 y q2
    have e3 : (at_ (bestL n (joinT l m)) 0).Cost = x.Cost + y.Cost := by rw [q3]; rfl
    have e4 : (at_ (bestL n (joinT l m)) 0).Cost ≤ (at_ (bestL k l) 0).Cost + (at_ (bestL i m) 0).Cost := d
    omega


theorem cmpR_neg {a b : Reading} : cmpR a b < 0 ↔ a.Cost < b.Cost ∨ (a.Cost = b.Cost ∧ ((a.Text.size : Int) < (b.Text.size : Int) ∨ ((a.Text.size : Int) = (b.Text.size : Int) ∧ sless a.Text b.Text = true))) := by
  rw [cmpR_eq]
  by_cases h1 : cmpI a.Cost b.Cost = 0
  · rw [if_pos h1]; rw [cmpI_zero] at h1
    by_cases h2 : cmpI (a.Text.size : Int) (b.Text.size : Int) = 0
    · rw [if_pos h2, cmpS_neg]; rw [cmpI_zero] at h2
      exact ⟨fun q => .inr ⟨h1, .inr ⟨h2, q⟩⟩, fun q => by
        rcases q with q | ⟨_, q | q⟩
        · omega
        · omega
        · exact q.2⟩
    · rw [if_neg h2, cmpI_neg]; rw [cmpI_zero] at h2
      exact ⟨fun q => .inr ⟨h1, .inl q⟩, fun q => by
        rcases q with q | ⟨_, q | q⟩
        · omega
        · exact q
        · exact absurd q.1 h2⟩
  · rw [if_neg h1, cmpI_neg]; rw [cmpI_zero] at h1
    exact ⟨.inl, fun q => q.elim id fun z => absurd z.1 h1⟩
theorem flt_split (p : Edge → Bool) : ∀ xs : List Edge, xs.length = (xs.filter p).length + (xs.filter fun e => !(p e)).length
  | [] => rfl
  | e :: r => by
    have ih := flt_split p r
    cases h : p e <;> simp [List.filter_cons, h] <;> omega
theorem deg_few : ∀ (N : Nat) (xs : List Edge), (∀ e ∈ xs, 0 ≤ e.From ∧ e.From < (N : Int)) → (∀ n : Nat, (xs.filter fun e => decide (e.From = (n : Int))).length ≤ 4) → xs.length ≤ 4 * N
  | 0, [], _, _ => Nat.le_refl _
  | 0, e :: r, h, _ => by have := h e List.mem_cons_self; omega
  | N + 1, xs, h, hd => by
    have hs : xs.length = (xs.filter fun e => decide (e.From = (N : Int))).length + (xs.filter fun e => !decide (e.From = (N : Int))).length := flt_split _ xs
    have ih := deg_few N (xs.filter fun e => !decide (e.From = (N : Int))) (fun e he => by
      rw [List.mem_filter] at he
      have a := h e he.1
      have b := he.2
      simp at b
      omega) (fun n => by
      refine Nat.le_trans ?_ (hd n)
      exact (List.filter_sublist.filter _).length_le)
    have := hd N
    omega
theorem deg_24 {l : Lattice} (hl : okLat l) (hd : degL l) : l.Edges.length ≤ 24 := by
  have := deg_few 6 l.Edges (fun e he => by have a := (ed_ok hl he).1; have := hd.1; omega) hd.2
  omega
theorem frA_0 {k : Nat} (hk : 0 < k) {l : Lattice} (hl : okLat l) : frA k 0 (tb0 l) = tb0 l := by
  refine ext_at (by rw [frA_len]) fun i hi => ?_
  rw [frA_len] at hi
  rw [frA_at hi]
  by_cases e : i ≤ 0
  · rw [if_pos e]
  · rw [if_neg e]
    have : at_ (tb0 l) i = [] := by unfold tb0; rw [at_set_oth (by omega), at_rep (by rw [← tb0_len l]; exact hi)]
    rw [this]; rfl


-- spec.l15Before
theorem l15Before_ok (a : Reading) (b : Reading) : Con Try.prog 47 [agReading a, agReading b] true (Bv (decide (cmpR a b < 0))) := by
  refine fn_ok (fn := Try.f47) (nt := 34) Try.func47 rfl rfl rfl rfl (by simp [taggedL, tagged]) fun B hB => ?_
  refine aR [(0, .new 2), (1, .new 3)] [2, 3] [2, 3] [.ref 2 0, .ref 3 0] [some (bxReading a), some (bxReading b)] [] hB trivial ?_
  refine aw_seq ?_
  refine aw_seq ?_
  by_cases h1 : a.Cost = b.Cost
  ·refine aw_r [(4, .dec false)] [2, 3, 9] [2, 3] [.ref 2 0, .ref 3 0, Bv false] [some (bxReading a), some (bxReading b)] [¬ (a.Cost ≠ b.Cost)] hB ⟨(fun hq => hq h1), trivial⟩ ?_
   refine ae_then ?_
   refine aw_false rfl ?_
   refine aw_skip ?_
   refine ae_then ?_
   refine aw_seq ?_
   refine aw_seq ?_
   by_cases h2 : (a.Text.size : Int) = (b.Text.size : Int)
   ·refine aw_r [(6, .dec false)] [2, 3, 21] [2, 3] [.ref 2 0, .ref 3 0, Bv false] [some (bxReading a), some (bxReading b)] [¬ ((a.Text.size : Int) ≠ (b.Text.size : Int))] hB ⟨(fun hq => hq h2), trivial⟩ ?_
    refine ae_then ?_
    refine aw_false rfl ?_
    refine aw_skip ?_
    refine ae_then ?_
    refine aR [] [4] [] [Bv (decide (sless a.Text b.Text = true))] [] [] hB trivial ?_
    refine aw_ret ?_
    refine ae_ret hB (Bv (decide (sless a.Text b.Text = true))) (by kernel_rfl) (.inl (by refine congrArg Bv ?_; first | exact (decide_eq_decide.2 (by rw [cmpR_neg]; omega)) | (refine decide_eq_decide.2 ?_; rw [cmpR_neg]; simp [*]; done) | (symm; exact decide_eq_true (by rw [cmpR_neg]; first | omega | simp_all)) | (symm; exact decide_eq_false (by rw [cmpR_neg]; first | omega | simp_all)))) rfl (fun _ => trivial)
   refine aw_r [(6, .dec true)] [2, 3, 21] [2, 3] [.ref 2 0, .ref 3 0, Bv true] [some (bxReading a), some (bxReading b)] [(a.Text.size : Int) ≠ (b.Text.size : Int)] hB ⟨h2, trivial⟩ ?_
   refine ae_then ?_
   refine aw_true rfl ?_
   refine aR [] [4] [] [Bv (decide ((a.Text.size : Int) < (b.Text.size : Int)))] [] [] hB trivial ?_
   refine aw_ret ?_
   refine ae_ret_then ?_
   refine ae_ret hB (Bv (decide ((a.Text.size : Int) < (b.Text.size : Int)))) (by kernel_rfl) (.inl (by refine congrArg Bv ?_; first | exact (decide_eq_decide.2 (by rw [cmpR_neg]; omega)) | (refine decide_eq_decide.2 ?_; rw [cmpR_neg]; simp [*]; done) | (symm; exact decide_eq_true (by rw [cmpR_neg]; first | omega | simp_all)) | (symm; exact decide_eq_false (by rw [cmpR_neg]; first | omega | simp_all)))) rfl (fun _ => trivial)
  refine aw_r [(4, .dec true)] [2, 3, 9] [2, 3] [.ref 2 0, .ref 3 0, Bv true] [some (bxReading a), some (bxReading b)] [a.Cost ≠ b.Cost] hB ⟨h1, trivial⟩ ?_
  refine ae_then ?_
  refine aw_true rfl ?_
  refine aR [] [4] [] [Bv (decide (a.Cost < b.Cost))] [] [] hB trivial ?_
  refine aw_ret ?_
  refine ae_ret_then ?_
  refine ae_ret hB (Bv (decide (a.Cost < b.Cost))) (by kernel_rfl) (.inl (by refine congrArg Bv ?_; first | exact (decide_eq_decide.2 (by rw [cmpR_neg]; omega)) | (refine decide_eq_decide.2 ?_; rw [cmpR_neg]; simp [*]; done) | (symm; exact decide_eq_true (by rw [cmpR_neg]; first | omega | simp_all)) | (symm; exact decide_eq_false (by rw [cmpR_neg]; first | omega | simp_all)))) rfl (fun _ => trivial)



-- spec.l15Insert
theorem l15Insert_ok (list : List Reading) (rq : Reading) (most : Int) (hl : list.length ≤ 1000) (hm : 1 ≤ most ∧ most ≤ 1000) : ∃ (v : List Reading), (∀ ys, list = frL most.toNat ys → v = frL most.toNat (ys ++ [rq])) ∧ Con Try.prog 36 [slReading false list, agReading rq, I most] false (slReading false v) := by
  have hh : ∃ r : (List Reading), ((∀ ys, list = frL most.toNat ys → r = frL most.toNat (ys ++ [rq])) ∧ (True)) ∧ CallOK Try.prog 36 [slReading false list, agReading rq, I most] (lookO []) false (slReading false r) (lookO []) := by
    refine fn_okX (Φ := fun r : (List Reading) => (∀ ys, list = frL most.toNat ys → r = frL most.toNat (ys ++ [rq])) ∧ (True)) [] (fun r => []) (fn := Try.f36) (nt := 79) Try.func36 rfl rfl (args := [slReading false list, agReading rq, I most]) rfl (allcons (.inl ⟨rfl, tagReading false _⟩) (allcons (.inl ⟨rfl, by simp [tagged, taggedL]⟩) (allcons (.inl ⟨rfl, trivial⟩) allnil))) (res := fun r => slReading false r) ?_
    refine xR [(0, .new 4)] [0, 2, 4] [4] [slReading false list, I most, .ref 4 0] [some (bxReading rq)] [] trivial ?_
    refine xR [(0, .new 11)] [0, 2, 4, 7] [4, 11] [slReading false list, I most, .ref 4 0, .arr 11] [some (bxReading rq), some (.arr 2 0 (litF [] 2))] [] trivial ?_
    refine x_seq ?_
    refine xR [] [0, 2, 4, 7, 8] [4, 11] [slReading false list, I most, .ref 4 0, .arr 11, I 0] [some (bxReading rq), some (.arr 2 0 (litF [] 2))] [] trivial ?_
    refine x_block ?_
    refine x_weak [] (T := [(0, slReading false list), (2, I most), (4, .ref 4 0), (7, .arr 11), (8, I 0)]) (O := [(4, bxReading rq), (11, tAReading ([] : List Reading))]) rfl (⟨.inl rfl, .inl rfl, .inl rfl, .inl rfl, .inl rfl, trivial⟩) (⟨.inl rfl, .inr ⟨rfl, (by first | rfl | (simp; done) | (simp; omega) | omega), fun i_ hi_ => absurd hi_ (Nat.not_lt_zero _)⟩, trivial⟩) ?_
    refine x_loop (X := (List Reading) × Int) (fun x => mkS [(0, slReading false list), (2, I most), (4, .ref 4 0), (7, .arr 11), (8, I x.2)] [(4, bxReading rq), (11, tAReading x.1)]) (fun x => (0 ≤ x.2 ∧ x.2 ≤ (list.length : Int)) ∧ (x.1 = othR rq.Text list x.2.toNat) ∧ ((x.1.length : Int) ≤ x.2) ∧ (∀ j : Nat, (j : Int) < x.2 → (at_ list j).Text = rq.Text → rq.Cost < (at_ list j).Cost) ∧ True) (fun x => ((list.length : Int) - x.2).toNat) (([] : List Reading), 0) rfl (show (0 ≤ (0 : Int) ∧ (0 : Int) ≤ (list.length : Int)) ∧ (([] : List Reading) = othR rq.Text list (0 : Int).toNat) ∧ ((([] : List Reading).length : Int) ≤ (0 : Int)) ∧ (∀ j : Nat, (j : Int) < (0 : Int) → (at_ list j).Text = rq.Text → rq.Cost < (at_ list j).Cost) ∧ True from ⟨(by omega), (by rfl), (by simp), (by intro j hj; omega), trivial⟩) (fun x hI => ?_)
    obtain ⟨out, i⟩ := x
    obtain ⟨hi0, hou, hol0, hz, _⟩ : (0 ≤ i ∧ i ≤ (list.length : Int)) ∧ (out = othR rq.Text list i.toNat) ∧ ((out.length : Int) ≤ i) ∧ (∀ j : Nat, (j : Int) < i → (at_ list j).Text = rq.Text → rq.Cost < (at_ list j).Cost) ∧ True := hI
    show XW _ _ _ _ (mkS [(0, slReading false list), (2, I most), (4, .ref 4 0), (7, .arr 11), (8, I i)] [(4, bxReading rq), (11, tAReading out)]) _ _
    refine x_seq ?_
    refine x_seq ?_
    by_cases h1 : i < (list.length : Int)
    ·have hi : i.toNat < list.length := by omega
     have hii : (i + 1).toNat = i.toNat + 1 := by omega
     have hon := othR_next (t := rq.Text) hi
     refine x_r [(3, .dec true)] [0, 2, 4, 7, 8, 15] [4, 11] [slReading false list, I most, .ref 4 0, .arr 11, I i, Bv true] [some (bxReading rq), some (tAReading out)] [i < (list.length : Int)] ⟨h1, trivial⟩ ?_
     refine xe_then ?_
     refine x_true rfl ?_
     refine x_skip ?_
     refine xe_then ?_
     refine x_seq ?_
     refine x_block ?_
     refine x_seq ?_
     by_cases h2 : ((at_ list i.toNat).Text) = rq.Text
     ·have htx := h2
      refine x_r [(7, .dec false)] [0, 2, 4, 7, 8, 25] [4, 11] [slReading false list, I most, .ref 4 0, .arr 11, I i, Bv false] [some (bxReading rq), some (tAReading out)] [(0 : Int) ≤ i ∧ i < (list.length : Int), ¬ (((at_ list i.toNat).Text) ≠ rq.Text)] ⟨⟨(by first | omega | (simp; omega)), (by first | omega | (simp; omega))⟩, (fun hq => hq h2), trivial⟩ ?_
      refine xe_then ?_
      refine x_false rfl ?_
      refine x_seq ?_
      by_cases h3 : ((at_ list i.toNat).Cost) ≤ rq.Cost
      ·refine x_r [(7, .dec true)] [0, 2, 4, 7, 8, 40] [4, 11] [slReading false list, I most, .ref 4 0, .arr 11, I i, Bv true] [some (bxReading rq), some (tAReading out)] [(0 : Int) ≤ i ∧ i < (list.length : Int), ((at_ list i.toNat).Cost) ≤ rq.Cost] ⟨⟨(by first | omega | (simp; omega)), (by first | omega | (simp; omega))⟩, h3, trivial⟩ ?_
       refine xe_then ?_
       refine x_true rfl ?_
       refine xR [] [6] [] [slReading false list] [] [] trivial ?_
       refine x_ret ?_
       refine xe_ret_block (xe_ret_then (xe_loop_ret (xe_ret_block (xe_ret_then ?_))))
       refine xe_end list (show (∀ ys, list = frL most.toNat ys → list = frL most.toNat (ys ++ [rq])) ∧ (True) from ⟨(by exact (fun ys hys => by have hli := hys; first | exact (hli.trans (frL_keep (e := at_ list i.toNat) (by rw [← hli]; exact at_mem hi) (by assumption) (by omega))) | (subst hou2; have q_ := frL_put (m := k.toNat) hys hn_ (by omega) hlo (fun j h1 h2 => hhi j (by omega) h2); first | exact q_ | (rw [← q_]; exact (List.take_of_length_le (by omega)).symm)))), trivial⟩) (trivial) (slReading false list) (by kernel_rfl) (.inl rfl) (fun h => by cases h) (fun h => by cases h)
      refine x_r [(7, .dec false)] [0, 2, 4, 7, 8, 40] [4, 11] [slReading false list, I most, .ref 4 0, .arr 11, I i, Bv false] [some (bxReading rq), some (tAReading out)] [(0 : Int) ≤ i ∧ i < (list.length : Int), ¬ (((at_ list i.toNat).Cost) ≤ rq.Cost)] ⟨⟨(by first | omega | (simp; omega)), (by first | omega | (simp; omega))⟩, h3, trivial⟩ ?_
      refine xe_then ?_
      refine x_false rfl ?_
      refine x_skip ?_
      refine xe_block 1 ?_
      refine xe_then ?_
      refine x_r [] [0, 2, 4, 7, 8] [4, 11] [slReading false list, I most, .ref 4 0, .arr 11, I (i + 1)] [some (bxReading rq), some (tAReading out)] [inR .i64 (i + 1)] ⟨(inR_i64 (by first | omega | (simp; omega)) (by first | omega | (simp; omega))), trivial⟩ ?_
      exact xe_again (out, (i + 1)) rfl (show (0 ≤ (i + 1) ∧ (i + 1) ≤ (list.length : Int)) ∧ (out = othR rq.Text list (i + 1).toNat) ∧ ((out.length : Int) ≤ (i + 1)) ∧ (∀ j : Nat, (j : Int) < (i + 1) → (at_ list j).Text = rq.Text → rq.Cost < (at_ list j).Cost) ∧ True from ⟨(by omega), (by (rw [hii, hon, ← hou]; first | (rw [if_pos (by assumption)]; done) | (rw [if_neg (by assumption)]; done))), (by first | omega | (simp; omega)), (by intro j hj hl2; by_cases ej : j = i.toNat; (subst ej; first | exact absurd hl2 (by assumption) | omega); exact hz j (by omega) hl2), trivial⟩) (by first | (show (((list.length : Int) - (i + 1)).toNat : Nat) < ((list.length : Int) - i).toNat; omega) | (dsimp only; omega))
     have htx := h2
     refine x_r [(7, .dec true)] [0, 2, 4, 7, 8, 25] [4, 11] [slReading false list, I most, .ref 4 0, .arr 11, I i, Bv true] [some (bxReading rq), some (tAReading out)] [(0 : Int) ≤ i ∧ i < (list.length : Int), ((at_ list i.toNat).Text) ≠ rq.Text] ⟨⟨(by first | omega | (simp; omega)), (by first | omega | (simp; omega))⟩, h2, trivial⟩ ?_
     refine xe_then ?_
     refine x_true rfl ?_
     refine x_r [(5, .new 31), (6, .new 32)] [0, 2, 4, 7, 8] [4, 32] [slReading false list, I most, .ref 4 0, .arr 32, I i] [some (bxReading rq), some (.arr 2 (out.length + 1) (catF out.length (fReading out) (litF [Sv ((at_ list i.toNat).Text), I ((at_ list i.toNat).Cost)] 2)))] [(0 : Int) ≤ i ∧ i < (list.length : Int), (out.length + 1) * 24 ≤ 140737488355328] ⟨⟨(by first | omega | (simp; omega)), (by first | omega | (simp; omega))⟩, (by first | omega | (simp; omega)), trivial⟩ ?_
     refine xe_block 1 ?_
     refine xe_then ?_
     refine x_r [] [0, 2, 4, 7, 8] [4, 32] [slReading false list, I most, .ref 4 0, .arr 32, I (i + 1)] [some (bxReading rq), some (.arr 2 (out.length + 1) (catF out.length (fReading out) (litF [Sv ((at_ list i.toNat).Text), I ((at_ list i.toNat).Cost)] 2)))] [inR .i64 (i + 1)] ⟨(inR_i64 (by first | omega | (simp; omega)) (by first | omega | (simp; omega))), trivial⟩ ?_
     refine xe_weak [(11, 32)] (T := [(0, slReading false list), (2, I most), (4, .ref 4 0), (7, .arr 11), (8, I (i + 1))]) (O := [(4, bxReading rq), (11, tAReading (out ++ [(at_ list i.toNat)]))]) rfl (⟨.inl rfl, .inl rfl, .inl rfl, .inl rfl, .inl rfl, trivial⟩) (⟨.inl rfl, .inr ⟨rfl, (by first | rfl | (simp; done) | (simp; omega) | omega), fun i_ hi_ => .inl (cat_snoc (enc := cReading) (xs := out) rfl i_ hi_)⟩, trivial⟩) (xe_again ((out ++ [(at_ list i.toNat)]), (i + 1)) rfl (show (0 ≤ (i + 1) ∧ (i + 1) ≤ (list.length : Int)) ∧ ((out ++ [(at_ list i.toNat)]) = othR rq.Text list (i + 1).toNat) ∧ (((out ++ [(at_ list i.toNat)]).length : Int) ≤ (i + 1)) ∧ (∀ j : Nat, (j : Int) < (i + 1) → (at_ list j).Text = rq.Text → rq.Cost < (at_ list j).Cost) ∧ True from ⟨(by omega), (by (rw [hii, hon, ← hou]; first | (rw [if_pos (by assumption)]; done) | (rw [if_neg (by assumption)]; done))), (by first | omega | (simp; omega)), (by intro j hj hl2; by_cases ej : j = i.toNat; (subst ej; first | exact absurd hl2 (by assumption) | omega); exact hz j (by omega) hl2), trivial⟩) (by first | (show (((list.length : Int) - (i + 1)).toNat : Nat) < ((list.length : Int) - i).toNat; omega) | (dsimp only; omega)))
    have hou2 : out = othR rq.Text list list.length := by rw [hou, show i.toNat = list.length from by omega]
    have hn_ : ∀ e ∈ list, e.Text = rq.Text → rq.Cost < e.Cost := fun e he q => by obtain ⟨j, hj, q2⟩ := List.getElem_of_mem he; rw [← q2, ← at_eq hj] at q ⊢; exact hz j (by omega) q
    refine x_r [(3, .dec false)] [0, 2, 4, 7, 8, 15] [4, 11] [slReading false list, I most, .ref 4 0, .arr 11, I i, Bv false] [some (bxReading rq), some (tAReading out)] [¬ (i < (list.length : Int))] ⟨h1, trivial⟩ ?_
    refine xe_then ?_
    refine x_false rfl ?_
    refine x_exit ?_
    refine xe_exit_then ?_
    refine xe_loop_exit ?_
    refine xe_exit_same ?_
    refine xe_then ?_
    refine xR [] [2, 4, 7, 9] [4, 11] [I most, .ref 4 0, .arr 11, I (out.length : Int)] [some (bxReading rq), some (tAReading out)] [] trivial ?_
    refine x_seq ?_
    refine x_block ?_
    refine x_weak [] (T := [(2, I most), (4, .ref 4 0), (7, slReading true out), (9, I (out.length : Int))]) (O := [(4, bxReading rq)]) rfl (⟨.inl rfl, .inl rfl, .inr ⟨(fun _ => rfl), rfl, rfl, fun i _ => .inl rfl⟩, .inl rfl, trivial⟩) (⟨.inl rfl, trivial⟩) ?_
    refine x_loop (X := Int) (fun x => mkS [(2, I most), (4, .ref 4 0), (7, slReading true out), (9, I x)] [(4, bxReading rq)]) (fun x => (0 ≤ x ∧ x ≤ (out.length : Int)) ∧ (∀ j : Nat, x ≤ (j : Int) → j < out.length → 0 < cmpR (at_ out j) rq) ∧ True) (fun x => x.toNat) (out.length : Int) rfl (show (0 ≤ (out.length : Int) ∧ (out.length : Int) ≤ (out.length : Int)) ∧ (∀ j : Nat, (out.length : Int) ≤ (j : Int) → j < out.length → 0 < cmpR (at_ out j) rq) ∧ True from ⟨(by omega), (by intro j h1 h2; omega), trivial⟩) (fun x hI => ?_)
    obtain ⟨k, hxx⟩ : ∃ k : Int, k = x := ⟨x, rfl⟩
    subst hxx
    obtain ⟨hk0, hhi, _⟩ : (0 ≤ k ∧ k ≤ (out.length : Int)) ∧ (∀ j : Nat, k ≤ (j : Int) → j < out.length → 0 < cmpR (at_ out j) rq) ∧ True := hI
    show XW _ _ _ _ (mkS [(2, I most), (4, .ref 4 0), (7, slReading true out), (9, I k)] [(4, bxReading rq)]) _ _
    refine x_seq ?_
    refine x_seq ?_
    by_cases h4 : 0 < k
    ·have hkl : (k - 1).toNat < out.length := by omega
     rcases Bool.eq_false_or_eq_true (decide (cmpR rq (at_ out ((k - 1).toNat)) < 0)) with h5 | h5
     ·have hgn : ∀ j : Nat, k - 1 ≤ (j : Int) → j < out.length → 0 < cmpR (at_ out j) rq := fun j q1 q2 => by by_cases q : (j : Int) = k - 1; (rw [show j = (k - 1).toNat from by omega]; exact (cmpR_w.anti _ _).1 (of_decide_eq_true h5)); (exact hhi j (by omega) q2)
      refine x_r [(1, .dec true), (9, .call [(true, .any), (true, .any)] true (Bv true))] [2, 4, 7, 9, 54] [4] [I most, .ref 4 0, slReading true out, I k, Bv true] [some (bxReading rq)] [0 < k, inR .i64 (k - 1), (0 : Int) ≤ (k - 1) ∧ (k - 1) < (out.length : Int), Con Try.prog 47 [agReading rq, agReading (at_ out ((k - 1).toNat))] true (Bv true) ∧ True] ⟨h4, (inR_i64 (by first | omega | (simp; omega)) (by first | omega | (simp; omega))), ⟨(by first | omega | (simp; omega)), (by first | omega | (simp; omega))⟩, ⟨(con_bool h5 (l15Before_ok rq (at_ out ((k - 1).toNat)))), trivial⟩, trivial⟩ ?_
      refine xe_then ?_
      refine x_true rfl ?_
      refine x_skip ?_
      refine xe_then ?_
      refine x_block ?_
      refine x_r [] [2, 4, 7, 9] [4] [I most, .ref 4 0, slReading true out, I (k - 1)] [some (bxReading rq)] [inR .i64 (k - 1)] ⟨(inR_i64 (by first | omega | (simp; omega)) (by first | omega | (simp; omega))), trivial⟩ ?_
      refine xe_block 3 ?_
      exact xe_again (k - 1) rfl (show (0 ≤ (k - 1) ∧ (k - 1) ≤ (out.length : Int)) ∧ (∀ j : Nat, (k - 1) ≤ (j : Int) → j < out.length → 0 < cmpR (at_ out j) rq) ∧ True from ⟨(by omega), (by exact hgn), trivial⟩) (by first | (show ((k - 1).toNat : Nat) < k.toNat; omega) | (dsimp only; omega))
     have hlo : k.toNat = 0 ∨ ¬ 0 < cmpR (at_ out (k.toNat - 1)) rq := Or.inr (by rw [show k.toNat - 1 = (k - 1).toNat from by omega]; exact fun q => (of_decide_eq_false h5) ((cmpR_w.anti _ _).2 q))
     refine x_r [(1, .dec true), (9, .call [(true, .any), (true, .any)] true (Bv false))] [2, 4, 7, 9, 54] [4] [I most, .ref 4 0, slReading true out, I k, Bv false] [some (bxReading rq)] [0 < k, inR .i64 (k - 1), (0 : Int) ≤ (k - 1) ∧ (k - 1) < (out.length : Int), Con Try.prog 47 [agReading rq, agReading (at_ out ((k - 1).toNat))] true (Bv false) ∧ True] ⟨h4, (inR_i64 (by first | omega | (simp; omega)) (by first | omega | (simp; omega))), ⟨(by first | omega | (simp; omega)), (by first | omega | (simp; omega))⟩, ⟨(con_bool h5 (l15Before_ok rq (at_ out ((k - 1).toNat)))), trivial⟩, trivial⟩ ?_
     refine xe_then ?_
     refine x_false rfl ?_
     refine x_exit ?_
     refine xe_exit_then ?_
     refine xe_loop_exit ?_
     refine xe_exit_same ?_
     refine xe_then ?_
     refine xR [(0, .new 57), (4, .new 61)] [2, 4, 7, 9, 10] [4, 61] [I most, .ref 4 0, slReading true out, I k, .arr 61] [some (bxReading rq), some (.arr 2 (0 + (k.toNat - 0)) (catF 0 (litF [] 2) (cutF 0 (fReading out))))] [(0 : Int) ≤ 0 ∧ (0 : Int) ≤ k ∧ k ≤ (out.length : Int), (0 + (k.toNat - 0)) * 24 ≤ 140737488355328] ⟨⟨(by first | omega | (simp; omega)), (by first | omega | (simp; omega)), (by first | omega | (simp; omega))⟩, (by first | omega | (simp; omega)), trivial⟩ ?_
     refine xR [(2, .new 64), (3, .new 65)] [2, 7, 9, 10] [65] [I most, slReading true out, I k, .arr 65] [some (.arr 2 ((0 + (k.toNat - 0)) + 1) (catF (0 + (k.toNat - 0)) (catF 0 (litF [] 2) (cutF 0 (fReading out))) (litF [Sv rq.Text, I rq.Cost] 2)))] [((0 + (k.toNat - 0)) + 1) * 24 ≤ 140737488355328] ⟨(by first | omega | (simp; omega)), trivial⟩ ?_
     refine xR [(4, .new 70)] [2, 7] [70] [I most, .arr 70] [some (.arr 2 (((0 + (k.toNat - 0)) + 1) + ((out.length : Int).toNat - k.toNat)) (catF ((0 + (k.toNat - 0)) + 1) (catF (0 + (k.toNat - 0)) (catF 0 (litF [] 2) (cutF 0 (fReading out))) (litF [Sv rq.Text, I rq.Cost] 2)) (cutF k.toNat (fReading out))))] [(0 : Int) ≤ k ∧ k ≤ (out.length : Int) ∧ (out.length : Int) ≤ (out.length : Int), (((0 + (k.toNat - 0)) + 1) + ((out.length : Int).toNat - k.toNat)) * 24 ≤ 140737488355328] ⟨⟨(by first | omega | (simp; omega)), (by first | omega | (simp; omega)), (by first | omega | (simp; omega))⟩, (by first | omega | (simp; omega)), trivial⟩ ?_
     refine x_seq ?_
     refine x_seq ?_
     refine x_weak [] (T := [(2, I most), (7, .arr 70)]) (O := [(70, tAReading (((out.take k.toNat) ++ [rq]) ++ (out.drop k.toNat)))]) rfl (⟨.inl rfl, .inl rfl, trivial⟩) (⟨.inr ⟨rfl, (by first | rfl | (simp; done) | (simp; omega) | omega), fun i_ hi_ => .inl (cat_two (enc := cReading) (xs := ((out.take k.toNat) ++ [rq])) (ys := (out.drop k.toNat)) (by first | rfl | (simp; done) | (simp; omega)) (fun i_ hi_ => (cat_two (enc := cReading) (xs := (out.take k.toNat)) (ys := [rq]) (by first | rfl | (simp; done) | (simp; omega)) (fun i_ hi_ => ((cat_nil i_).trans ((fun i_ hi_ => (cut_take (enc := cReading) hi_)) i_ hi_))) (fun i_ hi_ => (match i_, hi_ with | 0, _ => rfl | (i + 1), h => absurd h (by simp))) i_ hi_)) (fun i_ hi_ => (cut_drop (enc := cReading) hi_)) i_ hi_)⟩, trivial⟩) ?_
     by_cases h6 : most < (((((out.take k.toNat) ++ [rq]) ++ (out.drop k.toNat)).length) : Int)
     ·have hzt : ((((out.take k.toNat) ++ [rq]) ++ (out.drop k.toNat)).take most.toNat).length = most.toNat := by rw [List.length_take]; omega
      refine x_r [(3, .dec true)] [2, 7, 74] [70] [I most, .arr 70, Bv true] [some (tAReading (((out.take k.toNat) ++ [rq]) ++ (out.drop k.toNat)))] [most < (((((out.take k.toNat) ++ [rq]) ++ (out.drop k.toNat)).length) : Int)] ⟨h6, trivial⟩ ?_
      refine xe_then ?_
      refine x_true rfl ?_
      refine xR [] [6] [] [.sl true 2 (most.toNat - 0) (cutF 0 (fReading (((out.take k.toNat) ++ [rq]) ++ (out.drop k.toNat))))] [] [(0 : Int) ≤ 0 ∧ (0 : Int) ≤ most ∧ most ≤ (((((out.take k.toNat) ++ [rq]) ++ (out.drop k.toNat)).length) : Int)] ⟨⟨(by first | omega | (simp; omega)), (by first | omega | (simp; omega)), (by first | omega | (simp; omega))⟩, trivial⟩ ?_
      refine x_ret ?_
      refine xe_ret_then ?_
      refine xe_end ((((out.take k.toNat) ++ [rq]) ++ (out.drop k.toNat)).take most.toNat) (show (∀ ys, list = frL most.toNat ys → ((((out.take k.toNat) ++ [rq]) ++ (out.drop k.toNat)).take most.toNat) = frL most.toNat (ys ++ [rq])) ∧ (True) from ⟨(by exact (fun ys hys => by have hli := hys; first | exact (hli.trans (frL_keep (e := at_ list i.toNat) (by rw [← hli]; exact at_mem hi) (by assumption) (by omega))) | (subst hou2; have q_ := frL_put (m := k.toNat) hys hn_ (by omega) hlo (fun j h1 h2 => hhi j (by omega) h2); first | exact q_ | (rw [← q_]; exact (List.take_of_length_le (by omega)).symm)))), trivial⟩) (trivial) (.sl true 2 (most.toNat - 0) (cutF 0 (fReading (((out.take k.toNat) ++ [rq]) ++ (out.drop k.toNat))))) (by kernel_rfl) (.inr ⟨(fun h => by cases h), rfl, (by first | rfl | (simp; done) | (simp; omega) | omega), fun i_ hi_ => .inl (cut_take (enc := cReading) hi_)⟩) (fun h => by cases h) (fun h => by cases h)
     refine x_r [(3, .dec false)] [2, 7, 74] [70] [I most, .arr 70, Bv false] [some (tAReading (((out.take k.toNat) ++ [rq]) ++ (out.drop k.toNat)))] [¬ (most < (((((out.take k.toNat) ++ [rq]) ++ (out.drop k.toNat)).length) : Int))] ⟨h6, trivial⟩ ?_
     refine xe_then ?_
     refine x_false rfl ?_
     refine x_skip ?_
     refine xe_then ?_
     refine xR [] [6] [70] [.arr 70] [some (tAReading (((out.take k.toNat) ++ [rq]) ++ (out.drop k.toNat)))] [] trivial ?_
     refine x_ret ?_
     refine xe_end (((out.take k.toNat) ++ [rq]) ++ (out.drop k.toNat)) (show (∀ ys, list = frL most.toNat ys → (((out.take k.toNat) ++ [rq]) ++ (out.drop k.toNat)) = frL most.toNat (ys ++ [rq])) ∧ (True) from ⟨(by exact (fun ys hys => by have hli := hys; first | exact (hli.trans (frL_keep (e := at_ list i.toNat) (by rw [← hli]; exact at_mem hi) (by assumption) (by omega))) | (subst hou2; have q_ := frL_put (m := k.toNat) hys hn_ (by omega) hlo (fun j h1 h2 => hhi j (by omega) h2); first | exact q_ | (rw [← q_]; exact (List.take_of_length_le (by omega)).symm)))), trivial⟩) (trivial) (.arr 70) (by kernel_rfl) (.inr ⟨(fun h => by cases h), rfl, rfl, fun i _ => .inl rfl⟩) (fun h => by cases h) (fun h => by cases h)
    have hlo : k.toNat = 0 ∨ ¬ 0 < cmpR (at_ out (k.toNat - 1)) rq := Or.inl (by omega)
    refine x_r [(1, .dec false)] [2, 4, 7, 9, 54] [4] [I most, .ref 4 0, slReading true out, I k, Bv false] [some (bxReading rq)] [¬ (0 < k)] ⟨h4, trivial⟩ ?_
    refine xe_then ?_
    refine x_false rfl ?_
    refine x_exit ?_
    refine xe_exit_then ?_
    refine xe_loop_exit ?_
    refine xe_exit_same ?_
    refine xe_then ?_
    refine xR [(0, .new 57), (4, .new 61)] [2, 4, 7, 9, 10] [4, 61] [I most, .ref 4 0, slReading true out, I k, .arr 61] [some (bxReading rq), some (.arr 2 (0 + (k.toNat - 0)) (catF 0 (litF [] 2) (cutF 0 (fReading out))))] [(0 : Int) ≤ 0 ∧ (0 : Int) ≤ k ∧ k ≤ (out.length : Int), (0 + (k.toNat - 0)) * 24 ≤ 140737488355328] ⟨⟨(by first | omega | (simp; omega)), (by first | omega | (simp; omega)), (by first | omega | (simp; omega))⟩, (by first | omega | (simp; omega)), trivial⟩ ?_
    refine xR [(2, .new 64), (3, .new 65)] [2, 7, 9, 10] [65] [I most, slReading true out, I k, .arr 65] [some (.arr 2 ((0 + (k.toNat - 0)) + 1) (catF (0 + (k.toNat - 0)) (catF 0 (litF [] 2) (cutF 0 (fReading out))) (litF [Sv rq.Text, I rq.Cost] 2)))] [((0 + (k.toNat - 0)) + 1) * 24 ≤ 140737488355328] ⟨(by first | omega | (simp; omega)), trivial⟩ ?_
    refine xR [(4, .new 70)] [2, 7] [70] [I most, .arr 70] [some (.arr 2 (((0 + (k.toNat - 0)) + 1) + ((out.length : Int).toNat - k.toNat)) (catF ((0 + (k.toNat - 0)) + 1) (catF (0 + (k.toNat - 0)) (catF 0 (litF [] 2) (cutF 0 (fReading out))) (litF [Sv rq.Text, I rq.Cost] 2)) (cutF k.toNat (fReading out))))] [(0 : Int) ≤ k ∧ k ≤ (out.length : Int) ∧ (out.length : Int) ≤ (out.length : Int), (((0 + (k.toNat - 0)) + 1) + ((out.length : Int).toNat - k.toNat)) * 24 ≤ 140737488355328] ⟨⟨(by first | omega | (simp; omega)), (by first | omega | (simp; omega)), (by first | omega | (simp; omega))⟩, (by first | omega | (simp; omega)), trivial⟩ ?_
    refine x_seq ?_
    refine x_seq ?_
    refine x_weak [] (T := [(2, I most), (7, .arr 70)]) (O := [(70, tAReading (((out.take k.toNat) ++ [rq]) ++ (out.drop k.toNat)))]) rfl (⟨.inl rfl, .inl rfl, trivial⟩) (⟨.inr ⟨rfl, (by first | rfl | (simp; done) | (simp; omega) | omega), fun i_ hi_ => .inl (cat_two (enc := cReading) (xs := ((out.take k.toNat) ++ [rq])) (ys := (out.drop k.toNat)) (by first | rfl | (simp; done) | (simp; omega)) (fun i_ hi_ => (cat_two (enc := cReading) (xs := (out.take k.toNat)) (ys := [rq]) (by first | rfl | (simp; done) | (simp; omega)) (fun i_ hi_ => ((cat_nil i_).trans ((fun i_ hi_ => (cut_take (enc := cReading) hi_)) i_ hi_))) (fun i_ hi_ => (match i_, hi_ with | 0, _ => rfl | (i + 1), h => absurd h (by simp))) i_ hi_)) (fun i_ hi_ => (cut_drop (enc := cReading) hi_)) i_ hi_)⟩, trivial⟩) ?_
    by_cases h7 : most < (((((out.take k.toNat) ++ [rq]) ++ (out.drop k.toNat)).length) : Int)
    ·have hzt : ((((out.take k.toNat) ++ [rq]) ++ (out.drop k.toNat)).take most.toNat).length = most.toNat := by rw [List.length_take]; omega
     refine x_r [(3, .dec true)] [2, 7, 74] [70] [I most, .arr 70, Bv true] [some (tAReading (((out.take k.toNat) ++ [rq]) ++ (out.drop k.toNat)))] [most < (((((out.take k.toNat) ++ [rq]) ++ (out.drop k.toNat)).length) : Int)] ⟨h7, trivial⟩ ?_
     refine xe_then ?_
     refine x_true rfl ?_
     refine xR [] [6] [] [.sl true 2 (most.toNat - 0) (cutF 0 (fReading (((out.take k.toNat) ++ [rq]) ++ (out.drop k.toNat))))] [] [(0 : Int) ≤ 0 ∧ (0 : Int) ≤ most ∧ most ≤ (((((out.take k.toNat) ++ [rq]) ++ (out.drop k.toNat)).length) : Int)] ⟨⟨(by first | omega | (simp; omega)), (by first | omega | (simp; omega)), (by first | omega | (simp; omega))⟩, trivial⟩ ?_
     refine x_ret ?_
     refine xe_ret_then ?_
     refine xe_end ((((out.take k.toNat) ++ [rq]) ++ (out.drop k.toNat)).take most.toNat) (show (∀ ys, list = frL most.toNat ys → ((((out.take k.toNat) ++ [rq]) ++ (out.drop k.toNat)).take most.toNat) = frL most.toNat (ys ++ [rq])) ∧ (True) from ⟨(by exact (fun ys hys => by have hli := hys; first | exact (hli.trans (frL_keep (e := at_ list i.toNat) (by rw [← hli]; exact at_mem hi) (by assumption) (by omega))) | (subst hou2; have q_ := frL_put (m := k.toNat) hys hn_ (by omega) hlo (fun j h1 h2 => hhi j (by omega) h2); first | exact q_ | (rw [← q_]; exact (List.take_of_length_le (by omega)).symm)))), trivial⟩) (trivial) (.sl true 2 (most.toNat - 0) (cutF 0 (fReading (((out.take k.toNat) ++ [rq]) ++ (out.drop k.toNat))))) (by kernel_rfl) (.inr ⟨(fun h => by cases h), rfl, (by first | rfl | (simp; done) | (simp; omega) | omega), fun i_ hi_ => .inl (cut_take (enc := cReading) hi_)⟩) (fun h => by cases h) (fun h => by cases h)
    refine x_r [(3, .dec false)] [2, 7, 74] [70] [I most, .arr 70, Bv false] [some (tAReading (((out.take k.toNat) ++ [rq]) ++ (out.drop k.toNat)))] [¬ (most < (((((out.take k.toNat) ++ [rq]) ++ (out.drop k.toNat)).length) : Int))] ⟨h7, trivial⟩ ?_
    refine xe_then ?_
    refine x_false rfl ?_
    refine x_skip ?_
    refine xe_then ?_
    refine xR [] [6] [70] [.arr 70] [some (tAReading (((out.take k.toNat) ++ [rq]) ++ (out.drop k.toNat)))] [] trivial ?_
    refine x_ret ?_
    refine xe_end (((out.take k.toNat) ++ [rq]) ++ (out.drop k.toNat)) (show (∀ ys, list = frL most.toNat ys → (((out.take k.toNat) ++ [rq]) ++ (out.drop k.toNat)) = frL most.toNat (ys ++ [rq])) ∧ (True) from ⟨(by exact (fun ys hys => by have hli := hys; first | exact (hli.trans (frL_keep (e := at_ list i.toNat) (by rw [← hli]; exact at_mem hi) (by assumption) (by omega))) | (subst hou2; have q_ := frL_put (m := k.toNat) hys hn_ (by omega) hlo (fun j h1 h2 => hhi j (by omega) h2); first | exact q_ | (rw [← q_]; exact (List.take_of_length_le (by omega)).symm)))), trivial⟩) (trivial) (.arr 70) (by kernel_rfl) (.inr ⟨(fun h => by cases h), rfl, rfl, fun i _ => .inl rfl⟩) (fun h => by cases h) (fun h => by cases h)
  obtain ⟨v, ⟨hh0, _⟩, hc⟩ := hh
  exact ⟨v, hh0, hc⟩



def lbO (l : Lattice) (k n i : Nat) : List (List Reading) := tbE pAny l n ((tbN (frL k) pAny l (tb0 l) n).set n (frL k (at_ (tbN (frL k) pAny l (tb0 l) n) n))) i
def lbT (l : Lattice) (k n : Nat) : List (List Reading) := if n = 0 then tb0 l else frA k (n - 1) (tbN (frL k) pAny l (tb0 l) n)
theorem tbE_okT {l : Lattice} (hl : okLat l) {n : Nat} (hn : n < l.Nodes.toNat) {B : Nat} {T : List (List Reading)} (h : okT l B T) (h20 : (at_ T n).length ≤ 20) : ∀ i : Nat, i ≤ l.Edges.length → okT l (B + 20 * i) (tbE pAny l n T i)
  | 0, _ => h
  | i + 1, hi => by
    have ih := tbE_okT hl hn h h20 i (by omega)
    have ok := tbE_ok (p := pAny) hl (n := n) (by omega) h.1 i (by omega)
    by_cases hf : (at_ l.Edges i).From = (n : Int)
    · rw [← tbE_y hf]
      refine okT_mono (exT_ok ih (hl.2.2.1 i (by omega)) hf _) ?_
      rw [ok.2.1 n (Nat.le_refl _)]; omega
    · rw [← tbE_n hf]; exact okT_mono ih (by omega)
theorem tbN_okT {l : Lattice} (hl : okLat l) {k : Nat} (hk : k ≤ 20) : ∀ n : Nat, n ≤ l.Nodes.toNat → okT l (1 + 4000 * n) (tbN (frL k) pAny l (tb0 l) n)
  | 0, _ => okT_0 hl
  | n + 1, hn => by
    have ih := tbN_okT hl hk n (by omega)
    have h1 := okT_set (k := k) ih (show n < l.Nodes.toNat by omega)
    have := tbE_okT hl (n := n) (by omega) h1 (by rw [at_set_same (by rw [ih.1]; omega)]; exact Nat.le_trans (frL_len k _).1 hk) l.Edges.length (Nat.le_refl _)
    exact okT_mono this (by have := hl.2.1; omega)
theorem lbO_ok {l : Lattice} (hl : okLat l) {k n i : Nat} (hn : n < l.Nodes.toNat) (hi : i ≤ l.Edges.length) : (lbO l k n i).length = l.Nodes.toNat := by
  have h0 := (tbN_ok (F := frL k) (p := pAny) hl (tb0_len l) n (by omega)).1
  exact (tbE_ok (p := pAny) hl (n := n) (by omega) (by rw [List.length_set]; exact h0) i hi).1
theorem lbO_okT {l : Lattice} (hl : okLat l) {k n i : Nat} (hk : k ≤ 20) (hn : n < l.Nodes.toNat) (hi : i ≤ l.Edges.length) : okT l 90000 (lbO l k n i) := by
  have ih := tbN_okT hl hk n (by omega)
  have h1 := okT_set (k := k) ih hn
  have := tbE_okT hl hn h1 (by rw [at_set_same (by rw [ih.1]; exact hn)]; exact Nat.le_trans (frL_len k _).1 hk) i hi
  exact okT_mono this (by have := hl.2.1; have := hl.1; omega)
theorem lbT_len {l : Lattice} (hl : okLat l) (k n : Nat) (hn : n ≤ l.Nodes.toNat) : (lbT l k n).length = l.Nodes.toNat := by
  unfold lbT
  split
  · exact tb0_len l
  · rw [frA_len]; exact (tbN_ok (F := frL k) (p := pAny) hl (tb0_len l) n (by omega)).1
theorem lb_in {l : Lattice} (hl : okLat l) {k n : Nat} (hk : 0 < k) (hn : n < l.Nodes.toNat) : lbT l k n = frA k n (lbO l k n 0) := by
  have h0 := (tbN_ok (F := frL k) (p := pAny) hl (tb0_len l) n (by omega)).1
  show _ = frA k n ((tbN (frL k) pAny l (tb0 l) n).set n (frL k (at_ (tbN (frL k) pAny l (tb0 l) n) n)))
  rw [frA_next (by rw [h0]; exact hn)]
  unfold lbT
  by_cases e : n = 0
  · subst e
    rw [if_pos rfl, if_pos rfl]
    show _ = (frA k 0 (tb0 l)).set 0 (frL k (at_ (tb0 l) 0))
    have : at_ (tb0 l) 0 = [rd0] := by unfold tb0; rw [at_set_same (by rw [List.length_replicate]; exact hn)]
    rw [frA_0 hk hl, this, frL_one hk, ← this, set_self]
  · rw [if_neg e, if_neg e]
theorem lb_next {l : Lattice} {k n i : Nat} {T : List (List Reading)} (hi : i = l.Edges.length) (h : T = frA k n (lbO l k n i)) : T = lbT l k (n + 1) := by
  subst hi
  unfold lbT
  rw [if_neg (by omega), h]; rfl
theorem lb_nof {l : Lattice} {k n i : Nat} {T : List (List Reading)} (hf : ¬ (at_ l.Edges i).From = (n : Int)) (h : T = frA k n (lbO l k n i)) : T = frA k n (lbO l k n (i + 1)) := by
  rw [h]; unfold lbO; rw [tbE_n hf]
theorem lb_row {k n : Nat} {O : List (List Reading)} {e : Edge} {j : Nat} (hn : n < O.length) (hf : e.From = (n : Int)) (h2 : e.From < e.To) : at_ (frA k n (exT pAny O e n j)) n = at_ O n := by
  rw [frA_at (by unfold exT; rw [List.length_set]; exact hn), if_pos (Nat.le_refl _), exT_src hf h2]
theorem lb_step {l : Lattice} (hl : okLat l) {most n i j : Nat} (hk : most ≤ 20) (hn : n < l.Nodes.toNat) (hi : i < l.Edges.length) (hf : (at_ l.Edges i).From = (n : Int)) {T : List (List Reading)} (hT : T = frA most n (exT pAny (lbO l most n i) (at_ l.Edges i) n j)) (hj : j < (at_ T n).length) :
    T.length = l.Nodes.toNat ∧ (∀ r ∈ at_ T n, okRd n r) ∧ (at_ T (at_ l.Edges i).To.toNat).length ≤ 20 ∧ at_ T (at_ l.Edges i).To.toNat = frL most (at_ (exT pAny (lbO l most n i) (at_ l.Edges i) n j) (at_ l.Edges i).To.toNat) ∧
    ∀ v, v = frL most (at_ (exT pAny (lbO l most n i) (at_ l.Edges i) n j) (at_ l.Edges i).To.toNat ++ [rdr (at_ l.Edges i) (at_ (at_ T n) j)]) → T.set (at_ l.Edges i).To.toNat v = frA most n (exT pAny (lbO l most n i) (at_ l.Edges i) n (j + 1)) := by
  have he := (hl.2.2.1 i hi).1
  have hl0 := lbO_ok hl (k := most) hn (i := i) (by omega)
  have hok := lbO_okT hl hk hn (i := i) (by omega)
  have hel : (exT pAny (lbO l most n i) (at_ l.Edges i) n j).length = l.Nodes.toNat := by unfold exT; rw [List.length_set]; exact hl0
  have hrow : at_ T n = at_ (lbO l most n i) n := by rw [hT]; exact lb_row (by rw [hl0]; exact hn) hf he.2.1
  have hto : at_ T (at_ l.Edges i).To.toNat = frL most (at_ (exT pAny (lbO l most n i) (at_ l.Edges i) n j) (at_ l.Edges i).To.toNat) := by rw [hT, frA_at (by rw [hel]; omega), if_neg (by omega)]
  refine ⟨by rw [hT, frA_len]; exact hel, fun r hr => ?_, by rw [hto]; exact Nat.le_trans (frL_len _ _).1 hk, hto, fun v hv => ?_⟩
  · rw [hrow] at hr; exact (hok.2 n hn).2 r hr
  · rw [hrow] at hv hj
    rw [hT, frA_put (x := rdr (at_ l.Edges i) (at_ (at_ (lbO l most n i) n) j)) (by rw [hel]; omega) (by omega) hv, exT_y (by rw [hl0]; omega) hj rfl]
theorem lb_done {l : Lattice} (hl : okLat l) {most n i j : Nat} (hn : n < l.Nodes.toNat) (hi : i < l.Edges.length) (hf : (at_ l.Edges i).From = (n : Int)) {T : List (List Reading)} (hT : T = frA most n (exT pAny (lbO l most n i) (at_ l.Edges i) n j)) (hj : j = (at_ T n).length) : T = frA most n (lbO l most n (i + 1)) := by
  have he := (hl.2.2.1 i hi).1
  have hl0 := lbO_ok hl (k := most) hn (i := i) (by omega)
  have hrow : at_ T n = at_ (lbO l most n i) n := by rw [hT]; exact lb_row (by rw [hl0]; exact hn) hf he.2.1
  have hy := tbE_y (p := pAny) (T0 := (tbN (frL most) pAny l (tb0 l) n).set n (frL most (at_ (tbN (frL most) pAny l (tb0 l) n) n))) hf
  have e : lbO l most n (i + 1) = exT pAny (lbO l most n i) (at_ l.Edges i) n (at_ (lbO l most n i) n).length := hy.symm
  rw [e, ← hrow, ← hj, hT]
theorem lb_end {l : Lattice} (hl : okLat l) {k : Nat} : at_ (lbT l k l.Nodes.toNat) (l.Nodes - 1).toNat = bestL k l := by
  have hN := hl.1
  have h0 := (tbN_ok (F := frL k) (p := pAny) hl (tb0_len l) l.Nodes.toNat (by omega)).1
  unfold lbT
  rw [if_neg (by omega), frA_at (by rw [h0]; omega), if_pos (by omega)]
  rfl


theorem beq_ne {i k : Nat} (h : i ≠ k) : Nat.beq i k = false := Bool.eq_false_iff.2 fun e => h (Nat.eq_of_beq_eq_true e)
theorem at_set_eq {α : Type} [Inhabited α] {xs : List α} {k : Nat} {c : α} (h : k < xs.length) : at_ (xs.set k c) k = c := by simp [at_, h]
theorem at_set_ne {α : Type} [Inhabited α] {xs : List α} {k i : Nat} {c : α} (h : i ≠ k) : at_ (xs.set k c) i = at_ xs i := by
  have : ¬ k = i := fun e => h e.symm
  simp [at_, this]
theorem le_row {ob : Nat → Option Ob} {F N sz p n : Nat} {m : Nat → Nat} {g : Nat → Nat → List AV} {fr : Bool} {f : Nat → List AV} (h : ob F = some (.fam N sz m g)) (hp : p < N) (hn : m p = n)
    (hf : ∀ i, i < n → g p i = f i ∨ (AV.idsL (f i) = [] ∧ leL (fun _ => none) false (g p i) (f i))) : le ob true (.row F p) (.sl fr sz n f) := by
  simp only [le, h]
  exact ⟨fun _ => trivial, hp, trivial, hn, hf⟩


def oLReadingc (F : Nat) (x : List Reading) (i : Nat) : List AV := [.row F i]
def oLReading (F : Nat) (xs : List (List Reading)) (i : Nat) : List AV := oLReadingc F (at_ xs i) i
def mLReading (xs : List (List Reading)) (p : Nat) : Nat := (at_ xs p).length
def gLReading (xs : List (List Reading)) (p : Nat) : Nat → List AV := fReading (at_ xs p)
abbrev tOLReading (F : Nat) (xs : List (List Reading)) : Ob := .oar [F] 1 xs.length (oLReading F xs)
abbrev tFLReading (xs : List (List Reading)) : Ob := .fam xs.length 2 (mLReading xs) (gLReading xs)
theorem oleLReading {ob : Nat → Option Ob} {F : Nat} (fr : Bool) (xs : List (List Reading)) (h : ob F = some (.fam xs.length 2 (mLReading xs) (gLReading xs))) : ∀ i, i < xs.length → AV.idsL (fLReading fr xs i) = [] ∧ leL ob true (oLReading F xs i) (fLReading fr xs i) :=
  fun i hi => And.intro rfl (And.intro (le_row h hi rfl (fun q _ => .inl rfl)) rfl)
theorem fnilLReading (n : Nat) {g : Nat → Nat → List AV} : n = (List.replicate n ([] : List Reading)).length ∧ 2 = 2 ∧ ∀ p, p < (List.replicate n ([] : List Reading)).length → (fun _ : Nat => (0 : Nat)) p = mLReading (List.replicate n ([] : List Reading)) p ∧ ∀ i, i < mLReading (List.replicate n ([] : List Reading)) p → g p i = gLReading (List.replicate n ([] : List Reading)) p i ∨ (AV.idsL (gLReading (List.replicate n ([] : List Reading)) p i) = [] ∧ leL (fun _ => none) false (g p i) (gLReading (List.replicate n ([] : List Reading)) p i)) := by
  refine ⟨by simp, rfl, fun p hp => ?_⟩
  have e : mLReading (List.replicate n ([] : List Reading)) p = 0 := by simp only [List.length_replicate] at hp; simp [mLReading, at_, hp]
  exact ⟨e.symm, fun i hi => by rw [e] at hi; exact absurd hi (Nat.not_lt_zero _)⟩
theorem fputLReading {xs : List (List Reading)} {P m1 : Nat} {ys : List Reading} {f1 : Nat → List AV} (hP : P < xs.length) (hm : m1 = ys.length) (hf : ∀ i, i < m1 → f1 i = fReading ys i) : xs.length = (xs.set P ys).length ∧ 2 = 2 ∧ ∀ p, p < (xs.set P ys).length → famUp P m1 (mLReading xs) p = mLReading (xs.set P ys) p ∧ ∀ i, i < mLReading (xs.set P ys) p → famUpF P f1 (gLReading xs) p i = gLReading (xs.set P ys) p i ∨ (AV.idsL (gLReading (xs.set P ys) p i) = [] ∧ leL (fun _ => none) false (famUpF P f1 (gLReading xs) p i) (gLReading (xs.set P ys) p i)) := by
  refine ⟨by simp, rfl, fun p hp => ?_⟩
  by_cases h : p = P
  · subst h
    have e : at_ (xs.set p ys) p = ys := at_set_eq hP
    refine ⟨?_, fun i hi => .inl ?_⟩
    · simp only [famUp, Nat.beq_refl, cond_true, mLReading, e]; exact hm
    · simp only [mLReading, e] at hi; simp only [famUpF, Nat.beq_refl, cond_true, gLReading, e]; exact hf i (by omega)
  · have e : at_ (xs.set P ys) p = at_ xs p := at_set_ne h
    have b := beq_ne h
    refine ⟨?_, fun i hi => .inl ?_⟩
    · simp only [famUp, b, cond_false, mLReading, e]
    · simp only [famUpF, b, cond_false, gLReading, e]

-- spec.l15Best
theorem l15Best_ok (l : Lattice) (most : Int) (hl : okLat l) (hm : 1 ≤ most ∧ most ≤ 20) : ∃ (v : List Reading), (v = bestL most.toNat l) ∧ Con Try.prog 21 [.ptr false [I l.Nodes, slEdge false l.Edges], I most] false (slReading false v) := by
  have hnn20 := hl.1
  have hc := hl.2.1
  have hh : ∃ r : (List Reading), ((r = bestL most.toNat l) ∧ (True)) ∧ CallOK Try.prog 21 [.ptr false [I l.Nodes, slEdge false l.Edges], I most] (lookO []) false (slReading false r) (lookO []) := by
    refine fn_okX (Φ := fun r : (List Reading) => (r = bestL most.toNat l) ∧ (True)) [] (fun r => []) (fn := Try.f21) (nt := 109) Try.func21 rfl rfl (args := [.ptr false [I l.Nodes, slEdge false l.Edges], I most]) rfl (allcons (.inl ⟨rfl, by simp [tagged, taggedL, tagEdge]⟩) (allcons (.inl ⟨rfl, trivial⟩) allnil)) (res := fun r => slReading false r) ?_
    refine xR [] [0, 1] [] [.ptr false [I l.Nodes, slEdge false l.Edges], I most] [] [] trivial ?_
    refine xR [(4, .new 15)] [0, 1, 5] [15] [.ptr false [I l.Nodes, slEdge false l.Edges], I most, .arr 15] [some (.arr 1 l.Nodes.toNat (fun _ => [nilA]))] [(0 : Int) ≤ l.Nodes ∧ (l.Nodes : Int) ≤ l.Nodes ∧ (24 : Int) * l.Nodes ≤ 281474976710656 ∧ l.Nodes ≤ 9223372036854775807] ⟨⟨(by first | omega | (simp only [List.length_replicate, List.length_set]; omega)), (by first | omega | (simp only [List.length_replicate, List.length_set]; omega)), (by first | omega | (simp only [List.length_replicate, List.length_set]; omega)), (by first | omega | (simp only [List.length_replicate, List.length_set]; omega))⟩, trivial⟩ ?_
    refine x_seq ?_
    refine x_famN 15 8651 2 rfl (fun q _ => ⟨_, rfl, rfl⟩) (by kernel_rfl) ?_
    refine x_weak [] (T := [(0, .ptr false [I l.Nodes, slEdge false l.Edges]), (1, I most), (5, .arr 15)]) (O := [(15, tOLReading 8651 (List.replicate l.Nodes.toNat ([] : List Reading))), (8651, tFLReading (List.replicate l.Nodes.toNat ([] : List Reading)))]) rfl (⟨.inl rfl, .inl rfl, .inl rfl, trivial⟩) (⟨.inr ⟨rfl, rfl, (by simp), fun i hi => .inl rfl⟩, .inr (fnilLReading l.Nodes.toNat), trivial⟩) ?_
    refine x_r [(2, .new 18)] [0, 1, 5] [15, 18, 8651] [.ptr false [I l.Nodes, slEdge false l.Edges], I most, .arr 15] [some (.oar [8651, 18] 1 ((List.replicate l.Nodes.toNat ([] : List Reading)).length) (fun q => bif Nat.beq q 0 then [.arr 18] else (oLReading 8651 (List.replicate l.Nodes.toNat ([] : List Reading))) q)), some (.arr 2 1 (litF [Sv (⟨#[]⟩ : ByteArray), I 0] 2)), some (tFLReading (List.replicate l.Nodes.toNat ([] : List Reading)))] [(0 : Int) ≤ 0 ∧ 0 < (((List.replicate l.Nodes.toNat ([] : List Reading)).length) : Int), 0 < (List.replicate l.Nodes.toNat ([] : List Reading)).length] ⟨⟨(by first | omega | (simp only [List.length_replicate, List.length_set]; omega)), (by first | omega | (simp only [List.length_replicate, List.length_set]; omega))⟩, (by first | omega | (simp only [List.length_replicate, List.length_set]; omega)), trivial⟩ ?_
    refine xe_then ?_
    refine x_seq ?_
    refine x_seq ?_
    refine x_putrow 15 18 8651 0 rfl rfl rfl ((by first | omega | (simp only [List.length_replicate, List.length_set]; omega))) (by first | exact Nat.le_refl _ | omega) (fun q _ => ⟨fun e => by subst e; simp only [Nat.beq_refl, cond_true], fun e => by simp only [beq_ne e, cond_false]; rfl⟩) (by kernel_rfl) ?_
    refine x_weak [] (T := [(0, .ptr false [I l.Nodes, slEdge false l.Edges]), (1, I most), (5, .arr 15)]) (O := [(15, tOLReading 8651 ((List.replicate l.Nodes.toNat ([] : List Reading)).set 0 ([(Reading.mk (⟨#[]⟩ : ByteArray) 0)]))), (8651, tFLReading ((List.replicate l.Nodes.toNat ([] : List Reading)).set 0 ([(Reading.mk (⟨#[]⟩ : ByteArray) 0)])))]) rfl (⟨.inl rfl, .inl rfl, .inl rfl, trivial⟩) (⟨.inr ⟨rfl, rfl, (by simp), fun i hi => .inl rfl⟩, .inr (fputLReading ((by first | omega | (simp only [List.length_replicate, List.length_set]; omega))) (by first | rfl | (simp; done) | (simp; omega)) (fun i_ h_ => (show ∀ i_ : Nat, i_ < ([(Reading.mk (⟨#[]⟩ : ByteArray) 0)] : List Reading).length → (litF [Sv (⟨#[]⟩ : ByteArray), I 0] 2) i_ = (fReading ([(Reading.mk (⟨#[]⟩ : ByteArray) 0)])) i_ from fun i_ hi_ => (match i_, hi_ with | 0, _ => rfl | (i + 1), h => absurd h (by simp))) i_ (by first | exact h_ | (simpa using h_)))), trivial⟩) ?_
    refine x_weak [] (T := [(0, .ptr false [I l.Nodes, slEdge false l.Edges]), (1, I most), (5, .arr 15)]) (O := [(15, tALReading false ((List.replicate l.Nodes.toNat ([] : List Reading)).set 0 ([(Reading.mk (⟨#[]⟩ : ByteArray) 0)])))]) rfl (⟨.inl rfl, .inl rfl, .inl rfl, trivial⟩) (⟨.inr ⟨rfl, rfl, oleLReading false _ rfl⟩, trivial⟩) ?_
    refine x_r [] [0, 1, 5, 6] [15] [.ptr false [I l.Nodes, slEdge false l.Edges], I most, .arr 15, I 0] [some (tALReading false ((List.replicate l.Nodes.toNat ([] : List Reading)).set 0 ([(Reading.mk (⟨#[]⟩ : ByteArray) 0)])))] [] trivial ?_
    refine xe_then ?_
    refine x_block ?_
    refine x_loop (X := Int × (List (List Reading))) (fun x => mkS [(0, .ptr false [I l.Nodes, slEdge false l.Edges]), (1, I most), (5, .arr 15), (6, I x.1)] [(15, tALReading false x.2)]) (fun x => (0 ≤ x.1 ∧ x.1 ≤ l.Nodes) ∧ (x.2 = lbT l most.toNat x.1.toNat) ∧ True) (fun x => (l.Nodes - x.1).toNat) (0, ((List.replicate l.Nodes.toNat ([] : List Reading)).set 0 ([(Reading.mk (⟨#[]⟩ : ByteArray) 0)]))) rfl (show (0 ≤ (0 : Int) ∧ (0 : Int) ≤ l.Nodes) ∧ (((List.replicate l.Nodes.toNat ([] : List Reading)).set 0 ([(Reading.mk (⟨#[]⟩ : ByteArray) 0)])) = lbT l most.toNat (0 : Int).toNat) ∧ True from ⟨(by omega), (by rfl), trivial⟩) (fun x hI => ?_)
    obtain ⟨n, tb⟩ := x
    obtain ⟨hn0, htb, _⟩ : (0 ≤ n ∧ n ≤ l.Nodes) ∧ (tb = lbT l most.toNat n.toNat) ∧ True := hI
    show XW _ _ _ _ (mkS [(0, .ptr false [I l.Nodes, slEdge false l.Edges]), (1, I most), (5, .arr 15), (6, I n)] [(15, tALReading false tb)]) _ _
    refine x_seq ?_
    refine x_seq ?_
    by_cases h1 : n < l.Nodes
    ·have hn : n.toNat < l.Nodes.toNat := by omega
     have hn20 := hl.1
     have hnn : (n + 1).toNat = n.toNat + 1 := by omega
     have hT0 := tbN_ok (F := frL most.toNat) (p := pAny) hl (tb0_len l) n.toNat (by omega)
     refine x_r [(5, .dec true)] [0, 1, 5, 6, 25] [15] [.ptr false [I l.Nodes, slEdge false l.Edges], I most, .arr 15, I n, Bv true] [some (tALReading false tb)] [n < l.Nodes] ⟨h1, trivial⟩ ?_
     refine xe_then ?_
     refine x_true rfl ?_
     refine x_skip ?_
     refine xe_then ?_
     refine x_seq ?_
     refine x_block ?_
     refine xR [] [0, 1, 5, 6, 7] [15] [.ptr false [I l.Nodes, slEdge false l.Edges], I most, .arr 15, I n, I 0] [some (tALReading false tb)] [] trivial ?_
     refine x_block ?_
     refine x_loop (X := Int × (List (List Reading))) (fun x => mkS [(0, .ptr false [I l.Nodes, slEdge false l.Edges]), (1, I most), (5, .arr 15), (6, I n), (7, I x.1)] [(15, tALReading false x.2)]) (fun x => (0 ≤ x.1 ∧ x.1 ≤ (l.Edges.length : Int)) ∧ (x.2 = frA most.toNat n.toNat (lbO l most.toNat n.toNat x.1.toNat)) ∧ True) (fun x => ((l.Edges.length : Int) - x.1).toNat) (0, tb) rfl (show (0 ≤ (0 : Int) ∧ (0 : Int) ≤ (l.Edges.length : Int)) ∧ (tb = frA most.toNat n.toNat (lbO l most.toNat n.toNat (0 : Int).toNat)) ∧ True from ⟨(by omega), (by (rw [htb]; exact lb_in hl (by omega) hn)), trivial⟩) (fun x hI => ?_)
     obtain ⟨i, tb2⟩ := x
     obtain ⟨hi0, htb2, _⟩ : (0 ≤ i ∧ i ≤ (l.Edges.length : Int)) ∧ (tb2 = frA most.toNat n.toNat (lbO l most.toNat n.toNat i.toNat)) ∧ True := hI
     show XW _ _ _ _ (mkS [(0, .ptr false [I l.Nodes, slEdge false l.Edges]), (1, I most), (5, .arr 15), (6, I n), (7, I i)] [(15, tALReading false tb2)]) _ _
     refine x_seq ?_
     refine x_seq ?_
     by_cases h2 : i < (l.Edges.length : Int)
     ·have hi : i.toNat < l.Edges.length := by omega
      have hed := hl.2.2.1 _ hi
      have he1 := hed.1
      have he2 := hed.2.1
      have he3 := lab_size hed.2.2
      have hii : (i + 1).toNat = i.toNat + 1 := by omega
      have hok2 := lbO_ok hl (k := most.toNat) (n := n.toNat) (i := i.toNat) (by omega) (by omega)
      have htl2 : tb2.length = l.Nodes.toNat := by rw [htb2, frA_len]; exact hok2
      refine x_r [(6, .dec true)] [0, 1, 5, 6, 7, 34] [15] [.ptr false [I l.Nodes, slEdge false l.Edges], I most, .arr 15, I n, I i, Bv true] [some (tALReading false tb2)] [i < (l.Edges.length : Int)] ⟨h2, trivial⟩ ?_
      refine xe_then ?_
      refine x_true rfl ?_
      refine x_skip ?_
      refine xe_then ?_
      refine x_seq ?_
      refine x_block ?_
      refine xR [] [0, 1, 5, 6, 7, 8] [15] [.ptr false [I l.Nodes, slEdge false l.Edges], I most, .arr 15, I n, I i, .ptr false [I ((at_ l.Edges i.toNat).From), I ((at_ l.Edges i.toNat).To), Sv ((at_ l.Edges i.toNat).Label), I ((at_ l.Edges i.toNat).Cost)]] [some (tALReading false tb2)] [(0 : Int) ≤ i ∧ i < (l.Edges.length : Int)] ⟨⟨(by first | omega | (simp only [List.length_replicate, List.length_set]; omega)), (by first | omega | (simp only [List.length_replicate, List.length_set]; omega))⟩, trivial⟩ ?_
      refine x_seq ?_
      refine x_seq ?_
      by_cases h3 : ((at_ l.Edges i.toNat).From) = n
      ·have hff : (at_ l.Edges i.toNat).From = ((n.toNat : Nat) : Int) := by omega
       refine x_r [(5, .dec false)] [0, 1, 5, 6, 7, 8, 48] [15] [.ptr false [I l.Nodes, slEdge false l.Edges], I most, .arr 15, I n, I i, .ptr false [I ((at_ l.Edges i.toNat).From), I ((at_ l.Edges i.toNat).To), Sv ((at_ l.Edges i.toNat).Label), I ((at_ l.Edges i.toNat).Cost)], Bv false] [some (tALReading false tb2)] [¬ (((at_ l.Edges i.toNat).From) ≠ n)] ⟨(fun hq => hq h3), trivial⟩ ?_
       refine xe_then ?_
       refine x_false rfl ?_
       refine x_skip ?_
       refine xe_then ?_
       refine xR [] [0, 1, 5, 6, 7, 8, 9] [15] [.ptr false [I l.Nodes, slEdge false l.Edges], I most, .arr 15, I n, I i, .ptr false [I ((at_ l.Edges i.toNat).From), I ((at_ l.Edges i.toNat).To), Sv ((at_ l.Edges i.toNat).Label), I ((at_ l.Edges i.toNat).Cost)], I 0] [some (tALReading false tb2)] [] trivial ?_
       refine x_block ?_
       refine x_loop (X := Int × (List (List Reading))) (fun x => mkS [(0, .ptr false [I l.Nodes, slEdge false l.Edges]), (1, I most), (5, .arr 15), (6, I n), (7, I i), (8, .ptr false [I ((at_ l.Edges i.toNat).From), I ((at_ l.Edges i.toNat).To), Sv ((at_ l.Edges i.toNat).Label), I ((at_ l.Edges i.toNat).Cost)]), (9, I x.1)] [(15, tALReading false x.2)]) (fun x => (0 ≤ x.1 ∧ x.1 ≤ ((at_ (lbO l most.toNat n.toNat i.toNat) n.toNat).length : Int)) ∧ (x.2 = frA most.toNat n.toNat (exT pAny (lbO l most.toNat n.toNat i.toNat) (at_ l.Edges i.toNat) n.toNat x.1.toNat)) ∧ True) (fun x => (((at_ (lbO l most.toNat n.toNat i.toNat) n.toNat).length : Int) - x.1).toNat) (0, tb2) rfl (show (0 ≤ (0 : Int) ∧ (0 : Int) ≤ ((at_ (lbO l most.toNat n.toNat i.toNat) n.toNat).length : Int)) ∧ (tb2 = frA most.toNat n.toNat (exT pAny (lbO l most.toNat n.toNat i.toNat) (at_ l.Edges i.toNat) n.toNat (0 : Int).toNat)) ∧ True from ⟨(by omega), (by (show tb2 = frA _ _ (exT pAny _ _ _ 0); rw [exT_0]; exact htb2)), trivial⟩) (fun x hI => ?_)
       obtain ⟨k, tb3⟩ := x
       obtain ⟨hj0, htb3, _⟩ : (0 ≤ k ∧ k ≤ ((at_ (lbO l most.toNat n.toNat i.toNat) n.toNat).length : Int)) ∧ (tb3 = frA most.toNat n.toNat (exT pAny (lbO l most.toNat n.toNat i.toNat) (at_ l.Edges i.toNat) n.toNat k.toNat)) ∧ True := hI
       show XW _ _ _ _ (mkS [(0, .ptr false [I l.Nodes, slEdge false l.Edges]), (1, I most), (5, .arr 15), (6, I n), (7, I i), (8, .ptr false [I ((at_ l.Edges i.toNat).From), I ((at_ l.Edges i.toNat).To), Sv ((at_ l.Edges i.toNat).Label), I ((at_ l.Edges i.toNat).Cost)]), (9, I k)] [(15, tALReading false tb3)]) _ _
       have hrb := ((lbO_okT hl (k := most.toNat) (by omega) hn (i := i.toNat) (by omega)).2 n.toNat hn).1
       have htl3 : tb3.length = l.Nodes.toNat := by rw [htb3, frA_len]; unfold exT; rw [List.length_set]; exact hok2
       have hrl : (at_ tb3 n.toNat).length = (at_ (lbO l most.toNat n.toNat i.toNat) n.toNat).length := by rw [htb3, lb_row (by rw [hok2]; exact hn) hff he1.2.1]
       refine x_seq ?_
       refine x_seq ?_
       by_cases h4 : k < (((at_ tb3 n.toNat).length) : Int)
       ·have hst := lb_step hl (most := most.toNat) (by omega) hn hi hff htb3 (show k.toNat < _ by omega)
        have hjl3 : k.toNat < (at_ tb3 n.toNat).length := by omega
        have hrd := hst.2.1 _ (at_mem hjl3)
        have hrd1 := hrd.1
        have hrd2 := hrd.2
        have hto := hst.2.2.1
        have hkk : (k + 1).toNat = k.toNat + 1 := by omega
        refine x_r [(6, .dec true)] [0, 1, 5, 6, 7, 8, 9, 55] [15] [.ptr false [I l.Nodes, slEdge false l.Edges], I most, .arr 15, I n, I i, .ptr false [I ((at_ l.Edges i.toNat).From), I ((at_ l.Edges i.toNat).To), Sv ((at_ l.Edges i.toNat).Label), I ((at_ l.Edges i.toNat).Cost)], I k, Bv true] [some (tALReading false tb3)] [(0 : Int) ≤ n ∧ n < (tb3.length : Int), n.toNat < tb3.length, k < (((at_ tb3 n.toNat).length) : Int)] ⟨⟨(by first | omega | (simp only [List.length_replicate, List.length_set]; omega)), (by first | omega | (simp only [List.length_replicate, List.length_set]; omega))⟩, (by first | omega | (simp only [List.length_replicate, List.length_set]; omega)), h4, trivial⟩ ?_
        refine xe_then ?_
        refine x_true rfl ?_
        refine x_skip ?_
        refine xe_then ?_
        refine x_seq ?_
        refine x_block ?_
        refine xR [(27, .new 10)] [0, 1, 5, 6, 7, 8, 9, 10] [10, 15] [.ptr false [I l.Nodes, slEdge false l.Edges], I most, .arr 15, I n, I i, .ptr false [I ((at_ l.Edges i.toNat).From), I ((at_ l.Edges i.toNat).To), Sv ((at_ l.Edges i.toNat).Label), I ((at_ l.Edges i.toNat).Cost)], I k, .ref 10 0] [some (.box [Sv (((at_ (at_ tb3 n.toNat) k.toNat).Text) ++ ((at_ l.Edges i.toNat).Label)), I (((at_ (at_ tb3 n.toNat) k.toNat).Cost) + ((at_ l.Edges i.toNat).Cost))]), some (tALReading false tb3)] [(0 : Int) ≤ n ∧ n < (tb3.length : Int), n.toNat < tb3.length, (0 : Int) ≤ k ∧ k < (((at_ tb3 n.toNat).length) : Int), ((at_ (at_ tb3 n.toNat) k.toNat).Text).size + ((at_ l.Edges i.toNat).Label).size ≤ 9223372036854775807, (0 : Int) ≤ n ∧ n < (tb3.length : Int), n.toNat < tb3.length, (0 : Int) ≤ k ∧ k < (((at_ tb3 n.toNat).length) : Int), inR .i64 (((at_ (at_ tb3 n.toNat) k.toNat).Cost) + ((at_ l.Edges i.toNat).Cost))] ⟨⟨(by first | omega | (simp only [List.length_replicate, List.length_set]; omega)), (by first | omega | (simp only [List.length_replicate, List.length_set]; omega))⟩, (by first | omega | (simp only [List.length_replicate, List.length_set]; omega)), ⟨(by first | omega | (simp only [List.length_replicate, List.length_set]; omega)), (by first | omega | (simp only [List.length_replicate, List.length_set]; omega))⟩, (by first | omega | (simp only [List.length_replicate, List.length_set]; omega)), ⟨(by first | omega | (simp only [List.length_replicate, List.length_set]; omega)), (by first | omega | (simp only [List.length_replicate, List.length_set]; omega))⟩, (by first | omega | (simp only [List.length_replicate, List.length_set]; omega)), ⟨(by first | omega | (simp only [List.length_replicate, List.length_set]; omega)), (by first | omega | (simp only [List.length_replicate, List.length_set]; omega))⟩, (inR_i64 (by first | omega | (simp only [List.length_replicate, List.length_set]; omega)) (by first | omega | (simp only [List.length_replicate, List.length_set]; omega))), trivial⟩ ?_
        obtain ⟨v_1, hx1_0, hc1⟩ := l15Insert_ok (at_ tb3 (((at_ l.Edges i.toNat).To).toNat)) (Reading.mk (((at_ (at_ tb3 n.toNat) k.toNat).Text) ++ ((at_ l.Edges i.toNat).Label)) (((at_ (at_ tb3 n.toNat) k.toNat).Cost) + ((at_ l.Edges i.toNat).Cost))) most (by omega) (by omega)
        have hin := hx1_0 _ hst.2.2.2.1
        have hnx := hst.2.2.2.2 _ hin
        refine x_r [(14, .call [(true, .any), (true, .any), (true, .any)] false (slReading false v_1))] [0, 1, 5, 6, 7, 8, 9] [15] [.ptr false [I l.Nodes, slEdge false l.Edges], I most, .arr 15, I n, I i, .ptr false [I ((at_ l.Edges i.toNat).From), I ((at_ l.Edges i.toNat).To), Sv ((at_ l.Edges i.toNat).Label), I ((at_ l.Edges i.toNat).Cost)], I k] [some (.arr 1 tb3.length (fun q => bif Nat.beq q (((at_ l.Edges i.toNat).To).toNat) then [slReading false v_1] else (fLReading false tb3) q))] [(0 : Int) ≤ ((at_ l.Edges i.toNat).To) ∧ ((at_ l.Edges i.toNat).To) < (tb3.length : Int), ((at_ l.Edges i.toNat).To).toNat < tb3.length, Con Try.prog 36 [slReading false (at_ tb3 (((at_ l.Edges i.toNat).To).toNat)), .agg [Sv (((at_ (at_ tb3 n.toNat) k.toNat).Text) ++ ((at_ l.Edges i.toNat).Label)), I (((at_ (at_ tb3 n.toNat) k.toNat).Cost) + ((at_ l.Edges i.toNat).Cost))], I most] false (slReading false v_1) ∧ True, (0 : Int) ≤ ((at_ l.Edges i.toNat).To) ∧ ((at_ l.Edges i.toNat).To) < (tb3.length : Int), ((at_ l.Edges i.toNat).To).toNat < tb3.length] ⟨⟨(by first | omega | (simp only [List.length_replicate, List.length_set]; omega)), (by first | omega | (simp only [List.length_replicate, List.length_set]; omega))⟩, (by first | omega | (simp only [List.length_replicate, List.length_set]; omega)), ⟨hc1, trivial⟩, ⟨(by first | omega | (simp only [List.length_replicate, List.length_set]; omega)), (by first | omega | (simp only [List.length_replicate, List.length_set]; omega))⟩, (by first | omega | (simp only [List.length_replicate, List.length_set]; omega)), trivial⟩ ?_
        refine xe_block 5 ?_
        refine xe_then ?_
        refine x_r [] [0, 1, 5, 6, 7, 8, 9] [15] [.ptr false [I l.Nodes, slEdge false l.Edges], I most, .arr 15, I n, I i, .ptr false [I ((at_ l.Edges i.toNat).From), I ((at_ l.Edges i.toNat).To), Sv ((at_ l.Edges i.toNat).Label), I ((at_ l.Edges i.toNat).Cost)], I (k + 1)] [some (.arr 1 tb3.length (fun q => bif Nat.beq q (((at_ l.Edges i.toNat).To).toNat) then [slReading false v_1] else (fLReading false tb3) q))] [inR .i64 (k + 1)] ⟨(inR_i64 (by first | omega | (simp only [List.length_replicate, List.length_set]; omega)) (by first | omega | (simp only [List.length_replicate, List.length_set]; omega))), trivial⟩ ?_
        refine xe_weak [] (T := [(0, .ptr false [I l.Nodes, slEdge false l.Edges]), (1, I most), (5, .arr 15), (6, I n), (7, I i), (8, .ptr false [I ((at_ l.Edges i.toNat).From), I ((at_ l.Edges i.toNat).To), Sv ((at_ l.Edges i.toNat).Label), I ((at_ l.Edges i.toNat).Cost)]), (9, I (k + 1))]) (O := [(15, tALReading false (tb3.set (((at_ l.Edges i.toNat).To).toNat) v_1))]) rfl (⟨.inl rfl, .inl rfl, .inl rfl, .inl rfl, .inl rfl, .inl rfl, .inl rfl, trivial⟩) (⟨.inr ⟨rfl, (by first | rfl | (simp; done) | (simp; omega) | omega), fun i_ hi_ => .inl (upd_enc (enc := (cLReading false)) rfl i_ hi_)⟩, trivial⟩) (xe_again ((k + 1), (tb3.set (((at_ l.Edges i.toNat).To).toNat) v_1)) rfl (show (0 ≤ (k + 1) ∧ (k + 1) ≤ ((at_ (lbO l most.toNat n.toNat i.toNat) n.toNat).length : Int)) ∧ ((tb3.set (((at_ l.Edges i.toNat).To).toNat) v_1) = frA most.toNat n.toNat (exT pAny (lbO l most.toNat n.toNat i.toNat) (at_ l.Edges i.toNat) n.toNat (k + 1).toNat)) ∧ True from ⟨(by omega), (by (rw [hkk]; exact hnx)), trivial⟩) (by first | (show ((((at_ (lbO l most.toNat n.toNat i.toNat) n.toNat).length : Int) - (k + 1)).toNat : Nat) < (((at_ (lbO l most.toNat n.toNat i.toNat) n.toNat).length : Int) - k).toNat; omega) | (dsimp only; omega)))
       have hje := lb_done hl (most := most.toNat) hn hi hff htb3 (by omega)
       refine x_r [(6, .dec false)] [0, 1, 5, 6, 7, 8, 9, 55] [15] [.ptr false [I l.Nodes, slEdge false l.Edges], I most, .arr 15, I n, I i, .ptr false [I ((at_ l.Edges i.toNat).From), I ((at_ l.Edges i.toNat).To), Sv ((at_ l.Edges i.toNat).Label), I ((at_ l.Edges i.toNat).Cost)], I k, Bv false] [some (tALReading false tb3)] [(0 : Int) ≤ n ∧ n < (tb3.length : Int), n.toNat < tb3.length, ¬ (k < (((at_ tb3 n.toNat).length) : Int))] ⟨⟨(by first | omega | (simp only [List.length_replicate, List.length_set]; omega)), (by first | omega | (simp only [List.length_replicate, List.length_set]; omega))⟩, (by first | omega | (simp only [List.length_replicate, List.length_set]; omega)), h4, trivial⟩ ?_
       refine xe_then ?_
       refine x_false rfl ?_
       refine x_exit ?_
       refine xe_exit_then ?_
       refine xe_loop_exit ?_
       refine xe_exit_same ?_
       refine xe_block 3 ?_
       refine xe_then ?_
       refine x_r [] [0, 1, 5, 6, 7] [15] [.ptr false [I l.Nodes, slEdge false l.Edges], I most, .arr 15, I n, I (i + 1)] [some (tALReading false tb3)] [inR .i64 (i + 1)] ⟨(inR_i64 (by first | omega | (simp only [List.length_replicate, List.length_set]; omega)) (by first | omega | (simp only [List.length_replicate, List.length_set]; omega))), trivial⟩ ?_
       exact xe_again ((i + 1), tb3) rfl (show (0 ≤ (i + 1) ∧ (i + 1) ≤ (l.Edges.length : Int)) ∧ (tb3 = frA most.toNat n.toNat (lbO l most.toNat n.toNat (i + 1).toNat)) ∧ True from ⟨(by omega), (by first | (rw [hii]; exact lb_nof hff htb2) | (rw [hii]; exact hje)), trivial⟩) (by first | (show (((l.Edges.length : Int) - (i + 1)).toNat : Nat) < ((l.Edges.length : Int) - i).toNat; omega) | (dsimp only; omega))
      have hff : ¬ (at_ l.Edges i.toNat).From = ((n.toNat : Nat) : Int) := by omega
      refine x_r [(5, .dec true)] [0, 1, 5, 6, 7, 8, 48] [15] [.ptr false [I l.Nodes, slEdge false l.Edges], I most, .arr 15, I n, I i, .ptr false [I ((at_ l.Edges i.toNat).From), I ((at_ l.Edges i.toNat).To), Sv ((at_ l.Edges i.toNat).Label), I ((at_ l.Edges i.toNat).Cost)], Bv true] [some (tALReading false tb2)] [((at_ l.Edges i.toNat).From) ≠ n] ⟨h3, trivial⟩ ?_
      refine xe_then ?_
      refine x_true rfl ?_
      refine x_exit ?_
      refine xe_exit_then ?_
      refine xe_exit_same ?_
      refine xe_then ?_
      refine x_r [] [0, 1, 5, 6, 7] [15] [.ptr false [I l.Nodes, slEdge false l.Edges], I most, .arr 15, I n, I (i + 1)] [some (tALReading false tb2)] [inR .i64 (i + 1)] ⟨(inR_i64 (by first | omega | (simp only [List.length_replicate, List.length_set]; omega)) (by first | omega | (simp only [List.length_replicate, List.length_set]; omega))), trivial⟩ ?_
      exact xe_again ((i + 1), tb2) rfl (show (0 ≤ (i + 1) ∧ (i + 1) ≤ (l.Edges.length : Int)) ∧ (tb2 = frA most.toNat n.toNat (lbO l most.toNat n.toNat (i + 1).toNat)) ∧ True from ⟨(by omega), (by first | (rw [hii]; exact lb_nof hff htb2) | (rw [hii]; exact hje)), trivial⟩) (by first | (show (((l.Edges.length : Int) - (i + 1)).toNat : Nat) < ((l.Edges.length : Int) - i).toNat; omega) | (dsimp only; omega))
     have hie : i.toNat = l.Edges.length := by omega
     refine x_r [(6, .dec false)] [0, 1, 5, 6, 7, 34] [15] [.ptr false [I l.Nodes, slEdge false l.Edges], I most, .arr 15, I n, I i, Bv false] [some (tALReading false tb2)] [¬ (i < (l.Edges.length : Int))] ⟨h2, trivial⟩ ?_
     refine xe_then ?_
     refine x_false rfl ?_
     refine x_exit ?_
     refine xe_exit_then ?_
     refine xe_loop_exit ?_
     refine xe_exit_same ?_
     refine xe_block 1 ?_
     refine xe_then ?_
     refine x_r [] [0, 1, 5, 6] [15] [.ptr false [I l.Nodes, slEdge false l.Edges], I most, .arr 15, I (n + 1)] [some (tALReading false tb2)] [inR .i64 (n + 1)] ⟨(inR_i64 (by first | omega | (simp only [List.length_replicate, List.length_set]; omega)) (by first | omega | (simp only [List.length_replicate, List.length_set]; omega))), trivial⟩ ?_
     exact xe_again ((n + 1), tb2) rfl (show (0 ≤ (n + 1) ∧ (n + 1) ≤ l.Nodes) ∧ (tb2 = lbT l most.toNat (n + 1).toNat) ∧ True from ⟨(by omega), (by (rw [hnn]; exact lb_next hie htb2)), trivial⟩) (by first | (show ((l.Nodes - (n + 1)).toNat : Nat) < (l.Nodes - n).toNat; omega) | (dsimp only; omega))
    have hne : n.toNat = l.Nodes.toNat := by omega
    have hlast : (l.Nodes - 1).toNat < l.Nodes.toNat := by omega
    have hfin : at_ tb (l.Nodes - 1).toNat = bestL most.toNat l := by rw [htb, hne]; exact lb_end hl
    have htl : tb.length = l.Nodes.toNat := by rw [htb]; exact lbT_len hl _ _ (by omega)
    refine x_r [(5, .dec false)] [0, 1, 5, 6, 25] [15] [.ptr false [I l.Nodes, slEdge false l.Edges], I most, .arr 15, I n, Bv false] [some (tALReading false tb)] [¬ (n < l.Nodes)] ⟨h1, trivial⟩ ?_
    refine xe_then ?_
    refine x_false rfl ?_
    refine x_exit ?_
    refine xe_exit_then ?_
    refine xe_loop_exit ?_
    refine xe_exit_same ?_
    refine xe_then ?_
    refine xR [] [4] [] [slReading false (at_ tb ((l.Nodes - 1).toNat))] [] [inR .i64 (l.Nodes - 1), (0 : Int) ≤ (l.Nodes - 1) ∧ (l.Nodes - 1) < (tb.length : Int), (l.Nodes - 1).toNat < tb.length] ⟨(inR_i64 (by first | omega | (simp only [List.length_replicate, List.length_set]; omega)) (by first | omega | (simp only [List.length_replicate, List.length_set]; omega))), ⟨(by first | omega | (simp only [List.length_replicate, List.length_set]; omega)), (by first | omega | (simp only [List.length_replicate, List.length_set]; omega))⟩, (by first | omega | (simp only [List.length_replicate, List.length_set]; omega)), trivial⟩ ?_
    refine x_ret ?_
    refine xe_end (at_ tb ((l.Nodes - 1).toNat)) (show ((at_ tb ((l.Nodes - 1).toNat)) = bestL most.toNat l) ∧ (True) from ⟨(by exact hfin), trivial⟩) (trivial) (slReading false (at_ tb ((l.Nodes - 1).toNat))) (by kernel_rfl) (.inl rfl) (fun h => by cases h) (fun h => by cases h)
  obtain ⟨v, ⟨hh0, _⟩, hc⟩ := hh
  exact ⟨v, hh0, hc⟩



-- spec.BestReadings
theorem specBestReadings_ok (l : Lattice) (k : Int) (hl : okLat l) (hk : 1 ≤ k ∧ k ≤ 20) : ∃ (v : List Reading) (c : Int), (v = bestL k.toNat l) ∧ (c = 0) ∧ Con Try.prog 8 [agLattice l, I k] true (.tup [slReading true v, I c]) := by
  have hh : ∃ r : (List Reading) × Int, ((r.1 = bestL k.toNat l) ∧ (r.2 = 0) ∧ (True)) ∧ CallOK Try.prog 8 [agLattice l, I k] (lookO []) true (.tup [slReading true r.1, I r.2]) (lookO []) := by
    refine fn_okX (Φ := fun r : (List Reading) × Int => (r.1 = bestL k.toNat l) ∧ (r.2 = 0) ∧ (True)) [] (fun r => []) (fn := Try.f8) (nt := 15) Try.func8 rfl rfl (args := [agLattice l, I k]) rfl (allcons (.inl ⟨rfl, by simp [tagged, taggedL, tagEdge]⟩) (allcons (.inl ⟨rfl, trivial⟩) allnil)) (res := fun r => .tup [slReading true r.1, I r.2]) ?_
    refine xR [(0, .new 2)] [1, 2] [2] [I k, .ref 2 0] [some (bxLattice l)] [] trivial ?_
    refine x_seq ?_
    refine xR [(0, .call [(false, .ptr false [I l.Nodes, slEdge false l.Edges])] true (Bv true))] [1, 2, 7] [2] [I k, .ref 2 0, Bv false] [some (bxLattice l)] [Con Try.prog 19 [.ptr false [I l.Nodes, slEdge false l.Edges]] true (Bv true) ∧ ((false = true → true = true) ∧ AV.idsL [I l.Nodes, slEdge false l.Edges] = [] ∧ (valOf (I l.Nodes) = valOf (I l.Nodes)) ∧ ((false = true → false = true) ∧ 4 = 4 ∧ l.Edges.length = l.Edges.length ∧ ∀ i_, i_ < l.Edges.length → (fEdge l.Edges) i_ = (fEdge l.Edges) i_ ∨ (AV.idsL ((fEdge l.Edges) i_) = [] ∧ leL (fun _ => none) false ((fEdge l.Edges) i_) ((fEdge l.Edges) i_))) ∧ ([] : List AV) = []) ∧ True] ⟨⟨(l15Ok_ok l hl), ⟨(fun h => by cases h), rfl, ⟨rfl, ⟨⟨(fun h => by cases h), rfl, rfl, fun i _ => .inl rfl⟩, rfl⟩⟩⟩, trivial⟩, trivial⟩ ?_
    refine x_false rfl ?_
    refine x_skip ?_
    refine xe_then ?_
    refine x_seq ?_
    refine xR [(1, .call [(true, .any), (true, .any), (true, .any)] true (Bv true))] [1, 2, 10] [2] [I k, .ref 2 0, Bv false] [some (bxLattice l)] [Con Try.prog 20 [I k, I 1, I 20] true (Bv true) ∧ True] ⟨⟨(con_bool (inB_iff.2 hk) (l00In_ok k 1 20)), trivial⟩, trivial⟩ ?_
    refine x_false rfl ?_
    refine x_skip ?_
    refine xe_then ?_
    refine x_seq ?_
    refine x_weak [] (T := [(1, I k), (2, .ptr true [I l.Nodes, slEdge false l.Edges]), (10, Bv false)]) (O := []) rfl (⟨.inl rfl, .inr ⟨(fun _ => rfl), rfl, ⟨rfl, ⟨⟨(fun h => by cases h), rfl, rfl, fun i _ => .inl rfl⟩, rfl⟩⟩⟩, .inl rfl, trivial⟩) (trivial) ?_
    obtain ⟨v_1, hx1_0, hc1⟩ := l15Best_ok l k hl hk
    have hbl : v_1 = bestL k.toNat l := hx1_0
    have hbf := (best_fst hl k.toNat).2.1
    rw [← hbl] at hbf
    refine x_r [(0, .new 11), (2, .call [(false, .ptr false [I l.Nodes, slEdge false l.Edges]), (true, .any)] false (slReading false v_1)), (3, .new 14)] [4, 5] [14] [.arr 14, I 0] [some (.arr 2 (0 + v_1.length) (catF 0 (litF [] 2) (fReading v_1)))] [Con Try.prog 21 [.ptr false [I l.Nodes, slEdge false l.Edges], I k] false (slReading false v_1) ∧ ((false = true → true = true) ∧ AV.idsL [I l.Nodes, slEdge false l.Edges] = [] ∧ (valOf (I l.Nodes) = valOf (I l.Nodes)) ∧ ((false = true → false = true) ∧ 4 = 4 ∧ l.Edges.length = l.Edges.length ∧ ∀ i_, i_ < l.Edges.length → (fEdge l.Edges) i_ = (fEdge l.Edges) i_ ∨ (AV.idsL ((fEdge l.Edges) i_) = [] ∧ leL (fun _ => none) false ((fEdge l.Edges) i_) ((fEdge l.Edges) i_))) ∧ ([] : List AV) = []) ∧ True, (0 + v_1.length) * 24 ≤ 140737488355328] ⟨⟨hc1, ⟨(fun h => by cases h), rfl, ⟨rfl, ⟨⟨(fun h => by cases h), rfl, rfl, fun i _ => .inl rfl⟩, rfl⟩⟩⟩, trivial⟩, (by omega), trivial⟩ ?_
    refine xe_then ?_
    refine x_ret ?_
    refine xe_end (v_1, 0) (show (v_1 = bestL k.toNat l) ∧ (0 = 0) ∧ (True) from ⟨(by first | exact hbl | (rw [hbl]; rfl) | (rw [hbl]; simp)), (by rfl), trivial⟩) (trivial) (.tup [.arr 14, I 0]) (by kernel_rfl) (.inr ⟨⟨(fun _ => rfl), rfl, (by first | rfl | (simp; done) | (simp; omega) | omega), fun i_ hi_ => .inl (cat_nil i_)⟩, ⟨rfl, rfl⟩⟩) (fun _ => rfl) (fun _ => (by simp [tagged, taggedL, tagReading]))
  obtain ⟨⟨v, c⟩, ⟨hh0, hh1, _⟩, hc⟩ := hh
  exact ⟨v, c, hh0, hh1, hc⟩



-- spec.ValidLattice
theorem specValidLattice_ok (l : Lattice) (hl : okLat l) : Con Try.prog 9 [agLattice l] true (Bv true) := by
  refine fn_ok (fn := Try.f9) (nt := 4) Try.func9 rfl rfl rfl rfl (by simp [taggedL, tagged, tagEdge]) fun B hB => ?_
  refine aw_lens (x := agLattice l) 0 rfl (fun len_l => ?_)
  simp [LenOK, LenL, cEdge, fEdge, slEdge] at len_l
  refine aR [(0, .new 1)] [1] [1] [.ref 1 0] [some (bxLattice l)] [] hB trivial ?_
  refine aR [(0, .call [(false, .ptr false [I l.Nodes, slEdge false l.Edges])] true (Bv true))] [2] [] [Bv true] [] [Con Try.prog 19 [.ptr false [I l.Nodes, slEdge false l.Edges]] true (Bv true) ∧ ((false = true → true = true) ∧ AV.idsL [I l.Nodes, slEdge false l.Edges] = [] ∧ (valOf (I l.Nodes) = valOf (I l.Nodes)) ∧ ((false = true → false = true) ∧ 4 = 4 ∧ l.Edges.length = l.Edges.length ∧ ∀ i_, i_ < l.Edges.length → (fEdge l.Edges) i_ = (fEdge l.Edges) i_ ∨ (AV.idsL ((fEdge l.Edges) i_) = [] ∧ leL (fun _ => none) false ((fEdge l.Edges) i_) ((fEdge l.Edges) i_))) ∧ ([] : List AV) = []) ∧ True] hB ⟨⟨(l15Ok_ok l hl), ⟨(fun h => by cases h), rfl, ⟨rfl, ⟨⟨(fun h => by cases h), rfl, rfl, fun i _ => .inl rfl⟩, rfl⟩⟩⟩, trivial⟩, trivial⟩ ?_
  refine aw_ret ?_
  refine ae_ret hB (Bv true) (by kernel_rfl) (.inl rfl) rfl (fun _ => trivial)



-- spec.l15TextCost
theorem l15TextCost_ok (l : Lattice) (w : ByteArray) (hl : okLat l) (hw : w.size ≤ 20) : ∃ (v : Int), ((v = -1 ∧ ¬ tcF l w < 1099511627776) ∨ (0 ≤ v ∧ v = tcF l w ∧ tcF l w < 1099511627776)) ∧ Con Try.prog 22 [.ptr false [I l.Nodes, slEdge false l.Edges], Sv w] true (I v) := by
  have hn20 := hl.1
  have hc := hl.2.1
  have hNn : 0 ≤ l.Nodes * ((w.size : Int) + 1) ∧ l.Nodes * ((w.size : Int) + 1) ≤ 20 * 21 := ⟨Int.mul_nonneg (by omega) (by omega), Int.mul_le_mul (by omega) (by omega) (by omega) (by omega)⟩
  have hNn1 : 1 ≤ l.Nodes * ((w.size : Int) + 1) := by have q_ := Int.mul_le_mul (show (1 : Int) ≤ l.Nodes by omega) (show (1 : Int) ≤ ((w.size : Int) + 1) by omega) (by omega) (by omega); omega
  have hh : ∃ r : Int, (((r = -1 ∧ ¬ tcF l w < 1099511627776) ∨ (0 ≤ r ∧ r = tcF l w ∧ tcF l w < 1099511627776)) ∧ (True)) ∧ CallOK Try.prog 22 [.ptr false [I l.Nodes, slEdge false l.Edges], Sv w] (lookO []) true (I r) (lookO []) := by
    refine fn_okX (Φ := fun r : Int => ((r = -1 ∧ ¬ tcF l w < 1099511627776) ∨ (0 ≤ r ∧ r = tcF l w ∧ tcF l w < 1099511627776)) ∧ (True)) [] (fun r => []) (fn := Try.f22) (nt := 145) Try.func22 rfl rfl (args := [.ptr false [I l.Nodes, slEdge false l.Edges], Sv w]) rfl (allcons (.inl ⟨rfl, by simp [tagged, taggedL, tagEdge]⟩) (allcons (.inl ⟨rfl, trivial⟩) allnil)) (res := fun r => I r) ?_
    refine xR [] [0, 1] [] [.ptr false [I l.Nodes, slEdge false l.Edges], Sv w] [] [] trivial ?_
    refine xR [] [0, 1, 5] [] [.ptr false [I l.Nodes, slEdge false l.Edges], Sv w, I ((w.size : Int) + 1)] [] [inR .i64 ((w.size : Int) + 1)] ⟨(inR_i64 (by first | omega | (simp only [List.length_replicate, List.length_set]; omega)) (by first | omega | (simp only [List.length_replicate, List.length_set]; omega))), trivial⟩ ?_
    refine xR [(6, .new 23)] [0, 1, 5, 6] [23] [.ptr false [I l.Nodes, slEdge false l.Edges], Sv w, I ((w.size : Int) + 1), .arr 23] [some (.arr 1 ((l.Nodes * ((w.size : Int) + 1)).toNat) (fun _ => [I 0]))] [inR .i64 (l.Nodes * ((w.size : Int) + 1)), (0 : Int) ≤ (l.Nodes * ((w.size : Int) + 1)) ∧ ((l.Nodes * ((w.size : Int) + 1)) : Int) ≤ (l.Nodes * ((w.size : Int) + 1)) ∧ (8 : Int) * (l.Nodes * ((w.size : Int) + 1)) ≤ 281474976710656 ∧ (l.Nodes * ((w.size : Int) + 1)) ≤ 9223372036854775807] ⟨(inR_i64 (by first | omega | (simp only [List.length_replicate, List.length_set]; omega)) (by first | omega | (simp only [List.length_replicate, List.length_set]; omega))), ⟨(by first | omega | (simp only [List.length_replicate, List.length_set]; omega)), (by first | omega | (simp only [List.length_replicate, List.length_set]; omega)), (by first | omega | (simp only [List.length_replicate, List.length_set]; omega)), (by first | omega | (simp only [List.length_replicate, List.length_set]; omega))⟩, trivial⟩ ?_
    refine x_seq ?_
    refine xR [] [0, 1, 5, 6, 25, 26] [23] [.ptr false [I l.Nodes, slEdge false l.Edges], Sv w, I ((w.size : Int) + 1), .arr 23, I (((l.Nodes * ((w.size : Int) + 1)).toNat) : Int), I 0] [some (.arr 1 ((l.Nodes * ((w.size : Int) + 1)).toNat) (fun _ => [I 0]))] [] trivial ?_
    refine x_block ?_
    refine x_weak [] (T := [(0, .ptr false [I l.Nodes, slEdge false l.Edges]), (1, Sv w), (5, I ((w.size : Int) + 1)), (6, .arr 23), (25, I (((l.Nodes * ((w.size : Int) + 1)).toNat) : Int)), (26, I 0)]) (O := [(23, tAI (List.replicate ((l.Nodes * ((w.size : Int) + 1)).toNat) (0 : Int)))]) rfl (⟨.inl rfl, .inl rfl, .inl rfl, .inl rfl, .inl rfl, .inl rfl, trivial⟩) (⟨.inr ⟨rfl, (by first | rfl | (simp; done) | (simp; omega) | omega), fun i_ hi_ => .inl (const_enc (enc := cI) rfl i_ hi_)⟩, trivial⟩) ?_
    refine x_loop (X := Int × (List Int)) (fun x => mkS [(0, .ptr false [I l.Nodes, slEdge false l.Edges]), (1, Sv w), (5, I ((w.size : Int) + 1)), (6, .arr 23), (25, I (((l.Nodes * ((w.size : Int) + 1)).toNat) : Int)), (26, I x.1)] [(23, tAI x.2)]) (fun x => (0 ≤ x.1 ∧ x.1 ≤ (x.2.length : Int)) ∧ (∀ j : Nat, (j : Int) < x.1 → at_ x.2 j = -1) ∧ ((x.2.length : Int) = l.Nodes * ((w.size : Int) + 1)) ∧ True) (fun x => (l.Nodes * ((w.size : Int) + 1) - x.1).toNat) (0, (List.replicate ((l.Nodes * ((w.size : Int) + 1)).toNat) (0 : Int))) rfl (show (0 ≤ (0 : Int) ∧ (0 : Int) ≤ ((List.replicate ((l.Nodes * ((w.size : Int) + 1)).toNat) (0 : Int)).length : Int)) ∧ (∀ j : Nat, (j : Int) < (0 : Int) → at_ (List.replicate ((l.Nodes * ((w.size : Int) + 1)).toNat) (0 : Int)) j = -1) ∧ (((List.replicate ((l.Nodes * ((w.size : Int) + 1)).toNat) (0 : Int)).length : Int) = l.Nodes * ((w.size : Int) + 1)) ∧ True from ⟨(by omega), (by intro j hj; omega), (by (simp; omega)), trivial⟩) (fun x hI => ?_)
    obtain ⟨t26, cs⟩ := x
    obtain ⟨hi0, hcs, hcl, _⟩ : (0 ≤ t26 ∧ t26 ≤ (cs.length : Int)) ∧ (∀ j : Nat, (j : Int) < t26 → at_ cs j = -1) ∧ ((cs.length : Int) = l.Nodes * ((w.size : Int) + 1)) ∧ True := hI
    show XW _ _ _ _ (mkS [(0, .ptr false [I l.Nodes, slEdge false l.Edges]), (1, Sv w), (5, I ((w.size : Int) + 1)), (6, .arr 23), (25, I (((l.Nodes * ((w.size : Int) + 1)).toNat) : Int)), (26, I t26)] [(23, tAI cs)]) _ _
    refine x_seq ?_
    by_cases h1 : t26 < (((l.Nodes * ((w.size : Int) + 1)).toNat) : Int)
    ·refine x_r [(0, .dec true)] [0, 1, 5, 6, 25, 26, 27] [23] [.ptr false [I l.Nodes, slEdge false l.Edges], Sv w, I ((w.size : Int) + 1), .arr 23, I (((l.Nodes * ((w.size : Int) + 1)).toNat) : Int), I t26, Bv true] [some (tAI cs)] [t26 < (((l.Nodes * ((w.size : Int) + 1)).toNat) : Int)] ⟨h1, trivial⟩ ?_
     refine xe_then ?_
     refine x_seq ?_
     refine x_true rfl ?_
     refine x_skip ?_
     refine xe_then ?_
     refine x_seq ?_
     refine x_block ?_
     refine xR [] [0, 1, 5, 6, 7, 25, 26] [23] [.ptr false [I l.Nodes, slEdge false l.Edges], Sv w, I ((w.size : Int) + 1), .arr 23, I t26, I (((l.Nodes * ((w.size : Int) + 1)).toNat) : Int), I t26] [some (tAI cs)] [] trivial ?_
     refine x_r [] [0, 1, 5, 6, 25, 26] [23] [.ptr false [I l.Nodes, slEdge false l.Edges], Sv w, I ((w.size : Int) + 1), .arr 23, I (((l.Nodes * ((w.size : Int) + 1)).toNat) : Int), I t26] [some (.arr 1 cs.length (fun q => bif Nat.beq q t26.toNat then [I (-1)] else (fI cs) q))] [(0 : Int) ≤ t26 ∧ t26 < (cs.length : Int), t26.toNat < cs.length] ⟨⟨(by first | omega | (simp only [List.length_replicate, List.length_set]; omega)), (by first | omega | (simp only [List.length_replicate, List.length_set]; omega))⟩, (by first | omega | (simp only [List.length_replicate, List.length_set]; omega)), trivial⟩ ?_
     refine xe_block 1 ?_
     refine xe_then ?_
     refine x_r [] [0, 1, 5, 6, 25, 26] [23] [.ptr false [I l.Nodes, slEdge false l.Edges], Sv w, I ((w.size : Int) + 1), .arr 23, I (((l.Nodes * ((w.size : Int) + 1)).toNat) : Int), I (t26 + 1)] [some (.arr 1 cs.length (fun q => bif Nat.beq q t26.toNat then [I (-1)] else (fI cs) q))] [inR .i64 (t26 + 1)] ⟨(inR_i64 (by first | omega | (simp only [List.length_replicate, List.length_set]; omega)) (by first | omega | (simp only [List.length_replicate, List.length_set]; omega))), trivial⟩ ?_
     refine xe_weak [] (T := [(0, .ptr false [I l.Nodes, slEdge false l.Edges]), (1, Sv w), (5, I ((w.size : Int) + 1)), (6, .arr 23), (25, I (((l.Nodes * ((w.size : Int) + 1)).toNat) : Int)), (26, I (t26 + 1))]) (O := [(23, tAI (cs.set t26.toNat (-1)))]) rfl (⟨.inl rfl, .inl rfl, .inl rfl, .inl rfl, .inl rfl, .inl rfl, trivial⟩) (⟨.inr ⟨rfl, (by first | rfl | (simp; done) | (simp; omega) | omega), fun i_ hi_ => .inl (upd_enc (enc := cI) rfl i_ hi_)⟩, trivial⟩) (xe_again ((t26 + 1), (cs.set t26.toNat (-1))) rfl (show (0 ≤ (t26 + 1) ∧ (t26 + 1) ≤ ((cs.set t26.toNat (-1)).length : Int)) ∧ (∀ j : Nat, (j : Int) < (t26 + 1) → at_ (cs.set t26.toNat (-1)) j = -1) ∧ (((cs.set t26.toNat (-1)).length : Int) = l.Nodes * ((w.size : Int) + 1)) ∧ True from ⟨(by (simp; omega)), (by intro j hj; by_cases ej : j = t26.toNat; (subst ej; rw [at_set_same (by omega)]); (rw [at_set_oth ej]; exact hcs j (by omega))), (by (rw [List.length_set]; exact hcl)), trivial⟩) (by first | (show ((l.Nodes * ((w.size : Int) + 1) - (t26 + 1)).toNat : Nat) < (l.Nodes * ((w.size : Int) + 1) - t26).toNat; omega) | (dsimp only; omega)))
    have hcf : ∀ j : Nat, j < cs.length → at_ cs j = -1 := fun j hj => hcs j (by omega)
    refine x_r [(0, .dec false)] [0, 1, 5, 6, 25, 26, 27] [23] [.ptr false [I l.Nodes, slEdge false l.Edges], Sv w, I ((w.size : Int) + 1), .arr 23, I (((l.Nodes * ((w.size : Int) + 1)).toNat) : Int), I t26, Bv false] [some (tAI cs)] [¬ (t26 < (((l.Nodes * ((w.size : Int) + 1)).toNat) : Int))] ⟨h1, trivial⟩ ?_
    refine xe_then ?_
    refine x_seq ?_
    refine x_false rfl ?_
    refine x_exit ?_
    refine xe_exit_then ?_
    refine xe_loop_exit ?_
    refine xe_exit_same ?_
    refine xe_then ?_
    refine xR [] [0, 1, 5, 6] [23] [.ptr false [I l.Nodes, slEdge false l.Edges], Sv w, I ((w.size : Int) + 1), .arr 23] [some (.arr 1 cs.length (fun q => bif Nat.beq q 0 then [I 0] else (fI cs) q))] [(0 : Int) ≤ 0 ∧ 0 < (cs.length : Int), 0 < cs.length] ⟨⟨(by first | omega | (simp only [List.length_replicate, List.length_set]; omega)), (by first | omega | (simp only [List.length_replicate, List.length_set]; omega))⟩, (by first | omega | (simp only [List.length_replicate, List.length_set]; omega)), trivial⟩ ?_
    refine x_seq ?_
    refine x_seq ?_
    refine x_weak [] (T := [(0, .ptr false [I l.Nodes, slEdge false l.Edges]), (1, Sv w), (5, I ((w.size : Int) + 1)), (6, .arr 23)]) (O := [(23, tAI (cs.set 0 0))]) rfl (⟨.inl rfl, .inl rfl, .inl rfl, .inl rfl, trivial⟩) (⟨.inr ⟨rfl, (by first | rfl | (simp; done) | (simp; omega) | omega), fun i_ hi_ => .inl (upd_enc (enc := cI) rfl i_ hi_)⟩, trivial⟩) ?_
    refine x_r [] [0, 1, 5, 6, 8] [23] [.ptr false [I l.Nodes, slEdge false l.Edges], Sv w, I ((w.size : Int) + 1), .arr 23, I 0] [some (tAI (cs.set 0 0))] [] trivial ?_
    refine xe_then ?_
    refine x_block ?_
    refine x_loop (X := Int × (List Int)) (fun x => mkS [(0, .ptr false [I l.Nodes, slEdge false l.Edges]), (1, Sv w), (5, I ((w.size : Int) + 1)), (6, .arr 23), (8, I x.1)] [(23, tAI x.2)]) (fun x => (0 ≤ x.1 ∧ x.1 ≤ l.Nodes) ∧ (scI l w x.1 0 0 x.2) ∧ True) (fun x => (l.Nodes - x.1).toNat) (0, (cs.set 0 0)) rfl (show (0 ≤ (0 : Int) ∧ (0 : Int) ≤ l.Nodes) ∧ (scI l w (0 : Int) 0 0 (cs.set 0 0)) ∧ True from ⟨(by omega), (by exact sc_start hl hcl hcf), trivial⟩) (fun x hI => ?_)
    obtain ⟨node, c2⟩ := x
    obtain ⟨hn0, hsc, _⟩ : (0 ≤ node ∧ node ≤ l.Nodes) ∧ (scI l w node 0 0 c2) ∧ True := hI
    show XW _ _ _ _ (mkS [(0, .ptr false [I l.Nodes, slEdge false l.Edges]), (1, Sv w), (5, I ((w.size : Int) + 1)), (6, .arr 23), (8, I node)] [(23, tAI c2)]) _ _
    refine x_seq ?_
    refine x_seq ?_
    by_cases h2 : node < l.Nodes
    ·have hcl2 := hsc.1
     refine x_r [(5, .dec true)] [0, 1, 5, 6, 8, 40] [23] [.ptr false [I l.Nodes, slEdge false l.Edges], Sv w, I ((w.size : Int) + 1), .arr 23, I node, Bv true] [some (tAI c2)] [node < l.Nodes] ⟨h2, trivial⟩ ?_
     refine xe_then ?_
     refine x_true rfl ?_
     refine x_skip ?_
     refine xe_then ?_
     refine x_seq ?_
     refine x_block ?_
     refine xR [] [0, 1, 5, 6, 8, 9] [23] [.ptr false [I l.Nodes, slEdge false l.Edges], Sv w, I ((w.size : Int) + 1), .arr 23, I node, I 0] [some (tAI c2)] [] trivial ?_
     refine x_block ?_
     refine x_loop (X := Int × (List Int)) (fun x => mkS [(0, .ptr false [I l.Nodes, slEdge false l.Edges]), (1, Sv w), (5, I ((w.size : Int) + 1)), (6, .arr 23), (8, I node), (9, I x.1)] [(23, tAI x.2)]) (fun x => (0 ≤ x.1 ∧ x.1 ≤ (l.Edges.length : Int)) ∧ (scI l w node x.1 0 x.2) ∧ True) (fun x => ((l.Edges.length : Int) - x.1).toNat) (0, c2) rfl (show (0 ≤ (0 : Int) ∧ (0 : Int) ≤ (l.Edges.length : Int)) ∧ (scI l w node (0 : Int) 0 c2) ∧ True from ⟨(by omega), (by exact hsc), trivial⟩) (fun x hI => ?_)
     obtain ⟨i, c3⟩ := x
     obtain ⟨hi1, hsc3, _⟩ : (0 ≤ i ∧ i ≤ (l.Edges.length : Int)) ∧ (scI l w node i 0 c3) ∧ True := hI
     show XW _ _ _ _ (mkS [(0, .ptr false [I l.Nodes, slEdge false l.Edges]), (1, Sv w), (5, I ((w.size : Int) + 1)), (6, .arr 23), (8, I node), (9, I i)] [(23, tAI c3)]) _ _
     have hcl3 := hsc3.1
     refine x_seq ?_
     refine x_seq ?_
     by_cases h3 : i < (l.Edges.length : Int)
     ·have hi : i.toNat < l.Edges.length := by omega
      have hed := hl.2.2.1 _ hi
      have he1 := hed.1
      have he2 := hed.2.1
      have he3 := lab_size hed.2.2
      refine x_r [(6, .dec true)] [0, 1, 5, 6, 8, 9, 49] [23] [.ptr false [I l.Nodes, slEdge false l.Edges], Sv w, I ((w.size : Int) + 1), .arr 23, I node, I i, Bv true] [some (tAI c3)] [i < (l.Edges.length : Int)] ⟨h3, trivial⟩ ?_
      refine xe_then ?_
      refine x_true rfl ?_
      refine x_skip ?_
      refine xe_then ?_
      refine x_seq ?_
      refine x_block ?_
      refine xR [] [0, 1, 5, 6, 8, 9, 10] [23] [.ptr false [I l.Nodes, slEdge false l.Edges], Sv w, I ((w.size : Int) + 1), .arr 23, I node, I i, .ptr false [I ((at_ l.Edges i.toNat).From), I ((at_ l.Edges i.toNat).To), Sv ((at_ l.Edges i.toNat).Label), I ((at_ l.Edges i.toNat).Cost)]] [some (tAI c3)] [(0 : Int) ≤ i ∧ i < (l.Edges.length : Int)] ⟨⟨(by first | omega | (simp only [List.length_replicate, List.length_set]; omega)), (by first | omega | (simp only [List.length_replicate, List.length_set]; omega))⟩, trivial⟩ ?_
      refine xR [] [0, 1, 5, 6, 8, 9, 10, 11] [23] [.ptr false [I l.Nodes, slEdge false l.Edges], Sv w, I ((w.size : Int) + 1), .arr 23, I node, I i, .ptr false [I ((at_ l.Edges i.toNat).From), I ((at_ l.Edges i.toNat).To), Sv ((at_ l.Edges i.toNat).Label), I ((at_ l.Edges i.toNat).Cost)], I 0] [some (tAI c3)] [] trivial ?_
      refine x_block ?_
      refine x_loop (X := Int × (List Int)) (fun x => mkS [(0, .ptr false [I l.Nodes, slEdge false l.Edges]), (1, Sv w), (5, I ((w.size : Int) + 1)), (6, .arr 23), (8, I node), (9, I i), (10, .ptr false [I ((at_ l.Edges i.toNat).From), I ((at_ l.Edges i.toNat).To), Sv ((at_ l.Edges i.toNat).Label), I ((at_ l.Edges i.toNat).Cost)]), (11, I x.1)] [(23, tAI x.2)]) (fun x => (0 ≤ x.1 ∧ x.1 ≤ (w.size : Int)) ∧ (scI l w node i x.1 x.2) ∧ True) (fun x => ((w.size : Int) - x.1).toNat) (0, c3) rfl (show (0 ≤ (0 : Int) ∧ (0 : Int) ≤ (w.size : Int)) ∧ (scI l w node i (0 : Int) c3) ∧ True from ⟨(by omega), (by exact hsc3), trivial⟩) (fun x hI => ?_)
      obtain ⟨k, c4⟩ := x
      obtain ⟨hk0, hsc4, _⟩ : (0 ≤ k ∧ k ≤ (w.size : Int)) ∧ (scI l w node i k c4) ∧ True := hI
      show XW _ _ _ _ (mkS [(0, .ptr false [I l.Nodes, slEdge false l.Edges]), (1, Sv w), (5, I ((w.size : Int) + 1)), (6, .arr 23), (8, I node), (9, I i), (10, .ptr false [I ((at_ l.Edges i.toNat).From), I ((at_ l.Edges i.toNat).To), Sv ((at_ l.Edges i.toNat).Label), I ((at_ l.Edges i.toNat).Cost)]), (11, I k)] [(23, tAI c4)]) _ _
      have hcl4_ := hsc4.1
      refine x_seq ?_
      refine x_seq ?_
      by_cases h4 : (k + 1) < ((w.size : Int) + 1)
      ·have hkw : k < (w.size : Int) := by omega
       by_cases h5 : ((at_ l.Edges i.toNat).From) = node
       ·have hff := h5
        have ix1 := clT_ix (l := l) (w := w) (j := node) (m := k) (by omega) (by omega)
        have ix2 := clT_ix (l := l) (w := w) (j := (at_ l.Edges i.toNat).To) (m := k + 1) (by omega) (by omega)
        have hcl4 := hsc4.1
        have hv1 := hsc4.2.2.1 node k (by omega) (by omega) (by omega) (by omega)
        have hv2 := hsc4.2.2.1 (at_ l.Edges i.toNat).To (k + 1) (by omega) (by omega) (by omega) (by omega)
        have hc1 : clT w c4 node k = at_ c4 (node * ((w.size : Int) + 1) + k).toNat := rfl
        have hc2 : clT w c4 (at_ l.Edges i.toNat).To (k + 1) = at_ c4 ((at_ l.Edges i.toNat).To * ((w.size : Int) + 1) + k + 1).toNat := by unfold clT; rw [Int.add_assoc]
        have hbd1 := sc_bd hl (by omega) hv1
        have hbd2 := sc_bd hl (by omega) hv2
        rw [hc1] at hbd1 hv1
        rw [hc2] at hbd2 hv2
        have hn1 : 0 ≤ node * ((w.size : Int) + 1) := Int.mul_nonneg (by omega) (by omega)
        have hn2 : 0 ≤ (at_ l.Edges i.toNat).To * ((w.size : Int) + 1) := Int.mul_nonneg (by omega) (by omega)
        refine x_r [(3, .dec true), (10, .dec true)] [0, 1, 5, 6, 8, 9, 10, 11, 69] [23] [.ptr false [I l.Nodes, slEdge false l.Edges], Sv w, I ((w.size : Int) + 1), .arr 23, I node, I i, .ptr false [I ((at_ l.Edges i.toNat).From), I ((at_ l.Edges i.toNat).To), Sv ((at_ l.Edges i.toNat).Label), I ((at_ l.Edges i.toNat).Cost)], I k, Bv true] [some (tAI c4)] [inR .i64 (k + 1), (k + 1) < ((w.size : Int) + 1), ((at_ l.Edges i.toNat).From) = node] ⟨(inR_i64 (by first | omega | (simp only [List.length_replicate, List.length_set]; omega)) (by first | omega | (simp only [List.length_replicate, List.length_set]; omega))), h4, h5, trivial⟩ ?_
        refine xe_then ?_
        refine x_true rfl ?_
        refine x_skip ?_
        refine xe_then ?_
        refine x_seq ?_
        refine x_block ?_
        refine xR [] [0, 1, 5, 6, 8, 9, 10, 11, 12] [23] [.ptr false [I l.Nodes, slEdge false l.Edges], Sv w, I ((w.size : Int) + 1), .arr 23, I node, I i, .ptr false [I ((at_ l.Edges i.toNat).From), I ((at_ l.Edges i.toNat).To), Sv ((at_ l.Edges i.toNat).Label), I ((at_ l.Edges i.toNat).Cost)], I k, I (at_ c4 (((node * ((w.size : Int) + 1)) + k).toNat))] [some (tAI c4)] [inR .i64 (node * ((w.size : Int) + 1)), inR .i64 ((node * ((w.size : Int) + 1)) + k), (0 : Int) ≤ ((node * ((w.size : Int) + 1)) + k) ∧ ((node * ((w.size : Int) + 1)) + k) < (c4.length : Int), ((node * ((w.size : Int) + 1)) + k).toNat < c4.length] ⟨(inR_i64 (by first | omega | (simp only [List.length_replicate, List.length_set]; omega)) (by first | omega | (simp only [List.length_replicate, List.length_set]; omega))), (inR_i64 (by first | omega | (simp only [List.length_replicate, List.length_set]; omega)) (by first | omega | (simp only [List.length_replicate, List.length_set]; omega))), ⟨(by first | omega | (simp only [List.length_replicate, List.length_set]; omega)), (by first | omega | (simp only [List.length_replicate, List.length_set]; omega))⟩, (by first | omega | (simp only [List.length_replicate, List.length_set]; omega)), trivial⟩ ?_
        refine x_seq ?_
        refine x_seq ?_
        by_cases h6 : (at_ c4 (((node * ((w.size : Int) + 1)) + k).toNat)) < 0
        ·refine x_r [(1, .dec true)] [0, 1, 5, 6, 8, 9, 10, 11, 12, 93] [23] [.ptr false [I l.Nodes, slEdge false l.Edges], Sv w, I ((w.size : Int) + 1), .arr 23, I node, I i, .ptr false [I ((at_ l.Edges i.toNat).From), I ((at_ l.Edges i.toNat).To), Sv ((at_ l.Edges i.toNat).Label), I ((at_ l.Edges i.toNat).Cost)], I k, I (at_ c4 (((node * ((w.size : Int) + 1)) + k).toNat)), Bv true] [some (tAI c4)] [(at_ c4 (((node * ((w.size : Int) + 1)) + k).toNat)) < 0] ⟨h6, trivial⟩ ?_
         refine xe_then ?_
         refine x_true rfl ?_
         refine x_exit ?_
         refine xe_exit_then ?_
         refine xe_exit_same ?_
         refine xe_then ?_
         refine x_r [] [0, 1, 5, 6, 8, 9, 10, 11] [23] [.ptr false [I l.Nodes, slEdge false l.Edges], Sv w, I ((w.size : Int) + 1), .arr 23, I node, I i, .ptr false [I ((at_ l.Edges i.toNat).From), I ((at_ l.Edges i.toNat).To), Sv ((at_ l.Edges i.toNat).Label), I ((at_ l.Edges i.toNat).Cost)], I (k + 1)] [some (tAI c4)] [inR .i64 (k + 1)] ⟨(inR_i64 (by first | omega | (simp only [List.length_replicate, List.length_set]; omega)) (by first | omega | (simp only [List.length_replicate, List.length_set]; omega))), trivial⟩ ?_
         exact xe_again ((k + 1), c4) rfl (show (0 ≤ (k + 1) ∧ (k + 1) ≤ (w.size : Int)) ∧ (scI l w node i (k + 1) c4) ∧ True from ⟨(by omega), (by (first | exact sc_skip hsc4 (sc_no hff (.inl (by rw [hc1]; omega)) (by omega)) | exact sc_skip hsc4 (sc_no hff (.inr (.inl (by assumption))) (by omega)) | exact sc_skip hsc4 (sc_no hff (.inr (.inr (by rw [hc1, hc2]; omega))) (by omega)) | (have q_ := sc_put hl hsc4 (by omega) hi ⟨by omega, hkw⟩ hff (by rw [hc1]; omega) (by rw [← hlb]; unfold chA; rw [show (k + 1).toNat = k.toNat + 1 from by omega]) (by rw [hc1, hc2]; omega); rw [hc1, ← Int.add_assoc] at q_; exact q_))), trivial⟩) (by first | (show (((w.size : Int) - (k + 1)).toNat : Nat) < ((w.size : Int) - k).toNat; omega) | (dsimp only; omega))
        by_cases h7 : (w.extract k.toNat (k + 1).toNat) = ((at_ l.Edges i.toNat).Label)
        ·have hlb := h7
         refine x_r [(1, .dec false), (12, .dec false)] [0, 1, 5, 6, 8, 9, 10, 11, 12, 93] [23] [.ptr false [I l.Nodes, slEdge false l.Edges], Sv w, I ((w.size : Int) + 1), .arr 23, I node, I i, .ptr false [I ((at_ l.Edges i.toNat).From), I ((at_ l.Edges i.toNat).To), Sv ((at_ l.Edges i.toNat).Label), I ((at_ l.Edges i.toNat).Cost)], I k, I (at_ c4 (((node * ((w.size : Int) + 1)) + k).toNat)), Bv false] [some (tAI c4)] [¬ ((at_ c4 (((node * ((w.size : Int) + 1)) + k).toNat)) < 0), inR .i64 (k + 1), (0 : Int) ≤ k ∧ k ≤ (k + 1) ∧ (k + 1) ≤ (w.size : Int), ¬ ((w.extract k.toNat (k + 1).toNat) ≠ ((at_ l.Edges i.toNat).Label))] ⟨h6, (inR_i64 (by first | omega | (simp only [List.length_replicate, List.length_set]; omega)) (by first | omega | (simp only [List.length_replicate, List.length_set]; omega))), ⟨(by first | omega | (simp only [List.length_replicate, List.length_set]; omega)), (by first | omega | (simp only [List.length_replicate, List.length_set]; omega)), (by first | omega | (simp only [List.length_replicate, List.length_set]; omega))⟩, (fun hq => hq h7), trivial⟩ ?_
         refine xe_then ?_
         refine x_false rfl ?_
         refine x_skip ?_
         refine xe_then ?_
         refine xR [] [0, 1, 5, 6, 8, 9, 10, 11, 12, 13] [23] [.ptr false [I l.Nodes, slEdge false l.Edges], Sv w, I ((w.size : Int) + 1), .arr 23, I node, I i, .ptr false [I ((at_ l.Edges i.toNat).From), I ((at_ l.Edges i.toNat).To), Sv ((at_ l.Edges i.toNat).Label), I ((at_ l.Edges i.toNat).Cost)], I k, I (at_ c4 (((node * ((w.size : Int) + 1)) + k).toNat)), I (at_ c4 ((((((at_ l.Edges i.toNat).To) * ((w.size : Int) + 1)) + k) + 1).toNat))] [some (tAI c4)] [inR .i64 (((at_ l.Edges i.toNat).To) * ((w.size : Int) + 1)), inR .i64 ((((at_ l.Edges i.toNat).To) * ((w.size : Int) + 1)) + k), inR .i64 (((((at_ l.Edges i.toNat).To) * ((w.size : Int) + 1)) + k) + 1), (0 : Int) ≤ (((((at_ l.Edges i.toNat).To) * ((w.size : Int) + 1)) + k) + 1) ∧ (((((at_ l.Edges i.toNat).To) * ((w.size : Int) + 1)) + k) + 1) < (c4.length : Int), (((((at_ l.Edges i.toNat).To) * ((w.size : Int) + 1)) + k) + 1).toNat < c4.length] ⟨(inR_i64 (by first | omega | (simp only [List.length_replicate, List.length_set]; omega)) (by first | omega | (simp only [List.length_replicate, List.length_set]; omega))), (inR_i64 (by first | omega | (simp only [List.length_replicate, List.length_set]; omega)) (by first | omega | (simp only [List.length_replicate, List.length_set]; omega))), (inR_i64 (by first | omega | (simp only [List.length_replicate, List.length_set]; omega)) (by first | omega | (simp only [List.length_replicate, List.length_set]; omega))), ⟨(by first | omega | (simp only [List.length_replicate, List.length_set]; omega)), (by first | omega | (simp only [List.length_replicate, List.length_set]; omega))⟩, (by first | omega | (simp only [List.length_replicate, List.length_set]; omega)), trivial⟩ ?_
         refine x_seq ?_
         by_cases h8 : (at_ c4 ((((((at_ l.Edges i.toNat).To) * ((w.size : Int) + 1)) + k) + 1).toNat)) < 0
         ·refine x_r [(1, .dec true)] [0, 1, 5, 6, 8, 9, 10, 11, 12, 117] [23] [.ptr false [I l.Nodes, slEdge false l.Edges], Sv w, I ((w.size : Int) + 1), .arr 23, I node, I i, .ptr false [I ((at_ l.Edges i.toNat).From), I ((at_ l.Edges i.toNat).To), Sv ((at_ l.Edges i.toNat).Label), I ((at_ l.Edges i.toNat).Cost)], I k, I (at_ c4 (((node * ((w.size : Int) + 1)) + k).toNat)), Bv true] [some (tAI c4)] [(at_ c4 ((((((at_ l.Edges i.toNat).To) * ((w.size : Int) + 1)) + k) + 1).toNat)) < 0] ⟨h8, trivial⟩ ?_
          refine xe_then ?_
          refine x_true rfl ?_
          refine x_r [] [0, 1, 5, 6, 8, 9, 10, 11] [23] [.ptr false [I l.Nodes, slEdge false l.Edges], Sv w, I ((w.size : Int) + 1), .arr 23, I node, I i, .ptr false [I ((at_ l.Edges i.toNat).From), I ((at_ l.Edges i.toNat).To), Sv ((at_ l.Edges i.toNat).Label), I ((at_ l.Edges i.toNat).Cost)], I k] [some (.arr 1 c4.length (fun q => bif Nat.beq q ((((((at_ l.Edges i.toNat).To) * ((w.size : Int) + 1)) + k) + 1).toNat) then [I ((at_ c4 (((node * ((w.size : Int) + 1)) + k).toNat)) + ((at_ l.Edges i.toNat).Cost))] else (fI c4) q))] [inR .i64 (((at_ l.Edges i.toNat).To) * ((w.size : Int) + 1)), inR .i64 ((((at_ l.Edges i.toNat).To) * ((w.size : Int) + 1)) + k), inR .i64 (((((at_ l.Edges i.toNat).To) * ((w.size : Int) + 1)) + k) + 1), inR .i64 ((at_ c4 (((node * ((w.size : Int) + 1)) + k).toNat)) + ((at_ l.Edges i.toNat).Cost)), (0 : Int) ≤ (((((at_ l.Edges i.toNat).To) * ((w.size : Int) + 1)) + k) + 1) ∧ (((((at_ l.Edges i.toNat).To) * ((w.size : Int) + 1)) + k) + 1) < (c4.length : Int), (((((at_ l.Edges i.toNat).To) * ((w.size : Int) + 1)) + k) + 1).toNat < c4.length] ⟨(inR_i64 (by first | omega | (simp only [List.length_replicate, List.length_set]; omega)) (by first | omega | (simp only [List.length_replicate, List.length_set]; omega))), (inR_i64 (by first | omega | (simp only [List.length_replicate, List.length_set]; omega)) (by first | omega | (simp only [List.length_replicate, List.length_set]; omega))), (inR_i64 (by first | omega | (simp only [List.length_replicate, List.length_set]; omega)) (by first | omega | (simp only [List.length_replicate, List.length_set]; omega))), (inR_i64 (by first | omega | (simp only [List.length_replicate, List.length_set]; omega)) (by first | omega | (simp only [List.length_replicate, List.length_set]; omega))), ⟨(by first | omega | (simp only [List.length_replicate, List.length_set]; omega)), (by first | omega | (simp only [List.length_replicate, List.length_set]; omega))⟩, (by first | omega | (simp only [List.length_replicate, List.length_set]; omega)), trivial⟩ ?_
          refine xe_block 7 ?_
          refine xe_then ?_
          refine x_r [] [0, 1, 5, 6, 8, 9, 10, 11] [23] [.ptr false [I l.Nodes, slEdge false l.Edges], Sv w, I ((w.size : Int) + 1), .arr 23, I node, I i, .ptr false [I ((at_ l.Edges i.toNat).From), I ((at_ l.Edges i.toNat).To), Sv ((at_ l.Edges i.toNat).Label), I ((at_ l.Edges i.toNat).Cost)], I (k + 1)] [some (.arr 1 c4.length (fun q => bif Nat.beq q ((((((at_ l.Edges i.toNat).To) * ((w.size : Int) + 1)) + k) + 1).toNat) then [I ((at_ c4 (((node * ((w.size : Int) + 1)) + k).toNat)) + ((at_ l.Edges i.toNat).Cost))] else (fI c4) q))] [inR .i64 (k + 1)] ⟨(inR_i64 (by first | omega | (simp only [List.length_replicate, List.length_set]; omega)) (by first | omega | (simp only [List.length_replicate, List.length_set]; omega))), trivial⟩ ?_
          refine xe_weak [] (T := [(0, .ptr false [I l.Nodes, slEdge false l.Edges]), (1, Sv w), (5, I ((w.size : Int) + 1)), (6, .arr 23), (8, I node), (9, I i), (10, .ptr false [I ((at_ l.Edges i.toNat).From), I ((at_ l.Edges i.toNat).To), Sv ((at_ l.Edges i.toNat).Label), I ((at_ l.Edges i.toNat).Cost)]), (11, I (k + 1))]) (O := [(23, tAI (c4.set ((((((at_ l.Edges i.toNat).To) * ((w.size : Int) + 1)) + k) + 1).toNat) ((at_ c4 (((node * ((w.size : Int) + 1)) + k).toNat)) + ((at_ l.Edges i.toNat).Cost))))]) rfl (⟨.inl rfl, .inl rfl, .inl rfl, .inl rfl, .inl rfl, .inl rfl, .inl rfl, .inl rfl, trivial⟩) (⟨.inr ⟨rfl, (by first | rfl | (simp; done) | (simp; omega) | omega), fun i_ hi_ => .inl (upd_enc (enc := cI) rfl i_ hi_)⟩, trivial⟩) (xe_again ((k + 1), (c4.set ((((((at_ l.Edges i.toNat).To) * ((w.size : Int) + 1)) + k) + 1).toNat) ((at_ c4 (((node * ((w.size : Int) + 1)) + k).toNat)) + ((at_ l.Edges i.toNat).Cost)))) rfl (show (0 ≤ (k + 1) ∧ (k + 1) ≤ (w.size : Int)) ∧ (scI l w node i (k + 1) (c4.set ((((((at_ l.Edges i.toNat).To) * ((w.size : Int) + 1)) + k) + 1).toNat) ((at_ c4 (((node * ((w.size : Int) + 1)) + k).toNat)) + ((at_ l.Edges i.toNat).Cost)))) ∧ True from ⟨(by omega), (by (first | exact sc_skip hsc4 (sc_no hff (.inl (by rw [hc1]; omega)) (by omega)) | exact sc_skip hsc4 (sc_no hff (.inr (.inl (by assumption))) (by omega)) | exact sc_skip hsc4 (sc_no hff (.inr (.inr (by rw [hc1, hc2]; omega))) (by omega)) | (have q_ := sc_put hl hsc4 (by omega) hi ⟨by omega, hkw⟩ hff (by rw [hc1]; omega) (by rw [← hlb]; unfold chA; rw [show (k + 1).toNat = k.toNat + 1 from by omega]) (by rw [hc1, hc2]; omega); rw [hc1, ← Int.add_assoc] at q_; exact q_))), trivial⟩) (by first | (show (((w.size : Int) - (k + 1)).toNat : Nat) < ((w.size : Int) - k).toNat; omega) | (dsimp only; omega)))
         by_cases h9 : ((at_ c4 (((node * ((w.size : Int) + 1)) + k).toNat)) + ((at_ l.Edges i.toNat).Cost)) < (at_ c4 ((((((at_ l.Edges i.toNat).To) * ((w.size : Int) + 1)) + k) + 1).toNat))
         ·refine x_r [(1, .dec false), (10, .dec true)] [0, 1, 5, 6, 8, 9, 10, 11, 12, 117] [23] [.ptr false [I l.Nodes, slEdge false l.Edges], Sv w, I ((w.size : Int) + 1), .arr 23, I node, I i, .ptr false [I ((at_ l.Edges i.toNat).From), I ((at_ l.Edges i.toNat).To), Sv ((at_ l.Edges i.toNat).Label), I ((at_ l.Edges i.toNat).Cost)], I k, I (at_ c4 (((node * ((w.size : Int) + 1)) + k).toNat)), Bv true] [some (tAI c4)] [¬ ((at_ c4 ((((((at_ l.Edges i.toNat).To) * ((w.size : Int) + 1)) + k) + 1).toNat)) < 0), inR .i64 ((at_ c4 (((node * ((w.size : Int) + 1)) + k).toNat)) + ((at_ l.Edges i.toNat).Cost)), ((at_ c4 (((node * ((w.size : Int) + 1)) + k).toNat)) + ((at_ l.Edges i.toNat).Cost)) < (at_ c4 ((((((at_ l.Edges i.toNat).To) * ((w.size : Int) + 1)) + k) + 1).toNat))] ⟨h8, (inR_i64 (by first | omega | (simp only [List.length_replicate, List.length_set]; omega)) (by first | omega | (simp only [List.length_replicate, List.length_set]; omega))), h9, trivial⟩ ?_
          refine xe_then ?_
          refine x_true rfl ?_
          refine x_r [] [0, 1, 5, 6, 8, 9, 10, 11] [23] [.ptr false [I l.Nodes, slEdge false l.Edges], Sv w, I ((w.size : Int) + 1), .arr 23, I node, I i, .ptr false [I ((at_ l.Edges i.toNat).From), I ((at_ l.Edges i.toNat).To), Sv ((at_ l.Edges i.toNat).Label), I ((at_ l.Edges i.toNat).Cost)], I k] [some (.arr 1 c4.length (fun q => bif Nat.beq q ((((((at_ l.Edges i.toNat).To) * ((w.size : Int) + 1)) + k) + 1).toNat) then [I ((at_ c4 (((node * ((w.size : Int) + 1)) + k).toNat)) + ((at_ l.Edges i.toNat).Cost))] else (fI c4) q))] [inR .i64 (((at_ l.Edges i.toNat).To) * ((w.size : Int) + 1)), inR .i64 ((((at_ l.Edges i.toNat).To) * ((w.size : Int) + 1)) + k), inR .i64 (((((at_ l.Edges i.toNat).To) * ((w.size : Int) + 1)) + k) + 1), inR .i64 ((at_ c4 (((node * ((w.size : Int) + 1)) + k).toNat)) + ((at_ l.Edges i.toNat).Cost)), (0 : Int) ≤ (((((at_ l.Edges i.toNat).To) * ((w.size : Int) + 1)) + k) + 1) ∧ (((((at_ l.Edges i.toNat).To) * ((w.size : Int) + 1)) + k) + 1) < (c4.length : Int), (((((at_ l.Edges i.toNat).To) * ((w.size : Int) + 1)) + k) + 1).toNat < c4.length] ⟨(inR_i64 (by first | omega | (simp only [List.length_replicate, List.length_set]; omega)) (by first | omega | (simp only [List.length_replicate, List.length_set]; omega))), (inR_i64 (by first | omega | (simp only [List.length_replicate, List.length_set]; omega)) (by first | omega | (simp only [List.length_replicate, List.length_set]; omega))), (inR_i64 (by first | omega | (simp only [List.length_replicate, List.length_set]; omega)) (by first | omega | (simp only [List.length_replicate, List.length_set]; omega))), (inR_i64 (by first | omega | (simp only [List.length_replicate, List.length_set]; omega)) (by first | omega | (simp only [List.length_replicate, List.length_set]; omega))), ⟨(by first | omega | (simp only [List.length_replicate, List.length_set]; omega)), (by first | omega | (simp only [List.length_replicate, List.length_set]; omega))⟩, (by first | omega | (simp only [List.length_replicate, List.length_set]; omega)), trivial⟩ ?_
          refine xe_block 7 ?_
          refine xe_then ?_
          refine x_r [] [0, 1, 5, 6, 8, 9, 10, 11] [23] [.ptr false [I l.Nodes, slEdge false l.Edges], Sv w, I ((w.size : Int) + 1), .arr 23, I node, I i, .ptr false [I ((at_ l.Edges i.toNat).From), I ((at_ l.Edges i.toNat).To), Sv ((at_ l.Edges i.toNat).Label), I ((at_ l.Edges i.toNat).Cost)], I (k + 1)] [some (.arr 1 c4.length (fun q => bif Nat.beq q ((((((at_ l.Edges i.toNat).To) * ((w.size : Int) + 1)) + k) + 1).toNat) then [I ((at_ c4 (((node * ((w.size : Int) + 1)) + k).toNat)) + ((at_ l.Edges i.toNat).Cost))] else (fI c4) q))] [inR .i64 (k + 1)] ⟨(inR_i64 (by first | omega | (simp only [List.length_replicate, List.length_set]; omega)) (by first | omega | (simp only [List.length_replicate, List.length_set]; omega))), trivial⟩ ?_
          refine xe_weak [] (T := [(0, .ptr false [I l.Nodes, slEdge false l.Edges]), (1, Sv w), (5, I ((w.size : Int) + 1)), (6, .arr 23), (8, I node), (9, I i), (10, .ptr false [I ((at_ l.Edges i.toNat).From), I ((at_ l.Edges i.toNat).To), Sv ((at_ l.Edges i.toNat).Label), I ((at_ l.Edges i.toNat).Cost)]), (11, I (k + 1))]) (O := [(23, tAI (c4.set ((((((at_ l.Edges i.toNat).To) * ((w.size : Int) + 1)) + k) + 1).toNat) ((at_ c4 (((node * ((w.size : Int) + 1)) + k).toNat)) + ((at_ l.Edges i.toNat).Cost))))]) rfl (⟨.inl rfl, .inl rfl, .inl rfl, .inl rfl, .inl rfl, .inl rfl, .inl rfl, .inl rfl, trivial⟩) (⟨.inr ⟨rfl, (by first | rfl | (simp; done) | (simp; omega) | omega), fun i_ hi_ => .inl (upd_enc (enc := cI) rfl i_ hi_)⟩, trivial⟩) (xe_again ((k + 1), (c4.set ((((((at_ l.Edges i.toNat).To) * ((w.size : Int) + 1)) + k) + 1).toNat) ((at_ c4 (((node * ((w.size : Int) + 1)) + k).toNat)) + ((at_ l.Edges i.toNat).Cost)))) rfl (show (0 ≤ (k + 1) ∧ (k + 1) ≤ (w.size : Int)) ∧ (scI l w node i (k + 1) (c4.set ((((((at_ l.Edges i.toNat).To) * ((w.size : Int) + 1)) + k) + 1).toNat) ((at_ c4 (((node * ((w.size : Int) + 1)) + k).toNat)) + ((at_ l.Edges i.toNat).Cost)))) ∧ True from ⟨(by omega), (by (first | exact sc_skip hsc4 (sc_no hff (.inl (by rw [hc1]; omega)) (by omega)) | exact sc_skip hsc4 (sc_no hff (.inr (.inl (by assumption))) (by omega)) | exact sc_skip hsc4 (sc_no hff (.inr (.inr (by rw [hc1, hc2]; omega))) (by omega)) | (have q_ := sc_put hl hsc4 (by omega) hi ⟨by omega, hkw⟩ hff (by rw [hc1]; omega) (by rw [← hlb]; unfold chA; rw [show (k + 1).toNat = k.toNat + 1 from by omega]) (by rw [hc1, hc2]; omega); rw [hc1, ← Int.add_assoc] at q_; exact q_))), trivial⟩) (by first | (show (((w.size : Int) - (k + 1)).toNat : Nat) < ((w.size : Int) - k).toNat; omega) | (dsimp only; omega)))
         refine x_r [(1, .dec false), (10, .dec false)] [0, 1, 5, 6, 8, 9, 10, 11, 12, 117] [23] [.ptr false [I l.Nodes, slEdge false l.Edges], Sv w, I ((w.size : Int) + 1), .arr 23, I node, I i, .ptr false [I ((at_ l.Edges i.toNat).From), I ((at_ l.Edges i.toNat).To), Sv ((at_ l.Edges i.toNat).Label), I ((at_ l.Edges i.toNat).Cost)], I k, I (at_ c4 (((node * ((w.size : Int) + 1)) + k).toNat)), Bv false] [some (tAI c4)] [¬ ((at_ c4 ((((((at_ l.Edges i.toNat).To) * ((w.size : Int) + 1)) + k) + 1).toNat)) < 0), inR .i64 ((at_ c4 (((node * ((w.size : Int) + 1)) + k).toNat)) + ((at_ l.Edges i.toNat).Cost)), ¬ (((at_ c4 (((node * ((w.size : Int) + 1)) + k).toNat)) + ((at_ l.Edges i.toNat).Cost)) < (at_ c4 ((((((at_ l.Edges i.toNat).To) * ((w.size : Int) + 1)) + k) + 1).toNat)))] ⟨h8, (inR_i64 (by first | omega | (simp only [List.length_replicate, List.length_set]; omega)) (by first | omega | (simp only [List.length_replicate, List.length_set]; omega))), h9, trivial⟩ ?_
         refine xe_then ?_
         refine x_false rfl ?_
         refine x_skip ?_
         refine xe_block 7 ?_
         refine xe_then ?_
         refine x_r [] [0, 1, 5, 6, 8, 9, 10, 11] [23] [.ptr false [I l.Nodes, slEdge false l.Edges], Sv w, I ((w.size : Int) + 1), .arr 23, I node, I i, .ptr false [I ((at_ l.Edges i.toNat).From), I ((at_ l.Edges i.toNat).To), Sv ((at_ l.Edges i.toNat).Label), I ((at_ l.Edges i.toNat).Cost)], I (k + 1)] [some (tAI c4)] [inR .i64 (k + 1)] ⟨(inR_i64 (by first | omega | (simp only [List.length_replicate, List.length_set]; omega)) (by first | omega | (simp only [List.length_replicate, List.length_set]; omega))), trivial⟩ ?_
         exact xe_again ((k + 1), c4) rfl (show (0 ≤ (k + 1) ∧ (k + 1) ≤ (w.size : Int)) ∧ (scI l w node i (k + 1) c4) ∧ True from ⟨(by omega), (by (first | exact sc_skip hsc4 (sc_no hff (.inl (by rw [hc1]; omega)) (by omega)) | exact sc_skip hsc4 (sc_no hff (.inr (.inl (by assumption))) (by omega)) | exact sc_skip hsc4 (sc_no hff (.inr (.inr (by rw [hc1, hc2]; omega))) (by omega)) | (have q_ := sc_put hl hsc4 (by omega) hi ⟨by omega, hkw⟩ hff (by rw [hc1]; omega) (by rw [← hlb]; unfold chA; rw [show (k + 1).toNat = k.toNat + 1 from by omega]) (by rw [hc1, hc2]; omega); rw [hc1, ← Int.add_assoc] at q_; exact q_))), trivial⟩) (by first | (show (((w.size : Int) - (k + 1)).toNat : Nat) < ((w.size : Int) - k).toNat; omega) | (dsimp only; omega))
        have hlb := h7
        refine x_r [(1, .dec false), (12, .dec true)] [0, 1, 5, 6, 8, 9, 10, 11, 12, 93] [23] [.ptr false [I l.Nodes, slEdge false l.Edges], Sv w, I ((w.size : Int) + 1), .arr 23, I node, I i, .ptr false [I ((at_ l.Edges i.toNat).From), I ((at_ l.Edges i.toNat).To), Sv ((at_ l.Edges i.toNat).Label), I ((at_ l.Edges i.toNat).Cost)], I k, I (at_ c4 (((node * ((w.size : Int) + 1)) + k).toNat)), Bv true] [some (tAI c4)] [¬ ((at_ c4 (((node * ((w.size : Int) + 1)) + k).toNat)) < 0), inR .i64 (k + 1), (0 : Int) ≤ k ∧ k ≤ (k + 1) ∧ (k + 1) ≤ (w.size : Int), (w.extract k.toNat (k + 1).toNat) ≠ ((at_ l.Edges i.toNat).Label)] ⟨h6, (inR_i64 (by first | omega | (simp only [List.length_replicate, List.length_set]; omega)) (by first | omega | (simp only [List.length_replicate, List.length_set]; omega))), ⟨(by first | omega | (simp only [List.length_replicate, List.length_set]; omega)), (by first | omega | (simp only [List.length_replicate, List.length_set]; omega)), (by first | omega | (simp only [List.length_replicate, List.length_set]; omega))⟩, h7, trivial⟩ ?_
        refine xe_then ?_
        refine x_true rfl ?_
        refine x_exit ?_
        refine xe_exit_then ?_
        refine xe_exit_same ?_
        refine xe_then ?_
        refine x_r [] [0, 1, 5, 6, 8, 9, 10, 11] [23] [.ptr false [I l.Nodes, slEdge false l.Edges], Sv w, I ((w.size : Int) + 1), .arr 23, I node, I i, .ptr false [I ((at_ l.Edges i.toNat).From), I ((at_ l.Edges i.toNat).To), Sv ((at_ l.Edges i.toNat).Label), I ((at_ l.Edges i.toNat).Cost)], I (k + 1)] [some (tAI c4)] [inR .i64 (k + 1)] ⟨(inR_i64 (by first | omega | (simp only [List.length_replicate, List.length_set]; omega)) (by first | omega | (simp only [List.length_replicate, List.length_set]; omega))), trivial⟩ ?_
        exact xe_again ((k + 1), c4) rfl (show (0 ≤ (k + 1) ∧ (k + 1) ≤ (w.size : Int)) ∧ (scI l w node i (k + 1) c4) ∧ True from ⟨(by omega), (by (first | exact sc_skip hsc4 (sc_no hff (.inl (by rw [hc1]; omega)) (by omega)) | exact sc_skip hsc4 (sc_no hff (.inr (.inl (by assumption))) (by omega)) | exact sc_skip hsc4 (sc_no hff (.inr (.inr (by rw [hc1, hc2]; omega))) (by omega)) | (have q_ := sc_put hl hsc4 (by omega) hi ⟨by omega, hkw⟩ hff (by rw [hc1]; omega) (by rw [← hlb]; unfold chA; rw [show (k + 1).toNat = k.toNat + 1 from by omega]) (by rw [hc1, hc2]; omega); rw [hc1, ← Int.add_assoc] at q_; exact q_))), trivial⟩) (by first | (show (((w.size : Int) - (k + 1)).toNat : Nat) < ((w.size : Int) - k).toNat; omega) | (dsimp only; omega))
       have hfo := h5
       refine x_r [(3, .dec true), (10, .dec false)] [0, 1, 5, 6, 8, 9, 10, 11, 69] [23] [.ptr false [I l.Nodes, slEdge false l.Edges], Sv w, I ((w.size : Int) + 1), .arr 23, I node, I i, .ptr false [I ((at_ l.Edges i.toNat).From), I ((at_ l.Edges i.toNat).To), Sv ((at_ l.Edges i.toNat).Label), I ((at_ l.Edges i.toNat).Cost)], I k, Bv false] [some (tAI c4)] [inR .i64 (k + 1), (k + 1) < ((w.size : Int) + 1), ¬ (((at_ l.Edges i.toNat).From) = node)] ⟨(inR_i64 (by first | omega | (simp only [List.length_replicate, List.length_set]; omega)) (by first | omega | (simp only [List.length_replicate, List.length_set]; omega))), h4, h5, trivial⟩ ?_
       refine xe_then ?_
       refine x_false rfl ?_
       refine x_exit ?_
       refine xe_exit_then ?_
       refine xe_loop_exit ?_
       refine xe_exit_same ?_
       refine xe_block 5 ?_
       refine xe_then ?_
       refine x_r [] [0, 1, 5, 6, 8, 9] [23] [.ptr false [I l.Nodes, slEdge false l.Edges], Sv w, I ((w.size : Int) + 1), .arr 23, I node, I (i + 1)] [some (tAI c4)] [inR .i64 (i + 1)] ⟨(inR_i64 (by first | omega | (simp only [List.length_replicate, List.length_set]; omega)) (by first | omega | (simp only [List.length_replicate, List.length_set]; omega))), trivial⟩ ?_
       exact xe_again ((i + 1), c4) rfl (show (0 ≤ (i + 1) ∧ (i + 1) ≤ (l.Edges.length : Int)) ∧ (scI l w node (i + 1) 0 c4) ∧ True from ⟨(by omega), (by first | exact sc_edge hsc4 (by omega) (.inl hko) | exact sc_edge hsc4 (by omega) (.inr hfo)), trivial⟩) (by first | (show (((l.Edges.length : Int) - (i + 1)).toNat : Nat) < ((l.Edges.length : Int) - i).toNat; omega) | (dsimp only; omega))
      have hko : (w.size : Int) ≤ k := by omega
      refine x_r [(3, .dec false)] [0, 1, 5, 6, 8, 9, 10, 11, 69] [23] [.ptr false [I l.Nodes, slEdge false l.Edges], Sv w, I ((w.size : Int) + 1), .arr 23, I node, I i, .ptr false [I ((at_ l.Edges i.toNat).From), I ((at_ l.Edges i.toNat).To), Sv ((at_ l.Edges i.toNat).Label), I ((at_ l.Edges i.toNat).Cost)], I k, Bv false] [some (tAI c4)] [inR .i64 (k + 1), ¬ ((k + 1) < ((w.size : Int) + 1))] ⟨(inR_i64 (by first | omega | (simp only [List.length_replicate, List.length_set]; omega)) (by first | omega | (simp only [List.length_replicate, List.length_set]; omega))), h4, trivial⟩ ?_
      refine xe_then ?_
      refine x_false rfl ?_
      refine x_exit ?_
      refine xe_exit_then ?_
      refine xe_loop_exit ?_
      refine xe_exit_same ?_
      refine xe_block 5 ?_
      refine xe_then ?_
      refine x_r [] [0, 1, 5, 6, 8, 9] [23] [.ptr false [I l.Nodes, slEdge false l.Edges], Sv w, I ((w.size : Int) + 1), .arr 23, I node, I (i + 1)] [some (tAI c4)] [inR .i64 (i + 1)] ⟨(inR_i64 (by first | omega | (simp only [List.length_replicate, List.length_set]; omega)) (by first | omega | (simp only [List.length_replicate, List.length_set]; omega))), trivial⟩ ?_
      exact xe_again ((i + 1), c4) rfl (show (0 ≤ (i + 1) ∧ (i + 1) ≤ (l.Edges.length : Int)) ∧ (scI l w node (i + 1) 0 c4) ∧ True from ⟨(by omega), (by first | exact sc_edge hsc4 (by omega) (.inl hko) | exact sc_edge hsc4 (by omega) (.inr hfo)), trivial⟩) (by first | (show (((l.Edges.length : Int) - (i + 1)).toNat : Nat) < ((l.Edges.length : Int) - i).toNat; omega) | (dsimp only; omega))
     refine x_r [(6, .dec false)] [0, 1, 5, 6, 8, 9, 49] [23] [.ptr false [I l.Nodes, slEdge false l.Edges], Sv w, I ((w.size : Int) + 1), .arr 23, I node, I i, Bv false] [some (tAI c3)] [¬ (i < (l.Edges.length : Int))] ⟨h3, trivial⟩ ?_
     refine xe_then ?_
     refine x_false rfl ?_
     refine x_exit ?_
     refine xe_exit_then ?_
     refine xe_loop_exit ?_
     refine xe_exit_same ?_
     refine xe_block 3 ?_
     refine xe_then ?_
     refine x_r [] [0, 1, 5, 6, 8] [23] [.ptr false [I l.Nodes, slEdge false l.Edges], Sv w, I ((w.size : Int) + 1), .arr 23, I (node + 1)] [some (tAI c3)] [inR .i64 (node + 1)] ⟨(inR_i64 (by first | omega | (simp only [List.length_replicate, List.length_set]; omega)) (by first | omega | (simp only [List.length_replicate, List.length_set]; omega))), trivial⟩ ?_
     exact xe_again ((node + 1), c3) rfl (show (0 ≤ (node + 1) ∧ (node + 1) ≤ l.Nodes) ∧ (scI l w (node + 1) 0 0 c3) ∧ True from ⟨(by omega), (by exact sc_node hsc3 (by omega)), trivial⟩) (by first | (show ((l.Nodes - (node + 1)).toNat : Nat) < (l.Nodes - node).toNat; omega) | (dsimp only; omega))
    have hcl2 := hsc.1
    have hend := sc_end hl (by omega) hsc
    have hixe : (l.Nodes * ((w.size : Int) + 1) - 1).toNat = ((l.Nodes - 1) * ((w.size : Int) + 1) + (w.size : Int)).toNat := by rw [Int.sub_mul]; omega
    have hcle : clT w c2 (l.Nodes - 1) w.size = at_ c2 (l.Nodes * ((w.size : Int) + 1) - 1).toNat := by rw [hixe]; rfl
    refine x_r [(5, .dec false)] [0, 1, 5, 6, 8, 40] [23] [.ptr false [I l.Nodes, slEdge false l.Edges], Sv w, I ((w.size : Int) + 1), .arr 23, I node, Bv false] [some (tAI c2)] [¬ (node < l.Nodes)] ⟨h2, trivial⟩ ?_
    refine xe_then ?_
    refine x_false rfl ?_
    refine x_exit ?_
    refine xe_exit_then ?_
    refine xe_loop_exit ?_
    refine xe_exit_same ?_
    refine xe_then ?_
    refine xR [] [4] [] [I (at_ c2 (((l.Nodes * ((w.size : Int) + 1)) - 1).toNat))] [] [inR .i64 (l.Nodes * ((w.size : Int) + 1)), inR .i64 ((l.Nodes * ((w.size : Int) + 1)) - 1), (0 : Int) ≤ ((l.Nodes * ((w.size : Int) + 1)) - 1) ∧ ((l.Nodes * ((w.size : Int) + 1)) - 1) < (c2.length : Int), ((l.Nodes * ((w.size : Int) + 1)) - 1).toNat < c2.length] ⟨(inR_i64 (by first | omega | (simp only [List.length_replicate, List.length_set]; omega)) (by first | omega | (simp only [List.length_replicate, List.length_set]; omega))), (inR_i64 (by first | omega | (simp only [List.length_replicate, List.length_set]; omega)) (by first | omega | (simp only [List.length_replicate, List.length_set]; omega))), ⟨(by first | omega | (simp only [List.length_replicate, List.length_set]; omega)), (by first | omega | (simp only [List.length_replicate, List.length_set]; omega))⟩, (by first | omega | (simp only [List.length_replicate, List.length_set]; omega)), trivial⟩ ?_
    refine x_ret ?_
    refine xe_end (at_ c2 (((l.Nodes * ((w.size : Int) + 1)) - 1).toNat)) (show (((at_ c2 (((l.Nodes * ((w.size : Int) + 1)) - 1).toNat)) = -1 ∧ ¬ tcF l w < 1099511627776) ∨ (0 ≤ (at_ c2 (((l.Nodes * ((w.size : Int) + 1)) - 1).toNat)) ∧ (at_ c2 (((l.Nodes * ((w.size : Int) + 1)) - 1).toNat)) = tcF l w ∧ tcF l w < 1099511627776)) ∧ (True) from ⟨(by (rw [← hcle]; exact hend)), trivial⟩) (trivial) (I (at_ c2 (((l.Nodes * ((w.size : Int) + 1)) - 1).toNat))) (by kernel_rfl) (.inl rfl) (fun _ => rfl) (fun _ => trivial)
  obtain ⟨v, ⟨hh0, _⟩, hc⟩ := hh
  exact ⟨v, hh0, hc⟩



-- spec.TextCost
theorem specTextCost_ok (l : Lattice) (w : ByteArray) (hl : okLat l) (hw : w.size ≤ 1000) : ∃ (v : Int) (c : Int), ((c = 0 ∧ v = tcF l w ∧ tcF l w < 1099511627776) ∨ (c = 3 ∧ ¬ tcF l w < 1099511627776)) ∧ Con Try.prog 10 [agLattice l, Sv w] true (.tup [I v, I c]) := by
  have hh : ∃ r : Int × Int, (((r.2 = 0 ∧ r.1 = tcF l w ∧ tcF l w < 1099511627776) ∨ (r.2 = 3 ∧ ¬ tcF l w < 1099511627776)) ∧ (True)) ∧ CallOK Try.prog 10 [agLattice l, Sv w] (lookO []) true (.tup [I r.1, I r.2]) (lookO []) := by
    refine fn_okX (Φ := fun r : Int × Int => ((r.2 = 0 ∧ r.1 = tcF l w ∧ tcF l w < 1099511627776) ∨ (r.2 = 3 ∧ ¬ tcF l w < 1099511627776)) ∧ (True)) [] (fun r => []) (fn := Try.f10) (nt := 17) Try.func10 rfl rfl (args := [agLattice l, Sv w]) rfl (allcons (.inl ⟨rfl, by simp [tagged, taggedL, tagEdge]⟩) (allcons (.inl ⟨rfl, trivial⟩) allnil)) (res := fun r => .tup [I r.1, I r.2]) ?_
    refine xR [(0, .new 2)] [1, 2] [2] [Sv w, .ref 2 0] [some (bxLattice l)] [] trivial ?_
    refine x_seq ?_
    refine xR [(0, .call [(false, .ptr false [I l.Nodes, slEdge false l.Edges])] true (Bv true))] [1, 2, 8] [2] [Sv w, .ref 2 0, Bv false] [some (bxLattice l)] [Con Try.prog 19 [.ptr false [I l.Nodes, slEdge false l.Edges]] true (Bv true) ∧ ((false = true → true = true) ∧ AV.idsL [I l.Nodes, slEdge false l.Edges] = [] ∧ (valOf (I l.Nodes) = valOf (I l.Nodes)) ∧ ((false = true → false = true) ∧ 4 = 4 ∧ l.Edges.length = l.Edges.length ∧ ∀ i_, i_ < l.Edges.length → (fEdge l.Edges) i_ = (fEdge l.Edges) i_ ∨ (AV.idsL ((fEdge l.Edges) i_) = [] ∧ leL (fun _ => none) false ((fEdge l.Edges) i_) ((fEdge l.Edges) i_))) ∧ ([] : List AV) = []) ∧ True] ⟨⟨(l15Ok_ok l hl), ⟨(fun h => by cases h), rfl, ⟨rfl, ⟨⟨(fun h => by cases h), rfl, rfl, fun i _ => .inl rfl⟩, rfl⟩⟩⟩, trivial⟩, trivial⟩ ?_
    refine x_false rfl ?_
    refine x_skip ?_
    refine xe_then ?_
    refine x_seq ?_
    refine x_seq ?_
    by_cases h1 : 20 < (w.size : Int)
    ·have hlg := tcF_long hl (w := w) (by omega)
     refine x_r [(2, .dec true)] [1, 2, 11] [2] [Sv w, .ref 2 0, Bv true] [some (bxLattice l)] [20 < (w.size : Int)] ⟨h1, trivial⟩ ?_
     refine xe_then ?_
     refine x_true rfl ?_
     refine xR [] [4, 5] [] [I 0, I 3] [] [] trivial ?_
     refine x_ret ?_
     refine xe_ret_then ?_
     refine xe_end (0, 3) (show ((3 = 0 ∧ 0 = tcF l w ∧ tcF l w < 1099511627776) ∨ (3 = 3 ∧ ¬ tcF l w < 1099511627776)) ∧ (True) from ⟨(by first | exact .inr ⟨rfl, hlg⟩ | (rcases htc with q | q; (first | exact .inr ⟨rfl, q.2⟩ | omega); (first | exact .inl ⟨rfl, q.2.1, q.2.2⟩ | omega))), trivial⟩) (trivial) (.tup [I 0, I 3]) (by kernel_rfl) (.inl rfl) (fun _ => rfl) (fun _ => (by simp [tagged, taggedL]))
    refine x_r [(2, .dec false)] [1, 2, 11] [2] [Sv w, .ref 2 0, Bv false] [some (bxLattice l)] [¬ (20 < (w.size : Int))] ⟨h1, trivial⟩ ?_
    refine xe_then ?_
    refine x_false rfl ?_
    refine x_skip ?_
    refine xe_then ?_
    refine x_seq ?_
    obtain ⟨v_1, hx1_0, hc1⟩ := l15TextCost_ok l w hl (by omega)
    have htc := hx1_0
    refine x_r [(1, .call [(false, .ptr false [I l.Nodes, slEdge false l.Edges]), (true, .any)] true (I v_1))] [6] [] [I v_1] [] [Con Try.prog 22 [.ptr false [I l.Nodes, slEdge false l.Edges], Sv w] true (I v_1) ∧ ((false = true → true = true) ∧ AV.idsL [I l.Nodes, slEdge false l.Edges] = [] ∧ (valOf (I l.Nodes) = valOf (I l.Nodes)) ∧ ((false = true → false = true) ∧ 4 = 4 ∧ l.Edges.length = l.Edges.length ∧ ∀ i_, i_ < l.Edges.length → (fEdge l.Edges) i_ = (fEdge l.Edges) i_ ∨ (AV.idsL ((fEdge l.Edges) i_) = [] ∧ leL (fun _ => none) false ((fEdge l.Edges) i_) ((fEdge l.Edges) i_))) ∧ ([] : List AV) = []) ∧ True] ⟨⟨hc1, ⟨(fun h => by cases h), rfl, ⟨rfl, ⟨⟨(fun h => by cases h), rfl, rfl, fun i _ => .inl rfl⟩, rfl⟩⟩⟩, trivial⟩, trivial⟩ ?_
    refine xe_then ?_
    refine x_seq ?_
    refine x_seq ?_
    by_cases h2 : v_1 < 0
    ·refine x_r [(1, .dec true)] [6, 15] [] [I v_1, Bv true] [] [v_1 < 0] ⟨h2, trivial⟩ ?_
     refine xe_then ?_
     refine x_true rfl ?_
     refine xR [] [4, 5] [] [I 0, I 3] [] [] trivial ?_
     refine x_ret ?_
     refine xe_ret_then ?_
     refine xe_end (0, 3) (show ((3 = 0 ∧ 0 = tcF l w ∧ tcF l w < 1099511627776) ∨ (3 = 3 ∧ ¬ tcF l w < 1099511627776)) ∧ (True) from ⟨(by first | exact .inr ⟨rfl, hlg⟩ | (rcases htc with q | q; (first | exact .inr ⟨rfl, q.2⟩ | omega); (first | exact .inl ⟨rfl, q.2.1, q.2.2⟩ | omega))), trivial⟩) (trivial) (.tup [I 0, I 3]) (by kernel_rfl) (.inl rfl) (fun _ => rfl) (fun _ => (by simp [tagged, taggedL]))
    refine x_r [(1, .dec false)] [6, 15] [] [I v_1, Bv false] [] [¬ (v_1 < 0)] ⟨h2, trivial⟩ ?_
    refine xe_then ?_
    refine x_false rfl ?_
    refine x_skip ?_
    refine xe_then ?_
    refine xR [] [4, 5] [] [I v_1, I 0] [] [] trivial ?_
    refine x_ret ?_
    refine xe_end (v_1, 0) (show ((0 = 0 ∧ v_1 = tcF l w ∧ tcF l w < 1099511627776) ∨ (0 = 3 ∧ ¬ tcF l w < 1099511627776)) ∧ (True) from ⟨(by first | exact .inr ⟨rfl, hlg⟩ | (rcases htc with q | q; (first | exact .inr ⟨rfl, q.2⟩ | omega); (first | exact .inl ⟨rfl, q.2.1, q.2.2⟩ | omega))), trivial⟩) (trivial) (.tup [I v_1, I 0]) (by kernel_rfl) (.inl rfl) (fun _ => rfl) (fun _ => (by simp [tagged, taggedL]))
  obtain ⟨⟨v, c⟩, ⟨hh0, _⟩, hc⟩ := hh
  exact ⟨v, c, hh0, hc⟩



-- impl.Edge]
theorem cloneE0_ok (s : List Edge) (hl : s.length ≤ 100000) : ∃ (out : List Edge), (out = s) ∧ CallOK Try.prog 23 [slEdge false s] (lookO []) false (.arr 8661) (lookO [(8661, .arr 4 out.length (fEdge out))]) := by
  refine ⟨s, rfl, ?_⟩
  refine fn_okL [] [(8661, .arr 4 s.length (fEdge s))] (fn := Try.f23) (nt := 8) Try.func23 rfl rfl (args := [slEdge false s]) rfl (allcons (.inl ⟨rfl, tagEdge false _⟩) allnil) (res := .arr 8661) (fun B hB => ?_)
  refine aw_seq ?_
  refine aw_reg [] [0] [] [slEdge false s] [] [] (by kernel_rfl) hB trivial ?_
  refine ae_then ?_
  refine aw_seq ?_
  refine aw_seq ?_
  refine aw_reg [] [0, 4] [] [slEdge false s, .nilq s.length] [] [] (by kernel_rfl) hB trivial ?_
  refine ae_then ?_
  refine aw_nilq (n := s.length) rfl (fun h1 => ?_) ?_
  · refine aw_seq ?_
    refine aw_reg [] [2] [] [nilA] [] [] (by kernel_rfl) hB trivial ?_
    refine ae_then ?_
    refine aw_ret ?_
    refine ae_ret_then ?_
    refine ae_nil hB 2 8661 4 (fun _ => []) (by kernel_rfl) ?_
    refine ae_weak hB [] (T := [(2, .arr 8661)]) (O := [(8661, .arr 4 s.length (fEdge s))]) rfl (⟨.inl rfl, trivial⟩) (⟨.inr ⟨rfl, (by omega), fun i_ hi_ => absurd hi_ (by omega)⟩, trivial⟩) ?_
    refine ae_retL hB [(8661, .arr 4 s.length (fEdge s))] (⟨.inl rfl, trivial⟩) (.arr 8661) (by kernel_rfl) (.inl rfl) (fun h => by cases h) (fun h => by cases h)
  · refine aw_skip ?_
    refine ae_then ?_
    refine aw_seq ?_
    refine aw_reg [(0, .new 5), (2, .new 7)] [2] [7] [.arr 7] [some (.arr 4 (0 + s.length) (catF 0 (litF [] 4) (fEdge s)))] [(0 + s.length) * 40 ≤ 140737488355328] (by kernel_rfl) hB ⟨(by omega), trivial⟩ ?_
    refine ae_then ?_
    refine aw_ret ?_
    refine ae_weak hB [(8661, 7)] (T := [(2, .arr 8661)]) (O := [(8661, .arr 4 s.length (fEdge s))]) rfl (⟨.inl rfl, trivial⟩) (⟨.inr ⟨rfl, (by simp), fun i_ hi_ => .inl (cat_nil i_)⟩, trivial⟩) ?_
    refine ae_retL hB [(8661, .arr 4 s.length (fEdge s))] (⟨.inl rfl, trivial⟩) (.arr 8661) (by kernel_rfl) (.inl rfl) (fun h => by cases h) (fun h => by cases h)


-- impl.JoinLattices
theorem JoinLattices_ok (a : Lattice) (b : Lattice) (ha : okLat a) (hb : okLat b) (h20 : a.Nodes - 1 + b.Nodes ≤ 20) (h200 : (a.Edges.length : Int) + b.Edges.length ≤ 200) : ∃ (v : Lattice) (c : Int), (v = joinT a b) ∧ (c = 0) ∧ Con Try.prog 11 [agLattice a, agLattice b] true (.tup [agLatticeT v, I c]) := by
  have hna := ha.1
  have hca := ha.2.1
  have hnb := hb.1
  have hcb := hb.2.1
  have hh : ∃ r : Lattice × Int, ((r.1 = joinT a b) ∧ (r.2 = 0) ∧ (True)) ∧ CallOK Try.prog 11 [agLattice a, agLattice b] (lookO []) true (.tup [agLatticeT r.1, I r.2]) (lookO []) := by
    refine fn_okX (Φ := fun r : Lattice × Int => (r.1 = joinT a b) ∧ (r.2 = 0) ∧ (True)) [] (fun r => []) (fn := Try.f11) (nt := 71) Try.func11 rfl rfl (args := [agLattice a, agLattice b]) rfl (allcons (.inl ⟨rfl, by simp [tagged, taggedL, tagEdge]⟩) (allcons (.inl ⟨rfl, by simp [tagged, taggedL, tagEdge]⟩) allnil)) (res := fun r => .tup [agLatticeT r.1, I r.2]) ?_
    refine xR [(0, .new 2), (1, .new 3), (2, .new 4)] [2, 3, 4] [2, 3, 4] [.ref 2 0, .ref 3 0, .ref 4 0] [some (bxLattice a), some (bxLattice b), some (.box [I 0, nilA])] [] trivial ?_
    refine x_seq ?_
    refine xR [(1, .call [(true, .any)] true (Bv true)), (5, .call [(true, .any)] true (Bv true))] [2, 3, 4, 17] [2, 3, 4] [.ref 2 0, .ref 3 0, .ref 4 0, Bv false] [some (bxLattice a), some (bxLattice b), some (.box [I 0, nilA])] [Con Try.prog 16 [agLattice a] true (Bv true) ∧ True, Con Try.prog 16 [agLattice b] true (Bv true) ∧ True] ⟨⟨(ValidLattice_ok a ha), trivial⟩, ⟨(ValidLattice_ok b hb), trivial⟩, trivial⟩ ?_
    refine x_false rfl ?_
    refine x_skip ?_
    refine xe_then ?_
    refine xR [] [2, 3, 4, 6] [2, 3, 4] [.ref 2 0, .ref 3 0, .ref 4 0, I (a.Nodes - 1)] [some (bxLattice a), some (bxLattice b), some (.box [I 0, nilA])] [inR .i64 (a.Nodes - 1)] ⟨(inR_i64 (by omega) (by omega)), trivial⟩ ?_
    refine x_seq ?_
    refine xR [(4, .dec false), (13, .dec false)] [2, 3, 4, 6, 36] [2, 3, 4] [.ref 2 0, .ref 3 0, .ref 4 0, I (a.Nodes - 1), Bv false] [some (bxLattice a), some (bxLattice b), some (.box [I 0, nilA])] [inR .i64 ((a.Nodes - 1) + b.Nodes), ¬ (20 < ((a.Nodes - 1) + b.Nodes)), inR .i64 ((a.Edges.length : Int) + (b.Edges.length : Int)), ¬ (200 < ((a.Edges.length : Int) + (b.Edges.length : Int)))] ⟨(inR_i64 (by omega) (by omega)), (by omega), (inR_i64 (by omega) (by omega)), (by omega), trivial⟩ ?_
    refine x_false rfl ?_
    refine x_skip ?_
    refine xe_then ?_
    refine x_seq ?_
    obtain ⟨out_1, hx1_0, hc1⟩ := cloneE0_ok a.Edges (by omega)
    have hcl : out_1 = a.Edges := hx1_0
    have hcll : out_1.length = a.Edges.length := by rw [hcl]
    refine x_r [(6, .lend [] [(8661, tAEdge out_1)] [(true, .any)] false (.arr 8661)), (8, .new 7)] [3, 4, 6, 7] [3, 4, 7, 8661] [.ref 3 0, .ref 4 0, I (a.Nodes - 1), .ref 7 0] [some (bxLattice b), some (.box [I 0, nilA]), some (.box [I ((a.Nodes - 1) + b.Nodes), .arr 8661]), some (tAEdge out_1)] [inR .i64 ((a.Nodes - 1) + b.Nodes), CallOK Try.prog 23 [slEdge false a.Edges] (lookO []) false (.arr 8661) (lookO [(8661, tAEdge out_1)]) ∧ True] ⟨(inR_i64 (by omega) (by omega)), ⟨hc1, trivial⟩, trivial⟩ ?_
    refine xe_then ?_
    refine x_seq ?_
    refine xR [] [4, 6, 7, 47, 48, 49] [4, 7, 8661] [.ref 4 0, I (a.Nodes - 1), .ref 7 0, slEdge false b.Edges, I (b.Edges.length : Int), I 0] [some (.box [I 0, nilA]), some (.box [I ((a.Nodes - 1) + b.Nodes), .arr 8661]), some (tAEdge out_1)] [] trivial ?_
    refine x_block ?_
    refine x_loop (X := Int × (List Edge)) (fun x => mkS [(4, .ref 4 0), (6, I (a.Nodes - 1)), (7, .ref 7 0), (47, slEdge false b.Edges), (48, I (b.Edges.length : Int)), (49, I x.1)] [(4, .box [I 0, nilA]), (7, .box [I ((a.Nodes - 1) + b.Nodes), .arr 8661]), (8661, tAEdge x.2)]) (fun x => (0 ≤ x.1 ∧ x.1 ≤ (b.Edges.length : Int)) ∧ (x.2 = a.Edges ++ (b.Edges.take x.1.toNat).map (shE (a.Nodes - 1))) ∧ ((x.2.length : Int) ≤ a.Edges.length + x.1) ∧ True) (fun x => ((b.Edges.length : Int) - x.1).toNat) (0, out_1) rfl (show (0 ≤ (0 : Int) ∧ (0 : Int) ≤ (b.Edges.length : Int)) ∧ (out_1 = a.Edges ++ (b.Edges.take (0 : Int).toNat).map (shE (a.Nodes - 1))) ∧ ((out_1.length : Int) ≤ a.Edges.length + (0 : Int)) ∧ True from ⟨(by omega), (by (rw [hcl]; simp)), (by (rw [hcl]; simp)), trivial⟩) (fun x hI => ?_)
    obtain ⟨t49, es⟩ := x
    obtain ⟨hi0, hes, hel, _⟩ : (0 ≤ t49 ∧ t49 ≤ (b.Edges.length : Int)) ∧ (es = a.Edges ++ (b.Edges.take t49.toNat).map (shE (a.Nodes - 1))) ∧ ((es.length : Int) ≤ a.Edges.length + t49) ∧ True := hI
    show XW _ _ _ _ (mkS [(4, .ref 4 0), (6, I (a.Nodes - 1)), (7, .ref 7 0), (47, slEdge false b.Edges), (48, I (b.Edges.length : Int)), (49, I t49)] [(4, .box [I 0, nilA]), (7, .box [I ((a.Nodes - 1) + b.Nodes), .arr 8661]), (8661, tAEdge es)]) _ _
    refine x_seq ?_
    by_cases h1 : t49 < (b.Edges.length : Int)
    ·have hi : t49.toNat < b.Edges.length := by omega
     have hed := hb.2.2.1 _ hi
     have he1 := hed.1
     have hii : (t49 + 1).toNat = t49.toNat + 1 := by omega
     refine x_r [(0, .dec true)] [4, 6, 7, 47, 48, 49, 50] [4, 7, 8661] [.ref 4 0, I (a.Nodes - 1), .ref 7 0, slEdge false b.Edges, I (b.Edges.length : Int), I t49, Bv true] [some (.box [I 0, nilA]), some (.box [I ((a.Nodes - 1) + b.Nodes), .arr 8661]), some (tAEdge es)] [t49 < (b.Edges.length : Int)] ⟨h1, trivial⟩ ?_
     refine xe_then ?_
     refine x_seq ?_
     refine x_true rfl ?_
     refine x_skip ?_
     refine xe_then ?_
     refine x_seq ?_
     refine x_block ?_
     refine xR [(2, .new 9)] [4, 6, 7, 9, 47, 48, 49] [4, 7, 9, 8661] [.ref 4 0, I (a.Nodes - 1), .ref 7 0, .ref 9 0, slEdge false b.Edges, I (b.Edges.length : Int), I t49] [some (.box [I 0, nilA]), some (.box [I ((a.Nodes - 1) + b.Nodes), .arr 8661]), some (bxEdge (at_ b.Edges t49.toNat)), some (tAEdge es)] [(0 : Int) ≤ t49 ∧ t49 < (b.Edges.length : Int)] ⟨⟨(by omega), (by omega)⟩, trivial⟩ ?_
     refine xR [] [4, 6, 7, 9, 47, 48, 49] [4, 7, 9, 8661] [.ref 4 0, I (a.Nodes - 1), .ref 7 0, .ref 9 0, slEdge false b.Edges, I (b.Edges.length : Int), I t49] [some (.box [I 0, nilA]), some (.box [I ((a.Nodes - 1) + b.Nodes), .arr 8661]), some (.box [I (((at_ b.Edges t49.toNat).From) + (a.Nodes - 1)), I ((at_ b.Edges t49.toNat).To), Sv ((at_ b.Edges t49.toNat).Label), I ((at_ b.Edges t49.toNat).Cost)]), some (tAEdge es)] [inR .i64 (((at_ b.Edges t49.toNat).From) + (a.Nodes - 1))] ⟨(inR_i64 (by omega) (by omega)), trivial⟩ ?_
     refine xR [] [4, 6, 7, 9, 47, 48, 49] [4, 7, 9, 8661] [.ref 4 0, I (a.Nodes - 1), .ref 7 0, .ref 9 0, slEdge false b.Edges, I (b.Edges.length : Int), I t49] [some (.box [I 0, nilA]), some (.box [I ((a.Nodes - 1) + b.Nodes), .arr 8661]), some (.box [I (((at_ b.Edges t49.toNat).From) + (a.Nodes - 1)), I (((at_ b.Edges t49.toNat).To) + (a.Nodes - 1)), Sv ((at_ b.Edges t49.toNat).Label), I ((at_ b.Edges t49.toNat).Cost)]), some (tAEdge es)] [inR .i64 (((at_ b.Edges t49.toNat).To) + (a.Nodes - 1))] ⟨(inR_i64 (by omega) (by omega)), trivial⟩ ?_
     refine x_r [(3, .new 66), (4, .new 67)] [4, 6, 7, 47, 48, 49] [4, 7, 67] [.ref 4 0, I (a.Nodes - 1), .ref 7 0, slEdge false b.Edges, I (b.Edges.length : Int), I t49] [some (.box [I 0, nilA]), some (.box [I ((a.Nodes - 1) + b.Nodes), .arr 67]), some (.arr 4 (es.length + 1) (catF es.length (fEdge es) (litF [I (((at_ b.Edges t49.toNat).From) + (a.Nodes - 1)), I (((at_ b.Edges t49.toNat).To) + (a.Nodes - 1)), Sv ((at_ b.Edges t49.toNat).Label), I ((at_ b.Edges t49.toNat).Cost)] 4)))] [(es.length + 1) * 40 ≤ 140737488355328] ⟨(by omega), trivial⟩ ?_
     refine xe_block 1 ?_
     refine xe_then ?_
     refine x_r [] [4, 6, 7, 47, 48, 49] [4, 7, 67] [.ref 4 0, I (a.Nodes - 1), .ref 7 0, slEdge false b.Edges, I (b.Edges.length : Int), I (t49 + 1)] [some (.box [I 0, nilA]), some (.box [I ((a.Nodes - 1) + b.Nodes), .arr 67]), some (.arr 4 (es.length + 1) (catF es.length (fEdge es) (litF [I (((at_ b.Edges t49.toNat).From) + (a.Nodes - 1)), I (((at_ b.Edges t49.toNat).To) + (a.Nodes - 1)), Sv ((at_ b.Edges t49.toNat).Label), I ((at_ b.Edges t49.toNat).Cost)] 4)))] [inR .i64 (t49 + 1)] ⟨(inR_i64 (by omega) (by omega)), trivial⟩ ?_
     refine xe_weak [(8661, 67)] (T := [(4, .ref 4 0), (6, I (a.Nodes - 1)), (7, .ref 7 0), (47, slEdge false b.Edges), (48, I (b.Edges.length : Int)), (49, I (t49 + 1))]) (O := [(4, .box [I 0, nilA]), (7, .box [I ((a.Nodes - 1) + b.Nodes), .arr 8661]), (8661, tAEdge (es ++ [(Edge.mk (((at_ b.Edges t49.toNat).From) + (a.Nodes - 1)) (((at_ b.Edges t49.toNat).To) + (a.Nodes - 1)) ((at_ b.Edges t49.toNat).Label) ((at_ b.Edges t49.toNat).Cost))]))]) rfl (⟨.inl rfl, .inl rfl, .inl rfl, .inl rfl, .inl rfl, .inl rfl, trivial⟩) (⟨.inl rfl, .inl rfl, .inr ⟨rfl, (by first | rfl | (simp; done) | (simp; omega) | omega), fun i_ hi_ => .inl (cat_snoc (enc := cEdge) (xs := es) rfl i_ hi_)⟩, trivial⟩) (xe_again ((t49 + 1), (es ++ [(Edge.mk (((at_ b.Edges t49.toNat).From) + (a.Nodes - 1)) (((at_ b.Edges t49.toNat).To) + (a.Nodes - 1)) ((at_ b.Edges t49.toNat).Label) ((at_ b.Edges t49.toNat).Cost))])) rfl (show (0 ≤ (t49 + 1) ∧ (t49 + 1) ≤ (b.Edges.length : Int)) ∧ ((es ++ [(Edge.mk (((at_ b.Edges t49.toNat).From) + (a.Nodes - 1)) (((at_ b.Edges t49.toNat).To) + (a.Nodes - 1)) ((at_ b.Edges t49.toNat).Label) ((at_ b.Edges t49.toNat).Cost))]) = a.Edges ++ (b.Edges.take (t49 + 1).toNat).map (shE (a.Nodes - 1))) ∧ (((es ++ [(Edge.mk (((at_ b.Edges t49.toNat).From) + (a.Nodes - 1)) (((at_ b.Edges t49.toNat).To) + (a.Nodes - 1)) ((at_ b.Edges t49.toNat).Label) ((at_ b.Edges t49.toNat).Cost))]).length : Int) ≤ a.Edges.length + (t49 + 1)) ∧ True from ⟨(by omega), (by rw [hes, hii, List.take_succ_eq_append_getElem hi, List.map_append, ← at_eq hi, List.append_assoc]; rfl), (by (simp; omega)), trivial⟩) (by first | (show (((b.Edges.length : Int) - (t49 + 1)).toNat : Nat) < ((b.Edges.length : Int) - t49).toNat; omega) | (dsimp only; omega)))
    have hie : es = a.Edges ++ b.Edges.map (shE (a.Nodes - 1)) := by rw [hes, List.take_of_length_le (by omega)]
    refine x_r [(0, .dec false)] [4, 6, 7, 47, 48, 49, 50] [4, 7, 8661] [.ref 4 0, I (a.Nodes - 1), .ref 7 0, slEdge false b.Edges, I (b.Edges.length : Int), I t49, Bv false] [some (.box [I 0, nilA]), some (.box [I ((a.Nodes - 1) + b.Nodes), .arr 8661]), some (tAEdge es)] [¬ (t49 < (b.Edges.length : Int))] ⟨h1, trivial⟩ ?_
    refine xe_then ?_
    refine x_seq ?_
    refine x_false rfl ?_
    refine x_exit ?_
    refine xe_exit_then ?_
    refine xe_loop_exit ?_
    refine xe_exit_same ?_
    refine xe_then ?_
    refine xR [] [4, 5] [4, 8661] [.ref 4 0, I 0] [some (.box [I ((a.Nodes - 1) + b.Nodes), .arr 8661]), some (tAEdge es)] [] trivial ?_
    refine x_ret ?_
    refine xe_end ((Lattice.mk ((a.Nodes - 1) + b.Nodes) es), 0) (show ((Lattice.mk ((a.Nodes - 1) + b.Nodes) es) = joinT a b) ∧ (0 = 0) ∧ (True) from ⟨(by (rw [hie]; rfl)), (by rfl), trivial⟩) (trivial) (.tup [.agg [I ((a.Nodes - 1) + b.Nodes), .arr 8661], I 0]) (by kernel_rfl) (.inr ⟨⟨rfl, ⟨⟨(fun _ => rfl), rfl, rfl, fun i _ => .inl rfl⟩, rfl⟩⟩, ⟨rfl, rfl⟩⟩) (fun _ => rfl) (fun _ => (by simp [tagged, taggedL, tagEdge]))
  obtain ⟨⟨v, c⟩, ⟨hh0, hh1, _⟩, hc⟩ := hh
  exact ⟨v, c, hh0, hh1, hc⟩


end Go.Proofs.Ytppknhfdmmnmoaa.Ax
