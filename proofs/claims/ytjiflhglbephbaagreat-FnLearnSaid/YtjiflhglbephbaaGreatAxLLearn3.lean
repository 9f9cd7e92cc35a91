/- Contracts that the statement FnLearn reaches, part 3. No conditions. -/
import Derived.Test.YtjiflhglbephbaaGreatAxLLearn2
import Derived.Test.YtjiflhglbephbaaGreatAxR
import Derived.Test.YtjiflhglbephbaaGreatAxS
import Derived.Test.YtjiflhglbephbaaGreatSortShelf
namespace Go.Proofs.YtjiflhglbephbaaGreat.Ax
open Go.RowKit Go.ChangeShapes Go.WideShapes
set_option linter.unusedVariables false
set_option linter.unusedSimpArgs false


/-- The numbers that a path brings to place i. -/
def xsF (f : Feat → Int) (path : List Pair) (s : List Feat) (i : Int) : List Int := (path.filter fun p => decide (p.I = i)).map fun p => f (at_ s p.J.toNat)
theorem xsF_yes {f : Feat → Int} {path : List Pair} {s : List Feat} {i : Int} {k : Nat} (h : k < path.length) (e : (at_ path k).I = i) : xsF f (path.take (k + 1)) s i = xsF f (path.take k) s i ++ [f (at_ s (at_ path k).J.toNat)] := by
  rw [List.take_succ_eq_append_getElem h, ← at_eq h]
  simp [xsF, List.filter_append, e]
theorem xsF_no {f : Feat → Int} {path : List Pair} {s : List Feat} {i : Int} {k : Nat} (h : k < path.length) (e : ¬ (at_ path k).I = i) : xsF f (path.take (k + 1)) s i = xsF f (path.take k) s i := by
  rw [List.take_succ_eq_append_getElem h, ← at_eq h]
  simp [xsF, List.filter_append, e]
theorem xsF_le (f : Feat → Int) (path : List Pair) (s : List Feat) (i : Int) : (xsF f path s i).length ≤ path.length := by
  unfold xsF; rw [List.length_map]; exact List.length_filter_le _ _
def pathOf (a b : List Feat) (band : Int) : List Pair := (tot a b band).reverse
theorem path_len (a b : List Feat) (band : Int) : (pathOf a b band).length = (tot a b band).length := List.length_reverse
theorem path_bd {a b : List Feat} (ha : okFeats a 72 = true) (hb : okFeats b 72 = true) (band : Int) : (pathOf a b band).length ≤ 145 := by
  have h := tot_len a b band
  have h1 := okFeats_n ha
  have h2 := okFeats_n hb
  rw [path_len]; omega
theorem path_at {a b : List Feat} {band : Int} (ha : okFeats a 72 = true) (hb : okFeats b 72 = true) {k : Nat} (hk : k < (pathOf a b band).length) : (0 ≤ (at_ (pathOf a b band) k).I ∧ (at_ (pathOf a b band) k).I < (a.length : Int)) ∧ 0 ≤ (at_ (pathOf a b band) k).J ∧ (at_ (pathOf a b band) k).J < (b.length : Int) := by
  have hm := at_mem hk
  exact tot_mem (okFeats_n ha).1 (okFeats_n hb).1 (List.mem_reverse.1 hm)
theorem xs_pos {a b : List Feat} {band : Int} (ha : okFeats a 72 = true) (hb : okFeats b 72 = true) (hnm : inBd band a.length b.length) (f : Feat → Int) {i : Nat} (hi : i < a.length) : 1 ≤ (xsF f (pathOf a b band) b i).length ∧ (xsF f (pathOf a b band) b i).length ≤ 145 := by
  have h1 := okFeats_n ha
  have h2 := okFeats_n hb
  refine ⟨?_, Nat.le_trans (xsF_le _ _ _ _) (path_bd ha hb band)⟩
  obtain ⟨p, hp, e⟩ := bk_cov (okAB_of ha hb) (a.length + b.length - 1) (a.length - 1) (b.length - 1) (by omega) (by omega) (inBd_end hnm h1.1 h2.1) (by omega) i (by omega)
  unfold xsF
  rw [List.length_map]
  refine List.length_pos_of_mem (a := p) (List.mem_filter.2 ⟨List.mem_reverse.2 hp, by simp [e]⟩)
theorem xs_mem {a b : List Feat} {band : Int} (ha : okFeats a 72 = true) (hb : okFeats b 72 = true) {f : Feat → Int} (hf : ∀ x : Feat, okF x = true → 0 ≤ f x ∧ f x ≤ 255) {i x : Int} (hx : x ∈ xsF f (pathOf a b band) b i) : 0 ≤ x ∧ x ≤ 255 := by
  unfold xsF at hx
  obtain ⟨p, hp, rfl⟩ := List.mem_map.1 hx
  have hp' := (List.mem_filter.1 hp).1
  have hq := tot_mem (okFeats_n ha).1 (okFeats_n hb).1 (List.mem_reverse.1 hp')
  exact hf _ (okFeats_at hb (by omega))
theorem okF_X : ∀ x : Feat, okF x = true → 0 ≤ x.X ∧ x.X ≤ 255 := fun x h => by have := okF_iff.1 h; omega
theorem okF_Y : ∀ x : Feat, okF x = true → 0 ≤ x.Y ∧ x.Y ≤ 255 := fun x h => by have := okF_iff.1 h; omega
theorem med_bd {a b : List Feat} {band : Int} (ha : okFeats a 72 = true) (hb : okFeats b 72 = true) (hnm : inBd band a.length b.length) {f : Feat → Int} (hf : ∀ x : Feat, okF x = true → 0 ≤ f x ∧ f x ≤ 255) {i : Nat} (hi : i < a.length) : 0 ≤ medI (xsF f (pathOf a b band) b i) ∧ medI (xsF f (pathOf a b band) b i) ≤ 255 :=
  xs_mem ha hb hf (medI_mem (xs_pos ha hb hnm f hi).1)
/-- A template's feature after a sample. -/
def adpF (t : Trained) (s : List Feat) (band share : Int) (i : Nat) : Feat :=
  ⟨towI (at_ t.Feats i).X (medI (xsF Feat.X (pathOf t.Feats s band) s i)) (at_ t.Base i).X share, towI (at_ t.Feats i).Y (medI (xsF Feat.Y (pathOf t.Feats s band) s i)) (at_ t.Base i).Y share, (at_ t.Feats i).D⟩
def adpN (t : Trained) (s : List Feat) (band share : Int) (n : Nat) : List Feat := (List.range n).map (adpF t s band share)
theorem adpN_succ {t : Trained} {s : List Feat} {band share : Int} {n : Nat} {y : Feat} (h : y = adpF t s band share n) : adpN t s band share n ++ [y] = adpN t s band share (n + 1) := by
  subst h; simp [adpN, List.range_succ]
theorem adpN_len (t : Trained) (s : List Feat) (band share : Int) (n : Nat) : (adpN t s band share n).length = n := by simp [adpN]
/-- A template after a sample. -/
def adpT (t : Trained) (s : List Feat) (band share : Int) : Trained := ⟨t.Label, t.Base, adpN t s band share t.Feats.length, t.Count + 1⟩

-- spec.l24Adapt
set_option maxHeartbeats 4000000 in
theorem l24Adapt_ok (t : Trained) (sample : List Feat) (band : Int) (share : Int) (okt : okTrained' t = true) (oks : okFeats sample 72 = true) (hbd : 0 ≤ band ∧ band ≤ 72) (hnm : inBd band t.Feats.length sample.length) (hsh : 0 ≤ share ∧ share ≤ 100) (hct : t.Count < 100) : ∃ (v : Trained), (v = adpT t sample band share) ∧ Con Tryz.prog 51 [.ptr false [Sv t.Label, slFeat false t.Base, slFeat false t.Feats, I t.Count], slFeat false sample, I band, I share] true (agTrainedT v) := by
  have oka := (okTr_iff.1 okt).2.2.1
  have okb := (okTr_iff.1 okt).2.1
  have hlen := (okTr_iff.1 okt).2.2.2.1.1
  have hcn := inB_iff.1 (okTr_iff.1 okt).2.2.2.2
  have hna := okFeats_n oka
  have hns := okFeats_n oks
  have hpl := path_bd oka oks band
  have hh : ∃ r : Trained, ((r = adpT t sample band share) ∧ (True)) ∧ CallOK Tryz.prog 51 [.ptr false [Sv t.Label, slFeat false t.Base, slFeat false t.Feats, I t.Count], slFeat false sample, I band, I share] (lookO []) true (agTrainedT r) (lookO []) := by
    refine fn_okX (Φ := fun r : Trained => (r = adpT t sample band share) ∧ (True)) [] (fun r => []) (fn := Tryz.f51) (nt := 134) Tryz.func51 rfl rfl (args := [.ptr false [Sv t.Label, slFeat false t.Base, slFeat false t.Feats, I t.Count], slFeat false sample, I band, I share]) rfl (allcons (.inl ⟨rfl, by simp [tagged, taggedL, tagFeat]⟩) (allcons (.inl ⟨rfl, tagFeat false _⟩) (allcons (.inl ⟨rfl, trivial⟩) (allcons (.inl ⟨rfl, trivial⟩) allnil)))) (res := fun r => agTrainedT r) ?_
    refine xR [(0, .new 8)] [0, 1, 2, 3, 8] [8] [.ptr false [Sv t.Label, slFeat false t.Base, slFeat false t.Feats, I t.Count], slFeat false sample, I band, I share, .ref 8 0] [some (.box [Sv (⟨#[]⟩ : ByteArray), nilA, nilA, I 0])] [] trivial ?_
    refine x_seq ?_
    obtain ⟨v_1, hx1_0, hc1⟩ := l09Trace_ok t.Feats sample band oka oks hbd hnm
    have hpv : v_1 = pathOf t.Feats sample band := hx1_0
    have hpl : v_1.length ≤ 145 := by rw [hpv]; exact path_bd oka oks band
    have hpa : ∀ k, k < v_1.length → (0 ≤ (at_ v_1 k).I ∧ (at_ v_1 k).I < (t.Feats.length : Int)) ∧ 0 ≤ (at_ v_1 k).J ∧ (at_ v_1 k).J < (sample.length : Int) := by rw [hpv]; exact fun k hk => path_at oka oks hk
    have hxp : ∀ (f : Feat → Int) (i : Nat), i < t.Feats.length → 1 ≤ (xsF f v_1 sample i).length ∧ (xsF f v_1 sample i).length ≤ 145 := by rw [hpv]; exact fun f i hi => xs_pos oka oks hnm f hi
    have hmX : ∀ i : Nat, i < t.Feats.length → 0 ≤ medI (xsF Feat.X v_1 sample i) ∧ medI (xsF Feat.X v_1 sample i) ≤ 255 := by rw [hpv]; exact fun i hi => med_bd oka oks hnm okF_X hi
    have hmY : ∀ i : Nat, i < t.Feats.length → 0 ≤ medI (xsF Feat.Y v_1 sample i) ∧ medI (xsF Feat.Y v_1 sample i) ≤ 255 := by rw [hpv]; exact fun i hi => med_bd oka oks hnm okF_Y hi
    have had : ∀ i : Nat, adpF t sample band share i = ⟨towI (at_ t.Feats i).X (medI (xsF Feat.X v_1 sample i)) (at_ t.Base i).X share, towI (at_ t.Feats i).Y (medI (xsF Feat.Y v_1 sample i)) (at_ t.Base i).Y share, (at_ t.Feats i).D⟩ := by rw [hpv]; exact fun _ => rfl
    refine x_r [(6, .call [(true, .any), (true, .any), (true, .any)] true (slPair true v_1))] [0, 1, 3, 8, 9] [8] [.ptr false [Sv t.Label, slFeat false t.Base, slFeat false t.Feats, I t.Count], slFeat false sample, I share, .ref 8 0, slPair true v_1] [some (.box [Sv (⟨#[]⟩ : ByteArray), nilA, nilA, I 0])] [Con Tryz.prog 87 [slFeat false t.Feats, slFeat false sample, I band] true (slPair true v_1) ∧ True] ⟨⟨hc1, trivial⟩, trivial⟩ ?_
    refine xe_then ?_
    refine xR [(8, .call [(true, .any)] true (slFeat true t.Base)), (15, .new 10)] [0, 1, 3, 8, 9, 10] [8, 10] [.ptr false [Sv t.Label, slFeat false t.Base, slFeat false t.Feats, I t.Count], slFeat false sample, I share, .ref 8 0, slPair true v_1, .ref 10 0] [some (.box [Sv (⟨#[]⟩ : ByteArray), nilA, nilA, I 0]), some (.box [Sv t.Label, slFeat true t.Base, nilA, I (t.Count + 1)])] [Con Tryz.prog 85 [slFeat false t.Base] true (slFeat true t.Base) ∧ True, inR .i64 (t.Count + 1)] ⟨⟨(l24Copy_ok t.Base (by omega)), trivial⟩, (inR_i64 (by omega) (by omega)), trivial⟩ ?_
    refine x_seq ?_
    refine xR [] [0, 1, 3, 8, 9, 10, 11] [8, 10] [.ptr false [Sv t.Label, slFeat false t.Base, slFeat false t.Feats, I t.Count], slFeat false sample, I share, .ref 8 0, slPair true v_1, .ref 10 0, I 0] [some (.box [Sv (⟨#[]⟩ : ByteArray), nilA, nilA, I 0]), some (.box [Sv t.Label, slFeat true t.Base, nilA, I (t.Count + 1)])] [] trivial ?_
    refine x_block ?_
    refine x_nilC 10 2 802 3 (fun _ => []) rfl (by kernel_rfl) ?_
    refine x_weak [] (T := [(0, .ptr false [Sv t.Label, slFeat false t.Base, slFeat false t.Feats, I t.Count]), (1, slFeat false sample), (3, I share), (8, .ref 8 0), (9, slPair true v_1), (10, .ref 10 0), (11, I 0)]) (O := [(8, .box [Sv (⟨#[]⟩ : ByteArray), nilA, nilA, I 0]), (10, .box [Sv t.Label, slFeat true t.Base, .arr 802, I (t.Count + 1)]), (802, .arr 3 (([] : List Feat).length) (fFeat ([] : List Feat)))]) rfl (⟨.inl rfl, .inl rfl, .inl rfl, .inl rfl, .inl rfl, .inl rfl, .inl rfl, trivial⟩) (⟨.inl rfl, .inl rfl, .inr ⟨rfl, (by first | rfl | (simp; done) | (simp; omega) | omega), fun i_ hi_ => absurd hi_ (Nat.not_lt_zero _)⟩, trivial⟩) ?_
    refine x_loop (X := Int × (List Feat)) (fun x => mkS [(0, .ptr false [Sv t.Label, slFeat false t.Base, slFeat false t.Feats, I t.Count]), (1, slFeat false sample), (3, I share), (8, .ref 8 0), (9, slPair true v_1), (10, .ref 10 0), (11, I x.1)] [(8, .box [Sv (⟨#[]⟩ : ByteArray), nilA, nilA, I 0]), (10, .box [Sv t.Label, slFeat true t.Base, .arr 802, I (t.Count + 1)]), (802, .arr 3 x.2.length (fFeat x.2))]) (fun x => (0 ≤ x.1 ∧ x.1 ≤ (t.Feats.length : Int)) ∧ (x.2 = adpN t sample band share x.1.toNat) ∧ True) (fun x => ((t.Feats.length : Int) - x.1).toNat) (0, ([] : List Feat)) rfl (show (0 ≤ (0 : Int) ∧ (0 : Int) ≤ (t.Feats.length : Int)) ∧ (([] : List Feat) = adpN t sample band share (0 : Int).toNat) ∧ True from ⟨(by omega), (by rfl), trivial⟩) (fun x hI => ?_)
    obtain ⟨i, fs⟩ := x
    obtain ⟨hi0, hfs, _⟩ : (0 ≤ i ∧ i ≤ (t.Feats.length : Int)) ∧ (fs = adpN t sample band share i.toNat) ∧ True := hI
    show XW _ _ _ _ (mkS [(0, .ptr false [Sv t.Label, slFeat false t.Base, slFeat false t.Feats, I t.Count]), (1, slFeat false sample), (3, I share), (8, .ref 8 0), (9, slPair true v_1), (10, .ref 10 0), (11, I i)] [(8, .box [Sv (⟨#[]⟩ : ByteArray), nilA, nilA, I 0]), (10, .box [Sv t.Label, slFeat true t.Base, .arr 802, I (t.Count + 1)]), (802, .arr 3 fs.length (fFeat fs))]) _ _
    refine x_seq ?_
    refine x_seq ?_
    by_cases h1 : i < (t.Feats.length : Int)
    ·have hi : i.toNat < t.Feats.length := by omega
     have hix : ((i.toNat : Nat) : Int) = i := by omega
     have hfo := okF_iff.1 (okFeats_at oka hi)
     have hbo := okF_iff.1 (okFeats_at okb (show i.toNat < t.Base.length by omega))
     have hfl : fs.length = i.toNat := by rw [hfs, adpN_len]
     refine x_r [(6, .dec true)] [0, 1, 3, 8, 9, 10, 11, 46] [8, 10, 802] [.ptr false [Sv t.Label, slFeat false t.Base, slFeat false t.Feats, I t.Count], slFeat false sample, I share, .ref 8 0, slPair true v_1, .ref 10 0, I i, Bv true] [some (.box [Sv (⟨#[]⟩ : ByteArray), nilA, nilA, I 0]), some (.box [Sv t.Label, slFeat true t.Base, .arr 802, I (t.Count + 1)]), some (.arr 3 fs.length (fFeat fs))] [i < (t.Feats.length : Int)] ⟨h1, trivial⟩ ?_
     refine xe_then ?_
     refine x_true rfl ?_
     refine x_skip ?_
     refine xe_then ?_
     refine x_seq ?_
     refine x_block ?_
     refine xR [(0, .new 49)] [0, 1, 3, 8, 9, 10, 11, 12] [8, 10, 49, 802] [.ptr false [Sv t.Label, slFeat false t.Base, slFeat false t.Feats, I t.Count], slFeat false sample, I share, .ref 8 0, slPair true v_1, .ref 10 0, I i, .arr 49] [some (.box [Sv (⟨#[]⟩ : ByteArray), nilA, nilA, I 0]), some (.box [Sv t.Label, slFeat true t.Base, .arr 802, I (t.Count + 1)]), some (.arr 1 0 (litF [] 1)), some (.arr 3 fs.length (fFeat fs))] [] trivial ?_
     refine xR [(0, .new 50)] [0, 1, 3, 8, 9, 10, 11, 12, 13] [8, 10, 49, 50, 802] [.ptr false [Sv t.Label, slFeat false t.Base, slFeat false t.Feats, I t.Count], slFeat false sample, I share, .ref 8 0, slPair true v_1, .ref 10 0, I i, .arr 49, .arr 50] [some (.box [Sv (⟨#[]⟩ : ByteArray), nilA, nilA, I 0]), some (.box [Sv t.Label, slFeat true t.Base, .arr 802, I (t.Count + 1)]), some (.arr 1 0 (litF [] 1)), some (.arr 1 0 (litF [] 1)), some (.arr 3 fs.length (fFeat fs))] [] trivial ?_
     refine x_seq ?_
     refine xR [] [0, 1, 3, 8, 9, 10, 11, 12, 13, 14] [8, 10, 49, 50, 802] [.ptr false [Sv t.Label, slFeat false t.Base, slFeat false t.Feats, I t.Count], slFeat false sample, I share, .ref 8 0, slPair true v_1, .ref 10 0, I i, .arr 49, .arr 50, I 0] [some (.box [Sv (⟨#[]⟩ : ByteArray), nilA, nilA, I 0]), some (.box [Sv t.Label, slFeat true t.Base, .arr 802, I (t.Count + 1)]), some (.arr 1 0 (litF [] 1)), some (.arr 1 0 (litF [] 1)), some (.arr 3 fs.length (fFeat fs))] [] trivial ?_
     refine x_block ?_
     refine x_weak [] (T := [(0, .ptr false [Sv t.Label, slFeat false t.Base, slFeat false t.Feats, I t.Count]), (1, slFeat false sample), (3, I share), (8, .ref 8 0), (9, slPair true v_1), (10, .ref 10 0), (11, I i), (12, .arr 49), (13, .arr 50), (14, I 0)]) (O := [(8, .box [Sv (⟨#[]⟩ : ByteArray), nilA, nilA, I 0]), (10, .box [Sv t.Label, slFeat true t.Base, .arr 802, I (t.Count + 1)]), (49, .arr 1 (([] : List Int).length) (fI ([] : List Int))), (50, .arr 1 (([] : List Int).length) (fI ([] : List Int))), (802, .arr 3 fs.length (fFeat fs))]) rfl (⟨.inl rfl, .inl rfl, .inl rfl, .inl rfl, .inl rfl, .inl rfl, .inl rfl, .inl rfl, .inl rfl, .inl rfl, trivial⟩) (⟨.inl rfl, .inl rfl, .inr ⟨rfl, (by first | rfl | (simp; done) | (simp; omega) | omega), fun i_ hi_ => absurd hi_ (Nat.not_lt_zero _)⟩, .inr ⟨rfl, (by first | rfl | (simp; done) | (simp; omega) | omega), fun i_ hi_ => absurd hi_ (Nat.not_lt_zero _)⟩, .inl rfl, trivial⟩) ?_
     refine x_loop (X := (List Int) × (List Int) × Int) (fun x => mkS [(0, .ptr false [Sv t.Label, slFeat false t.Base, slFeat false t.Feats, I t.Count]), (1, slFeat false sample), (3, I share), (8, .ref 8 0), (9, slPair true v_1), (10, .ref 10 0), (11, I i), (12, .arr 49), (13, .arr 50), (14, I x.2.2)] [(8, .box [Sv (⟨#[]⟩ : ByteArray), nilA, nilA, I 0]), (10, .box [Sv t.Label, slFeat true t.Base, .arr 802, I (t.Count + 1)]), (49, .arr 1 x.1.length (fI x.1)), (50, .arr 1 x.2.1.length (fI x.2.1)), (802, .arr 3 fs.length (fFeat fs))]) (fun x => (0 ≤ x.2.2 ∧ x.2.2 ≤ (v_1.length : Int)) ∧ (x.1 = xsF Feat.X (v_1.take x.2.2.toNat) sample i) ∧ (x.2.1 = xsF Feat.Y (v_1.take x.2.2.toNat) sample i) ∧ True) (fun x => ((v_1.length : Int) - x.2.2).toNat) (([] : List Int), ([] : List Int), 0) rfl (show (0 ≤ (0 : Int) ∧ (0 : Int) ≤ (v_1.length : Int)) ∧ (([] : List Int) = xsF Feat.X (v_1.take (0 : Int).toNat) sample i) ∧ (([] : List Int) = xsF Feat.Y (v_1.take (0 : Int).toNat) sample i) ∧ True from ⟨(by omega), (by rfl), (by rfl), trivial⟩) (fun x hI => ?_)
     obtain ⟨xs, ys, p⟩ := x
     obtain ⟨hp0, hx0, hy0, _⟩ : (0 ≤ p ∧ p ≤ (v_1.length : Int)) ∧ (xs = xsF Feat.X (v_1.take p.toNat) sample i) ∧ (ys = xsF Feat.Y (v_1.take p.toNat) sample i) ∧ True := hI
     show XW _ _ _ _ (mkS [(0, .ptr false [Sv t.Label, slFeat false t.Base, slFeat false t.Feats, I t.Count]), (1, slFeat false sample), (3, I share), (8, .ref 8 0), (9, slPair true v_1), (10, .ref 10 0), (11, I i), (12, .arr 49), (13, .arr 50), (14, I p)] [(8, .box [Sv (⟨#[]⟩ : ByteArray), nilA, nilA, I 0]), (10, .box [Sv t.Label, slFeat true t.Base, .arr 802, I (t.Count + 1)]), (49, .arr 1 xs.length (fI xs)), (50, .arr 1 ys.length (fI ys)), (802, .arr 3 fs.length (fFeat fs))]) _ _
     refine x_seq ?_
     refine x_seq ?_
     by_cases h2 : p < (v_1.length : Int)
     ·have hp : p.toNat < v_1.length := by omega
      have hpp := hpa p.toNat hp
      have hxl := xsF_le Feat.X (v_1.take p.toNat) sample i
      have hyl := xsF_le Feat.Y (v_1.take p.toNat) sample i
      rw [← hx0, List.length_take] at hxl
      rw [← hy0, List.length_take] at hyl
      have hs1 := okF_iff.1 (okFeats_at oks (show (at_ v_1 p.toNat).J.toNat < sample.length by omega))
      refine x_r [(3, .dec true)] [0, 1, 3, 8, 9, 10, 11, 12, 13, 14, 54] [8, 10, 49, 50, 802] [.ptr false [Sv t.Label, slFeat false t.Base, slFeat false t.Feats, I t.Count], slFeat false sample, I share, .ref 8 0, slPair true v_1, .ref 10 0, I i, .arr 49, .arr 50, I p, Bv true] [some (.box [Sv (⟨#[]⟩ : ByteArray), nilA, nilA, I 0]), some (.box [Sv t.Label, slFeat true t.Base, .arr 802, I (t.Count + 1)]), some (.arr 1 xs.length (fI xs)), some (.arr 1 ys.length (fI ys)), some (.arr 3 fs.length (fFeat fs))] [p < (v_1.length : Int)] ⟨h2, trivial⟩ ?_
      refine xe_then ?_
      refine x_true rfl ?_
      refine x_skip ?_
      refine xe_then ?_
      refine x_seq ?_
      refine x_block ?_
      refine x_seq ?_
      by_cases h3 : ((at_ v_1 p.toNat).I) = i
      ·refine x_r [(6, .dec true)] [0, 1, 3, 8, 9, 10, 11, 12, 13, 14, 63] [8, 10, 49, 50, 802] [.ptr false [Sv t.Label, slFeat false t.Base, slFeat false t.Feats, I t.Count], slFeat false sample, I share, .ref 8 0, slPair true v_1, .ref 10 0, I i, .arr 49, .arr 50, I p, Bv true] [some (.box [Sv (⟨#[]⟩ : ByteArray), nilA, nilA, I 0]), some (.box [Sv t.Label, slFeat true t.Base, .arr 802, I (t.Count + 1)]), some (.arr 1 xs.length (fI xs)), some (.arr 1 ys.length (fI ys)), some (.arr 3 fs.length (fFeat fs))] [(0 : Int) ≤ p ∧ p < (v_1.length : Int), ((at_ v_1 p.toNat).I) = i] ⟨⟨(by omega), (by omega)⟩, h3, trivial⟩ ?_
       refine xe_then ?_
       refine x_true rfl ?_
       refine xR [(10, .new 74), (11, .new 75)] [0, 1, 3, 8, 9, 10, 11, 12, 13, 14] [8, 10, 50, 75, 802] [.ptr false [Sv t.Label, slFeat false t.Base, slFeat false t.Feats, I t.Count], slFeat false sample, I share, .ref 8 0, slPair true v_1, .ref 10 0, I i, .arr 75, .arr 50, I p] [some (.box [Sv (⟨#[]⟩ : ByteArray), nilA, nilA, I 0]), some (.box [Sv t.Label, slFeat true t.Base, .arr 802, I (t.Count + 1)]), some (.arr 1 ys.length (fI ys)), some (.arr 1 (xs.length + 1) (catF xs.length (fI xs) (litF [I ((at_ sample (((at_ v_1 p.toNat).J).toNat)).X)] 1))), some (.arr 3 fs.length (fFeat fs))] [(0 : Int) ≤ p ∧ p < (v_1.length : Int), (0 : Int) ≤ ((at_ v_1 p.toNat).J) ∧ ((at_ v_1 p.toNat).J) < (sample.length : Int), (xs.length + 1) * 8 ≤ 140737488355328] ⟨⟨(by omega), (by omega)⟩, ⟨(by omega), (by omega)⟩, (by omega), trivial⟩ ?_
       refine x_r [(10, .new 86), (11, .new 87)] [0, 1, 3, 8, 9, 10, 11, 12, 13, 14] [8, 10, 75, 87, 802] [.ptr false [Sv t.Label, slFeat false t.Base, slFeat false t.Feats, I t.Count], slFeat false sample, I share, .ref 8 0, slPair true v_1, .ref 10 0, I i, .arr 75, .arr 87, I p] [some (.box [Sv (⟨#[]⟩ : ByteArray), nilA, nilA, I 0]), some (.box [Sv t.Label, slFeat true t.Base, .arr 802, I (t.Count + 1)]), some (.arr 1 (xs.length + 1) (catF xs.length (fI xs) (litF [I ((at_ sample (((at_ v_1 p.toNat).J).toNat)).X)] 1))), some (.arr 1 (ys.length + 1) (catF ys.length (fI ys) (litF [I ((at_ sample (((at_ v_1 p.toNat).J).toNat)).Y)] 1))), some (.arr 3 fs.length (fFeat fs))] [(0 : Int) ≤ p ∧ p < (v_1.length : Int), (0 : Int) ≤ ((at_ v_1 p.toNat).J) ∧ ((at_ v_1 p.toNat).J) < (sample.length : Int), (ys.length + 1) * 8 ≤ 140737488355328] ⟨⟨(by omega), (by omega)⟩, ⟨(by omega), (by omega)⟩, (by omega), trivial⟩ ?_
       refine xe_block 3 ?_
       refine xe_then ?_
       refine x_r [] [0, 1, 3, 8, 9, 10, 11, 12, 13, 14] [8, 10, 75, 87, 802] [.ptr false [Sv t.Label, slFeat false t.Base, slFeat false t.Feats, I t.Count], slFeat false sample, I share, .ref 8 0, slPair true v_1, .ref 10 0, I i, .arr 75, .arr 87, I (p + 1)] [some (.box [Sv (⟨#[]⟩ : ByteArray), nilA, nilA, I 0]), some (.box [Sv t.Label, slFeat true t.Base, .arr 802, I (t.Count + 1)]), some (.arr 1 (xs.length + 1) (catF xs.length (fI xs) (litF [I ((at_ sample (((at_ v_1 p.toNat).J).toNat)).X)] 1))), some (.arr 1 (ys.length + 1) (catF ys.length (fI ys) (litF [I ((at_ sample (((at_ v_1 p.toNat).J).toNat)).Y)] 1))), some (.arr 3 fs.length (fFeat fs))] [inR .i64 (p + 1)] ⟨(inR_i64 (by omega) (by omega)), trivial⟩ ?_
       refine xe_weak [(49, 75), (50, 87)] (T := [(0, .ptr false [Sv t.Label, slFeat false t.Base, slFeat false t.Feats, I t.Count]), (1, slFeat false sample), (3, I share), (8, .ref 8 0), (9, slPair true v_1), (10, .ref 10 0), (11, I i), (12, .arr 49), (13, .arr 50), (14, I (p + 1))]) (O := [(8, .box [Sv (⟨#[]⟩ : ByteArray), nilA, nilA, I 0]), (10, .box [Sv t.Label, slFeat true t.Base, .arr 802, I (t.Count + 1)]), (49, .arr 1 ((xs ++ [(at_ sample (((at_ v_1 p.toNat).J).toNat)).X]).length) (fI (xs ++ [(at_ sample (((at_ v_1 p.toNat).J).toNat)).X]))), (50, .arr 1 ((ys ++ [(at_ sample (((at_ v_1 p.toNat).J).toNat)).Y]).length) (fI (ys ++ [(at_ sample (((at_ v_1 p.toNat).J).toNat)).Y]))), (802, .arr 3 fs.length (fFeat fs))]) rfl (⟨.inl rfl, .inl rfl, .inl rfl, .inl rfl, .inl rfl, .inl rfl, .inl rfl, .inl rfl, .inl rfl, .inl rfl, trivial⟩) (⟨.inl rfl, .inl rfl, .inr ⟨rfl, (by first | rfl | (simp; done) | (simp; omega) | omega), fun i_ hi_ => .inl (cat_snoc (enc := cI) (xs := xs) rfl i_ hi_)⟩, .inr ⟨rfl, (by first | rfl | (simp; done) | (simp; omega) | omega), fun i_ hi_ => .inl (cat_snoc (enc := cI) (xs := ys) rfl i_ hi_)⟩, .inl rfl, trivial⟩) (xe_again ((xs ++ [(at_ sample (((at_ v_1 p.toNat).J).toNat)).X]), (ys ++ [(at_ sample (((at_ v_1 p.toNat).J).toNat)).Y]), (p + 1)) rfl (show (0 ≤ (p + 1) ∧ (p + 1) ≤ (v_1.length : Int)) ∧ ((xs ++ [(at_ sample (((at_ v_1 p.toNat).J).toNat)).X]) = xsF Feat.X (v_1.take (p + 1).toNat) sample i) ∧ ((ys ++ [(at_ sample (((at_ v_1 p.toNat).J).toNat)).Y]) = xsF Feat.Y (v_1.take (p + 1).toNat) sample i) ∧ True from ⟨(by omega), (by rw [show (p + 1).toNat = p.toNat + 1 from by omega]; first | (rw [xsF_yes hp (by assumption), ← hx0]; done) | (rw [xsF_no hp (by assumption)]; exact hx0)), (by rw [show (p + 1).toNat = p.toNat + 1 from by omega]; first | (rw [xsF_yes hp (by assumption), ← hy0]; done) | (rw [xsF_no hp (by assumption)]; exact hy0)), trivial⟩) (by first | (show (((v_1.length : Int) - (p + 1)).toNat : Nat) < ((v_1.length : Int) - p).toNat; omega) | (dsimp only; omega)))
      refine x_r [(6, .dec false)] [0, 1, 3, 8, 9, 10, 11, 12, 13, 14, 63] [8, 10, 49, 50, 802] [.ptr false [Sv t.Label, slFeat false t.Base, slFeat false t.Feats, I t.Count], slFeat false sample, I share, .ref 8 0, slPair true v_1, .ref 10 0, I i, .arr 49, .arr 50, I p, Bv false] [some (.box [Sv (⟨#[]⟩ : ByteArray), nilA, nilA, I 0]), some (.box [Sv t.Label, slFeat true t.Base, .arr 802, I (t.Count + 1)]), some (.arr 1 xs.length (fI xs)), some (.arr 1 ys.length (fI ys)), some (.arr 3 fs.length (fFeat fs))] [(0 : Int) ≤ p ∧ p < (v_1.length : Int), ¬ (((at_ v_1 p.toNat).I) = i)] ⟨⟨(by omega), (by omega)⟩, h3, trivial⟩ ?_
      refine xe_then ?_
      refine x_false rfl ?_
      refine x_skip ?_
      refine xe_block 3 ?_
      refine xe_then ?_
      refine x_r [] [0, 1, 3, 8, 9, 10, 11, 12, 13, 14] [8, 10, 49, 50, 802] [.ptr false [Sv t.Label, slFeat false t.Base, slFeat false t.Feats, I t.Count], slFeat false sample, I share, .ref 8 0, slPair true v_1, .ref 10 0, I i, .arr 49, .arr 50, I (p + 1)] [some (.box [Sv (⟨#[]⟩ : ByteArray), nilA, nilA, I 0]), some (.box [Sv t.Label, slFeat true t.Base, .arr 802, I (t.Count + 1)]), some (.arr 1 xs.length (fI xs)), some (.arr 1 ys.length (fI ys)), some (.arr 3 fs.length (fFeat fs))] [inR .i64 (p + 1)] ⟨(inR_i64 (by omega) (by omega)), trivial⟩ ?_
      exact xe_again (xs, ys, (p + 1)) rfl (show (0 ≤ (p + 1) ∧ (p + 1) ≤ (v_1.length : Int)) ∧ (xs = xsF Feat.X (v_1.take (p + 1).toNat) sample i) ∧ (ys = xsF Feat.Y (v_1.take (p + 1).toNat) sample i) ∧ True from ⟨(by omega), (by rw [show (p + 1).toNat = p.toNat + 1 from by omega]; first | (rw [xsF_yes hp (by assumption), ← hx0]; done) | (rw [xsF_no hp (by assumption)]; exact hx0)), (by rw [show (p + 1).toNat = p.toNat + 1 from by omega]; first | (rw [xsF_yes hp (by assumption), ← hy0]; done) | (rw [xsF_no hp (by assumption)]; exact hy0)), trivial⟩) (by first | (show (((v_1.length : Int) - (p + 1)).toNat : Nat) < ((v_1.length : Int) - p).toNat; omega) | (dsimp only; omega))
     have hpe : p.toNat = v_1.length := by omega
     have hxe : xs = xsF Feat.X v_1 sample i := by rw [hx0, hpe, List.take_of_length_le (Nat.le_refl _)]
     have hye : ys = xsF Feat.Y v_1 sample i := by rw [hy0, hpe, List.take_of_length_le (Nat.le_refl _)]
     have hxq := hxp Feat.X i.toNat hi
     have hyq := hxp Feat.Y i.toNat hi
     rw [hix, ← hxe] at hxq
     rw [hix, ← hye] at hyq
     refine x_r [(3, .dec false)] [0, 1, 3, 8, 9, 10, 11, 12, 13, 14, 54] [8, 10, 49, 50, 802] [.ptr false [Sv t.Label, slFeat false t.Base, slFeat false t.Feats, I t.Count], slFeat false sample, I share, .ref 8 0, slPair true v_1, .ref 10 0, I i, .arr 49, .arr 50, I p, Bv false] [some (.box [Sv (⟨#[]⟩ : ByteArray), nilA, nilA, I 0]), some (.box [Sv t.Label, slFeat true t.Base, .arr 802, I (t.Count + 1)]), some (.arr 1 xs.length (fI xs)), some (.arr 1 ys.length (fI ys)), some (.arr 3 fs.length (fFeat fs))] [¬ (p < (v_1.length : Int))] ⟨h2, trivial⟩ ?_
     refine xe_then ?_
     refine x_false rfl ?_
     refine x_exit ?_
     refine xe_exit_then ?_
     refine xe_loop_exit ?_
     refine xe_exit_same ?_
     refine xe_then ?_
     refine xR [(7, .new 15)] [0, 1, 3, 8, 9, 10, 11, 12, 13, 15] [8, 10, 15, 49, 50, 802] [.ptr false [Sv t.Label, slFeat false t.Base, slFeat false t.Feats, I t.Count], slFeat false sample, I share, .ref 8 0, slPair true v_1, .ref 10 0, I i, .arr 49, .arr 50, .ref 15 0] [some (.box [Sv (⟨#[]⟩ : ByteArray), nilA, nilA, I 0]), some (.box [Sv t.Label, slFeat true t.Base, .arr 802, I (t.Count + 1)]), some (bxFeat (at_ t.Feats i.toNat)), some (.arr 1 xs.length (fI xs)), some (.arr 1 ys.length (fI ys)), some (.arr 3 fs.length (fFeat fs))] [(0 : Int) ≤ i ∧ i < (t.Feats.length : Int)] ⟨⟨(by omega), (by omega)⟩, trivial⟩ ?_
     refine x_seq ?_
     obtain ⟨v_2, hx2_0, hc2⟩ := l24Median_ok xs (by omega)
     have hMX : medI (xsF Feat.X v_1 sample i) = v_2 := by rw [← hxe]; exact hx2_0.symm
     have hmX2 : 0 ≤ v_2 ∧ v_2 ≤ 255 := by have q := hmX i.toNat hi; rw [hix, ← hxe] at q; rw [hx2_0]; exact q
     refine x_r [(11, .call [(false, slI false xs)] true (I v_2)), (13, .call [(true, .any), (true, .any), (true, .any), (true, .any)] true (I (towI ((at_ t.Feats i.toNat).X) v_2 ((at_ t.Base i.toNat).X) share)))] [0, 1, 3, 8, 9, 10, 11, 13, 15, 16] [8, 10, 15, 50, 802] [.ptr false [Sv t.Label, slFeat false t.Base, slFeat false t.Feats, I t.Count], slFeat false sample, I share, .ref 8 0, slPair true v_1, .ref 10 0, I i, .arr 50, .ref 15 0, I (towI ((at_ t.Feats i.toNat).X) v_2 ((at_ t.Base i.toNat).X) share)] [some (.box [Sv (⟨#[]⟩ : ByteArray), nilA, nilA, I 0]), some (.box [Sv t.Label, slFeat true t.Base, .arr 802, I (t.Count + 1)]), some (bxFeat (at_ t.Feats i.toNat)), some (.arr 1 ys.length (fI ys)), some (.arr 3 fs.length (fFeat fs))] [(0 : Int) ≤ i ∧ i < (t.Base.length : Int), Con Tryz.prog 89 [slI false xs] true (I v_2) ∧ ((false = true → true = true) ∧ 1 = 1 ∧ xs.length = xs.length ∧ ∀ i_, i_ < xs.length → (fI xs) i_ = (fI xs) i_ ∨ (AV.idsL ((fI xs) i_) = [] ∧ leL (fun _ => none) false ((fI xs) i_) ((fI xs) i_))) ∧ True, Con Tryz.prog 88 [I ((at_ t.Feats i.toNat).X), I ((at_ t.Base i.toNat).X), I v_2, I share] true (I (towI ((at_ t.Feats i.toNat).X) v_2 ((at_ t.Base i.toNat).X) share)) ∧ True] ⟨⟨(by omega), (by omega)⟩, ⟨hc2, ⟨(fun h => by cases h), rfl, rfl, fun i _ => .inl rfl⟩, trivial⟩, ⟨(l24Move_ok ((at_ t.Feats i.toNat).X) ((at_ t.Base i.toNat).X) v_2 share (by omega) (by omega) (by omega) (by omega)), trivial⟩, trivial⟩ ?_
     refine xe_then ?_
     refine x_seq ?_
     obtain ⟨v_3, hx3_0, hc3⟩ := l24Median_ok ys (by omega)
     have hMY : medI (xsF Feat.Y v_1 sample i) = v_3 := by rw [← hye]; exact hx3_0.symm
     have hmY2 : 0 ≤ v_3 ∧ v_3 ≤ 255 := by have q := hmY i.toNat hi; rw [hix, ← hye] at q; rw [hx3_0]; exact q
     refine x_r [(11, .call [(false, slI false ys)] true (I v_3)), (13, .call [(true, .any), (true, .any), (true, .any), (true, .any)] true (I (towI ((at_ t.Feats i.toNat).Y) v_3 ((at_ t.Base i.toNat).Y) share)))] [0, 1, 3, 8, 9, 10, 11, 15, 16, 17] [8, 10, 15, 802] [.ptr false [Sv t.Label, slFeat false t.Base, slFeat false t.Feats, I t.Count], slFeat false sample, I share, .ref 8 0, slPair true v_1, .ref 10 0, I i, .ref 15 0, I (towI ((at_ t.Feats i.toNat).X) v_2 ((at_ t.Base i.toNat).X) share), I (towI ((at_ t.Feats i.toNat).Y) v_3 ((at_ t.Base i.toNat).Y) share)] [some (.box [Sv (⟨#[]⟩ : ByteArray), nilA, nilA, I 0]), some (.box [Sv t.Label, slFeat true t.Base, .arr 802, I (t.Count + 1)]), some (bxFeat (at_ t.Feats i.toNat)), some (.arr 3 fs.length (fFeat fs))] [(0 : Int) ≤ i ∧ i < (t.Base.length : Int), Con Tryz.prog 89 [slI false ys] true (I v_3) ∧ ((false = true → true = true) ∧ 1 = 1 ∧ ys.length = ys.length ∧ ∀ i_, i_ < ys.length → (fI ys) i_ = (fI ys) i_ ∨ (AV.idsL ((fI ys) i_) = [] ∧ leL (fun _ => none) false ((fI ys) i_) ((fI ys) i_))) ∧ True, Con Tryz.prog 88 [I ((at_ t.Feats i.toNat).Y), I ((at_ t.Base i.toNat).Y), I v_3, I share] true (I (towI ((at_ t.Feats i.toNat).Y) v_3 ((at_ t.Base i.toNat).Y) share)) ∧ True] ⟨⟨(by omega), (by omega)⟩, ⟨hc3, ⟨(fun h => by cases h), rfl, rfl, fun i _ => .inl rfl⟩, trivial⟩, ⟨(l24Move_ok ((at_ t.Feats i.toNat).Y) ((at_ t.Base i.toNat).Y) v_3 share (by omega) (by omega) (by omega) (by omega)), trivial⟩, trivial⟩ ?_
     refine xe_then ?_
     refine x_r [(7, .new 130), (8, .new 131)] [0, 1, 3, 8, 9, 10, 11] [8, 10, 131] [.ptr false [Sv t.Label, slFeat false t.Base, slFeat false t.Feats, I t.Count], slFeat false sample, I share, .ref 8 0, slPair true v_1, .ref 10 0, I i] [some (.box [Sv (⟨#[]⟩ : ByteArray), nilA, nilA, I 0]), some (.box [Sv t.Label, slFeat true t.Base, .arr 131, I (t.Count + 1)]), some (.arr 3 (fs.length + 1) (catF fs.length (fFeat fs) (litF [I (towI ((at_ t.Feats i.toNat).X) v_2 ((at_ t.Base i.toNat).X) share), I (towI ((at_ t.Feats i.toNat).Y) v_3 ((at_ t.Base i.toNat).Y) share), I ((at_ t.Feats i.toNat).D)] 3)))] [(fs.length + 1) * 24 ≤ 140737488355328] ⟨(by omega), trivial⟩ ?_
     refine xe_block 1 ?_
     refine xe_then ?_
     refine x_r [] [0, 1, 3, 8, 9, 10, 11] [8, 10, 131] [.ptr false [Sv t.Label, slFeat false t.Base, slFeat false t.Feats, I t.Count], slFeat false sample, I share, .ref 8 0, slPair true v_1, .ref 10 0, I (i + 1)] [some (.box [Sv (⟨#[]⟩ : ByteArray), nilA, nilA, I 0]), some (.box [Sv t.Label, slFeat true t.Base, .arr 131, I (t.Count + 1)]), some (.arr 3 (fs.length + 1) (catF fs.length (fFeat fs) (litF [I (towI ((at_ t.Feats i.toNat).X) v_2 ((at_ t.Base i.toNat).X) share), I (towI ((at_ t.Feats i.toNat).Y) v_3 ((at_ t.Base i.toNat).Y) share), I ((at_ t.Feats i.toNat).D)] 3)))] [inR .i64 (i + 1)] ⟨(inR_i64 (by omega) (by omega)), trivial⟩ ?_
     refine xe_weak [(802, 131)] (T := [(0, .ptr false [Sv t.Label, slFeat false t.Base, slFeat false t.Feats, I t.Count]), (1, slFeat false sample), (3, I share), (8, .ref 8 0), (9, slPair true v_1), (10, .ref 10 0), (11, I (i + 1))]) (O := [(8, .box [Sv (⟨#[]⟩ : ByteArray), nilA, nilA, I 0]), (10, .box [Sv t.Label, slFeat true t.Base, .arr 802, I (t.Count + 1)]), (802, .arr 3 ((fs ++ [(Feat.mk (towI ((at_ t.Feats i.toNat).X) v_2 ((at_ t.Base i.toNat).X) share) (towI ((at_ t.Feats i.toNat).Y) v_3 ((at_ t.Base i.toNat).Y) share) ((at_ t.Feats i.toNat).D))]).length) (fFeat (fs ++ [(Feat.mk (towI ((at_ t.Feats i.toNat).X) v_2 ((at_ t.Base i.toNat).X) share) (towI ((at_ t.Feats i.toNat).Y) v_3 ((at_ t.Base i.toNat).Y) share) ((at_ t.Feats i.toNat).D))])))]) rfl (⟨.inl rfl, .inl rfl, .inl rfl, .inl rfl, .inl rfl, .inl rfl, .inl rfl, trivial⟩) (⟨.inl rfl, .inl rfl, .inr ⟨rfl, (by first | rfl | (simp; done) | (simp; omega) | omega), fun i_ hi_ => .inl (cat_snoc (enc := cFeat) (xs := fs) rfl i_ hi_)⟩, trivial⟩) (xe_again ((i + 1), (fs ++ [(Feat.mk (towI ((at_ t.Feats i.toNat).X) v_2 ((at_ t.Base i.toNat).X) share) (towI ((at_ t.Feats i.toNat).Y) v_3 ((at_ t.Base i.toNat).Y) share) ((at_ t.Feats i.toNat).D))])) rfl (show (0 ≤ (i + 1) ∧ (i + 1) ≤ (t.Feats.length : Int)) ∧ ((fs ++ [(Feat.mk (towI ((at_ t.Feats i.toNat).X) v_2 ((at_ t.Base i.toNat).X) share) (towI ((at_ t.Feats i.toNat).Y) v_3 ((at_ t.Base i.toNat).Y) share) ((at_ t.Feats i.toNat).D))]) = adpN t sample band share (i + 1).toNat) ∧ True from ⟨(by omega), (by (rw [show (i + 1).toNat = i.toNat + 1 from by omega, hfs]; exact adpN_succ (by rw [had, hix, hMX, hMY]))), trivial⟩) (by first | (show (((t.Feats.length : Int) - (i + 1)).toNat : Nat) < ((t.Feats.length : Int) - i).toNat; omega) | (dsimp only; omega)))
    have hie : i.toNat = t.Feats.length := by omega
    refine x_r [(6, .dec false)] [0, 1, 3, 8, 9, 10, 11, 46] [8, 10, 802] [.ptr false [Sv t.Label, slFeat false t.Base, slFeat false t.Feats, I t.Count], slFeat false sample, I share, .ref 8 0, slPair true v_1, .ref 10 0, I i, Bv false] [some (.box [Sv (⟨#[]⟩ : ByteArray), nilA, nilA, I 0]), some (.box [Sv t.Label, slFeat true t.Base, .arr 802, I (t.Count + 1)]), some (.arr 3 fs.length (fFeat fs))] [¬ (i < (t.Feats.length : Int))] ⟨h1, trivial⟩ ?_
    refine xe_then ?_
    refine x_false rfl ?_
    refine x_exit ?_
    refine xe_exit_then ?_
    refine xe_loop_exit ?_
    refine xe_exit_same ?_
    refine xe_then ?_
    refine xR [] [8] [8, 802] [.ref 8 0] [some (.box [Sv t.Label, slFeat true t.Base, .arr 802, I (t.Count + 1)]), some (.arr 3 fs.length (fFeat fs))] [] trivial ?_
    refine x_ret ?_
    refine xe_end (Trained.mk t.Label t.Base fs (t.Count + 1)) (show ((Trained.mk t.Label t.Base fs (t.Count + 1)) = adpT t sample band share) ∧ (True) from ⟨(by (unfold adpT; rw [hfs, hie])), trivial⟩) (trivial) (.agg [Sv t.Label, slFeat true t.Base, .arr 802, I (t.Count + 1)]) (by kernel_rfl) (.inr ⟨rfl, ⟨⟨(fun _ => rfl), rfl, rfl, fun i _ => .inl rfl⟩, ⟨⟨(fun _ => rfl), rfl, rfl, fun i _ => .inl rfl⟩, ⟨rfl, rfl⟩⟩⟩⟩) (fun _ => rfl) (fun _ => (by simp [tagged, taggedL, tagFeat]))
  obtain ⟨v, ⟨hh0, _⟩, hc⟩ := hh
  exact ⟨v, hh0, hc⟩


theorem stR_len (t : Template) : (stR t).1.Base.length ≤ 72 ∧ (stR t).1.Feats.length ≤ 72 := by
  cases h : okTm t with
  | true => rw [stR_yes h]; exact ⟨okTm_len h, okTm_len h⟩
  | false => rw [stR_no h]; exact ⟨by decide, by decide⟩

/-- A table with what the first pairs of a path bring to each place. -/
def tabOk (f : Feat → Int) (V : List Pair) (s : List Feat) (k n : Nat) (tb : List (List Int)) : Prop := tb.length = n ∧ ∀ i : Nat, i < n → at_ tb i = xsF f (V.take k) s (i : Int)
theorem tab_nil (f : Feat → Int) (V : List Pair) (s : List Feat) {n m : Nat} (h : m = n) : tabOk f V s 0 n (List.replicate m []) := ⟨by simp [h], fun i hi => by subst h; simp [at_, hi, xsF]⟩
theorem tab_next {f : Feat → Int} {V : List Pair} {s : List Feat} {k n p : Nat} {tb : List (List Int)} {v : Int} (h : tabOk f V s k n tb) (hk : k < V.length) (hp : 0 ≤ (at_ V k).I ∧ (at_ V k).I < (n : Int)) (e : p = (at_ V k).I.toNat) (hv : v = f (at_ s (at_ V k).J.toNat)) :
    tabOk f V s (k + 1) n ((tb.set p []).set p (at_ tb p ++ [v])) := by
  refine ⟨by simp [h.1], fun i hi => ?_⟩
  rw [List.set_set]
  by_cases c : i = p
  · rw [c, at_set_same (by rw [h.1]; omega), h.2 p (by omega), hv]
    exact (xsF_yes hk (by omega)).symm
  · rw [at_set_oth c, h.2 i hi]
    exact (xsF_no hk (by omega)).symm
theorem tab_end {f : Feat → Int} {V : List Pair} {s : List Feat} {k n : Nat} {tb : List (List Int)} (h : tabOk f V s k n tb) (hk : k = V.length) {i : Nat} (hi : i < n) : at_ tb i = xsF f V s (i : Int) := by
  rw [h.2 i hi, hk, List.take_of_length_le (Nat.le_refl _)]
/-- The rows from k on. -/
def tabR (f : Feat → Int) (V : List Pair) (s : List Feat) (k n : Nat) (tb : List (List Int)) : Prop := tb.length = n ∧ ∀ i : Nat, k ≤ i → i < n → at_ tb i = xsF f V s (i : Int)
theorem tabR_start {f : Feat → Int} {V : List Pair} {s : List Feat} {k n : Nat} {tb : List (List Int)} (h : tabOk f V s k n tb) (hk : k = V.length) : tabR f V s 0 n tb := ⟨h.1, fun i _ hi => tab_end h hk hi⟩
theorem tabR_next {f : Feat → Int} {V : List Pair} {s : List Feat} {k n : Nat} {tb : List (List Int)} {ys : List Int} (h : tabR f V s k n tb) : tabR f V s (k + 1) n ((tb.set k []).set k ys) := by
  refine ⟨by simp [h.1], fun i hk hi => ?_⟩
  rw [List.set_set, at_set_oth (by omega)]
  exact h.2 i (by omega) hi
theorem tab_row {f : Feat → Int} {V : List Pair} {s : List Feat} {k n : Nat} {tb : List (List Int)} (h : tabOk f V s k n tb) {i : Nat} (hi : i < n) : (at_ tb i).length ≤ V.length := by
  rw [h.2 i hi]
  refine Nat.le_trans (xsF_le _ _ _ _) ?_
  rw [List.length_take]; omega

def rsR (t : Trained) : Trained × Int := if okTrained' t = true then (⟨t.Label, t.Base, t.Base, 0⟩, 0) else (⟨⟨#[]⟩, [], [], 0⟩, 1)
theorem rsR_yes {t : Trained} (h : okTrained' t = true) : rsR t = (⟨t.Label, t.Base, t.Base, 0⟩, 0) := if_pos h
theorem rsR_no {t : Trained} (h : okTrained' t = false) : rsR t = (⟨⟨#[]⟩, [], [], 0⟩, 1) := by simp [rsR, h]
theorem okTr_len {t : Trained} (h : okTrained' t = true) : t.Base.length ≤ 72 := by
  simp only [okTrained', okFeats, Bool.and_eq_true, decide_eq_true_eq] at h
  omega
theorem rsR_len (t : Trained) : (rsR t).1.Base.length ≤ 72 ∧ (rsR t).1.Feats.length ≤ 72 := by
  cases h : okTrained' t with
  | true => rw [rsR_yes h]; have := okTr_len h; exact ⟨this, this⟩
  | false => rw [rsR_no h]; exact ⟨by decide, by decide⟩

def zT : Trained := ⟨⟨#[]⟩, [], [], 0⟩
def adR (t : Trained) (s : List Feat) (band share : Int) : Trained × Int :=
  if okTrained' t = true ∧ okFeats s 72 = true then
    if inB share 0 100 = true ∧ (inB band 0 72 && decide ((((t.Feats.length : Int) - (s.length : Int)).natAbs : Int) ≤ band)) = true then
      if 100 ≤ t.Count then (zT, 5) else (adpT t s band share, 0)
    else (zT, 2)
  else (zT, 1)
theorem band_of {band n m : Int} (h : (inB band 0 72 && decide (((n - m).natAbs : Int) ≤ band)) = true) (hn : 0 ≤ n) (hm : 0 ≤ m) : (0 ≤ band ∧ band ≤ 72) ∧ inBd band n.toNat m.toNat := by
  simp only [Bool.and_eq_true, decide_eq_true_eq, inB] at h
  refine ⟨h.1, ?_⟩
  unfold inBd; omega
theorem adpT_len (t : Trained) (s : List Feat) (band share : Int) : (adpT t s band share).Feats.length = t.Feats.length := adpN_len t s band share _
theorem adR_len (t : Trained) (s : List Feat) (band share : Int) : (adR t s band share).1.Base.length ≤ 72 ∧ (adR t s band share).1.Feats.length ≤ 72 := by
  unfold adR
  split
  · rename_i h
    have h1 := okTr_len h.1
    have h2 := (okTr_iff.1 h.1).2.2.2.1.1
    split
    · split
      · exact ⟨by decide, by decide⟩
      · refine ⟨h1, ?_⟩
        rw [adpT_len]; omega
    · exact ⟨by decide, by decide⟩
  · exact ⟨by decide, by decide⟩

/-- What a path costs. -/
def pcL (a b : List Feat) : List Pair → Int
  | [] => 0
  | p :: r => costF (at_ a p.I.toNat) (at_ b p.J.toNat) + pcL a b r
theorem cv_00 {a b : List Feat} {band : Int} (hb : inBd band 0 0) : cv farS a b band 0 0 = costF (at_ a 0) (at_ b 0) := by
  have hF : farS = 1000000000 := rfl
  unfold inBd at hb
  rw [cv, stp_add (by omega) (by omega)]; omega
theorem nx_cases {a b : List Feat} {band : Int} {i j : Nat} (hab : okAB a b) (hi : i < a.length) (hj : j < b.length) (hb : inBd band i j) (h0 : ¬ (i = 0 ∧ j = 0)) :
    (0 < i ∧ 0 < j ∧ nx a b band i j = (i - 1, j - 1)) ∨ (0 < i ∧ nx a b band i j = (i - 1, j)) ∨ (0 < j ∧ nx a b band i j = (i, j - 1)) := by
  have q := nx_ok hab hi hj hb h0
  obtain ⟨y, hy⟩ : ∃ y, y = nx a b band i j := ⟨_, rfl⟩
  rw [← hy] at q ⊢
  unfold nx at hy
  split at hy
  · rename_i h; subst hy; exact .inl ⟨h.1.1, h.1.2, rfl⟩
  · split at hy
    · rename_i h; subst hy; exact .inr (.inl ⟨h.1, rfl⟩)
    · subst hy; refine .inr (.inr ⟨?_, rfl⟩); dsimp only at q; omega
theorem nx_cv {a b : List Feat} {band : Int} {i j : Nat} (hab : okAB a b) (hi : i < a.length) (hj : j < b.length) (hb : inBd band i j) (h0 : ¬ (i = 0 ∧ j = 0)) :
    cv farS a b band i j = cv farS a b band (nx a b band i j).1 (nx a b band i j).2 + costF (at_ a i) (at_ b j) := by
  obtain ⟨x, e, hx, ho, _⟩ := cv_add (far := farS) (by decide) hab hi hj hb h0
  have ex : cv farS a b band i j - costF (at_ a i) (at_ b j) = x := by omega
  suffices h : cv farS a b band (nx a b band i j).1 (nx a b band i j).2 = x by omega
  unfold nx
  rw [ex]
  by_cases h1 : (0 < i ∧ 0 < j) ∧ cv farS a b band (i - 1) (j - 1) = x
  · rw [if_pos h1]; exact h1.2
  · rw [if_neg h1]
    by_cases h2 : 0 < i ∧ cv farS a b band (i - 1) j = x
    · rw [if_pos h2]; exact h2.2
    · rw [if_neg h2]
      rcases ho with g | g | g
      · exact absurd ⟨g.1, g.2.symm⟩ h1
      · exact absurd ⟨g.1, g.2.symm⟩ h2
      · exact g.2.symm
theorem bk_cost {a b : List Feat} {band : Int} (hab : okAB a b) : ∀ (s i j : Nat), i < a.length → j < b.length → inBd band i j → i + j ≤ s → cv farS a b band i j = pcL a b (bk a b band s i j)
  | 0, i, j, hi, hj, hb, hs => by
    obtain rfl : i = 0 := by omega
    obtain rfl : j = 0 := by omega
    simp [bk, pcL, cv_00 hb]
  | s + 1, i, j, hi, hj, hb, hs => by
    unfold bk
    by_cases h0 : i = 0 ∧ j = 0
    · obtain ⟨rfl, rfl⟩ := h0
      simp [pcL, cv_00 hb]
    · have n := nx_ok hab hi hj hb h0
      have l := nx_le a b band i j
      rw [if_neg h0, nx_cv hab hi hj hb h0, bk_cost hab s _ _ (by omega) (by omega) n.1 (by omega)]
      simp only [pcL, Int.toNat_natCast]
      omega
theorem bk_least {a a' b : List Feat} {band : Int} (hab : okAB a b) (hab' : okAB a' b) (hl : a'.length = a.length) : ∀ (s i j : Nat), i < a.length → j < b.length → inBd band i j → i + j ≤ s → cv farS a' b band i j ≤ pcL a' b (bk a b band s i j)
  | 0, i, j, hi, hj, hb, hs => by
    obtain rfl : i = 0 := by omega
    obtain rfl : j = 0 := by omega
    simp [bk, pcL, cv_00 hb]
  | s + 1, i, j, hi, hj, hb, hs => by
    unfold bk
    by_cases h0 : i = 0 ∧ j = 0
    · obtain ⟨rfl, rfl⟩ := h0
      simp [pcL, cv_00 hb]
    · have n := nx_ok hab hi hj hb h0
      have l := nx_le a b band i j
      have ih := bk_least hab hab' hl s _ _ (show (nx a b band i j).1 < a.length by omega) (show (nx a b band i j).2 < b.length by omega) n.1 (by omega)
      obtain ⟨x, e, _, _, h1, h2, h3⟩ := cv_add (far := farS) (by decide) hab' (by omega) hj hb h0
      rw [if_neg h0]
      simp only [pcL, Int.toNat_natCast]
      have : x ≤ cv farS a' b band (nx a b band i j).1 (nx a b band i j).2 := by
        rcases nx_cases hab hi hj hb h0 with ⟨g1, g2, g⟩ | ⟨g1, g⟩ | ⟨g1, g⟩ <;> rw [g]
        · exact h1 g1 g2
        · exact h2 g1
        · exact h3 g1
      omega
/-- A sum over a list. -/
def smL {α : Type} (f : α → Int) : List α → Int
  | [] => 0
  | x :: r => f x + smL f r
theorem smL_app {α : Type} (f : α → Int) (xs ys : List α) : smL f (xs ++ ys) = smL f xs + smL f ys := by
  induction xs with
  | nil => simp [smL]
  | cons x r ih => simp only [List.cons_append, smL, ih]; omega
theorem smL_perm {α : Type} (f : α → Int) {xs ys : List α} (h : List.Perm xs ys) : smL f xs = smL f ys := by
  induction h with
  | nil => rfl
  | cons x _ ih => simp only [smL, ih]
  | swap x y l => simp only [smL]; omega
  | trans _ _ h1 h2 => exact h1.trans h2
theorem smL_split (g : Pair → Int) (P : List Pair) (k : Int) : smL g (P.filter fun p => decide (p.I < k + 1)) = smL g (P.filter fun p => decide (p.I < k)) + smL g (P.filter fun p => decide (p.I = k)) := by
  induction P with
  | nil => rfl
  | cons p r ih =>
    simp only [List.filter_cons]
    by_cases h1 : p.I < k
    · rw [if_pos (by simpa using (show p.I < k + 1 by omega)), if_pos (by simpa using h1), if_neg (by simpa using (show ¬ p.I = k by omega))]
      simp only [smL, ih]; omega
    · by_cases h2 : p.I = k
      · rw [if_pos (by simpa using (show p.I < k + 1 by omega)), if_neg (by simpa using h1), if_pos (by simpa using h2)]
        simp only [smL, ih]; omega
      · rw [if_neg (by simpa using (show ¬ p.I < k + 1 by omega)), if_neg (by simpa using h1), if_neg (by simpa using h2)]
        exact ih
theorem smL_none (g : Pair → Int) (P : List Pair) (h : ∀ p ∈ P, 0 ≤ p.I) : smL g (P.filter fun p => decide (p.I < (0 : Int))) = 0 := by
  rw [List.filter_eq_nil_iff.2 fun p hp => by have := h p hp; simpa using this]; rfl
theorem smL_le_all {g g' : Pair → Int} {P : List Pair} (h0 : ∀ p ∈ P, 0 ≤ p.I) (n : Nat) (h : ∀ k : Nat, k < n → smL g (P.filter fun p => decide (p.I = (k : Int))) ≤ smL g' (P.filter fun p => decide (p.I = (k : Int)))) :
    smL g (P.filter fun p => decide (p.I < (n : Int))) ≤ smL g' (P.filter fun p => decide (p.I < (n : Int))) := by
  induction n with
  | zero => show smL g (P.filter fun p => decide (p.I < (0 : Int))) ≤ smL g' (P.filter fun p => decide (p.I < (0 : Int))); rw [smL_none _ _ h0, smL_none _ _ h0]; exact Int.le_refl _
  | succ n ih =>
    have e := smL_split g P (n : Int)
    have e' := smL_split g' P (n : Int)
    have q := ih fun k hk => h k (by omega)
    have q2 := h n (by omega)
    rw [show ((n + 1 : Nat) : Int) = (n : Int) + 1 from rfl, e, e']
    omega
theorem pcL_eq (a b : List Feat) (P : List Pair) : pcL a b P = smL (fun p => costF (at_ a p.I.toNat) (at_ b p.J.toNat)) P := by
  induction P with
  | nil => rfl
  | cons p r ih => simp only [pcL, smL, ih]
/-- How far numbers are from a number, all in all. -/
def devL (z : Int) (xs : List Int) : Int := smL (fun v => ((z - v).natAbs : Int)) xs
theorem devL_up {z z' : Int} {q : List Int} (h : z ≤ z') (hq : ∀ v ∈ q, z' ≤ v) : devL z' q = devL z q - (q.length : Int) * (z' - z) := by
  induction q with
  | nil => simp [devL, smL]
  | cons v r ih =>
    have hv := hq v (by simp)
    have e := ih fun w hw => hq w (by simp [hw])
    simp only [devL, smL] at e ⊢
    rw [e, List.length_cons, show ((r.length + 1 : Nat) : Int) * (z' - z) = (r.length : Int) * (z' - z) + (z' - z) from by rw [show ((r.length + 1 : Nat) : Int) = (r.length : Int) + 1 from rfl, Int.add_mul]; omega]
    omega
theorem devL_any {z z' : Int} {q : List Int} : devL z' q ≤ devL z q + (q.length : Int) * ((z' - z).natAbs : Int) := by
  induction q with
  | nil => simp [devL, smL]
  | cons v r ih =>
    simp only [devL, smL] at ih ⊢
    rw [List.length_cons, show ((r.length + 1 : Nat) : Int) * ((z' - z).natAbs : Int) = (r.length : Int) * ((z' - z).natAbs : Int) + ((z' - z).natAbs : Int) from by rw [show ((r.length + 1 : Nat) : Int) = (r.length : Int) + 1 from rfl, Int.add_mul]; omega]
    omega
theorem devL_dn {z z' : Int} {q : List Int} (h : z' ≤ z) (hq : ∀ v ∈ q, v ≤ z') : devL z' q = devL z q - (q.length : Int) * (z - z') := by
  induction q with
  | nil => simp [devL, smL]
  | cons v r ih =>
    have hv := hq v (by simp)
    have e := ih fun w hw => hq w (by simp [hw])
    simp only [devL, smL] at e ⊢
    rw [e, List.length_cons, show ((r.length + 1 : Nat) : Int) * (z - z') = (r.length : Int) * (z - z') + (z - z') from by rw [show ((r.length + 1 : Nat) : Int) = (r.length : Int) + 1 from rfl, Int.add_mul]; omega]
    omega
theorem sortL_pw' (xs : List Int) : (sortL xs).Pairwise fun x y => x ≤ y := by
  have h := List.pairwise_mergeSort (le := fun x y : Int => decide (x ≤ y)) (fun a b c h1 h2 => by simp only [decide_eq_true_eq] at *; omega) (fun a b => by simp only [Bool.or_eq_true, decide_eq_true_eq]; omega) xs
  exact h.imp fun h => by simpa using h
theorem pw_at {xs : List Int} (h : xs.Pairwise fun x y => x ≤ y) {i j : Nat} (hij : i ≤ j) (hj : j < xs.length) : at_ xs i ≤ at_ xs j := by
  rcases Nat.lt_or_eq_of_le hij with e | e
  · rw [at_eq hj, at_eq (by omega)]
    exact (List.pairwise_iff_getElem.1 h) i j (by omega) hj e
  · subst e; exact Int.le_refl _
theorem mem_drop_at {xs : List Int} {k : Nat} {v : Int} (h : v ∈ xs.drop k) : ∃ i, k ≤ i ∧ i < xs.length ∧ v = at_ xs i := by
  obtain ⟨i, hi, e⟩ := List.getElem_of_mem h
  rw [List.length_drop] at hi
  refine ⟨k + i, by omega, by omega, ?_⟩
  rw [← e, List.getElem_drop, at_eq (by omega)]
theorem mem_take_at {xs : List Int} {k : Nat} {v : Int} (h : v ∈ xs.take k) : ∃ i, i < k ∧ i < xs.length ∧ v = at_ xs i := by
  obtain ⟨i, hi, e⟩ := List.getElem_of_mem h
  rw [List.length_take] at hi
  refine ⟨i, by omega, by omega, ?_⟩
  rw [← e, List.getElem_take, at_eq (by omega)]
/-- Towards the median the distances become no greater. -/
theorem dev_med {xs : List Int} (hn : 1 ≤ xs.length) {z z' : Int} (h : (z ≤ z' ∧ z' ≤ medI xs) ∨ (z' ≤ z ∧ medI xs ≤ z')) : devL z' xs ≤ devL z xs := by
  have hp : List.Perm (sortL xs) xs := List.mergeSort_perm _ _
  have hl := sortL_len xs
  have hw := sortL_pw' xs
  unfold devL
  rw [← smL_perm _ hp, ← smL_perm (fun v => ((z - v).natAbs : Int)) hp]
  show devL z' (sortL xs) ≤ devL z (sortL xs)
  obtain ⟨ys, hy⟩ : ∃ ys, ys = sortL xs := ⟨_, rfl⟩
  unfold medI at h
  rw [← hy] at hl hw h ⊢
  obtain ⟨k, hk⟩ : ∃ k, k = (xs.length - 1) / 2 := ⟨_, rfl⟩
  rw [← hk] at h
  rcases h with ⟨h1, h2⟩ | ⟨h1, h2⟩
  · rw [← List.take_append_drop k ys]
    have q1 : devL z' (ys.drop k) = devL z (ys.drop k) - ((ys.drop k).length : Int) * (z' - z) := devL_up h1 fun v hv => by
      obtain ⟨i, h3, h4, rfl⟩ := mem_drop_at hv
      exact Int.le_trans h2 (pw_at hw h3 h4)
    have q2 := devL_any (z := z) (z' := z') (q := ys.take k)
    unfold devL at q1 q2 ⊢
    rw [smL_app, smL_app, q1]
    have e : ((z' - z).natAbs : Int) = z' - z := by omega
    rw [e] at q2
    have : ((ys.take k).length : Int) * (z' - z) ≤ ((ys.drop k).length : Int) * (z' - z) := Int.mul_le_mul_of_nonneg_right (by rw [List.length_take, List.length_drop]; omega) (by omega)
    omega
  · rw [← List.take_append_drop (k + 1) ys]
    have q1 : devL z' (ys.take (k + 1)) = devL z (ys.take (k + 1)) - ((ys.take (k + 1)).length : Int) * (z - z') := devL_dn h1 fun v hv => by
      obtain ⟨i, h3, h4, rfl⟩ := mem_take_at hv
      exact Int.le_trans (pw_at hw (show i ≤ k by omega) (by omega)) h2
    have q2 := devL_any (z := z) (z' := z') (q := ys.drop (k + 1))
    unfold devL at q1 q2 ⊢
    rw [smL_app, smL_app, q1]
    have e : ((z' - z).natAbs : Int) = z - z' := by omega
    rw [e] at q2
    have : ((ys.drop (k + 1)).length : Int) * (z - z') ≤ ((ys.take (k + 1)).length : Int) * (z - z') := Int.mul_le_mul_of_nonneg_right (by rw [List.length_take, List.length_drop]; omega) (by omega)
    omega
theorem tow_between {x m base share : Int} (hs : 0 ≤ share ∧ share ≤ 100) (hb : base - 40 ≤ x ∧ x ≤ base + 40) : (x ≤ towI x m base share ∧ towI x m base share ≤ m) ∨ (towI x m base share ≤ x ∧ m ≤ towI x m base share) := by
  unfold towI
  have hd : (0 ≤ m - x ∧ 0 ≤ Int.tdiv ((m - x) * share) 100 ∧ Int.tdiv ((m - x) * share) 100 ≤ m - x) ∨ (m - x ≤ 0 ∧ Int.tdiv ((m - x) * share) 100 ≤ 0 ∧ m - x ≤ Int.tdiv ((m - x) * share) 100) := by
    rcases Int.le_total 0 (m - x) with h | h
    · left
      have h1 := Int.mul_nonneg h hs.1
      have h2 := Int.mul_le_mul_of_nonneg_left hs.2 h
      rw [Int.tdiv_eq_ediv_of_nonneg h1]
      omega
    · right
      have h1 := Int.mul_nonneg (show 0 ≤ x - m by omega) hs.1
      have h2 := Int.mul_le_mul_of_nonneg_left hs.2 (show 0 ≤ x - m by omega)
      rw [show (m - x) * share = -((x - m) * share) from by rw [← Int.neg_mul]; congr 1; omega, Int.neg_tdiv, Int.tdiv_eq_ediv_of_nonneg h1]
      omega
  omega
theorem tow_in {x m base share : Int} (hs : 0 ≤ share ∧ share ≤ 100) (hb : base - 40 ≤ x ∧ x ≤ base + 40) (hx : 0 ≤ x ∧ x ≤ 255) (hm : 0 ≤ m ∧ m ≤ 255) : (0 ≤ towI x m base share ∧ towI x m base share ≤ 255) ∧ base - 40 ≤ towI x m base share ∧ towI x m base share ≤ base + 40 := by
  have h := tow_between (m := m) hs hb
  refine ⟨by omega, ?_⟩
  unfold towI; omega
theorem near_at {t : Trained} (h : okTrained' t = true) {i : Nat} (hi : i < t.Feats.length) : (at_ t.Base i).D = (at_ t.Feats i).D ∧ ((at_ t.Base i).X - 40 ≤ (at_ t.Feats i).X ∧ (at_ t.Feats i).X ≤ (at_ t.Base i).X + 40) ∧ ((at_ t.Base i).Y - 40 ≤ (at_ t.Feats i).Y ∧ (at_ t.Feats i).Y ≤ (at_ t.Base i).Y + 40) := by
  have q := (okTr_iff.1 h).2.2.2.1
  have := allN_get q.2 (show i < t.Base.length by omega)
  simp only [nearB, Bool.and_eq_true, decide_eq_true_eq] at this
  omega
theorem adpT_at {t : Trained} {s : List Feat} {band share : Int} {i : Nat} (hi : i < t.Feats.length) : at_ (adpT t s band share).Feats i = adpF t s band share i := by
  show at_ (adpN t s band share t.Feats.length) i = _
  rw [at_eq (by rw [adpN_len]; exact hi)]
  simp [adpN]
/-- An adapted template is valid. -/
theorem adpT_ok {t : Trained} {s : List Feat} {band share : Int} (h : okTrained' t = true) (hs : okFeats s 72 = true) (hb : inBd band t.Feats.length s.length) (hsh : 0 ≤ share ∧ share ≤ 100) (hc : t.Count < 100) : okTrained' (adpT t s band share) = true := by
  have q := okTr_iff.1 h
  have hl := adpT_len t s band share
  have ha : ∀ i : Nat, i < t.Feats.length → okF (adpF t s band share i) = true ∧ nearB (at_ t.Base i) (adpF t s band share i) = true := fun i hi => by
    have f1 := okF_iff.1 (okFeats_at q.2.2.1 hi)
    have n := near_at h hi
    have mx := med_bd q.2.2.1 hs hb okF_X hi
    have my := med_bd q.2.2.1 hs hb okF_Y hi
    have tx := tow_in hsh n.2.1 (by omega) mx
    have ty := tow_in hsh n.2.2 (by omega) my
    refine ⟨okF_iff.2 ⟨tx.1, ty.1, f1.2.2⟩, ?_⟩
    simp only [nearB, Bool.and_eq_true, decide_eq_true_eq]
    refine ⟨n.1, ?_, ?_⟩
    · show ((((at_ t.Base i).X - towI _ _ _ _).natAbs : Nat) : Int) ≤ 40; omega
    · show ((((at_ t.Base i).Y - towI _ _ _ _).natAbs : Nat) : Int) ≤ 40; omega
  have n := okFeats_n q.2.2.1
  refine okTr_iff.2 ⟨q.1, q.2.1, ?_, ⟨by rw [hl]; exact q.2.2.2.1.1, allN_at fun j hj => ?_⟩, ?_⟩
  · simp only [okFeats, Bool.and_eq_true, decide_eq_true_eq]
    refine ⟨by rw [hl]; omega, allN_at fun j hj => ?_⟩
    rw [hl] at hj
    rw [adpT_at hj]; exact (ha j hj).1
  · have hj' : j < t.Feats.length := by have := q.2.2.2.1.1; show j < _; have : (adpT t s band share).Base = t.Base := rfl; rw [this] at hj; omega
    rw [adpT_at hj']; exact (ha j hj').2
  · have := inB_iff.1 q.2.2.2.2
    exact inB_iff.2 (show 0 ≤ t.Count + 1 ∧ t.Count + 1 ≤ 100 by omega)
theorem row_cost (a b : List Feat) (P : List Pair) (k : Nat) : smL (fun p => costF (at_ a p.I.toNat) (at_ b p.J.toNat)) (P.filter fun p => decide (p.I = (k : Int))) =
    devL (at_ a k).X (xsF Feat.X P b k) + devL (at_ a k).Y (xsF Feat.Y P b k) + smL (fun p => 16 * min (((at_ a k).D - (at_ b p.J.toNat).D).natAbs : Int) (8 - (((at_ a k).D - (at_ b p.J.toNat).D).natAbs : Int))) (P.filter fun p => decide (p.I = (k : Int))) := by
  unfold xsF
  have hm : ∀ p ∈ P.filter (fun p => decide (p.I = (k : Int))), p.I.toNat = k := fun p hp => by have := (List.mem_filter.1 hp).2; simp at this; omega
  revert hm
  generalize P.filter (fun p => decide (p.I = (k : Int))) = Q
  intro hm
  induction Q with
  | nil => rfl
  | cons p r ih =>
    have e := hm p (by simp)
    have q := ih fun w hw => hm w (by simp [hw])
    simp only [devL, smL, List.map_cons] at q ⊢
    rw [e, q]
    unfold costF
    omega
/-- A sample costs no more after it was learnt. -/
theorem adp_less {t : Trained} {s : List Feat} {band share : Int} (h : okTrained' t = true) (hs : okFeats s 72 = true) (hb : inBd band t.Feats.length s.length) (hsh : 0 ≤ share ∧ share ≤ 100) (hc : t.Count < 100) :
    cv farS (adpT t s band share).Feats s band ((adpT t s band share).Feats.length - 1) (s.length - 1) ≤ cv farS t.Feats s band (t.Feats.length - 1) (s.length - 1) := by
  have q := okTr_iff.1 h
  have hl := adpT_len t s band share
  have ok' := (okTr_iff.1 (adpT_ok h hs hb hsh hc)).2.2.1
  have hab := okAB_of q.2.2.1 hs
  have hab' := okAB_of ok' hs
  have n1 := okFeats_n q.2.2.1
  have n2 := okFeats_n hs
  have he := inBd_end hb n1.1 n2.1
  rw [hl]
  have e1 := bk_cost (band := band) hab (t.Feats.length + s.length - 1) (t.Feats.length - 1) (s.length - 1) (by omega) (by omega) he (by omega)
  have e2 := bk_least (band := band) hab hab' hl (t.Feats.length + s.length - 1) (t.Feats.length - 1) (s.length - 1) (by omega) (by omega) he (by omega)
  refine Int.le_trans e2 ?_
  rw [e1, pcL_eq, pcL_eq]
  have hall : (bk t.Feats s band (t.Feats.length + s.length - 1) (t.Feats.length - 1) (s.length - 1)).filter (fun p => decide (p.I < (t.Feats.length : Int))) = bk t.Feats s band (t.Feats.length + s.length - 1) (t.Feats.length - 1) (s.length - 1) := List.filter_eq_self.2 fun p hp => by have := bk_mem hp; simp; omega
  rw [← hall]
  refine smL_le_all (fun p hp => (bk_mem hp).1.1) t.Feats.length fun k hk => ?_
  rw [row_cost, row_cost, adpT_at hk]
  have n := near_at h hk
  have px := xs_pos q.2.2.1 hs hb Feat.X hk
  have py := xs_pos q.2.2.1 hs hb Feat.Y hk
  have rv : ∀ f : Feat → Int, List.Perm (xsF f (pathOf t.Feats s band) s k) (xsF f (bk t.Feats s band (t.Feats.length + s.length - 1) (t.Feats.length - 1) (s.length - 1)) s k) := fun f => by
    unfold xsF pathOf tot
    rw [List.filter_reverse, List.map_reverse]
    exact List.reverse_perm _
  have dx := dev_med px.1 (tow_between (m := medI (xsF Feat.X (pathOf t.Feats s band) s k)) hsh n.2.1)
  have dy := dev_med py.1 (tow_between (m := medI (xsF Feat.Y (pathOf t.Feats s band) s k)) hsh n.2.2)
  unfold devL at dx dy ⊢
  rw [smL_perm _ (rv Feat.X), smL_perm _ (rv Feat.X)] at dx
  rw [smL_perm _ (rv Feat.Y), smL_perm _ (rv Feat.Y)] at dy
  show smL (fun v => (((towI _ _ _ _ - v).natAbs : Nat) : Int)) _ + smL (fun v => (((towI _ _ _ _ - v).natAbs : Nat) : Int)) _ + _ ≤ _
  have := Int.add_le_add dx dy
  exact Int.add_le_add_right this _

theorem start_ok {l : ByteArray} {fs : List Feat} (hl : okLabel l = true) (hf : okFeats fs 72 = true) : okTrained' (Trained.mk l fs fs 0) = true := by
  refine okTr_iff.2 ⟨hl, hf, hf, ⟨rfl, allN_at fun j hj => ?_⟩, inB_iff.2 (show (0 : Int) ≤ 0 ∧ (0 : Int) ≤ 100 by decide)⟩
  simp [nearB]
theorem in_any {n m : Nat} (h1 : 1 ≤ n ∧ (n : Int) ≤ 72) (h2 : 1 ≤ m ∧ (m : Int) ≤ 72) : inBd 72 n m := by unfold inBd; omega

-- spec.l24Draw
theorem l24Draw_ok (s : l00Src) (hs : okSrc s) (ha : s.atx ≤ 3999999999999996000) : ∃ (v : Trained) (s' : l00Src), (okSrc s') ∧ (s'.code = s.code) ∧ (s.atx + 0 ≤ s'.atx ∧ s'.atx ≤ s.atx + 2000) ∧ (okTrained' v = true) ∧ (0 ≤ v.Count ∧ v.Count ≤ 2) ∧ CallOK Tryz.prog 28 [.ref 7001 0] (lookO [(7001, bxl00Src s)]) true (agTrainedT v) (lookO [(7001, bxl00Src s')]) := by
  have hh : ∃ r : Trained × l00Src, ((okSrc r.2) ∧ (r.2.code = s.code) ∧ (s.atx + 0 ≤ r.2.atx ∧ r.2.atx ≤ s.atx + 2000) ∧ (okTrained' r.1 = true) ∧ (0 ≤ r.1.Count ∧ r.1.Count ≤ 2) ∧ (True)) ∧ CallOK Tryz.prog 28 [.ref 7001 0] (lookO [(7001, bxl00Src s)]) true (agTrainedT r.1) (lookO [(7001, bxl00Src r.2)]) := by
    refine fn_okX (Φ := fun r : Trained × l00Src => (okSrc r.2) ∧ (r.2.code = s.code) ∧ (s.atx + 0 ≤ r.2.atx ∧ r.2.atx ≤ s.atx + 2000) ∧ (okTrained' r.1 = true) ∧ (0 ≤ r.1.Count ∧ r.1.Count ≤ 2) ∧ (True)) [(7001, bxl00Src s)] (fun r => [(7001, bxl00Src r.2)]) (fn := Tryz.f28) (nt := 24) Tryz.func28 rfl rfl (args := [.ref 7001 0]) rfl (allcons (.inr trivial) allnil) (res := fun r => agTrainedT r.1) ?_
    refine xR [(0, .new 2)] [0, 2] [2, 7001] [.ref 7001 0, .ref 2 0] [some (.box [Sv (⟨#[]⟩ : ByteArray), nilA, nilA, I 0]), some (bxl00Src s)] [] trivial ?_
    refine x_seq ?_
    obtain ⟨v_1, s'_1, hx1_0, hx1_1, hx1_2, hx1_3, hx1_4, hc1⟩ := text_ok s ([(⟨#[97]⟩ : ByteArray), (⟨#[98]⟩ : ByteArray), (⟨#[116]⟩ : ByteArray)]) (by first | assumption | (simp only [okSrc] at *; simp_all; done)) (by omega) (by decide)
    have hlab : okLabel v_1 = true := by have q := hx1_4; simp only [List.mem_cons, List.not_mem_nil, or_false] at q; rcases q with q | q | q <;> rw [q] <;> decide
    obtain ⟨v_2, s'_2, hx2_0, hx2_1, hx2_2, hx2_3, hx2_4, hc2⟩ := l09Draw_ok s'_1 7 (by first | assumption | (simp only [okSrc] at *; simp_all; done)) (by omega) (by omega)
    have hof : okFeats v_2 72 = true := hx2_3
    have hon := okFeats_n hof
    refine x_r [(1, .new 6), (2, .lend [(7001, bxl00Src s, bxl00Src s'_1)] [] [(true, .any), (false, slS false ([(⟨#[97]⟩ : ByteArray), (⟨#[98]⟩ : ByteArray), (⟨#[116]⟩ : ByteArray)]))] true (Sv v_1)), (4, .lend [(7001, bxl00Src s'_1, bxl00Src s'_2)] [] [(true, .any), (true, .any)] true (slFeat true v_2)), (5, .call [(true, .any), (false, slFeat false v_2)] true (agTrainedT (Trained.mk v_1 v_2 v_2 0))), (6, .new 3)] [0, 2, 3] [2, 3, 7001] [.ref 7001 0, .ref 2 0, .ref 3 0] [some (.box [Sv (⟨#[]⟩ : ByteArray), nilA, nilA, I 0]), some (bxTrainedT (Trained.mk v_1 v_2 v_2 0)), some (bxl00Src s'_2)] [CallOK Tryz.prog 60 [.ref 7001 0, slS false ([(⟨#[97]⟩ : ByteArray), (⟨#[98]⟩ : ByteArray), (⟨#[116]⟩ : ByteArray)])] (lookO [(7001, bxl00Src s)]) true (Sv v_1) (lookO [(7001, bxl00Src s'_1)]) ∧ ((false = true → true = true) ∧ 1 = 1 ∧ 3 = (([(⟨#[97]⟩ : ByteArray), (⟨#[98]⟩ : ByteArray), (⟨#[116]⟩ : ByteArray)]).length) ∧ ∀ i_, i_ < (([(⟨#[97]⟩ : ByteArray), (⟨#[98]⟩ : ByteArray), (⟨#[116]⟩ : ByteArray)]).length) → (litF [Sv (⟨#[97]⟩ : ByteArray), Sv (⟨#[98]⟩ : ByteArray), Sv (⟨#[116]⟩ : ByteArray)] 1) i_ = (fS ([(⟨#[97]⟩ : ByteArray), (⟨#[98]⟩ : ByteArray), (⟨#[116]⟩ : ByteArray)])) i_ ∨ (AV.idsL ((fS ([(⟨#[97]⟩ : ByteArray), (⟨#[98]⟩ : ByteArray), (⟨#[116]⟩ : ByteArray)])) i_) = [] ∧ leL (fun _ => none) false ((litF [Sv (⟨#[97]⟩ : ByteArray), Sv (⟨#[98]⟩ : ByteArray), Sv (⟨#[116]⟩ : ByteArray)] 1) i_) ((fS ([(⟨#[97]⟩ : ByteArray), (⟨#[98]⟩ : ByteArray), (⟨#[116]⟩ : ByteArray)])) i_))) ∧ (((bxl00Src s : Ob) = bxl00Src s ∨ obLe noOb true (bxl00Src s) (bxl00Src s)) ∧ taggedO false (bxl00Src s)) ∧ True, CallOK Tryz.prog 29 [.ref 7001 0, I 7] (lookO [(7001, bxl00Src s'_1)]) true (slFeat true v_2) (lookO [(7001, bxl00Src s'_2)]) ∧ (((bxl00Src s'_1 : Ob) = bxl00Src s'_1 ∨ obLe noOb true (bxl00Src s'_1) (bxl00Src s'_1)) ∧ taggedO false (bxl00Src s'_1)) ∧ True, Con Tryz.prog 52 [Sv v_1, slFeat false v_2] true (agTrainedT (Trained.mk v_1 v_2 v_2 0)) ∧ ((false = true → true = true) ∧ 3 = 3 ∧ v_2.length = v_2.length ∧ ∀ i_, i_ < v_2.length → (fFeat v_2) i_ = (fFeat v_2) i_ ∨ (AV.idsL ((fFeat v_2) i_) = [] ∧ leL (fun _ => none) false ((fFeat v_2) i_) ((fFeat v_2) i_))) ∧ True] ⟨⟨hc1, ⟨(fun h => by cases h), rfl, (by first | rfl | (simp; done) | (simp; omega) | omega), fun i_ hi_ => .inl (match i_, hi_ with | 0, _ => rfl | 1, _ => rfl | 2, _ => rfl | (i + 3), h => absurd h (by simp))⟩, ⟨.inl rfl, (by simp [taggedO, taggedL, tagged, tagU8])⟩, trivial⟩, ⟨hc2, ⟨.inl rfl, (by simp [taggedO, taggedL, tagged, tagU8])⟩, trivial⟩, ⟨(l24Start_ok v_1 v_2 (by omega)), ⟨(fun h => by cases h), rfl, rfl, fun i _ => .inl rfl⟩, trivial⟩, trivial⟩ ?_
    refine xe_then ?_
    refine x_seq ?_
    refine x_seq ?_
    obtain ⟨v_3, s'_3, hx3_0, hx3_1, hx3_2, hx3_3, hc3⟩ := pick_ok s'_2 3 (by first | assumption | (simp only [okSrc] at *; simp_all; done)) (by omega)
    refine x_r [(1, .lend [(7001, bxl00Src s'_2, bxl00Src s'_3)] [] [(true, .any), (true, .any)] true (I v_3))] [0, 2, 3, 4] [2, 3, 7001] [.ref 7001 0, .ref 2 0, .ref 3 0, I v_3] [some (.box [Sv (⟨#[]⟩ : ByteArray), nilA, nilA, I 0]), some (bxTrainedT (Trained.mk v_1 v_2 v_2 0)), some (bxl00Src s'_3)] [CallOK Tryz.prog 27 [.ref 7001 0, I 3] (lookO [(7001, bxl00Src s'_2)]) true (I v_3) (lookO [(7001, bxl00Src s'_3)]) ∧ (((bxl00Src s'_2 : Ob) = bxl00Src s'_2 ∨ obLe noOb true (bxl00Src s'_2) (bxl00Src s'_2)) ∧ taggedO false (bxl00Src s'_2)) ∧ True] ⟨⟨hc3, ⟨.inl rfl, (by simp [taggedO, taggedL, tagged, tagU8])⟩, trivial⟩, trivial⟩ ?_
    refine xe_then ?_
    refine x_block ?_
    refine x_weak [] (T := [(0, .ref 7001 0), (2, .ref 2 0), (3, .ref 3 0), (4, I v_3)]) (O := [(2, .box [Sv (⟨#[]⟩ : ByteArray), nilA, nilA, I 0]), (3, .box [Sv ((Trained.mk v_1 v_2 v_2 0).Label), .sl true 3 ((Trained.mk v_1 v_2 v_2 0).Base.length) (fFeat ((Trained.mk v_1 v_2 v_2 0).Base)), .sl true 3 ((Trained.mk v_1 v_2 v_2 0).Feats.length) (fFeat ((Trained.mk v_1 v_2 v_2 0).Feats)), I ((Trained.mk v_1 v_2 v_2 0).Count)]), (7001, bxl00Src s'_3)]) rfl (⟨.inl rfl, .inl rfl, .inl rfl, .inl rfl, trivial⟩) (⟨.inl rfl, .inr ⟨rfl, ⟨⟨(fun _ => rfl), rfl, (by first | rfl | (simp; done) | (simp; omega) | omega), fun i _ => .inl rfl⟩, ⟨⟨(fun _ => rfl), rfl, (by first | rfl | (simp; done) | (simp; omega) | omega), fun i _ => .inl rfl⟩, ⟨rfl, rfl⟩⟩⟩⟩, .inl rfl, trivial⟩) ?_
    refine x_loop (X := Int × Trained × l00Src) (fun x => mkS [(0, .ref 7001 0), (2, .ref 2 0), (3, .ref 3 0), (4, I x.1)] [(2, .box [Sv (⟨#[]⟩ : ByteArray), nilA, nilA, I 0]), (3, bxTrainedT x.2.1), (7001, bxl00Src x.2.2)]) (fun x => (okSrc x.2.2 ∧ x.2.2.code = s.code ∧ s.atx ≤ x.2.2.atx ∧ x.2.2.atx ≤ s.atx + 500 + 500 * (2 - x.1)) ∧ (0 ≤ x.1 ∧ x.1 ≤ 2) ∧ (okTrained' x.2.1 = true) ∧ (0 ≤ x.2.1.Count ∧ x.2.1.Count + x.1 ≤ 2) ∧ True) (fun x => x.1.toNat) (v_3, (Trained.mk v_1 v_2 v_2 0), s'_3) rfl (show (okSrc s'_3 ∧ s'_3.code = s.code ∧ s.atx ≤ s'_3.atx ∧ s'_3.atx ≤ s.atx + 500 + 500 * (2 - v_3)) ∧ (0 ≤ v_3 ∧ v_3 ≤ 2) ∧ (okTrained' (Trained.mk v_1 v_2 v_2 0) = true) ∧ (0 ≤ (Trained.mk v_1 v_2 v_2 0).Count ∧ (Trained.mk v_1 v_2 v_2 0).Count + v_3 ≤ 2) ∧ True from ⟨(by exact ⟨by assumption, by first | assumption | rfl | (simp only [*]; done), by omega, by omega⟩), (by omega), (by exact start_ok hlab hof), (by (dsimp only; omega)), trivial⟩) (fun x hI => ?_)
    obtain ⟨k, t, src⟩ := x
    obtain ⟨hs0, hk0, htr, htc, _⟩ : (okSrc src ∧ src.code = s.code ∧ s.atx ≤ src.atx ∧ src.atx ≤ s.atx + 500 + 500 * (2 - k)) ∧ (0 ≤ k ∧ k ≤ 2) ∧ (okTrained' t = true) ∧ (0 ≤ t.Count ∧ t.Count + k ≤ 2) ∧ True := hI
    show XW _ _ _ _ (mkS [(0, .ref 7001 0), (2, .ref 2 0), (3, .ref 3 0), (4, I k)] [(2, .box [Sv (⟨#[]⟩ : ByteArray), nilA, nilA, I 0]), (3, bxTrainedT t), (7001, bxl00Src src)]) _ _
    have htn := okFeats_n (okTr_iff.1 htr).2.2.1
    refine x_seq ?_
    refine x_seq ?_
    by_cases h1 : 0 < k
    ·refine x_r [(1, .dec true)] [0, 2, 3, 4, 14] [2, 3, 7001] [.ref 7001 0, .ref 2 0, .ref 3 0, I k, Bv true] [some (.box [Sv (⟨#[]⟩ : ByteArray), nilA, nilA, I 0]), some (bxTrainedT t), some (bxl00Src src)] [0 < k] ⟨h1, trivial⟩ ?_
     refine xe_then ?_
     refine x_true rfl ?_
     refine x_skip ?_
     refine xe_then ?_
     refine x_seq ?_
     refine x_block ?_
     obtain ⟨v_4, s'_4, hx4_0, hx4_1, hx4_2, hx4_3, hx4_4, hc4⟩ := l09Draw_ok src 7 (by first | assumption | (simp only [okSrc] at *; simp_all; done)) (by omega) (by omega)
     have hof : okFeats v_4 72 = true := hx4_3
     have hon := okFeats_n hof
     obtain ⟨v_5, s'_5, hx5_0, hx5_1, hx5_2, hx5_3, hc5⟩ := pick_ok s'_4 81 (by first | assumption | (simp only [okSrc] at *; simp_all; done)) (by omega)
     obtain ⟨v_6, hx6_0, hc6⟩ := l24Adapt_ok t v_4 72 (20 + v_5) htr hof (by omega) (in_any htn hon) (by omega) (by omega)
     have hnx := adpT_ok htr hof (in_any htn hon) (show 0 ≤ (20 + v_5) ∧ (20 + v_5) ≤ 100 by omega) (show t.Count < 100 by omega)
     rw [← hx6_0] at hnx
     have hcn : v_6.Count = t.Count + 1 := by rw [hx6_0]; rfl
     refine x_r [(1, .lend [(7001, bxl00Src src, bxl00Src s'_4)] [] [(true, .any), (true, .any)] true (slFeat true v_4)), (3, .lend [(7001, bxl00Src s'_4, bxl00Src s'_5)] [] [(true, .any), (true, .any)] true (I v_5)), (5, .call [(false, .ptr false [Sv t.Label, slFeat false t.Base, slFeat false t.Feats, I t.Count]), (false, slFeat false v_4), (true, .any), (true, .any)] true (agTrainedT v_6))] [0, 2, 3, 4] [2, 3, 7001] [.ref 7001 0, .ref 2 0, .ref 3 0, I k] [some (.box [Sv (⟨#[]⟩ : ByteArray), nilA, nilA, I 0]), some (bxTrainedT v_6), some (bxl00Src s'_5)] [CallOK Tryz.prog 29 [.ref 7001 0, I 7] (lookO [(7001, bxl00Src src)]) true (slFeat true v_4) (lookO [(7001, bxl00Src s'_4)]) ∧ (((bxl00Src src : Ob) = bxl00Src src ∨ obLe noOb true (bxl00Src src) (bxl00Src src)) ∧ taggedO false (bxl00Src src)) ∧ True, CallOK Tryz.prog 27 [.ref 7001 0, I 81] (lookO [(7001, bxl00Src s'_4)]) true (I v_5) (lookO [(7001, bxl00Src s'_5)]) ∧ (((bxl00Src s'_4 : Ob) = bxl00Src s'_4 ∨ obLe noOb true (bxl00Src s'_4) (bxl00Src s'_4)) ∧ taggedO false (bxl00Src s'_4)) ∧ True, inR .i64 (20 + v_5), Con Tryz.prog 51 [.ptr false [Sv t.Label, slFeat false t.Base, slFeat false t.Feats, I t.Count], slFeat false v_4, I 72, I (20 + v_5)] true (agTrainedT v_6) ∧ ((false = true → true = true) ∧ AV.idsL [Sv t.Label, slFeat false t.Base, slFeat false t.Feats, I t.Count] = [] ∧ (valOf (Sv t.Label) = valOf (Sv t.Label)) ∧ ((false = true → true = true) ∧ 3 = 3 ∧ t.Base.length = t.Base.length ∧ ∀ i_, i_ < t.Base.length → (fFeat t.Base) i_ = (fFeat t.Base) i_ ∨ (AV.idsL ((fFeat t.Base) i_) = [] ∧ leL (fun _ => none) false ((fFeat t.Base) i_) ((fFeat t.Base) i_))) ∧ ((false = true → true = true) ∧ 3 = 3 ∧ t.Feats.length = t.Feats.length ∧ ∀ i_, i_ < t.Feats.length → (fFeat t.Feats) i_ = (fFeat t.Feats) i_ ∨ (AV.idsL ((fFeat t.Feats) i_) = [] ∧ leL (fun _ => none) false ((fFeat t.Feats) i_) ((fFeat t.Feats) i_))) ∧ (valOf (I t.Count) = valOf (I t.Count)) ∧ ([] : List AV) = []) ∧ ((false = true → true = true) ∧ 3 = 3 ∧ v_4.length = v_4.length ∧ ∀ i_, i_ < v_4.length → (fFeat v_4) i_ = (fFeat v_4) i_ ∨ (AV.idsL ((fFeat v_4) i_) = [] ∧ leL (fun _ => none) false ((fFeat v_4) i_) ((fFeat v_4) i_))) ∧ True] ⟨⟨hc4, ⟨.inl rfl, (by simp [taggedO, taggedL, tagged, tagU8])⟩, trivial⟩, ⟨hc5, ⟨.inl rfl, (by simp [taggedO, taggedL, tagged, tagU8])⟩, trivial⟩, (inR_i64 (by omega) (by omega)), ⟨hc6, ⟨(fun h => by cases h), rfl, ⟨rfl, ⟨⟨(fun h => by cases h), rfl, rfl, fun i _ => .inl rfl⟩, ⟨⟨(fun h => by cases h), rfl, rfl, fun i _ => .inl rfl⟩, ⟨rfl, rfl⟩⟩⟩⟩⟩, ⟨(fun h => by cases h), rfl, rfl, fun i _ => .inl rfl⟩, trivial⟩, trivial⟩ ?_
     refine xe_block 1 ?_
     refine xe_then ?_
     refine x_r [] [0, 2, 3, 4] [2, 3, 7001] [.ref 7001 0, .ref 2 0, .ref 3 0, I (k - 1)] [some (.box [Sv (⟨#[]⟩ : ByteArray), nilA, nilA, I 0]), some (bxTrainedT v_6), some (bxl00Src s'_5)] [inR .i64 (k - 1)] ⟨(inR_i64 (by omega) (by omega)), trivial⟩ ?_
     exact xe_again ((k - 1), v_6, s'_5) rfl (show (okSrc s'_5 ∧ s'_5.code = s.code ∧ s.atx ≤ s'_5.atx ∧ s'_5.atx ≤ s.atx + 500 + 500 * (2 - (k - 1))) ∧ (0 ≤ (k - 1) ∧ (k - 1) ≤ 2) ∧ (okTrained' v_6 = true) ∧ (0 ≤ v_6.Count ∧ v_6.Count + (k - 1) ≤ 2) ∧ True from ⟨(by exact ⟨by assumption, by first | assumption | rfl | (simp only [*]; done), by omega, by omega⟩), (by omega), (by exact hnx), (by omega), trivial⟩) (by first | (show ((k - 1).toNat : Nat) < k.toNat; omega) | (dsimp only; omega))
    refine x_r [(1, .dec false)] [0, 2, 3, 4, 14] [2, 3, 7001] [.ref 7001 0, .ref 2 0, .ref 3 0, I k, Bv false] [some (.box [Sv (⟨#[]⟩ : ByteArray), nilA, nilA, I 0]), some (bxTrainedT t), some (bxl00Src src)] [¬ (0 < k)] ⟨h1, trivial⟩ ?_
    refine xe_then ?_
    refine x_false rfl ?_
    refine x_exit ?_
    refine xe_exit_then ?_
    refine xe_loop_exit ?_
    refine xe_exit_same ?_
    refine xe_then ?_
    refine xR [] [2] [2, 7001] [.ref 2 0] [some (bxTrainedT t), some (bxl00Src src)] [] trivial ?_
    refine x_ret ?_
    refine xe_end (t, src) (show (okSrc src) ∧ (src.code = s.code) ∧ (s.atx + 0 ≤ src.atx ∧ src.atx ≤ s.atx + 2000) ∧ (okTrained' t = true) ∧ (0 ≤ t.Count ∧ t.Count ≤ 2) ∧ (True) from ⟨(by first | omega | assumption | exact hs0.1 | exact hs0.2.1), (by first | omega | assumption | exact hs0.1 | exact hs0.2.1), (by first | omega | assumption | exact hs0.1 | exact hs0.2.1), (by first | omega | assumption | exact hs0.1 | exact hs0.2.1), (by first | omega | assumption | exact hs0.1 | exact hs0.2.1), trivial⟩) (⟨.inl rfl, trivial⟩) (agTrainedT t) (by kernel_rfl) (.inl rfl) (fun _ => rfl) (fun _ => (by simp [tagged, taggedL, tagFeat]))
  obtain ⟨⟨v, s'⟩, ⟨hh0, hh1, hh2, hh3, hh4, _⟩, hc⟩ := hh
  exact ⟨v, s', hh0, hh1, hh2, hh3, hh4, hc⟩


-- spec.A2Writer
theorem A2Writer_ok (code : List Int) (hc : (∀ j, j < code.length → 0 ≤ at_ code j ∧ at_ code j ≤ 255) ∧ code.length ≤ 4611686018427387904) : ∃ (v : Writer), (1 ≤ v.Band ∧ v.Band ≤ 8) ∧ (v.Trained.length ≤ 4) ∧ (∀ t ∈ v.Trained, okTrained' t = true ∧ 0 ≤ t.Count ∧ t.Count ≤ 2) ∧ Con Tryz.prog 6 [slU8 false code] true (agWriterT v) := by
  have hh : ∃ r : Writer, ((1 ≤ r.Band ∧ r.Band ≤ 8) ∧ (r.Trained.length ≤ 4) ∧ (∀ t ∈ r.Trained, okTrained' t = true ∧ 0 ≤ t.Count ∧ t.Count ≤ 2) ∧ (True)) ∧ CallOK Tryz.prog 6 [slU8 false code] (lookO []) true (agWriterT r) (lookO []) := by
    refine fn_okX (Φ := fun r : Writer => (1 ≤ r.Band ∧ r.Band ≤ 8) ∧ (r.Trained.length ≤ 4) ∧ (∀ t ∈ r.Trained, okTrained' t = true ∧ 0 ≤ t.Count ∧ t.Count ≤ 2) ∧ (True)) [] (fun r => []) (fn := Tryz.f6) (nt := 26) Tryz.func6 rfl rfl (args := [slU8 false code]) rfl (allcons (.inl ⟨rfl, tagU8 false _⟩) allnil) (res := fun r => agWriterT r) ?_
    refine xR [(0, .new 2)] [0, 2] [2] [slU8 false code, .ref 2 0] [some (.box [I 0, nilA])] [] trivial ?_
    refine x_seq ?_
    obtain ⟨s'_1, hx1_0, hc1⟩ := l00From_ok code
    have hsrc : okSrc s'_1 := ⟨by rw [hx1_0.1]; exact hc.1, by rw [hx1_0.2]; decide, by rw [hx1_0.1]; exact hc.2⟩
    have hat0 := hx1_0.2
    refine x_r [(1, .lend [] [(7001, bxl00Src s'_1)] [(true, .any)] false (.ref 7001 0))] [2, 3] [2, 7001] [.ref 2 0, .ref 7001 0] [some (.box [I 0, nilA]), some (bxl00Src s'_1)] [CallOK Tryz.prog 26 [slU8 false code] (lookO []) false (.ref 7001 0) (lookO [(7001, bxl00Src s'_1)]) ∧ True] ⟨⟨hc1, trivial⟩, trivial⟩ ?_
    refine xe_then ?_
    refine x_seq ?_
    obtain ⟨v_2, s'_2, hx2_0, hx2_1, hx2_2, hx2_3, hc2⟩ := pick_ok s'_1 8 (by first | assumption | (simp only [okSrc] at *; simp_all; done)) (by omega)
    refine x_r [(1, .lend [(7001, bxl00Src s'_1, bxl00Src s'_2)] [] [(true, .any), (true, .any)] true (I v_2)), (4, .new 4)] [2, 3, 4] [2, 4, 7001] [.ref 2 0, .ref 7001 0, .ref 4 0] [some (.box [I 0, nilA]), some (.box [I (1 + v_2), nilA]), some (bxl00Src s'_2)] [CallOK Tryz.prog 27 [.ref 7001 0, I 8] (lookO [(7001, bxl00Src s'_1)]) true (I v_2) (lookO [(7001, bxl00Src s'_2)]) ∧ (((bxl00Src s'_1 : Ob) = bxl00Src s'_1 ∨ obLe noOb true (bxl00Src s'_1) (bxl00Src s'_1)) ∧ taggedO false (bxl00Src s'_1)) ∧ True, inR .i64 (1 + v_2)] ⟨⟨hc2, ⟨.inl rfl, (by simp [taggedO, taggedL, tagged, tagU8])⟩, trivial⟩, (inR_i64 (by omega) (by omega)), trivial⟩ ?_
    refine xe_then ?_
    refine x_seq ?_
    refine x_seq ?_
    obtain ⟨v_3, s'_3, hx3_0, hx3_1, hx3_2, hx3_3, hc3⟩ := pick_ok s'_2 5 (by first | assumption | (simp only [okSrc] at *; simp_all; done)) (by omega)
    refine x_r [(1, .lend [(7001, bxl00Src s'_2, bxl00Src s'_3)] [] [(true, .any), (true, .any)] true (I v_3))] [2, 3, 4, 5] [2, 4, 7001] [.ref 2 0, .ref 7001 0, .ref 4 0, I v_3] [some (.box [I 0, nilA]), some (.box [I (1 + v_2), nilA]), some (bxl00Src s'_3)] [CallOK Tryz.prog 27 [.ref 7001 0, I 5] (lookO [(7001, bxl00Src s'_2)]) true (I v_3) (lookO [(7001, bxl00Src s'_3)]) ∧ (((bxl00Src s'_2 : Ob) = bxl00Src s'_2 ∨ obLe noOb true (bxl00Src s'_2) (bxl00Src s'_2)) ∧ taggedO false (bxl00Src s'_2)) ∧ True] ⟨⟨hc3, ⟨.inl rfl, (by simp [taggedO, taggedL, tagged, tagU8])⟩, trivial⟩, trivial⟩ ?_
    refine xe_then ?_
    refine x_block ?_
    refine x_nilC 4 1 741 4 (fun _ => []) rfl (by kernel_rfl) ?_
    refine x_weak [] (T := [(2, .ref 2 0), (3, .ref 7001 0), (4, .ref 4 0), (5, I v_3)]) (O := [(2, .box [I 0, nilA]), (4, .box [I (1 + v_2), .arr 741]), (741, .arr 4 (([] : List Trained).length) (fTrained true ([] : List Trained))), (7001, bxl00Src s'_3)]) rfl (⟨.inl rfl, .inl rfl, .inl rfl, .inl rfl, trivial⟩) (⟨.inl rfl, .inl rfl, .inr ⟨rfl, (by first | rfl | (simp; done) | (simp; omega) | omega), fun i_ hi_ => absurd hi_ (Nat.not_lt_zero _)⟩, .inl rfl, trivial⟩) ?_
    refine x_loop (X := Int × (List Trained) × l00Src) (fun x => mkS [(2, .ref 2 0), (3, .ref 7001 0), (4, .ref 4 0), (5, I x.1)] [(2, .box [I 0, nilA]), (4, .box [I (1 + v_2), .arr 741]), (741, .arr 4 x.2.1.length (fTrained true x.2.1)), (7001, bxl00Src x.2.2)]) (fun x => (okSrc x.2.2 ∧ x.2.2.atx ≤ 100 + 3000 * (4 - x.1)) ∧ (0 ≤ x.1 ∧ x.1 ≤ 4) ∧ ((x.2.1.length : Int) + x.1 ≤ 4) ∧ (∀ t ∈ x.2.1, okTrained' t = true ∧ 0 ≤ t.Count ∧ t.Count ≤ 2) ∧ True) (fun x => x.1.toNat) (v_3, ([] : List Trained), s'_3) rfl (show (okSrc s'_3 ∧ s'_3.atx ≤ 100 + 3000 * (4 - v_3)) ∧ (0 ≤ v_3 ∧ v_3 ≤ 4) ∧ ((([] : List Trained).length : Int) + v_3 ≤ 4) ∧ (∀ t ∈ ([] : List Trained), okTrained' t = true ∧ 0 ≤ t.Count ∧ t.Count ≤ 2) ∧ True from ⟨(by first | assumption | (constructor <;> first | assumption | omega)), (by omega), (by simp; omega), (by simp), trivial⟩) (fun x hI => ?_)
    obtain ⟨k, ts, src⟩ := x
    obtain ⟨hs0, hk0, hl0, hz0, _⟩ : (okSrc src ∧ src.atx ≤ 100 + 3000 * (4 - k)) ∧ (0 ≤ k ∧ k ≤ 4) ∧ ((ts.length : Int) + k ≤ 4) ∧ (∀ t ∈ ts, okTrained' t = true ∧ 0 ≤ t.Count ∧ t.Count ≤ 2) ∧ True := hI
    show XW _ _ _ _ (mkS [(2, .ref 2 0), (3, .ref 7001 0), (4, .ref 4 0), (5, I k)] [(2, .box [I 0, nilA]), (4, .box [I (1 + v_2), .arr 741]), (741, .arr 4 ts.length (fTrained true ts)), (7001, bxl00Src src)]) _ _
    refine x_seq ?_
    refine x_seq ?_
    by_cases h1 : 0 < k
    ·refine x_r [(1, .dec true)] [2, 3, 4, 5, 15] [2, 4, 741, 7001] [.ref 2 0, .ref 7001 0, .ref 4 0, I k, Bv true] [some (.box [I 0, nilA]), some (.box [I (1 + v_2), .arr 741]), some (.arr 4 ts.length (fTrained true ts)), some (bxl00Src src)] [0 < k] ⟨h1, trivial⟩ ?_
     refine xe_then ?_
     refine x_true rfl ?_
     refine x_skip ?_
     refine xe_then ?_
     refine x_seq ?_
     refine x_block ?_
     obtain ⟨v_4, s'_4, hx4_0, hx4_1, hx4_2, hx4_3, hx4_4, hc4⟩ := l24Draw_ok src (by first | assumption | (simp only [okSrc] at *; simp_all; done)) (by omega)
     refine x_r [(3, .lend [(7001, bxl00Src src, bxl00Src s'_4)] [] [(true, .any)] true (agTrainedT v_4)), (4, .new 22), (5, .new 23)] [2, 3, 4, 5] [2, 4, 23, 7001] [.ref 2 0, .ref 7001 0, .ref 4 0, I k] [some (.box [I 0, nilA]), some (.box [I (1 + v_2), .arr 23]), some (.arr 4 (ts.length + 1) (catF ts.length (fTrained true ts) (litF [Sv v_4.Label, slFeat true v_4.Base, slFeat true v_4.Feats, I v_4.Count] 4))), some (bxl00Src s'_4)] [CallOK Tryz.prog 28 [.ref 7001 0] (lookO [(7001, bxl00Src src)]) true (agTrainedT v_4) (lookO [(7001, bxl00Src s'_4)]) ∧ (((bxl00Src src : Ob) = bxl00Src src ∨ obLe noOb true (bxl00Src src) (bxl00Src src)) ∧ taggedO false (bxl00Src src)) ∧ True, (ts.length + 1) * 72 ≤ 140737488355328] ⟨⟨hc4, ⟨.inl rfl, (by simp [taggedO, taggedL, tagged, tagU8])⟩, trivial⟩, (by omega), trivial⟩ ?_
     refine xe_block 1 ?_
     refine xe_then ?_
     refine x_r [] [2, 3, 4, 5] [2, 4, 23, 7001] [.ref 2 0, .ref 7001 0, .ref 4 0, I (k - 1)] [some (.box [I 0, nilA]), some (.box [I (1 + v_2), .arr 23]), some (.arr 4 (ts.length + 1) (catF ts.length (fTrained true ts) (litF [Sv v_4.Label, slFeat true v_4.Base, slFeat true v_4.Feats, I v_4.Count] 4))), some (bxl00Src s'_4)] [inR .i64 (k - 1)] ⟨(inR_i64 (by omega) (by omega)), trivial⟩ ?_
     refine xe_weak [(741, 23)] (T := [(2, .ref 2 0), (3, .ref 7001 0), (4, .ref 4 0), (5, I (k - 1))]) (O := [(2, .box [I 0, nilA]), (4, .box [I (1 + v_2), .arr 741]), (741, .arr 4 ((ts ++ [v_4]).length) (fTrained true (ts ++ [v_4]))), (7001, bxl00Src s'_4)]) rfl (⟨.inl rfl, .inl rfl, .inl rfl, .inl rfl, trivial⟩) (⟨.inl rfl, .inl rfl, .inr ⟨rfl, (by first | rfl | (simp; done) | (simp; omega) | omega), fun i_ hi_ => .inl (cat_snoc (enc := (cTrained true)) (xs := ts) rfl i_ hi_)⟩, .inl rfl, trivial⟩) (xe_again ((k - 1), (ts ++ [v_4]), s'_4) rfl (show (okSrc s'_4 ∧ s'_4.atx ≤ 100 + 3000 * (4 - (k - 1))) ∧ (0 ≤ (k - 1) ∧ (k - 1) ≤ 4) ∧ (((ts ++ [v_4]).length : Int) + (k - 1) ≤ 4) ∧ (∀ t ∈ (ts ++ [v_4]), okTrained' t = true ∧ 0 ≤ t.Count ∧ t.Count ≤ 2) ∧ True from ⟨(by constructor <;> first | assumption | omega), (by omega), (by simp; omega), (by intro t ht; rcases List.mem_append.1 ht with ht | ht; (exact hz0 t ht); (simp only [List.mem_singleton] at ht; subst ht; exact ⟨by assumption, by assumption⟩)), trivial⟩) (by first | (show ((k - 1).toNat : Nat) < k.toNat; omega) | (dsimp only; omega)))
    refine x_r [(1, .dec false)] [2, 3, 4, 5, 15] [2, 4, 741, 7001] [.ref 2 0, .ref 7001 0, .ref 4 0, I k, Bv false] [some (.box [I 0, nilA]), some (.box [I (1 + v_2), .arr 741]), some (.arr 4 ts.length (fTrained true ts)), some (bxl00Src src)] [¬ (0 < k)] ⟨h1, trivial⟩ ?_
    refine xe_then ?_
    refine x_false rfl ?_
    refine x_exit ?_
    refine xe_exit_then ?_
    refine xe_loop_exit ?_
    refine xe_exit_same ?_
    refine xe_then ?_
    refine xR [] [2] [2, 741] [.ref 2 0] [some (.box [I (1 + v_2), .arr 741]), some (.arr 4 ts.length (fTrained true ts))] [] trivial ?_
    refine x_ret ?_
    refine xe_end (Writer.mk (1 + v_2) ts) (show (1 ≤ (Writer.mk (1 + v_2) ts).Band ∧ (Writer.mk (1 + v_2) ts).Band ≤ 8) ∧ ((Writer.mk (1 + v_2) ts).Trained.length ≤ 4) ∧ (∀ t ∈ (Writer.mk (1 + v_2) ts).Trained, okTrained' t = true ∧ 0 ≤ t.Count ∧ t.Count ≤ 2) ∧ (True) from ⟨(by first | assumption | omega | (dsimp only; omega)), (by first | assumption | omega | (dsimp only; omega)), (by first | assumption | omega | (dsimp only; omega)), trivial⟩) (trivial) (.agg [I (1 + v_2), .arr 741]) (by kernel_rfl) (.inr ⟨rfl, ⟨⟨(fun _ => rfl), rfl, rfl, fun i _ => .inl rfl⟩, rfl⟩⟩) (fun _ => rfl) (fun _ => (by simp [tagged, taggedL, tagTrained]))
  obtain ⟨v, ⟨hh0, hh1, hh2, _⟩, hc⟩ := hh
  exact ⟨v, hh0, hh1, hh2, hc⟩


-- spec.A2Feats
theorem A2Feats_ok (code : List Int) (hc : (∀ j, j < code.length → 0 ≤ at_ code j ∧ at_ code j ≤ 255) ∧ code.length ≤ 4611686018427387904) : ∃ (v : List Feat), (okFeats v 72 = true) ∧ ((v.length : Int) ≤ 9) ∧ Con Tryz.prog 7 [slU8 false code] true (slFeat true v) := by
  have hh : ∃ r : (List Feat), ((okFeats r 72 = true) ∧ ((r.length : Int) ≤ 9) ∧ (True)) ∧ CallOK Tryz.prog 7 [slU8 false code] (lookO []) true (slFeat true r) (lookO []) := by
    refine fn_okX (Φ := fun r : (List Feat) => (okFeats r 72 = true) ∧ ((r.length : Int) ≤ 9) ∧ (True)) [] (fun r => []) (fn := Tryz.f7) (nt := 6) Tryz.func7 rfl rfl (args := [slU8 false code]) rfl (allcons (.inl ⟨rfl, tagU8 false _⟩) allnil) (res := fun r => slFeat true r) ?_
    refine xR [] [0] [] [slU8 false code] [] [] trivial ?_
    refine x_seq ?_
    obtain ⟨s'_1, hx1_0, hc1⟩ := l00From_ok code
    have hsrc : okSrc s'_1 := ⟨by rw [hx1_0.1]; exact hc.1, by rw [hx1_0.2]; decide, by rw [hx1_0.1]; exact hc.2⟩
    have hat0 := hx1_0.2
    obtain ⟨v_2, s'_2, hx2_0, hx2_1, hx2_2, hx2_3, hx2_4, hc2⟩ := l09Draw_ok s'_1 9 (by first | assumption | (simp only [okSrc] at *; simp_all; done)) (by omega) (by omega)
    refine x_r [(1, .lend [] [(7001, bxl00Src s'_1)] [(true, .any)] false (.ref 7001 0)), (2, .lend [(7001, bxl00Src s'_1, bxl00Src s'_2)] [] [(true, .any), (true, .any)] true (slFeat true v_2))] [2] [] [slFeat true v_2] [] [CallOK Tryz.prog 26 [slU8 false code] (lookO []) false (.ref 7001 0) (lookO [(7001, bxl00Src s'_1)]) ∧ True, CallOK Tryz.prog 29 [.ref 7001 0, I 9] (lookO [(7001, bxl00Src s'_1)]) true (slFeat true v_2) (lookO [(7001, bxl00Src s'_2)]) ∧ (((bxl00Src s'_1 : Ob) = bxl00Src s'_1 ∨ obLe noOb true (bxl00Src s'_1) (bxl00Src s'_1)) ∧ taggedO false (bxl00Src s'_1)) ∧ True] ⟨⟨hc1, trivial⟩, ⟨hc2, ⟨.inl rfl, (by simp [taggedO, taggedL, tagged, tagU8])⟩, trivial⟩, trivial⟩ ?_
    refine xe_then ?_
    refine x_ret ?_
    refine xe_end v_2 (show (okFeats v_2 72 = true) ∧ ((v_2.length : Int) ≤ 9) ∧ (True) from ⟨(by first | assumption | omega), (by first | assumption | omega), trivial⟩) (trivial) (slFeat true v_2) (by kernel_rfl) (.inl rfl) (fun _ => rfl) (fun _ => (tagFeat true _))
  obtain ⟨v, ⟨hh0, hh1, _⟩, hc⟩ := hh
  exact ⟨v, hh0, hh1, hc⟩


-- impl.within
theorem within_ok (n : Int) (low : Int) (high : Int) : Con Tryz.prog 33 [I n, I low, I high] true (Bv (inB n low high)) := by
  refine fn_ok (fn := Tryz.f33) (nt := 15) Tryz.func33 rfl rfl rfl rfl (by simp [taggedL, tagged]) fun B hB => ?_
  refine aR [] [0, 1, 2] [] [I n, I low, I high] [] [] hB trivial ?_
  refine aw_seq ?_
  by_cases h1 : low ≤ n
  ·refine aw_r [(2, .dec true)] [6] [] [Bv (decide (n ≤ high))] [] [low ≤ n] hB ⟨h1, trivial⟩ ?_
   refine ae_then ?_
   refine aw_ret ?_
   refine ae_ret hB (Bv (decide (n ≤ high))) (by kernel_rfl) (.inl (by first | rfl | (refine congrArg Bv ?_; simp [inB, *]; done) | (refine congrArg Bv ?_; simp [inB, *]; omega) | (refine congrArg Bv ?_; simp_all [inB]; done) | (refine congrArg Bv ?_; simp_all [inB]; omega))) rfl (fun _ => trivial)
  refine aw_r [(2, .dec false)] [6] [] [Bv false] [] [¬ (low ≤ n)] hB ⟨h1, trivial⟩ ?_
  refine ae_then ?_
  refine aw_ret ?_
  refine ae_ret hB (Bv false) (by kernel_rfl) (.inl (by first | rfl | (refine congrArg Bv ?_; simp [inB, *]; done) | (refine congrArg Bv ?_; simp [inB, *]; omega) | (refine congrArg Bv ?_; simp_all [inB]; done) | (refine congrArg Bv ?_; simp_all [inB]; omega))) rfl (fun _ => trivial)


-- impl.isLetter
theorem isLetter_ok (c : Int) : Con Tryz.prog 67 [.val (.int .u8 c)] true (Bv (inB c 97 122)) := by
  refine fn_ok (fn := Tryz.f67) (nt := 9) Tryz.func67 rfl rfl rfl rfl (by simp [taggedL, tagged]) fun B hB => ?_
  refine aR [] [0] [] [.val (.int .u8 c)] [] [] hB trivial ?_
  refine aw_seq ?_
  by_cases h1 : 97 ≤ c
  ·refine aw_r [(1, .dec true)] [2] [] [Bv (decide (c ≤ 122))] [] [97 ≤ c] hB ⟨h1, trivial⟩ ?_
   refine ae_then ?_
   refine aw_ret ?_
   refine ae_ret hB (Bv (decide (c ≤ 122))) (by kernel_rfl) (.inl (by first | rfl | (refine congrArg Bv ?_; simp [inB, *]; done) | (refine congrArg Bv ?_; simp [inB, *]; omega) | (refine congrArg Bv ?_; simp_all [inB]; done) | (refine congrArg Bv ?_; simp_all [inB]; omega))) rfl (fun _ => trivial)
  refine aw_r [(1, .dec false)] [2] [] [Bv false] [] [¬ (97 ≤ c)] hB ⟨h1, trivial⟩ ?_
  refine ae_then ?_
  refine aw_ret ?_
  refine ae_ret hB (Bv false) (by kernel_rfl) (.inl (by first | rfl | (refine congrArg Bv ?_; simp [inB, *]; done) | (refine congrArg Bv ?_; simp [inB, *]; omega) | (refine congrArg Bv ?_; simp_all [inB]; done) | (refine congrArg Bv ?_; simp_all [inB]; omega))) rfl (fun _ => trivial)


/-- Whether a byte occurs. -/
def hasB (s : ByteArray) (n : Int) : Bool := s.data.toList.any fun x => decide ((x.toNat : Int) = n)
theorem one_byte {t : ByteArray} (h : t.size = 1) : ∃ c, t = ⟨#[c]⟩ := by
  obtain ⟨⟨l⟩⟩ := t
  cases l with
  | nil => cases h
  | cons c l =>
    cases l with
    | nil => exact ⟨c, rfl⟩
    | cons d l => simp [ByteArray.size] at h
theorem has_index (l : List UInt8) (c : UInt8) : decide (0 ≤ Lib.indexByte l c) = l.any fun x => decide ((x.toNat : Int) = bAt ⟨#[c]⟩ 0) := by
  rw [← Lib.contains_iff_indexByte, Bool.eq_iff_iff]
  simp [bAt, List.contains_iff_mem]
  constructor
  · intro h; exact ⟨c, h, rfl⟩
  · rintro ⟨x, hx, e⟩
    have : x = c := UInt8.toNat_inj.1 (by omega)
    exact this ▸ hx

-- strings.Contains
theorem contains_ok (s t : ByteArray) (h : t.size = 1) : Con Tryz.prog 68 [Sv s, Sv t] true (Bv (hasB s (bAt t 0))) := by
  obtain ⟨c, rfl⟩ := one_byte h
  refine con_of_calls (vals := [.string s, .string ⟨#[c]⟩]) fun w _ => ?_
  refine (Tryz.strings_Contains_one s c w).mono ?_
  rintro e w' ⟨rfl, rfl⟩
  refine ⟨?_, Below.refl _ _⟩
  simp only [has_index, hasB]


-- impl.IsLabel
theorem implIsLabel_ok (s : ByteArray) (ok : s.size ≤ 9223372036854775807) : Con Tryz.prog 32 [Sv s] true (Bv (okLabel s)) := by
  refine fn_ok (fn := Tryz.f32) (nt := 15) Tryz.func32 rfl rfl rfl rfl (by simp [taggedL, tagged]) fun B hB => ?_
  refine aR [] [0] [] [Sv s] [] [] hB trivial ?_
  refine aw_seq ?_
  by_cases h1 : (s.size : Int) = 1
  ·rcases Bool.eq_false_or_eq_true (inB (bAt s 0) 97 122) with h2 | h2
   ·refine aw_r [(2, .dec true), (6, .call [(true, .any)] true (Bv true))] [2] [] [Bv true] [] [(s.size : Int) = 1, (0 : Int) ≤ 0 ∧ 0 < (s.size : Int), Con Tryz.prog 67 [.val (.int .u8 (bAt s 0))] true (Bv true) ∧ True] hB ⟨h1, ⟨(by omega), (by omega)⟩, ⟨(con_bool h2 (isLetter_ok (bAt s 0))), trivial⟩, trivial⟩ ?_
    refine ae_then ?_
    refine aw_ret ?_
    refine ae_ret hB (Bv true) (by kernel_rfl) (.inl (by first | (refine congrArg Bv ?_; simp_all [okLabel, labB, inB]; done) | (refine congrArg Bv ?_; have hbd := bAt_bd s 0; rw [Bool.eq_iff_iff]; simp_all [okLabel, hasB, labB, inB]; omega))) rfl (fun _ => trivial)
   refine aw_r [(2, .dec true), (6, .call [(true, .any)] true (Bv false)), (9, .call [(true, .any), (true, .any)] true (Bv (hasB (⟨#[48, 49, 50, 51, 52, 53, 54, 55, 56, 57, 43, 45, 42, 47, 61, 40, 41, 46, 44]⟩ : ByteArray) (bAt s 0))))] [2] [] [Bv (hasB (⟨#[48, 49, 50, 51, 52, 53, 54, 55, 56, 57, 43, 45, 42, 47, 61, 40, 41, 46, 44]⟩ : ByteArray) (bAt s 0))] [] [(s.size : Int) = 1, (0 : Int) ≤ 0 ∧ 0 < (s.size : Int), Con Tryz.prog 67 [.val (.int .u8 (bAt s 0))] true (Bv false) ∧ True, Con Tryz.prog 68 [Sv (⟨#[48, 49, 50, 51, 52, 53, 54, 55, 56, 57, 43, 45, 42, 47, 61, 40, 41, 46, 44]⟩ : ByteArray), Sv s] true (Bv (hasB (⟨#[48, 49, 50, 51, 52, 53, 54, 55, 56, 57, 43, 45, 42, 47, 61, 40, 41, 46, 44]⟩ : ByteArray) (bAt s 0))) ∧ True] hB ⟨h1, ⟨(by omega), (by omega)⟩, ⟨(con_bool h2 (isLetter_ok (bAt s 0))), trivial⟩, ⟨(contains_ok (⟨#[48, 49, 50, 51, 52, 53, 54, 55, 56, 57, 43, 45, 42, 47, 61, 40, 41, 46, 44]⟩ : ByteArray) s (by omega)), trivial⟩, trivial⟩ ?_
   refine ae_then ?_
   refine aw_ret ?_
   refine ae_ret hB (Bv (hasB (⟨#[48, 49, 50, 51, 52, 53, 54, 55, 56, 57, 43, 45, 42, 47, 61, 40, 41, 46, 44]⟩ : ByteArray) (bAt s 0))) (by kernel_rfl) (.inl (by first | (refine congrArg Bv ?_; simp_all [okLabel, labB, inB]; done) | (refine congrArg Bv ?_; have hbd := bAt_bd s 0; rw [Bool.eq_iff_iff]; simp_all [okLabel, hasB, labB, inB]; omega))) rfl (fun _ => trivial)
  refine aw_r [(2, .dec false)] [2] [] [Bv false] [] [¬ ((s.size : Int) = 1)] hB ⟨h1, trivial⟩ ?_
  refine ae_then ?_
  refine aw_ret ?_
  refine ae_ret hB (Bv false) (by kernel_rfl) (.inl (by first | (refine congrArg Bv ?_; simp_all [okLabel, labB, inB]; done) | (refine congrArg Bv ?_; have hbd := bAt_bd s 0; rw [Bool.eq_iff_iff]; simp_all [okLabel, hasB, labB, inB]; omega))) rfl (fun _ => trivial)


-- impl.ValidFeat
theorem ValidFeat_ok (f : Feat) : Con Tryz.prog 99 [agFeat f] true (Bv (okF f)) := by
  refine fn_ok (fn := Tryz.f99) (nt := 16) Tryz.func99 rfl rfl rfl rfl (by simp [taggedL, tagged]) fun B hB => ?_
  refine aR [(0, .new 1)] [1] [1] [.ref 1 0] [some (bxFeat f)] [] hB trivial ?_
  refine aw_seq ?_
  rcases Bool.eq_false_or_eq_true (inB f.X 0 255) with h1 | h1
  ·rcases Bool.eq_false_or_eq_true (inB f.Y 0 255) with h2 | h2
   ·refine aw_r [(2, .call [(true, .any), (true, .any), (true, .any)] true (Bv true)), (6, .call [(true, .any), (true, .any), (true, .any)] true (Bv true)), (11, .call [(true, .any), (true, .any), (true, .any)] true (Bv (inB f.D 0 7)))] [2] [] [Bv (inB f.D 0 7)] [] [Con Tryz.prog 33 [I f.X, I 0, I 255] true (Bv true) ∧ True, Con Tryz.prog 33 [I f.Y, I 0, I 255] true (Bv true) ∧ True, Con Tryz.prog 33 [I f.D, I 0, I 7] true (Bv (inB f.D 0 7)) ∧ True] hB ⟨⟨(con_bool h1 (within_ok f.X 0 255)), trivial⟩, ⟨(con_bool h2 (within_ok f.Y 0 255)), trivial⟩, ⟨(within_ok f.D 0 7), trivial⟩, trivial⟩ ?_
    refine ae_then ?_
    refine aw_ret ?_
    refine ae_ret hB (Bv (inB f.D 0 7)) (by kernel_rfl) (.inl (by first | rfl | (refine congrArg Bv ?_; simp [okF, *]; done) | (refine congrArg Bv ?_; simp [okF, *]; omega) | (refine congrArg Bv ?_; simp_all [okF]; done) | (refine congrArg Bv ?_; simp_all [okF]; omega))) rfl (fun _ => trivial)
   refine aw_r [(2, .call [(true, .any), (true, .any), (true, .any)] true (Bv true)), (6, .call [(true, .any), (true, .any), (true, .any)] true (Bv false))] [2] [] [Bv false] [] [Con Tryz.prog 33 [I f.X, I 0, I 255] true (Bv true) ∧ True, Con Tryz.prog 33 [I f.Y, I 0, I 255] true (Bv false) ∧ True] hB ⟨⟨(con_bool h1 (within_ok f.X 0 255)), trivial⟩, ⟨(con_bool h2 (within_ok f.Y 0 255)), trivial⟩, trivial⟩ ?_
   refine ae_then ?_
   refine aw_ret ?_
   refine ae_ret hB (Bv false) (by kernel_rfl) (.inl (by first | rfl | (refine congrArg Bv ?_; simp [okF, *]; done) | (refine congrArg Bv ?_; simp [okF, *]; omega) | (refine congrArg Bv ?_; simp_all [okF]; done) | (refine congrArg Bv ?_; simp_all [okF]; omega))) rfl (fun _ => trivial)
  refine aw_r [(2, .call [(true, .any), (true, .any), (true, .any)] true (Bv false))] [2] [] [Bv false] [] [Con Tryz.prog 33 [I f.X, I 0, I 255] true (Bv false) ∧ True] hB ⟨⟨(con_bool h1 (within_ok f.X 0 255)), trivial⟩, trivial⟩ ?_
  refine ae_then ?_
  refine aw_ret ?_
  refine ae_ret hB (Bv false) (by kernel_rfl) (.inl (by first | rfl | (refine congrArg Bv ?_; simp [okF, *]; done) | (refine congrArg Bv ?_; simp [okF, *]; omega) | (refine congrArg Bv ?_; simp_all [okF]; done) | (refine congrArg Bv ?_; simp_all [okF]; omega))) rfl (fun _ => trivial)


-- impl.areFeats$1
theorem areFeats1_ok (f : Feat) : Con Tryz.prog 98 [agFeat f] true (Bv (!(okF f))) := by
  refine fn_ok (fn := Tryz.f98) (nt := 6) Tryz.func98 rfl rfl rfl rfl (by simp [taggedL, tagged]) fun B hB => ?_
  refine aR [(0, .new 1)] [1] [1] [.ref 1 0] [some (bxFeat f)] [] hB trivial ?_
  refine aR [(1, .call [(true, .any)] true (Bv (okF f)))] [2] [] [Bv (!(okF f))] [] [Con Tryz.prog 99 [agFeat f] true (Bv (okF f)) ∧ True] hB ⟨⟨(ValidFeat_ok f), trivial⟩, trivial⟩ ?_
  refine aw_ret ?_
  refine ae_ret hB (Bv (!(okF f))) (by kernel_rfl) (.inl rfl) rfl (fun _ => trivial)


/-- The first number below n that p holds of, or -1. -/
def firstN (n : Nat) (p : Nat → Bool) : Int := match (List.range n).find? p with
  | some i => i
  | none => -1
theorem firstN_hit {n : Nat} {p : Nat → Bool} {k : Nat} (hk : k < n) (hp : p k = true) (hn : ∀ i, i < k → p i = false) : firstN n p = k := by
  have h : (List.range n).find? p = some k := by
    rw [List.find?_range_eq_some]
    exact ⟨hp, List.mem_range.2 hk, fun j hj => by simpa using hn j hj⟩
  simp [firstN, h]
theorem firstN_none {n : Nat} {p : Nat → Bool} (hn : ∀ i, i < n → p i = false) : firstN n p = -1 := by
  have h : (List.range n).find? p = none := by
    rw [List.find?_range_eq_none]
    intro i hi; simpa using hn i hi
  simp [firstN, h]
theorem firstN_cases (n : Nat) (p : Nat → Bool) : (firstN n p = -1 ∧ ∀ i, i < n → p i = false) ∨ ∃ k : Nat, firstN n p = k ∧ k < n ∧ p k = true ∧ ∀ i, i < k → p i = false := by
  by_cases h : ∃ k, k < n ∧ p k = true
  · right
    obtain ⟨k, hk, hp⟩ := h
    cases e : (List.range n).find? p with
    | none => rw [List.find?_range_eq_none] at e; exact absurd hp (by simpa using e k hk)
    | some i =>
      have e' := e
      rw [List.find?_range_eq_some] at e
      exact ⟨i, by simp [firstN, e'], List.mem_range.1 e.2.1, e.1, fun j hj => by simpa using e.2.2 j hj⟩
  · left
    have h' : ∀ i, i < n → p i = false := fun i hi => by rw [← Bool.not_eq_true]; exact fun hp => h ⟨i, hi, hp⟩
    exact ⟨firstN_none h', h'⟩
theorem firstN_any (n : Nat) (p : Nat → Bool) : decide (0 ≤ firstN n p) = anyN n p := by
  rcases firstN_cases n p with ⟨h1, h2⟩ | ⟨k, h1, h2, h3, _⟩
  · rw [h1, anyN_none h2]; decide
  · rw [h1, anyN_at h2 h3]; simp

-- impl.areFeats
theorem containsFeat_ok_idx (s : List Feat) : Con Tryz.prog 112 [slFeat false s, .fn 98 []] true (I (firstN s.length (fun j => (!(okF (at_ s j)))))) := by
  refine fn_ok (fn := Tryz.f112) (nt := 19) Tryz.func112 rfl rfl rfl rfl (by simp [taggedL, tagged, tagFeat]) fun B hB => ?_
  refine aw_lens (x := slFeat false s) 0 rfl (fun len_s => ?_)
  simp [LenOK, LenL, cFeat, fFeat, slFeat] at len_s
  refine aR [] [0, 1] [] [slFeat false s, .fn 98 []] [] [] hB trivial ?_
  refine aw_seq ?_
  refine aR [] [0, 1, 7, 8] [] [slFeat false s, .fn 98 [], I (s.length : Int), I 0] [] [] hB trivial ?_
  refine aw_block ?_
  refine aw_loop (fun gn gσ => ∃ (t8 : Int), gn = ((s.length : Int) - t8).toNat ∧ (0 ≤ t8 ∧ t8 ≤ (s.length : Int)) ∧ (∀ j : Nat, (j : Int) < t8 → (!(okF (at_ s j))) = false) ∧ gσ = mkS [(0, slFeat false s), (1, .fn 98 []), (7, I (s.length : Int)), (8, I t8)] []) (((s.length : Int) - 0).toNat) ⟨0, rfl, (by omega), (by intro j hj; omega), rfl⟩ (fun gn gσ hI => ?_)
  obtain ⟨t8, rfl, hi0, hall0, rfl⟩ := hI
  refine aw_seq ?_
  by_cases h1 : t8 < (s.length : Int)
  ·have hi : t8.toNat < s.length := by omega
   refine aw_r [(0, .dec true)] [0, 1, 7, 8, 9] [] [slFeat false s, .fn 98 [], I (s.length : Int), I t8, Bv true] [] [t8 < (s.length : Int)] hB ⟨h1, trivial⟩ ?_
   refine ae_then ?_
   refine aw_seq ?_
   refine aw_true rfl ?_
   refine aw_skip ?_
   refine ae_then ?_
   refine aw_seq ?_
   refine aw_block ?_
   refine aR [] [0, 1, 5, 7, 8] [] [slFeat false s, .fn 98 [], I t8, I (s.length : Int), I t8] [] [] hB trivial ?_
   refine aw_seq ?_
   rcases Bool.eq_false_or_eq_true (!(okF (at_ s t8.toNat))) with h2 | h2
   ·have hfin : firstN s.length (fun j => (!(okF (at_ s j)))) = t8.toNat := firstN_hit hi h2 (fun j hj => hall0 j (by omega))
    refine aw_r [(5, .call [(true, .any)] true (Bv true))] [0, 1, 5, 7, 8, 16] [] [slFeat false s, .fn 98 [], I t8, I (s.length : Int), I t8, Bv true] [] [(0 : Int) ≤ t8 ∧ t8 < (s.length : Int), Con Tryz.prog 98 [agFeat (at_ s t8.toNat)] true (Bv true) ∧ True] hB ⟨⟨(by omega), (by omega)⟩, ⟨(con_bool h2 (areFeats1_ok (at_ s t8.toNat))), trivial⟩, trivial⟩ ?_
    refine ae_then ?_
    refine aw_true rfl ?_
    refine aR [] [4] [] [I t8] [] [] hB trivial ?_
    refine aw_ret ?_
    refine ae_ret_block (ae_ret_then (ae_ret_then (ae_ret_block (ae_ret_then ?_))))
    refine ae_ret hB (I t8) (by kernel_rfl) (.inl (by refine congrArg I ?_; first | (rw [hfin]; done) | (rw [hfin]; omega))) rfl (fun _ => trivial)
   refine aw_r [(5, .call [(true, .any)] true (Bv false))] [0, 1, 5, 7, 8, 16] [] [slFeat false s, .fn 98 [], I t8, I (s.length : Int), I t8, Bv false] [] [(0 : Int) ≤ t8 ∧ t8 < (s.length : Int), Con Tryz.prog 98 [agFeat (at_ s t8.toNat)] true (Bv false) ∧ True] hB ⟨⟨(by omega), (by omega)⟩, ⟨(con_bool h2 (areFeats1_ok (at_ s t8.toNat))), trivial⟩, trivial⟩ ?_
   refine ae_then ?_
   refine aw_false rfl ?_
   refine aw_skip ?_
   refine ae_block 1 ?_
   refine ae_then ?_
   refine aw_r [] [0, 1, 7, 8] [] [slFeat false s, .fn 98 [], I (s.length : Int), I (t8 + 1)] [] [inR .i64 (t8 + 1)] hB ⟨(inR_i64 (by omega) (by omega)), trivial⟩ ?_
   exact ae_again _ (by omega) ⟨(t8 + 1), rfl, (by omega), (by intro j hj; by_cases ej : j = t8.toNat; (subst ej; assumption); exact hall0 j (by omega)), rfl⟩
  have hfin : firstN s.length (fun j => (!(okF (at_ s j)))) = -1 := firstN_none (fun j hj => hall0 j (by omega))
  refine aw_r [(0, .dec false)] [0, 1, 7, 8, 9] [] [slFeat false s, .fn 98 [], I (s.length : Int), I t8, Bv false] [] [¬ (t8 < (s.length : Int))] hB ⟨h1, trivial⟩ ?_
  refine ae_then ?_
  refine aw_seq ?_
  refine aw_false rfl ?_
  refine aw_exit ?_
  refine ae_exit_then ?_
  refine ae_exit_then ?_
  refine ae_exit_same ?_
  refine ae_then ?_
  refine aR [] [4] [] [I (-1)] [] [] hB trivial ?_
  refine aw_ret ?_
  refine ae_ret hB (I (-1)) (by kernel_rfl) (.inl (by refine congrArg I ?_; first | (rw [hfin]; done) | (rw [hfin]; omega))) rfl (fun _ => trivial)

theorem containsFeat_ok (s : List Feat) : Con Tryz.prog 97 [slFeat false s, .fn 98 []] true (Bv (anyN s.length (fun j => (!(okF (at_ s j)))))) := by
  refine fn_ok (fn := Tryz.f97) (nt := 9) Tryz.func97 rfl rfl rfl rfl (by simp [taggedL, tagged, tagFeat]) fun B hB => ?_
  refine aw_lens (x := slFeat false s) 0 rfl (fun len_s => ?_)
  simp [LenOK, LenL, cFeat, fFeat, slFeat] at len_s
  refine aR [] [0, 1] [] [slFeat false s, .fn 98 []] [] [] hB trivial ?_
  refine aR [(2, .call [(true, .any), (true, .any)] true (I (firstN s.length (fun j => (!(okF (at_ s j)))))))] [4] [] [Bv (decide (0 ≤ (firstN s.length (fun j => (!(okF (at_ s j)))))))] [] [Con Tryz.prog 112 [slFeat false s, .fn 98 []] true (I (firstN s.length (fun j => (!(okF (at_ s j)))))) ∧ True] hB ⟨⟨(containsFeat_ok_idx s), trivial⟩, trivial⟩ ?_
  refine aw_ret ?_
  refine ae_ret hB (Bv (decide (0 ≤ (firstN s.length (fun j => (!(okF (at_ s j)))))))) (by kernel_rfl) (.inl (by exact congrArg Bv (firstN_any _ _))) rfl (fun _ => trivial)

theorem areFeats_ok (list : List Feat) (most : Int) : Con Tryz.prog 66 [slFeat false list, I most] true (Bv (okFeats list most)) := by
  refine fn_ok (fn := Tryz.f66) (nt := 19) Tryz.func66 rfl rfl rfl rfl (by simp [taggedL, tagged, tagFeat]) fun B hB => ?_
  refine aw_lens (x := slFeat false list) 0 rfl (fun len_list => ?_)
  simp [LenOK, LenL, cFeat, fFeat, slFeat] at len_list
  refine aR [] [0, 1] [] [slFeat false list, I most] [] [] hB trivial ?_
  refine aw_seq ?_
  by_cases h1 : 1 ≤ (list.length : Int)
  ·by_cases h2 : (list.length : Int) ≤ most
   ·refine aw_r [(2, .dec true), (7, .dec true), (11, .call [(true, .any), (true, .any)] true (Bv (anyN list.length (fun j => (!(okF (at_ list j)))))))] [4] [] [Bv (!(anyN list.length (fun j => (!(okF (at_ list j))))))] [] [1 ≤ (list.length : Int), (list.length : Int) ≤ most, Con Tryz.prog 97 [slFeat false list, .fn 98 []] true (Bv (anyN list.length (fun j => (!(okF (at_ list j)))))) ∧ True] hB ⟨h1, h2, ⟨(containsFeat_ok list), trivial⟩, trivial⟩ ?_
    refine ae_then ?_
    refine aw_ret ?_
    refine ae_ret hB (Bv (!(anyN list.length (fun j => (!(okF (at_ list j))))))) (by kernel_rfl) (.inl (by first | rfl | (refine congrArg Bv ?_; simp [okFeats, anyN_not, *]; done) | (refine congrArg Bv ?_; simp [okFeats, anyN_not, *]; omega) | (refine congrArg Bv ?_; simp_all [okFeats, anyN_not]; done) | (refine congrArg Bv ?_; simp_all [okFeats, anyN_not]; omega))) rfl (fun _ => trivial)
   refine aw_r [(2, .dec true), (7, .dec false)] [4] [] [Bv false] [] [1 ≤ (list.length : Int), ¬ ((list.length : Int) ≤ most)] hB ⟨h1, h2, trivial⟩ ?_
   refine ae_then ?_
   refine aw_ret ?_
   refine ae_ret hB (Bv false) (by kernel_rfl) (.inl (by first | rfl | (refine congrArg Bv ?_; simp [okFeats, anyN_not, *]; done) | (refine congrArg Bv ?_; simp [okFeats, anyN_not, *]; omega) | (refine congrArg Bv ?_; simp_all [okFeats, anyN_not]; done) | (refine congrArg Bv ?_; simp_all [okFeats, anyN_not]; omega))) rfl (fun _ => trivial)
  refine aw_r [(2, .dec false)] [4] [] [Bv false] [] [¬ (1 ≤ (list.length : Int))] hB ⟨h1, trivial⟩ ?_
  refine ae_then ?_
  refine aw_ret ?_
  refine ae_ret hB (Bv false) (by kernel_rfl) (.inl (by first | rfl | (refine congrArg Bv ?_; simp [okFeats, anyN_not, *]; done) | (refine congrArg Bv ?_; simp [okFeats, anyN_not, *]; omega) | (refine congrArg Bv ?_; simp_all [okFeats, anyN_not]; done) | (refine congrArg Bv ?_; simp_all [okFeats, anyN_not]; omega))) rfl (fun _ => trivial)


-- impl.ValidSeq
theorem ValidSeq_ok (list : List Feat) : Con Tryz.prog 31 [slFeat false list] true (Bv (okFeats list 72)) := by
  refine fn_ok (fn := Tryz.f31) (nt := 5) Tryz.func31 rfl rfl rfl rfl (by simp [taggedL, tagged, tagFeat]) fun B hB => ?_
  refine aw_lens (x := slFeat false list) 0 rfl (fun len_list => ?_)
  simp [LenOK, LenL, cFeat, fFeat, slFeat] at len_list
  refine aR [] [0] [] [slFeat false list] [] [] hB trivial ?_
  refine aR [(1, .call [(true, .any), (true, .any)] true (Bv (okFeats list 72)))] [2] [] [Bv (okFeats list 72)] [] [Con Tryz.prog 66 [slFeat false list, I 72] true (Bv (okFeats list 72)) ∧ True] hB ⟨⟨(areFeats_ok list 72), trivial⟩, trivial⟩ ?_
  refine aw_ret ?_
  refine ae_ret hB (Bv (okFeats list 72)) (by kernel_rfl) (.inl rfl) rfl (fun _ => trivial)


-- impl.abs
theorem abs_ok (n : Int) (hn : -9223372036854775807 ≤ n ∧ n ≤ 9223372036854775807) : Con Tryz.prog 101 [I n] true (I (n.natAbs : Int)) := by
  refine fn_ok (fn := Tryz.f101) (nt := 8) Tryz.func101 rfl rfl rfl rfl (by simp [taggedL, tagged]) fun B hB => ?_
  refine aR [] [0] [] [I n] [] [] hB trivial ?_
  refine aw_seq ?_
  refine aw_seq ?_
  by_cases h1 : n < 0
  ·refine aw_r [(1, .dec true)] [0, 4] [] [I n, Bv true] [] [n < 0] hB ⟨h1, trivial⟩ ?_
   refine ae_then ?_
   refine aw_true rfl ?_
   refine aR [] [2] [] [I (-n)] [] [inR .i64 (-n)] hB ⟨(inR_i64 (by omega) (by omega)), trivial⟩ ?_
   refine aw_ret ?_
   refine ae_ret_then ?_
   refine ae_ret hB (I (-n)) (by kernel_rfl) (.inl (by refine congrArg I ?_; omega)) rfl (fun _ => trivial)
  refine aw_r [(1, .dec false)] [0, 4] [] [I n, Bv false] [] [¬ (n < 0)] hB ⟨h1, trivial⟩ ?_
  refine ae_then ?_
  refine aw_false rfl ?_
  refine aw_skip ?_
  refine ae_then ?_
  refine aR [] [2] [] [I n] [] [] hB trivial ?_
  refine aw_ret ?_
  refine ae_ret hB (I n) (by kernel_rfl) (.inl (by refine congrArg I ?_; omega)) rfl (fun _ => trivial)


-- impl.near
theorem near_ok (a : Feat) (b : Feat) (ha : okF a = true) (hb : okF b = true) : Con Tryz.prog 96 [agFeat a, agFeat b] true (Bv (nearB a b)) := by
  have ha' := okF_iff.1 ha
  have hb' := okF_iff.1 hb
  refine fn_ok (fn := Tryz.f96) (nt := 28) Tryz.func96 rfl rfl rfl rfl (by simp [taggedL, tagged]) fun B hB => ?_
  refine aR [(0, .new 2), (1, .new 3)] [2, 3] [2, 3] [.ref 2 0, .ref 3 0] [some (bxFeat a), some (bxFeat b)] [] hB trivial ?_
  refine aw_seq ?_
  by_cases h1 : a.D = b.D
  ·by_cases h2 : ((a.X - b.X).natAbs : Int) ≤ 40
   ·refine aw_r [(4, .dec true), (11, .call [(true, .any)] true (I ((a.X - b.X).natAbs : Int))), (12, .dec true), (20, .call [(true, .any)] true (I ((a.Y - b.Y).natAbs : Int)))] [4] [] [Bv (decide (((a.Y - b.Y).natAbs : Int) ≤ 40))] [] [a.D = b.D, inR .i64 (a.X - b.X), Con Tryz.prog 101 [I (a.X - b.X)] true (I ((a.X - b.X).natAbs : Int)) ∧ True, ((a.X - b.X).natAbs : Int) ≤ 40, inR .i64 (a.Y - b.Y), Con Tryz.prog 101 [I (a.Y - b.Y)] true (I ((a.Y - b.Y).natAbs : Int)) ∧ True] hB ⟨h1, (inR_i64 (by omega) (by omega)), ⟨(abs_ok (a.X - b.X) (by omega)), trivial⟩, h2, (inR_i64 (by omega) (by omega)), ⟨(abs_ok (a.Y - b.Y) (by omega)), trivial⟩, trivial⟩ ?_
    refine ae_then ?_
    refine aw_ret ?_
    refine ae_ret hB (Bv (decide (((a.Y - b.Y).natAbs : Int) ≤ 40))) (by kernel_rfl) (.inl (by first | rfl | (refine congrArg Bv ?_; simp [nearB, *]; done) | (refine congrArg Bv ?_; simp [nearB, *]; omega) | (refine congrArg Bv ?_; simp_all [nearB]; done) | (refine congrArg Bv ?_; simp_all [nearB]; omega))) rfl (fun _ => trivial)
   refine aw_r [(4, .dec true), (11, .call [(true, .any)] true (I ((a.X - b.X).natAbs : Int))), (12, .dec false)] [4] [] [Bv false] [] [a.D = b.D, inR .i64 (a.X - b.X), Con Tryz.prog 101 [I (a.X - b.X)] true (I ((a.X - b.X).natAbs : Int)) ∧ True, ¬ (((a.X - b.X).natAbs : Int) ≤ 40)] hB ⟨h1, (inR_i64 (by omega) (by omega)), ⟨(abs_ok (a.X - b.X) (by omega)), trivial⟩, h2, trivial⟩ ?_
   refine ae_then ?_
   refine aw_ret ?_
   refine ae_ret hB (Bv false) (by kernel_rfl) (.inl (by first | rfl | (refine congrArg Bv ?_; simp [nearB, *]; done) | (refine congrArg Bv ?_; simp [nearB, *]; omega) | (refine congrArg Bv ?_; simp_all [nearB]; done) | (refine congrArg Bv ?_; simp_all [nearB]; omega))) rfl (fun _ => trivial)
  refine aw_r [(4, .dec false)] [4] [] [Bv false] [] [¬ (a.D = b.D)] hB ⟨h1, trivial⟩ ?_
  refine ae_then ?_
  refine aw_ret ?_
  refine ae_ret hB (Bv false) (by kernel_rfl) (.inl (by first | rfl | (refine congrArg Bv ?_; simp [nearB, *]; done) | (refine congrArg Bv ?_; simp [nearB, *]; omega) | (refine congrArg Bv ?_; simp_all [nearB]; done) | (refine congrArg Bv ?_; simp_all [nearB]; omega))) rfl (fun _ => trivial)


def okTrained (x : Trained) : Prop := (x.Label.size ≤ 9223372036854775807)

-- impl.ValidTrained
theorem equalNear_ok (s1 : List Feat) (s2 : List Feat) (hel : ∀ j, j < s1.length → j < s2.length → okF (at_ s1 j) = true ∧ okF (at_ s2 j) = true) : Con Tryz.prog 95 [slFeat false s1, slFeat false s2, .fn 96 []] true (Bv (decide (s1.length = s2.length) && allN s1.length (fun j => nearB (at_ s1 j) (at_ s2 j)))) := by
  refine fn_ok (fn := Tryz.f95) (nt := 32) Tryz.func95 rfl rfl rfl rfl (by simp [taggedL, tagged, tagFeat]) fun B hB => ?_
  refine aw_lens (x := slFeat false s1) 0 rfl (fun len_s1 => ?_)
  simp [LenOK, LenL, cFeat, fFeat, slFeat] at len_s1
  refine aw_lens (x := slFeat false s2) 1 rfl (fun len_s2 => ?_)
  simp [LenOK, LenL, cFeat, fFeat, slFeat] at len_s2
  refine aR [] [0, 1, 2] [] [slFeat false s1, slFeat false s2, .fn 96 []] [] [] hB trivial ?_
  refine aw_seq ?_
  refine aw_seq ?_
  by_cases h1 : (s1.length : Int) = (s2.length : Int)
  ·have hle :  s1.length = s2.length := by omega
   refine aw_r [(4, .dec false)] [0, 1, 2, 14] [] [slFeat false s1, slFeat false s2, .fn 96 [], Bv false] [] [¬ ((s1.length : Int) ≠ (s2.length : Int))] hB ⟨(fun hq => hq h1), trivial⟩ ?_
   refine ae_then ?_
   refine aw_false rfl ?_
   refine aw_skip ?_
   refine ae_then ?_
   refine aw_seq ?_
   refine aR [] [1, 2, 15, 16, 17] [] [slFeat false s2, .fn 96 [], slFeat false s1, I (s1.length : Int), I 0] [] [] hB trivial ?_
   refine aw_block ?_
   refine aw_loop (fun gn gσ => ∃ (t17 : Int), gn = ((s1.length : Int) - t17).toNat ∧ (0 ≤ t17 ∧ t17 ≤ (s1.length : Int)) ∧ (∀ j : Nat, (j : Int) < t17 → nearB (at_ s1 j) (at_ s2 j) = true) ∧ gσ = mkS [(1, slFeat false s2), (2, .fn 96 []), (15, slFeat false s1), (16, I (s1.length : Int)), (17, I t17)] []) (((s1.length : Int) - 0).toNat) ⟨0, rfl, (by omega), (by intro j hj; omega), rfl⟩ (fun gn gσ hI => ?_)
   obtain ⟨t17, rfl, hi0, hall0, rfl⟩ := hI
   refine aw_seq ?_
   by_cases h2 : t17 < (s1.length : Int)
   ·have hi : t17.toNat < s1.length := by omega
    have hi2 : t17.toNat < s2.length := by omega
    refine aw_r [(0, .dec true)] [1, 2, 15, 16, 17, 18] [] [slFeat false s2, .fn 96 [], slFeat false s1, I (s1.length : Int), I t17, Bv true] [] [t17 < (s1.length : Int)] hB ⟨h2, trivial⟩ ?_
    refine ae_then ?_
    refine aw_seq ?_
    refine aw_true rfl ?_
    refine aw_skip ?_
    refine ae_then ?_
    refine aw_seq ?_
    refine aw_block ?_
    refine aR [(3, .new 8)] [1, 2, 7, 8, 15, 16, 17] [8] [slFeat false s2, .fn 96 [], I t17, .ref 8 0, slFeat false s1, I (s1.length : Int), I t17] [some (bxFeat (at_ s1 t17.toNat))] [(0 : Int) ≤ t17 ∧ t17 < (s1.length : Int)] hB ⟨⟨(by omega), (by omega)⟩, trivial⟩ ?_
    refine aR [(4, .new 9)] [1, 2, 8, 9, 15, 16, 17] [8, 9] [slFeat false s2, .fn 96 [], .ref 8 0, .ref 9 0, slFeat false s1, I (s1.length : Int), I t17] [some (bxFeat (at_ s1 t17.toNat)), some (bxFeat (at_ s2 t17.toNat))] [(0 : Int) ≤ t17 ∧ t17 < (s2.length : Int)] hB ⟨⟨(by omega), (by omega)⟩, trivial⟩ ?_
    refine aw_seq ?_
    rcases Bool.eq_false_or_eq_true (nearB (at_ s1 t17.toNat) (at_ s2 t17.toNat)) with h3 | h3
    ·refine aw_r [(3, .call [(true, .any), (true, .any)] true (Bv true))] [1, 2, 15, 16, 17, 30] [] [slFeat false s2, .fn 96 [], slFeat false s1, I (s1.length : Int), I t17, Bv false] [] [Con Tryz.prog 96 [agFeat (at_ s1 t17.toNat), agFeat (at_ s2 t17.toNat)] true (Bv true) ∧ True] hB ⟨⟨(con_bool h3 (near_ok (at_ s1 t17.toNat) (at_ s2 t17.toNat) (hel _ hi hi2).1 (hel _ hi hi2).2)), trivial⟩, trivial⟩ ?_
     refine ae_then ?_
     refine aw_false rfl ?_
     refine aw_skip ?_
     refine ae_block 1 ?_
     refine ae_then ?_
     refine aw_r [] [1, 2, 15, 16, 17] [] [slFeat false s2, .fn 96 [], slFeat false s1, I (s1.length : Int), I (t17 + 1)] [] [inR .i64 (t17 + 1)] hB ⟨(inR_i64 (by omega) (by omega)), trivial⟩ ?_
     exact ae_again _ (by omega) ⟨(t17 + 1), rfl, (by omega), (by intro j hj; by_cases ej : j = t17.toNat; (subst ej; assumption); exact hall0 j (by omega)), rfl⟩
    have hfin : allN s1.length (fun j => nearB (at_ s1 j) (at_ s2 j)) = false := allN_not hi h3
    refine aw_r [(3, .call [(true, .any), (true, .any)] true (Bv false))] [1, 2, 15, 16, 17, 30] [] [slFeat false s2, .fn 96 [], slFeat false s1, I (s1.length : Int), I t17, Bv true] [] [Con Tryz.prog 96 [agFeat (at_ s1 t17.toNat), agFeat (at_ s2 t17.toNat)] true (Bv false) ∧ True] hB ⟨⟨(con_bool h3 (near_ok (at_ s1 t17.toNat) (at_ s2 t17.toNat) (hel _ hi hi2).1 (hel _ hi hi2).2)), trivial⟩, trivial⟩ ?_
    refine ae_then ?_
    refine aw_true rfl ?_
    refine aR [] [6] [] [Bv false] [] [] hB trivial ?_
    refine aw_ret ?_
    refine ae_ret_block (ae_ret_then (ae_ret_then (ae_ret_block (ae_ret_then ?_))))
    refine ae_ret hB (Bv false) (by kernel_rfl) (.inl (by refine congrArg Bv ?_; first | (rw [hfin, decide_eq_true hle]; rfl) | (rw [hfin, Bool.and_false]) | (rw [decide_eq_false hle, Bool.false_and]))) rfl (fun _ => trivial)
   have hfin : allN s1.length (fun j => nearB (at_ s1 j) (at_ s2 j)) = true := allN_at (fun j hj => hall0 j (by omega))
   have hle : s1.length = s2.length := by omega
   refine aw_r [(0, .dec false)] [1, 2, 15, 16, 17, 18] [] [slFeat false s2, .fn 96 [], slFeat false s1, I (s1.length : Int), I t17, Bv false] [] [¬ (t17 < (s1.length : Int))] hB ⟨h2, trivial⟩ ?_
   refine ae_then ?_
   refine aw_seq ?_
   refine aw_false rfl ?_
   refine aw_exit ?_
   refine ae_exit_then ?_
   refine ae_exit_then ?_
   refine ae_exit_same ?_
   refine ae_then ?_
   refine aR [] [6] [] [Bv true] [] [] hB trivial ?_
   refine aw_ret ?_
   refine ae_ret hB (Bv true) (by kernel_rfl) (.inl (by refine congrArg Bv ?_; first | (rw [hfin, decide_eq_true hle]; rfl) | (rw [hfin, Bool.and_false]) | (rw [decide_eq_false hle, Bool.false_and]))) rfl (fun _ => trivial)
  have hle : ¬ s1.length = s2.length := by omega
  refine aw_r [(4, .dec true)] [0, 1, 2, 14] [] [slFeat false s1, slFeat false s2, .fn 96 [], Bv true] [] [(s1.length : Int) ≠ (s2.length : Int)] hB ⟨h1, trivial⟩ ?_
  refine ae_then ?_
  refine aw_true rfl ?_
  refine aR [] [6] [] [Bv false] [] [] hB trivial ?_
  refine aw_ret ?_
  refine ae_ret_then ?_
  refine ae_ret hB (Bv false) (by kernel_rfl) (.inl (by refine congrArg Bv ?_; first | (rw [hfin, decide_eq_true hle]; rfl) | (rw [hfin, Bool.and_false]) | (rw [decide_eq_false hle, Bool.false_and]))) rfl (fun _ => trivial)

theorem ValidTrained_ok (t : Trained) (ok : okTrained t) : Con Tryz.prog 65 [agTrained t] true (Bv (okTrained' t)) := by
  refine fn_ok (fn := Tryz.f65) (nt := 28) Tryz.func65 rfl rfl rfl rfl (by simp [taggedL, tagged, tagFeat]) fun B hB => ?_
  refine aw_lens (x := agTrained t) 0 rfl (fun len_t => ?_)
  simp [LenOK, LenL, cFeat, fFeat, slFeat] at len_t
  refine aR [(0, .new 1)] [1] [1] [.ref 1 0] [some (bxTrained t)] [] hB trivial ?_
  refine aw_seq ?_
  rcases Bool.eq_false_or_eq_true (okLabel t.Label) with h1 | h1
  ·rcases Bool.eq_false_or_eq_true (okFeats t.Base 72) with h2 | h2
   ·rcases Bool.eq_false_or_eq_true (okFeats t.Feats 72) with h3 | h3
    ·rcases Bool.eq_false_or_eq_true (decide (t.Base.length = t.Feats.length) && allN t.Base.length (fun j => nearB (at_ t.Base j) (at_ t.Feats j))) with h4 | h4
     ·refine aw_r [(2, .call [(true, .any)] true (Bv true)), (6, .call [(true, .any)] true (Bv true)), (11, .call [(true, .any)] true (Bv true)), (18, .call [(true, .any), (true, .any), (true, .any)] true (Bv true)), (23, .call [(true, .any), (true, .any), (true, .any)] true (Bv (inB t.Count 0 100)))] [2] [] [Bv (inB t.Count 0 100)] [] [Con Tryz.prog 32 [Sv t.Label] true (Bv true) ∧ True, Con Tryz.prog 31 [slFeat false t.Base] true (Bv true) ∧ True, Con Tryz.prog 31 [slFeat false t.Feats] true (Bv true) ∧ True, Con Tryz.prog 95 [slFeat false t.Base, slFeat false t.Feats, .fn 96 []] true (Bv true) ∧ True, Con Tryz.prog 33 [I t.Count, I 0, I 100] true (Bv (inB t.Count 0 100)) ∧ True] hB ⟨⟨(con_bool h1 (implIsLabel_ok t.Label ok)), trivial⟩, ⟨(con_bool h2 (ValidSeq_ok t.Base)), trivial⟩, ⟨(con_bool h3 (ValidSeq_ok t.Feats)), trivial⟩, ⟨(con_bool h4 (equalNear_ok t.Base t.Feats (fun j h1 h2 => ⟨okFeats_at (by assumption) h1, okFeats_at (by assumption) h2⟩))), trivial⟩, ⟨(within_ok t.Count 0 100), trivial⟩, trivial⟩ ?_
      refine ae_then ?_
      refine aw_ret ?_
      refine ae_ret hB (Bv (inB t.Count 0 100)) (by kernel_rfl) (.inl (by first | rfl | (refine congrArg Bv ?_; simp [okTrained', inB, *]; done) | (refine congrArg Bv ?_; simp [okTrained', inB, *]; omega) | (refine congrArg Bv ?_; simp_all [okTrained', inB]; done) | (refine congrArg Bv ?_; simp_all [okTrained', inB]; omega))) rfl (fun _ => trivial)
     refine aw_r [(2, .call [(true, .any)] true (Bv true)), (6, .call [(true, .any)] true (Bv true)), (11, .call [(true, .any)] true (Bv true)), (18, .call [(true, .any), (true, .any), (true, .any)] true (Bv false))] [2] [] [Bv false] [] [Con Tryz.prog 32 [Sv t.Label] true (Bv true) ∧ True, Con Tryz.prog 31 [slFeat false t.Base] true (Bv true) ∧ True, Con Tryz.prog 31 [slFeat false t.Feats] true (Bv true) ∧ True, Con Tryz.prog 95 [slFeat false t.Base, slFeat false t.Feats, .fn 96 []] true (Bv false) ∧ True] hB ⟨⟨(con_bool h1 (implIsLabel_ok t.Label ok)), trivial⟩, ⟨(con_bool h2 (ValidSeq_ok t.Base)), trivial⟩, ⟨(con_bool h3 (ValidSeq_ok t.Feats)), trivial⟩, ⟨(con_bool h4 (equalNear_ok t.Base t.Feats (fun j h1 h2 => ⟨okFeats_at (by assumption) h1, okFeats_at (by assumption) h2⟩))), trivial⟩, trivial⟩ ?_
     refine ae_then ?_
     refine aw_ret ?_
     refine ae_ret hB (Bv false) (by kernel_rfl) (.inl (by first | rfl | (refine congrArg Bv ?_; simp [okTrained', inB, *]; done) | (refine congrArg Bv ?_; simp [okTrained', inB, *]; omega) | (refine congrArg Bv ?_; simp_all [okTrained', inB]; done) | (refine congrArg Bv ?_; simp_all [okTrained', inB]; omega))) rfl (fun _ => trivial)
    refine aw_r [(2, .call [(true, .any)] true (Bv true)), (6, .call [(true, .any)] true (Bv true)), (11, .call [(true, .any)] true (Bv false))] [2] [] [Bv false] [] [Con Tryz.prog 32 [Sv t.Label] true (Bv true) ∧ True, Con Tryz.prog 31 [slFeat false t.Base] true (Bv true) ∧ True, Con Tryz.prog 31 [slFeat false t.Feats] true (Bv false) ∧ True] hB ⟨⟨(con_bool h1 (implIsLabel_ok t.Label ok)), trivial⟩, ⟨(con_bool h2 (ValidSeq_ok t.Base)), trivial⟩, ⟨(con_bool h3 (ValidSeq_ok t.Feats)), trivial⟩, trivial⟩ ?_
    refine ae_then ?_
    refine aw_ret ?_
    refine ae_ret hB (Bv false) (by kernel_rfl) (.inl (by first | rfl | (refine congrArg Bv ?_; simp [okTrained', inB, *]; done) | (refine congrArg Bv ?_; simp [okTrained', inB, *]; omega) | (refine congrArg Bv ?_; simp_all [okTrained', inB]; done) | (refine congrArg Bv ?_; simp_all [okTrained', inB]; omega))) rfl (fun _ => trivial)
   refine aw_r [(2, .call [(true, .any)] true (Bv true)), (6, .call [(true, .any)] true (Bv false))] [2] [] [Bv false] [] [Con Tryz.prog 32 [Sv t.Label] true (Bv true) ∧ True, Con Tryz.prog 31 [slFeat false t.Base] true (Bv false) ∧ True] hB ⟨⟨(con_bool h1 (implIsLabel_ok t.Label ok)), trivial⟩, ⟨(con_bool h2 (ValidSeq_ok t.Base)), trivial⟩, trivial⟩ ?_
   refine ae_then ?_
   refine aw_ret ?_
   refine ae_ret hB (Bv false) (by kernel_rfl) (.inl (by first | rfl | (refine congrArg Bv ?_; simp [okTrained', inB, *]; done) | (refine congrArg Bv ?_; simp [okTrained', inB, *]; omega) | (refine congrArg Bv ?_; simp_all [okTrained', inB]; done) | (refine congrArg Bv ?_; simp_all [okTrained', inB]; omega))) rfl (fun _ => trivial)
  refine aw_r [(2, .call [(true, .any)] true (Bv false))] [2] [] [Bv false] [] [Con Tryz.prog 32 [Sv t.Label] true (Bv false) ∧ True] hB ⟨⟨(con_bool h1 (implIsLabel_ok t.Label ok)), trivial⟩, trivial⟩ ?_
  refine ae_then ?_
  refine aw_ret ?_
  refine ae_ret hB (Bv false) (by kernel_rfl) (.inl (by first | rfl | (refine congrArg Bv ?_; simp [okTrained', inB, *]; done) | (refine congrArg Bv ?_; simp [okTrained', inB, *]; omega) | (refine congrArg Bv ?_; simp_all [okTrained', inB]; done) | (refine congrArg Bv ?_; simp_all [okTrained', inB]; omega))) rfl (fun _ => trivial)


-- impl.ValidWriter$1
theorem ValidWriter1_ok (t : Trained) (ok : okTrained t) : Con Tryz.prog 64 [agTrained t] true (Bv (!(okTrained' t))) := by
  refine fn_ok (fn := Tryz.f64) (nt := 6) Tryz.func64 rfl rfl rfl rfl (by simp [taggedL, tagged, tagFeat]) fun B hB => ?_
  refine aw_lens (x := agTrained t) 0 rfl (fun len_t => ?_)
  simp [LenOK, LenL, cFeat, fFeat, slFeat] at len_t
  refine aR [(0, .new 1)] [1] [1] [.ref 1 0] [some (bxTrained t)] [] hB trivial ?_
  refine aR [(1, .call [(true, .any)] true (Bv (okTrained' t)))] [2] [] [Bv (!(okTrained' t))] [] [Con Tryz.prog 65 [agTrained t] true (Bv (okTrained' t)) ∧ True] hB ⟨⟨(ValidTrained_ok t ok), trivial⟩, trivial⟩ ?_
  refine aw_ret ?_
  refine ae_ret hB (Bv (!(okTrained' t))) (by kernel_rfl) (.inl rfl) rfl (fun _ => trivial)


def okWriter' (w : Writer) : Bool := inB w.Band 0 72 && (decide ((w.Trained.length : Int) ≤ 40) && allN w.Trained.length (fun j => okTrained' (at_ w.Trained j)))

def okWriter (x : Writer) : Prop := (∀ y ∈ x.Trained, okTrained y)

-- impl.ValidWriter
theorem containsTr_ok_idx (s : List Trained) (hel : ∀ j, j < s.length → okTrained (at_ s j)) : Con Tryz.prog 94 [slTrained false s, .fn 64 []] true (I (firstN s.length (fun j => (!(okTrained' (at_ s j)))))) := by
  refine fn_ok (fn := Tryz.f94) (nt := 19) Tryz.func94 rfl rfl rfl rfl (by simp [taggedL, tagged, tagTrained]) fun B hB => ?_
  refine aw_lens (x := slTrained false s) 0 rfl (fun len_s => ?_)
  simp [LenOK, LenL, cFeat, cTrained, fFeat, fTrained, slFeat, slTrained] at len_s
  refine aR [] [0, 1] [] [slTrained false s, .fn 64 []] [] [] hB trivial ?_
  refine aw_seq ?_
  refine aR [] [0, 1, 7, 8] [] [slTrained false s, .fn 64 [], I (s.length : Int), I 0] [] [] hB trivial ?_
  refine aw_block ?_
  refine aw_loop (fun gn gσ => ∃ (t8 : Int), gn = ((s.length : Int) - t8).toNat ∧ (0 ≤ t8 ∧ t8 ≤ (s.length : Int)) ∧ (∀ j : Nat, (j : Int) < t8 → (!(okTrained' (at_ s j))) = false) ∧ gσ = mkS [(0, slTrained false s), (1, .fn 64 []), (7, I (s.length : Int)), (8, I t8)] []) (((s.length : Int) - 0).toNat) ⟨0, rfl, (by omega), (by intro j hj; omega), rfl⟩ (fun gn gσ hI => ?_)
  obtain ⟨t8, rfl, hi0, hall0, rfl⟩ := hI
  refine aw_seq ?_
  by_cases h1 : t8 < (s.length : Int)
  ·have hi : t8.toNat < s.length := by omega
   refine aw_r [(0, .dec true)] [0, 1, 7, 8, 9] [] [slTrained false s, .fn 64 [], I (s.length : Int), I t8, Bv true] [] [t8 < (s.length : Int)] hB ⟨h1, trivial⟩ ?_
   refine ae_then ?_
   refine aw_seq ?_
   refine aw_true rfl ?_
   refine aw_skip ?_
   refine ae_then ?_
   refine aw_seq ?_
   refine aw_block ?_
   refine aR [] [0, 1, 5, 7, 8] [] [slTrained false s, .fn 64 [], I t8, I (s.length : Int), I t8] [] [] hB trivial ?_
   refine aw_seq ?_
   rcases Bool.eq_false_or_eq_true (!(okTrained' (at_ s t8.toNat))) with h2 | h2
   ·have hfin : firstN s.length (fun j => (!(okTrained' (at_ s j)))) = t8.toNat := firstN_hit hi h2 (fun j hj => hall0 j (by omega))
    refine aw_r [(5, .call [(true, .any)] true (Bv true))] [0, 1, 5, 7, 8, 16] [] [slTrained false s, .fn 64 [], I t8, I (s.length : Int), I t8, Bv true] [] [(0 : Int) ≤ t8 ∧ t8 < (s.length : Int), Con Tryz.prog 64 [agTrained (at_ s t8.toNat)] true (Bv true) ∧ True] hB ⟨⟨(by omega), (by omega)⟩, ⟨(con_bool h2 (ValidWriter1_ok (at_ s t8.toNat) (hel _ hi))), trivial⟩, trivial⟩ ?_
    refine ae_then ?_
    refine aw_true rfl ?_
    refine aR [] [4] [] [I t8] [] [] hB trivial ?_
    refine aw_ret ?_
    refine ae_ret_block (ae_ret_then (ae_ret_then (ae_ret_block (ae_ret_then ?_))))
    refine ae_ret hB (I t8) (by kernel_rfl) (.inl (by refine congrArg I ?_; first | (rw [hfin]; done) | (rw [hfin]; omega))) rfl (fun _ => trivial)
   refine aw_r [(5, .call [(true, .any)] true (Bv false))] [0, 1, 5, 7, 8, 16] [] [slTrained false s, .fn 64 [], I t8, I (s.length : Int), I t8, Bv false] [] [(0 : Int) ≤ t8 ∧ t8 < (s.length : Int), Con Tryz.prog 64 [agTrained (at_ s t8.toNat)] true (Bv false) ∧ True] hB ⟨⟨(by omega), (by omega)⟩, ⟨(con_bool h2 (ValidWriter1_ok (at_ s t8.toNat) (hel _ hi))), trivial⟩, trivial⟩ ?_
   refine ae_then ?_
   refine aw_false rfl ?_
   refine aw_skip ?_
   refine ae_block 1 ?_
   refine ae_then ?_
   refine aw_r [] [0, 1, 7, 8] [] [slTrained false s, .fn 64 [], I (s.length : Int), I (t8 + 1)] [] [inR .i64 (t8 + 1)] hB ⟨(inR_i64 (by omega) (by omega)), trivial⟩ ?_
   exact ae_again _ (by omega) ⟨(t8 + 1), rfl, (by omega), (by intro j hj; by_cases ej : j = t8.toNat; (subst ej; assumption); exact hall0 j (by omega)), rfl⟩
  have hfin : firstN s.length (fun j => (!(okTrained' (at_ s j)))) = -1 := firstN_none (fun j hj => hall0 j (by omega))
  refine aw_r [(0, .dec false)] [0, 1, 7, 8, 9] [] [slTrained false s, .fn 64 [], I (s.length : Int), I t8, Bv false] [] [¬ (t8 < (s.length : Int))] hB ⟨h1, trivial⟩ ?_
  refine ae_then ?_
  refine aw_seq ?_
  refine aw_false rfl ?_
  refine aw_exit ?_
  refine ae_exit_then ?_
  refine ae_exit_then ?_
  refine ae_exit_same ?_
  refine ae_then ?_
  refine aR [] [4] [] [I (-1)] [] [] hB trivial ?_
  refine aw_ret ?_
  refine ae_ret hB (I (-1)) (by kernel_rfl) (.inl (by refine congrArg I ?_; first | (rw [hfin]; done) | (rw [hfin]; omega))) rfl (fun _ => trivial)

theorem containsTr_ok (s : List Trained) (hel : ∀ j, j < s.length → okTrained (at_ s j)) : Con Tryz.prog 63 [slTrained false s, .fn 64 []] true (Bv (anyN s.length (fun j => (!(okTrained' (at_ s j)))))) := by
  refine fn_ok (fn := Tryz.f63) (nt := 9) Tryz.func63 rfl rfl rfl rfl (by simp [taggedL, tagged, tagTrained]) fun B hB => ?_
  refine aw_lens (x := slTrained false s) 0 rfl (fun len_s => ?_)
  simp [LenOK, LenL, cFeat, cTrained, fFeat, fTrained, slFeat, slTrained] at len_s
  refine aR [] [0, 1] [] [slTrained false s, .fn 64 []] [] [] hB trivial ?_
  refine aR [(2, .call [(true, .any), (true, .any)] true (I (firstN s.length (fun j => (!(okTrained' (at_ s j)))))))] [4] [] [Bv (decide (0 ≤ (firstN s.length (fun j => (!(okTrained' (at_ s j)))))))] [] [Con Tryz.prog 94 [slTrained false s, .fn 64 []] true (I (firstN s.length (fun j => (!(okTrained' (at_ s j)))))) ∧ True] hB ⟨⟨(containsTr_ok_idx s hel), trivial⟩, trivial⟩ ?_
  refine aw_ret ?_
  refine ae_ret hB (Bv (decide (0 ≤ (firstN s.length (fun j => (!(okTrained' (at_ s j)))))))) (by kernel_rfl) (.inl (by exact congrArg Bv (firstN_any _ _))) rfl (fun _ => trivial)

theorem ValidWriter_ok (w : Writer) (ok : okWriter w) : Con Tryz.prog 30 [agWriter w] true (Bv (okWriter' w)) := by
  refine fn_ok (fn := Tryz.f30) (nt := 18) Tryz.func30 rfl rfl rfl rfl (by simp [taggedL, tagged, tagTrained]) fun B hB => ?_
  refine aw_lens (x := agWriter w) 0 rfl (fun len_w => ?_)
  simp [LenOK, LenL, cFeat, cTrained, fFeat, fTrained, slFeat, slTrained] at len_w
  refine aR [(0, .new 1)] [1] [1] [.ref 1 0] [some (bxWriter w)] [] hB trivial ?_
  refine aw_seq ?_
  rcases Bool.eq_false_or_eq_true (inB w.Band 0 72) with h1 | h1
  ·by_cases h2 : (w.Trained.length : Int) ≤ 40
   ·refine aw_r [(2, .call [(true, .any), (true, .any), (true, .any)] true (Bv true)), (7, .dec true), (12, .call [(true, .any), (true, .any)] true (Bv (anyN w.Trained.length (fun j => (!(okTrained' (at_ w.Trained j)))))))] [2] [] [Bv (!(anyN w.Trained.length (fun j => (!(okTrained' (at_ w.Trained j))))))] [] [Con Tryz.prog 33 [I w.Band, I 0, I 72] true (Bv true) ∧ True, (w.Trained.length : Int) ≤ 40, Con Tryz.prog 63 [slTrained false w.Trained, .fn 64 []] true (Bv (anyN w.Trained.length (fun j => (!(okTrained' (at_ w.Trained j)))))) ∧ True] hB ⟨⟨(con_bool h1 (within_ok w.Band 0 72)), trivial⟩, h2, ⟨(containsTr_ok w.Trained (fun j hj => ok _ (at_mem hj))), trivial⟩, trivial⟩ ?_
    refine ae_then ?_
    refine aw_ret ?_
    refine ae_ret hB (Bv (!(anyN w.Trained.length (fun j => (!(okTrained' (at_ w.Trained j))))))) (by kernel_rfl) (.inl (by first | rfl | (refine congrArg Bv ?_; simp [okWriter', anyN_not, *]; done) | (refine congrArg Bv ?_; simp [okWriter', anyN_not, *]; omega) | (refine congrArg Bv ?_; simp_all [okWriter', anyN_not]; done) | (refine congrArg Bv ?_; simp_all [okWriter', anyN_not]; omega))) rfl (fun _ => trivial)
   refine aw_r [(2, .call [(true, .any), (true, .any), (true, .any)] true (Bv true)), (7, .dec false)] [2] [] [Bv false] [] [Con Tryz.prog 33 [I w.Band, I 0, I 72] true (Bv true) ∧ True, ¬ ((w.Trained.length : Int) ≤ 40)] hB ⟨⟨(con_bool h1 (within_ok w.Band 0 72)), trivial⟩, h2, trivial⟩ ?_
   refine ae_then ?_
   refine aw_ret ?_
   refine ae_ret hB (Bv false) (by kernel_rfl) (.inl (by first | rfl | (refine congrArg Bv ?_; simp [okWriter', anyN_not, *]; done) | (refine congrArg Bv ?_; simp [okWriter', anyN_not, *]; omega) | (refine congrArg Bv ?_; simp_all [okWriter', anyN_not]; done) | (refine congrArg Bv ?_; simp_all [okWriter', anyN_not]; omega))) rfl (fun _ => trivial)
  refine aw_r [(2, .call [(true, .any), (true, .any), (true, .any)] true (Bv false))] [2] [] [Bv false] [] [Con Tryz.prog 33 [I w.Band, I 0, I 72] true (Bv false) ∧ True] hB ⟨⟨(con_bool h1 (within_ok w.Band 0 72)), trivial⟩, trivial⟩ ?_
  refine ae_then ?_
  refine aw_ret ?_
  refine ae_ret hB (Bv false) (by kernel_rfl) (.inl (by first | rfl | (refine congrArg Bv ?_; simp [okWriter', anyN_not, *]; done) | (refine congrArg Bv ?_; simp [okWriter', anyN_not, *]; omega) | (refine congrArg Bv ?_; simp_all [okWriter', anyN_not]; done) | (refine congrArg Bv ?_; simp_all [okWriter', anyN_not]; omega))) rfl (fun _ => trivial)


-- impl.isBand
theorem isBand_ok (band : Int) (n : Int) (m : Int) (hn : 0 ≤ n ∧ n ≤ 4611686018427387904) (hm : 0 ≤ m ∧ m ≤ 4611686018427387904) : Con Tryz.prog 69 [I band, I n, I m] true (Bv (inB band 0 72 && decide (((n - m).natAbs : Int) ≤ band))) := by
  refine fn_ok (fn := Tryz.f69) (nt := 17) Tryz.func69 rfl rfl rfl rfl (by simp [taggedL, tagged]) fun B hB => ?_
  refine aR [] [0, 1, 2] [] [I band, I n, I m] [] [] hB trivial ?_
  refine aw_seq ?_
  rcases Bool.eq_false_or_eq_true (inB band 0 72) with h1 | h1
  ·refine aw_r [(1, .call [(true, .any), (true, .any), (true, .any)] true (Bv true)), (6, .call [(true, .any)] true (I ((n - m).natAbs : Int)))] [6] [] [Bv (decide (((n - m).natAbs : Int) ≤ band))] [] [Con Tryz.prog 33 [I band, I 0, I 72] true (Bv true) ∧ True, inR .i64 (n - m), Con Tryz.prog 101 [I (n - m)] true (I ((n - m).natAbs : Int)) ∧ True] hB ⟨⟨(con_bool h1 (within_ok band 0 72)), trivial⟩, (inR_i64 (by omega) (by omega)), ⟨(abs_ok (n - m) (by omega)), trivial⟩, trivial⟩ ?_
   refine ae_then ?_
   refine aw_ret ?_
   refine ae_ret hB (Bv (decide (((n - m).natAbs : Int) ≤ band))) (by kernel_rfl) (.inl (by refine congrArg Bv ?_; first | (simp [*]; done) | (simp [inB] at *; omega))) rfl (fun _ => trivial)
  refine aw_r [(1, .call [(true, .any), (true, .any), (true, .any)] true (Bv false))] [6] [] [Bv false] [] [Con Tryz.prog 33 [I band, I 0, I 72] true (Bv false) ∧ True] hB ⟨⟨(con_bool h1 (within_ok band 0 72)), trivial⟩, trivial⟩ ?_
  refine ae_then ?_
  refine aw_ret ?_
  refine ae_ret hB (Bv false) (by kernel_rfl) (.inl (by refine congrArg Bv ?_; first | (simp [*]; done) | (simp [inB] at *; omega))) rfl (fun _ => trivial)


-- impl.stepsBack
theorem stepsBack_ok : Con Tryz.prog 105 [] true (.agg [I 1, I 1, I 1, I 0, I 0, I 1]) := by
  refine fn_ok (fn := Tryz.f105) (nt := 5) Tryz.func105 rfl rfl rfl rfl (by simp [taggedL, tagged]) fun B hB => ?_
  refine aR [(0, .new 0)] [0] [0] [.ref 0 0] [some (.box [I 0, I 0, I 0, I 0, I 0, I 0])] [] hB trivial ?_
  refine aR [] [0] [0] [.ref 0 0] [some (.box [I 1, I 1, I 1, I 0, I 0, I 1])] [] hB trivial ?_
  refine aw_ret ?_
  refine ae_ret hB (.agg [I 1, I 1, I 1, I 0, I 0, I 1]) (by kernel_rfl) (.inl rfl) rfl (fun _ => (by simp [tagged, taggedL]))


-- impl.leastBefore
theorem leastBefore_ok (table : List (List Int)) (i : Int) (j : Int) (hi : 0 ≤ i ∧ i < (table.length : Int)) (hj : 0 ≤ j ∧ j ≤ 1000) (h1 : 1 ≤ i → j < ((at_ table (i - 1).toNat).length : Int)) (h2 : 1 ≤ j → j ≤ ((at_ table (i - 0).toNat).length : Int)) : Con Tryz.prog 104 [slLI false table, I i, I j] true (I (lb3 table i j)) := by
  refine fn_ok (fn := Tryz.f104) (nt := 41) Tryz.func104 rfl rfl rfl rfl (by simp [taggedL, tagged, tagLI]) fun B hB => ?_
  refine aw_lens (x := slLI false table) 0 rfl (fun len_table => ?_)
  simp [LenOK, LenL, cI, cLI, fI, fLI, slI, slLI] at len_table
  refine aR [] [0, 1, 2] [] [slLI false table, I i, I j] [] [] hB trivial ?_
  refine aR [] [0, 1, 2, 7] [] [slLI false table, I i, I j, I 1099511627776] [] [] hB trivial ?_
  refine aw_seq ?_
  refine aR [(0, .call [] true (.agg [I 1, I 1, I 1, I 0, I 0, I 1]))] [0, 1, 2, 7, 10, 11] [] [slLI false table, I i, I j, I 1099511627776, .agg [I 1, I 1, I 1, I 0, I 0, I 1], I 0] [] [Con Tryz.prog 105 [] true (.agg [I 1, I 1, I 1, I 0, I 0, I 1]) ∧ True] hB ⟨⟨(stepsBack_ok), trivial⟩, trivial⟩ ?_
  refine aw_block ?_
  refine aw_loop (fun gn gσ => ∃ (least : Int) (t11 : Int), gn = ((3 : Int) - t11).toNat ∧ (0 ≤ t11 ∧ t11 ≤ 3) ∧ (least = lbk table i j t11.toNat) ∧ gσ = mkS [(0, slLI false table), (1, I i), (2, I j), (7, I least), (10, .agg [I 1, I 1, I 1, I 0, I 0, I 1]), (11, I t11)] []) (((3 : Int) - 0).toNat) ⟨1099511627776, 0, rfl, (by omega), (by rfl), rfl⟩ (fun gn gσ hI => ?_)
  obtain ⟨least, t11, rfl, ht0, hl0, rfl⟩ := hI
  refine aw_seq ?_
  by_cases h1 : t11 < 3
  ·have hcs : t11 = 0 ∨ t11 = 1 ∨ t11 = 2 := by omega
   rcases hcs with rfl | rfl | rfl
   ·refine aw_r [(0, .dec true)] [0, 1, 2, 7, 10, 11, 12] [] [slLI false table, I i, I j, I least, .agg [I 1, I 1, I 1, I 0, I 0, I 1], I 0, Bv true] [] [(0 : Int) < 3] hB ⟨(by decide), trivial⟩ ?_
    refine ae_then ?_
    refine aw_seq ?_
    refine aw_true rfl ?_
    refine aw_skip ?_
    refine ae_then ?_
    refine aw_seq ?_
    refine aw_block ?_
    refine aR [(1, .new 9)] [0, 1, 2, 7, 9, 10, 11] [9] [slLI false table, I i, I j, I least, .ref 9 0, .agg [I 1, I 1, I 1, I 0, I 0, I 1], I 0] [some (.box [I 1, I 1])] [(0 : Int) ≤ 0 ∧ 0 < (3 : Int)] hB ⟨⟨by decide, by decide⟩, trivial⟩ ?_
    refine aw_seq ?_
    by_cases h2 : 1 ≤ i
    ·by_cases h3 : 1 ≤ j
     ·refine aw_r [(3, .dec true), (8, .dec true)] [0, 1, 2, 7, 9, 10, 11, 23] [9] [slLI false table, I i, I j, I least, .ref 9 0, .agg [I 1, I 1, I 1, I 0, I 0, I 1], I 0, Bv true] [some (.box [I 1, I 1])] [(0 : Int) ≤ 0 ∧ 0 < (2 : Int), 1 ≤ i, (0 : Int) ≤ 1 ∧ 1 < (2 : Int), 1 ≤ j] hB ⟨⟨by decide, by decide⟩, h2, ⟨by decide, by decide⟩, h3, trivial⟩ ?_
      refine ae_then ?_
      refine aw_true rfl ?_
      refine aw_r [] [0, 1, 2, 7, 10, 11] [] [slLI false table, I i, I j, I (min least (at_ (at_ table ((i - 1).toNat)) ((j - 1).toNat))), .agg [I 1, I 1, I 1, I 0, I 0, I 1], I 0] [] [(0 : Int) ≤ 0 ∧ 0 < (2 : Int), inR .i64 (i - 1), (0 : Int) ≤ (i - 1) ∧ (i - 1) < (table.length : Int), (0 : Int) ≤ 1 ∧ 1 < (2 : Int), inR .i64 (j - 1), (0 : Int) ≤ (j - 1) ∧ (j - 1) < (((at_ table ((i - 1).toNat)).length) : Int)] hB ⟨⟨by decide, by decide⟩, (inR_i64 (by omega) (by omega)), ⟨(by omega), (by omega)⟩, ⟨by decide, by decide⟩, (inR_i64 (by omega) (by omega)), ⟨(by omega), (by omega)⟩, trivial⟩ ?_
      refine ae_block 1 ?_
      refine ae_then ?_
      refine aw_r [] [0, 1, 2, 7, 10, 11] [] [slLI false table, I i, I j, I (min least (at_ (at_ table ((i - 1).toNat)) ((j - 1).toNat))), .agg [I 1, I 1, I 1, I 0, I 0, I 1], I (0 + 1)] [] [inR .i64 (0 + 1)] hB ⟨(inR_i64 (by omega) (by omega)), trivial⟩ ?_
      exact ae_again _ (by omega) ⟨(min least (at_ (at_ table ((i - 1).toNat)) ((j - 1).toNat))), (0 + 1), rfl, (by omega), (by rw [hl0]; first | (show _ = lb1 table i j; unfold lb1; first | (rw [if_pos (by omega)]; rfl) | (rw [if_neg (by omega)]; rfl)) | (show _ = lb2 table i j; unfold lb2; first | (rw [if_pos (by omega)]; rfl) | (rw [if_neg (by omega)]; rfl)) | (show _ = lb3 table i j; unfold lb3; first | (rw [if_pos (by omega)]; rfl) | (rw [if_neg (by omega)]; rfl))), rfl⟩
     refine aw_r [(3, .dec true), (8, .dec false)] [0, 1, 2, 7, 9, 10, 11, 23] [9] [slLI false table, I i, I j, I least, .ref 9 0, .agg [I 1, I 1, I 1, I 0, I 0, I 1], I 0, Bv false] [some (.box [I 1, I 1])] [(0 : Int) ≤ 0 ∧ 0 < (2 : Int), 1 ≤ i, (0 : Int) ≤ 1 ∧ 1 < (2 : Int), ¬ (1 ≤ j)] hB ⟨⟨by decide, by decide⟩, h2, ⟨by decide, by decide⟩, h3, trivial⟩ ?_
     refine ae_then ?_
     refine aw_false rfl ?_
     refine aw_skip ?_
     refine ae_block 1 ?_
     refine ae_then ?_
     refine aw_r [] [0, 1, 2, 7, 10, 11] [] [slLI false table, I i, I j, I least, .agg [I 1, I 1, I 1, I 0, I 0, I 1], I (0 + 1)] [] [inR .i64 (0 + 1)] hB ⟨(inR_i64 (by omega) (by omega)), trivial⟩ ?_
     exact ae_again _ (by omega) ⟨least, (0 + 1), rfl, (by omega), (by rw [hl0]; first | (show _ = lb1 table i j; unfold lb1; first | (rw [if_pos (by omega)]; rfl) | (rw [if_neg (by omega)]; rfl)) | (show _ = lb2 table i j; unfold lb2; first | (rw [if_pos (by omega)]; rfl) | (rw [if_neg (by omega)]; rfl)) | (show _ = lb3 table i j; unfold lb3; first | (rw [if_pos (by omega)]; rfl) | (rw [if_neg (by omega)]; rfl))), rfl⟩
    refine aw_r [(3, .dec false)] [0, 1, 2, 7, 9, 10, 11, 23] [9] [slLI false table, I i, I j, I least, .ref 9 0, .agg [I 1, I 1, I 1, I 0, I 0, I 1], I 0, Bv false] [some (.box [I 1, I 1])] [(0 : Int) ≤ 0 ∧ 0 < (2 : Int), ¬ (1 ≤ i)] hB ⟨⟨by decide, by decide⟩, h2, trivial⟩ ?_
    refine ae_then ?_
    refine aw_false rfl ?_
    refine aw_skip ?_
    refine ae_block 1 ?_
    refine ae_then ?_
    refine aw_r [] [0, 1, 2, 7, 10, 11] [] [slLI false table, I i, I j, I least, .agg [I 1, I 1, I 1, I 0, I 0, I 1], I (0 + 1)] [] [inR .i64 (0 + 1)] hB ⟨(inR_i64 (by omega) (by omega)), trivial⟩ ?_
    exact ae_again _ (by omega) ⟨least, (0 + 1), rfl, (by omega), (by rw [hl0]; first | (show _ = lb1 table i j; unfold lb1; first | (rw [if_pos (by omega)]; rfl) | (rw [if_neg (by omega)]; rfl)) | (show _ = lb2 table i j; unfold lb2; first | (rw [if_pos (by omega)]; rfl) | (rw [if_neg (by omega)]; rfl)) | (show _ = lb3 table i j; unfold lb3; first | (rw [if_pos (by omega)]; rfl) | (rw [if_neg (by omega)]; rfl))), rfl⟩
   ·refine aw_r [(0, .dec true)] [0, 1, 2, 7, 10, 11, 12] [] [slLI false table, I i, I j, I least, .agg [I 1, I 1, I 1, I 0, I 0, I 1], I 1, Bv true] [] [(1 : Int) < 3] hB ⟨(by decide), trivial⟩ ?_
    refine ae_then ?_
    refine aw_seq ?_
    refine aw_true rfl ?_
    refine aw_skip ?_
    refine ae_then ?_
    refine aw_seq ?_
    refine aw_block ?_
    refine aR [(1, .new 9)] [0, 1, 2, 7, 9, 10, 11] [9] [slLI false table, I i, I j, I least, .ref 9 0, .agg [I 1, I 1, I 1, I 0, I 0, I 1], I 1] [some (.box [I 1, I 0])] [(0 : Int) ≤ 1 ∧ 1 < (3 : Int)] hB ⟨⟨by decide, by decide⟩, trivial⟩ ?_
    refine aw_seq ?_
    by_cases h4 : 1 ≤ i
    ·refine aw_r [(3, .dec true), (8, .dec true)] [0, 1, 2, 7, 9, 10, 11, 23] [9] [slLI false table, I i, I j, I least, .ref 9 0, .agg [I 1, I 1, I 1, I 0, I 0, I 1], I 1, Bv true] [some (.box [I 1, I 0])] [(0 : Int) ≤ 0 ∧ 0 < (2 : Int), 1 ≤ i, (0 : Int) ≤ 1 ∧ 1 < (2 : Int), 0 ≤ j] hB ⟨⟨by decide, by decide⟩, h4, ⟨by decide, by decide⟩, (by omega), trivial⟩ ?_
     refine ae_then ?_
     refine aw_true rfl ?_
     refine aw_r [] [0, 1, 2, 7, 10, 11] [] [slLI false table, I i, I j, I (min least (at_ (at_ table ((i - 1).toNat)) ((j - 0).toNat))), .agg [I 1, I 1, I 1, I 0, I 0, I 1], I 1] [] [(0 : Int) ≤ 0 ∧ 0 < (2 : Int), inR .i64 (i - 1), (0 : Int) ≤ (i - 1) ∧ (i - 1) < (table.length : Int), (0 : Int) ≤ 1 ∧ 1 < (2 : Int), inR .i64 (j - 0), (0 : Int) ≤ (j - 0) ∧ (j - 0) < (((at_ table ((i - 1).toNat)).length) : Int)] hB ⟨⟨by decide, by decide⟩, (inR_i64 (by omega) (by omega)), ⟨(by omega), (by omega)⟩, ⟨by decide, by decide⟩, (inR_i64 (by omega) (by omega)), ⟨(by omega), (by omega)⟩, trivial⟩ ?_
     refine ae_block 1 ?_
     refine ae_then ?_
     refine aw_r [] [0, 1, 2, 7, 10, 11] [] [slLI false table, I i, I j, I (min least (at_ (at_ table ((i - 1).toNat)) ((j - 0).toNat))), .agg [I 1, I 1, I 1, I 0, I 0, I 1], I (1 + 1)] [] [inR .i64 (1 + 1)] hB ⟨(inR_i64 (by omega) (by omega)), trivial⟩ ?_
     exact ae_again _ (by omega) ⟨(min least (at_ (at_ table ((i - 1).toNat)) ((j - 0).toNat))), (1 + 1), rfl, (by omega), (by rw [hl0]; first | (show _ = lb1 table i j; unfold lb1; first | (rw [if_pos (by omega)]; rfl) | (rw [if_neg (by omega)]; rfl)) | (show _ = lb2 table i j; unfold lb2; first | (rw [if_pos (by omega)]; rfl) | (rw [if_neg (by omega)]; rfl)) | (show _ = lb3 table i j; unfold lb3; first | (rw [if_pos (by omega)]; rfl) | (rw [if_neg (by omega)]; rfl))), rfl⟩
    refine aw_r [(3, .dec false)] [0, 1, 2, 7, 9, 10, 11, 23] [9] [slLI false table, I i, I j, I least, .ref 9 0, .agg [I 1, I 1, I 1, I 0, I 0, I 1], I 1, Bv false] [some (.box [I 1, I 0])] [(0 : Int) ≤ 0 ∧ 0 < (2 : Int), ¬ (1 ≤ i)] hB ⟨⟨by decide, by decide⟩, h4, trivial⟩ ?_
    refine ae_then ?_
    refine aw_false rfl ?_
    refine aw_skip ?_
    refine ae_block 1 ?_
    refine ae_then ?_
    refine aw_r [] [0, 1, 2, 7, 10, 11] [] [slLI false table, I i, I j, I least, .agg [I 1, I 1, I 1, I 0, I 0, I 1], I (1 + 1)] [] [inR .i64 (1 + 1)] hB ⟨(inR_i64 (by omega) (by omega)), trivial⟩ ?_
    exact ae_again _ (by omega) ⟨least, (1 + 1), rfl, (by omega), (by rw [hl0]; first | (show _ = lb1 table i j; unfold lb1; first | (rw [if_pos (by omega)]; rfl) | (rw [if_neg (by omega)]; rfl)) | (show _ = lb2 table i j; unfold lb2; first | (rw [if_pos (by omega)]; rfl) | (rw [if_neg (by omega)]; rfl)) | (show _ = lb3 table i j; unfold lb3; first | (rw [if_pos (by omega)]; rfl) | (rw [if_neg (by omega)]; rfl))), rfl⟩
   ·refine aw_r [(0, .dec true)] [0, 1, 2, 7, 10, 11, 12] [] [slLI false table, I i, I j, I least, .agg [I 1, I 1, I 1, I 0, I 0, I 1], I 2, Bv true] [] [(2 : Int) < 3] hB ⟨(by decide), trivial⟩ ?_
    refine ae_then ?_
    refine aw_seq ?_
    refine aw_true rfl ?_
    refine aw_skip ?_
    refine ae_then ?_
    refine aw_seq ?_
    refine aw_block ?_
    refine aR [(1, .new 9)] [0, 1, 2, 7, 9, 10, 11] [9] [slLI false table, I i, I j, I least, .ref 9 0, .agg [I 1, I 1, I 1, I 0, I 0, I 1], I 2] [some (.box [I 0, I 1])] [(0 : Int) ≤ 2 ∧ 2 < (3 : Int)] hB ⟨⟨by decide, by decide⟩, trivial⟩ ?_
    refine aw_seq ?_
    by_cases h5 : 1 ≤ j
    ·refine aw_r [(3, .dec true), (8, .dec true)] [0, 1, 2, 7, 9, 10, 11, 23] [9] [slLI false table, I i, I j, I least, .ref 9 0, .agg [I 1, I 1, I 1, I 0, I 0, I 1], I 2, Bv true] [some (.box [I 0, I 1])] [(0 : Int) ≤ 0 ∧ 0 < (2 : Int), 0 ≤ i, (0 : Int) ≤ 1 ∧ 1 < (2 : Int), 1 ≤ j] hB ⟨⟨by decide, by decide⟩, (by omega), ⟨by decide, by decide⟩, h5, trivial⟩ ?_
     refine ae_then ?_
     refine aw_true rfl ?_
     refine aw_r [] [0, 1, 2, 7, 10, 11] [] [slLI false table, I i, I j, I (min least (at_ (at_ table ((i - 0).toNat)) ((j - 1).toNat))), .agg [I 1, I 1, I 1, I 0, I 0, I 1], I 2] [] [(0 : Int) ≤ 0 ∧ 0 < (2 : Int), inR .i64 (i - 0), (0 : Int) ≤ (i - 0) ∧ (i - 0) < (table.length : Int), (0 : Int) ≤ 1 ∧ 1 < (2 : Int), inR .i64 (j - 1), (0 : Int) ≤ (j - 1) ∧ (j - 1) < (((at_ table ((i - 0).toNat)).length) : Int)] hB ⟨⟨by decide, by decide⟩, (inR_i64 (by omega) (by omega)), ⟨(by omega), (by omega)⟩, ⟨by decide, by decide⟩, (inR_i64 (by omega) (by omega)), ⟨(by omega), (by omega)⟩, trivial⟩ ?_
     refine ae_block 1 ?_
     refine ae_then ?_
     refine aw_r [] [0, 1, 2, 7, 10, 11] [] [slLI false table, I i, I j, I (min least (at_ (at_ table ((i - 0).toNat)) ((j - 1).toNat))), .agg [I 1, I 1, I 1, I 0, I 0, I 1], I (2 + 1)] [] [inR .i64 (2 + 1)] hB ⟨(inR_i64 (by omega) (by omega)), trivial⟩ ?_
     exact ae_again _ (by omega) ⟨(min least (at_ (at_ table ((i - 0).toNat)) ((j - 1).toNat))), (2 + 1), rfl, (by omega), (by rw [hl0]; first | (show _ = lb1 table i j; unfold lb1; first | (rw [if_pos (by omega)]; rfl) | (rw [if_neg (by omega)]; rfl)) | (show _ = lb2 table i j; unfold lb2; first | (rw [if_pos (by omega)]; rfl) | (rw [if_neg (by omega)]; rfl)) | (show _ = lb3 table i j; unfold lb3; first | (rw [if_pos (by omega)]; rfl) | (rw [if_neg (by omega)]; rfl))), rfl⟩
    refine aw_r [(3, .dec true), (8, .dec false)] [0, 1, 2, 7, 9, 10, 11, 23] [9] [slLI false table, I i, I j, I least, .ref 9 0, .agg [I 1, I 1, I 1, I 0, I 0, I 1], I 2, Bv false] [some (.box [I 0, I 1])] [(0 : Int) ≤ 0 ∧ 0 < (2 : Int), 0 ≤ i, (0 : Int) ≤ 1 ∧ 1 < (2 : Int), ¬ (1 ≤ j)] hB ⟨⟨by decide, by decide⟩, (by omega), ⟨by decide, by decide⟩, h5, trivial⟩ ?_
    refine ae_then ?_
    refine aw_false rfl ?_
    refine aw_skip ?_
    refine ae_block 1 ?_
    refine ae_then ?_
    refine aw_r [] [0, 1, 2, 7, 10, 11] [] [slLI false table, I i, I j, I least, .agg [I 1, I 1, I 1, I 0, I 0, I 1], I (2 + 1)] [] [inR .i64 (2 + 1)] hB ⟨(inR_i64 (by omega) (by omega)), trivial⟩ ?_
    exact ae_again _ (by omega) ⟨least, (2 + 1), rfl, (by omega), (by rw [hl0]; first | (show _ = lb1 table i j; unfold lb1; first | (rw [if_pos (by omega)]; rfl) | (rw [if_neg (by omega)]; rfl)) | (show _ = lb2 table i j; unfold lb2; first | (rw [if_pos (by omega)]; rfl) | (rw [if_neg (by omega)]; rfl)) | (show _ = lb3 table i j; unfold lb3; first | (rw [if_pos (by omega)]; rfl) | (rw [if_neg (by omega)]; rfl))), rfl⟩
  have hte : t11.toNat = 3 := by omega
  refine aw_r [(0, .dec false)] [0, 1, 2, 7, 10, 11, 12] [] [slLI false table, I i, I j, I least, .agg [I 1, I 1, I 1, I 0, I 0, I 1], I t11, Bv false] [] [¬ (t11 < 3)] hB ⟨h1, trivial⟩ ?_
  refine ae_then ?_
  refine aw_seq ?_
  refine aw_false rfl ?_
  refine aw_exit ?_
  refine ae_exit_then ?_
  refine ae_exit_then ?_
  refine ae_exit_same ?_
  refine ae_then ?_
  refine aR [] [6] [] [I least] [] [] hB trivial ?_
  refine aw_ret ?_
  refine ae_ret hB (I least) (by kernel_rfl) (.inl (by rw [hl0, hte]; rfl)) rfl (fun _ => trivial)


-- impl.featCost
theorem featCost_ok (a : Feat) (b : Feat) (ha : okF a = true) (hb : okF b = true) : Con Tryz.prog 114 [agFeat a, agFeat b] true (I (costF a b)) := by
  have ha' := okF_iff.1 ha
  have hb' := okF_iff.1 hb
  refine fn_ok (fn := Tryz.f114) (nt := 31) Tryz.func114 rfl rfl rfl rfl (by simp [taggedL, tagged]) fun B hB => ?_
  refine aR [(0, .new 2), (1, .new 3)] [2, 3] [2, 3] [.ref 2 0, .ref 3 0] [some (bxFeat a), some (bxFeat b)] [] hB trivial ?_
  refine aR [(5, .call [(true, .any)] true (I ((a.D - b.D).natAbs : Int)))] [2, 3, 5] [2, 3] [.ref 2 0, .ref 3 0, I ((a.D - b.D).natAbs : Int)] [some (bxFeat a), some (bxFeat b)] [inR .i64 (a.D - b.D), Con Tryz.prog 101 [I (a.D - b.D)] true (I ((a.D - b.D).natAbs : Int)) ∧ True] hB ⟨(inR_i64 (by omega) (by omega)), ⟨(abs_ok (a.D - b.D) (by omega)), trivial⟩, trivial⟩ ?_
  refine aR [(5, .call [(true, .any)] true (I ((a.X - b.X).natAbs : Int))), (11, .call [(true, .any)] true (I ((a.Y - b.Y).natAbs : Int)))] [4] [] [I ((((a.X - b.X).natAbs : Int) + ((a.Y - b.Y).natAbs : Int)) + (16 * (min ((a.D - b.D).natAbs : Int) (8 - ((a.D - b.D).natAbs : Int)))))] [] [inR .i64 (a.X - b.X), Con Tryz.prog 101 [I (a.X - b.X)] true (I ((a.X - b.X).natAbs : Int)) ∧ True, inR .i64 (a.Y - b.Y), Con Tryz.prog 101 [I (a.Y - b.Y)] true (I ((a.Y - b.Y).natAbs : Int)) ∧ True, inR .i64 (((a.X - b.X).natAbs : Int) + ((a.Y - b.Y).natAbs : Int)), inR .i64 (8 - ((a.D - b.D).natAbs : Int)), inR .i64 (16 * (min ((a.D - b.D).natAbs : Int) (8 - ((a.D - b.D).natAbs : Int)))), inR .i64 ((((a.X - b.X).natAbs : Int) + ((a.Y - b.Y).natAbs : Int)) + (16 * (min ((a.D - b.D).natAbs : Int) (8 - ((a.D - b.D).natAbs : Int)))))] hB ⟨(inR_i64 (by omega) (by omega)), ⟨(abs_ok (a.X - b.X) (by omega)), trivial⟩, (inR_i64 (by omega) (by omega)), ⟨(abs_ok (a.Y - b.Y) (by omega)), trivial⟩, (inR_i64 (by omega) (by omega)), (inR_i64 (by omega) (by omega)), (inR_i64 (by omega) (by omega)), (inR_i64 (by omega) (by omega)), trivial⟩ ?_
  refine aw_ret ?_
  refine ae_ret hB (I ((((a.X - b.X).natAbs : Int) + ((a.Y - b.Y).natAbs : Int)) + (16 * (min ((a.D - b.D).natAbs : Int) (8 - ((a.D - b.D).natAbs : Int)))))) (by kernel_rfl) (.inl (by refine congrArg I ?_; first | rfl | (unfold costF; omega))) rfl (fun _ => trivial)


theorem beq_ne {i k : Nat} (h : i ≠ k) : Nat.beq i k = false := Bool.eq_false_iff.2 fun e => h (Nat.eq_of_beq_eq_true e)
theorem at_set_eq {α : Type} [Inhabited α] {xs : List α} {k : Nat} {c : α} (h : k < xs.length) : at_ (xs.set k c) k = c := by simp [at_, h]
theorem at_set_ne {α : Type} [Inhabited α] {xs : List α} {k i : Nat} {c : α} (h : i ≠ k) : at_ (xs.set k c) i = at_ xs i := by
  have : ¬ k = i := fun e => h e.symm
  simp [at_, this]
theorem le_row {ob : Nat → Option Ob} {F N sz p n : Nat} {m : Nat → Nat} {g : Nat → Nat → List AV} {fr : Bool} {f : Nat → List AV} (h : ob F = some (.fam N sz m g)) (hp : p < N) (hn : m p = n)
    (hf : ∀ i, i < n → g p i = f i ∨ (AV.idsL (f i) = [] ∧ leL (fun _ => none) false (g p i) (f i))) : le ob true (.row F p) (.sl fr sz n f) := by
  simp only [le, h]
  exact ⟨fun _ => trivial, hp, trivial, hn, hf⟩

def oLIc (F : Nat) (x : List Int) (i : Nat) : List AV := [.row F i]
def oLI (F : Nat) (xs : List (List Int)) (i : Nat) : List AV := oLIc F (at_ xs i) i
def mLI (xs : List (List Int)) (p : Nat) : Nat := (at_ xs p).length
def gLI (xs : List (List Int)) (p : Nat) : Nat → List AV := fI (at_ xs p)
theorem oleLI {ob : Nat → Option Ob} {F : Nat} (fr : Bool) (xs : List (List Int)) (h : ob F = some (.fam xs.length 1 (mLI xs) (gLI xs))) : ∀ i, i < xs.length → AV.idsL (fLI fr xs i) = [] ∧ leL ob true (oLI F xs i) (fLI fr xs i) :=
  fun i hi => And.intro rfl (And.intro (le_row h hi rfl (fun q _ => .inl rfl)) rfl)
theorem olecatLI {ob : Nat → Option Ob} {F : Nat} (fr : Bool) (xs : List (List Int)) (x : List Int) {f : Nat → List AV} (h : ob F = some (.fam xs.length 1 (mLI xs) (gLI xs))) (hx : leL ob true (f 0) (cLI fr x)) : ∀ i, i < (xs ++ [x]).length → AV.idsL (fLI fr (xs ++ [x]) i) = [] ∧ leL ob true (catF xs.length (oLI F xs) f i) (fLI fr (xs ++ [x]) i) := by
  intro i hi
  by_cases hl : i < xs.length
  · have := oleLI fr xs h i hl
    rw [catF_lt hl]
    have e : fLI fr (xs ++ [x]) i = fLI fr xs i := by show cLI fr (at_ _ _) = cLI fr (at_ _ _); rw [at_left hl]
    rw [e]; exact this
  · have e : i = xs.length := by simp at hi; omega
    subst e
    rw [catF_ge (Nat.le_refl _), Nat.sub_self]
    have e : fLI fr (xs ++ [x]) xs.length = cLI fr x := by show cLI fr (at_ _ _) = _; rw [at_right (Nat.le_refl _)]; simp [at_]
    rw [e]; exact ⟨rfl, hx⟩
theorem ocatLI {F j N : Nat} (hF : Nat.beq F j = false) {xs : List (List Int)} {x : List Int} {g : Nat → List AV} (hN : N = xs.length) (hx : AV.joiL j F N (g 0) = oLIc F x N) : ∀ i, i < (xs ++ [x]).length → AV.joiL j F N (catF xs.length (oLI F xs) g i) = oLI F (xs ++ [x]) i := by
  subst hN
  intro i hi
  by_cases h : i < xs.length
  · rw [catF_lt h]
    simp [oLI, oLIc, at_left h, AV.joiL, AV.joi, hF]
  · have e : i = xs.length := by simp at hi; omega
    subst e
    rw [catF_ge (Nat.le_refl _), Nat.sub_self, hx]
    simp [oLI, at_right (Nat.le_refl _), at_]
theorem fcatLI {xs : List (List Int)} (x : List Int) {n : Nat} {f : Nat → List AV} (hn : n = x.length) (hf : ∀ i, i < n → f i = fI x i) : xs.length + 1 = (xs ++ [x]).length ∧ 1 = 1 ∧ ∀ p, p < (xs ++ [x]).length → famUp xs.length n (mLI xs) p = mLI (xs ++ [x]) p ∧ ∀ i, i < mLI (xs ++ [x]) p → famUpF xs.length f (gLI xs) p i = gLI (xs ++ [x]) p i ∨ (AV.idsL (gLI (xs ++ [x]) p i) = [] ∧ leL (fun _ => none) false (famUpF xs.length f (gLI xs) p i) (gLI (xs ++ [x]) p i)) := by
  refine ⟨by simp, rfl, fun p hp => ?_⟩
  by_cases h : p < xs.length
  · have e : Nat.beq p xs.length = false := Bool.eq_false_iff.2 fun e => by have := Nat.eq_of_beq_eq_true e; omega
    simp [famUp, famUpF, e, mLI, gLI, at_left h]
  · have e : p = xs.length := by simp at hp; omega
    subst e
    have e2 : at_ (xs ++ [x]) xs.length = x := by simp [at_right (Nat.le_refl _), at_]
    simp only [famUp, famUpF, Nat.beq_refl, cond_true, mLI, gLI, e2]
    exact ⟨hn, fun i hi => .inl (hf i (by omega))⟩
theorem osetLI (F P : Nat) (xs : List (List Int)) (ys : List Int) (i : Nat) : oLI F xs i = oLI F (xs.set P ys) i := by
  unfold oLI
  by_cases h : P = i
  · subst h
    by_cases hl : P < xs.length
    · simp [at_, hl, oLIc]
    · rw [List.set_eq_of_length_le (by omega)]
  · simp [at_, h]
theorem fnilLI (n : Nat) {g : Nat → Nat → List AV} : n = (List.replicate n ([] : List Int)).length ∧ 1 = 1 ∧ ∀ p, p < (List.replicate n ([] : List Int)).length → (fun _ : Nat => (0 : Nat)) p = mLI (List.replicate n ([] : List Int)) p ∧ ∀ i, i < mLI (List.replicate n ([] : List Int)) p → g p i = gLI (List.replicate n ([] : List Int)) p i ∨ (AV.idsL (gLI (List.replicate n ([] : List Int)) p i) = [] ∧ leL (fun _ => none) false (g p i) (gLI (List.replicate n ([] : List Int)) p i)) := by
  refine ⟨by simp, rfl, fun p hp => ?_⟩
  have e : mLI (List.replicate n ([] : List Int)) p = 0 := by simp only [List.length_replicate] at hp; simp [mLI, at_, hp]
  exact ⟨e.symm, fun i hi => by rw [e] at hi; exact absurd hi (Nat.not_lt_zero _)⟩
theorem fputLI {xs : List (List Int)} {P m1 : Nat} {ys : List Int} {f1 : Nat → List AV} (hP : P < xs.length) (hm : m1 = ys.length) (hf : ∀ i, i < m1 → f1 i = fI ys i) : xs.length = (xs.set P ys).length ∧ 1 = 1 ∧ ∀ p, p < (xs.set P ys).length → famUp P m1 (mLI xs) p = mLI (xs.set P ys) p ∧ ∀ i, i < mLI (xs.set P ys) p → famUpF P f1 (gLI xs) p i = gLI (xs.set P ys) p i ∨ (AV.idsL (gLI (xs.set P ys) p i) = [] ∧ leL (fun _ => none) false (famUpF P f1 (gLI xs) p i) (gLI (xs.set P ys) p i)) := by
  refine ⟨by simp, rfl, fun p hp => ?_⟩
  by_cases h : p = P
  · subst h
    have e : at_ (xs.set p ys) p = ys := at_set_eq hP
    refine ⟨?_, fun i hi => .inl ?_⟩
    · simp only [famUp, Nat.beq_refl, cond_true, mLI, e]; exact hm
    · simp only [mLI, e] at hi; simp only [famUpF, Nat.beq_refl, cond_true, gLI, e]; exact hf i (by omega)
  · have e : at_ (xs.set P ys) p = at_ xs p := at_set_ne h
    have b := beq_ne h
    refine ⟨?_, fun i hi => .inl ?_⟩
    · simp only [famUp, b, cond_false, mLI, e]
    · simp only [famUpF, b, cond_false, gLI, e]
theorem fsetLI {xs : List (List Int)} {P k : Nat} {c : Int} {g' : Nat → Nat → List AV} (hP : P < xs.length) (hk : k < (at_ xs P).length) (h1 : g' P k = cI c) (h2 : ∀ i, i ≠ k → g' P i = gLI xs P i) (h3 : ∀ p, p ≠ P → g' p = gLI xs p) : xs.length = (xs.set P ((at_ xs P).set k c)).length ∧ 1 = 1 ∧ ∀ p, p < (xs.set P ((at_ xs P).set k c)).length → mLI xs p = mLI (xs.set P ((at_ xs P).set k c)) p ∧ ∀ i, i < mLI (xs.set P ((at_ xs P).set k c)) p → g' p i = gLI (xs.set P ((at_ xs P).set k c)) p i ∨ (AV.idsL (gLI (xs.set P ((at_ xs P).set k c)) p i) = [] ∧ leL (fun _ => none) false (g' p i) (gLI (xs.set P ((at_ xs P).set k c)) p i)) := by
  refine ⟨by simp, rfl, fun p hp => ?_⟩
  by_cases h : p = P
  · subst h
    have e2 : at_ (xs.set p ((at_ xs p).set k c)) p = ((at_ xs p).set k c) := at_set_eq hP
    have e3 : ((at_ xs p).set k c) = (at_ xs p).set k c := rfl
    simp only [mLI, gLI, e2, e3]
    refine ⟨by simp, fun i hi => .inl ?_⟩
    by_cases hi2 : i = k
    · subst hi2
      rw [h1]
      show _ = cI (at_ _ _)
      rw [at_set_eq hk]
    · rw [h2 i hi2]
      show cI (at_ _ _) = cI (at_ _ _)
      rw [at_set_ne hi2]
  · have e : at_ (xs.set P ((at_ xs P).set k c)) p = at_ xs p := at_set_ne h
    simp only [mLI, gLI, e]
    refine ⟨trivial, fun i hi => .inl ?_⟩
    rw [h3 p h]; rfl

-- impl.costTable
theorem costTable_ok (a : List Feat) (b : List Feat) (band : Int) (hab : okAB a b) (hbd : 0 ≤ band ∧ band ≤ 1000) : ∃ (v : List (List Int)), (tbOk a b band v a.length) ∧ Con Tryz.prog 102 [slFeat false a, slFeat false b, I band] true (slLI true v) := by
  have hla := hab.2.2
  have hh : ∃ r : (List (List Int)), ((tbOk a b band r a.length) ∧ (True)) ∧ CallOK Tryz.prog 102 [slFeat false a, slFeat false b, I band] (lookO []) true (slLI true r) (lookO []) := by
    refine fn_okX (Φ := fun r : (List (List Int)) => (tbOk a b band r a.length) ∧ (True)) [] (fun r => []) (fn := Tryz.f102) (nt := 76) Tryz.func102 rfl rfl (args := [slFeat false a, slFeat false b, I band]) rfl (allcons (.inl ⟨rfl, tagFeat false _⟩) (allcons (.inl ⟨rfl, tagFeat false _⟩) (allcons (.inl ⟨rfl, trivial⟩) allnil))) (res := fun r => slLI true r) ?_
    refine xR [] [0, 1, 2] [] [slFeat false a, slFeat false b, I band] [] [] trivial ?_
    refine xR [(2, .new 13)] [0, 1, 2, 7] [13] [slFeat false a, slFeat false b, I band, .arr 13] [some (.arr 1 ((a.length : Int).toNat) (fun _ => [nilA]))] [(0 : Int) ≤ (a.length : Int) ∧ ((a.length : Int) : Int) ≤ (a.length : Int) ∧ (24 : Int) * (a.length : Int) ≤ 281474976710656 ∧ (a.length : Int) ≤ 9223372036854775807] ⟨⟨(by omega), (by omega), (by omega), (by omega)⟩, trivial⟩ ?_
    refine x_seq ?_
    refine xR [] [0, 1, 2, 7, 15, 16] [13] [slFeat false a, slFeat false b, I band, .arr 13, I (a.length : Int), I 0] [some (.arr 1 ((a.length : Int).toNat) (fun _ => [nilA]))] [] trivial ?_
    refine x_block ?_
    refine x_famN 13 8401 1 rfl (fun q _ => ⟨_, rfl, rfl⟩) (by kernel_rfl) ?_
    refine x_weak [] (T := [(0, slFeat false a), (1, slFeat false b), (2, I band), (7, .arr 13), (15, I (a.length : Int)), (16, I 0)]) (O := [(13, .oar [8401] 1 ((List.replicate ((a.length : Int).toNat) ([] : List Int)).length) (oLI 8401 (List.replicate ((a.length : Int).toNat) ([] : List Int)))), (8401, .fam (List.replicate ((a.length : Int).toNat) ([] : List Int)).length 1 (mLI (List.replicate ((a.length : Int).toNat) ([] : List Int))) (gLI (List.replicate ((a.length : Int).toNat) ([] : List Int))))]) rfl (⟨.inl rfl, .inl rfl, .inl rfl, .inl rfl, .inl rfl, .inl rfl, trivial⟩) (⟨.inr ⟨rfl, rfl, (by simp), fun i hi => .inl rfl⟩, .inr (fnilLI ((a.length : Int).toNat)), trivial⟩) ?_
    refine x_loop (X := Int × (List (List Int))) (fun x => mkS [(0, slFeat false a), (1, slFeat false b), (2, I band), (7, .arr 13), (15, I (a.length : Int)), (16, I x.1)] [(13, .oar [8401] 1 x.2.length (oLI 8401 x.2)), (8401, .fam x.2.length 1 (mLI x.2) (gLI x.2))]) (fun x => (0 ≤ x.1 ∧ x.1 ≤ (a.length : Int)) ∧ (tbOk a b band x.2 x.1.toNat) ∧ True) (fun x => ((a.length : Int) - x.1).toNat) (0, (List.replicate ((a.length : Int).toNat) ([] : List Int))) rfl (show (0 ≤ (0 : Int) ∧ (0 : Int) ≤ (a.length : Int)) ∧ (tbOk a b band (List.replicate ((a.length : Int).toNat) ([] : List Int)) (0 : Int).toNat) ∧ True from ⟨(by omega), (by exact tb_nil a b band (by first | rfl | omega | simp)), trivial⟩) (fun x hI => ?_)
    obtain ⟨t16, tb⟩ := x
    obtain ⟨hi0, htb, _⟩ : (0 ≤ t16 ∧ t16 ≤ (a.length : Int)) ∧ (tbOk a b band tb t16.toNat) ∧ True := hI
    show XW _ _ _ _ (mkS [(0, slFeat false a), (1, slFeat false b), (2, I band), (7, .arr 13), (15, I (a.length : Int)), (16, I t16)] [(13, .oar [8401] 1 tb.length (oLI 8401 tb)), (8401, .fam tb.length 1 (mLI tb) (gLI tb))]) _ _
    refine x_seq ?_
    by_cases h1 : t16 < (a.length : Int)
    ·have hi : t16.toNat < a.length := by omega
     have hix : ((t16.toNat : Nat) : Int) = t16 := by omega
     have htl := htb.1
     refine x_r [(0, .dec true)] [0, 1, 2, 7, 15, 16, 17] [13, 8401] [slFeat false a, slFeat false b, I band, .arr 13, I (a.length : Int), I t16, Bv true] [some (.oar [8401] 1 tb.length (oLI 8401 tb)), some (.fam tb.length 1 (mLI tb) (gLI tb))] [t16 < (a.length : Int)] ⟨h1, trivial⟩ ?_
     refine xe_then ?_
     refine x_seq ?_
     refine x_true rfl ?_
     refine x_skip ?_
     refine xe_then ?_
     refine x_seq ?_
     refine x_block ?_
     refine xR [] [0, 1, 2, 7, 8, 15, 16] [13, 8401] [slFeat false a, slFeat false b, I band, .arr 13, I t16, I (a.length : Int), I t16] [some (.oar [8401] 1 tb.length (oLI 8401 tb)), some (.fam tb.length 1 (mLI tb) (gLI tb))] [] trivial ?_
     refine xR [(4, .new 23)] [0, 1, 2, 7, 8, 15, 16] [13, 23, 8401] [slFeat false a, slFeat false b, I band, .arr 13, I t16, I (a.length : Int), I t16] [some (.oar [8401, 23] 1 tb.length (fun q => bif Nat.beq q t16.toNat then [.arr 23] else (oLI 8401 tb) q)), some (.arr 1 ((b.length : Int).toNat) (fun _ => [I 0])), some (.fam tb.length 1 (mLI tb) (gLI tb))] [(0 : Int) ≤ (b.length : Int) ∧ ((b.length : Int) : Int) ≤ (b.length : Int) ∧ (8 : Int) * (b.length : Int) ≤ 281474976710656 ∧ (b.length : Int) ≤ 9223372036854775807, (0 : Int) ≤ t16 ∧ t16 < (tb.length : Int), t16.toNat < tb.length] ⟨⟨(by omega), (by omega), (by omega), (by omega)⟩, ⟨(by omega), (by omega)⟩, (by omega), trivial⟩ ?_
     refine x_seq ?_
     refine x_putrow 13 23 8401 t16.toNat rfl rfl rfl ((by omega)) (by first | exact Nat.le_refl _ | omega) (fun q _ => ⟨fun e => by subst e; simp only [Nat.beq_refl, cond_true], fun e => by simp only [beq_ne e, cond_false]; rfl⟩) (by kernel_rfl) ?_
     refine x_weak [] (T := [(0, slFeat false a), (1, slFeat false b), (2, I band), (7, .arr 13), (8, I t16), (15, I (a.length : Int)), (16, I t16)]) (O := [(13, .oar [8401] 1 ((tb.set t16.toNat (List.replicate ((b.length : Int).toNat) 0)).length) (oLI 8401 (tb.set t16.toNat (List.replicate ((b.length : Int).toNat) 0)))), (8401, .fam (tb.set t16.toNat (List.replicate ((b.length : Int).toNat) 0)).length 1 (mLI (tb.set t16.toNat (List.replicate ((b.length : Int).toNat) 0))) (gLI (tb.set t16.toNat (List.replicate ((b.length : Int).toNat) 0))))]) rfl (⟨.inl rfl, .inl rfl, .inl rfl, .inl rfl, .inl rfl, .inl rfl, .inl rfl, trivial⟩) (⟨.inr ⟨rfl, rfl, (by simp), fun i hi => .inl rfl⟩, .inr (fputLI ((by omega)) (by first | rfl | (simp; done) | (simp; omega)) (fun i_ h_ => (show ∀ i_ : Nat, i_ < ((List.replicate ((b.length : Int).toNat) 0) : List Int).length → (fun _ => [I 0]) i_ = (fI (List.replicate ((b.length : Int).toNat) 0)) i_ from fun i_ hi_ => (const_enc (enc := cI) rfl i_ hi_)) i_ (by first | exact h_ | (simpa using h_)))), trivial⟩) ?_
     refine x_r [] [0, 1, 2, 7, 8, 15, 16, 26, 27] [13, 8401] [slFeat false a, slFeat false b, I band, .arr 13, I t16, I (a.length : Int), I t16, I (b.length : Int), I 0] [some (.oar [8401] 1 ((tb.set t16.toNat (List.replicate ((b.length : Int).toNat) 0)).length) (oLI 8401 (tb.set t16.toNat (List.replicate ((b.length : Int).toNat) 0)))), some (.fam (tb.set t16.toNat (List.replicate ((b.length : Int).toNat) 0)).length 1 (mLI (tb.set t16.toNat (List.replicate ((b.length : Int).toNat) 0))) (gLI (tb.set t16.toNat (List.replicate ((b.length : Int).toNat) 0))))] [] trivial ?_
     refine xe_then ?_
     refine x_block ?_
     refine x_loop (X := Int × (List (List Int))) (fun x => mkS [(0, slFeat false a), (1, slFeat false b), (2, I band), (7, .arr 13), (8, I t16), (15, I (a.length : Int)), (16, I t16), (26, I (b.length : Int)), (27, I x.1)] [(13, .oar [8401] 1 x.2.length (oLI 8401 x.2)), (8401, .fam x.2.length 1 (mLI x.2) (gLI x.2))]) (fun x => (0 ≤ x.1 ∧ x.1 ≤ (b.length : Int)) ∧ (tbOk a b band x.2 t16.toNat ∧ rowOk a b band (at_ x.2 t16.toNat) t16.toNat x.1.toNat) ∧ True) (fun x => ((b.length : Int) - x.1).toNat) (0, (tb.set t16.toNat (List.replicate ((b.length : Int).toNat) 0))) rfl (show (0 ≤ (0 : Int) ∧ (0 : Int) ≤ (b.length : Int)) ∧ (tbOk a b band (tb.set t16.toNat (List.replicate ((b.length : Int).toNat) 0)) t16.toNat ∧ rowOk a b band (at_ (tb.set t16.toNat (List.replicate ((b.length : Int).toNat) 0)) t16.toNat) t16.toNat (0 : Int).toNat) ∧ True from ⟨(by omega), (by exact tb_row htb hi (by first | rfl | omega | simp)), trivial⟩) (fun x hI => ?_)
     obtain ⟨t27, tb'⟩ := x
     obtain ⟨hj0, hin, _⟩ : (0 ≤ t27 ∧ t27 ≤ (b.length : Int)) ∧ (tbOk a b band tb' t16.toNat ∧ rowOk a b band (at_ tb' t16.toNat) t16.toNat t27.toNat) ∧ True := hI
     show XW _ _ _ _ (mkS [(0, slFeat false a), (1, slFeat false b), (2, I band), (7, .arr 13), (8, I t16), (15, I (a.length : Int)), (16, I t16), (26, I (b.length : Int)), (27, I t27)] [(13, .oar [8401] 1 tb'.length (oLI 8401 tb')), (8401, .fam tb'.length 1 (mLI tb') (gLI tb'))]) _ _
     refine x_seq ?_
     by_cases h2 : t27 < (b.length : Int)
     ·have hj : t27.toNat < b.length := by omega
      have hcb := costF_bd (hab.1 _ hi) (hab.2.1 _ hj)
      have hjx : ((t27.toNat : Nat) : Int) = t27 := by omega
      have htl2 := hin.1.1
      have htl3 := hin.2.1
      have hlb := lb_at hab hin.1 hin.2 hi hj
      rw [hix, hjx] at hlb
      have hrl : 1 ≤ t16 → ((at_ tb' (t16 - 1).toNat).length : Int) = b.length := fun q => by rw [(hin.1.2 (t16 - 1).toNat (by omega)).1]
      have hrz : (t16 - 0).toNat = t16.toNat := by omega
      refine x_r [(0, .dec true)] [0, 1, 2, 7, 8, 15, 16, 26, 27, 28] [13, 8401] [slFeat false a, slFeat false b, I band, .arr 13, I t16, I (a.length : Int), I t16, I (b.length : Int), I t27, Bv true] [some (.oar [8401] 1 tb'.length (oLI 8401 tb')), some (.fam tb'.length 1 (mLI tb') (gLI tb'))] [t27 < (b.length : Int)] ⟨h2, trivial⟩ ?_
      refine xe_then ?_
      refine x_seq ?_
      refine x_true rfl ?_
      refine x_skip ?_
      refine xe_then ?_
      refine x_seq ?_
      refine x_block ?_
      refine xR [] [0, 1, 2, 7, 8, 9, 15, 16, 26, 27] [13, 8401] [slFeat false a, slFeat false b, I band, .arr 13, I t16, I t27, I (a.length : Int), I t16, I (b.length : Int), I t27] [some (.oar [8401] 1 tb'.length (oLI 8401 tb')), some (.fam tb'.length 1 (mLI tb') (gLI tb'))] [] trivial ?_
      refine xR [(3, .call [(false, slLI false tb'), (true, .any), (true, .any)] true (I (lb3 tb' t16 t27)))] [0, 1, 2, 7, 8, 9, 10, 15, 16, 26, 27] [13, 8401] [slFeat false a, slFeat false b, I band, .arr 13, I t16, I t27, I (lb3 tb' t16 t27), I (a.length : Int), I t16, I (b.length : Int), I t27] [some (.oar [8401] 1 tb'.length (oLI 8401 tb')), some (.fam tb'.length 1 (mLI tb') (gLI tb'))] [Con Tryz.prog 104 [slLI false tb', I t16, I t27] true (I (lb3 tb' t16 t27)) ∧ ((false = true → true = true) ∧ 1 = 1 ∧ tb'.length = tb'.length ∧ ∀ i_, i_ < tb'.length → AV.idsL ((fLI false tb') i_) = [] ∧ leL (lookO [(8401, .fam tb'.length 1 (mLI tb') (gLI tb'))]) true ((oLI 8401 tb') i_) ((fLI false tb') i_)) ∧ True] ⟨⟨(leastBefore_ok tb' t16 t27 (by omega) (by omega) (fun q => by have := hrl q; omega) (fun q => by rw [hrz]; omega)), ⟨(fun h => by cases h), rfl, rfl, oleLI _ _ rfl⟩, trivial⟩, trivial⟩ ?_
      refine x_seq ?_
      refine x_seq ?_
      by_cases h3 : t16 = 0
      ·by_cases h4 : t27 = 0
       ·refine x_r [(1, .dec true), (4, .dec true)] [0, 1, 2, 7, 8, 9, 10, 15, 16, 26, 27, 39] [13, 8401] [slFeat false a, slFeat false b, I band, .arr 13, I t16, I t27, I (lb3 tb' t16 t27), I (a.length : Int), I t16, I (b.length : Int), I t27, Bv true] [some (.oar [8401] 1 tb'.length (oLI 8401 tb')), some (.fam tb'.length 1 (mLI tb') (gLI tb'))] [t16 = 0, t27 = 0] ⟨h3, h4, trivial⟩ ?_
        refine xe_then ?_
        refine x_true rfl ?_
        refine x_r [] [0, 1, 2, 7, 8, 9, 10, 15, 16, 26, 27] [13, 8401] [slFeat false a, slFeat false b, I band, .arr 13, I t16, I t27, I 0, I (a.length : Int), I t16, I (b.length : Int), I t27] [some (.oar [8401] 1 tb'.length (oLI 8401 tb')), some (.fam tb'.length 1 (mLI tb') (gLI tb'))] [] trivial ?_
        refine xe_then ?_
        refine x_seq ?_
        by_cases h5 : band < ((t16 - t27).natAbs : Int)
        ·refine x_r [(3, .call [(true, .any)] true (I ((t16 - t27).natAbs : Int))), (5, .dec true)] [0, 1, 2, 7, 8, 9, 10, 15, 16, 26, 27, 49] [13, 8401] [slFeat false a, slFeat false b, I band, .arr 13, I t16, I t27, I 0, I (a.length : Int), I t16, I (b.length : Int), I t27, Bv true] [some (.oar [8401] 1 tb'.length (oLI 8401 tb')), some (.fam tb'.length 1 (mLI tb') (gLI tb'))] [inR .i64 (t16 - t27), Con Tryz.prog 101 [I (t16 - t27)] true (I ((t16 - t27).natAbs : Int)) ∧ True, band < ((t16 - t27).natAbs : Int)] ⟨(inR_i64 (by omega) (by omega)), ⟨(abs_ok (t16 - t27) (by omega)), trivial⟩, h5, trivial⟩ ?_
         refine xe_then ?_
         refine x_true rfl ?_
         refine x_r [] [0, 1, 2, 7, 8, 15, 16, 26, 27] [13, 8401] [slFeat false a, slFeat false b, I band, .arr 13, I t16, I (a.length : Int), I t16, I (b.length : Int), I t27] [some (.oar [8401] 1 tb'.length (oLI 8401 tb')), some (.fam tb'.length 1 (mLI tb') (fun q => bif Nat.beq q t16.toNat then (fun q => bif Nat.beq q t27.toNat then [I 1099511627776] else (gLI tb') t16.toNat q) else (gLI tb') q))] [(0 : Int) ≤ t16 ∧ t16 < (tb'.length : Int), t16.toNat < tb'.length, t16.toNat < tb'.length ∧ (0 : Int) ≤ t27 ∧ t27 < (((at_ tb' t16.toNat).length) : Int), t16.toNat < tb'.length ∧ t27.toNat < (at_ tb' t16.toNat).length] ⟨⟨(by omega), (by omega)⟩, (by omega), ⟨(by omega), (by omega), (by omega)⟩, ⟨(by omega), (by omega)⟩, trivial⟩ ?_
         refine xe_block 3 ?_
         refine xe_then ?_
         refine x_weak [] (T := [(0, slFeat false a), (1, slFeat false b), (2, I band), (7, .arr 13), (8, I t16), (15, I (a.length : Int)), (16, I t16), (26, I (b.length : Int)), (27, I t27)]) (O := [(13, .oar [8401] 1 ((tb'.set t16.toNat ((at_ tb' t16.toNat).set t27.toNat 1099511627776)).length) (oLI 8401 (tb'.set t16.toNat ((at_ tb' t16.toNat).set t27.toNat 1099511627776)))), (8401, .fam (tb'.set t16.toNat ((at_ tb' t16.toNat).set t27.toNat 1099511627776)).length 1 (mLI (tb'.set t16.toNat ((at_ tb' t16.toNat).set t27.toNat 1099511627776))) (gLI (tb'.set t16.toNat ((at_ tb' t16.toNat).set t27.toNat 1099511627776))))]) rfl (⟨.inl rfl, .inl rfl, .inl rfl, .inl rfl, .inl rfl, .inl rfl, .inl rfl, .inl rfl, .inl rfl, trivial⟩) (⟨.inr ⟨rfl, rfl, (by first | rfl | (simp; done) | omega), fun i_ hi_ => .inl (osetLI 8401 t16.toNat tb' ((at_ tb' t16.toNat).set t27.toNat 1099511627776) i_)⟩, .inr (fsetLI (P := t16.toNat) (k := t27.toNat) ((by omega)) ((by omega)) (by simp only [Nat.beq_refl, cond_true]; try rfl) (by intro i hi; simp only [Nat.beq_refl, cond_true, beq_ne hi, cond_false]; try rfl) (by intro p hp; simp only [beq_ne hp, cond_false])), trivial⟩) ?_
         refine x_r [] [0, 1, 2, 7, 8, 15, 16, 26, 27] [13, 8401] [slFeat false a, slFeat false b, I band, .arr 13, I t16, I (a.length : Int), I t16, I (b.length : Int), I (t27 + 1)] [some (.oar [8401] 1 ((tb'.set t16.toNat ((at_ tb' t16.toNat).set t27.toNat 1099511627776)).length) (oLI 8401 (tb'.set t16.toNat ((at_ tb' t16.toNat).set t27.toNat 1099511627776)))), some (.fam (tb'.set t16.toNat ((at_ tb' t16.toNat).set t27.toNat 1099511627776)).length 1 (mLI (tb'.set t16.toNat ((at_ tb' t16.toNat).set t27.toNat 1099511627776))) (gLI (tb'.set t16.toNat ((at_ tb' t16.toNat).set t27.toNat 1099511627776))))] [inR .i64 (t27 + 1)] ⟨(inR_i64 (by omega) (by omega)), trivial⟩ ?_
         exact xe_again ((t27 + 1), (tb'.set t16.toNat ((at_ tb' t16.toNat).set t27.toNat 1099511627776))) rfl (show (0 ≤ (t27 + 1) ∧ (t27 + 1) ≤ (b.length : Int)) ∧ (tbOk a b band (tb'.set t16.toNat ((at_ tb' t16.toNat).set t27.toNat 1099511627776)) t16.toNat ∧ rowOk a b band (at_ (tb'.set t16.toNat ((at_ tb' t16.toNat).set t27.toNat 1099511627776)) t16.toNat) t16.toNat (t27 + 1).toNat) ∧ True from ⟨(by omega), (by rw [show (t27 + 1).toNat = t27.toNat + 1 from by omega]; exact tb_step hin.1 hin.2 hi hj (by rw [hlb.2]; first | exact (stp_far (by first | (left; rw [hix, hjx]; omega) | (right; (try rw [if_neg (by omega)]); (try rw [if_pos (by omega)]); omega))).symm | (rw [stp_add (by rw [hix, hjx]; omega) (by first | (rw [if_neg (by omega)]; omega) | (rw [if_pos (by omega)]; decide))]; first | rw [if_neg (by omega)] | rw [if_pos (by omega)]))), trivial⟩) (by first | (show (((b.length : Int) - (t27 + 1)).toNat : Nat) < ((b.length : Int) - t27).toNat; omega) | (dsimp only; omega))
        refine x_r [(3, .call [(true, .any)] true (I ((t16 - t27).natAbs : Int))), (5, .dec false), (8, .dec false)] [0, 1, 2, 7, 8, 9, 10, 15, 16, 26, 27, 49] [13, 8401] [slFeat false a, slFeat false b, I band, .arr 13, I t16, I t27, I 0, I (a.length : Int), I t16, I (b.length : Int), I t27, Bv false] [some (.oar [8401] 1 tb'.length (oLI 8401 tb')), some (.fam tb'.length 1 (mLI tb') (gLI tb'))] [inR .i64 (t16 - t27), Con Tryz.prog 101 [I (t16 - t27)] true (I ((t16 - t27).natAbs : Int)) ∧ True, ¬ (band < ((t16 - t27).natAbs : Int)), ¬ ((1099511627776 : Int) ≤ 0)] ⟨(inR_i64 (by omega) (by omega)), ⟨(abs_ok (t16 - t27) (by omega)), trivial⟩, h5, (by decide), trivial⟩ ?_
        refine xe_then ?_
        refine x_false rfl ?_
        refine x_r [(14, .call [(true, .any), (true, .any)] true (I (costF (at_ a t16.toNat) (at_ b t27.toNat))))] [0, 1, 2, 7, 8, 15, 16, 26, 27] [13, 8401] [slFeat false a, slFeat false b, I band, .arr 13, I t16, I (a.length : Int), I t16, I (b.length : Int), I t27] [some (.oar [8401] 1 tb'.length (oLI 8401 tb')), some (.fam tb'.length 1 (mLI tb') (fun q => bif Nat.beq q t16.toNat then (fun q => bif Nat.beq q t27.toNat then [I (0 + (costF (at_ a t16.toNat) (at_ b t27.toNat)))] else (gLI tb') t16.toNat q) else (gLI tb') q))] [(0 : Int) ≤ t16 ∧ t16 < (tb'.length : Int), t16.toNat < tb'.length, (0 : Int) ≤ t16 ∧ t16 < (a.length : Int), (0 : Int) ≤ t27 ∧ t27 < (b.length : Int), Con Tryz.prog 114 [agFeat (at_ a t16.toNat), agFeat (at_ b t27.toNat)] true (I (costF (at_ a t16.toNat) (at_ b t27.toNat))) ∧ True, inR .i64 (0 + (costF (at_ a t16.toNat) (at_ b t27.toNat))), t16.toNat < tb'.length ∧ (0 : Int) ≤ t27 ∧ t27 < (((at_ tb' t16.toNat).length) : Int), t16.toNat < tb'.length ∧ t27.toNat < (at_ tb' t16.toNat).length] ⟨⟨(by omega), (by omega)⟩, (by omega), ⟨(by omega), (by omega)⟩, ⟨(by omega), (by omega)⟩, ⟨(featCost_ok (at_ a t16.toNat) (at_ b t27.toNat) (by first | exact hab.1 _ (by omega) | exact hab.2.1 _ (by omega)) (by first | exact hab.1 _ (by omega) | exact hab.2.1 _ (by omega))), trivial⟩, (inR_i64 (by omega) (by omega)), ⟨(by omega), (by omega), (by omega)⟩, ⟨(by omega), (by omega)⟩, trivial⟩ ?_
        refine xe_block 3 ?_
        refine xe_then ?_
        refine x_weak [] (T := [(0, slFeat false a), (1, slFeat false b), (2, I band), (7, .arr 13), (8, I t16), (15, I (a.length : Int)), (16, I t16), (26, I (b.length : Int)), (27, I t27)]) (O := [(13, .oar [8401] 1 ((tb'.set t16.toNat ((at_ tb' t16.toNat).set t27.toNat (0 + (costF (at_ a t16.toNat) (at_ b t27.toNat))))).length) (oLI 8401 (tb'.set t16.toNat ((at_ tb' t16.toNat).set t27.toNat (0 + (costF (at_ a t16.toNat) (at_ b t27.toNat))))))), (8401, .fam (tb'.set t16.toNat ((at_ tb' t16.toNat).set t27.toNat (0 + (costF (at_ a t16.toNat) (at_ b t27.toNat))))).length 1 (mLI (tb'.set t16.toNat ((at_ tb' t16.toNat).set t27.toNat (0 + (costF (at_ a t16.toNat) (at_ b t27.toNat)))))) (gLI (tb'.set t16.toNat ((at_ tb' t16.toNat).set t27.toNat (0 + (costF (at_ a t16.toNat) (at_ b t27.toNat)))))))]) rfl (⟨.inl rfl, .inl rfl, .inl rfl, .inl rfl, .inl rfl, .inl rfl, .inl rfl, .inl rfl, .inl rfl, trivial⟩) (⟨.inr ⟨rfl, rfl, (by first | rfl | (simp; done) | omega), fun i_ hi_ => .inl (osetLI 8401 t16.toNat tb' ((at_ tb' t16.toNat).set t27.toNat (0 + (costF (at_ a t16.toNat) (at_ b t27.toNat)))) i_)⟩, .inr (fsetLI (P := t16.toNat) (k := t27.toNat) ((by omega)) ((by omega)) (by simp only [Nat.beq_refl, cond_true]; try rfl) (by intro i hi; simp only [Nat.beq_refl, cond_true, beq_ne hi, cond_false]; try rfl) (by intro p hp; simp only [beq_ne hp, cond_false])), trivial⟩) ?_
        refine x_r [] [0, 1, 2, 7, 8, 15, 16, 26, 27] [13, 8401] [slFeat false a, slFeat false b, I band, .arr 13, I t16, I (a.length : Int), I t16, I (b.length : Int), I (t27 + 1)] [some (.oar [8401] 1 ((tb'.set t16.toNat ((at_ tb' t16.toNat).set t27.toNat (0 + (costF (at_ a t16.toNat) (at_ b t27.toNat))))).length) (oLI 8401 (tb'.set t16.toNat ((at_ tb' t16.toNat).set t27.toNat (0 + (costF (at_ a t16.toNat) (at_ b t27.toNat))))))), some (.fam (tb'.set t16.toNat ((at_ tb' t16.toNat).set t27.toNat (0 + (costF (at_ a t16.toNat) (at_ b t27.toNat))))).length 1 (mLI (tb'.set t16.toNat ((at_ tb' t16.toNat).set t27.toNat (0 + (costF (at_ a t16.toNat) (at_ b t27.toNat)))))) (gLI (tb'.set t16.toNat ((at_ tb' t16.toNat).set t27.toNat (0 + (costF (at_ a t16.toNat) (at_ b t27.toNat)))))))] [inR .i64 (t27 + 1)] ⟨(inR_i64 (by omega) (by omega)), trivial⟩ ?_
        exact xe_again ((t27 + 1), (tb'.set t16.toNat ((at_ tb' t16.toNat).set t27.toNat (0 + (costF (at_ a t16.toNat) (at_ b t27.toNat)))))) rfl (show (0 ≤ (t27 + 1) ∧ (t27 + 1) ≤ (b.length : Int)) ∧ (tbOk a b band (tb'.set t16.toNat ((at_ tb' t16.toNat).set t27.toNat (0 + (costF (at_ a t16.toNat) (at_ b t27.toNat))))) t16.toNat ∧ rowOk a b band (at_ (tb'.set t16.toNat ((at_ tb' t16.toNat).set t27.toNat (0 + (costF (at_ a t16.toNat) (at_ b t27.toNat))))) t16.toNat) t16.toNat (t27 + 1).toNat) ∧ True from ⟨(by omega), (by rw [show (t27 + 1).toNat = t27.toNat + 1 from by omega]; exact tb_step hin.1 hin.2 hi hj (by rw [hlb.2]; first | exact (stp_far (by first | (left; rw [hix, hjx]; omega) | (right; (try rw [if_neg (by omega)]); (try rw [if_pos (by omega)]); omega))).symm | (rw [stp_add (by rw [hix, hjx]; omega) (by first | (rw [if_neg (by omega)]; omega) | (rw [if_pos (by omega)]; decide))]; first | rw [if_neg (by omega)] | rw [if_pos (by omega)]))), trivial⟩) (by first | (show (((b.length : Int) - (t27 + 1)).toNat : Nat) < ((b.length : Int) - t27).toNat; omega) | (dsimp only; omega))
       refine x_r [(1, .dec true), (4, .dec false)] [0, 1, 2, 7, 8, 9, 10, 15, 16, 26, 27, 39] [13, 8401] [slFeat false a, slFeat false b, I band, .arr 13, I t16, I t27, I (lb3 tb' t16 t27), I (a.length : Int), I t16, I (b.length : Int), I t27, Bv false] [some (.oar [8401] 1 tb'.length (oLI 8401 tb')), some (.fam tb'.length 1 (mLI tb') (gLI tb'))] [t16 = 0, ¬ (t27 = 0)] ⟨h3, h4, trivial⟩ ?_
       refine xe_then ?_
       refine x_false rfl ?_
       refine x_skip ?_
       refine xe_then ?_
       refine x_seq ?_
       by_cases h6 : band < ((t16 - t27).natAbs : Int)
       ·refine x_r [(3, .call [(true, .any)] true (I ((t16 - t27).natAbs : Int))), (5, .dec true)] [0, 1, 2, 7, 8, 9, 10, 15, 16, 26, 27, 49] [13, 8401] [slFeat false a, slFeat false b, I band, .arr 13, I t16, I t27, I (lb3 tb' t16 t27), I (a.length : Int), I t16, I (b.length : Int), I t27, Bv true] [some (.oar [8401] 1 tb'.length (oLI 8401 tb')), some (.fam tb'.length 1 (mLI tb') (gLI tb'))] [inR .i64 (t16 - t27), Con Tryz.prog 101 [I (t16 - t27)] true (I ((t16 - t27).natAbs : Int)) ∧ True, band < ((t16 - t27).natAbs : Int)] ⟨(inR_i64 (by omega) (by omega)), ⟨(abs_ok (t16 - t27) (by omega)), trivial⟩, h6, trivial⟩ ?_
        refine xe_then ?_
        refine x_true rfl ?_
        refine x_r [] [0, 1, 2, 7, 8, 15, 16, 26, 27] [13, 8401] [slFeat false a, slFeat false b, I band, .arr 13, I t16, I (a.length : Int), I t16, I (b.length : Int), I t27] [some (.oar [8401] 1 tb'.length (oLI 8401 tb')), some (.fam tb'.length 1 (mLI tb') (fun q => bif Nat.beq q t16.toNat then (fun q => bif Nat.beq q t27.toNat then [I 1099511627776] else (gLI tb') t16.toNat q) else (gLI tb') q))] [(0 : Int) ≤ t16 ∧ t16 < (tb'.length : Int), t16.toNat < tb'.length, t16.toNat < tb'.length ∧ (0 : Int) ≤ t27 ∧ t27 < (((at_ tb' t16.toNat).length) : Int), t16.toNat < tb'.length ∧ t27.toNat < (at_ tb' t16.toNat).length] ⟨⟨(by omega), (by omega)⟩, (by omega), ⟨(by omega), (by omega), (by omega)⟩, ⟨(by omega), (by omega)⟩, trivial⟩ ?_
        refine xe_block 3 ?_
        refine xe_then ?_
        refine x_weak [] (T := [(0, slFeat false a), (1, slFeat false b), (2, I band), (7, .arr 13), (8, I t16), (15, I (a.length : Int)), (16, I t16), (26, I (b.length : Int)), (27, I t27)]) (O := [(13, .oar [8401] 1 ((tb'.set t16.toNat ((at_ tb' t16.toNat).set t27.toNat 1099511627776)).length) (oLI 8401 (tb'.set t16.toNat ((at_ tb' t16.toNat).set t27.toNat 1099511627776)))), (8401, .fam (tb'.set t16.toNat ((at_ tb' t16.toNat).set t27.toNat 1099511627776)).length 1 (mLI (tb'.set t16.toNat ((at_ tb' t16.toNat).set t27.toNat 1099511627776))) (gLI (tb'.set t16.toNat ((at_ tb' t16.toNat).set t27.toNat 1099511627776))))]) rfl (⟨.inl rfl, .inl rfl, .inl rfl, .inl rfl, .inl rfl, .inl rfl, .inl rfl, .inl rfl, .inl rfl, trivial⟩) (⟨.inr ⟨rfl, rfl, (by first | rfl | (simp; done) | omega), fun i_ hi_ => .inl (osetLI 8401 t16.toNat tb' ((at_ tb' t16.toNat).set t27.toNat 1099511627776) i_)⟩, .inr (fsetLI (P := t16.toNat) (k := t27.toNat) ((by omega)) ((by omega)) (by simp only [Nat.beq_refl, cond_true]; try rfl) (by intro i hi; simp only [Nat.beq_refl, cond_true, beq_ne hi, cond_false]; try rfl) (by intro p hp; simp only [beq_ne hp, cond_false])), trivial⟩) ?_
        refine x_r [] [0, 1, 2, 7, 8, 15, 16, 26, 27] [13, 8401] [slFeat false a, slFeat false b, I band, .arr 13, I t16, I (a.length : Int), I t16, I (b.length : Int), I (t27 + 1)] [some (.oar [8401] 1 ((tb'.set t16.toNat ((at_ tb' t16.toNat).set t27.toNat 1099511627776)).length) (oLI 8401 (tb'.set t16.toNat ((at_ tb' t16.toNat).set t27.toNat 1099511627776)))), some (.fam (tb'.set t16.toNat ((at_ tb' t16.toNat).set t27.toNat 1099511627776)).length 1 (mLI (tb'.set t16.toNat ((at_ tb' t16.toNat).set t27.toNat 1099511627776))) (gLI (tb'.set t16.toNat ((at_ tb' t16.toNat).set t27.toNat 1099511627776))))] [inR .i64 (t27 + 1)] ⟨(inR_i64 (by omega) (by omega)), trivial⟩ ?_
        exact xe_again ((t27 + 1), (tb'.set t16.toNat ((at_ tb' t16.toNat).set t27.toNat 1099511627776))) rfl (show (0 ≤ (t27 + 1) ∧ (t27 + 1) ≤ (b.length : Int)) ∧ (tbOk a b band (tb'.set t16.toNat ((at_ tb' t16.toNat).set t27.toNat 1099511627776)) t16.toNat ∧ rowOk a b band (at_ (tb'.set t16.toNat ((at_ tb' t16.toNat).set t27.toNat 1099511627776)) t16.toNat) t16.toNat (t27 + 1).toNat) ∧ True from ⟨(by omega), (by rw [show (t27 + 1).toNat = t27.toNat + 1 from by omega]; exact tb_step hin.1 hin.2 hi hj (by rw [hlb.2]; first | exact (stp_far (by first | (left; rw [hix, hjx]; omega) | (right; (try rw [if_neg (by omega)]); (try rw [if_pos (by omega)]); omega))).symm | (rw [stp_add (by rw [hix, hjx]; omega) (by first | (rw [if_neg (by omega)]; omega) | (rw [if_pos (by omega)]; decide))]; first | rw [if_neg (by omega)] | rw [if_pos (by omega)]))), trivial⟩) (by first | (show (((b.length : Int) - (t27 + 1)).toNat : Nat) < ((b.length : Int) - t27).toNat; omega) | (dsimp only; omega))
       by_cases h7 : 1099511627776 ≤ (lb3 tb' t16 t27)
       ·refine x_r [(3, .call [(true, .any)] true (I ((t16 - t27).natAbs : Int))), (5, .dec false), (8, .dec true)] [0, 1, 2, 7, 8, 9, 10, 15, 16, 26, 27, 49] [13, 8401] [slFeat false a, slFeat false b, I band, .arr 13, I t16, I t27, I (lb3 tb' t16 t27), I (a.length : Int), I t16, I (b.length : Int), I t27, Bv true] [some (.oar [8401] 1 tb'.length (oLI 8401 tb')), some (.fam tb'.length 1 (mLI tb') (gLI tb'))] [inR .i64 (t16 - t27), Con Tryz.prog 101 [I (t16 - t27)] true (I ((t16 - t27).natAbs : Int)) ∧ True, ¬ (band < ((t16 - t27).natAbs : Int)), 1099511627776 ≤ (lb3 tb' t16 t27)] ⟨(inR_i64 (by omega) (by omega)), ⟨(abs_ok (t16 - t27) (by omega)), trivial⟩, h6, h7, trivial⟩ ?_
        refine xe_then ?_
        refine x_true rfl ?_
        refine x_r [] [0, 1, 2, 7, 8, 15, 16, 26, 27] [13, 8401] [slFeat false a, slFeat false b, I band, .arr 13, I t16, I (a.length : Int), I t16, I (b.length : Int), I t27] [some (.oar [8401] 1 tb'.length (oLI 8401 tb')), some (.fam tb'.length 1 (mLI tb') (fun q => bif Nat.beq q t16.toNat then (fun q => bif Nat.beq q t27.toNat then [I 1099511627776] else (gLI tb') t16.toNat q) else (gLI tb') q))] [(0 : Int) ≤ t16 ∧ t16 < (tb'.length : Int), t16.toNat < tb'.length, t16.toNat < tb'.length ∧ (0 : Int) ≤ t27 ∧ t27 < (((at_ tb' t16.toNat).length) : Int), t16.toNat < tb'.length ∧ t27.toNat < (at_ tb' t16.toNat).length] ⟨⟨(by omega), (by omega)⟩, (by omega), ⟨(by omega), (by omega), (by omega)⟩, ⟨(by omega), (by omega)⟩, trivial⟩ ?_
        refine xe_block 3 ?_
        refine xe_then ?_
        refine x_weak [] (T := [(0, slFeat false a), (1, slFeat false b), (2, I band), (7, .arr 13), (8, I t16), (15, I (a.length : Int)), (16, I t16), (26, I (b.length : Int)), (27, I t27)]) (O := [(13, .oar [8401] 1 ((tb'.set t16.toNat ((at_ tb' t16.toNat).set t27.toNat 1099511627776)).length) (oLI 8401 (tb'.set t16.toNat ((at_ tb' t16.toNat).set t27.toNat 1099511627776)))), (8401, .fam (tb'.set t16.toNat ((at_ tb' t16.toNat).set t27.toNat 1099511627776)).length 1 (mLI (tb'.set t16.toNat ((at_ tb' t16.toNat).set t27.toNat 1099511627776))) (gLI (tb'.set t16.toNat ((at_ tb' t16.toNat).set t27.toNat 1099511627776))))]) rfl (⟨.inl rfl, .inl rfl, .inl rfl, .inl rfl, .inl rfl, .inl rfl, .inl rfl, .inl rfl, .inl rfl, trivial⟩) (⟨.inr ⟨rfl, rfl, (by first | rfl | (simp; done) | omega), fun i_ hi_ => .inl (osetLI 8401 t16.toNat tb' ((at_ tb' t16.toNat).set t27.toNat 1099511627776) i_)⟩, .inr (fsetLI (P := t16.toNat) (k := t27.toNat) ((by omega)) ((by omega)) (by simp only [Nat.beq_refl, cond_true]; try rfl) (by intro i hi; simp only [Nat.beq_refl, cond_true, beq_ne hi, cond_false]; try rfl) (by intro p hp; simp only [beq_ne hp, cond_false])), trivial⟩) ?_
        refine x_r [] [0, 1, 2, 7, 8, 15, 16, 26, 27] [13, 8401] [slFeat false a, slFeat false b, I band, .arr 13, I t16, I (a.length : Int), I t16, I (b.length : Int), I (t27 + 1)] [some (.oar [8401] 1 ((tb'.set t16.toNat ((at_ tb' t16.toNat).set t27.toNat 1099511627776)).length) (oLI 8401 (tb'.set t16.toNat ((at_ tb' t16.toNat).set t27.toNat 1099511627776)))), some (.fam (tb'.set t16.toNat ((at_ tb' t16.toNat).set t27.toNat 1099511627776)).length 1 (mLI (tb'.set t16.toNat ((at_ tb' t16.toNat).set t27.toNat 1099511627776))) (gLI (tb'.set t16.toNat ((at_ tb' t16.toNat).set t27.toNat 1099511627776))))] [inR .i64 (t27 + 1)] ⟨(inR_i64 (by omega) (by omega)), trivial⟩ ?_
        exact xe_again ((t27 + 1), (tb'.set t16.toNat ((at_ tb' t16.toNat).set t27.toNat 1099511627776))) rfl (show (0 ≤ (t27 + 1) ∧ (t27 + 1) ≤ (b.length : Int)) ∧ (tbOk a b band (tb'.set t16.toNat ((at_ tb' t16.toNat).set t27.toNat 1099511627776)) t16.toNat ∧ rowOk a b band (at_ (tb'.set t16.toNat ((at_ tb' t16.toNat).set t27.toNat 1099511627776)) t16.toNat) t16.toNat (t27 + 1).toNat) ∧ True from ⟨(by omega), (by rw [show (t27 + 1).toNat = t27.toNat + 1 from by omega]; exact tb_step hin.1 hin.2 hi hj (by rw [hlb.2]; first | exact (stp_far (by first | (left; rw [hix, hjx]; omega) | (right; (try rw [if_neg (by omega)]); (try rw [if_pos (by omega)]); omega))).symm | (rw [stp_add (by rw [hix, hjx]; omega) (by first | (rw [if_neg (by omega)]; omega) | (rw [if_pos (by omega)]; decide))]; first | rw [if_neg (by omega)] | rw [if_pos (by omega)]))), trivial⟩) (by first | (show (((b.length : Int) - (t27 + 1)).toNat : Nat) < ((b.length : Int) - t27).toNat; omega) | (dsimp only; omega))
       refine x_r [(3, .call [(true, .any)] true (I ((t16 - t27).natAbs : Int))), (5, .dec false), (8, .dec false)] [0, 1, 2, 7, 8, 9, 10, 15, 16, 26, 27, 49] [13, 8401] [slFeat false a, slFeat false b, I band, .arr 13, I t16, I t27, I (lb3 tb' t16 t27), I (a.length : Int), I t16, I (b.length : Int), I t27, Bv false] [some (.oar [8401] 1 tb'.length (oLI 8401 tb')), some (.fam tb'.length 1 (mLI tb') (gLI tb'))] [inR .i64 (t16 - t27), Con Tryz.prog 101 [I (t16 - t27)] true (I ((t16 - t27).natAbs : Int)) ∧ True, ¬ (band < ((t16 - t27).natAbs : Int)), ¬ (1099511627776 ≤ (lb3 tb' t16 t27))] ⟨(inR_i64 (by omega) (by omega)), ⟨(abs_ok (t16 - t27) (by omega)), trivial⟩, h6, h7, trivial⟩ ?_
       refine xe_then ?_
       refine x_false rfl ?_
       refine x_r [(14, .call [(true, .any), (true, .any)] true (I (costF (at_ a t16.toNat) (at_ b t27.toNat))))] [0, 1, 2, 7, 8, 15, 16, 26, 27] [13, 8401] [slFeat false a, slFeat false b, I band, .arr 13, I t16, I (a.length : Int), I t16, I (b.length : Int), I t27] [some (.oar [8401] 1 tb'.length (oLI 8401 tb')), some (.fam tb'.length 1 (mLI tb') (fun q => bif Nat.beq q t16.toNat then (fun q => bif Nat.beq q t27.toNat then [I ((lb3 tb' t16 t27) + (costF (at_ a t16.toNat) (at_ b t27.toNat)))] else (gLI tb') t16.toNat q) else (gLI tb') q))] [(0 : Int) ≤ t16 ∧ t16 < (tb'.length : Int), t16.toNat < tb'.length, (0 : Int) ≤ t16 ∧ t16 < (a.length : Int), (0 : Int) ≤ t27 ∧ t27 < (b.length : Int), Con Tryz.prog 114 [agFeat (at_ a t16.toNat), agFeat (at_ b t27.toNat)] true (I (costF (at_ a t16.toNat) (at_ b t27.toNat))) ∧ True, inR .i64 ((lb3 tb' t16 t27) + (costF (at_ a t16.toNat) (at_ b t27.toNat))), t16.toNat < tb'.length ∧ (0 : Int) ≤ t27 ∧ t27 < (((at_ tb' t16.toNat).length) : Int), t16.toNat < tb'.length ∧ t27.toNat < (at_ tb' t16.toNat).length] ⟨⟨(by omega), (by omega)⟩, (by omega), ⟨(by omega), (by omega)⟩, ⟨(by omega), (by omega)⟩, ⟨(featCost_ok (at_ a t16.toNat) (at_ b t27.toNat) (by first | exact hab.1 _ (by omega) | exact hab.2.1 _ (by omega)) (by first | exact hab.1 _ (by omega) | exact hab.2.1 _ (by omega))), trivial⟩, (inR_i64 (by omega) (by omega)), ⟨(by omega), (by omega), (by omega)⟩, ⟨(by omega), (by omega)⟩, trivial⟩ ?_
       refine xe_block 3 ?_
       refine xe_then ?_
       refine x_weak [] (T := [(0, slFeat false a), (1, slFeat false b), (2, I band), (7, .arr 13), (8, I t16), (15, I (a.length : Int)), (16, I t16), (26, I (b.length : Int)), (27, I t27)]) (O := [(13, .oar [8401] 1 ((tb'.set t16.toNat ((at_ tb' t16.toNat).set t27.toNat ((lb3 tb' t16 t27) + (costF (at_ a t16.toNat) (at_ b t27.toNat))))).length) (oLI 8401 (tb'.set t16.toNat ((at_ tb' t16.toNat).set t27.toNat ((lb3 tb' t16 t27) + (costF (at_ a t16.toNat) (at_ b t27.toNat))))))), (8401, .fam (tb'.set t16.toNat ((at_ tb' t16.toNat).set t27.toNat ((lb3 tb' t16 t27) + (costF (at_ a t16.toNat) (at_ b t27.toNat))))).length 1 (mLI (tb'.set t16.toNat ((at_ tb' t16.toNat).set t27.toNat ((lb3 tb' t16 t27) + (costF (at_ a t16.toNat) (at_ b t27.toNat)))))) (gLI (tb'.set t16.toNat ((at_ tb' t16.toNat).set t27.toNat ((lb3 tb' t16 t27) + (costF (at_ a t16.toNat) (at_ b t27.toNat)))))))]) rfl (⟨.inl rfl, .inl rfl, .inl rfl, .inl rfl, .inl rfl, .inl rfl, .inl rfl, .inl rfl, .inl rfl, trivial⟩) (⟨.inr ⟨rfl, rfl, (by first | rfl | (simp; done) | omega), fun i_ hi_ => .inl (osetLI 8401 t16.toNat tb' ((at_ tb' t16.toNat).set t27.toNat ((lb3 tb' t16 t27) + (costF (at_ a t16.toNat) (at_ b t27.toNat)))) i_)⟩, .inr (fsetLI (P := t16.toNat) (k := t27.toNat) ((by omega)) ((by omega)) (by simp only [Nat.beq_refl, cond_true]; try rfl) (by intro i hi; simp only [Nat.beq_refl, cond_true, beq_ne hi, cond_false]; try rfl) (by intro p hp; simp only [beq_ne hp, cond_false])), trivial⟩) ?_
       refine x_r [] [0, 1, 2, 7, 8, 15, 16, 26, 27] [13, 8401] [slFeat false a, slFeat false b, I band, .arr 13, I t16, I (a.length : Int), I t16, I (b.length : Int), I (t27 + 1)] [some (.oar [8401] 1 ((tb'.set t16.toNat ((at_ tb' t16.toNat).set t27.toNat ((lb3 tb' t16 t27) + (costF (at_ a t16.toNat) (at_ b t27.toNat))))).length) (oLI 8401 (tb'.set t16.toNat ((at_ tb' t16.toNat).set t27.toNat ((lb3 tb' t16 t27) + (costF (at_ a t16.toNat) (at_ b t27.toNat))))))), some (.fam (tb'.set t16.toNat ((at_ tb' t16.toNat).set t27.toNat ((lb3 tb' t16 t27) + (costF (at_ a t16.toNat) (at_ b t27.toNat))))).length 1 (mLI (tb'.set t16.toNat ((at_ tb' t16.toNat).set t27.toNat ((lb3 tb' t16 t27) + (costF (at_ a t16.toNat) (at_ b t27.toNat)))))) (gLI (tb'.set t16.toNat ((at_ tb' t16.toNat).set t27.toNat ((lb3 tb' t16 t27) + (costF (at_ a t16.toNat) (at_ b t27.toNat)))))))] [inR .i64 (t27 + 1)] ⟨(inR_i64 (by omega) (by omega)), trivial⟩ ?_
       exact xe_again ((t27 + 1), (tb'.set t16.toNat ((at_ tb' t16.toNat).set t27.toNat ((lb3 tb' t16 t27) + (costF (at_ a t16.toNat) (at_ b t27.toNat)))))) rfl (show (0 ≤ (t27 + 1) ∧ (t27 + 1) ≤ (b.length : Int)) ∧ (tbOk a b band (tb'.set t16.toNat ((at_ tb' t16.toNat).set t27.toNat ((lb3 tb' t16 t27) + (costF (at_ a t16.toNat) (at_ b t27.toNat))))) t16.toNat ∧ rowOk a b band (at_ (tb'.set t16.toNat ((at_ tb' t16.toNat).set t27.toNat ((lb3 tb' t16 t27) + (costF (at_ a t16.toNat) (at_ b t27.toNat))))) t16.toNat) t16.toNat (t27 + 1).toNat) ∧ True from ⟨(by omega), (by rw [show (t27 + 1).toNat = t27.toNat + 1 from by omega]; exact tb_step hin.1 hin.2 hi hj (by rw [hlb.2]; first | exact (stp_far (by first | (left; rw [hix, hjx]; omega) | (right; (try rw [if_neg (by omega)]); (try rw [if_pos (by omega)]); omega))).symm | (rw [stp_add (by rw [hix, hjx]; omega) (by first | (rw [if_neg (by omega)]; omega) | (rw [if_pos (by omega)]; decide))]; first | rw [if_neg (by omega)] | rw [if_pos (by omega)]))), trivial⟩) (by first | (show (((b.length : Int) - (t27 + 1)).toNat : Nat) < ((b.length : Int) - t27).toNat; omega) | (dsimp only; omega))
      refine x_r [(1, .dec false)] [0, 1, 2, 7, 8, 9, 10, 15, 16, 26, 27, 39] [13, 8401] [slFeat false a, slFeat false b, I band, .arr 13, I t16, I t27, I (lb3 tb' t16 t27), I (a.length : Int), I t16, I (b.length : Int), I t27, Bv false] [some (.oar [8401] 1 tb'.length (oLI 8401 tb')), some (.fam tb'.length 1 (mLI tb') (gLI tb'))] [¬ (t16 = 0)] ⟨h3, trivial⟩ ?_
      refine xe_then ?_
      refine x_false rfl ?_
      refine x_skip ?_
      refine xe_then ?_
      refine x_seq ?_
      by_cases h8 : band < ((t16 - t27).natAbs : Int)
      ·refine x_r [(3, .call [(true, .any)] true (I ((t16 - t27).natAbs : Int))), (5, .dec true)] [0, 1, 2, 7, 8, 9, 10, 15, 16, 26, 27, 49] [13, 8401] [slFeat false a, slFeat false b, I band, .arr 13, I t16, I t27, I (lb3 tb' t16 t27), I (a.length : Int), I t16, I (b.length : Int), I t27, Bv true] [some (.oar [8401] 1 tb'.length (oLI 8401 tb')), some (.fam tb'.length 1 (mLI tb') (gLI tb'))] [inR .i64 (t16 - t27), Con Tryz.prog 101 [I (t16 - t27)] true (I ((t16 - t27).natAbs : Int)) ∧ True, band < ((t16 - t27).natAbs : Int)] ⟨(inR_i64 (by omega) (by omega)), ⟨(abs_ok (t16 - t27) (by omega)), trivial⟩, h8, trivial⟩ ?_
       refine xe_then ?_
       refine x_true rfl ?_
       refine x_r [] [0, 1, 2, 7, 8, 15, 16, 26, 27] [13, 8401] [slFeat false a, slFeat false b, I band, .arr 13, I t16, I (a.length : Int), I t16, I (b.length : Int), I t27] [some (.oar [8401] 1 tb'.length (oLI 8401 tb')), some (.fam tb'.length 1 (mLI tb') (fun q => bif Nat.beq q t16.toNat then (fun q => bif Nat.beq q t27.toNat then [I 1099511627776] else (gLI tb') t16.toNat q) else (gLI tb') q))] [(0 : Int) ≤ t16 ∧ t16 < (tb'.length : Int), t16.toNat < tb'.length, t16.toNat < tb'.length ∧ (0 : Int) ≤ t27 ∧ t27 < (((at_ tb' t16.toNat).length) : Int), t16.toNat < tb'.length ∧ t27.toNat < (at_ tb' t16.toNat).length] ⟨⟨(by omega), (by omega)⟩, (by omega), ⟨(by omega), (by omega), (by omega)⟩, ⟨(by omega), (by omega)⟩, trivial⟩ ?_
       refine xe_block 3 ?_
       refine xe_then ?_
       refine x_weak [] (T := [(0, slFeat false a), (1, slFeat false b), (2, I band), (7, .arr 13), (8, I t16), (15, I (a.length : Int)), (16, I t16), (26, I (b.length : Int)), (27, I t27)]) (O := [(13, .oar [8401] 1 ((tb'.set t16.toNat ((at_ tb' t16.toNat).set t27.toNat 1099511627776)).length) (oLI 8401 (tb'.set t16.toNat ((at_ tb' t16.toNat).set t27.toNat 1099511627776)))), (8401, .fam (tb'.set t16.toNat ((at_ tb' t16.toNat).set t27.toNat 1099511627776)).length 1 (mLI (tb'.set t16.toNat ((at_ tb' t16.toNat).set t27.toNat 1099511627776))) (gLI (tb'.set t16.toNat ((at_ tb' t16.toNat).set t27.toNat 1099511627776))))]) rfl (⟨.inl rfl, .inl rfl, .inl rfl, .inl rfl, .inl rfl, .inl rfl, .inl rfl, .inl rfl, .inl rfl, trivial⟩) (⟨.inr ⟨rfl, rfl, (by first | rfl | (simp; done) | omega), fun i_ hi_ => .inl (osetLI 8401 t16.toNat tb' ((at_ tb' t16.toNat).set t27.toNat 1099511627776) i_)⟩, .inr (fsetLI (P := t16.toNat) (k := t27.toNat) ((by omega)) ((by omega)) (by simp only [Nat.beq_refl, cond_true]; try rfl) (by intro i hi; simp only [Nat.beq_refl, cond_true, beq_ne hi, cond_false]; try rfl) (by intro p hp; simp only [beq_ne hp, cond_false])), trivial⟩) ?_
       refine x_r [] [0, 1, 2, 7, 8, 15, 16, 26, 27] [13, 8401] [slFeat false a, slFeat false b, I band, .arr 13, I t16, I (a.length : Int), I t16, I (b.length : Int), I (t27 + 1)] [some (.oar [8401] 1 ((tb'.set t16.toNat ((at_ tb' t16.toNat).set t27.toNat 1099511627776)).length) (oLI 8401 (tb'.set t16.toNat ((at_ tb' t16.toNat).set t27.toNat 1099511627776)))), some (.fam (tb'.set t16.toNat ((at_ tb' t16.toNat).set t27.toNat 1099511627776)).length 1 (mLI (tb'.set t16.toNat ((at_ tb' t16.toNat).set t27.toNat 1099511627776))) (gLI (tb'.set t16.toNat ((at_ tb' t16.toNat).set t27.toNat 1099511627776))))] [inR .i64 (t27 + 1)] ⟨(inR_i64 (by omega) (by omega)), trivial⟩ ?_
       exact xe_again ((t27 + 1), (tb'.set t16.toNat ((at_ tb' t16.toNat).set t27.toNat 1099511627776))) rfl (show (0 ≤ (t27 + 1) ∧ (t27 + 1) ≤ (b.length : Int)) ∧ (tbOk a b band (tb'.set t16.toNat ((at_ tb' t16.toNat).set t27.toNat 1099511627776)) t16.toNat ∧ rowOk a b band (at_ (tb'.set t16.toNat ((at_ tb' t16.toNat).set t27.toNat 1099511627776)) t16.toNat) t16.toNat (t27 + 1).toNat) ∧ True from ⟨(by omega), (by rw [show (t27 + 1).toNat = t27.toNat + 1 from by omega]; exact tb_step hin.1 hin.2 hi hj (by rw [hlb.2]; first | exact (stp_far (by first | (left; rw [hix, hjx]; omega) | (right; (try rw [if_neg (by omega)]); (try rw [if_pos (by omega)]); omega))).symm | (rw [stp_add (by rw [hix, hjx]; omega) (by first | (rw [if_neg (by omega)]; omega) | (rw [if_pos (by omega)]; decide))]; first | rw [if_neg (by omega)] | rw [if_pos (by omega)]))), trivial⟩) (by first | (show (((b.length : Int) - (t27 + 1)).toNat : Nat) < ((b.length : Int) - t27).toNat; omega) | (dsimp only; omega))
      by_cases h9 : 1099511627776 ≤ (lb3 tb' t16 t27)
      ·refine x_r [(3, .call [(true, .any)] true (I ((t16 - t27).natAbs : Int))), (5, .dec false), (8, .dec true)] [0, 1, 2, 7, 8, 9, 10, 15, 16, 26, 27, 49] [13, 8401] [slFeat false a, slFeat false b, I band, .arr 13, I t16, I t27, I (lb3 tb' t16 t27), I (a.length : Int), I t16, I (b.length : Int), I t27, Bv true] [some (.oar [8401] 1 tb'.length (oLI 8401 tb')), some (.fam tb'.length 1 (mLI tb') (gLI tb'))] [inR .i64 (t16 - t27), Con Tryz.prog 101 [I (t16 - t27)] true (I ((t16 - t27).natAbs : Int)) ∧ True, ¬ (band < ((t16 - t27).natAbs : Int)), 1099511627776 ≤ (lb3 tb' t16 t27)] ⟨(inR_i64 (by omega) (by omega)), ⟨(abs_ok (t16 - t27) (by omega)), trivial⟩, h8, h9, trivial⟩ ?_
       refine xe_then ?_
       refine x_true rfl ?_
       refine x_r [] [0, 1, 2, 7, 8, 15, 16, 26, 27] [13, 8401] [slFeat false a, slFeat false b, I band, .arr 13, I t16, I (a.length : Int), I t16, I (b.length : Int), I t27] [some (.oar [8401] 1 tb'.length (oLI 8401 tb')), some (.fam tb'.length 1 (mLI tb') (fun q => bif Nat.beq q t16.toNat then (fun q => bif Nat.beq q t27.toNat then [I 1099511627776] else (gLI tb') t16.toNat q) else (gLI tb') q))] [(0 : Int) ≤ t16 ∧ t16 < (tb'.length : Int), t16.toNat < tb'.length, t16.toNat < tb'.length ∧ (0 : Int) ≤ t27 ∧ t27 < (((at_ tb' t16.toNat).length) : Int), t16.toNat < tb'.length ∧ t27.toNat < (at_ tb' t16.toNat).length] ⟨⟨(by omega), (by omega)⟩, (by omega), ⟨(by omega), (by omega), (by omega)⟩, ⟨(by omega), (by omega)⟩, trivial⟩ ?_
       refine xe_block 3 ?_
       refine xe_then ?_
       refine x_weak [] (T := [(0, slFeat false a), (1, slFeat false b), (2, I band), (7, .arr 13), (8, I t16), (15, I (a.length : Int)), (16, I t16), (26, I (b.length : Int)), (27, I t27)]) (O := [(13, .oar [8401] 1 ((tb'.set t16.toNat ((at_ tb' t16.toNat).set t27.toNat 1099511627776)).length) (oLI 8401 (tb'.set t16.toNat ((at_ tb' t16.toNat).set t27.toNat 1099511627776)))), (8401, .fam (tb'.set t16.toNat ((at_ tb' t16.toNat).set t27.toNat 1099511627776)).length 1 (mLI (tb'.set t16.toNat ((at_ tb' t16.toNat).set t27.toNat 1099511627776))) (gLI (tb'.set t16.toNat ((at_ tb' t16.toNat).set t27.toNat 1099511627776))))]) rfl (⟨.inl rfl, .inl rfl, .inl rfl, .inl rfl, .inl rfl, .inl rfl, .inl rfl, .inl rfl, .inl rfl, trivial⟩) (⟨.inr ⟨rfl, rfl, (by first | rfl | (simp; done) | omega), fun i_ hi_ => .inl (osetLI 8401 t16.toNat tb' ((at_ tb' t16.toNat).set t27.toNat 1099511627776) i_)⟩, .inr (fsetLI (P := t16.toNat) (k := t27.toNat) ((by omega)) ((by omega)) (by simp only [Nat.beq_refl, cond_true]; try rfl) (by intro i hi; simp only [Nat.beq_refl, cond_true, beq_ne hi, cond_false]; try rfl) (by intro p hp; simp only [beq_ne hp, cond_false])), trivial⟩) ?_
       refine x_r [] [0, 1, 2, 7, 8, 15, 16, 26, 27] [13, 8401] [slFeat false a, slFeat false b, I band, .arr 13, I t16, I (a.length : Int), I t16, I (b.length : Int), I (t27 + 1)] [some (.oar [8401] 1 ((tb'.set t16.toNat ((at_ tb' t16.toNat).set t27.toNat 1099511627776)).length) (oLI 8401 (tb'.set t16.toNat ((at_ tb' t16.toNat).set t27.toNat 1099511627776)))), some (.fam (tb'.set t16.toNat ((at_ tb' t16.toNat).set t27.toNat 1099511627776)).length 1 (mLI (tb'.set t16.toNat ((at_ tb' t16.toNat).set t27.toNat 1099511627776))) (gLI (tb'.set t16.toNat ((at_ tb' t16.toNat).set t27.toNat 1099511627776))))] [inR .i64 (t27 + 1)] ⟨(inR_i64 (by omega) (by omega)), trivial⟩ ?_
       exact xe_again ((t27 + 1), (tb'.set t16.toNat ((at_ tb' t16.toNat).set t27.toNat 1099511627776))) rfl (show (0 ≤ (t27 + 1) ∧ (t27 + 1) ≤ (b.length : Int)) ∧ (tbOk a b band (tb'.set t16.toNat ((at_ tb' t16.toNat).set t27.toNat 1099511627776)) t16.toNat ∧ rowOk a b band (at_ (tb'.set t16.toNat ((at_ tb' t16.toNat).set t27.toNat 1099511627776)) t16.toNat) t16.toNat (t27 + 1).toNat) ∧ True from ⟨(by omega), (by rw [show (t27 + 1).toNat = t27.toNat + 1 from by omega]; exact tb_step hin.1 hin.2 hi hj (by rw [hlb.2]; first | exact (stp_far (by first | (left; rw [hix, hjx]; omega) | (right; (try rw [if_neg (by omega)]); (try rw [if_pos (by omega)]); omega))).symm | (rw [stp_add (by rw [hix, hjx]; omega) (by first | (rw [if_neg (by omega)]; omega) | (rw [if_pos (by omega)]; decide))]; first | rw [if_neg (by omega)] | rw [if_pos (by omega)]))), trivial⟩) (by first | (show (((b.length : Int) - (t27 + 1)).toNat : Nat) < ((b.length : Int) - t27).toNat; omega) | (dsimp only; omega))
      refine x_r [(3, .call [(true, .any)] true (I ((t16 - t27).natAbs : Int))), (5, .dec false), (8, .dec false)] [0, 1, 2, 7, 8, 9, 10, 15, 16, 26, 27, 49] [13, 8401] [slFeat false a, slFeat false b, I band, .arr 13, I t16, I t27, I (lb3 tb' t16 t27), I (a.length : Int), I t16, I (b.length : Int), I t27, Bv false] [some (.oar [8401] 1 tb'.length (oLI 8401 tb')), some (.fam tb'.length 1 (mLI tb') (gLI tb'))] [inR .i64 (t16 - t27), Con Tryz.prog 101 [I (t16 - t27)] true (I ((t16 - t27).natAbs : Int)) ∧ True, ¬ (band < ((t16 - t27).natAbs : Int)), ¬ (1099511627776 ≤ (lb3 tb' t16 t27))] ⟨(inR_i64 (by omega) (by omega)), ⟨(abs_ok (t16 - t27) (by omega)), trivial⟩, h8, h9, trivial⟩ ?_
      refine xe_then ?_
      refine x_false rfl ?_
      refine x_r [(14, .call [(true, .any), (true, .any)] true (I (costF (at_ a t16.toNat) (at_ b t27.toNat))))] [0, 1, 2, 7, 8, 15, 16, 26, 27] [13, 8401] [slFeat false a, slFeat false b, I band, .arr 13, I t16, I (a.length : Int), I t16, I (b.length : Int), I t27] [some (.oar [8401] 1 tb'.length (oLI 8401 tb')), some (.fam tb'.length 1 (mLI tb') (fun q => bif Nat.beq q t16.toNat then (fun q => bif Nat.beq q t27.toNat then [I ((lb3 tb' t16 t27) + (costF (at_ a t16.toNat) (at_ b t27.toNat)))] else (gLI tb') t16.toNat q) else (gLI tb') q))] [(0 : Int) ≤ t16 ∧ t16 < (tb'.length : Int), t16.toNat < tb'.length, (0 : Int) ≤ t16 ∧ t16 < (a.length : Int), (0 : Int) ≤ t27 ∧ t27 < (b.length : Int), Con Tryz.prog 114 [agFeat (at_ a t16.toNat), agFeat (at_ b t27.toNat)] true (I (costF (at_ a t16.toNat) (at_ b t27.toNat))) ∧ True, inR .i64 ((lb3 tb' t16 t27) + (costF (at_ a t16.toNat) (at_ b t27.toNat))), t16.toNat < tb'.length ∧ (0 : Int) ≤ t27 ∧ t27 < (((at_ tb' t16.toNat).length) : Int), t16.toNat < tb'.length ∧ t27.toNat < (at_ tb' t16.toNat).length] ⟨⟨(by omega), (by omega)⟩, (by omega), ⟨(by omega), (by omega)⟩, ⟨(by omega), (by omega)⟩, ⟨(featCost_ok (at_ a t16.toNat) (at_ b t27.toNat) (by first | exact hab.1 _ (by omega) | exact hab.2.1 _ (by omega)) (by first | exact hab.1 _ (by omega) | exact hab.2.1 _ (by omega))), trivial⟩, (inR_i64 (by omega) (by omega)), ⟨(by omega), (by omega), (by omega)⟩, ⟨(by omega), (by omega)⟩, trivial⟩ ?_
      refine xe_block 3 ?_
      refine xe_then ?_
      refine x_weak [] (T := [(0, slFeat false a), (1, slFeat false b), (2, I band), (7, .arr 13), (8, I t16), (15, I (a.length : Int)), (16, I t16), (26, I (b.length : Int)), (27, I t27)]) (O := [(13, .oar [8401] 1 ((tb'.set t16.toNat ((at_ tb' t16.toNat).set t27.toNat ((lb3 tb' t16 t27) + (costF (at_ a t16.toNat) (at_ b t27.toNat))))).length) (oLI 8401 (tb'.set t16.toNat ((at_ tb' t16.toNat).set t27.toNat ((lb3 tb' t16 t27) + (costF (at_ a t16.toNat) (at_ b t27.toNat))))))), (8401, .fam (tb'.set t16.toNat ((at_ tb' t16.toNat).set t27.toNat ((lb3 tb' t16 t27) + (costF (at_ a t16.toNat) (at_ b t27.toNat))))).length 1 (mLI (tb'.set t16.toNat ((at_ tb' t16.toNat).set t27.toNat ((lb3 tb' t16 t27) + (costF (at_ a t16.toNat) (at_ b t27.toNat)))))) (gLI (tb'.set t16.toNat ((at_ tb' t16.toNat).set t27.toNat ((lb3 tb' t16 t27) + (costF (at_ a t16.toNat) (at_ b t27.toNat)))))))]) rfl (⟨.inl rfl, .inl rfl, .inl rfl, .inl rfl, .inl rfl, .inl rfl, .inl rfl, .inl rfl, .inl rfl, trivial⟩) (⟨.inr ⟨rfl, rfl, (by first | rfl | (simp; done) | omega), fun i_ hi_ => .inl (osetLI 8401 t16.toNat tb' ((at_ tb' t16.toNat).set t27.toNat ((lb3 tb' t16 t27) + (costF (at_ a t16.toNat) (at_ b t27.toNat)))) i_)⟩, .inr (fsetLI (P := t16.toNat) (k := t27.toNat) ((by omega)) ((by omega)) (by simp only [Nat.beq_refl, cond_true]; try rfl) (by intro i hi; simp only [Nat.beq_refl, cond_true, beq_ne hi, cond_false]; try rfl) (by intro p hp; simp only [beq_ne hp, cond_false])), trivial⟩) ?_
      refine x_r [] [0, 1, 2, 7, 8, 15, 16, 26, 27] [13, 8401] [slFeat false a, slFeat false b, I band, .arr 13, I t16, I (a.length : Int), I t16, I (b.length : Int), I (t27 + 1)] [some (.oar [8401] 1 ((tb'.set t16.toNat ((at_ tb' t16.toNat).set t27.toNat ((lb3 tb' t16 t27) + (costF (at_ a t16.toNat) (at_ b t27.toNat))))).length) (oLI 8401 (tb'.set t16.toNat ((at_ tb' t16.toNat).set t27.toNat ((lb3 tb' t16 t27) + (costF (at_ a t16.toNat) (at_ b t27.toNat))))))), some (.fam (tb'.set t16.toNat ((at_ tb' t16.toNat).set t27.toNat ((lb3 tb' t16 t27) + (costF (at_ a t16.toNat) (at_ b t27.toNat))))).length 1 (mLI (tb'.set t16.toNat ((at_ tb' t16.toNat).set t27.toNat ((lb3 tb' t16 t27) + (costF (at_ a t16.toNat) (at_ b t27.toNat)))))) (gLI (tb'.set t16.toNat ((at_ tb' t16.toNat).set t27.toNat ((lb3 tb' t16 t27) + (costF (at_ a t16.toNat) (at_ b t27.toNat)))))))] [inR .i64 (t27 + 1)] ⟨(inR_i64 (by omega) (by omega)), trivial⟩ ?_
      exact xe_again ((t27 + 1), (tb'.set t16.toNat ((at_ tb' t16.toNat).set t27.toNat ((lb3 tb' t16 t27) + (costF (at_ a t16.toNat) (at_ b t27.toNat)))))) rfl (show (0 ≤ (t27 + 1) ∧ (t27 + 1) ≤ (b.length : Int)) ∧ (tbOk a b band (tb'.set t16.toNat ((at_ tb' t16.toNat).set t27.toNat ((lb3 tb' t16 t27) + (costF (at_ a t16.toNat) (at_ b t27.toNat))))) t16.toNat ∧ rowOk a b band (at_ (tb'.set t16.toNat ((at_ tb' t16.toNat).set t27.toNat ((lb3 tb' t16 t27) + (costF (at_ a t16.toNat) (at_ b t27.toNat))))) t16.toNat) t16.toNat (t27 + 1).toNat) ∧ True from ⟨(by omega), (by rw [show (t27 + 1).toNat = t27.toNat + 1 from by omega]; exact tb_step hin.1 hin.2 hi hj (by rw [hlb.2]; first | exact (stp_far (by first | (left; rw [hix, hjx]; omega) | (right; (try rw [if_neg (by omega)]); (try rw [if_pos (by omega)]); omega))).symm | (rw [stp_add (by rw [hix, hjx]; omega) (by first | (rw [if_neg (by omega)]; omega) | (rw [if_pos (by omega)]; decide))]; first | rw [if_neg (by omega)] | rw [if_pos (by omega)]))), trivial⟩) (by first | (show (((b.length : Int) - (t27 + 1)).toNat : Nat) < ((b.length : Int) - t27).toNat; omega) | (dsimp only; omega))
     have hje : t27.toNat = b.length := by omega
     refine x_r [(0, .dec false)] [0, 1, 2, 7, 8, 15, 16, 26, 27, 28] [13, 8401] [slFeat false a, slFeat false b, I band, .arr 13, I t16, I (a.length : Int), I t16, I (b.length : Int), I t27, Bv false] [some (.oar [8401] 1 tb'.length (oLI 8401 tb')), some (.fam tb'.length 1 (mLI tb') (gLI tb'))] [¬ (t27 < (b.length : Int))] ⟨h2, trivial⟩ ?_
     refine xe_then ?_
     refine x_seq ?_
     refine x_false rfl ?_
     refine x_exit ?_
     refine xe_exit_then ?_
     refine xe_loop_exit ?_
     refine xe_exit_same ?_
     refine xe_block 1 ?_
     refine xe_then ?_
     refine x_r [] [0, 1, 2, 7, 15, 16] [13, 8401] [slFeat false a, slFeat false b, I band, .arr 13, I (a.length : Int), I (t16 + 1)] [some (.oar [8401] 1 tb'.length (oLI 8401 tb')), some (.fam tb'.length 1 (mLI tb') (gLI tb'))] [inR .i64 (t16 + 1)] ⟨(inR_i64 (by omega) (by omega)), trivial⟩ ?_
     exact xe_again ((t16 + 1), tb') rfl (show (0 ≤ (t16 + 1) ∧ (t16 + 1) ≤ (a.length : Int)) ∧ (tbOk a b band tb' (t16 + 1).toNat) ∧ True from ⟨(by omega), (by rw [show (t16 + 1).toNat = t16.toNat + 1 from by omega]; exact tb_done hin.1 hin.2 hje), trivial⟩) (by first | (show (((a.length : Int) - (t16 + 1)).toNat : Nat) < ((a.length : Int) - t16).toNat; omega) | (dsimp only; omega))
    have hie : t16.toNat = a.length := by omega
    rw [hie] at htb
    refine x_r [(0, .dec false)] [0, 1, 2, 7, 15, 16, 17] [13, 8401] [slFeat false a, slFeat false b, I band, .arr 13, I (a.length : Int), I t16, Bv false] [some (.oar [8401] 1 tb.length (oLI 8401 tb)), some (.fam tb.length 1 (mLI tb) (gLI tb))] [¬ (t16 < (a.length : Int))] ⟨h1, trivial⟩ ?_
    refine xe_then ?_
    refine x_seq ?_
    refine x_false rfl ?_
    refine x_exit ?_
    refine xe_exit_then ?_
    refine xe_loop_exit ?_
    refine xe_exit_same ?_
    refine xe_then ?_
    refine xR [] [6] [13, 8401] [.arr 13] [some (.oar [8401] 1 tb.length (oLI 8401 tb)), some (.fam tb.length 1 (mLI tb) (gLI tb))] [] trivial ?_
    refine x_ret ?_
    refine xe_end tb (show (tbOk a b band tb a.length) ∧ (True) from ⟨(by first | assumption | exact htb), trivial⟩) (trivial) (.arr 13) (by kernel_rfl) (.inr ⟨(fun _ => rfl), rfl, rfl, oleLI _ _ rfl⟩) (fun _ => rfl) (fun _ => (tagLI true _))
  obtain ⟨v, ⟨hh0, _⟩, hc⟩ := hh
  exact ⟨v, hh0, hc⟩


def elCode (a b : List Feat) (band : Int) : Int := if okFeats a 72 = true ∧ okFeats b 72 = true then (if (inB band 0 72 && decide ((((a.length : Int) - (b.length : Int)).natAbs : Int) ≤ band)) = true then 0 else 2) else 1
def elR (a b : List Feat) (band : Int) : Int × Int := if elCode a b band = 0 then (cv farS a b band (a.length - 1) (b.length - 1), 0) else (0, elCode a b band)
theorem elCode_0 {a b : List Feat} {band : Int} (h : elCode a b band = 0) : okFeats a 72 = true ∧ okFeats b 72 = true ∧ (0 ≤ band ∧ band ≤ 72) ∧ inBd band a.length b.length := by
  unfold elCode at h
  split at h
  · rename_i g
    split at h
    · rename_i g2
      simp only [Bool.and_eq_true, decide_eq_true_eq, inB] at g2
      refine ⟨g.1, g.2, g2.1, ?_⟩
      unfold inBd; omega
    · omega
  · omega
theorem elCode_any {a b : List Feat} (ha : okFeats a 72 = true) (hb : okFeats b 72 = true) : elCode a b 72 = 0 := by
  have h1 := okFeats_n ha
  have h2 := okFeats_n hb
  unfold elCode
  rw [if_pos ⟨ha, hb⟩, if_pos (by simp only [Bool.and_eq_true, decide_eq_true_eq, inB]; omega)]
theorem elR_any {a b : List Feat} (ha : okFeats a 72 = true) (hb : okFeats b 72 = true) : elR a b 72 = (cv farS a b 72 (a.length - 1) (b.length - 1), 0) := if_pos (elCode_any ha hb)
theorem fl_last {a b : List Feat} {band : Int} {out : List Int} (h : flOk a b band out (a.length * b.length)) (ha : 1 ≤ a.length) (hb : 1 ≤ b.length) : at_ out (out.length - 1) = cv farS a b band (a.length - 1) (b.length - 1) ∧ 1 ≤ out.length := by
  have e : a.length * b.length = (a.length - 1) * b.length + b.length := by
    obtain ⟨n, hn⟩ : ∃ n, a.length = n + 1 := ⟨a.length - 1, by omega⟩
    rw [hn, Nat.add_sub_cancel, Nat.succ_mul]
  have q := h.2 (a.length - 1) (b.length - 1) (by omega) (by omega) (by omega)
  have l := h.1
  rw [← q]
  refine ⟨?_, by omega⟩
  congr 1; omega

theorem tb_last {a b : List Feat} {band : Int} {tb : List (List Int)} (h : tbOk a b band tb a.length) (ha : 1 ≤ a.length) (hb : 1 ≤ b.length) : (tb.length = a.length ∧ (at_ tb (a.length - 1)).length = b.length) ∧ at_ (at_ tb (a.length - 1)) (b.length - 1) = cv farI a b band (a.length - 1) (b.length - 1) :=
  ⟨⟨h.1, (h.2 _ (by omega)).1⟩, (h.2 _ (by omega)).2 _ (by omega)⟩

-- impl.elastic
theorem elastic_ok (a : List Feat) (b : List Feat) (band : Int) (hab : okAB a b) (hbd : 0 ≤ band ∧ band ≤ 1000) (h1 : 1 ≤ a.length ∧ 1 ≤ b.length) : ∃ (v : Int), (v = cv farI a b band (a.length - 1) (b.length - 1)) ∧ Con Tryz.prog 70 [slFeat false a, slFeat false b, I band] true (I v) := by
  have hla := hab.2.2
  have hh : ∃ r : Int, ((r = cv farI a b band (a.length - 1) (b.length - 1)) ∧ (True)) ∧ CallOK Tryz.prog 70 [slFeat false a, slFeat false b, I band] (lookO []) true (I r) (lookO []) := by
    refine fn_okX (Φ := fun r : Int => (r = cv farI a b band (a.length - 1) (b.length - 1)) ∧ (True)) [] (fun r => []) (fn := Tryz.f70) (nt := 21) Tryz.func70 rfl rfl (args := [slFeat false a, slFeat false b, I band]) rfl (allcons (.inl ⟨rfl, tagFeat false _⟩) (allcons (.inl ⟨rfl, tagFeat false _⟩) (allcons (.inl ⟨rfl, trivial⟩) allnil))) (res := fun r => I r) ?_
    refine xR [] [0, 1, 2] [] [slFeat false a, slFeat false b, I band] [] [] trivial ?_
    refine x_seq ?_
    obtain ⟨v_1, hx1_0, hc1⟩ := costTable_ok a b band hab (by omega)
    have htl := tb_last hx1_0 h1.1 h1.2
    have hq1 : ((a.length : Int) - 1).toNat = a.length - 1 := by omega
    have hq2 : ((b.length : Int) - 1).toNat = b.length - 1 := by omega
    rw [← hq1] at htl
    refine x_r [(3, .call [(true, .any), (true, .any), (true, .any)] true (slLI true v_1))] [6] [] [I (at_ (at_ v_1 (((a.length : Int) - 1).toNat)) (((b.length : Int) - 1).toNat))] [] [Con Tryz.prog 102 [slFeat false a, slFeat false b, I band] true (slLI true v_1) ∧ True, inR .i64 ((a.length : Int) - 1), (0 : Int) ≤ ((a.length : Int) - 1) ∧ ((a.length : Int) - 1) < (v_1.length : Int), inR .i64 ((b.length : Int) - 1), (0 : Int) ≤ ((b.length : Int) - 1) ∧ ((b.length : Int) - 1) < (((at_ v_1 (((a.length : Int) - 1).toNat)).length) : Int)] ⟨⟨hc1, trivial⟩, (inR_i64 (by omega) (by omega)), ⟨(by omega), (by omega)⟩, (inR_i64 (by omega) (by omega)), ⟨(by omega), (by omega)⟩, trivial⟩ ?_
    refine xe_then ?_
    refine x_ret ?_
    refine xe_end (at_ (at_ v_1 (((a.length : Int) - 1).toNat)) (((b.length : Int) - 1).toNat)) (show ((at_ (at_ v_1 (((a.length : Int) - 1).toNat)) (((b.length : Int) - 1).toNat)) = cv farI a b band (a.length - 1) (b.length - 1)) ∧ (True) from ⟨(by (rw [hq2, htl.2, hq1])), trivial⟩) (trivial) (I (at_ (at_ v_1 (((a.length : Int) - 1).toNat)) (((b.length : Int) - 1).toNat))) (by kernel_rfl) (.inl rfl) (fun _ => rfl) (fun _ => trivial)
  obtain ⟨v, ⟨hh0, _⟩, hc⟩ := hh
  exact ⟨v, hh0, hc⟩


/-- What is left of l behind b. -/
def szTake (l : Int) (b : Nat) : Int := if l < b then -1 else l - b
theorem szTake_nn {l : Int} {b : Nat} (h : ¬ szTake l b < 0) : szTake l b = l - b ∧ (b : Int) ≤ l := by
  unfold szTake at *; split at h <;> simp_all <;> omega
theorem szTake_ng {l : Int} {b : Nat} (h : szTake l b < 0) (h0 : 0 ≤ l) : szTake l b = -1 ∧ l < b := by
  unfold szTake at *; split at h <;> simp_all <;> omega
theorem szTake_of {l : Int} {b : Nat} (h : (b : Int) ≤ l) : szTake l b = l - b := by unfold szTake; rw [if_neg (by omega)]
theorem szTake_neg {l : Int} {b : Nat} (h : l < b) : szTake l b = -1 := by unfold szTake; rw [if_pos h]
theorem take_snoc' {α : Type} [Inhabited α] {l : List α} {k : Nat} (h : k < l.length) : l.take (k + 1) = l.take k ++ [at_ l k] := by
  rw [List.take_succ_eq_append_getElem h, at_eq h]

/-- Whether a template may learn a sample. -/
def lrnB (w : Writer) (label : ByteArray) (s : List Feat) (j : Nat) : Bool := decide ((at_ w.Trained j).Label = label) && (decide ((at_ w.Trained j).Count < 100) && (inB w.Band 0 72 && decide (((((at_ w.Trained j).Feats.length : Int) - (s.length : Int)).natAbs : Int) ≤ w.Band)))
/-- Which of the first k templates learns a sample, and its cost. -/
def pkS (w : Writer) (label : ByteArray) (s : List Feat) : Nat → Int × Int
  | 0 => (-1, 0)
  | k + 1 => if lrnB w label s k = true ∧ ((pkS w label s k).1 < 0 ∨ cv farS s (at_ w.Trained k).Feats w.Band (s.length - 1) ((at_ w.Trained k).Feats.length - 1) < (pkS w label s k).2) then ((k : Int), cv farS s (at_ w.Trained k).Feats w.Band (s.length - 1) ((at_ w.Trained k).Feats.length - 1)) else pkS w label s k
def pkI (w : Writer) (label : ByteArray) (s : List Feat) : Int := (pkS w label s w.Trained.length).1
theorem pkS_bd (w : Writer) (label : ByteArray) (s : List Feat) : ∀ k : Nat, (-1 ≤ (pkS w label s k).1 ∧ (pkS w label s k).1 < (k : Int) ∨ (pkS w label s k).1 = -1) ∧ (0 ≤ (pkS w label s k).1 → lrnB w label s (pkS w label s k).1.toNat = true)
  | 0 => ⟨.inr rfl, fun h => absurd h (by show ¬ (0 : Int) ≤ -1; decide)⟩
  | k + 1 => by
    have ih := pkS_bd w label s k
    unfold pkS
    split
    · rename_i h
      exact ⟨.inl ⟨by dsimp only; omega, by dsimp only; omega⟩, fun _ => h.1⟩
    · refine ⟨?_, ih.2⟩
      rcases ih.1 with q | q
      · exact .inl ⟨q.1, by omega⟩
      · exact .inr q
theorem pkI_bd (w : Writer) (label : ByteArray) (s : List Feat) : (-1 ≤ pkI w label s ∧ pkI w label s < (w.Trained.length : Int)) ∧ (0 ≤ pkI w label s → lrnB w label s (pkI w label s).toNat = true) := by
  have h := pkS_bd w label s w.Trained.length
  unfold pkI
  exact ⟨by omega, h.2⟩
theorem okW_iff {w : Writer} : okWriter' w = true ↔ (0 ≤ w.Band ∧ w.Band ≤ 72) ∧ w.Trained.length ≤ 40 ∧ ∀ j, j < w.Trained.length → okTrained' (at_ w.Trained j) = true := by
  simp only [okWriter', Bool.and_eq_true, decide_eq_true_eq, inB, allN_iff]
  constructor
  · rintro ⟨a, b, c⟩; exact ⟨a, by omega, c⟩
  · rintro ⟨a, b, c⟩; exact ⟨a, by omega, c⟩
theorem lrn_iff {w : Writer} {label : ByteArray} {s : List Feat} {j : Nat} : lrnB w label s j = true ↔ (at_ w.Trained j).Label = label ∧ (at_ w.Trained j).Count < 100 ∧ (0 ≤ w.Band ∧ w.Band ≤ 72) ∧ inBd w.Band (at_ w.Trained j).Feats.length s.length := by
  simp only [lrnB, Bool.and_eq_true, decide_eq_true_eq, inB, inBd]
/-- A writer after a sample that the template k learns; a new one if k is negative. -/
def lrnT (w : Writer) (label : ByteArray) (s : List Feat) (share k : Int) : List Trained := if k < 0 then w.Trained ++ [⟨label, s, s, 0⟩] else w.Trained.set k.toNat (adpT (at_ w.Trained k.toNat) s w.Band share)
def lrnW (w : Writer) (label : ByteArray) (s : List Feat) (share : Int) : Writer := ⟨w.Band, lrnT w label s share (pkI w label s)⟩
def lrnA (w : Writer) (label : ByteArray) (s : List Feat) : Int := if pkI w label s < 0 then (w.Trained.length : Int) else pkI w label s
/-- The first templates after the sample. -/
def lrnP (w : Writer) (s : List Feat) (share k : Int) (n : Nat) : List Trained := (List.range n).map fun j : Nat => if (j : Int) = k then adpT (at_ w.Trained j) s w.Band share else at_ w.Trained j
theorem lrnP_len (w : Writer) (s : List Feat) (share k : Int) (n : Nat) : (lrnP w s share k n).length = n := by simp [lrnP]
theorem lrnP_y {w : Writer} {s : List Feat} {share k : Int} {n : Nat} {y : Trained} (h : (n : Int) = k) (hy : y = adpT (at_ w.Trained n) s w.Band share) : lrnP w s share k n ++ [y] = lrnP w s share k (n + 1) := by
  subst hy; simp [lrnP, List.range_succ, h]
theorem lrnP_n {w : Writer} {s : List Feat} {share k : Int} {n : Nat} {y : Trained} (h : ¬ (n : Int) = k) (hy : y = at_ w.Trained n) : lrnP w s share k n ++ [y] = lrnP w s share k (n + 1) := by
  subst hy; simp [lrnP, List.range_succ, h]
theorem lrnP_neg {w : Writer} {s : List Feat} {share k : Int} (h : k < 0) : lrnP w s share k w.Trained.length = w.Trained := by
  refine ext_at (lrnP_len _ _ _ _ _) fun j hj => ?_
  rw [lrnP_len] at hj
  rw [at_eq (by rw [lrnP_len]; exact hj)]
  simp only [lrnP, List.getElem_map, List.getElem_range]
  rw [if_neg (by omega)]
theorem lrnP_pos {w : Writer} {s : List Feat} {share k : Int} (h : 0 ≤ k ∧ k < (w.Trained.length : Int)) : lrnP w s share k w.Trained.length = w.Trained.set k.toNat (adpT (at_ w.Trained k.toNat) s w.Band share) := by
  refine ext_at (by rw [lrnP_len, List.length_set]) fun j hj => ?_
  rw [lrnP_len] at hj
  rw [at_eq (by rw [lrnP_len]; exact hj)]
  simp only [lrnP, List.getElem_map, List.getElem_range]
  by_cases e : j = k.toNat
  · subst e
    rw [if_pos (by omega), at_set_same hj]
  · rw [if_neg (by omega), at_set_oth e]
theorem at_stT (y : Trained) : y = ⟨y.Label, y.Base, y.Feats, y.Count⟩ := rfl

theorem pk_no {w : Writer} {label : ByteArray} {s : List Feat} {k : Nat} (h : lrnB w label s k = false) : pkS w label s (k + 1) = pkS w label s k := by
  rw [pkS, if_neg (fun q => by rw [h] at q; exact absurd q.1 (by decide))]
theorem pk_same {w : Writer} {label : ByteArray} {s : List Feat} {k : Nat} {c : Int} (hc : c = cv farS s (at_ w.Trained k).Feats w.Band (s.length - 1) ((at_ w.Trained k).Feats.length - 1)) {b l : Int} (hb : pkS w label s k = (b, l)) (h1 : ¬ b < 0) (h2 : ¬ c < l) : pkS w label s (k + 1) = (b, l) := by
  rw [pkS, hb, if_neg (fun q => by rw [← hc] at q; rcases q.2 with q | q <;> simp only at q <;> omega)]
theorem pk_yes {w : Writer} {label : ByteArray} {s : List Feat} {k : Nat} {c : Int} (h : lrnB w label s k = true) (hc : c = cv farS s (at_ w.Trained k).Feats w.Band (s.length - 1) ((at_ w.Trained k).Feats.length - 1)) {b l : Int} (hb : pkS w label s k = (b, l)) (h1 : b < 0 ∨ c < l) : pkS w label s (k + 1) = ((k : Int), c) := by
  rw [pkS, hb, if_pos ⟨h, by rw [← hc]; exact h1⟩, hc]
theorem lrn_cv {w : Writer} {label : ByteArray} {s : List Feat} {k : Nat} (hs : okFeats s 72 = true) (ht : okTrained' (at_ w.Trained k) = true) (h : lrnB w label s k = true) : cv farI s (at_ w.Trained k).Feats w.Band (s.length - 1) ((at_ w.Trained k).Feats.length - 1) = cv farS s (at_ w.Trained k).Feats w.Band (s.length - 1) ((at_ w.Trained k).Feats.length - 1) := by
  have q := (lrn_iff.1 h).2.2.2
  have h1 := okFeats_n hs
  have hf := (okTr_iff.1 ht).2.2.1
  have h2 := okFeats_n hf
  have hb := inBd_end q h2.1 h1.1
  rcases cv_fin (band := w.Band) (i := s.length - 1) (j := (at_ w.Trained k).Feats.length - 1) (okAB_of hs hf) (by omega) (by omega) with g | g
  · exact g.2.1
  · exact absurd (by unfold inBd at hb ⊢; omega) g.1
theorem lrn_mk {w : Writer} {label : ByteArray} {s : List Feat} {k : Nat} (h1 : (at_ w.Trained k).Label = label) (h2 : (at_ w.Trained k).Count < 100) (h3 : (inB w.Band 0 72 && decide (((((at_ w.Trained k).Feats.length : Int) - (s.length : Int)).natAbs : Int) ≤ w.Band)) = true) : lrnB w label s k = true := by
  unfold lrnB; rw [h3]; simp [h1, h2]
theorem lrn_n1 {w : Writer} {label : ByteArray} {s : List Feat} {k : Nat} (h1 : ¬ (at_ w.Trained k).Label = label) : lrnB w label s k = false := by simp [lrnB, h1]
theorem lrn_n2 {w : Writer} {label : ByteArray} {s : List Feat} {k : Nat} (h1 : 100 ≤ (at_ w.Trained k).Count) : lrnB w label s k = false := by
  have : ¬ (at_ w.Trained k).Count < 100 := by omega
  simp [lrnB, this]
theorem lrn_n3 {w : Writer} {label : ByteArray} {s : List Feat} {k : Nat} (h3 : (inB w.Band 0 72 && decide (((((at_ w.Trained k).Feats.length : Int) - (s.length : Int)).natAbs : Int) ≤ w.Band)) = false) : lrnB w label s k = false := by
  unfold lrnB; rw [h3]; simp
end Go.Proofs.YtjiflhglbephbaaGreat.Ax
