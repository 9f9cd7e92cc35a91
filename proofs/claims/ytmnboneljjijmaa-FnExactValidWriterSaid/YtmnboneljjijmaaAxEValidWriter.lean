/- The statement FnExactValidWriter: contracts of what it reaches, and its proof. No conditions. -/
import Derived.Test.YtmnboneljjijmaaAxN
import Derived.Test.YtmnboneljjijmaaShelf
namespace Go.Proofs.Ytmnboneljjijmaa.Ax
open Go.RowKit Go.ChangeShapes Go.WideShapes
set_option linter.unusedVariables false
set_option linter.unusedSimpArgs false

def cI (x : Int) : List AV := [I x]
def fI (xs : List Int) (i : Nat) : List AV := cI (at_ xs i)
def slI (fr : Bool) (xs : List Int) : AV := .sl fr 1 xs.length (fI xs)
theorem tagcI (t : Bool) (x : Int) : taggedL t (cI x) := by simp [cI, taggedL, tagged]
theorem tagI (t : Bool) (xs : List Int) : tagged t (slI t xs) := by simp only [slI, tagged]; exact ⟨trivial, fun i _ => tagcI t _⟩
theorem lenI (fr : Bool) (xs : List Int) : lenA noOb (slI fr xs) = some xs.length := rfl
def cS (x : ByteArray) : List AV := [Sv x]
def fS (xs : List ByteArray) (i : Nat) : List AV := cS (at_ xs i)
def slS (fr : Bool) (xs : List ByteArray) : AV := .sl fr 1 xs.length (fS xs)
theorem tagcS (t : Bool) (x : ByteArray) : taggedL t (cS x) := by simp [cS, taggedL, tagged]
theorem tagS (t : Bool) (xs : List ByteArray) : tagged t (slS t xs) := by simp only [slS, tagged]; exact ⟨trivial, fun i _ => tagcS t _⟩
theorem lenS (fr : Bool) (xs : List ByteArray) : lenA noOb (slS fr xs) = some xs.length := rfl
structure Feat where
  X : Int
  Y : Int
  D : Int
deriving DecidableEq, Inhabited
def cFeat (x : Feat) : List AV := [I x.X, I x.Y, I x.D]
def fFeat (xs : List Feat) (i : Nat) : List AV := cFeat (at_ xs i)
def slFeat (fr : Bool) (xs : List Feat) : AV := .sl fr 3 xs.length (fFeat xs)
theorem tagcFeat (t : Bool) (x : Feat) : taggedL t (cFeat x) := by simp [cFeat, taggedL, tagged]
theorem tagFeat (t : Bool) (xs : List Feat) : tagged t (slFeat t xs) := by simp only [slFeat, tagged]; exact ⟨trivial, fun i _ => tagcFeat t _⟩
theorem lenFeat (fr : Bool) (xs : List Feat) : lenA noOb (slFeat fr xs) = some xs.length := rfl
def cLFeat (fr : Bool) (x : List Feat) : List AV := [slFeat fr x]
def fLFeat (fr : Bool) (xs : List (List Feat)) (i : Nat) : List AV := cLFeat fr (at_ xs i)
def slLFeat (fr : Bool) (xs : List (List Feat)) : AV := .sl fr 1 xs.length (fLFeat fr xs)
theorem tagcLFeat (t : Bool) (x : List Feat) : taggedL t (cLFeat t x) := by simp [cLFeat, taggedL, tagged, tagFeat]
theorem tagLFeat (t : Bool) (xs : List (List Feat)) : tagged t (slLFeat t xs) := by simp only [slLFeat, tagged]; exact ⟨trivial, fun i _ => tagcLFeat t _⟩
theorem lenLFeat (fr : Bool) (xs : List (List Feat)) : lenA noOb (slLFeat fr xs) = some xs.length := rfl
theorem idsLFeat (fr : Bool) (x : List Feat) : AV.idsL (cLFeat fr x) = [] := rfl
theorem leLFeat (fr : Bool) (x : List Feat) (ob : Nat → Option Ob) : leL ob false (cLFeat fr x) (cLFeat false x) := (And.intro (And.intro (fun h => by cases h) (And.intro rfl (And.intro rfl (fun i _ => .inl rfl)))) rfl)
structure Trained where
  Label : ByteArray
  Base : List Feat
  Feats : List Feat
  Count : Int
deriving DecidableEq, Inhabited
def cTrained (fr : Bool) (x : Trained) : List AV := [Sv x.Label, slFeat fr x.Base, slFeat fr x.Feats, I x.Count]
def fTrained (fr : Bool) (xs : List Trained) (i : Nat) : List AV := cTrained fr (at_ xs i)
def slTrained (fr : Bool) (xs : List Trained) : AV := .sl fr 4 xs.length (fTrained fr xs)
theorem tagcTrained (t : Bool) (x : Trained) : taggedL t (cTrained t x) := by simp [cTrained, taggedL, tagged, tagFeat]
theorem tagTrained (t : Bool) (xs : List Trained) : tagged t (slTrained t xs) := by simp only [slTrained, tagged]; exact ⟨trivial, fun i _ => tagcTrained t _⟩
theorem lenTrained (fr : Bool) (xs : List Trained) : lenA noOb (slTrained fr xs) = some xs.length := rfl
theorem idsTrained (fr : Bool) (x : Trained) : AV.idsL (cTrained fr x) = [] := rfl
theorem leTrained (fr : Bool) (x : Trained) (ob : Nat → Option Ob) : leL ob false (cTrained fr x) (cTrained false x) := (And.intro rfl (And.intro (And.intro (fun h => by cases h) (And.intro rfl (And.intro rfl (fun i _ => .inl rfl)))) (And.intro (And.intro (fun h => by cases h) (And.intro rfl (And.intro rfl (fun i _ => .inl rfl)))) (And.intro rfl rfl))))
def cLTrained (fr : Bool) (x : List Trained) : List AV := [slTrained fr x]
def fLTrained (fr : Bool) (xs : List (List Trained)) (i : Nat) : List AV := cLTrained fr (at_ xs i)
def slLTrained (fr : Bool) (xs : List (List Trained)) : AV := .sl fr 1 xs.length (fLTrained fr xs)
theorem tagcLTrained (t : Bool) (x : List Trained) : taggedL t (cLTrained t x) := by simp [cLTrained, taggedL, tagged, tagTrained]
theorem tagLTrained (t : Bool) (xs : List (List Trained)) : tagged t (slLTrained t xs) := by simp only [slLTrained, tagged]; exact ⟨trivial, fun i _ => tagcLTrained t _⟩
theorem lenLTrained (fr : Bool) (xs : List (List Trained)) : lenA noOb (slLTrained fr xs) = some xs.length := rfl
theorem idsLTrained (fr : Bool) (x : List Trained) : AV.idsL (cLTrained fr x) = [] := rfl
theorem leLTrained (fr : Bool) (x : List Trained) (ob : Nat → Option Ob) : leL ob false (cLTrained fr x) (cLTrained false x) := (And.intro (And.intro (fun h => by cases h) (And.intro rfl (And.intro rfl (fun i _ => .inr ⟨idsTrained _ _, leTrained _ _ _⟩)))) rfl)
structure Writer where
  Band : Int
  Trained : List Trained
deriving DecidableEq, Inhabited
def cWriter (fr : Bool) (x : Writer) : List AV := [I x.Band, slTrained fr x.Trained]
def fWriter (fr : Bool) (xs : List Writer) (i : Nat) : List AV := cWriter fr (at_ xs i)
def slWriter (fr : Bool) (xs : List Writer) : AV := .sl fr 2 xs.length (fWriter fr xs)
theorem tagcWriter (t : Bool) (x : Writer) : taggedL t (cWriter t x) := by simp [cWriter, taggedL, tagged, tagTrained]
theorem tagWriter (t : Bool) (xs : List Writer) : tagged t (slWriter t xs) := by simp only [slWriter, tagged]; exact ⟨trivial, fun i _ => tagcWriter t _⟩
theorem lenWriter (fr : Bool) (xs : List Writer) : lenA noOb (slWriter fr xs) = some xs.length := rfl
theorem idsWriter (fr : Bool) (x : Writer) : AV.idsL (cWriter fr x) = [] := rfl
theorem leWriter (fr : Bool) (x : Writer) (ob : Nat → Option Ob) : leL ob false (cWriter fr x) (cWriter false x) := (And.intro rfl (And.intro (And.intro (fun h => by cases h) (And.intro rfl (And.intro rfl (fun i _ => .inr ⟨idsTrained _ _, leTrained _ _ _⟩)))) rfl))

/-- What is left of l behind b. -/
def szTake (l : Int) (b : Nat) : Int := if l < b then -1 else l - b
theorem szTake_nn {l : Int} {b : Nat} (h : ¬ szTake l b < 0) : szTake l b = l - b ∧ (b : Int) ≤ l := by
  unfold szTake at *; split at h <;> simp_all <;> omega
theorem szTake_ng {l : Int} {b : Nat} (h : szTake l b < 0) (h0 : 0 ≤ l) : szTake l b = -1 ∧ l < b := by
  unfold szTake at *; split at h <;> simp_all <;> omega
theorem szTake_of {l : Int} {b : Nat} (h : (b : Int) ≤ l) : szTake l b = l - b := by unfold szTake; rw [if_neg (by omega)]
theorem szTake_neg {l : Int} {b : Nat} (h : l < b) : szTake l b = -1 := by unfold szTake; rw [if_pos h]
theorem take_snoc' {α : Type} [Inhabited α] {l : List α} {k : Nat} (h : k < l.length) : l.take (k + 1) = l.take k ++ [at_ l k] := by
  rw [List.take_succ_eq_append_getElem h, at_eq h]

def bulkFeatS (xs : List Feat) : Nat := xs.length
theorem bulkFeatS_len (xs : List Feat) : xs.length ≤ bulkFeatS xs := Nat.le_refl _

-- laws.szFeatS
theorem szFeatS_ok (a : List Feat) (left : Int) (h0 : 0 ≤ left ∧ left ≤ 1048576) : Con Try.prog 47 [slFeat false a, I left] true (I (szTake left (bulkFeatS a))) := by
  refine fn_ok (fn := Try.f47) (nt := 12) Try.func47 rfl rfl rfl rfl (by simp [taggedL, tagged, tagFeat]) fun B hB => ?_
  refine aw_lens (x := slFeat false a) 0 rfl (fun len_a => ?_)
  simp [LenOK, LenL, cFeat, fFeat, slFeat] at len_a
  refine aw_seq ?_
  refine aw_reg [] [0, 1] [] [slFeat false a, I left] [] [] (by kernel_rfl) hB trivial ?_
  refine ae_then ?_
  refine aw_seq ?_
  refine aw_reg [] [1] [] [I (left - (a.length : Int))] [] [inR .i64 (left - (a.length : Int))] (by kernel_rfl) hB ⟨(inR_i64 (by omega) (by omega)), trivial⟩ ?_
  refine ae_then ?_
  refine aw_seq ?_
  refine aw_seq ?_
  by_cases h1 : (left - (a.length : Int)) < 0
  · refine aw_reg [(1, .dec true)] [1, 10] [] [I (left - (a.length : Int)), Bv true] [] [(left - (a.length : Int)) < 0] (by kernel_rfl) hB ⟨h1, trivial⟩ ?_
    refine ae_then ?_
    refine aw_true rfl ?_
    refine aw_seq ?_
    refine aw_reg [] [4] [] [I (-1)] [] [] (by kernel_rfl) hB trivial ?_
    refine ae_then ?_
    refine aw_ret ?_
    refine ae_ret_then ?_
    refine ae_ret hB (I (-1)) (by kernel_rfl) (.inl (by refine congrArg I ?_; unfold szTake bulkFeatS; split <;> omega)) rfl (fun _ => trivial)
  · refine aw_reg [(1, .dec false)] [1, 10] [] [I (left - (a.length : Int)), Bv false] [] [¬ ((left - (a.length : Int)) < 0)] (by kernel_rfl) hB ⟨h1, trivial⟩ ?_
    refine ae_then ?_
    refine aw_false rfl ?_
    refine aw_skip ?_
    refine ae_then ?_
    refine aw_seq ?_
    refine aw_reg [] [4] [] [I (left - (a.length : Int))] [] [] (by kernel_rfl) hB trivial ?_
    refine ae_then ?_
    refine aw_ret ?_
    refine ae_ret hB (I (left - (a.length : Int))) (by kernel_rfl) (.inl (by refine congrArg I ?_; unfold szTake bulkFeatS; split <;> omega)) rfl (fun _ => trivial)


def okTrained (x : Trained) : Prop := (x.Label.size ≤ 9223372036854775807)

def bulkTrained (x : Trained) : Nat := x.Label.size + (bulkFeatS x.Base) + (bulkFeatS x.Feats)
def bulkTrainedS : List Trained → Nat
  | [] => 0
  | x :: r => 1 + (bulkTrained x) + bulkTrainedS r
theorem bulkTrainedS_app (xs ys : List Trained) : bulkTrainedS (xs ++ ys) = bulkTrainedS xs + bulkTrainedS ys := by
  induction xs with
  | nil => simp [bulkTrainedS]
  | cons x r ih => simp [bulkTrainedS, ih]; omega
theorem bulkTrainedS_len (xs : List Trained) : xs.length ≤ bulkTrainedS xs := by
  induction xs with
  | nil => simp
  | cons x r ih => simp [bulkTrainedS]; omega
theorem bulkTrainedS_take {xs : List Trained} {i : Nat} (h : i < xs.length) : bulkTrainedS (xs.take (i + 1)) = bulkTrainedS (xs.take i) + 1 + (bulkTrained (at_ xs i)) := by
  rw [take_snoc' h, bulkTrainedS_app]; simp [bulkTrainedS]; omega
theorem bulkTrainedS_le (xs : List Trained) (i : Nat) : bulkTrainedS (xs.take i) + (xs.length - i) ≤ bulkTrainedS xs := by
  have e := bulkTrainedS_app (xs.take i) (xs.drop i)
  rw [List.take_append_drop] at e
  have := bulkTrainedS_len (xs.drop i)
  simp at this
  omega
theorem bulkTrainedS_at {xs : List Trained} {i : Nat} (h : i < xs.length) : 1 + (bulkTrained (at_ xs i)) ≤ bulkTrainedS xs := by
  have h1 := bulkTrainedS_take h
  have h2 := bulkTrainedS_le xs (i + 1)
  omega

-- laws.szTrained
theorem szTrained_ok (a : Trained) (left : Int) (h0 : 0 ≤ left ∧ left ≤ 1048576) (ok0 : okTrained a) : Con Try.prog 11 [.agg [Sv a.Label, slFeat false a.Base, slFeat false a.Feats, I a.Count], I left] true (I (szTake left (bulkTrained a))) := by
  have ok := ok0
  unfold okTrained at ok
  have ok_Label := ok
  refine fn_ok (fn := Try.f11) (nt := 25) Try.func11 rfl rfl rfl rfl (by simp [taggedL, tagged, tagFeat]) fun B hB => ?_
  refine aw_lens (x := .agg [Sv a.Label, slFeat false a.Base, slFeat false a.Feats, I a.Count]) 0 rfl (fun len_a => ?_)
  simp [LenOK, LenL, cFeat, fFeat, slFeat] at len_a
  refine aw_seq ?_
  refine aw_reg [(0, .new 2)] [1, 2] [2] [I left, .ref 2 0] [some (.box [Sv a.Label, slFeat false a.Base, slFeat false a.Feats, I a.Count])] [] (by kernel_rfl) hB trivial ?_
  refine ae_then ?_
  refine aw_seq ?_
  refine aw_reg [] [1, 2] [2] [I (left - (a.Label.size : Int)), .ref 2 0] [some (.box [Sv a.Label, slFeat false a.Base, slFeat false a.Feats, I a.Count])] [inR .i64 (left - (a.Label.size : Int))] (by kernel_rfl) hB ⟨(inR_i64 (by omega) (by omega)), trivial⟩ ?_
  refine ae_then ?_
  refine aw_seq ?_
  refine aw_seq ?_
  by_cases h1 : (left - (a.Label.size : Int)) < 0
  · refine aw_reg [(1, .dec true)] [1, 2, 11] [2] [I (left - (a.Label.size : Int)), .ref 2 0, Bv true] [some (.box [Sv a.Label, slFeat false a.Base, slFeat false a.Feats, I a.Count])] [(left - (a.Label.size : Int)) < 0] (by kernel_rfl) hB ⟨h1, trivial⟩ ?_
    refine ae_then ?_
    refine aw_true rfl ?_
    refine aw_seq ?_
    refine aw_reg [] [4] [] [I (-1)] [] [] (by kernel_rfl) hB trivial ?_
    refine ae_then ?_
    refine aw_ret ?_
    refine ae_ret_then ?_
    refine ae_ret hB (I (-1)) (by kernel_rfl) (.inl (by refine congrArg I ?_; unfold szTake bulkTrained; split <;> omega)) rfl (fun _ => trivial)
  · refine aw_reg [(1, .dec false)] [1, 2, 11] [2] [I (left - (a.Label.size : Int)), .ref 2 0, Bv false] [some (.box [Sv a.Label, slFeat false a.Base, slFeat false a.Feats, I a.Count])] [¬ ((left - (a.Label.size : Int)) < 0)] (by kernel_rfl) hB ⟨h1, trivial⟩ ?_
    refine ae_then ?_
    refine aw_false rfl ?_
    refine aw_skip ?_
    refine ae_then ?_
    refine aw_seq ?_
    refine aw_reg [(3, .call [(true, slFeat false a.Base), (true, I (left - (a.Label.size : Int)))] true (I (szTake (left - (a.Label.size : Int)) (bulkFeatS a.Base))))] [1, 2] [2] [I (szTake (left - (a.Label.size : Int)) (bulkFeatS a.Base)), .ref 2 0] [some (.box [Sv a.Label, slFeat false a.Base, slFeat false a.Feats, I a.Count])] [Con Try.prog 47 [slFeat false a.Base, I (left - (a.Label.size : Int))] true (I (szTake (left - (a.Label.size : Int)) (bulkFeatS a.Base))) ∧ ((slFeat false a.Base : AV) = slFeat false a.Base) ∧ ((I (left - (a.Label.size : Int)) : AV) = I (left - (a.Label.size : Int))) ∧ True] (by kernel_rfl) hB ⟨⟨(szFeatS_ok a.Base (left - (a.Label.size : Int)) (by omega)), rfl, rfl, trivial⟩, trivial⟩ ?_
    refine ae_then ?_
    refine aw_seq ?_
    refine aw_seq ?_
    by_cases h2 : (szTake (left - (a.Label.size : Int)) (bulkFeatS a.Base)) < 0
    · have eh2 := szTake_ng h2 (by omega)
      refine aw_reg [(1, .dec true)] [1, 2, 17] [2] [I (szTake (left - (a.Label.size : Int)) (bulkFeatS a.Base)), .ref 2 0, Bv true] [some (.box [Sv a.Label, slFeat false a.Base, slFeat false a.Feats, I a.Count])] [(szTake (left - (a.Label.size : Int)) (bulkFeatS a.Base)) < 0] (by kernel_rfl) hB ⟨h2, trivial⟩ ?_
      refine ae_then ?_
      refine aw_true rfl ?_
      refine aw_seq ?_
      refine aw_reg [] [4] [] [I (-1)] [] [] (by kernel_rfl) hB trivial ?_
      refine ae_then ?_
      refine aw_ret ?_
      refine ae_ret_then ?_
      refine ae_ret hB (I (-1)) (by kernel_rfl) (.inl (by refine congrArg I ?_; unfold szTake bulkTrained; split <;> omega)) rfl (fun _ => trivial)
    · have eh2 := szTake_nn h2
      refine aw_reg [(1, .dec false)] [1, 2, 17] [2] [I (szTake (left - (a.Label.size : Int)) (bulkFeatS a.Base)), .ref 2 0, Bv false] [some (.box [Sv a.Label, slFeat false a.Base, slFeat false a.Feats, I a.Count])] [¬ ((szTake (left - (a.Label.size : Int)) (bulkFeatS a.Base)) < 0)] (by kernel_rfl) hB ⟨h2, trivial⟩ ?_
      refine ae_then ?_
      refine aw_false rfl ?_
      refine aw_skip ?_
      refine ae_then ?_
      refine aw_seq ?_
      refine aw_reg [(3, .call [(true, slFeat false a.Feats), (true, I (szTake (left - (a.Label.size : Int)) (bulkFeatS a.Base)))] true (I (szTake (szTake (left - (a.Label.size : Int)) (bulkFeatS a.Base)) (bulkFeatS a.Feats))))] [1] [] [I (szTake (szTake (left - (a.Label.size : Int)) (bulkFeatS a.Base)) (bulkFeatS a.Feats))] [] [Con Try.prog 47 [slFeat false a.Feats, I (szTake (left - (a.Label.size : Int)) (bulkFeatS a.Base))] true (I (szTake (szTake (left - (a.Label.size : Int)) (bulkFeatS a.Base)) (bulkFeatS a.Feats))) ∧ ((slFeat false a.Feats : AV) = slFeat false a.Feats) ∧ ((I (szTake (left - (a.Label.size : Int)) (bulkFeatS a.Base)) : AV) = I (szTake (left - (a.Label.size : Int)) (bulkFeatS a.Base))) ∧ True] (by kernel_rfl) hB ⟨⟨(szFeatS_ok a.Feats (szTake (left - (a.Label.size : Int)) (bulkFeatS a.Base)) (by omega)), rfl, rfl, trivial⟩, trivial⟩ ?_
      refine ae_then ?_
      refine aw_seq ?_
      refine aw_seq ?_
      by_cases h3 : (szTake (szTake (left - (a.Label.size : Int)) (bulkFeatS a.Base)) (bulkFeatS a.Feats)) < 0
      · have eh3 := szTake_ng h3 (by omega)
        refine aw_reg [(1, .dec true)] [1, 23] [] [I (szTake (szTake (left - (a.Label.size : Int)) (bulkFeatS a.Base)) (bulkFeatS a.Feats)), Bv true] [] [(szTake (szTake (left - (a.Label.size : Int)) (bulkFeatS a.Base)) (bulkFeatS a.Feats)) < 0] (by kernel_rfl) hB ⟨h3, trivial⟩ ?_
        refine ae_then ?_
        refine aw_true rfl ?_
        refine aw_seq ?_
        refine aw_reg [] [4] [] [I (-1)] [] [] (by kernel_rfl) hB trivial ?_
        refine ae_then ?_
        refine aw_ret ?_
        refine ae_ret_then ?_
        refine ae_ret hB (I (-1)) (by kernel_rfl) (.inl (by refine congrArg I ?_; unfold szTake bulkTrained; split <;> omega)) rfl (fun _ => trivial)
      · have eh3 := szTake_nn h3
        refine aw_reg [(1, .dec false)] [1, 23] [] [I (szTake (szTake (left - (a.Label.size : Int)) (bulkFeatS a.Base)) (bulkFeatS a.Feats)), Bv false] [] [¬ ((szTake (szTake (left - (a.Label.size : Int)) (bulkFeatS a.Base)) (bulkFeatS a.Feats)) < 0)] (by kernel_rfl) hB ⟨h3, trivial⟩ ?_
        refine ae_then ?_
        refine aw_false rfl ?_
        refine aw_skip ?_
        refine ae_then ?_
        refine aw_seq ?_
        refine aw_reg [] [4] [] [I (szTake (szTake (left - (a.Label.size : Int)) (bulkFeatS a.Base)) (bulkFeatS a.Feats))] [] [] (by kernel_rfl) hB trivial ?_
        refine ae_then ?_
        refine aw_ret ?_
        refine ae_ret hB (I (szTake (szTake (left - (a.Label.size : Int)) (bulkFeatS a.Base)) (bulkFeatS a.Feats))) (by kernel_rfl) (.inl (by refine congrArg I ?_; unfold szTake bulkTrained; split <;> omega)) rfl (fun _ => trivial)


theorem at_mem {α : Type} [Inhabited α] {xs : List α} {i : Nat} (h : i < xs.length) : at_ xs i ∈ xs := by rw [at_eq h]; exact List.getElem_mem h

-- laws.szTrainedS
theorem szTrainedS_ok (a : List Trained) (left : Int) (h0 : 0 ≤ left ∧ left ≤ 1048576) (ok0 : ∀ y ∈ a, okTrained y) : Con Try.prog 63 [slTrained false a, I left] true (I (szTake left (bulkTrainedS a))) := by
  have hb0 := bulkTrainedS_len a
  refine fn_ok (fn := Try.f63) (nt := 27) Try.func63 rfl rfl rfl rfl (by simp [taggedL, tagged, tagTrained]) fun B hB => ?_
  refine aw_lens (x := slTrained false a) 0 rfl (fun len_a => ?_)
  simp [LenOK, LenL, cFeat, cTrained, fFeat, fTrained, slFeat, slTrained] at len_a
  refine aw_seq ?_
  refine aw_reg [] [0, 1] [] [slTrained false a, I left] [] [] (by kernel_rfl) hB trivial ?_
  refine ae_then ?_
  refine aw_seq ?_
  refine aw_reg [] [0, 1] [] [slTrained false a, I (left - (a.length : Int))] [] [inR .i64 (left - (a.length : Int))] (by kernel_rfl) hB ⟨(inR_i64 (by omega) (by omega)), trivial⟩ ?_
  refine ae_then ?_
  refine aw_seq ?_
  refine aw_seq ?_
  by_cases h1 : (left - (a.length : Int)) < 0
  · refine aw_reg [(1, .dec true)] [0, 1, 11] [] [slTrained false a, I (left - (a.length : Int)), Bv true] [] [(left - (a.length : Int)) < 0] (by kernel_rfl) hB ⟨h1, trivial⟩ ?_
    refine ae_then ?_
    refine aw_true rfl ?_
    refine aw_seq ?_
    refine aw_reg [] [4] [] [I (-1)] [] [] (by kernel_rfl) hB trivial ?_
    refine ae_then ?_
    refine aw_ret ?_
    refine ae_ret_then ?_
    refine ae_ret hB (I (-1)) (by kernel_rfl) (.inl (by refine congrArg I ?_; unfold szTake; split <;> omega)) rfl (fun _ => trivial)
  · refine aw_reg [(1, .dec false)] [0, 1, 11] [] [slTrained false a, I (left - (a.length : Int)), Bv false] [] [¬ ((left - (a.length : Int)) < 0)] (by kernel_rfl) hB ⟨h1, trivial⟩ ?_
    refine ae_then ?_
    refine aw_false rfl ?_
    refine aw_skip ?_
    refine ae_then ?_
    refine aw_seq ?_
    refine aw_seq ?_
    refine aw_reg [] [0, 1, 5] [] [slTrained false a, I (left - (a.length : Int)), I 0] [] [] (by kernel_rfl) hB trivial ?_
    refine ae_then ?_
    refine aw_block ?_
    refine aw_loop (fun n σ => ∃ (left' : Int) (i : Int), n = ((a.length : Int) - i).toNat ∧ (0 ≤ i ∧ i ≤ (a.length : Int)) ∧ (0 ≤ left' ∧ left' ≤ 1048576) ∧ (left' + (a.length : Int) - i + (bulkTrainedS (a.take i.toNat) : Int) = left) ∧ σ = mkS [(0, slTrained false a), (1, I left'), (5, I i)] []) (((a.length : Int) - 0).toNat) ⟨(left - (a.length : Int)), 0, rfl, (by omega), (by omega), (by simp [bulkTrainedS]), rfl⟩ (fun n σ hI => ?_)
    obtain ⟨left', i, rfl, hi0, hl0, hs0, rfl⟩ := hI
    refine aw_seq ?_
    refine aw_seq ?_
    by_cases h2 : i < (a.length : Int)
    · have hi : i.toNat < a.length := by omega
      have hle := bulkTrainedS_le a (i.toNat + 1)
      have htk := bulkTrainedS_take hi
      refine aw_reg [(3, .dec true)] [0, 1, 5, 15] [] [slTrained false a, I left', I i, Bv true] [] [i < (a.length : Int)] (by kernel_rfl) hB ⟨h2, trivial⟩ ?_
      refine ae_then ?_
      refine aw_true rfl ?_
      refine aw_skip ?_
      refine ae_then ?_
      refine aw_seq ?_
      refine aw_block ?_
      refine aw_seq ?_
      refine aw_reg [(5, .call [(true, .agg [Sv ((at_ a i.toNat).Label), slFeat false ((at_ a i.toNat).Base), slFeat false ((at_ a i.toNat).Feats), I ((at_ a i.toNat).Count)]), (true, I left')] true (I (szTake left' (bulkTrained (at_ a i.toNat)))))] [0, 1, 5] [] [slTrained false a, I (szTake left' (bulkTrained (at_ a i.toNat))), I i] [] [(0 : Int) ≤ i ∧ i < (a.length : Int), Con Try.prog 11 [.agg [Sv ((at_ a i.toNat).Label), slFeat false ((at_ a i.toNat).Base), slFeat false ((at_ a i.toNat).Feats), I ((at_ a i.toNat).Count)], I left'] true (I (szTake left' (bulkTrained (at_ a i.toNat)))) ∧ ((.agg [Sv ((at_ a i.toNat).Label), slFeat false ((at_ a i.toNat).Base), slFeat false ((at_ a i.toNat).Feats), I ((at_ a i.toNat).Count)] : AV) = .agg [Sv ((at_ a i.toNat).Label), slFeat false ((at_ a i.toNat).Base), slFeat false ((at_ a i.toNat).Feats), I ((at_ a i.toNat).Count)]) ∧ ((I left' : AV) = I left') ∧ True] (by kernel_rfl) hB ⟨⟨(by omega), (by omega)⟩, ⟨(szTrained_ok (at_ a i.toNat) left' (by omega) (ok0 _ (at_mem hi))), rfl, rfl, trivial⟩, trivial⟩ ?_
      refine ae_then ?_
      refine aw_seq ?_
      by_cases h3 : (szTake left' (bulkTrained (at_ a i.toNat))) < 0
      · have eh3 := szTake_ng h3 (by omega)
        refine aw_reg [(1, .dec true)] [0, 1, 5, 25] [] [slTrained false a, I (szTake left' (bulkTrained (at_ a i.toNat))), I i, Bv true] [] [(szTake left' (bulkTrained (at_ a i.toNat))) < 0] (by kernel_rfl) hB ⟨h3, trivial⟩ ?_
        refine ae_then ?_
        refine aw_true rfl ?_
        refine aw_seq ?_
        refine aw_reg [] [4] [] [I (-1)] [] [] (by kernel_rfl) hB trivial ?_
        refine ae_then ?_
        refine aw_ret ?_
        refine ae_ret_block (ae_ret_then (ae_ret_then (ae_ret_block (ae_ret_then ?_))))
        refine ae_ret hB (I (-1)) (by kernel_rfl) (.inl (by refine congrArg I ?_; unfold szTake; split <;> omega)) rfl (fun _ => trivial)
      · have eh3 := szTake_nn h3
        refine aw_reg [(1, .dec false)] [0, 1, 5, 25] [] [slTrained false a, I (szTake left' (bulkTrained (at_ a i.toNat))), I i, Bv false] [] [¬ ((szTake left' (bulkTrained (at_ a i.toNat))) < 0)] (by kernel_rfl) hB ⟨h3, trivial⟩ ?_
        refine ae_then ?_
        refine aw_false rfl ?_
        refine aw_skip ?_
        refine ae_block 1 ?_
        refine ae_then ?_
        refine aw_reg [] [0, 1, 5] [] [slTrained false a, I (szTake left' (bulkTrained (at_ a i.toNat))), I (i + 1)] [] [inR .i64 (i + 1)] (by kernel_rfl) hB ⟨(inR_i64 (by omega) (by omega)), trivial⟩ ?_
        exact ae_again _ (by omega) ⟨(szTake left' (bulkTrained (at_ a i.toNat))), (i + 1), rfl, (by omega), (by omega), (by (have e2 : (i + 1).toNat = i.toNat + 1 := by omega); rw [e2, htk]; push_cast; omega), rfl⟩
    · have hie : i.toNat = a.length := by omega
      rw [hie, List.take_length] at hs0
      refine aw_reg [(3, .dec false)] [0, 1, 5, 15] [] [slTrained false a, I left', I i, Bv false] [] [¬ (i < (a.length : Int))] (by kernel_rfl) hB ⟨h2, trivial⟩ ?_
      refine ae_then ?_
      refine aw_false rfl ?_
      refine aw_exit ?_
      refine ae_exit_then ?_
      refine ae_exit_then ?_
      refine ae_exit_same ?_
      refine ae_then ?_
      refine aw_seq ?_
      refine aw_reg [] [4] [] [I left'] [] [] (by kernel_rfl) hB trivial ?_
      refine ae_then ?_
      refine aw_ret ?_
      refine ae_ret hB (I left') (by kernel_rfl) (.inl (by refine congrArg I ?_; unfold szTake; split <;> omega)) rfl (fun _ => trivial)


def okWriter (x : Writer) : Prop := (∀ y ∈ x.Trained, okTrained y)

def bulkWriter (x : Writer) : Nat := (bulkTrainedS x.Trained)
def bulkWriterS : List Writer → Nat
  | [] => 0
  | x :: r => 1 + (bulkWriter x) + bulkWriterS r
theorem bulkWriterS_app (xs ys : List Writer) : bulkWriterS (xs ++ ys) = bulkWriterS xs + bulkWriterS ys := by
  induction xs with
  | nil => simp [bulkWriterS]
  | cons x r ih => simp [bulkWriterS, ih]; omega
theorem bulkWriterS_len (xs : List Writer) : xs.length ≤ bulkWriterS xs := by
  induction xs with
  | nil => simp
  | cons x r ih => simp [bulkWriterS]; omega
theorem bulkWriterS_take {xs : List Writer} {i : Nat} (h : i < xs.length) : bulkWriterS (xs.take (i + 1)) = bulkWriterS (xs.take i) + 1 + (bulkWriter (at_ xs i)) := by
  rw [take_snoc' h, bulkWriterS_app]; simp [bulkWriterS]; omega
theorem bulkWriterS_le (xs : List Writer) (i : Nat) : bulkWriterS (xs.take i) + (xs.length - i) ≤ bulkWriterS xs := by
  have e := bulkWriterS_app (xs.take i) (xs.drop i)
  rw [List.take_append_drop] at e
  have := bulkWriterS_len (xs.drop i)
  simp at this
  omega
theorem bulkWriterS_at {xs : List Writer} {i : Nat} (h : i < xs.length) : 1 + (bulkWriter (at_ xs i)) ≤ bulkWriterS xs := by
  have h1 := bulkWriterS_take h
  have h2 := bulkWriterS_le xs (i + 1)
  omega

-- laws.szWriter
theorem szWriter_ok (a : Writer) (left : Int) (h0 : 0 ≤ left ∧ left ≤ 1048576) (ok0 : okWriter a) : Con Try.prog 24 [.agg [I a.Band, slTrained false a.Trained], I left] true (I (szTake left (bulkWriter a))) := by
  have ok := ok0
  unfold okWriter at ok
  have ok_Trained := ok
  refine fn_ok (fn := Try.f24) (nt := 12) Try.func24 rfl rfl rfl rfl (by simp [taggedL, tagged, tagTrained]) fun B hB => ?_
  refine aw_lens (x := .agg [I a.Band, slTrained false a.Trained]) 0 rfl (fun len_a => ?_)
  simp [LenOK, LenL, cFeat, cTrained, fFeat, fTrained, slFeat, slTrained] at len_a
  refine aw_seq ?_
  refine aw_reg [(0, .new 2)] [1, 2] [2] [I left, .ref 2 0] [some (.box [I a.Band, slTrained false a.Trained])] [] (by kernel_rfl) hB trivial ?_
  refine ae_then ?_
  refine aw_seq ?_
  refine aw_reg [(3, .call [(true, slTrained false a.Trained), (true, I left)] true (I (szTake left (bulkTrainedS a.Trained))))] [1] [] [I (szTake left (bulkTrainedS a.Trained))] [] [Con Try.prog 63 [slTrained false a.Trained, I left] true (I (szTake left (bulkTrainedS a.Trained))) ∧ ((slTrained false a.Trained : AV) = slTrained false a.Trained) ∧ ((I left : AV) = I left) ∧ True] (by kernel_rfl) hB ⟨⟨(szTrainedS_ok a.Trained left (by omega) ok_Trained), rfl, rfl, trivial⟩, trivial⟩ ?_
  refine ae_then ?_
  refine aw_seq ?_
  refine aw_seq ?_
  by_cases h1 : (szTake left (bulkTrainedS a.Trained)) < 0
  · have eh1 := szTake_ng h1 (by omega)
    refine aw_reg [(1, .dec true)] [1, 10] [] [I (szTake left (bulkTrainedS a.Trained)), Bv true] [] [(szTake left (bulkTrainedS a.Trained)) < 0] (by kernel_rfl) hB ⟨h1, trivial⟩ ?_
    refine ae_then ?_
    refine aw_true rfl ?_
    refine aw_seq ?_
    refine aw_reg [] [4] [] [I (-1)] [] [] (by kernel_rfl) hB trivial ?_
    refine ae_then ?_
    refine aw_ret ?_
    refine ae_ret_then ?_
    refine ae_ret hB (I (-1)) (by kernel_rfl) (.inl (by refine congrArg I ?_; unfold szTake bulkWriter; split <;> omega)) rfl (fun _ => trivial)
  · have eh1 := szTake_nn h1
    refine aw_reg [(1, .dec false)] [1, 10] [] [I (szTake left (bulkTrainedS a.Trained)), Bv false] [] [¬ ((szTake left (bulkTrainedS a.Trained)) < 0)] (by kernel_rfl) hB ⟨h1, trivial⟩ ?_
    refine ae_then ?_
    refine aw_false rfl ?_
    refine aw_skip ?_
    refine ae_then ?_
    refine aw_seq ?_
    refine aw_reg [] [4] [] [I (szTake left (bulkTrainedS a.Trained))] [] [] (by kernel_rfl) hB trivial ?_
    refine ae_then ?_
    refine aw_ret ?_
    refine ae_ret hB (I (szTake left (bulkTrainedS a.Trained))) (by kernel_rfl) (.inl (by refine congrArg I ?_; unfold szTake bulkWriter; split <;> omega)) rfl (fun _ => trivial)


-- laws.toFeat
theorem toFeat_ok (a : Feat) : Con Try.prog 93 [.agg [I a.X, I a.Y, I a.D]] true (.agg [I a.X, I a.Y, I a.D]) := by
  refine fn_ok (fn := Try.f93) (nt := 14) Try.func93 rfl rfl rfl rfl (by simp [taggedL, tagged]) fun B hB => ?_
  refine aw_seq ?_
  refine aw_reg [(0, .new 1), (1, .new 2)] [1, 2] [1, 2] [.ref 1 0, .ref 2 0] [some (.box [I a.X, I a.Y, I a.D]), some (.box [I 0, I 0, I 0])] [] (by kernel_rfl) hB trivial ?_
  refine ae_then ?_
  refine aw_seq ?_
  refine aw_reg [(0, .new 3)] [1, 2, 3] [1, 2, 3] [.ref 1 0, .ref 2 0, .ref 3 0] [some (.box [I a.X, I a.Y, I a.D]), some (.box [I 0, I 0, I 0]), some (.box [I 0, I 0, I 0])] [] (by kernel_rfl) hB trivial ?_
  refine ae_then ?_
  refine aw_seq ?_
  refine aw_reg [] [1, 2, 3] [1, 2, 3] [.ref 1 0, .ref 2 0, .ref 3 0] [some (.box [I a.X, I a.Y, I a.D]), some (.box [I 0, I 0, I 0]), some (.box [I a.X, I 0, I 0])] [] (by kernel_rfl) hB trivial ?_
  refine ae_then ?_
  refine aw_seq ?_
  refine aw_reg [] [1, 2, 3] [1, 2, 3] [.ref 1 0, .ref 2 0, .ref 3 0] [some (.box [I a.X, I a.Y, I a.D]), some (.box [I 0, I 0, I 0]), some (.box [I a.X, I a.Y, I 0])] [] (by kernel_rfl) hB trivial ?_
  refine ae_then ?_
  refine aw_seq ?_
  refine aw_reg [] [2, 3] [2, 3] [.ref 2 0, .ref 3 0] [some (.box [I 0, I 0, I 0]), some (.box [I a.X, I a.Y, I a.D])] [] (by kernel_rfl) hB trivial ?_
  refine ae_then ?_
  refine aw_seq ?_
  refine aw_reg [] [2] [2] [.ref 2 0] [some (.box [I a.X, I a.Y, I a.D])] [] (by kernel_rfl) hB trivial ?_
  refine ae_then ?_
  refine aw_ret ?_
  refine ae_ret hB (.agg [I a.X, I a.Y, I a.D]) (by kernel_rfl) (.inl rfl) rfl (fun _ => (by simp [tagged, taggedL]))


theorem set_at {α : Type} [Inhabited α] {ys xs : List α} {i : Int} (hl : ys.length = xs.length) (hi : i.toNat < xs.length) (h : ∀ j : Nat, (j : Int) < i → at_ ys j = at_ xs j) (j : Nat) (hj : j ≤ i.toNat) : at_ (ys.set i.toNat (at_ xs i.toNat)) j = at_ xs j := by
  by_cases e : i.toNat = j
  · subst e; simp [at_, hl, hi]
  · have := h j (by omega)
    simp only [at_] at this ⊢
    rw [← this]
    simp [e]
/-- Whether two things are the same. -/
def same {α : Type} [DecidableEq α] (x y : α) : Bool := decide (x = y)
theorem same_iff {α : Type} [DecidableEq α] {x y : α} : same x y = true ↔ x = y := by simp [same]
theorem ext_at {α : Type} [Inhabited α] {xs ys : List α} (hl : xs.length = ys.length) (h : ∀ j : Nat, j < xs.length → at_ xs j = at_ ys j) : xs = ys := by
  apply List.ext_getElem hl
  intro i h1 h2
  rw [← at_eq h1, ← at_eq h2]
  exact h i h1

-- laws.toFeatS
theorem toFeatS_ok (a : List Feat) (hb : bulkFeatS a ≤ 1048576) : Con Try.prog 49 [slFeat false a] true (slFeat true a) := by
  have hb0 := bulkFeatS_len a
  refine fn_ok (fn := Try.f49) (nt := 23) Try.func49 rfl rfl rfl rfl (by simp [taggedL, tagged, tagFeat]) fun B hB => ?_
  refine aw_lens (x := slFeat false a) 0 rfl (fun len_a => ?_)
  simp [LenOK, LenL, cFeat, fFeat, slFeat] at len_a
  refine aw_seq ?_
  refine aw_reg [] [0] [] [slFeat false a] [] [] (by kernel_rfl) hB trivial ?_
  refine ae_then ?_
  refine aw_seq ?_
  refine aw_reg [(2, .new 7)] [0, 3] [7] [slFeat false a, .arr 7] [some (.arr 3 ((a.length : Int).toNat) (fun _ => [I 0, I 0, I 0]))] [(0 : Int) ≤ (a.length : Int) ∧ ((a.length : Int) : Int) ≤ (a.length : Int) ∧ (24 : Int) * (a.length : Int) ≤ 281474976710656 ∧ (a.length : Int) ≤ 9223372036854775807] (by kernel_rfl) hB ⟨⟨(by omega), (by omega), (by omega), (by omega)⟩, trivial⟩ ?_
  refine ae_then ?_
  refine aw_seq ?_
  refine aw_seq ?_
  refine aw_reg [] [0, 3, 4] [7] [slFeat false a, .arr 7, I 0] [some (.arr 3 ((a.length : Int).toNat) (fun _ => [I 0, I 0, I 0]))] [] (by kernel_rfl) hB trivial ?_
  refine ae_then ?_
  refine aw_block ?_
  refine aw_weak hB [] (T := [(0, slFeat false a), (3, .arr 7), (4, I 0)]) (O := [(7, .arr 3 ((List.replicate ((a.length : Int).toNat) (Feat.mk 0 0 0)).length) (fFeat (List.replicate ((a.length : Int).toNat) (Feat.mk 0 0 0))))]) rfl (⟨.inl rfl, .inl rfl, .inl rfl, trivial⟩) (⟨.inr ⟨rfl, (by first | rfl | (simp; done) | (simp; omega) | omega), fun i hi => .inl (const_enc (enc := cFeat) rfl i hi)⟩, trivial⟩) ?_
  refine aw_loop (fun n σ => ∃ (i : Int) (ys : List Feat), n = ((a.length : Int) - i).toNat ∧ (0 ≤ i ∧ i ≤ (a.length : Int)) ∧ (ys.length = a.length) ∧ (∀ j : Nat, (j : Int) < i → at_ ys j = at_ a j) ∧ σ = mkS [(0, slFeat false a), (3, .arr 7), (4, I i)] [(7, .arr 3 ys.length (fFeat ys))]) (((a.length : Int) - 0).toNat) ⟨0, (List.replicate ((a.length : Int).toNat) (Feat.mk 0 0 0)), rfl, (by omega), (by simp), (by intro j hj; omega), rfl⟩ (fun n σ hI => ?_)
  obtain ⟨i, ys, rfl, hi0, hy0, hy1, rfl⟩ := hI
  refine aw_seq ?_
  refine aw_seq ?_
  by_cases h1 : i < (a.length : Int)
  · have hi : i.toNat < a.length := by omega
    have hiy : i.toNat < ys.length := by omega
    refine aw_reg [(3, .dec true)] [0, 3, 4, 11] [7] [slFeat false a, .arr 7, I i, Bv true] [some (.arr 3 ys.length (fFeat ys))] [i < (a.length : Int)] (by kernel_rfl) hB ⟨h1, trivial⟩ ?_
    refine ae_then ?_
    refine aw_true rfl ?_
    refine aw_skip ?_
    refine ae_then ?_
    refine aw_seq ?_
    refine aw_block ?_
    refine aw_reg [(6, .call [(true, .agg [I ((at_ a i.toNat).X), I ((at_ a i.toNat).Y), I ((at_ a i.toNat).D)])] true (.agg [I ((at_ a i.toNat).X), I ((at_ a i.toNat).Y), I ((at_ a i.toNat).D)]))] [0, 3, 4] [7] [slFeat false a, .arr 7, I i] [some (.arr 3 ys.length (fun q => bif Nat.beq q i.toNat then [I ((at_ a i.toNat).X), I ((at_ a i.toNat).Y), I ((at_ a i.toNat).D)] else (fFeat ys) q))] [(0 : Int) ≤ i ∧ i < (a.length : Int), Con Try.prog 93 [.agg [I ((at_ a i.toNat).X), I ((at_ a i.toNat).Y), I ((at_ a i.toNat).D)]] true (.agg [I ((at_ a i.toNat).X), I ((at_ a i.toNat).Y), I ((at_ a i.toNat).D)]) ∧ ((.agg [I ((at_ a i.toNat).X), I ((at_ a i.toNat).Y), I ((at_ a i.toNat).D)] : AV) = .agg [I ((at_ a i.toNat).X), I ((at_ a i.toNat).Y), I ((at_ a i.toNat).D)]) ∧ True, (0 : Int) ≤ i ∧ i < (ys.length : Int), i.toNat < ys.length] (by kernel_rfl) hB ⟨⟨(by omega), (by omega)⟩, ⟨(toFeat_ok (at_ a i.toNat)), rfl, trivial⟩, ⟨(by omega), (by omega)⟩, (by omega), trivial⟩ ?_
    refine ae_block 1 ?_
    refine ae_then ?_
    refine aw_reg [] [0, 3, 4] [7] [slFeat false a, .arr 7, I (i + 1)] [some (.arr 3 ys.length (fun q => bif Nat.beq q i.toNat then [I ((at_ a i.toNat).X), I ((at_ a i.toNat).Y), I ((at_ a i.toNat).D)] else (fFeat ys) q))] [inR .i64 (i + 1)] (by kernel_rfl) hB ⟨(inR_i64 (by omega) (by omega)), trivial⟩ ?_
    refine ae_weak hB [] (T := [(0, slFeat false a), (3, .arr 7), (4, I (i + 1))]) (O := [(7, .arr 3 ((ys.set i.toNat (at_ a i.toNat)).length) (fFeat (ys.set i.toNat (at_ a i.toNat))))]) rfl (⟨.inl rfl, .inl rfl, .inl rfl, trivial⟩) (⟨.inr ⟨rfl, (by first | rfl | (simp; done) | (simp; omega) | omega), fun i hi => .inl (upd_enc (enc := cFeat) rfl i hi)⟩, trivial⟩) (ae_again _ (by omega) ⟨(i + 1), (ys.set i.toNat (at_ a i.toNat)), rfl, (by omega), (by simp [hy0]), (by intro j hj; exact set_at hy0 hi hy1 j (by omega)), rfl⟩)
  · obtain rfl : a = ys := (ext_at hy0 (fun j hj => hy1 j (by omega))).symm
    refine aw_reg [(3, .dec false)] [0, 3, 4, 11] [7] [slFeat false a, .arr 7, I i, Bv false] [some (.arr 3 a.length (fFeat a))] [¬ (i < (a.length : Int))] (by kernel_rfl) hB ⟨h1, trivial⟩ ?_
    refine ae_then ?_
    refine aw_false rfl ?_
    refine aw_exit ?_
    refine ae_exit_then ?_
    refine ae_exit_then ?_
    refine ae_exit_same ?_
    refine ae_then ?_
    refine aw_seq ?_
    refine aw_reg [] [2] [7] [.arr 7] [some (.arr 3 a.length (fFeat a))] [] (by kernel_rfl) hB trivial ?_
    refine ae_then ?_
    refine aw_ret ?_
    refine ae_ret hB (.arr 7) (by kernel_rfl) (.inr ⟨(fun _ => rfl), rfl, rfl, fun i _ => .inl rfl⟩) rfl (fun _ => (tagFeat true _))


-- laws.toTrained
theorem toTrained_ok (a : Trained) (hb : bulkTrained a ≤ 1048576) : Con Try.prog 13 [.agg [Sv a.Label, slFeat false a.Base, slFeat false a.Feats, I a.Count]] true (.agg [Sv a.Label, slFeat true a.Base, slFeat true a.Feats, I a.Count]) := by
  refine fn_ok (fn := Try.f13) (nt := 19) Try.func13 rfl rfl rfl rfl (by simp [taggedL, tagged, tagFeat]) fun B hB => ?_
  refine aw_lens (x := .agg [Sv a.Label, slFeat false a.Base, slFeat false a.Feats, I a.Count]) 0 rfl (fun len_a => ?_)
  simp [LenOK, LenL, cFeat, fFeat, slFeat] at len_a
  refine aw_seq ?_
  refine aw_reg [(0, .new 1), (1, .new 2)] [1, 2] [1, 2] [.ref 1 0, .ref 2 0] [some (.box [Sv a.Label, slFeat false a.Base, slFeat false a.Feats, I a.Count]), some (.box [Sv (⟨#[]⟩ : ByteArray), nilA, nilA, I 0])] [] (by kernel_rfl) hB trivial ?_
  refine ae_then ?_
  refine aw_seq ?_
  refine aw_reg [(0, .new 3)] [1, 2, 3] [1, 2, 3] [.ref 1 0, .ref 2 0, .ref 3 0] [some (.box [Sv a.Label, slFeat false a.Base, slFeat false a.Feats, I a.Count]), some (.box [Sv (⟨#[]⟩ : ByteArray), nilA, nilA, I 0]), some (.box [Sv (⟨#[]⟩ : ByteArray), nilA, nilA, I 0])] [] (by kernel_rfl) hB trivial ?_
  refine ae_then ?_
  refine aw_seq ?_
  refine aw_reg [] [1, 2, 3] [1, 2, 3] [.ref 1 0, .ref 2 0, .ref 3 0] [some (.box [Sv a.Label, slFeat false a.Base, slFeat false a.Feats, I a.Count]), some (.box [Sv (⟨#[]⟩ : ByteArray), nilA, nilA, I 0]), some (.box [Sv a.Label, nilA, nilA, I 0])] [] (by kernel_rfl) hB trivial ?_
  refine ae_then ?_
  refine aw_seq ?_
  refine aw_reg [(2, .call [(true, slFeat false a.Base)] true (slFeat true a.Base))] [1, 2, 3] [1, 2, 3] [.ref 1 0, .ref 2 0, .ref 3 0] [some (.box [Sv a.Label, slFeat false a.Base, slFeat false a.Feats, I a.Count]), some (.box [Sv (⟨#[]⟩ : ByteArray), nilA, nilA, I 0]), some (.box [Sv a.Label, slFeat true a.Base, nilA, I 0])] [Con Try.prog 49 [slFeat false a.Base] true (slFeat true a.Base) ∧ ((slFeat false a.Base : AV) = slFeat false a.Base) ∧ True] (by kernel_rfl) hB ⟨⟨(toFeatS_ok a.Base (by unfold bulkTrained at hb; omega)), rfl, trivial⟩, trivial⟩ ?_
  refine ae_then ?_
  refine aw_seq ?_
  refine aw_reg [(2, .call [(true, slFeat false a.Feats)] true (slFeat true a.Feats))] [1, 2, 3] [1, 2, 3] [.ref 1 0, .ref 2 0, .ref 3 0] [some (.box [Sv a.Label, slFeat false a.Base, slFeat false a.Feats, I a.Count]), some (.box [Sv (⟨#[]⟩ : ByteArray), nilA, nilA, I 0]), some (.box [Sv a.Label, slFeat true a.Base, slFeat true a.Feats, I 0])] [Con Try.prog 49 [slFeat false a.Feats] true (slFeat true a.Feats) ∧ ((slFeat false a.Feats : AV) = slFeat false a.Feats) ∧ True] (by kernel_rfl) hB ⟨⟨(toFeatS_ok a.Feats (by unfold bulkTrained at hb; omega)), rfl, trivial⟩, trivial⟩ ?_
  refine ae_then ?_
  refine aw_seq ?_
  refine aw_reg [] [2, 3] [2, 3] [.ref 2 0, .ref 3 0] [some (.box [Sv (⟨#[]⟩ : ByteArray), nilA, nilA, I 0]), some (.box [Sv a.Label, slFeat true a.Base, slFeat true a.Feats, I a.Count])] [] (by kernel_rfl) hB trivial ?_
  refine ae_then ?_
  refine aw_seq ?_
  refine aw_reg [] [2] [2] [.ref 2 0] [some (.box [Sv a.Label, slFeat true a.Base, slFeat true a.Feats, I a.Count])] [] (by kernel_rfl) hB trivial ?_
  refine ae_then ?_
  refine aw_ret ?_
  refine ae_ret hB (.agg [Sv a.Label, slFeat true a.Base, slFeat true a.Feats, I a.Count]) (by kernel_rfl) (.inr ⟨rfl, ⟨⟨(fun _ => rfl), rfl, rfl, fun i _ => .inl rfl⟩, ⟨⟨(fun _ => rfl), rfl, rfl, fun i _ => .inl rfl⟩, ⟨rfl, rfl⟩⟩⟩⟩) rfl (fun _ => (by simp [tagged, taggedL, tagFeat]))


-- laws.toTrainedS
theorem toTrainedS_ok (a : List Trained) (hb : bulkTrainedS a ≤ 1048576) : Con Try.prog 65 [slTrained false a] true (slTrained true a) := by
  have hb0 := bulkTrainedS_len a
  refine fn_ok (fn := Try.f65) (nt := 23) Try.func65 rfl rfl rfl rfl (by simp [taggedL, tagged, tagTrained]) fun B hB => ?_
  refine aw_lens (x := slTrained false a) 0 rfl (fun len_a => ?_)
  simp [LenOK, LenL, cFeat, cTrained, fFeat, fTrained, slFeat, slTrained] at len_a
  refine aw_seq ?_
  refine aw_reg [] [0] [] [slTrained false a] [] [] (by kernel_rfl) hB trivial ?_
  refine ae_then ?_
  refine aw_seq ?_
  refine aw_reg [(2, .new 7)] [0, 3] [7] [slTrained false a, .arr 7] [some (.arr 4 ((a.length : Int).toNat) (fun _ => [Sv (⟨#[]⟩ : ByteArray), nilA, nilA, I 0]))] [(0 : Int) ≤ (a.length : Int) ∧ ((a.length : Int) : Int) ≤ (a.length : Int) ∧ (72 : Int) * (a.length : Int) ≤ 281474976710656 ∧ (a.length : Int) ≤ 9223372036854775807] (by kernel_rfl) hB ⟨⟨(by omega), (by omega), (by omega), (by omega)⟩, trivial⟩ ?_
  refine ae_then ?_
  refine aw_seq ?_
  refine aw_seq ?_
  refine aw_reg [] [0, 3, 4] [7] [slTrained false a, .arr 7, I 0] [some (.arr 4 ((a.length : Int).toNat) (fun _ => [Sv (⟨#[]⟩ : ByteArray), nilA, nilA, I 0]))] [] (by kernel_rfl) hB trivial ?_
  refine ae_then ?_
  refine aw_block ?_
  refine aw_weak hB [] (T := [(0, slTrained false a), (3, .arr 7), (4, I 0)]) (O := [(7, .arr 4 ((List.replicate ((a.length : Int).toNat) (Trained.mk (⟨#[]⟩ : ByteArray) ([] : List Feat) ([] : List Feat) 0)).length) (fTrained true (List.replicate ((a.length : Int).toNat) (Trained.mk (⟨#[]⟩ : ByteArray) ([] : List Feat) ([] : List Feat) 0))))]) rfl (⟨.inl rfl, .inl rfl, .inl rfl, trivial⟩) (⟨.inr ⟨rfl, (by first | rfl | (simp; done) | (simp; omega) | omega), fun i hi => .inr (by rw [show (fTrained true (List.replicate ((a.length : Int).toNat) (Trained.mk (⟨#[]⟩ : ByteArray) ([] : List Feat) ([] : List Feat) 0))) i = (cTrained true) (Trained.mk (⟨#[]⟩ : ByteArray) ([] : List Feat) ([] : List Feat) 0) from rep_enc (enc := (cTrained true)) i hi]; exact ⟨rfl, ⟨(by first | rfl | (simp [valOf]; done) | (simp [valOf]; omega)), ⟨⟨rfl, rfl⟩, ⟨⟨rfl, rfl⟩, ⟨(by first | rfl | (simp [valOf]; done) | (simp [valOf]; omega)), rfl⟩⟩⟩⟩⟩)⟩, trivial⟩) ?_
  refine aw_loop (fun n σ => ∃ (i : Int) (ys : List Trained), n = ((a.length : Int) - i).toNat ∧ (0 ≤ i ∧ i ≤ (a.length : Int)) ∧ (ys.length = a.length) ∧ (∀ j : Nat, (j : Int) < i → at_ ys j = at_ a j) ∧ σ = mkS [(0, slTrained false a), (3, .arr 7), (4, I i)] [(7, .arr 4 ys.length (fTrained true ys))]) (((a.length : Int) - 0).toNat) ⟨0, (List.replicate ((a.length : Int).toNat) (Trained.mk (⟨#[]⟩ : ByteArray) ([] : List Feat) ([] : List Feat) 0)), rfl, (by omega), (by simp), (by intro j hj; omega), rfl⟩ (fun n σ hI => ?_)
  obtain ⟨i, ys, rfl, hi0, hy0, hy1, rfl⟩ := hI
  refine aw_seq ?_
  refine aw_seq ?_
  by_cases h1 : i < (a.length : Int)
  · have hi : i.toNat < a.length := by omega
    have hiy : i.toNat < ys.length := by omega
    refine aw_reg [(3, .dec true)] [0, 3, 4, 11] [7] [slTrained false a, .arr 7, I i, Bv true] [some (.arr 4 ys.length (fTrained true ys))] [i < (a.length : Int)] (by kernel_rfl) hB ⟨h1, trivial⟩ ?_
    refine ae_then ?_
    refine aw_true rfl ?_
    refine aw_skip ?_
    refine ae_then ?_
    refine aw_seq ?_
    refine aw_block ?_
    refine aw_reg [(6, .call [(true, .agg [Sv ((at_ a i.toNat).Label), slFeat false ((at_ a i.toNat).Base), slFeat false ((at_ a i.toNat).Feats), I ((at_ a i.toNat).Count)])] true (.agg [Sv ((at_ a i.toNat).Label), slFeat true ((at_ a i.toNat).Base), slFeat true ((at_ a i.toNat).Feats), I ((at_ a i.toNat).Count)]))] [0, 3, 4] [7] [slTrained false a, .arr 7, I i] [some (.arr 4 ys.length (fun q => bif Nat.beq q i.toNat then [Sv ((at_ a i.toNat).Label), slFeat true ((at_ a i.toNat).Base), slFeat true ((at_ a i.toNat).Feats), I ((at_ a i.toNat).Count)] else (fTrained true ys) q))] [(0 : Int) ≤ i ∧ i < (a.length : Int), Con Try.prog 13 [.agg [Sv ((at_ a i.toNat).Label), slFeat false ((at_ a i.toNat).Base), slFeat false ((at_ a i.toNat).Feats), I ((at_ a i.toNat).Count)]] true (.agg [Sv ((at_ a i.toNat).Label), slFeat true ((at_ a i.toNat).Base), slFeat true ((at_ a i.toNat).Feats), I ((at_ a i.toNat).Count)]) ∧ ((.agg [Sv ((at_ a i.toNat).Label), slFeat false ((at_ a i.toNat).Base), slFeat false ((at_ a i.toNat).Feats), I ((at_ a i.toNat).Count)] : AV) = .agg [Sv ((at_ a i.toNat).Label), slFeat false ((at_ a i.toNat).Base), slFeat false ((at_ a i.toNat).Feats), I ((at_ a i.toNat).Count)]) ∧ True, (0 : Int) ≤ i ∧ i < (ys.length : Int), i.toNat < ys.length] (by kernel_rfl) hB ⟨⟨(by omega), (by omega)⟩, ⟨(toTrained_ok (at_ a i.toNat) (by have := bulkTrainedS_at hi; omega)), rfl, trivial⟩, ⟨(by omega), (by omega)⟩, (by omega), trivial⟩ ?_
    refine ae_block 1 ?_
    refine ae_then ?_
    refine aw_reg [] [0, 3, 4] [7] [slTrained false a, .arr 7, I (i + 1)] [some (.arr 4 ys.length (fun q => bif Nat.beq q i.toNat then [Sv ((at_ a i.toNat).Label), slFeat true ((at_ a i.toNat).Base), slFeat true ((at_ a i.toNat).Feats), I ((at_ a i.toNat).Count)] else (fTrained true ys) q))] [inR .i64 (i + 1)] (by kernel_rfl) hB ⟨(inR_i64 (by omega) (by omega)), trivial⟩ ?_
    refine ae_weak hB [] (T := [(0, slTrained false a), (3, .arr 7), (4, I (i + 1))]) (O := [(7, .arr 4 ((ys.set i.toNat (at_ a i.toNat)).length) (fTrained true (ys.set i.toNat (at_ a i.toNat))))]) rfl (⟨.inl rfl, .inl rfl, .inl rfl, trivial⟩) (⟨.inr ⟨rfl, (by first | rfl | (simp; done) | (simp; omega) | omega), fun i hi => .inl (upd_enc (enc := (cTrained true)) rfl i hi)⟩, trivial⟩) (ae_again _ (by omega) ⟨(i + 1), (ys.set i.toNat (at_ a i.toNat)), rfl, (by omega), (by simp [hy0]), (by intro j hj; exact set_at hy0 hi hy1 j (by omega)), rfl⟩)
  · obtain rfl : a = ys := (ext_at hy0 (fun j hj => hy1 j (by omega))).symm
    refine aw_reg [(3, .dec false)] [0, 3, 4, 11] [7] [slTrained false a, .arr 7, I i, Bv false] [some (.arr 4 a.length (fTrained true a))] [¬ (i < (a.length : Int))] (by kernel_rfl) hB ⟨h1, trivial⟩ ?_
    refine ae_then ?_
    refine aw_false rfl ?_
    refine aw_exit ?_
    refine ae_exit_then ?_
    refine ae_exit_then ?_
    refine ae_exit_same ?_
    refine ae_then ?_
    refine aw_seq ?_
    refine aw_reg [] [2] [7] [.arr 7] [some (.arr 4 a.length (fTrained true a))] [] (by kernel_rfl) hB trivial ?_
    refine ae_then ?_
    refine aw_ret ?_
    refine ae_ret hB (.arr 7) (by kernel_rfl) (.inr ⟨(fun _ => rfl), rfl, rfl, fun i _ => .inl rfl⟩) rfl (fun _ => (tagTrained true _))


-- laws.toWriter
theorem toWriter_ok (a : Writer) (hb : bulkWriter a ≤ 1048576) : Con Try.prog 26 [.agg [I a.Band, slTrained false a.Trained]] true (.agg [I a.Band, slTrained true a.Trained]) := by
  refine fn_ok (fn := Try.f26) (nt := 12) Try.func26 rfl rfl rfl rfl (by simp [taggedL, tagged, tagTrained]) fun B hB => ?_
  refine aw_lens (x := .agg [I a.Band, slTrained false a.Trained]) 0 rfl (fun len_a => ?_)
  simp [LenOK, LenL, cFeat, cTrained, fFeat, fTrained, slFeat, slTrained] at len_a
  refine aw_seq ?_
  refine aw_reg [(0, .new 1), (1, .new 2)] [1, 2] [1, 2] [.ref 1 0, .ref 2 0] [some (.box [I a.Band, slTrained false a.Trained]), some (.box [I 0, nilA])] [] (by kernel_rfl) hB trivial ?_
  refine ae_then ?_
  refine aw_seq ?_
  refine aw_reg [(0, .new 3)] [1, 2, 3] [1, 2, 3] [.ref 1 0, .ref 2 0, .ref 3 0] [some (.box [I a.Band, slTrained false a.Trained]), some (.box [I 0, nilA]), some (.box [I 0, nilA])] [] (by kernel_rfl) hB trivial ?_
  refine ae_then ?_
  refine aw_seq ?_
  refine aw_reg [] [1, 2, 3] [1, 2, 3] [.ref 1 0, .ref 2 0, .ref 3 0] [some (.box [I a.Band, slTrained false a.Trained]), some (.box [I 0, nilA]), some (.box [I a.Band, nilA])] [] (by kernel_rfl) hB trivial ?_
  refine ae_then ?_
  refine aw_seq ?_
  refine aw_reg [(2, .call [(true, slTrained false a.Trained)] true (slTrained true a.Trained))] [2, 3] [2, 3] [.ref 2 0, .ref 3 0] [some (.box [I 0, nilA]), some (.box [I a.Band, slTrained true a.Trained])] [Con Try.prog 65 [slTrained false a.Trained] true (slTrained true a.Trained) ∧ ((slTrained false a.Trained : AV) = slTrained false a.Trained) ∧ True] (by kernel_rfl) hB ⟨⟨(toTrainedS_ok a.Trained (by unfold bulkWriter at hb; omega)), rfl, trivial⟩, trivial⟩ ?_
  refine ae_then ?_
  refine aw_seq ?_
  refine aw_reg [] [2] [2] [.ref 2 0] [some (.box [I a.Band, slTrained true a.Trained])] [] (by kernel_rfl) hB trivial ?_
  refine ae_then ?_
  refine aw_ret ?_
  refine ae_ret hB (.agg [I a.Band, slTrained true a.Trained]) (by kernel_rfl) (.inr ⟨rfl, ⟨⟨(fun _ => rfl), rfl, rfl, fun i _ => .inl rfl⟩, rfl⟩⟩) rfl (fun _ => (by simp [tagged, taggedL, tagTrained]))


/-- Whether p holds of all numbers below n. -/
def allN (n : Nat) (p : Nat → Bool) : Bool := (List.range n).all p
def anyN (n : Nat) (p : Nat → Bool) : Bool := !(allN n fun j => !(p j))
theorem allN_iff {n : Nat} {p : Nat → Bool} : allN n p = true ↔ ∀ j, j < n → p j = true := by simp [allN, List.all_eq_true]
theorem allN_at {n : Nat} {p : Nat → Bool} (h : ∀ j, j < n → p j = true) : allN n p = true := allN_iff.2 h
theorem allN_get {n : Nat} {p : Nat → Bool} (h : allN n p = true) {k : Nat} (hk : k < n) : p k = true := allN_iff.1 h k hk
theorem allN_not {n : Nat} {p : Nat → Bool} {k : Nat} (hk : k < n) (h : p k = false) : allN n p = false := by
  rw [← Bool.not_eq_true, allN_iff]; intro h'; rw [h' k hk] at h; cases h
theorem anyN_not (n : Nat) (p : Nat → Bool) : anyN n (fun j => !(p j)) = !(allN n p) := by simp [anyN]
theorem anyN_at {n : Nat} {p : Nat → Bool} {k : Nat} (hk : k < n) (h : p k = true) : anyN n p = true := by
  unfold anyN; rw [allN_not hk (by simp [h])]; rfl
theorem anyN_none {n : Nat} {p : Nat → Bool} (h : ∀ j, j < n → p j = false) : anyN n p = false := by
  unfold anyN; rw [allN_at (fun j hj => by simp [h j hj])]; rfl
theorem anyN_iff {n : Nat} {p : Nat → Bool} : anyN n p = true ↔ ∃ j, j < n ∧ p j = true := by
  constructor
  · intro h
    apply Classical.byContradiction
    intro hn
    rw [anyN_none (fun j hj => by rw [← Bool.not_eq_true]; exact fun hp => hn ⟨j, hj, hp⟩)] at h
    cases h
  · rintro ⟨j, hj, hp⟩; exact anyN_at hj hp
theorem up_to {n : Int} {p : Nat → Prop} {i : Int} (hi : 0 ≤ i) (h : ∀ j : Nat, (j : Int) < i → p j) (hp : p i.toNat) : ∀ j : Nat, (j : Int) < i + 1 → p j := fun j hj => by
  by_cases e : j = i.toNat
  · subst e; exact hp
  · exact h j (by omega)

def inB (a l h : Int) : Bool := decide (l ≤ a ∧ a ≤ h)
theorem inB_iff {a l h : Int} : inB a l h = true ↔ l ≤ a ∧ a ≤ h := by simp [inB]
theorem bAt_bd (s : ByteArray) (i : Nat) : 0 ≤ bAt s i ∧ bAt s i ≤ 255 := by
  unfold bAt
  have := (s.data.toList.getD i 0).toNat_lt
  omega

-- spec.l01Small
theorem l01Small_ok (c : Int) : Con Try.prog 161 [.val (.int .u8 c)] true (Bv (inB c 97 122)) := by
  refine fn_ok (fn := Try.f161) (nt := 9) Try.func161 rfl rfl rfl rfl (by simp [taggedL, tagged]) fun B hB => ?_
  refine aw_seq ?_
  refine aw_reg [] [0] [] [.val (.int .u8 c)] [] [] (by kernel_rfl) hB trivial ?_
  refine ae_then ?_
  refine aw_seq ?_
  by_cases h1 : 97 ≤ c
  · refine aw_reg [(1, .dec true)] [2] [] [Bv (decide (c ≤ 122))] [] [97 ≤ c] (by kernel_rfl) hB ⟨h1, trivial⟩ ?_
    refine ae_then ?_
    refine aw_ret ?_
    refine ae_ret hB (Bv (decide (c ≤ 122))) (by kernel_rfl) (.inl (by first | rfl | (refine congrArg Bv ?_; simp [inB, *]; done) | (refine congrArg Bv ?_; simp [inB, *]; omega) | (refine congrArg Bv ?_; simp_all [inB]; done) | (refine congrArg Bv ?_; simp_all [inB]; omega))) rfl (fun _ => trivial)
  · refine aw_reg [(1, .dec false)] [2] [] [Bv false] [] [¬ (97 ≤ c)] (by kernel_rfl) hB ⟨h1, trivial⟩ ?_
    refine ae_then ?_
    refine aw_ret ?_
    refine ae_ret hB (Bv false) (by kernel_rfl) (.inl (by first | rfl | (refine congrArg Bv ?_; simp [inB, *]; done) | (refine congrArg Bv ?_; simp [inB, *]; omega) | (refine congrArg Bv ?_; simp_all [inB]; done) | (refine congrArg Bv ?_; simp_all [inB]; omega))) rfl (fun _ => trivial)


/-- Whether a byte is a label's. -/
def labB (n : Int) : Bool := decide ((97 ≤ n ∧ n ≤ 122) ∨ (48 ≤ n ∧ n ≤ 57) ∨ n = 43 ∨ n = 45 ∨ n = 42 ∨ n = 47 ∨ n = 61 ∨ n = 40 ∨ n = 41 ∨ n = 46 ∨ n = 44)
/-- Whether a string is a label. -/
def okLabel (s : ByteArray) : Bool := decide (s.size = 1) && labB (bAt s 0)

-- spec.l11Label
theorem l11Label_ok (c : Int) : Con Try.prog 136 [.val (.int .u8 c)] true (Bv (labB c)) := by
  refine fn_ok (fn := Try.f136) (nt := 24) Try.func136 rfl rfl rfl rfl (by simp [taggedL, tagged]) fun B hB => ?_
  refine aw_seq ?_
  refine aw_reg [] [0] [] [.val (.int .u8 c)] [] [] (by kernel_rfl) hB trivial ?_
  refine ae_then ?_
  refine aw_seq ?_
  refine aw_seq ?_
  refine aw_reg [] [0, 3] [] [.val (.int .u8 c), .val (.int .u8 c)] [] [] (by kernel_rfl) hB trivial ?_
  refine ae_then ?_
  refine aw_block ?_
  refine aw_seq ?_
  refine aw_seq ?_
  by_cases h1 : c = 43
  · refine aw_reg [(0, .dec true)] [0, 3, 4] [] [.val (.int .u8 c), .val (.int .u8 c), Bv true] [] [c = 43] (by kernel_rfl) hB ⟨h1, trivial⟩ ?_
    refine ae_then ?_
    refine aw_true rfl ?_
    refine aw_skip ?_
    refine ae_then ?_
    refine aw_true rfl ?_
    refine aw_seq ?_
    refine aw_reg [] [2] [] [Bv true] [] [] (by kernel_rfl) hB trivial ?_
    refine ae_then ?_
    refine aw_ret ?_
    refine ae_ret_block (ae_ret_then ?_)
    refine ae_ret hB (Bv true) (by kernel_rfl) (.inl (by first | rfl | (refine congrArg Bv ?_; simp [labB, inB, *]; done) | (refine congrArg Bv ?_; simp [labB, inB, *]; omega) | (refine congrArg Bv ?_; simp_all [labB, inB]; done) | (refine congrArg Bv ?_; simp_all [labB, inB]; omega))) rfl (fun _ => trivial)
  · refine aw_reg [(0, .dec false)] [0, 3, 4] [] [.val (.int .u8 c), .val (.int .u8 c), Bv false] [] [¬ (c = 43)] (by kernel_rfl) hB ⟨h1, trivial⟩ ?_
    refine ae_then ?_
    refine aw_false rfl ?_
    refine aw_seq ?_
    by_cases h2 : c = 45
    · refine aw_reg [(0, .dec true)] [0, 3, 4] [] [.val (.int .u8 c), .val (.int .u8 c), Bv true] [] [c = 45] (by kernel_rfl) hB ⟨h2, trivial⟩ ?_
      refine ae_then ?_
      refine aw_true rfl ?_
      refine aw_skip ?_
      refine ae_then ?_
      refine aw_true rfl ?_
      refine aw_seq ?_
      refine aw_reg [] [2] [] [Bv true] [] [] (by kernel_rfl) hB trivial ?_
      refine ae_then ?_
      refine aw_ret ?_
      refine ae_ret_block (ae_ret_then ?_)
      refine ae_ret hB (Bv true) (by kernel_rfl) (.inl (by first | rfl | (refine congrArg Bv ?_; simp [labB, inB, *]; done) | (refine congrArg Bv ?_; simp [labB, inB, *]; omega) | (refine congrArg Bv ?_; simp_all [labB, inB]; done) | (refine congrArg Bv ?_; simp_all [labB, inB]; omega))) rfl (fun _ => trivial)
    · refine aw_reg [(0, .dec false)] [0, 3, 4] [] [.val (.int .u8 c), .val (.int .u8 c), Bv false] [] [¬ (c = 45)] (by kernel_rfl) hB ⟨h2, trivial⟩ ?_
      refine ae_then ?_
      refine aw_false rfl ?_
      refine aw_seq ?_
      by_cases h3 : c = 42
      · refine aw_reg [(0, .dec true)] [0, 3, 4] [] [.val (.int .u8 c), .val (.int .u8 c), Bv true] [] [c = 42] (by kernel_rfl) hB ⟨h3, trivial⟩ ?_
        refine ae_then ?_
        refine aw_true rfl ?_
        refine aw_skip ?_
        refine ae_then ?_
        refine aw_true rfl ?_
        refine aw_seq ?_
        refine aw_reg [] [2] [] [Bv true] [] [] (by kernel_rfl) hB trivial ?_
        refine ae_then ?_
        refine aw_ret ?_
        refine ae_ret_block (ae_ret_then ?_)
        refine ae_ret hB (Bv true) (by kernel_rfl) (.inl (by first | rfl | (refine congrArg Bv ?_; simp [labB, inB, *]; done) | (refine congrArg Bv ?_; simp [labB, inB, *]; omega) | (refine congrArg Bv ?_; simp_all [labB, inB]; done) | (refine congrArg Bv ?_; simp_all [labB, inB]; omega))) rfl (fun _ => trivial)
      · refine aw_reg [(0, .dec false)] [0, 3, 4] [] [.val (.int .u8 c), .val (.int .u8 c), Bv false] [] [¬ (c = 42)] (by kernel_rfl) hB ⟨h3, trivial⟩ ?_
        refine ae_then ?_
        refine aw_false rfl ?_
        refine aw_seq ?_
        by_cases h4 : c = 47
        · refine aw_reg [(0, .dec true)] [0, 3, 4] [] [.val (.int .u8 c), .val (.int .u8 c), Bv true] [] [c = 47] (by kernel_rfl) hB ⟨h4, trivial⟩ ?_
          refine ae_then ?_
          refine aw_true rfl ?_
          refine aw_skip ?_
          refine ae_then ?_
          refine aw_true rfl ?_
          refine aw_seq ?_
          refine aw_reg [] [2] [] [Bv true] [] [] (by kernel_rfl) hB trivial ?_
          refine ae_then ?_
          refine aw_ret ?_
          refine ae_ret_block (ae_ret_then ?_)
          refine ae_ret hB (Bv true) (by kernel_rfl) (.inl (by first | rfl | (refine congrArg Bv ?_; simp [labB, inB, *]; done) | (refine congrArg Bv ?_; simp [labB, inB, *]; omega) | (refine congrArg Bv ?_; simp_all [labB, inB]; done) | (refine congrArg Bv ?_; simp_all [labB, inB]; omega))) rfl (fun _ => trivial)
        · refine aw_reg [(0, .dec false)] [0, 3, 4] [] [.val (.int .u8 c), .val (.int .u8 c), Bv false] [] [¬ (c = 47)] (by kernel_rfl) hB ⟨h4, trivial⟩ ?_
          refine ae_then ?_
          refine aw_false rfl ?_
          refine aw_seq ?_
          by_cases h5 : c = 61
          · refine aw_reg [(0, .dec true)] [0, 3, 4] [] [.val (.int .u8 c), .val (.int .u8 c), Bv true] [] [c = 61] (by kernel_rfl) hB ⟨h5, trivial⟩ ?_
            refine ae_then ?_
            refine aw_true rfl ?_
            refine aw_skip ?_
            refine ae_then ?_
            refine aw_true rfl ?_
            refine aw_seq ?_
            refine aw_reg [] [2] [] [Bv true] [] [] (by kernel_rfl) hB trivial ?_
            refine ae_then ?_
            refine aw_ret ?_
            refine ae_ret_block (ae_ret_then ?_)
            refine ae_ret hB (Bv true) (by kernel_rfl) (.inl (by first | rfl | (refine congrArg Bv ?_; simp [labB, inB, *]; done) | (refine congrArg Bv ?_; simp [labB, inB, *]; omega) | (refine congrArg Bv ?_; simp_all [labB, inB]; done) | (refine congrArg Bv ?_; simp_all [labB, inB]; omega))) rfl (fun _ => trivial)
          · refine aw_reg [(0, .dec false)] [0, 3, 4] [] [.val (.int .u8 c), .val (.int .u8 c), Bv false] [] [¬ (c = 61)] (by kernel_rfl) hB ⟨h5, trivial⟩ ?_
            refine ae_then ?_
            refine aw_false rfl ?_
            refine aw_seq ?_
            by_cases h6 : c = 40
            · refine aw_reg [(0, .dec true)] [0, 3, 4] [] [.val (.int .u8 c), .val (.int .u8 c), Bv true] [] [c = 40] (by kernel_rfl) hB ⟨h6, trivial⟩ ?_
              refine ae_then ?_
              refine aw_true rfl ?_
              refine aw_skip ?_
              refine ae_then ?_
              refine aw_true rfl ?_
              refine aw_seq ?_
              refine aw_reg [] [2] [] [Bv true] [] [] (by kernel_rfl) hB trivial ?_
              refine ae_then ?_
              refine aw_ret ?_
              refine ae_ret_block (ae_ret_then ?_)
              refine ae_ret hB (Bv true) (by kernel_rfl) (.inl (by first | rfl | (refine congrArg Bv ?_; simp [labB, inB, *]; done) | (refine congrArg Bv ?_; simp [labB, inB, *]; omega) | (refine congrArg Bv ?_; simp_all [labB, inB]; done) | (refine congrArg Bv ?_; simp_all [labB, inB]; omega))) rfl (fun _ => trivial)
            · refine aw_reg [(0, .dec false)] [0, 3, 4] [] [.val (.int .u8 c), .val (.int .u8 c), Bv false] [] [¬ (c = 40)] (by kernel_rfl) hB ⟨h6, trivial⟩ ?_
              refine ae_then ?_
              refine aw_false rfl ?_
              refine aw_seq ?_
              by_cases h7 : c = 41
              · refine aw_reg [(0, .dec true)] [0, 3, 4] [] [.val (.int .u8 c), .val (.int .u8 c), Bv true] [] [c = 41] (by kernel_rfl) hB ⟨h7, trivial⟩ ?_
                refine ae_then ?_
                refine aw_true rfl ?_
                refine aw_skip ?_
                refine ae_then ?_
                refine aw_true rfl ?_
                refine aw_seq ?_
                refine aw_reg [] [2] [] [Bv true] [] [] (by kernel_rfl) hB trivial ?_
                refine ae_then ?_
                refine aw_ret ?_
                refine ae_ret_block (ae_ret_then ?_)
                refine ae_ret hB (Bv true) (by kernel_rfl) (.inl (by first | rfl | (refine congrArg Bv ?_; simp [labB, inB, *]; done) | (refine congrArg Bv ?_; simp [labB, inB, *]; omega) | (refine congrArg Bv ?_; simp_all [labB, inB]; done) | (refine congrArg Bv ?_; simp_all [labB, inB]; omega))) rfl (fun _ => trivial)
              · refine aw_reg [(0, .dec false)] [0, 3, 4] [] [.val (.int .u8 c), .val (.int .u8 c), Bv false] [] [¬ (c = 41)] (by kernel_rfl) hB ⟨h7, trivial⟩ ?_
                refine ae_then ?_
                refine aw_false rfl ?_
                refine aw_seq ?_
                by_cases h8 : c = 46
                · refine aw_reg [(0, .dec true)] [0, 3, 4] [] [.val (.int .u8 c), .val (.int .u8 c), Bv true] [] [c = 46] (by kernel_rfl) hB ⟨h8, trivial⟩ ?_
                  refine ae_then ?_
                  refine aw_true rfl ?_
                  refine aw_skip ?_
                  refine ae_then ?_
                  refine aw_true rfl ?_
                  refine aw_seq ?_
                  refine aw_reg [] [2] [] [Bv true] [] [] (by kernel_rfl) hB trivial ?_
                  refine ae_then ?_
                  refine aw_ret ?_
                  refine ae_ret_block (ae_ret_then ?_)
                  refine ae_ret hB (Bv true) (by kernel_rfl) (.inl (by first | rfl | (refine congrArg Bv ?_; simp [labB, inB, *]; done) | (refine congrArg Bv ?_; simp [labB, inB, *]; omega) | (refine congrArg Bv ?_; simp_all [labB, inB]; done) | (refine congrArg Bv ?_; simp_all [labB, inB]; omega))) rfl (fun _ => trivial)
                · refine aw_reg [(0, .dec false)] [0, 3, 4] [] [.val (.int .u8 c), .val (.int .u8 c), Bv false] [] [¬ (c = 46)] (by kernel_rfl) hB ⟨h8, trivial⟩ ?_
                  refine ae_then ?_
                  refine aw_false rfl ?_
                  by_cases h9 : c = 44
                  · refine aw_reg [(0, .dec true)] [0, 4] [] [.val (.int .u8 c), Bv true] [] [c = 44] (by kernel_rfl) hB ⟨h9, trivial⟩ ?_
                    refine ae_then ?_
                    refine aw_true rfl ?_
                    refine aw_seq ?_
                    refine aw_reg [] [2] [] [Bv true] [] [] (by kernel_rfl) hB trivial ?_
                    refine ae_then ?_
                    refine aw_ret ?_
                    refine ae_ret_block (ae_ret_then ?_)
                    refine ae_ret hB (Bv true) (by kernel_rfl) (.inl (by first | rfl | (refine congrArg Bv ?_; simp [labB, inB, *]; done) | (refine congrArg Bv ?_; simp [labB, inB, *]; omega) | (refine congrArg Bv ?_; simp_all [labB, inB]; done) | (refine congrArg Bv ?_; simp_all [labB, inB]; omega))) rfl (fun _ => trivial)
                  · refine aw_reg [(0, .dec false)] [0, 4] [] [.val (.int .u8 c), Bv false] [] [¬ (c = 44)] (by kernel_rfl) hB ⟨h9, trivial⟩ ?_
                    refine ae_then ?_
                    refine aw_false rfl ?_
                    refine aw_skip ?_
                    refine ae_block 0 ?_
                    refine ae_then ?_
                    refine aw_seq ?_
                    rcases Bool.eq_false_or_eq_true (inB c 97 122) with h10 | h10
                    · refine aw_reg [(1, .call [(true, .val (.int .u8 c))] true (Bv true))] [2] [] [Bv true] [] [Con Try.prog 161 [.val (.int .u8 c)] true (Bv true) ∧ ((.val (.int .u8 c) : AV) = .val (.int .u8 c)) ∧ True] (by kernel_rfl) hB ⟨⟨(con_bool h10 (l01Small_ok c)), rfl, trivial⟩, trivial⟩ ?_
                      refine ae_then ?_
                      refine aw_ret ?_
                      refine ae_ret hB (Bv true) (by kernel_rfl) (.inl (by first | rfl | (refine congrArg Bv ?_; simp [labB, inB, *]; done) | (refine congrArg Bv ?_; simp [labB, inB, *]; omega) | (refine congrArg Bv ?_; simp_all [labB, inB]; done) | (refine congrArg Bv ?_; simp_all [labB, inB]; omega))) rfl (fun _ => trivial)
                    · by_cases h11 : 48 ≤ c
                      · refine aw_reg [(1, .call [(true, .val (.int .u8 c))] true (Bv false)), (4, .dec true)] [2] [] [Bv (decide (c ≤ 57))] [] [Con Try.prog 161 [.val (.int .u8 c)] true (Bv false) ∧ ((.val (.int .u8 c) : AV) = .val (.int .u8 c)) ∧ True, 48 ≤ c] (by kernel_rfl) hB ⟨⟨(con_bool h10 (l01Small_ok c)), rfl, trivial⟩, h11, trivial⟩ ?_
                        refine ae_then ?_
                        refine aw_ret ?_
                        refine ae_ret hB (Bv (decide (c ≤ 57))) (by kernel_rfl) (.inl (by first | rfl | (refine congrArg Bv ?_; simp [labB, inB, *]; done) | (refine congrArg Bv ?_; simp [labB, inB, *]; omega) | (refine congrArg Bv ?_; simp_all [labB, inB]; done) | (refine congrArg Bv ?_; simp_all [labB, inB]; omega))) rfl (fun _ => trivial)
                      · refine aw_reg [(1, .call [(true, .val (.int .u8 c))] true (Bv false)), (4, .dec false)] [2] [] [Bv false] [] [Con Try.prog 161 [.val (.int .u8 c)] true (Bv false) ∧ ((.val (.int .u8 c) : AV) = .val (.int .u8 c)) ∧ True, ¬ (48 ≤ c)] (by kernel_rfl) hB ⟨⟨(con_bool h10 (l01Small_ok c)), rfl, trivial⟩, h11, trivial⟩ ?_
                        refine ae_then ?_
                        refine aw_ret ?_
                        refine ae_ret hB (Bv false) (by kernel_rfl) (.inl (by first | rfl | (refine congrArg Bv ?_; simp [labB, inB, *]; done) | (refine congrArg Bv ?_; simp [labB, inB, *]; omega) | (refine congrArg Bv ?_; simp_all [labB, inB]; done) | (refine congrArg Bv ?_; simp_all [labB, inB]; omega))) rfl (fun _ => trivial)


-- spec.IsLabel
theorem specIsLabel_ok (s : ByteArray) (ok : s.size ≤ 9223372036854775807) : Con Try.prog 98 [Sv s] true (Bv (okLabel s)) := by
  refine fn_ok (fn := Try.f98) (nt := 11) Try.func98 rfl rfl rfl rfl (by simp [taggedL, tagged]) fun B hB => ?_
  refine aw_seq ?_
  refine aw_reg [] [0] [] [Sv s] [] [] (by kernel_rfl) hB trivial ?_
  refine ae_then ?_
  refine aw_seq ?_
  by_cases h1 : (s.size : Int) = 1
  · refine aw_reg [(2, .dec true), (6, .call [(true, .val (.int .u8 (bAt s 0)))] true (Bv (labB (bAt s 0))))] [2] [] [Bv (labB (bAt s 0))] [] [(s.size : Int) = 1, (0 : Int) ≤ 0 ∧ 0 < (s.size : Int), Con Try.prog 136 [.val (.int .u8 (bAt s 0))] true (Bv (labB (bAt s 0))) ∧ ((.val (.int .u8 (bAt s 0)) : AV) = .val (.int .u8 (bAt s 0))) ∧ True] (by kernel_rfl) hB ⟨h1, ⟨(by omega), (by omega)⟩, ⟨(l11Label_ok (bAt s 0)), rfl, trivial⟩, trivial⟩ ?_
    refine ae_then ?_
    refine aw_ret ?_
    refine ae_ret hB (Bv (labB (bAt s 0))) (by kernel_rfl) (.inl (by first | rfl | (refine congrArg Bv ?_; simp [okLabel, *]; done) | (refine congrArg Bv ?_; simp [okLabel, *]; omega) | (refine congrArg Bv ?_; simp_all [okLabel]; done) | (refine congrArg Bv ?_; simp_all [okLabel]; omega))) rfl (fun _ => trivial)
  · refine aw_reg [(2, .dec false)] [2] [] [Bv false] [] [¬ ((s.size : Int) = 1)] (by kernel_rfl) hB ⟨h1, trivial⟩ ?_
    refine ae_then ?_
    refine aw_ret ?_
    refine ae_ret hB (Bv false) (by kernel_rfl) (.inl (by first | rfl | (refine congrArg Bv ?_; simp [okLabel, *]; done) | (refine congrArg Bv ?_; simp [okLabel, *]; omega) | (refine congrArg Bv ?_; simp_all [okLabel]; done) | (refine congrArg Bv ?_; simp_all [okLabel]; omega))) rfl (fun _ => trivial)


-- spec.l00In
theorem l00In_ok (n : Int) (low : Int) (high : Int) : Con Try.prog 90 [I n, I low, I high] true (Bv (inB n low high)) := by
  refine fn_ok (fn := Try.f90) (nt := 15) Try.func90 rfl rfl rfl rfl (by simp [taggedL, tagged]) fun B hB => ?_
  refine aw_seq ?_
  refine aw_reg [] [0, 1, 2] [] [I n, I low, I high] [] [] (by kernel_rfl) hB trivial ?_
  refine ae_then ?_
  refine aw_seq ?_
  by_cases h1 : low ≤ n
  · refine aw_reg [(2, .dec true)] [6] [] [Bv (decide (n ≤ high))] [] [low ≤ n] (by kernel_rfl) hB ⟨h1, trivial⟩ ?_
    refine ae_then ?_
    refine aw_ret ?_
    refine ae_ret hB (Bv (decide (n ≤ high))) (by kernel_rfl) (.inl (by first | rfl | (refine congrArg Bv ?_; simp [inB, *]; done) | (refine congrArg Bv ?_; simp [inB, *]; omega) | (refine congrArg Bv ?_; simp_all [inB]; done) | (refine congrArg Bv ?_; simp_all [inB]; omega))) rfl (fun _ => trivial)
  · refine aw_reg [(2, .dec false)] [6] [] [Bv false] [] [¬ (low ≤ n)] (by kernel_rfl) hB ⟨h1, trivial⟩ ?_
    refine ae_then ?_
    refine aw_ret ?_
    refine ae_ret hB (Bv false) (by kernel_rfl) (.inl (by first | rfl | (refine congrArg Bv ?_; simp [inB, *]; done) | (refine congrArg Bv ?_; simp [inB, *]; omega) | (refine congrArg Bv ?_; simp_all [inB]; done) | (refine congrArg Bv ?_; simp_all [inB]; omega))) rfl (fun _ => trivial)


def okF (p : Feat) : Bool := inB p.X 0 255 && (inB p.Y 0 255 && inB p.D 0 7)
theorem okF_iff {p : Feat} : okF p = true ↔ (0 ≤ p.X ∧ p.X ≤ 255) ∧ (0 ≤ p.Y ∧ p.Y ≤ 255) ∧ (0 ≤ p.D ∧ p.D ≤ 7) := by simp [okF, inB, and_assoc]
/-- Whether all are features, and they are 1 to m. -/
def okFeats (xs : List Feat) (m : Int) : Bool := decide (1 ≤ (xs.length : Int) ∧ (xs.length : Int) ≤ m) && allN xs.length (fun j => okF (at_ xs j))
theorem okFeats_at {xs : List Feat} {m : Int} (h : okFeats xs m = true) {j : Nat} (hj : j < xs.length) : okF (at_ xs j) = true := by
  simp only [okFeats, Bool.and_eq_true] at h
  exact allN_get h.2 hj

-- spec.l09Feat
theorem l09Feat_ok (f : Feat) : Con Try.prog 128 [.agg [I f.X, I f.Y, I f.D]] true (Bv (okF f)) := by
  refine fn_ok (fn := Try.f128) (nt := 16) Try.func128 rfl rfl rfl rfl (by simp [taggedL, tagged]) fun B hB => ?_
  refine aw_seq ?_
  refine aw_reg [(0, .new 1)] [1] [1] [.ref 1 0] [some (.box [I f.X, I f.Y, I f.D])] [] (by kernel_rfl) hB trivial ?_
  refine ae_then ?_
  refine aw_seq ?_
  rcases Bool.eq_false_or_eq_true (inB f.X 0 255) with h1 | h1
  · rcases Bool.eq_false_or_eq_true (inB f.Y 0 255) with h2 | h2
    · refine aw_reg [(2, .call [(true, I f.X), (true, I 0), (true, I 255)] true (Bv true)), (6, .call [(true, I f.Y), (true, I 0), (true, I 255)] true (Bv true)), (11, .call [(true, I f.D), (true, I 0), (true, I 7)] true (Bv (inB f.D 0 7)))] [2] [] [Bv (inB f.D 0 7)] [] [Con Try.prog 90 [I f.X, I 0, I 255] true (Bv true) ∧ ((I f.X : AV) = I f.X) ∧ ((I 0 : AV) = I 0) ∧ ((I 255 : AV) = I 255) ∧ True, Con Try.prog 90 [I f.Y, I 0, I 255] true (Bv true) ∧ ((I f.Y : AV) = I f.Y) ∧ ((I 0 : AV) = I 0) ∧ ((I 255 : AV) = I 255) ∧ True, Con Try.prog 90 [I f.D, I 0, I 7] true (Bv (inB f.D 0 7)) ∧ ((I f.D : AV) = I f.D) ∧ ((I 0 : AV) = I 0) ∧ ((I 7 : AV) = I 7) ∧ True] (by kernel_rfl) hB ⟨⟨(con_bool h1 (l00In_ok f.X 0 255)), rfl, rfl, rfl, trivial⟩, ⟨(con_bool h2 (l00In_ok f.Y 0 255)), rfl, rfl, rfl, trivial⟩, ⟨(l00In_ok f.D 0 7), rfl, rfl, rfl, trivial⟩, trivial⟩ ?_
      refine ae_then ?_
      refine aw_ret ?_
      refine ae_ret hB (Bv (inB f.D 0 7)) (by kernel_rfl) (.inl (by first | rfl | (refine congrArg Bv ?_; simp [okF, *]; done) | (refine congrArg Bv ?_; simp [okF, *]; omega) | (refine congrArg Bv ?_; simp_all [okF]; done) | (refine congrArg Bv ?_; simp_all [okF]; omega))) rfl (fun _ => trivial)
    · refine aw_reg [(2, .call [(true, I f.X), (true, I 0), (true, I 255)] true (Bv true)), (6, .call [(true, I f.Y), (true, I 0), (true, I 255)] true (Bv false))] [2] [] [Bv false] [] [Con Try.prog 90 [I f.X, I 0, I 255] true (Bv true) ∧ ((I f.X : AV) = I f.X) ∧ ((I 0 : AV) = I 0) ∧ ((I 255 : AV) = I 255) ∧ True, Con Try.prog 90 [I f.Y, I 0, I 255] true (Bv false) ∧ ((I f.Y : AV) = I f.Y) ∧ ((I 0 : AV) = I 0) ∧ ((I 255 : AV) = I 255) ∧ True] (by kernel_rfl) hB ⟨⟨(con_bool h1 (l00In_ok f.X 0 255)), rfl, rfl, rfl, trivial⟩, ⟨(con_bool h2 (l00In_ok f.Y 0 255)), rfl, rfl, rfl, trivial⟩, trivial⟩ ?_
      refine ae_then ?_
      refine aw_ret ?_
      refine ae_ret hB (Bv false) (by kernel_rfl) (.inl (by first | rfl | (refine congrArg Bv ?_; simp [okF, *]; done) | (refine congrArg Bv ?_; simp [okF, *]; omega) | (refine congrArg Bv ?_; simp_all [okF]; done) | (refine congrArg Bv ?_; simp_all [okF]; omega))) rfl (fun _ => trivial)
  · refine aw_reg [(2, .call [(true, I f.X), (true, I 0), (true, I 255)] true (Bv false))] [2] [] [Bv false] [] [Con Try.prog 90 [I f.X, I 0, I 255] true (Bv false) ∧ ((I f.X : AV) = I f.X) ∧ ((I 0 : AV) = I 0) ∧ ((I 255 : AV) = I 255) ∧ True] (by kernel_rfl) hB ⟨⟨(con_bool h1 (l00In_ok f.X 0 255)), rfl, rfl, rfl, trivial⟩, trivial⟩ ?_
    refine ae_then ?_
    refine aw_ret ?_
    refine ae_ret hB (Bv false) (by kernel_rfl) (.inl (by first | rfl | (refine congrArg Bv ?_; simp [okF, *]; done) | (refine congrArg Bv ?_; simp [okF, *]; omega) | (refine congrArg Bv ?_; simp_all [okF]; done) | (refine congrArg Bv ?_; simp_all [okF]; omega))) rfl (fun _ => trivial)


-- spec.l09Ok
theorem l09Ok_ok (list : List Feat) : Con Try.prog 89 [slFeat false list] true (Bv (okFeats list 72)) := by
  refine fn_ok (fn := Try.f89) (nt := 19) Try.func89 rfl rfl rfl rfl (by simp [taggedL, tagged, tagFeat]) fun B hB => ?_
  refine aw_lens (x := slFeat false list) 0 rfl (fun len_list => ?_)
  simp [LenOK, LenL, cFeat, fFeat, slFeat] at len_list
  refine aw_seq ?_
  refine aw_reg [] [0] [] [slFeat false list] [] [] (by kernel_rfl) hB trivial ?_
  refine ae_then ?_
  refine aw_seq ?_
  refine aw_seq ?_
  refine aw_reg [] [0, 3] [] [slFeat false list, I 0] [] [] (by kernel_rfl) hB trivial ?_
  refine ae_then ?_
  refine aw_block ?_
  refine aw_loop (fun n σ => ∃ (i : Int), n = ((list.length : Int) - i).toNat ∧ (0 ≤ i ∧ i ≤ (list.length : Int)) ∧ (∀ j : Nat, (j : Int) < i → okF (at_ list j) = true) ∧ σ = mkS [(0, slFeat false list), (3, I i)] []) (((list.length : Int) - 0).toNat) ⟨0, rfl, (by omega), (by intro j hj; omega), rfl⟩ (fun n σ hI => ?_)
  obtain ⟨i, rfl, hi0, hall0, rfl⟩ := hI
  refine aw_seq ?_
  refine aw_seq ?_
  by_cases h1 : i < (list.length : Int)
  · have hi : i.toNat < list.length := by omega
    refine aw_reg [(3, .dec true)] [0, 3, 7] [] [slFeat false list, I i, Bv true] [] [i < (list.length : Int)] (by kernel_rfl) hB ⟨h1, trivial⟩ ?_
    refine ae_then ?_
    refine aw_true rfl ?_
    refine aw_skip ?_
    refine ae_then ?_
    refine aw_seq ?_
    refine aw_block ?_
    refine aw_seq ?_
    rcases Bool.eq_false_or_eq_true (okF (at_ list i.toNat)) with h2 | h2
    · refine aw_reg [(4, .call [(true, .agg [I ((at_ list i.toNat).X), I ((at_ list i.toNat).Y), I ((at_ list i.toNat).D)])] true (Bv true))] [0, 3, 15] [] [slFeat false list, I i, Bv false] [] [(0 : Int) ≤ i ∧ i < (list.length : Int), Con Try.prog 128 [.agg [I ((at_ list i.toNat).X), I ((at_ list i.toNat).Y), I ((at_ list i.toNat).D)]] true (Bv true) ∧ ((.agg [I ((at_ list i.toNat).X), I ((at_ list i.toNat).Y), I ((at_ list i.toNat).D)] : AV) = .agg [I ((at_ list i.toNat).X), I ((at_ list i.toNat).Y), I ((at_ list i.toNat).D)]) ∧ True] (by kernel_rfl) hB ⟨⟨(by omega), (by omega)⟩, ⟨(con_bool h2 (l09Feat_ok (at_ list i.toNat))), rfl, trivial⟩, trivial⟩ ?_
      refine ae_then ?_
      refine aw_false rfl ?_
      refine aw_skip ?_
      refine ae_block 1 ?_
      refine ae_then ?_
      refine aw_reg [] [0, 3] [] [slFeat false list, I (i + 1)] [] [inR .i64 (i + 1)] (by kernel_rfl) hB ⟨(inR_i64 (by omega) (by omega)), trivial⟩ ?_
      exact ae_again _ (by omega) ⟨(i + 1), rfl, (by omega), (by intro j hj; by_cases ej : j = i.toNat; (subst ej; assumption); exact hall0 j (by omega)), rfl⟩
    · have hall : allN list.length (fun j => okF (at_ list j)) = false := allN_not hi h2
      refine aw_reg [(4, .call [(true, .agg [I ((at_ list i.toNat).X), I ((at_ list i.toNat).Y), I ((at_ list i.toNat).D)])] true (Bv false))] [0, 3, 15] [] [slFeat false list, I i, Bv true] [] [(0 : Int) ≤ i ∧ i < (list.length : Int), Con Try.prog 128 [.agg [I ((at_ list i.toNat).X), I ((at_ list i.toNat).Y), I ((at_ list i.toNat).D)]] true (Bv false) ∧ ((.agg [I ((at_ list i.toNat).X), I ((at_ list i.toNat).Y), I ((at_ list i.toNat).D)] : AV) = .agg [I ((at_ list i.toNat).X), I ((at_ list i.toNat).Y), I ((at_ list i.toNat).D)]) ∧ True] (by kernel_rfl) hB ⟨⟨(by omega), (by omega)⟩, ⟨(con_bool h2 (l09Feat_ok (at_ list i.toNat))), rfl, trivial⟩, trivial⟩ ?_
      refine ae_then ?_
      refine aw_true rfl ?_
      refine aw_seq ?_
      refine aw_reg [] [2] [] [Bv false] [] [] (by kernel_rfl) hB trivial ?_
      refine ae_then ?_
      refine aw_ret ?_
      refine ae_ret_block (ae_ret_then (ae_ret_then (ae_ret_block (ae_ret_then ?_))))
      refine ae_ret hB (Bv false) (by kernel_rfl) (.inl (by first | rfl | (refine congrArg Bv ?_; simp [okFeats, inB, *]; done) | (refine congrArg Bv ?_; simp [okFeats, inB, *]; omega) | (refine congrArg Bv ?_; simp_all [okFeats, inB]; done) | (refine congrArg Bv ?_; simp_all [okFeats, inB]; omega))) rfl (fun _ => trivial)
  · have hall : allN list.length (fun j => okF (at_ list j)) = true := allN_at (fun j hj => hall0 j (by omega))
    refine aw_reg [(3, .dec false)] [0, 3, 7] [] [slFeat false list, I i, Bv false] [] [¬ (i < (list.length : Int))] (by kernel_rfl) hB ⟨h1, trivial⟩ ?_
    refine ae_then ?_
    refine aw_false rfl ?_
    refine aw_exit ?_
    refine ae_exit_then ?_
    refine ae_exit_then ?_
    refine ae_exit_same ?_
    refine ae_then ?_
    refine aw_seq ?_
    refine aw_reg [(2, .call [(true, I (list.length : Int)), (true, I 1), (true, I 72)] true (Bv (inB (list.length : Int) 1 72)))] [2] [] [Bv (inB (list.length : Int) 1 72)] [] [Con Try.prog 90 [I (list.length : Int), I 1, I 72] true (Bv (inB (list.length : Int) 1 72)) ∧ ((I (list.length : Int) : AV) = I (list.length : Int)) ∧ ((I 1 : AV) = I 1) ∧ ((I 72 : AV) = I 72) ∧ True] (by kernel_rfl) hB ⟨⟨(l00In_ok (list.length : Int) 1 72), rfl, rfl, rfl, trivial⟩, trivial⟩ ?_
    refine ae_then ?_
    refine aw_ret ?_
    refine ae_ret hB (Bv (inB (list.length : Int) 1 72)) (by kernel_rfl) (.inl (by first | rfl | (refine congrArg Bv ?_; simp [okFeats, inB, *]; done) | (refine congrArg Bv ?_; simp [okFeats, inB, *]; omega) | (refine congrArg Bv ?_; simp_all [okFeats, inB]; done) | (refine congrArg Bv ?_; simp_all [okFeats, inB]; omega))) rfl (fun _ => trivial)


-- spec.l09Size
theorem l09Size_ok (n : Int) (hn : -9223372036854775807 ≤ n ∧ n ≤ 9223372036854775807) : Con Try.prog 55 [I n] true (I (n.natAbs : Int)) := by
  refine fn_ok (fn := Try.f55) (nt := 8) Try.func55 rfl rfl rfl rfl (by simp [taggedL, tagged]) fun B hB => ?_
  refine aw_seq ?_
  refine aw_reg [] [0] [] [I n] [] [] (by kernel_rfl) hB trivial ?_
  refine ae_then ?_
  refine aw_seq ?_
  refine aw_seq ?_
  by_cases h1 : n < 0
  · refine aw_reg [(1, .dec true)] [0, 4] [] [I n, Bv true] [] [n < 0] (by kernel_rfl) hB ⟨h1, trivial⟩ ?_
    refine ae_then ?_
    refine aw_true rfl ?_
    refine aw_seq ?_
    refine aw_reg [] [2] [] [I (-n)] [] [inR .i64 (-n)] (by kernel_rfl) hB ⟨(inR_i64 (by omega) (by omega)), trivial⟩ ?_
    refine ae_then ?_
    refine aw_ret ?_
    refine ae_ret_then ?_
    refine ae_ret hB (I (-n)) (by kernel_rfl) (.inl (by refine congrArg I ?_; omega)) rfl (fun _ => trivial)
  · refine aw_reg [(1, .dec false)] [0, 4] [] [I n, Bv false] [] [¬ (n < 0)] (by kernel_rfl) hB ⟨h1, trivial⟩ ?_
    refine ae_then ?_
    refine aw_false rfl ?_
    refine aw_skip ?_
    refine ae_then ?_
    refine aw_seq ?_
    refine aw_reg [] [2] [] [I n] [] [] (by kernel_rfl) hB trivial ?_
    refine ae_then ?_
    refine aw_ret ?_
    refine ae_ret hB (I n) (by kernel_rfl) (.inl (by refine congrArg I ?_; omega)) rfl (fun _ => trivial)


/-- Whether a feature is one that another one may have become. -/
def nearB (a b : Feat) : Bool := decide (a.D = b.D) && (decide (((a.X - b.X).natAbs : Int) ≤ 40) && decide (((a.Y - b.Y).natAbs : Int) ≤ 40))
/-- Whether a trained template is valid. -/
def okTrained' (t : Trained) : Bool := okLabel t.Label && (okFeats t.Base 72 && (okFeats t.Feats 72 && ((decide (t.Base.length = t.Feats.length) && allN t.Base.length (fun j => nearB (at_ t.Base j) (at_ t.Feats j))) && inB t.Count 0 100)))
theorem okTr_iff {t : Trained} : okTrained' t = true ↔ okLabel t.Label = true ∧ okFeats t.Base 72 = true ∧ okFeats t.Feats 72 = true ∧ (t.Base.length = t.Feats.length ∧ allN t.Base.length (fun j => nearB (at_ t.Base j) (at_ t.Feats j)) = true) ∧ inB t.Count 0 100 = true := by
  simp [okTrained']

-- spec.l24Near
theorem l24Near_ok (a : Feat) (b : Feat) (ha : okF a = true) (hb : okF b = true) : Con Try.prog 99 [.agg [I a.X, I a.Y, I a.D], .agg [I b.X, I b.Y, I b.D]] true (Bv (nearB a b)) := by
  have ha' := okF_iff.1 ha
  have hb' := okF_iff.1 hb
  refine fn_ok (fn := Try.f99) (nt := 28) Try.func99 rfl rfl rfl rfl (by simp [taggedL, tagged]) fun B hB => ?_
  refine aw_seq ?_
  refine aw_reg [(0, .new 2), (1, .new 3)] [2, 3] [2, 3] [.ref 2 0, .ref 3 0] [some (.box [I a.X, I a.Y, I a.D]), some (.box [I b.X, I b.Y, I b.D])] [] (by kernel_rfl) hB trivial ?_
  refine ae_then ?_
  refine aw_seq ?_
  by_cases h1 : a.D = b.D
  · by_cases h2 : ((a.X - b.X).natAbs : Int) ≤ 40
    · refine aw_reg [(4, .dec true), (11, .call [(true, I (a.X - b.X))] true (I ((a.X - b.X).natAbs : Int))), (12, .dec true), (20, .call [(true, I (a.Y - b.Y))] true (I ((a.Y - b.Y).natAbs : Int)))] [4] [] [Bv (decide (((a.Y - b.Y).natAbs : Int) ≤ 40))] [] [a.D = b.D, inR .i64 (a.X - b.X), Con Try.prog 55 [I (a.X - b.X)] true (I ((a.X - b.X).natAbs : Int)) ∧ ((I (a.X - b.X) : AV) = I (a.X - b.X)) ∧ True, ((a.X - b.X).natAbs : Int) ≤ 40, inR .i64 (a.Y - b.Y), Con Try.prog 55 [I (a.Y - b.Y)] true (I ((a.Y - b.Y).natAbs : Int)) ∧ ((I (a.Y - b.Y) : AV) = I (a.Y - b.Y)) ∧ True] (by kernel_rfl) hB ⟨h1, (inR_i64 (by omega) (by omega)), ⟨(l09Size_ok (a.X - b.X) (by omega)), rfl, trivial⟩, h2, (inR_i64 (by omega) (by omega)), ⟨(l09Size_ok (a.Y - b.Y) (by omega)), rfl, trivial⟩, trivial⟩ ?_
      refine ae_then ?_
      refine aw_ret ?_
      refine ae_ret hB (Bv (decide (((a.Y - b.Y).natAbs : Int) ≤ 40))) (by kernel_rfl) (.inl (by first | rfl | (refine congrArg Bv ?_; simp [nearB, *]; done) | (refine congrArg Bv ?_; simp [nearB, *]; omega) | (refine congrArg Bv ?_; simp_all [nearB]; done) | (refine congrArg Bv ?_; simp_all [nearB]; omega))) rfl (fun _ => trivial)
    · refine aw_reg [(4, .dec true), (11, .call [(true, I (a.X - b.X))] true (I ((a.X - b.X).natAbs : Int))), (12, .dec false)] [4] [] [Bv false] [] [a.D = b.D, inR .i64 (a.X - b.X), Con Try.prog 55 [I (a.X - b.X)] true (I ((a.X - b.X).natAbs : Int)) ∧ ((I (a.X - b.X) : AV) = I (a.X - b.X)) ∧ True, ¬ (((a.X - b.X).natAbs : Int) ≤ 40)] (by kernel_rfl) hB ⟨h1, (inR_i64 (by omega) (by omega)), ⟨(l09Size_ok (a.X - b.X) (by omega)), rfl, trivial⟩, h2, trivial⟩ ?_
      refine ae_then ?_
      refine aw_ret ?_
      refine ae_ret hB (Bv false) (by kernel_rfl) (.inl (by first | rfl | (refine congrArg Bv ?_; simp [nearB, *]; done) | (refine congrArg Bv ?_; simp [nearB, *]; omega) | (refine congrArg Bv ?_; simp_all [nearB]; done) | (refine congrArg Bv ?_; simp_all [nearB]; omega))) rfl (fun _ => trivial)
  · refine aw_reg [(4, .dec false)] [4] [] [Bv false] [] [¬ (a.D = b.D)] (by kernel_rfl) hB ⟨h1, trivial⟩ ?_
    refine ae_then ?_
    refine aw_ret ?_
    refine ae_ret hB (Bv false) (by kernel_rfl) (.inl (by first | rfl | (refine congrArg Bv ?_; simp [nearB, *]; done) | (refine congrArg Bv ?_; simp [nearB, *]; omega) | (refine congrArg Bv ?_; simp_all [nearB]; done) | (refine congrArg Bv ?_; simp_all [nearB]; omega))) rfl (fun _ => trivial)


-- spec.l24Ok
theorem l24Ok_ok (t : Trained) (ok : okTrained t) : Con Try.prog 53 [.ptr false [Sv t.Label, slFeat false t.Base, slFeat false t.Feats, I t.Count]] true (Bv (okTrained' t)) := by
  refine fn_ok (fn := Try.f53) (nt := 69) Try.func53 rfl rfl rfl rfl (by simp [taggedL, tagged, tagFeat]) fun B hB => ?_
  refine aw_lens (x := .ptr false [Sv t.Label, slFeat false t.Base, slFeat false t.Feats, I t.Count]) 0 rfl (fun len_t => ?_)
  simp [LenOK, LenL, cFeat, fFeat, slFeat] at len_t
  refine aw_seq ?_
  refine aw_reg [] [0] [] [.ptr false [Sv t.Label, slFeat false t.Base, slFeat false t.Feats, I t.Count]] [] [] (by kernel_rfl) hB trivial ?_
  refine ae_then ?_
  refine aw_seq ?_
  refine aw_seq ?_
  rcases Bool.eq_false_or_eq_true (okLabel t.Label) with h1 | h1
  · rcases Bool.eq_false_or_eq_true (okFeats t.Base 72) with h2 | h2
    · rcases Bool.eq_false_or_eq_true (okFeats t.Feats 72) with h3 | h3
      · by_cases h4 : (t.Base.length : Int) = (t.Feats.length : Int)
        · refine aw_reg [(4, .call [(true, Sv t.Label)] true (Bv true)), (11, .call [(true, slFeat false t.Base)] true (Bv true)), (19, .call [(true, slFeat false t.Feats)] true (Bv true)), (33, .dec false)] [0, 38] [] [.ptr false [Sv t.Label, slFeat false t.Base, slFeat false t.Feats, I t.Count], Bv false] [] [Con Try.prog 98 [Sv t.Label] true (Bv true) ∧ ((Sv t.Label : AV) = Sv t.Label) ∧ True, Con Try.prog 89 [slFeat false t.Base] true (Bv true) ∧ ((slFeat false t.Base : AV) = slFeat false t.Base) ∧ True, Con Try.prog 89 [slFeat false t.Feats] true (Bv true) ∧ ((slFeat false t.Feats : AV) = slFeat false t.Feats) ∧ True, ¬ ((t.Base.length : Int) ≠ (t.Feats.length : Int))] (by kernel_rfl) hB ⟨⟨(con_bool h1 (specIsLabel_ok t.Label ok)), rfl, trivial⟩, ⟨(con_bool h2 (l09Ok_ok t.Base)), rfl, trivial⟩, ⟨(con_bool h3 (l09Ok_ok t.Feats)), rfl, trivial⟩, (fun hq => hq h4), trivial⟩ ?_
          refine ae_then ?_
          refine aw_false rfl ?_
          refine aw_skip ?_
          refine ae_then ?_
          refine aw_seq ?_
          refine aw_seq ?_
          refine aw_reg [] [0, 3] [] [.ptr false [Sv t.Label, slFeat false t.Base, slFeat false t.Feats, I t.Count], I 0] [] [] (by kernel_rfl) hB trivial ?_
          refine ae_then ?_
          refine aw_block ?_
          refine aw_loop (fun n σ => ∃ (i : Int), n = ((t.Base.length : Int) - i).toNat ∧ (0 ≤ i ∧ i ≤ (t.Base.length : Int)) ∧ (∀ j : Nat, (j : Int) < i → nearB (at_ t.Base j) (at_ t.Feats j) = true) ∧ σ = mkS [(0, .ptr false [Sv t.Label, slFeat false t.Base, slFeat false t.Feats, I t.Count]), (3, I i)] []) (((t.Base.length : Int) - 0).toNat) ⟨0, rfl, (by omega), (by intro j hj; omega), rfl⟩ (fun n σ hI => ?_)
          obtain ⟨i, rfl, hir, hall0, rfl⟩ := hI
          refine aw_seq ?_
          refine aw_seq ?_
          by_cases h5 : i < (t.Base.length : Int)
          · have hi : i.toNat < t.Base.length := by omega
            have hi0 : i.toNat < t.Feats.length := by omega
            refine aw_reg [(6, .dec true)] [0, 3, 45] [] [.ptr false [Sv t.Label, slFeat false t.Base, slFeat false t.Feats, I t.Count], I i, Bv true] [] [i < (t.Base.length : Int)] (by kernel_rfl) hB ⟨h5, trivial⟩ ?_
            refine ae_then ?_
            refine aw_true rfl ?_
            refine aw_skip ?_
            refine ae_then ?_
            refine aw_seq ?_
            refine aw_block ?_
            refine aw_seq ?_
            rcases Bool.eq_false_or_eq_true (nearB (at_ t.Base i.toNat) (at_ t.Feats i.toNat)) with h6 | h6
            · refine aw_reg [(14, .call [(true, .agg [I ((at_ t.Base i.toNat).X), I ((at_ t.Base i.toNat).Y), I ((at_ t.Base i.toNat).D)]), (true, .agg [I ((at_ t.Feats i.toNat).X), I ((at_ t.Feats i.toNat).Y), I ((at_ t.Feats i.toNat).D)])] true (Bv true))] [0, 3, 63] [] [.ptr false [Sv t.Label, slFeat false t.Base, slFeat false t.Feats, I t.Count], I i, Bv false] [] [(0 : Int) ≤ i ∧ i < (t.Base.length : Int), (0 : Int) ≤ i ∧ i < (t.Feats.length : Int), Con Try.prog 99 [.agg [I ((at_ t.Base i.toNat).X), I ((at_ t.Base i.toNat).Y), I ((at_ t.Base i.toNat).D)], .agg [I ((at_ t.Feats i.toNat).X), I ((at_ t.Feats i.toNat).Y), I ((at_ t.Feats i.toNat).D)]] true (Bv true) ∧ ((.agg [I ((at_ t.Base i.toNat).X), I ((at_ t.Base i.toNat).Y), I ((at_ t.Base i.toNat).D)] : AV) = .agg [I ((at_ t.Base i.toNat).X), I ((at_ t.Base i.toNat).Y), I ((at_ t.Base i.toNat).D)]) ∧ ((.agg [I ((at_ t.Feats i.toNat).X), I ((at_ t.Feats i.toNat).Y), I ((at_ t.Feats i.toNat).D)] : AV) = .agg [I ((at_ t.Feats i.toNat).X), I ((at_ t.Feats i.toNat).Y), I ((at_ t.Feats i.toNat).D)]) ∧ True] (by kernel_rfl) hB ⟨⟨(by omega), (by omega)⟩, ⟨(by omega), (by omega)⟩, ⟨(con_bool h6 (l24Near_ok (at_ t.Base i.toNat) (at_ t.Feats i.toNat) (okFeats_at (by assumption) hi) (okFeats_at (by assumption) hi0))), rfl, rfl, trivial⟩, trivial⟩ ?_
              refine ae_then ?_
              refine aw_false rfl ?_
              refine aw_skip ?_
              refine ae_block 1 ?_
              refine ae_then ?_
              refine aw_reg [] [0, 3] [] [.ptr false [Sv t.Label, slFeat false t.Base, slFeat false t.Feats, I t.Count], I (i + 1)] [] [inR .i64 (i + 1)] (by kernel_rfl) hB ⟨(inR_i64 (by omega) (by omega)), trivial⟩ ?_
              exact ae_again _ (by omega) ⟨(i + 1), rfl, (by omega), (by intro j hj; by_cases ej : j = i.toNat; (subst ej; assumption); exact hall0 j (by omega)), rfl⟩
            · have hall : allN t.Base.length (fun j => nearB (at_ t.Base j) (at_ t.Feats j)) = false := allN_not hi h6
              refine aw_reg [(14, .call [(true, .agg [I ((at_ t.Base i.toNat).X), I ((at_ t.Base i.toNat).Y), I ((at_ t.Base i.toNat).D)]), (true, .agg [I ((at_ t.Feats i.toNat).X), I ((at_ t.Feats i.toNat).Y), I ((at_ t.Feats i.toNat).D)])] true (Bv false))] [0, 3, 63] [] [.ptr false [Sv t.Label, slFeat false t.Base, slFeat false t.Feats, I t.Count], I i, Bv true] [] [(0 : Int) ≤ i ∧ i < (t.Base.length : Int), (0 : Int) ≤ i ∧ i < (t.Feats.length : Int), Con Try.prog 99 [.agg [I ((at_ t.Base i.toNat).X), I ((at_ t.Base i.toNat).Y), I ((at_ t.Base i.toNat).D)], .agg [I ((at_ t.Feats i.toNat).X), I ((at_ t.Feats i.toNat).Y), I ((at_ t.Feats i.toNat).D)]] true (Bv false) ∧ ((.agg [I ((at_ t.Base i.toNat).X), I ((at_ t.Base i.toNat).Y), I ((at_ t.Base i.toNat).D)] : AV) = .agg [I ((at_ t.Base i.toNat).X), I ((at_ t.Base i.toNat).Y), I ((at_ t.Base i.toNat).D)]) ∧ ((.agg [I ((at_ t.Feats i.toNat).X), I ((at_ t.Feats i.toNat).Y), I ((at_ t.Feats i.toNat).D)] : AV) = .agg [I ((at_ t.Feats i.toNat).X), I ((at_ t.Feats i.toNat).Y), I ((at_ t.Feats i.toNat).D)]) ∧ True] (by kernel_rfl) hB ⟨⟨(by omega), (by omega)⟩, ⟨(by omega), (by omega)⟩, ⟨(con_bool h6 (l24Near_ok (at_ t.Base i.toNat) (at_ t.Feats i.toNat) (okFeats_at (by assumption) hi) (okFeats_at (by assumption) hi0))), rfl, rfl, trivial⟩, trivial⟩ ?_
              refine ae_then ?_
              refine aw_true rfl ?_
              refine aw_seq ?_
              refine aw_reg [] [2] [] [Bv false] [] [] (by kernel_rfl) hB trivial ?_
              refine ae_then ?_
              refine aw_ret ?_
              refine ae_ret_block (ae_ret_then (ae_ret_then (ae_ret_block (ae_ret_then ?_))))
              refine ae_ret hB (Bv false) (by kernel_rfl) (.inl (by first | rfl | (refine congrArg Bv ?_; simp [okTrained', inB, *]; done) | (refine congrArg Bv ?_; simp [okTrained', inB, *]; omega) | (refine congrArg Bv ?_; simp_all [okTrained', inB]; done) | (refine congrArg Bv ?_; simp_all [okTrained', inB]; omega))) rfl (fun _ => trivial)
          · have hall : allN t.Base.length (fun j => nearB (at_ t.Base j) (at_ t.Feats j)) = true := allN_at (fun j hj => hall0 j (by omega))
            refine aw_reg [(6, .dec false)] [0, 3, 45] [] [.ptr false [Sv t.Label, slFeat false t.Base, slFeat false t.Feats, I t.Count], I i, Bv false] [] [¬ (i < (t.Base.length : Int))] (by kernel_rfl) hB ⟨h5, trivial⟩ ?_
            refine ae_then ?_
            refine aw_false rfl ?_
            refine aw_exit ?_
            refine ae_exit_then ?_
            refine ae_exit_then ?_
            refine ae_exit_same ?_
            refine ae_then ?_
            refine aw_seq ?_
            refine aw_reg [(4, .call [(true, I t.Count), (true, I 0), (true, I 100)] true (Bv (inB t.Count 0 100)))] [2] [] [Bv (inB t.Count 0 100)] [] [Con Try.prog 90 [I t.Count, I 0, I 100] true (Bv (inB t.Count 0 100)) ∧ ((I t.Count : AV) = I t.Count) ∧ ((I 0 : AV) = I 0) ∧ ((I 100 : AV) = I 100) ∧ True] (by kernel_rfl) hB ⟨⟨(l00In_ok t.Count 0 100), rfl, rfl, rfl, trivial⟩, trivial⟩ ?_
            refine ae_then ?_
            refine aw_ret ?_
            refine ae_ret hB (Bv (inB t.Count 0 100)) (by kernel_rfl) (.inl (by first | rfl | (refine congrArg Bv ?_; simp [okTrained', inB, *]; done) | (refine congrArg Bv ?_; simp [okTrained', inB, *]; omega) | (refine congrArg Bv ?_; simp_all [okTrained', inB]; done) | (refine congrArg Bv ?_; simp_all [okTrained', inB]; omega))) rfl (fun _ => trivial)
        · refine aw_reg [(4, .call [(true, Sv t.Label)] true (Bv true)), (11, .call [(true, slFeat false t.Base)] true (Bv true)), (19, .call [(true, slFeat false t.Feats)] true (Bv true)), (33, .dec true)] [0, 38] [] [.ptr false [Sv t.Label, slFeat false t.Base, slFeat false t.Feats, I t.Count], Bv true] [] [Con Try.prog 98 [Sv t.Label] true (Bv true) ∧ ((Sv t.Label : AV) = Sv t.Label) ∧ True, Con Try.prog 89 [slFeat false t.Base] true (Bv true) ∧ ((slFeat false t.Base : AV) = slFeat false t.Base) ∧ True, Con Try.prog 89 [slFeat false t.Feats] true (Bv true) ∧ ((slFeat false t.Feats : AV) = slFeat false t.Feats) ∧ True, (t.Base.length : Int) ≠ (t.Feats.length : Int)] (by kernel_rfl) hB ⟨⟨(con_bool h1 (specIsLabel_ok t.Label ok)), rfl, trivial⟩, ⟨(con_bool h2 (l09Ok_ok t.Base)), rfl, trivial⟩, ⟨(con_bool h3 (l09Ok_ok t.Feats)), rfl, trivial⟩, h4, trivial⟩ ?_
          refine ae_then ?_
          refine aw_true rfl ?_
          refine aw_seq ?_
          refine aw_reg [] [2] [] [Bv false] [] [] (by kernel_rfl) hB trivial ?_
          refine ae_then ?_
          refine aw_ret ?_
          refine ae_ret_then ?_
          refine ae_ret hB (Bv false) (by kernel_rfl) (.inl (by first | rfl | (refine congrArg Bv ?_; simp [okTrained', inB, *]; done) | (refine congrArg Bv ?_; simp [okTrained', inB, *]; omega) | (refine congrArg Bv ?_; simp_all [okTrained', inB]; done) | (refine congrArg Bv ?_; simp_all [okTrained', inB]; omega))) rfl (fun _ => trivial)
      · refine aw_reg [(4, .call [(true, Sv t.Label)] true (Bv true)), (11, .call [(true, slFeat false t.Base)] true (Bv true)), (19, .call [(true, slFeat false t.Feats)] true (Bv false))] [0, 38] [] [.ptr false [Sv t.Label, slFeat false t.Base, slFeat false t.Feats, I t.Count], Bv true] [] [Con Try.prog 98 [Sv t.Label] true (Bv true) ∧ ((Sv t.Label : AV) = Sv t.Label) ∧ True, Con Try.prog 89 [slFeat false t.Base] true (Bv true) ∧ ((slFeat false t.Base : AV) = slFeat false t.Base) ∧ True, Con Try.prog 89 [slFeat false t.Feats] true (Bv false) ∧ ((slFeat false t.Feats : AV) = slFeat false t.Feats) ∧ True] (by kernel_rfl) hB ⟨⟨(con_bool h1 (specIsLabel_ok t.Label ok)), rfl, trivial⟩, ⟨(con_bool h2 (l09Ok_ok t.Base)), rfl, trivial⟩, ⟨(con_bool h3 (l09Ok_ok t.Feats)), rfl, trivial⟩, trivial⟩ ?_
        refine ae_then ?_
        refine aw_true rfl ?_
        refine aw_seq ?_
        refine aw_reg [] [2] [] [Bv false] [] [] (by kernel_rfl) hB trivial ?_
        refine ae_then ?_
        refine aw_ret ?_
        refine ae_ret_then ?_
        refine ae_ret hB (Bv false) (by kernel_rfl) (.inl (by first | rfl | (refine congrArg Bv ?_; simp [okTrained', inB, *]; done) | (refine congrArg Bv ?_; simp [okTrained', inB, *]; omega) | (refine congrArg Bv ?_; simp_all [okTrained', inB]; done) | (refine congrArg Bv ?_; simp_all [okTrained', inB]; omega))) rfl (fun _ => trivial)
    · refine aw_reg [(4, .call [(true, Sv t.Label)] true (Bv true)), (11, .call [(true, slFeat false t.Base)] true (Bv false))] [0, 38] [] [.ptr false [Sv t.Label, slFeat false t.Base, slFeat false t.Feats, I t.Count], Bv true] [] [Con Try.prog 98 [Sv t.Label] true (Bv true) ∧ ((Sv t.Label : AV) = Sv t.Label) ∧ True, Con Try.prog 89 [slFeat false t.Base] true (Bv false) ∧ ((slFeat false t.Base : AV) = slFeat false t.Base) ∧ True] (by kernel_rfl) hB ⟨⟨(con_bool h1 (specIsLabel_ok t.Label ok)), rfl, trivial⟩, ⟨(con_bool h2 (l09Ok_ok t.Base)), rfl, trivial⟩, trivial⟩ ?_
      refine ae_then ?_
      refine aw_true rfl ?_
      refine aw_seq ?_
      refine aw_reg [] [2] [] [Bv false] [] [] (by kernel_rfl) hB trivial ?_
      refine ae_then ?_
      refine aw_ret ?_
      refine ae_ret_then ?_
      refine ae_ret hB (Bv false) (by kernel_rfl) (.inl (by first | rfl | (refine congrArg Bv ?_; simp [okTrained', inB, *]; done) | (refine congrArg Bv ?_; simp [okTrained', inB, *]; omega) | (refine congrArg Bv ?_; simp_all [okTrained', inB]; done) | (refine congrArg Bv ?_; simp_all [okTrained', inB]; omega))) rfl (fun _ => trivial)
  · refine aw_reg [(4, .call [(true, Sv t.Label)] true (Bv false))] [0, 38] [] [.ptr false [Sv t.Label, slFeat false t.Base, slFeat false t.Feats, I t.Count], Bv true] [] [Con Try.prog 98 [Sv t.Label] true (Bv false) ∧ ((Sv t.Label : AV) = Sv t.Label) ∧ True] (by kernel_rfl) hB ⟨⟨(con_bool h1 (specIsLabel_ok t.Label ok)), rfl, trivial⟩, trivial⟩ ?_
    refine ae_then ?_
    refine aw_true rfl ?_
    refine aw_seq ?_
    refine aw_reg [] [2] [] [Bv false] [] [] (by kernel_rfl) hB trivial ?_
    refine ae_then ?_
    refine aw_ret ?_
    refine ae_ret_then ?_
    refine ae_ret hB (Bv false) (by kernel_rfl) (.inl (by first | rfl | (refine congrArg Bv ?_; simp [okTrained', inB, *]; done) | (refine congrArg Bv ?_; simp [okTrained', inB, *]; omega) | (refine congrArg Bv ?_; simp_all [okTrained', inB]; done) | (refine congrArg Bv ?_; simp_all [okTrained', inB]; omega))) rfl (fun _ => trivial)


def okWriter' (w : Writer) : Bool := inB w.Band 0 72 && (decide ((w.Trained.length : Int) ≤ 40) && allN w.Trained.length (fun j => okTrained' (at_ w.Trained j)))

-- spec.l24Writer
theorem l24Writer_ok (w : Writer) (ok : okWriter w) : Con Try.prog 64 [.ptr false [I w.Band, slTrained false w.Trained]] true (Bv (okWriter' w)) := by
  refine fn_ok (fn := Try.f64) (nt := 34) Try.func64 rfl rfl rfl rfl (by simp [taggedL, tagged, tagTrained]) fun B hB => ?_
  refine aw_lens (x := .ptr false [I w.Band, slTrained false w.Trained]) 0 rfl (fun len_w => ?_)
  simp [LenOK, LenL, cFeat, cTrained, fFeat, fTrained, slFeat, slTrained] at len_w
  refine aw_seq ?_
  refine aw_reg [] [0] [] [.ptr false [I w.Band, slTrained false w.Trained]] [] [] (by kernel_rfl) hB trivial ?_
  refine ae_then ?_
  refine aw_seq ?_
  refine aw_seq ?_
  refine aw_reg [] [0, 3] [] [.ptr false [I w.Band, slTrained false w.Trained], I 0] [] [] (by kernel_rfl) hB trivial ?_
  refine ae_then ?_
  refine aw_block ?_
  refine aw_loop (fun n σ => ∃ (i : Int), n = ((w.Trained.length : Int) - i).toNat ∧ (0 ≤ i ∧ i ≤ (w.Trained.length : Int)) ∧ (∀ j : Nat, (j : Int) < i → okTrained' (at_ w.Trained j) = true) ∧ σ = mkS [(0, .ptr false [I w.Band, slTrained false w.Trained]), (3, I i)] []) (((w.Trained.length : Int) - 0).toNat) ⟨0, rfl, (by omega), (by intro j hj; omega), rfl⟩ (fun n σ hI => ?_)
  obtain ⟨i, rfl, hi0, hall0, rfl⟩ := hI
  refine aw_seq ?_
  refine aw_seq ?_
  by_cases h1 : i < (w.Trained.length : Int)
  · have hi : i.toNat < w.Trained.length := by omega
    refine aw_reg [(6, .dec true)] [0, 3, 10] [] [.ptr false [I w.Band, slTrained false w.Trained], I i, Bv true] [] [i < (w.Trained.length : Int)] (by kernel_rfl) hB ⟨h1, trivial⟩ ?_
    refine ae_then ?_
    refine aw_true rfl ?_
    refine aw_skip ?_
    refine ae_then ?_
    refine aw_seq ?_
    refine aw_block ?_
    refine aw_seq ?_
    rcases Bool.eq_false_or_eq_true (okTrained' (at_ w.Trained i.toNat)) with h2 | h2
    · refine aw_reg [(6, .call [(true, .ptr false [Sv ((at_ w.Trained i.toNat).Label), slFeat false ((at_ w.Trained i.toNat).Base), slFeat false ((at_ w.Trained i.toNat).Feats), I ((at_ w.Trained i.toNat).Count)])] true (Bv true))] [0, 3, 20] [] [.ptr false [I w.Band, slTrained false w.Trained], I i, Bv false] [] [(0 : Int) ≤ i ∧ i < (w.Trained.length : Int), Con Try.prog 53 [.ptr false [Sv ((at_ w.Trained i.toNat).Label), slFeat false ((at_ w.Trained i.toNat).Base), slFeat false ((at_ w.Trained i.toNat).Feats), I ((at_ w.Trained i.toNat).Count)]] true (Bv true) ∧ ((.ptr false [Sv ((at_ w.Trained i.toNat).Label), slFeat false ((at_ w.Trained i.toNat).Base), slFeat false ((at_ w.Trained i.toNat).Feats), I ((at_ w.Trained i.toNat).Count)] : AV) = .ptr false [Sv ((at_ w.Trained i.toNat).Label), slFeat false ((at_ w.Trained i.toNat).Base), slFeat false ((at_ w.Trained i.toNat).Feats), I ((at_ w.Trained i.toNat).Count)]) ∧ True] (by kernel_rfl) hB ⟨⟨(by omega), (by omega)⟩, ⟨(con_bool h2 (l24Ok_ok (at_ w.Trained i.toNat) (ok _ (at_mem hi)))), rfl, trivial⟩, trivial⟩ ?_
      refine ae_then ?_
      refine aw_false rfl ?_
      refine aw_skip ?_
      refine ae_block 1 ?_
      refine ae_then ?_
      refine aw_reg [] [0, 3] [] [.ptr false [I w.Band, slTrained false w.Trained], I (i + 1)] [] [inR .i64 (i + 1)] (by kernel_rfl) hB ⟨(inR_i64 (by omega) (by omega)), trivial⟩ ?_
      exact ae_again _ (by omega) ⟨(i + 1), rfl, (by omega), (by intro j hj; by_cases ej : j = i.toNat; (subst ej; assumption); exact hall0 j (by omega)), rfl⟩
    · have hall : allN w.Trained.length (fun j => okTrained' (at_ w.Trained j)) = false := allN_not hi h2
      refine aw_reg [(6, .call [(true, .ptr false [Sv ((at_ w.Trained i.toNat).Label), slFeat false ((at_ w.Trained i.toNat).Base), slFeat false ((at_ w.Trained i.toNat).Feats), I ((at_ w.Trained i.toNat).Count)])] true (Bv false))] [0, 3, 20] [] [.ptr false [I w.Band, slTrained false w.Trained], I i, Bv true] [] [(0 : Int) ≤ i ∧ i < (w.Trained.length : Int), Con Try.prog 53 [.ptr false [Sv ((at_ w.Trained i.toNat).Label), slFeat false ((at_ w.Trained i.toNat).Base), slFeat false ((at_ w.Trained i.toNat).Feats), I ((at_ w.Trained i.toNat).Count)]] true (Bv false) ∧ ((.ptr false [Sv ((at_ w.Trained i.toNat).Label), slFeat false ((at_ w.Trained i.toNat).Base), slFeat false ((at_ w.Trained i.toNat).Feats), I ((at_ w.Trained i.toNat).Count)] : AV) = .ptr false [Sv ((at_ w.Trained i.toNat).Label), slFeat false ((at_ w.Trained i.toNat).Base), slFeat false ((at_ w.Trained i.toNat).Feats), I ((at_ w.Trained i.toNat).Count)]) ∧ True] (by kernel_rfl) hB ⟨⟨(by omega), (by omega)⟩, ⟨(con_bool h2 (l24Ok_ok (at_ w.Trained i.toNat) (ok _ (at_mem hi)))), rfl, trivial⟩, trivial⟩ ?_
      refine ae_then ?_
      refine aw_true rfl ?_
      refine aw_seq ?_
      refine aw_reg [] [2] [] [Bv false] [] [] (by kernel_rfl) hB trivial ?_
      refine ae_then ?_
      refine aw_ret ?_
      refine ae_ret_block (ae_ret_then (ae_ret_then (ae_ret_block (ae_ret_then ?_))))
      refine ae_ret hB (Bv false) (by kernel_rfl) (.inl (by first | rfl | (refine congrArg Bv ?_; simp [okWriter', inB, *]; done) | (refine congrArg Bv ?_; simp [okWriter', inB, *]; omega) | (refine congrArg Bv ?_; simp_all [okWriter', inB]; done) | (refine congrArg Bv ?_; simp_all [okWriter', inB]; omega))) rfl (fun _ => trivial)
  · have hall : allN w.Trained.length (fun j => okTrained' (at_ w.Trained j)) = true := allN_at (fun j hj => hall0 j (by omega))
    refine aw_reg [(6, .dec false)] [0, 3, 10] [] [.ptr false [I w.Band, slTrained false w.Trained], I i, Bv false] [] [¬ (i < (w.Trained.length : Int))] (by kernel_rfl) hB ⟨h1, trivial⟩ ?_
    refine ae_then ?_
    refine aw_false rfl ?_
    refine aw_exit ?_
    refine ae_exit_then ?_
    refine ae_exit_then ?_
    refine ae_exit_same ?_
    refine ae_then ?_
    refine aw_seq ?_
    rcases Bool.eq_false_or_eq_true (inB w.Band 0 72) with h3 | h3
    · refine aw_reg [(4, .call [(true, I w.Band), (true, I 0), (true, I 72)] true (Bv true))] [2] [] [Bv (decide ((w.Trained.length : Int) ≤ 40))] [] [Con Try.prog 90 [I w.Band, I 0, I 72] true (Bv true) ∧ ((I w.Band : AV) = I w.Band) ∧ ((I 0 : AV) = I 0) ∧ ((I 72 : AV) = I 72) ∧ True] (by kernel_rfl) hB ⟨⟨(con_bool h3 (l00In_ok w.Band 0 72)), rfl, rfl, rfl, trivial⟩, trivial⟩ ?_
      refine ae_then ?_
      refine aw_ret ?_
      refine ae_ret hB (Bv (decide ((w.Trained.length : Int) ≤ 40))) (by kernel_rfl) (.inl (by first | rfl | (refine congrArg Bv ?_; simp [okWriter', inB, *]; done) | (refine congrArg Bv ?_; simp [okWriter', inB, *]; omega) | (refine congrArg Bv ?_; simp_all [okWriter', inB]; done) | (refine congrArg Bv ?_; simp_all [okWriter', inB]; omega))) rfl (fun _ => trivial)
    · refine aw_reg [(4, .call [(true, I w.Band), (true, I 0), (true, I 72)] true (Bv false))] [2] [] [Bv false] [] [Con Try.prog 90 [I w.Band, I 0, I 72] true (Bv false) ∧ ((I w.Band : AV) = I w.Band) ∧ ((I 0 : AV) = I 0) ∧ ((I 72 : AV) = I 72) ∧ True] (by kernel_rfl) hB ⟨⟨(con_bool h3 (l00In_ok w.Band 0 72)), rfl, rfl, rfl, trivial⟩, trivial⟩ ?_
      refine ae_then ?_
      refine aw_ret ?_
      refine ae_ret hB (Bv false) (by kernel_rfl) (.inl (by first | rfl | (refine congrArg Bv ?_; simp [okWriter', inB, *]; done) | (refine congrArg Bv ?_; simp [okWriter', inB, *]; omega) | (refine congrArg Bv ?_; simp_all [okWriter', inB]; done) | (refine congrArg Bv ?_; simp_all [okWriter', inB]; omega))) rfl (fun _ => trivial)


-- spec.ValidWriter
theorem specValidWriter_ok (w : Writer) (ok_w : okWriter w) : Con Try.prog 25 [.agg [I w.Band, slTrained false w.Trained]] true (Bv (okWriter' w)) := by
  refine fn_ok (fn := Try.f25) (nt := 4) Try.func25 rfl rfl rfl rfl (by simp [taggedL, tagged, tagTrained]) fun B hB => ?_
  refine aw_lens (x := .agg [I w.Band, slTrained false w.Trained]) 0 rfl (fun len_w => ?_)
  simp [LenOK, LenL, cFeat, cTrained, fFeat, fTrained, slFeat, slTrained] at len_w
  refine aw_seq ?_
  refine aw_reg [(0, .new 1)] [1] [1] [.ref 1 0] [some (.box [I w.Band, slTrained false w.Trained])] [] (by kernel_rfl) hB trivial ?_
  refine ae_then ?_
  refine aw_seq ?_
  refine aw_reg [(0, .call [(false, .ptr false [I w.Band, slTrained false w.Trained])] true (Bv (okWriter' w)))] [2] [] [Bv (okWriter' w)] [] [Con Try.prog 64 [.ptr false [I w.Band, slTrained false w.Trained]] true (Bv (okWriter' w)) ∧ ((false = true → true = true) ∧ AV.idsL [I w.Band, slTrained false w.Trained] = [] ∧ (valOf (I w.Band) = valOf (I w.Band)) ∧ ((false = true → false = true) ∧ 4 = 4 ∧ w.Trained.length = w.Trained.length ∧ ∀ i, i < w.Trained.length → (fTrained false w.Trained) i = (fTrained false w.Trained) i ∨ (AV.idsL ((fTrained false w.Trained) i) = [] ∧ leL (fun _ => none) false ((fTrained false w.Trained) i) ((fTrained false w.Trained) i))) ∧ ([] : List AV) = []) ∧ True] (by kernel_rfl) hB ⟨⟨(l24Writer_ok w ok_w), ⟨(fun h => by cases h), rfl, ⟨rfl, ⟨⟨(fun h => by cases h), rfl, rfl, fun i _ => .inl rfl⟩, rfl⟩⟩⟩, trivial⟩, trivial⟩ ?_
  refine ae_then ?_
  refine aw_ret ?_
  refine ae_ret hB (Bv (okWriter' w)) (by kernel_rfl) (.inl rfl) rfl (fun _ => trivial)


-- impl.within
theorem within_ok (n : Int) (low : Int) (high : Int) : Con Try.prog 66 [I n, I low, I high] true (Bv (inB n low high)) := by
  refine fn_ok (fn := Try.f66) (nt := 15) Try.func66 rfl rfl rfl rfl (by simp [taggedL, tagged]) fun B hB => ?_
  refine aw_seq ?_
  refine aw_reg [] [0, 1, 2] [] [I n, I low, I high] [] [] (by kernel_rfl) hB trivial ?_
  refine ae_then ?_
  refine aw_seq ?_
  by_cases h1 : low ≤ n
  · refine aw_reg [(2, .dec true)] [6] [] [Bv (decide (n ≤ high))] [] [low ≤ n] (by kernel_rfl) hB ⟨h1, trivial⟩ ?_
    refine ae_then ?_
    refine aw_ret ?_
    refine ae_ret hB (Bv (decide (n ≤ high))) (by kernel_rfl) (.inl (by first | rfl | (refine congrArg Bv ?_; simp [inB, *]; done) | (refine congrArg Bv ?_; simp [inB, *]; omega) | (refine congrArg Bv ?_; simp_all [inB]; done) | (refine congrArg Bv ?_; simp_all [inB]; omega))) rfl (fun _ => trivial)
  · refine aw_reg [(2, .dec false)] [6] [] [Bv false] [] [¬ (low ≤ n)] (by kernel_rfl) hB ⟨h1, trivial⟩ ?_
    refine ae_then ?_
    refine aw_ret ?_
    refine ae_ret hB (Bv false) (by kernel_rfl) (.inl (by first | rfl | (refine congrArg Bv ?_; simp [inB, *]; done) | (refine congrArg Bv ?_; simp [inB, *]; omega) | (refine congrArg Bv ?_; simp_all [inB]; done) | (refine congrArg Bv ?_; simp_all [inB]; omega))) rfl (fun _ => trivial)


-- impl.isLetter
theorem isLetter_ok (c : Int) : Con Try.prog 137 [.val (.int .u8 c)] true (Bv (inB c 97 122)) := by
  refine fn_ok (fn := Try.f137) (nt := 9) Try.func137 rfl rfl rfl rfl (by simp [taggedL, tagged]) fun B hB => ?_
  refine aw_seq ?_
  refine aw_reg [] [0] [] [.val (.int .u8 c)] [] [] (by kernel_rfl) hB trivial ?_
  refine ae_then ?_
  refine aw_seq ?_
  by_cases h1 : 97 ≤ c
  · refine aw_reg [(1, .dec true)] [2] [] [Bv (decide (c ≤ 122))] [] [97 ≤ c] (by kernel_rfl) hB ⟨h1, trivial⟩ ?_
    refine ae_then ?_
    refine aw_ret ?_
    refine ae_ret hB (Bv (decide (c ≤ 122))) (by kernel_rfl) (.inl (by first | rfl | (refine congrArg Bv ?_; simp [inB, *]; done) | (refine congrArg Bv ?_; simp [inB, *]; omega) | (refine congrArg Bv ?_; simp_all [inB]; done) | (refine congrArg Bv ?_; simp_all [inB]; omega))) rfl (fun _ => trivial)
  · refine aw_reg [(1, .dec false)] [2] [] [Bv false] [] [¬ (97 ≤ c)] (by kernel_rfl) hB ⟨h1, trivial⟩ ?_
    refine ae_then ?_
    refine aw_ret ?_
    refine ae_ret hB (Bv false) (by kernel_rfl) (.inl (by first | rfl | (refine congrArg Bv ?_; simp [inB, *]; done) | (refine congrArg Bv ?_; simp [inB, *]; omega) | (refine congrArg Bv ?_; simp_all [inB]; done) | (refine congrArg Bv ?_; simp_all [inB]; omega))) rfl (fun _ => trivial)


/-- Whether a byte occurs. -/
def hasB (s : ByteArray) (n : Int) : Bool := s.data.toList.any fun x => decide ((x.toNat : Int) = n)
theorem one_byte {t : ByteArray} (h : t.size = 1) : ∃ c, t = ⟨#[c]⟩ := by
  obtain ⟨⟨l⟩⟩ := t
  cases l with
  | nil => cases h
  | cons c l =>
    cases l with
    | nil => exact ⟨c, rfl⟩
    | cons d l => simp [ByteArray.size] at h
theorem has_index (l : List UInt8) (c : UInt8) : decide (0 ≤ Lib.indexByte l c) = l.any fun x => decide ((x.toNat : Int) = bAt ⟨#[c]⟩ 0) := by
  rw [← Lib.contains_iff_indexByte, Bool.eq_iff_iff]
  simp [bAt, List.contains_iff_mem]
  constructor
  · intro h; exact ⟨c, h, rfl⟩
  · rintro ⟨x, hx, e⟩
    have : x = c := UInt8.toNat_inj.1 (by omega)
    exact this ▸ hx

-- strings.Contains
theorem contains_ok (s t : ByteArray) (h : t.size = 1) : Con Try.prog 138 [Sv s, Sv t] true (Bv (hasB s (bAt t 0))) := by
  obtain ⟨c, rfl⟩ := one_byte h
  refine con_of_calls (vals := [.string s, .string ⟨#[c]⟩]) fun w => ?_
  refine (Try.strings_Contains_one s c w).mono ?_
  rintro e w' ⟨rfl, rfl⟩
  refine ⟨?_, Below.refl _ _⟩
  simp only [has_index, hasB]


-- impl.IsLabel
theorem implIsLabel_ok (s : ByteArray) (ok : s.size ≤ 9223372036854775807) : Con Try.prog 100 [Sv s] true (Bv (okLabel s)) := by
  refine fn_ok (fn := Try.f100) (nt := 15) Try.func100 rfl rfl rfl rfl (by simp [taggedL, tagged]) fun B hB => ?_
  refine aw_seq ?_
  refine aw_reg [] [0] [] [Sv s] [] [] (by kernel_rfl) hB trivial ?_
  refine ae_then ?_
  refine aw_seq ?_
  by_cases h1 : (s.size : Int) = 1
  · rcases Bool.eq_false_or_eq_true (inB (bAt s 0) 97 122) with h2 | h2
    · refine aw_reg [(2, .dec true), (6, .call [(true, .val (.int .u8 (bAt s 0)))] true (Bv true))] [2] [] [Bv true] [] [(s.size : Int) = 1, (0 : Int) ≤ 0 ∧ 0 < (s.size : Int), Con Try.prog 137 [.val (.int .u8 (bAt s 0))] true (Bv true) ∧ ((.val (.int .u8 (bAt s 0)) : AV) = .val (.int .u8 (bAt s 0))) ∧ True] (by kernel_rfl) hB ⟨h1, ⟨(by omega), (by omega)⟩, ⟨(con_bool h2 (isLetter_ok (bAt s 0))), rfl, trivial⟩, trivial⟩ ?_
      refine ae_then ?_
      refine aw_ret ?_
      refine ae_ret hB (Bv true) (by kernel_rfl) (.inl (by first | (refine congrArg Bv ?_; simp_all [okLabel, labB, inB]; done) | (refine congrArg Bv ?_; have hbd := bAt_bd s 0; rw [Bool.eq_iff_iff]; simp_all [okLabel, hasB, labB, inB]; omega))) rfl (fun _ => trivial)
    · refine aw_reg [(2, .dec true), (6, .call [(true, .val (.int .u8 (bAt s 0)))] true (Bv false)), (9, .call [(true, Sv (⟨#[48, 49, 50, 51, 52, 53, 54, 55, 56, 57, 43, 45, 42, 47, 61, 40, 41, 46, 44]⟩ : ByteArray)), (true, Sv s)] true (Bv (hasB (⟨#[48, 49, 50, 51, 52, 53, 54, 55, 56, 57, 43, 45, 42, 47, 61, 40, 41, 46, 44]⟩ : ByteArray) (bAt s 0))))] [2] [] [Bv (hasB (⟨#[48, 49, 50, 51, 52, 53, 54, 55, 56, 57, 43, 45, 42, 47, 61, 40, 41, 46, 44]⟩ : ByteArray) (bAt s 0))] [] [(s.size : Int) = 1, (0 : Int) ≤ 0 ∧ 0 < (s.size : Int), Con Try.prog 137 [.val (.int .u8 (bAt s 0))] true (Bv false) ∧ ((.val (.int .u8 (bAt s 0)) : AV) = .val (.int .u8 (bAt s 0))) ∧ True, Con Try.prog 138 [Sv (⟨#[48, 49, 50, 51, 52, 53, 54, 55, 56, 57, 43, 45, 42, 47, 61, 40, 41, 46, 44]⟩ : ByteArray), Sv s] true (Bv (hasB (⟨#[48, 49, 50, 51, 52, 53, 54, 55, 56, 57, 43, 45, 42, 47, 61, 40, 41, 46, 44]⟩ : ByteArray) (bAt s 0))) ∧ ((Sv (⟨#[48, 49, 50, 51, 52, 53, 54, 55, 56, 57, 43, 45, 42, 47, 61, 40, 41, 46, 44]⟩ : ByteArray) : AV) = Sv (⟨#[48, 49, 50, 51, 52, 53, 54, 55, 56, 57, 43, 45, 42, 47, 61, 40, 41, 46, 44]⟩ : ByteArray)) ∧ ((Sv s : AV) = Sv s) ∧ True] (by kernel_rfl) hB ⟨h1, ⟨(by omega), (by omega)⟩, ⟨(con_bool h2 (isLetter_ok (bAt s 0))), rfl, trivial⟩, ⟨(contains_ok (⟨#[48, 49, 50, 51, 52, 53, 54, 55, 56, 57, 43, 45, 42, 47, 61, 40, 41, 46, 44]⟩ : ByteArray) s (by omega)), rfl, rfl, trivial⟩, trivial⟩ ?_
      refine ae_then ?_
      refine aw_ret ?_
      refine ae_ret hB (Bv (hasB (⟨#[48, 49, 50, 51, 52, 53, 54, 55, 56, 57, 43, 45, 42, 47, 61, 40, 41, 46, 44]⟩ : ByteArray) (bAt s 0))) (by kernel_rfl) (.inl (by first | (refine congrArg Bv ?_; simp_all [okLabel, labB, inB]; done) | (refine congrArg Bv ?_; have hbd := bAt_bd s 0; rw [Bool.eq_iff_iff]; simp_all [okLabel, hasB, labB, inB]; omega))) rfl (fun _ => trivial)
  · refine aw_reg [(2, .dec false)] [2] [] [Bv false] [] [¬ ((s.size : Int) = 1)] (by kernel_rfl) hB ⟨h1, trivial⟩ ?_
    refine ae_then ?_
    refine aw_ret ?_
    refine ae_ret hB (Bv false) (by kernel_rfl) (.inl (by first | (refine congrArg Bv ?_; simp_all [okLabel, labB, inB]; done) | (refine congrArg Bv ?_; have hbd := bAt_bd s 0; rw [Bool.eq_iff_iff]; simp_all [okLabel, hasB, labB, inB]; omega))) rfl (fun _ => trivial)


-- impl.ValidFeat
theorem ValidFeat_ok (f : Feat) : Con Try.prog 155 [.agg [I f.X, I f.Y, I f.D]] true (Bv (okF f)) := by
  refine fn_ok (fn := Try.f155) (nt := 16) Try.func155 rfl rfl rfl rfl (by simp [taggedL, tagged]) fun B hB => ?_
  refine aw_seq ?_
  refine aw_reg [(0, .new 1)] [1] [1] [.ref 1 0] [some (.box [I f.X, I f.Y, I f.D])] [] (by kernel_rfl) hB trivial ?_
  refine ae_then ?_
  refine aw_seq ?_
  rcases Bool.eq_false_or_eq_true (inB f.X 0 255) with h1 | h1
  · rcases Bool.eq_false_or_eq_true (inB f.Y 0 255) with h2 | h2
    · refine aw_reg [(2, .call [(true, I f.X), (true, I 0), (true, I 255)] true (Bv true)), (6, .call [(true, I f.Y), (true, I 0), (true, I 255)] true (Bv true)), (11, .call [(true, I f.D), (true, I 0), (true, I 7)] true (Bv (inB f.D 0 7)))] [2] [] [Bv (inB f.D 0 7)] [] [Con Try.prog 66 [I f.X, I 0, I 255] true (Bv true) ∧ ((I f.X : AV) = I f.X) ∧ ((I 0 : AV) = I 0) ∧ ((I 255 : AV) = I 255) ∧ True, Con Try.prog 66 [I f.Y, I 0, I 255] true (Bv true) ∧ ((I f.Y : AV) = I f.Y) ∧ ((I 0 : AV) = I 0) ∧ ((I 255 : AV) = I 255) ∧ True, Con Try.prog 66 [I f.D, I 0, I 7] true (Bv (inB f.D 0 7)) ∧ ((I f.D : AV) = I f.D) ∧ ((I 0 : AV) = I 0) ∧ ((I 7 : AV) = I 7) ∧ True] (by kernel_rfl) hB ⟨⟨(con_bool h1 (within_ok f.X 0 255)), rfl, rfl, rfl, trivial⟩, ⟨(con_bool h2 (within_ok f.Y 0 255)), rfl, rfl, rfl, trivial⟩, ⟨(within_ok f.D 0 7), rfl, rfl, rfl, trivial⟩, trivial⟩ ?_
      refine ae_then ?_
      refine aw_ret ?_
      refine ae_ret hB (Bv (inB f.D 0 7)) (by kernel_rfl) (.inl (by first | rfl | (refine congrArg Bv ?_; simp [okF, *]; done) | (refine congrArg Bv ?_; simp [okF, *]; omega) | (refine congrArg Bv ?_; simp_all [okF]; done) | (refine congrArg Bv ?_; simp_all [okF]; omega))) rfl (fun _ => trivial)
    · refine aw_reg [(2, .call [(true, I f.X), (true, I 0), (true, I 255)] true (Bv true)), (6, .call [(true, I f.Y), (true, I 0), (true, I 255)] true (Bv false))] [2] [] [Bv false] [] [Con Try.prog 66 [I f.X, I 0, I 255] true (Bv true) ∧ ((I f.X : AV) = I f.X) ∧ ((I 0 : AV) = I 0) ∧ ((I 255 : AV) = I 255) ∧ True, Con Try.prog 66 [I f.Y, I 0, I 255] true (Bv false) ∧ ((I f.Y : AV) = I f.Y) ∧ ((I 0 : AV) = I 0) ∧ ((I 255 : AV) = I 255) ∧ True] (by kernel_rfl) hB ⟨⟨(con_bool h1 (within_ok f.X 0 255)), rfl, rfl, rfl, trivial⟩, ⟨(con_bool h2 (within_ok f.Y 0 255)), rfl, rfl, rfl, trivial⟩, trivial⟩ ?_
      refine ae_then ?_
      refine aw_ret ?_
      refine ae_ret hB (Bv false) (by kernel_rfl) (.inl (by first | rfl | (refine congrArg Bv ?_; simp [okF, *]; done) | (refine congrArg Bv ?_; simp [okF, *]; omega) | (refine congrArg Bv ?_; simp_all [okF]; done) | (refine congrArg Bv ?_; simp_all [okF]; omega))) rfl (fun _ => trivial)
  · refine aw_reg [(2, .call [(true, I f.X), (true, I 0), (true, I 255)] true (Bv false))] [2] [] [Bv false] [] [Con Try.prog 66 [I f.X, I 0, I 255] true (Bv false) ∧ ((I f.X : AV) = I f.X) ∧ ((I 0 : AV) = I 0) ∧ ((I 255 : AV) = I 255) ∧ True] (by kernel_rfl) hB ⟨⟨(con_bool h1 (within_ok f.X 0 255)), rfl, rfl, rfl, trivial⟩, trivial⟩ ?_
    refine ae_then ?_
    refine aw_ret ?_
    refine ae_ret hB (Bv false) (by kernel_rfl) (.inl (by first | rfl | (refine congrArg Bv ?_; simp [okF, *]; done) | (refine congrArg Bv ?_; simp [okF, *]; omega) | (refine congrArg Bv ?_; simp_all [okF]; done) | (refine congrArg Bv ?_; simp_all [okF]; omega))) rfl (fun _ => trivial)


-- impl.areFeats$1
theorem areFeats1_ok (f : Feat) : Con Try.prog 154 [.agg [I f.X, I f.Y, I f.D]] true (Bv (!(okF f))) := by
  refine fn_ok (fn := Try.f154) (nt := 6) Try.func154 rfl rfl rfl rfl (by simp [taggedL, tagged]) fun B hB => ?_
  refine aw_seq ?_
  refine aw_reg [(0, .new 1)] [1] [1] [.ref 1 0] [some (.box [I f.X, I f.Y, I f.D])] [] (by kernel_rfl) hB trivial ?_
  refine ae_then ?_
  refine aw_seq ?_
  refine aw_reg [(1, .call [(true, .agg [I f.X, I f.Y, I f.D])] true (Bv (okF f)))] [2] [] [Bv (!(okF f))] [] [Con Try.prog 155 [.agg [I f.X, I f.Y, I f.D]] true (Bv (okF f)) ∧ ((.agg [I f.X, I f.Y, I f.D] : AV) = .agg [I f.X, I f.Y, I f.D]) ∧ True] (by kernel_rfl) hB ⟨⟨(ValidFeat_ok f), rfl, trivial⟩, trivial⟩ ?_
  refine ae_then ?_
  refine aw_ret ?_
  refine ae_ret hB (Bv (!(okF f))) (by kernel_rfl) (.inl rfl) rfl (fun _ => trivial)


/-- The first number below n that p holds of, or -1. -/
def firstN (n : Nat) (p : Nat → Bool) : Int := match (List.range n).find? p with
  | some i => i
  | none => -1
theorem firstN_hit {n : Nat} {p : Nat → Bool} {k : Nat} (hk : k < n) (hp : p k = true) (hn : ∀ i, i < k → p i = false) : firstN n p = k := by
  have h : (List.range n).find? p = some k := by
    rw [List.find?_range_eq_some]
    exact ⟨hp, List.mem_range.2 hk, fun j hj => by simpa using hn j hj⟩
  simp [firstN, h]
theorem firstN_none {n : Nat} {p : Nat → Bool} (hn : ∀ i, i < n → p i = false) : firstN n p = -1 := by
  have h : (List.range n).find? p = none := by
    rw [List.find?_range_eq_none]
    intro i hi; simpa using hn i hi
  simp [firstN, h]
theorem firstN_cases (n : Nat) (p : Nat → Bool) : (firstN n p = -1 ∧ ∀ i, i < n → p i = false) ∨ ∃ k : Nat, firstN n p = k ∧ k < n ∧ p k = true ∧ ∀ i, i < k → p i = false := by
  by_cases h : ∃ k, k < n ∧ p k = true
  · right
    obtain ⟨k, hk, hp⟩ := h
    cases e : (List.range n).find? p with
    | none => rw [List.find?_range_eq_none] at e; exact absurd hp (by simpa using e k hk)
    | some i =>
      have e' := e
      rw [List.find?_range_eq_some] at e
      exact ⟨i, by simp [firstN, e'], List.mem_range.1 e.2.1, e.1, fun j hj => by simpa using e.2.2 j hj⟩
  · left
    have h' : ∀ i, i < n → p i = false := fun i hi => by rw [← Bool.not_eq_true]; exact fun hp => h ⟨i, hi, hp⟩
    exact ⟨firstN_none h', h'⟩
theorem firstN_any (n : Nat) (p : Nat → Bool) : decide (0 ≤ firstN n p) = anyN n p := by
  rcases firstN_cases n p with ⟨h1, h2⟩ | ⟨k, h1, h2, h3, _⟩
  · rw [h1, anyN_none h2]; decide
  · rw [h1, anyN_at h2 h3]; simp

-- impl.areFeats
theorem containsFeat_ok_idx (s : List Feat) : Con Try.prog 166 [slFeat false s, .fn 154 []] true (I (firstN s.length (fun j => (!(okF (at_ s j)))))) := by
  refine fn_ok (fn := Try.f166) (nt := 19) Try.func166 rfl rfl rfl rfl (by simp [taggedL, tagged, tagFeat]) fun B hB => ?_
  refine aw_lens (x := slFeat false s) 0 rfl (fun len_s => ?_)
  simp [LenOK, LenL, cFeat, fFeat, slFeat] at len_s
  refine aw_seq ?_
  refine aw_reg [] [0, 1] [] [slFeat false s, .fn 154 []] [] [] (by kernel_rfl) hB trivial ?_
  refine ae_then ?_
  refine aw_seq ?_
  refine aw_seq ?_
  refine aw_reg [] [0, 1, 7, 8] [] [slFeat false s, .fn 154 [], I (s.length : Int), I 0] [] [] (by kernel_rfl) hB trivial ?_
  refine ae_then ?_
  refine aw_block ?_
  refine aw_loop (fun n σ => ∃ (t8 : Int), n = ((s.length : Int) - t8).toNat ∧ (0 ≤ t8 ∧ t8 ≤ (s.length : Int)) ∧ (∀ j : Nat, (j : Int) < t8 → (!(okF (at_ s j))) = false) ∧ σ = mkS [(0, slFeat false s), (1, .fn 154 []), (7, I (s.length : Int)), (8, I t8)] []) (((s.length : Int) - 0).toNat) ⟨0, rfl, (by omega), (by intro j hj; omega), rfl⟩ (fun n σ hI => ?_)
  obtain ⟨t8, rfl, hi0, hall0, rfl⟩ := hI
  refine aw_seq ?_
  by_cases h1 : t8 < (s.length : Int)
  · have hi : t8.toNat < s.length := by omega
    refine aw_reg [(0, .dec true)] [0, 1, 7, 8, 9] [] [slFeat false s, .fn 154 [], I (s.length : Int), I t8, Bv true] [] [t8 < (s.length : Int)] (by kernel_rfl) hB ⟨h1, trivial⟩ ?_
    refine ae_then ?_
    refine aw_seq ?_
    refine aw_true rfl ?_
    refine aw_skip ?_
    refine ae_then ?_
    refine aw_seq ?_
    refine aw_block ?_
    refine aw_seq ?_
    refine aw_reg [] [0, 1, 5, 7, 8] [] [slFeat false s, .fn 154 [], I t8, I (s.length : Int), I t8] [] [] (by kernel_rfl) hB trivial ?_
    refine ae_then ?_
    refine aw_seq ?_
    rcases Bool.eq_false_or_eq_true (!(okF (at_ s t8.toNat))) with h2 | h2
    · have hfin : firstN s.length (fun j => (!(okF (at_ s j)))) = t8.toNat := firstN_hit hi h2 (fun j hj => hall0 j (by omega))
      refine aw_reg [(5, .call [(true, .agg [I ((at_ s t8.toNat).X), I ((at_ s t8.toNat).Y), I ((at_ s t8.toNat).D)])] true (Bv true))] [0, 1, 5, 7, 8, 16] [] [slFeat false s, .fn 154 [], I t8, I (s.length : Int), I t8, Bv true] [] [(0 : Int) ≤ t8 ∧ t8 < (s.length : Int), Con Try.prog 154 [.agg [I ((at_ s t8.toNat).X), I ((at_ s t8.toNat).Y), I ((at_ s t8.toNat).D)]] true (Bv true) ∧ ((.agg [I ((at_ s t8.toNat).X), I ((at_ s t8.toNat).Y), I ((at_ s t8.toNat).D)] : AV) = .agg [I ((at_ s t8.toNat).X), I ((at_ s t8.toNat).Y), I ((at_ s t8.toNat).D)]) ∧ True] (by kernel_rfl) hB ⟨⟨(by omega), (by omega)⟩, ⟨(con_bool h2 (areFeats1_ok (at_ s t8.toNat))), rfl, trivial⟩, trivial⟩ ?_
      refine ae_then ?_
      refine aw_true rfl ?_
      refine aw_seq ?_
      refine aw_reg [] [4] [] [I t8] [] [] (by kernel_rfl) hB trivial ?_
      refine ae_then ?_
      refine aw_ret ?_
      refine ae_ret_block (ae_ret_then (ae_ret_then (ae_ret_block (ae_ret_then ?_))))
      refine ae_ret hB (I t8) (by kernel_rfl) (.inl (by refine congrArg I ?_; first | (rw [hfin]; done) | (rw [hfin]; omega))) rfl (fun _ => trivial)
    · refine aw_reg [(5, .call [(true, .agg [I ((at_ s t8.toNat).X), I ((at_ s t8.toNat).Y), I ((at_ s t8.toNat).D)])] true (Bv false))] [0, 1, 5, 7, 8, 16] [] [slFeat false s, .fn 154 [], I t8, I (s.length : Int), I t8, Bv false] [] [(0 : Int) ≤ t8 ∧ t8 < (s.length : Int), Con Try.prog 154 [.agg [I ((at_ s t8.toNat).X), I ((at_ s t8.toNat).Y), I ((at_ s t8.toNat).D)]] true (Bv false) ∧ ((.agg [I ((at_ s t8.toNat).X), I ((at_ s t8.toNat).Y), I ((at_ s t8.toNat).D)] : AV) = .agg [I ((at_ s t8.toNat).X), I ((at_ s t8.toNat).Y), I ((at_ s t8.toNat).D)]) ∧ True] (by kernel_rfl) hB ⟨⟨(by omega), (by omega)⟩, ⟨(con_bool h2 (areFeats1_ok (at_ s t8.toNat))), rfl, trivial⟩, trivial⟩ ?_
      refine ae_then ?_
      refine aw_false rfl ?_
      refine aw_skip ?_
      refine ae_block 1 ?_
      refine ae_then ?_
      refine aw_reg [] [0, 1, 7, 8] [] [slFeat false s, .fn 154 [], I (s.length : Int), I (t8 + 1)] [] [inR .i64 (t8 + 1)] (by kernel_rfl) hB ⟨(inR_i64 (by omega) (by omega)), trivial⟩ ?_
      exact ae_again _ (by omega) ⟨(t8 + 1), rfl, (by omega), (by intro j hj; by_cases ej : j = t8.toNat; (subst ej; assumption); exact hall0 j (by omega)), rfl⟩
  · have hfin : firstN s.length (fun j => (!(okF (at_ s j)))) = -1 := firstN_none (fun j hj => hall0 j (by omega))
    refine aw_reg [(0, .dec false)] [0, 1, 7, 8, 9] [] [slFeat false s, .fn 154 [], I (s.length : Int), I t8, Bv false] [] [¬ (t8 < (s.length : Int))] (by kernel_rfl) hB ⟨h1, trivial⟩ ?_
    refine ae_then ?_
    refine aw_seq ?_
    refine aw_false rfl ?_
    refine aw_exit ?_
    refine ae_exit_then ?_
    refine ae_exit_then ?_
    refine ae_exit_same ?_
    refine ae_then ?_
    refine aw_seq ?_
    refine aw_reg [] [4] [] [I (-1)] [] [] (by kernel_rfl) hB trivial ?_
    refine ae_then ?_
    refine aw_ret ?_
    refine ae_ret hB (I (-1)) (by kernel_rfl) (.inl (by refine congrArg I ?_; first | (rw [hfin]; done) | (rw [hfin]; omega))) rfl (fun _ => trivial)

theorem containsFeat_ok (s : List Feat) : Con Try.prog 153 [slFeat false s, .fn 154 []] true (Bv (anyN s.length (fun j => (!(okF (at_ s j)))))) := by
  refine fn_ok (fn := Try.f153) (nt := 9) Try.func153 rfl rfl rfl rfl (by simp [taggedL, tagged, tagFeat]) fun B hB => ?_
  refine aw_lens (x := slFeat false s) 0 rfl (fun len_s => ?_)
  simp [LenOK, LenL, cFeat, fFeat, slFeat] at len_s
  refine aw_seq ?_
  refine aw_reg [] [0, 1] [] [slFeat false s, .fn 154 []] [] [] (by kernel_rfl) hB trivial ?_
  refine ae_then ?_
  refine aw_seq ?_
  refine aw_reg [(2, .call [(true, slFeat false s), (true, .fn 154 [])] true (I (firstN s.length (fun j => (!(okF (at_ s j)))))))] [4] [] [Bv (decide (0 ≤ (firstN s.length (fun j => (!(okF (at_ s j)))))))] [] [Con Try.prog 166 [slFeat false s, .fn 154 []] true (I (firstN s.length (fun j => (!(okF (at_ s j)))))) ∧ ((slFeat false s : AV) = slFeat false s) ∧ ((.fn 154 [] : AV) = .fn 154 []) ∧ True] (by kernel_rfl) hB ⟨⟨(containsFeat_ok_idx s), rfl, rfl, trivial⟩, trivial⟩ ?_
  refine ae_then ?_
  refine aw_ret ?_
  refine ae_ret hB (Bv (decide (0 ≤ (firstN s.length (fun j => (!(okF (at_ s j)))))))) (by kernel_rfl) (.inl (by exact congrArg Bv (firstN_any _ _))) rfl (fun _ => trivial)

theorem areFeats_ok (list : List Feat) (most : Int) : Con Try.prog 132 [slFeat false list, I most] true (Bv (okFeats list most)) := by
  refine fn_ok (fn := Try.f132) (nt := 19) Try.func132 rfl rfl rfl rfl (by simp [taggedL, tagged, tagFeat]) fun B hB => ?_
  refine aw_lens (x := slFeat false list) 0 rfl (fun len_list => ?_)
  simp [LenOK, LenL, cFeat, fFeat, slFeat] at len_list
  refine aw_seq ?_
  refine aw_reg [] [0, 1] [] [slFeat false list, I most] [] [] (by kernel_rfl) hB trivial ?_
  refine ae_then ?_
  refine aw_seq ?_
  by_cases h1 : 1 ≤ (list.length : Int)
  · by_cases h2 : (list.length : Int) ≤ most
    · refine aw_reg [(2, .dec true), (7, .dec true), (11, .call [(true, slFeat false list), (true, .fn 154 [])] true (Bv (anyN list.length (fun j => (!(okF (at_ list j)))))))] [4] [] [Bv (!(anyN list.length (fun j => (!(okF (at_ list j))))))] [] [1 ≤ (list.length : Int), (list.length : Int) ≤ most, Con Try.prog 153 [slFeat false list, .fn 154 []] true (Bv (anyN list.length (fun j => (!(okF (at_ list j)))))) ∧ ((slFeat false list : AV) = slFeat false list) ∧ ((.fn 154 [] : AV) = .fn 154 []) ∧ True] (by kernel_rfl) hB ⟨h1, h2, ⟨(containsFeat_ok list), rfl, rfl, trivial⟩, trivial⟩ ?_
      refine ae_then ?_
      refine aw_ret ?_
      refine ae_ret hB (Bv (!(anyN list.length (fun j => (!(okF (at_ list j))))))) (by kernel_rfl) (.inl (by first | rfl | (refine congrArg Bv ?_; simp [okFeats, anyN_not, *]; done) | (refine congrArg Bv ?_; simp [okFeats, anyN_not, *]; omega) | (refine congrArg Bv ?_; simp_all [okFeats, anyN_not]; done) | (refine congrArg Bv ?_; simp_all [okFeats, anyN_not]; omega))) rfl (fun _ => trivial)
    · refine aw_reg [(2, .dec true), (7, .dec false)] [4] [] [Bv false] [] [1 ≤ (list.length : Int), ¬ ((list.length : Int) ≤ most)] (by kernel_rfl) hB ⟨h1, h2, trivial⟩ ?_
      refine ae_then ?_
      refine aw_ret ?_
      refine ae_ret hB (Bv false) (by kernel_rfl) (.inl (by first | rfl | (refine congrArg Bv ?_; simp [okFeats, anyN_not, *]; done) | (refine congrArg Bv ?_; simp [okFeats, anyN_not, *]; omega) | (refine congrArg Bv ?_; simp_all [okFeats, anyN_not]; done) | (refine congrArg Bv ?_; simp_all [okFeats, anyN_not]; omega))) rfl (fun _ => trivial)
  · refine aw_reg [(2, .dec false)] [4] [] [Bv false] [] [¬ (1 ≤ (list.length : Int))] (by kernel_rfl) hB ⟨h1, trivial⟩ ?_
    refine ae_then ?_
    refine aw_ret ?_
    refine ae_ret hB (Bv false) (by kernel_rfl) (.inl (by first | rfl | (refine congrArg Bv ?_; simp [okFeats, anyN_not, *]; done) | (refine congrArg Bv ?_; simp [okFeats, anyN_not, *]; omega) | (refine congrArg Bv ?_; simp_all [okFeats, anyN_not]; done) | (refine congrArg Bv ?_; simp_all [okFeats, anyN_not]; omega))) rfl (fun _ => trivial)


-- impl.ValidSeq
theorem ValidSeq_ok (list : List Feat) : Con Try.prog 94 [slFeat false list] true (Bv (okFeats list 72)) := by
  refine fn_ok (fn := Try.f94) (nt := 5) Try.func94 rfl rfl rfl rfl (by simp [taggedL, tagged, tagFeat]) fun B hB => ?_
  refine aw_lens (x := slFeat false list) 0 rfl (fun len_list => ?_)
  simp [LenOK, LenL, cFeat, fFeat, slFeat] at len_list
  refine aw_seq ?_
  refine aw_reg [] [0] [] [slFeat false list] [] [] (by kernel_rfl) hB trivial ?_
  refine ae_then ?_
  refine aw_seq ?_
  refine aw_reg [(1, .call [(true, slFeat false list), (true, I 72)] true (Bv (okFeats list 72)))] [2] [] [Bv (okFeats list 72)] [] [Con Try.prog 132 [slFeat false list, I 72] true (Bv (okFeats list 72)) ∧ ((slFeat false list : AV) = slFeat false list) ∧ ((I 72 : AV) = I 72) ∧ True] (by kernel_rfl) hB ⟨⟨(areFeats_ok list 72), rfl, rfl, trivial⟩, trivial⟩ ?_
  refine ae_then ?_
  refine aw_ret ?_
  refine ae_ret hB (Bv (okFeats list 72)) (by kernel_rfl) (.inl rfl) rfl (fun _ => trivial)


-- impl.abs
theorem abs_ok (n : Int) (hn : -9223372036854775807 ≤ n ∧ n ≤ 9223372036854775807) : Con Try.prog 57 [I n] true (I (n.natAbs : Int)) := by
  refine fn_ok (fn := Try.f57) (nt := 8) Try.func57 rfl rfl rfl rfl (by simp [taggedL, tagged]) fun B hB => ?_
  refine aw_seq ?_
  refine aw_reg [] [0] [] [I n] [] [] (by kernel_rfl) hB trivial ?_
  refine ae_then ?_
  refine aw_seq ?_
  refine aw_seq ?_
  by_cases h1 : n < 0
  · refine aw_reg [(1, .dec true)] [0, 4] [] [I n, Bv true] [] [n < 0] (by kernel_rfl) hB ⟨h1, trivial⟩ ?_
    refine ae_then ?_
    refine aw_true rfl ?_
    refine aw_seq ?_
    refine aw_reg [] [2] [] [I (-n)] [] [inR .i64 (-n)] (by kernel_rfl) hB ⟨(inR_i64 (by omega) (by omega)), trivial⟩ ?_
    refine ae_then ?_
    refine aw_ret ?_
    refine ae_ret_then ?_
    refine ae_ret hB (I (-n)) (by kernel_rfl) (.inl (by refine congrArg I ?_; omega)) rfl (fun _ => trivial)
  · refine aw_reg [(1, .dec false)] [0, 4] [] [I n, Bv false] [] [¬ (n < 0)] (by kernel_rfl) hB ⟨h1, trivial⟩ ?_
    refine ae_then ?_
    refine aw_false rfl ?_
    refine aw_skip ?_
    refine ae_then ?_
    refine aw_seq ?_
    refine aw_reg [] [2] [] [I n] [] [] (by kernel_rfl) hB trivial ?_
    refine ae_then ?_
    refine aw_ret ?_
    refine ae_ret hB (I n) (by kernel_rfl) (.inl (by refine congrArg I ?_; omega)) rfl (fun _ => trivial)


-- impl.near
theorem near_ok (a : Feat) (b : Feat) (ha : okF a = true) (hb : okF b = true) : Con Try.prog 102 [.agg [I a.X, I a.Y, I a.D], .agg [I b.X, I b.Y, I b.D]] true (Bv (nearB a b)) := by
  have ha' := okF_iff.1 ha
  have hb' := okF_iff.1 hb
  refine fn_ok (fn := Try.f102) (nt := 28) Try.func102 rfl rfl rfl rfl (by simp [taggedL, tagged]) fun B hB => ?_
  refine aw_seq ?_
  refine aw_reg [(0, .new 2), (1, .new 3)] [2, 3] [2, 3] [.ref 2 0, .ref 3 0] [some (.box [I a.X, I a.Y, I a.D]), some (.box [I b.X, I b.Y, I b.D])] [] (by kernel_rfl) hB trivial ?_
  refine ae_then ?_
  refine aw_seq ?_
  by_cases h1 : a.D = b.D
  · by_cases h2 : ((a.X - b.X).natAbs : Int) ≤ 40
    · refine aw_reg [(4, .dec true), (11, .call [(true, I (a.X - b.X))] true (I ((a.X - b.X).natAbs : Int))), (12, .dec true), (20, .call [(true, I (a.Y - b.Y))] true (I ((a.Y - b.Y).natAbs : Int)))] [4] [] [Bv (decide (((a.Y - b.Y).natAbs : Int) ≤ 40))] [] [a.D = b.D, inR .i64 (a.X - b.X), Con Try.prog 57 [I (a.X - b.X)] true (I ((a.X - b.X).natAbs : Int)) ∧ ((I (a.X - b.X) : AV) = I (a.X - b.X)) ∧ True, ((a.X - b.X).natAbs : Int) ≤ 40, inR .i64 (a.Y - b.Y), Con Try.prog 57 [I (a.Y - b.Y)] true (I ((a.Y - b.Y).natAbs : Int)) ∧ ((I (a.Y - b.Y) : AV) = I (a.Y - b.Y)) ∧ True] (by kernel_rfl) hB ⟨h1, (inR_i64 (by omega) (by omega)), ⟨(abs_ok (a.X - b.X) (by omega)), rfl, trivial⟩, h2, (inR_i64 (by omega) (by omega)), ⟨(abs_ok (a.Y - b.Y) (by omega)), rfl, trivial⟩, trivial⟩ ?_
      refine ae_then ?_
      refine aw_ret ?_
      refine ae_ret hB (Bv (decide (((a.Y - b.Y).natAbs : Int) ≤ 40))) (by kernel_rfl) (.inl (by first | rfl | (refine congrArg Bv ?_; simp [nearB, *]; done) | (refine congrArg Bv ?_; simp [nearB, *]; omega) | (refine congrArg Bv ?_; simp_all [nearB]; done) | (refine congrArg Bv ?_; simp_all [nearB]; omega))) rfl (fun _ => trivial)
    · refine aw_reg [(4, .dec true), (11, .call [(true, I (a.X - b.X))] true (I ((a.X - b.X).natAbs : Int))), (12, .dec false)] [4] [] [Bv false] [] [a.D = b.D, inR .i64 (a.X - b.X), Con Try.prog 57 [I (a.X - b.X)] true (I ((a.X - b.X).natAbs : Int)) ∧ ((I (a.X - b.X) : AV) = I (a.X - b.X)) ∧ True, ¬ (((a.X - b.X).natAbs : Int) ≤ 40)] (by kernel_rfl) hB ⟨h1, (inR_i64 (by omega) (by omega)), ⟨(abs_ok (a.X - b.X) (by omega)), rfl, trivial⟩, h2, trivial⟩ ?_
      refine ae_then ?_
      refine aw_ret ?_
      refine ae_ret hB (Bv false) (by kernel_rfl) (.inl (by first | rfl | (refine congrArg Bv ?_; simp [nearB, *]; done) | (refine congrArg Bv ?_; simp [nearB, *]; omega) | (refine congrArg Bv ?_; simp_all [nearB]; done) | (refine congrArg Bv ?_; simp_all [nearB]; omega))) rfl (fun _ => trivial)
  · refine aw_reg [(4, .dec false)] [4] [] [Bv false] [] [¬ (a.D = b.D)] (by kernel_rfl) hB ⟨h1, trivial⟩ ?_
    refine ae_then ?_
    refine aw_ret ?_
    refine ae_ret hB (Bv false) (by kernel_rfl) (.inl (by first | rfl | (refine congrArg Bv ?_; simp [nearB, *]; done) | (refine congrArg Bv ?_; simp [nearB, *]; omega) | (refine congrArg Bv ?_; simp_all [nearB]; done) | (refine congrArg Bv ?_; simp_all [nearB]; omega))) rfl (fun _ => trivial)


-- impl.ValidTrained
theorem equalNear_ok (s1 : List Feat) (s2 : List Feat) (hel : ∀ j, j < s1.length → j < s2.length → okF (at_ s1 j) = true ∧ okF (at_ s2 j) = true) : Con Try.prog 101 [slFeat false s1, slFeat false s2, .fn 102 []] true (Bv (decide (s1.length = s2.length) && allN s1.length (fun j => nearB (at_ s1 j) (at_ s2 j)))) := by
  refine fn_ok (fn := Try.f101) (nt := 32) Try.func101 rfl rfl rfl rfl (by simp [taggedL, tagged, tagFeat]) fun B hB => ?_
  refine aw_lens (x := slFeat false s1) 0 rfl (fun len_s1 => ?_)
  simp [LenOK, LenL, cFeat, fFeat, slFeat] at len_s1
  refine aw_lens (x := slFeat false s2) 1 rfl (fun len_s2 => ?_)
  simp [LenOK, LenL, cFeat, fFeat, slFeat] at len_s2
  refine aw_seq ?_
  refine aw_reg [] [0, 1, 2] [] [slFeat false s1, slFeat false s2, .fn 102 []] [] [] (by kernel_rfl) hB trivial ?_
  refine ae_then ?_
  refine aw_seq ?_
  refine aw_seq ?_
  by_cases h1 : (s1.length : Int) = (s2.length : Int)
  · have hle :  s1.length = s2.length := by omega
    refine aw_reg [(4, .dec false)] [0, 1, 2, 14] [] [slFeat false s1, slFeat false s2, .fn 102 [], Bv false] [] [¬ ((s1.length : Int) ≠ (s2.length : Int))] (by kernel_rfl) hB ⟨(fun hq => hq h1), trivial⟩ ?_
    refine ae_then ?_
    refine aw_false rfl ?_
    refine aw_skip ?_
    refine ae_then ?_
    refine aw_seq ?_
    refine aw_seq ?_
    refine aw_reg [] [1, 2, 15, 16, 17] [] [slFeat false s2, .fn 102 [], slFeat false s1, I (s1.length : Int), I 0] [] [] (by kernel_rfl) hB trivial ?_
    refine ae_then ?_
    refine aw_block ?_
    refine aw_loop (fun n σ => ∃ (t17 : Int), n = ((s1.length : Int) - t17).toNat ∧ (0 ≤ t17 ∧ t17 ≤ (s1.length : Int)) ∧ (∀ j : Nat, (j : Int) < t17 → nearB (at_ s1 j) (at_ s2 j) = true) ∧ σ = mkS [(1, slFeat false s2), (2, .fn 102 []), (15, slFeat false s1), (16, I (s1.length : Int)), (17, I t17)] []) (((s1.length : Int) - 0).toNat) ⟨0, rfl, (by omega), (by intro j hj; omega), rfl⟩ (fun n σ hI => ?_)
    obtain ⟨t17, rfl, hi0, hall0, rfl⟩ := hI
    refine aw_seq ?_
    by_cases h2 : t17 < (s1.length : Int)
    · have hi : t17.toNat < s1.length := by omega
      have hi2 : t17.toNat < s2.length := by omega
      refine aw_reg [(0, .dec true)] [1, 2, 15, 16, 17, 18] [] [slFeat false s2, .fn 102 [], slFeat false s1, I (s1.length : Int), I t17, Bv true] [] [t17 < (s1.length : Int)] (by kernel_rfl) hB ⟨h2, trivial⟩ ?_
      refine ae_then ?_
      refine aw_seq ?_
      refine aw_true rfl ?_
      refine aw_skip ?_
      refine ae_then ?_
      refine aw_seq ?_
      refine aw_block ?_
      refine aw_seq ?_
      refine aw_reg [(3, .new 8)] [1, 2, 7, 8, 15, 16, 17] [8] [slFeat false s2, .fn 102 [], I t17, .ref 8 0, slFeat false s1, I (s1.length : Int), I t17] [some (.box [I ((at_ s1 t17.toNat).X), I ((at_ s1 t17.toNat).Y), I ((at_ s1 t17.toNat).D)])] [(0 : Int) ≤ t17 ∧ t17 < (s1.length : Int)] (by kernel_rfl) hB ⟨⟨(by omega), (by omega)⟩, trivial⟩ ?_
      refine ae_then ?_
      refine aw_seq ?_
      refine aw_reg [(4, .new 9)] [1, 2, 8, 9, 15, 16, 17] [8, 9] [slFeat false s2, .fn 102 [], .ref 8 0, .ref 9 0, slFeat false s1, I (s1.length : Int), I t17] [some (.box [I ((at_ s1 t17.toNat).X), I ((at_ s1 t17.toNat).Y), I ((at_ s1 t17.toNat).D)]), some (.box [I ((at_ s2 t17.toNat).X), I ((at_ s2 t17.toNat).Y), I ((at_ s2 t17.toNat).D)])] [(0 : Int) ≤ t17 ∧ t17 < (s2.length : Int)] (by kernel_rfl) hB ⟨⟨(by omega), (by omega)⟩, trivial⟩ ?_
      refine ae_then ?_
      refine aw_seq ?_
      rcases Bool.eq_false_or_eq_true (nearB (at_ s1 t17.toNat) (at_ s2 t17.toNat)) with h3 | h3
      · refine aw_reg [(3, .call [(true, .agg [I ((at_ s1 t17.toNat).X), I ((at_ s1 t17.toNat).Y), I ((at_ s1 t17.toNat).D)]), (true, .agg [I ((at_ s2 t17.toNat).X), I ((at_ s2 t17.toNat).Y), I ((at_ s2 t17.toNat).D)])] true (Bv true))] [1, 2, 15, 16, 17, 30] [] [slFeat false s2, .fn 102 [], slFeat false s1, I (s1.length : Int), I t17, Bv false] [] [Con Try.prog 102 [.agg [I ((at_ s1 t17.toNat).X), I ((at_ s1 t17.toNat).Y), I ((at_ s1 t17.toNat).D)], .agg [I ((at_ s2 t17.toNat).X), I ((at_ s2 t17.toNat).Y), I ((at_ s2 t17.toNat).D)]] true (Bv true) ∧ ((.agg [I ((at_ s1 t17.toNat).X), I ((at_ s1 t17.toNat).Y), I ((at_ s1 t17.toNat).D)] : AV) = .agg [I ((at_ s1 t17.toNat).X), I ((at_ s1 t17.toNat).Y), I ((at_ s1 t17.toNat).D)]) ∧ ((.agg [I ((at_ s2 t17.toNat).X), I ((at_ s2 t17.toNat).Y), I ((at_ s2 t17.toNat).D)] : AV) = .agg [I ((at_ s2 t17.toNat).X), I ((at_ s2 t17.toNat).Y), I ((at_ s2 t17.toNat).D)]) ∧ True] (by kernel_rfl) hB ⟨⟨(con_bool h3 (near_ok (at_ s1 t17.toNat) (at_ s2 t17.toNat) (hel _ hi hi2).1 (hel _ hi hi2).2)), rfl, rfl, trivial⟩, trivial⟩ ?_
        refine ae_then ?_
        refine aw_false rfl ?_
        refine aw_skip ?_
        refine ae_block 1 ?_
        refine ae_then ?_
        refine aw_reg [] [1, 2, 15, 16, 17] [] [slFeat false s2, .fn 102 [], slFeat false s1, I (s1.length : Int), I (t17 + 1)] [] [inR .i64 (t17 + 1)] (by kernel_rfl) hB ⟨(inR_i64 (by omega) (by omega)), trivial⟩ ?_
        exact ae_again _ (by omega) ⟨(t17 + 1), rfl, (by omega), (by intro j hj; by_cases ej : j = t17.toNat; (subst ej; assumption); exact hall0 j (by omega)), rfl⟩
      · have hfin : allN s1.length (fun j => nearB (at_ s1 j) (at_ s2 j)) = false := allN_not hi h3
        refine aw_reg [(3, .call [(true, .agg [I ((at_ s1 t17.toNat).X), I ((at_ s1 t17.toNat).Y), I ((at_ s1 t17.toNat).D)]), (true, .agg [I ((at_ s2 t17.toNat).X), I ((at_ s2 t17.toNat).Y), I ((at_ s2 t17.toNat).D)])] true (Bv false))] [1, 2, 15, 16, 17, 30] [] [slFeat false s2, .fn 102 [], slFeat false s1, I (s1.length : Int), I t17, Bv true] [] [Con Try.prog 102 [.agg [I ((at_ s1 t17.toNat).X), I ((at_ s1 t17.toNat).Y), I ((at_ s1 t17.toNat).D)], .agg [I ((at_ s2 t17.toNat).X), I ((at_ s2 t17.toNat).Y), I ((at_ s2 t17.toNat).D)]] true (Bv false) ∧ ((.agg [I ((at_ s1 t17.toNat).X), I ((at_ s1 t17.toNat).Y), I ((at_ s1 t17.toNat).D)] : AV) = .agg [I ((at_ s1 t17.toNat).X), I ((at_ s1 t17.toNat).Y), I ((at_ s1 t17.toNat).D)]) ∧ ((.agg [I ((at_ s2 t17.toNat).X), I ((at_ s2 t17.toNat).Y), I ((at_ s2 t17.toNat).D)] : AV) = .agg [I ((at_ s2 t17.toNat).X), I ((at_ s2 t17.toNat).Y), I ((at_ s2 t17.toNat).D)]) ∧ True] (by kernel_rfl) hB ⟨⟨(con_bool h3 (near_ok (at_ s1 t17.toNat) (at_ s2 t17.toNat) (hel _ hi hi2).1 (hel _ hi hi2).2)), rfl, rfl, trivial⟩, trivial⟩ ?_
        refine ae_then ?_
        refine aw_true rfl ?_
        refine aw_seq ?_
        refine aw_reg [] [6] [] [Bv false] [] [] (by kernel_rfl) hB trivial ?_
        refine ae_then ?_
        refine aw_ret ?_
        refine ae_ret_block (ae_ret_then (ae_ret_then (ae_ret_block (ae_ret_then ?_))))
        refine ae_ret hB (Bv false) (by kernel_rfl) (.inl (by refine congrArg Bv ?_; first | (rw [hfin, decide_eq_true hle]; rfl) | (rw [hfin, Bool.and_false]) | (rw [decide_eq_false hle, Bool.false_and]))) rfl (fun _ => trivial)
    · have hfin : allN s1.length (fun j => nearB (at_ s1 j) (at_ s2 j)) = true := allN_at (fun j hj => hall0 j (by omega))
      have hle : s1.length = s2.length := by omega
      refine aw_reg [(0, .dec false)] [1, 2, 15, 16, 17, 18] [] [slFeat false s2, .fn 102 [], slFeat false s1, I (s1.length : Int), I t17, Bv false] [] [¬ (t17 < (s1.length : Int))] (by kernel_rfl) hB ⟨h2, trivial⟩ ?_
      refine ae_then ?_
      refine aw_seq ?_
      refine aw_false rfl ?_
      refine aw_exit ?_
      refine ae_exit_then ?_
      refine ae_exit_then ?_
      refine ae_exit_same ?_
      refine ae_then ?_
      refine aw_seq ?_
      refine aw_reg [] [6] [] [Bv true] [] [] (by kernel_rfl) hB trivial ?_
      refine ae_then ?_
      refine aw_ret ?_
      refine ae_ret hB (Bv true) (by kernel_rfl) (.inl (by refine congrArg Bv ?_; first | (rw [hfin, decide_eq_true hle]; rfl) | (rw [hfin, Bool.and_false]) | (rw [decide_eq_false hle, Bool.false_and]))) rfl (fun _ => trivial)
  · have hle : ¬ s1.length = s2.length := by omega
    refine aw_reg [(4, .dec true)] [0, 1, 2, 14] [] [slFeat false s1, slFeat false s2, .fn 102 [], Bv true] [] [(s1.length : Int) ≠ (s2.length : Int)] (by kernel_rfl) hB ⟨h1, trivial⟩ ?_
    refine ae_then ?_
    refine aw_true rfl ?_
    refine aw_seq ?_
    refine aw_reg [] [6] [] [Bv false] [] [] (by kernel_rfl) hB trivial ?_
    refine ae_then ?_
    refine aw_ret ?_
    refine ae_ret_then ?_
    refine ae_ret hB (Bv false) (by kernel_rfl) (.inl (by refine congrArg Bv ?_; first | (rw [hfin, decide_eq_true hle]; rfl) | (rw [hfin, Bool.and_false]) | (rw [decide_eq_false hle, Bool.false_and]))) rfl (fun _ => trivial)

theorem ValidTrained_ok (t : Trained) (ok : okTrained t) : Con Try.prog 56 [.agg [Sv t.Label, slFeat false t.Base, slFeat false t.Feats, I t.Count]] true (Bv (okTrained' t)) := by
  refine fn_ok (fn := Try.f56) (nt := 28) Try.func56 rfl rfl rfl rfl (by simp [taggedL, tagged, tagFeat]) fun B hB => ?_
  refine aw_lens (x := .agg [Sv t.Label, slFeat false t.Base, slFeat false t.Feats, I t.Count]) 0 rfl (fun len_t => ?_)
  simp [LenOK, LenL, cFeat, fFeat, slFeat] at len_t
  refine aw_seq ?_
  refine aw_reg [(0, .new 1)] [1] [1] [.ref 1 0] [some (.box [Sv t.Label, slFeat false t.Base, slFeat false t.Feats, I t.Count])] [] (by kernel_rfl) hB trivial ?_
  refine ae_then ?_
  refine aw_seq ?_
  rcases Bool.eq_false_or_eq_true (okLabel t.Label) with h1 | h1
  · rcases Bool.eq_false_or_eq_true (okFeats t.Base 72) with h2 | h2
    · rcases Bool.eq_false_or_eq_true (okFeats t.Feats 72) with h3 | h3
      · rcases Bool.eq_false_or_eq_true (decide (t.Base.length = t.Feats.length) && allN t.Base.length (fun j => nearB (at_ t.Base j) (at_ t.Feats j))) with h4 | h4
        · refine aw_reg [(2, .call [(true, Sv t.Label)] true (Bv true)), (6, .call [(true, slFeat false t.Base)] true (Bv true)), (11, .call [(true, slFeat false t.Feats)] true (Bv true)), (18, .call [(true, slFeat false t.Base), (true, slFeat false t.Feats), (true, .fn 102 [])] true (Bv true)), (23, .call [(true, I t.Count), (true, I 0), (true, I 100)] true (Bv (inB t.Count 0 100)))] [2] [] [Bv (inB t.Count 0 100)] [] [Con Try.prog 100 [Sv t.Label] true (Bv true) ∧ ((Sv t.Label : AV) = Sv t.Label) ∧ True, Con Try.prog 94 [slFeat false t.Base] true (Bv true) ∧ ((slFeat false t.Base : AV) = slFeat false t.Base) ∧ True, Con Try.prog 94 [slFeat false t.Feats] true (Bv true) ∧ ((slFeat false t.Feats : AV) = slFeat false t.Feats) ∧ True, Con Try.prog 101 [slFeat false t.Base, slFeat false t.Feats, .fn 102 []] true (Bv true) ∧ ((slFeat false t.Base : AV) = slFeat false t.Base) ∧ ((slFeat false t.Feats : AV) = slFeat false t.Feats) ∧ ((.fn 102 [] : AV) = .fn 102 []) ∧ True, Con Try.prog 66 [I t.Count, I 0, I 100] true (Bv (inB t.Count 0 100)) ∧ ((I t.Count : AV) = I t.Count) ∧ ((I 0 : AV) = I 0) ∧ ((I 100 : AV) = I 100) ∧ True] (by kernel_rfl) hB ⟨⟨(con_bool h1 (implIsLabel_ok t.Label ok)), rfl, trivial⟩, ⟨(con_bool h2 (ValidSeq_ok t.Base)), rfl, trivial⟩, ⟨(con_bool h3 (ValidSeq_ok t.Feats)), rfl, trivial⟩, ⟨(con_bool h4 (equalNear_ok t.Base t.Feats (fun j h1 h2 => ⟨okFeats_at (by assumption) h1, okFeats_at (by assumption) h2⟩))), rfl, rfl, rfl, trivial⟩, ⟨(within_ok t.Count 0 100), rfl, rfl, rfl, trivial⟩, trivial⟩ ?_
          refine ae_then ?_
          refine aw_ret ?_
          refine ae_ret hB (Bv (inB t.Count 0 100)) (by kernel_rfl) (.inl (by first | rfl | (refine congrArg Bv ?_; simp [okTrained', inB, *]; done) | (refine congrArg Bv ?_; simp [okTrained', inB, *]; omega) | (refine congrArg Bv ?_; simp_all [okTrained', inB]; done) | (refine congrArg Bv ?_; simp_all [okTrained', inB]; omega))) rfl (fun _ => trivial)
        · refine aw_reg [(2, .call [(true, Sv t.Label)] true (Bv true)), (6, .call [(true, slFeat false t.Base)] true (Bv true)), (11, .call [(true, slFeat false t.Feats)] true (Bv true)), (18, .call [(true, slFeat false t.Base), (true, slFeat false t.Feats), (true, .fn 102 [])] true (Bv false))] [2] [] [Bv false] [] [Con Try.prog 100 [Sv t.Label] true (Bv true) ∧ ((Sv t.Label : AV) = Sv t.Label) ∧ True, Con Try.prog 94 [slFeat false t.Base] true (Bv true) ∧ ((slFeat false t.Base : AV) = slFeat false t.Base) ∧ True, Con Try.prog 94 [slFeat false t.Feats] true (Bv true) ∧ ((slFeat false t.Feats : AV) = slFeat false t.Feats) ∧ True, Con Try.prog 101 [slFeat false t.Base, slFeat false t.Feats, .fn 102 []] true (Bv false) ∧ ((slFeat false t.Base : AV) = slFeat false t.Base) ∧ ((slFeat false t.Feats : AV) = slFeat false t.Feats) ∧ ((.fn 102 [] : AV) = .fn 102 []) ∧ True] (by kernel_rfl) hB ⟨⟨(con_bool h1 (implIsLabel_ok t.Label ok)), rfl, trivial⟩, ⟨(con_bool h2 (ValidSeq_ok t.Base)), rfl, trivial⟩, ⟨(con_bool h3 (ValidSeq_ok t.Feats)), rfl, trivial⟩, ⟨(con_bool h4 (equalNear_ok t.Base t.Feats (fun j h1 h2 => ⟨okFeats_at (by assumption) h1, okFeats_at (by assumption) h2⟩))), rfl, rfl, rfl, trivial⟩, trivial⟩ ?_
          refine ae_then ?_
          refine aw_ret ?_
          refine ae_ret hB (Bv false) (by kernel_rfl) (.inl (by first | rfl | (refine congrArg Bv ?_; simp [okTrained', inB, *]; done) | (refine congrArg Bv ?_; simp [okTrained', inB, *]; omega) | (refine congrArg Bv ?_; simp_all [okTrained', inB]; done) | (refine congrArg Bv ?_; simp_all [okTrained', inB]; omega))) rfl (fun _ => trivial)
      · refine aw_reg [(2, .call [(true, Sv t.Label)] true (Bv true)), (6, .call [(true, slFeat false t.Base)] true (Bv true)), (11, .call [(true, slFeat false t.Feats)] true (Bv false))] [2] [] [Bv false] [] [Con Try.prog 100 [Sv t.Label] true (Bv true) ∧ ((Sv t.Label : AV) = Sv t.Label) ∧ True, Con Try.prog 94 [slFeat false t.Base] true (Bv true) ∧ ((slFeat false t.Base : AV) = slFeat false t.Base) ∧ True, Con Try.prog 94 [slFeat false t.Feats] true (Bv false) ∧ ((slFeat false t.Feats : AV) = slFeat false t.Feats) ∧ True] (by kernel_rfl) hB ⟨⟨(con_bool h1 (implIsLabel_ok t.Label ok)), rfl, trivial⟩, ⟨(con_bool h2 (ValidSeq_ok t.Base)), rfl, trivial⟩, ⟨(con_bool h3 (ValidSeq_ok t.Feats)), rfl, trivial⟩, trivial⟩ ?_
        refine ae_then ?_
        refine aw_ret ?_
        refine ae_ret hB (Bv false) (by kernel_rfl) (.inl (by first | rfl | (refine congrArg Bv ?_; simp [okTrained', inB, *]; done) | (refine congrArg Bv ?_; simp [okTrained', inB, *]; omega) | (refine congrArg Bv ?_; simp_all [okTrained', inB]; done) | (refine congrArg Bv ?_; simp_all [okTrained', inB]; omega))) rfl (fun _ => trivial)
    · refine aw_reg [(2, .call [(true, Sv t.Label)] true (Bv true)), (6, .call [(true, slFeat false t.Base)] true (Bv false))] [2] [] [Bv false] [] [Con Try.prog 100 [Sv t.Label] true (Bv true) ∧ ((Sv t.Label : AV) = Sv t.Label) ∧ True, Con Try.prog 94 [slFeat false t.Base] true (Bv false) ∧ ((slFeat false t.Base : AV) = slFeat false t.Base) ∧ True] (by kernel_rfl) hB ⟨⟨(con_bool h1 (implIsLabel_ok t.Label ok)), rfl, trivial⟩, ⟨(con_bool h2 (ValidSeq_ok t.Base)), rfl, trivial⟩, trivial⟩ ?_
      refine ae_then ?_
      refine aw_ret ?_
      refine ae_ret hB (Bv false) (by kernel_rfl) (.inl (by first | rfl | (refine congrArg Bv ?_; simp [okTrained', inB, *]; done) | (refine congrArg Bv ?_; simp [okTrained', inB, *]; omega) | (refine congrArg Bv ?_; simp_all [okTrained', inB]; done) | (refine congrArg Bv ?_; simp_all [okTrained', inB]; omega))) rfl (fun _ => trivial)
  · refine aw_reg [(2, .call [(true, Sv t.Label)] true (Bv false))] [2] [] [Bv false] [] [Con Try.prog 100 [Sv t.Label] true (Bv false) ∧ ((Sv t.Label : AV) = Sv t.Label) ∧ True] (by kernel_rfl) hB ⟨⟨(con_bool h1 (implIsLabel_ok t.Label ok)), rfl, trivial⟩, trivial⟩ ?_
    refine ae_then ?_
    refine aw_ret ?_
    refine ae_ret hB (Bv false) (by kernel_rfl) (.inl (by first | rfl | (refine congrArg Bv ?_; simp [okTrained', inB, *]; done) | (refine congrArg Bv ?_; simp [okTrained', inB, *]; omega) | (refine congrArg Bv ?_; simp_all [okTrained', inB]; done) | (refine congrArg Bv ?_; simp_all [okTrained', inB]; omega))) rfl (fun _ => trivial)


-- impl.ValidWriter$1
theorem ValidWriter1_ok (t : Trained) (ok : okTrained t) : Con Try.prog 68 [.agg [Sv t.Label, slFeat false t.Base, slFeat false t.Feats, I t.Count]] true (Bv (!(okTrained' t))) := by
  refine fn_ok (fn := Try.f68) (nt := 6) Try.func68 rfl rfl rfl rfl (by simp [taggedL, tagged, tagFeat]) fun B hB => ?_
  refine aw_lens (x := .agg [Sv t.Label, slFeat false t.Base, slFeat false t.Feats, I t.Count]) 0 rfl (fun len_t => ?_)
  simp [LenOK, LenL, cFeat, fFeat, slFeat] at len_t
  refine aw_seq ?_
  refine aw_reg [(0, .new 1)] [1] [1] [.ref 1 0] [some (.box [Sv t.Label, slFeat false t.Base, slFeat false t.Feats, I t.Count])] [] (by kernel_rfl) hB trivial ?_
  refine ae_then ?_
  refine aw_seq ?_
  refine aw_reg [(1, .call [(true, .agg [Sv t.Label, slFeat false t.Base, slFeat false t.Feats, I t.Count])] true (Bv (okTrained' t)))] [2] [] [Bv (!(okTrained' t))] [] [Con Try.prog 56 [.agg [Sv t.Label, slFeat false t.Base, slFeat false t.Feats, I t.Count]] true (Bv (okTrained' t)) ∧ ((.agg [Sv t.Label, slFeat false t.Base, slFeat false t.Feats, I t.Count] : AV) = .agg [Sv t.Label, slFeat false t.Base, slFeat false t.Feats, I t.Count]) ∧ True] (by kernel_rfl) hB ⟨⟨(ValidTrained_ok t ok), rfl, trivial⟩, trivial⟩ ?_
  refine ae_then ?_
  refine aw_ret ?_
  refine ae_ret hB (Bv (!(okTrained' t))) (by kernel_rfl) (.inl rfl) rfl (fun _ => trivial)


-- impl.ValidWriter
theorem containsTr_ok_idx (s : List Trained) (hel : ∀ j, j < s.length → okTrained (at_ s j)) : Con Try.prog 104 [slTrained false s, .fn 68 []] true (I (firstN s.length (fun j => (!(okTrained' (at_ s j)))))) := by
  refine fn_ok (fn := Try.f104) (nt := 19) Try.func104 rfl rfl rfl rfl (by simp [taggedL, tagged, tagTrained]) fun B hB => ?_
  refine aw_lens (x := slTrained false s) 0 rfl (fun len_s => ?_)
  simp [LenOK, LenL, cFeat, cTrained, fFeat, fTrained, slFeat, slTrained] at len_s
  refine aw_seq ?_
  refine aw_reg [] [0, 1] [] [slTrained false s, .fn 68 []] [] [] (by kernel_rfl) hB trivial ?_
  refine ae_then ?_
  refine aw_seq ?_
  refine aw_seq ?_
  refine aw_reg [] [0, 1, 7, 8] [] [slTrained false s, .fn 68 [], I (s.length : Int), I 0] [] [] (by kernel_rfl) hB trivial ?_
  refine ae_then ?_
  refine aw_block ?_
  refine aw_loop (fun n σ => ∃ (t8 : Int), n = ((s.length : Int) - t8).toNat ∧ (0 ≤ t8 ∧ t8 ≤ (s.length : Int)) ∧ (∀ j : Nat, (j : Int) < t8 → (!(okTrained' (at_ s j))) = false) ∧ σ = mkS [(0, slTrained false s), (1, .fn 68 []), (7, I (s.length : Int)), (8, I t8)] []) (((s.length : Int) - 0).toNat) ⟨0, rfl, (by omega), (by intro j hj; omega), rfl⟩ (fun n σ hI => ?_)
  obtain ⟨t8, rfl, hi0, hall0, rfl⟩ := hI
  refine aw_seq ?_
  by_cases h1 : t8 < (s.length : Int)
  · have hi : t8.toNat < s.length := by omega
    refine aw_reg [(0, .dec true)] [0, 1, 7, 8, 9] [] [slTrained false s, .fn 68 [], I (s.length : Int), I t8, Bv true] [] [t8 < (s.length : Int)] (by kernel_rfl) hB ⟨h1, trivial⟩ ?_
    refine ae_then ?_
    refine aw_seq ?_
    refine aw_true rfl ?_
    refine aw_skip ?_
    refine ae_then ?_
    refine aw_seq ?_
    refine aw_block ?_
    refine aw_seq ?_
    refine aw_reg [] [0, 1, 5, 7, 8] [] [slTrained false s, .fn 68 [], I t8, I (s.length : Int), I t8] [] [] (by kernel_rfl) hB trivial ?_
    refine ae_then ?_
    refine aw_seq ?_
    rcases Bool.eq_false_or_eq_true (!(okTrained' (at_ s t8.toNat))) with h2 | h2
    · have hfin : firstN s.length (fun j => (!(okTrained' (at_ s j)))) = t8.toNat := firstN_hit hi h2 (fun j hj => hall0 j (by omega))
      refine aw_reg [(5, .call [(true, .agg [Sv ((at_ s t8.toNat).Label), slFeat false ((at_ s t8.toNat).Base), slFeat false ((at_ s t8.toNat).Feats), I ((at_ s t8.toNat).Count)])] true (Bv true))] [0, 1, 5, 7, 8, 16] [] [slTrained false s, .fn 68 [], I t8, I (s.length : Int), I t8, Bv true] [] [(0 : Int) ≤ t8 ∧ t8 < (s.length : Int), Con Try.prog 68 [.agg [Sv ((at_ s t8.toNat).Label), slFeat false ((at_ s t8.toNat).Base), slFeat false ((at_ s t8.toNat).Feats), I ((at_ s t8.toNat).Count)]] true (Bv true) ∧ ((.agg [Sv ((at_ s t8.toNat).Label), slFeat false ((at_ s t8.toNat).Base), slFeat false ((at_ s t8.toNat).Feats), I ((at_ s t8.toNat).Count)] : AV) = .agg [Sv ((at_ s t8.toNat).Label), slFeat false ((at_ s t8.toNat).Base), slFeat false ((at_ s t8.toNat).Feats), I ((at_ s t8.toNat).Count)]) ∧ True] (by kernel_rfl) hB ⟨⟨(by omega), (by omega)⟩, ⟨(con_bool h2 (ValidWriter1_ok (at_ s t8.toNat) (hel _ hi))), rfl, trivial⟩, trivial⟩ ?_
      refine ae_then ?_
      refine aw_true rfl ?_
      refine aw_seq ?_
      refine aw_reg [] [4] [] [I t8] [] [] (by kernel_rfl) hB trivial ?_
      refine ae_then ?_
      refine aw_ret ?_
      refine ae_ret_block (ae_ret_then (ae_ret_then (ae_ret_block (ae_ret_then ?_))))
      refine ae_ret hB (I t8) (by kernel_rfl) (.inl (by refine congrArg I ?_; first | (rw [hfin]; done) | (rw [hfin]; omega))) rfl (fun _ => trivial)
    · refine aw_reg [(5, .call [(true, .agg [Sv ((at_ s t8.toNat).Label), slFeat false ((at_ s t8.toNat).Base), slFeat false ((at_ s t8.toNat).Feats), I ((at_ s t8.toNat).Count)])] true (Bv false))] [0, 1, 5, 7, 8, 16] [] [slTrained false s, .fn 68 [], I t8, I (s.length : Int), I t8, Bv false] [] [(0 : Int) ≤ t8 ∧ t8 < (s.length : Int), Con Try.prog 68 [.agg [Sv ((at_ s t8.toNat).Label), slFeat false ((at_ s t8.toNat).Base), slFeat false ((at_ s t8.toNat).Feats), I ((at_ s t8.toNat).Count)]] true (Bv false) ∧ ((.agg [Sv ((at_ s t8.toNat).Label), slFeat false ((at_ s t8.toNat).Base), slFeat false ((at_ s t8.toNat).Feats), I ((at_ s t8.toNat).Count)] : AV) = .agg [Sv ((at_ s t8.toNat).Label), slFeat false ((at_ s t8.toNat).Base), slFeat false ((at_ s t8.toNat).Feats), I ((at_ s t8.toNat).Count)]) ∧ True] (by kernel_rfl) hB ⟨⟨(by omega), (by omega)⟩, ⟨(con_bool h2 (ValidWriter1_ok (at_ s t8.toNat) (hel _ hi))), rfl, trivial⟩, trivial⟩ ?_
      refine ae_then ?_
      refine aw_false rfl ?_
      refine aw_skip ?_
      refine ae_block 1 ?_
      refine ae_then ?_
      refine aw_reg [] [0, 1, 7, 8] [] [slTrained false s, .fn 68 [], I (s.length : Int), I (t8 + 1)] [] [inR .i64 (t8 + 1)] (by kernel_rfl) hB ⟨(inR_i64 (by omega) (by omega)), trivial⟩ ?_
      exact ae_again _ (by omega) ⟨(t8 + 1), rfl, (by omega), (by intro j hj; by_cases ej : j = t8.toNat; (subst ej; assumption); exact hall0 j (by omega)), rfl⟩
  · have hfin : firstN s.length (fun j => (!(okTrained' (at_ s j)))) = -1 := firstN_none (fun j hj => hall0 j (by omega))
    refine aw_reg [(0, .dec false)] [0, 1, 7, 8, 9] [] [slTrained false s, .fn 68 [], I (s.length : Int), I t8, Bv false] [] [¬ (t8 < (s.length : Int))] (by kernel_rfl) hB ⟨h1, trivial⟩ ?_
    refine ae_then ?_
    refine aw_seq ?_
    refine aw_false rfl ?_
    refine aw_exit ?_
    refine ae_exit_then ?_
    refine ae_exit_then ?_
    refine ae_exit_same ?_
    refine ae_then ?_
    refine aw_seq ?_
    refine aw_reg [] [4] [] [I (-1)] [] [] (by kernel_rfl) hB trivial ?_
    refine ae_then ?_
    refine aw_ret ?_
    refine ae_ret hB (I (-1)) (by kernel_rfl) (.inl (by refine congrArg I ?_; first | (rw [hfin]; done) | (rw [hfin]; omega))) rfl (fun _ => trivial)

theorem containsTr_ok (s : List Trained) (hel : ∀ j, j < s.length → okTrained (at_ s j)) : Con Try.prog 67 [slTrained false s, .fn 68 []] true (Bv (anyN s.length (fun j => (!(okTrained' (at_ s j)))))) := by
  refine fn_ok (fn := Try.f67) (nt := 9) Try.func67 rfl rfl rfl rfl (by simp [taggedL, tagged, tagTrained]) fun B hB => ?_
  refine aw_lens (x := slTrained false s) 0 rfl (fun len_s => ?_)
  simp [LenOK, LenL, cFeat, cTrained, fFeat, fTrained, slFeat, slTrained] at len_s
  refine aw_seq ?_
  refine aw_reg [] [0, 1] [] [slTrained false s, .fn 68 []] [] [] (by kernel_rfl) hB trivial ?_
  refine ae_then ?_
  refine aw_seq ?_
  refine aw_reg [(2, .call [(true, slTrained false s), (true, .fn 68 [])] true (I (firstN s.length (fun j => (!(okTrained' (at_ s j)))))))] [4] [] [Bv (decide (0 ≤ (firstN s.length (fun j => (!(okTrained' (at_ s j)))))))] [] [Con Try.prog 104 [slTrained false s, .fn 68 []] true (I (firstN s.length (fun j => (!(okTrained' (at_ s j)))))) ∧ ((slTrained false s : AV) = slTrained false s) ∧ ((.fn 68 [] : AV) = .fn 68 []) ∧ True] (by kernel_rfl) hB ⟨⟨(containsTr_ok_idx s hel), rfl, rfl, trivial⟩, trivial⟩ ?_
  refine ae_then ?_
  refine aw_ret ?_
  refine ae_ret hB (Bv (decide (0 ≤ (firstN s.length (fun j => (!(okTrained' (at_ s j)))))))) (by kernel_rfl) (.inl (by exact congrArg Bv (firstN_any _ _))) rfl (fun _ => trivial)

theorem ValidWriter_ok (w : Writer) (ok : okWriter w) : Con Try.prog 27 [.agg [I w.Band, slTrained false w.Trained]] true (Bv (okWriter' w)) := by
  refine fn_ok (fn := Try.f27) (nt := 18) Try.func27 rfl rfl rfl rfl (by simp [taggedL, tagged, tagTrained]) fun B hB => ?_
  refine aw_lens (x := .agg [I w.Band, slTrained false w.Trained]) 0 rfl (fun len_w => ?_)
  simp [LenOK, LenL, cFeat, cTrained, fFeat, fTrained, slFeat, slTrained] at len_w
  refine aw_seq ?_
  refine aw_reg [(0, .new 1)] [1] [1] [.ref 1 0] [some (.box [I w.Band, slTrained false w.Trained])] [] (by kernel_rfl) hB trivial ?_
  refine ae_then ?_
  refine aw_seq ?_
  rcases Bool.eq_false_or_eq_true (inB w.Band 0 72) with h1 | h1
  · by_cases h2 : (w.Trained.length : Int) ≤ 40
    · refine aw_reg [(2, .call [(true, I w.Band), (true, I 0), (true, I 72)] true (Bv true)), (7, .dec true), (12, .call [(true, slTrained false w.Trained), (true, .fn 68 [])] true (Bv (anyN w.Trained.length (fun j => (!(okTrained' (at_ w.Trained j)))))))] [2] [] [Bv (!(anyN w.Trained.length (fun j => (!(okTrained' (at_ w.Trained j))))))] [] [Con Try.prog 66 [I w.Band, I 0, I 72] true (Bv true) ∧ ((I w.Band : AV) = I w.Band) ∧ ((I 0 : AV) = I 0) ∧ ((I 72 : AV) = I 72) ∧ True, (w.Trained.length : Int) ≤ 40, Con Try.prog 67 [slTrained false w.Trained, .fn 68 []] true (Bv (anyN w.Trained.length (fun j => (!(okTrained' (at_ w.Trained j)))))) ∧ ((slTrained false w.Trained : AV) = slTrained false w.Trained) ∧ ((.fn 68 [] : AV) = .fn 68 []) ∧ True] (by kernel_rfl) hB ⟨⟨(con_bool h1 (within_ok w.Band 0 72)), rfl, rfl, rfl, trivial⟩, h2, ⟨(containsTr_ok w.Trained (fun j hj => ok _ (at_mem hj))), rfl, rfl, trivial⟩, trivial⟩ ?_
      refine ae_then ?_
      refine aw_ret ?_
      refine ae_ret hB (Bv (!(anyN w.Trained.length (fun j => (!(okTrained' (at_ w.Trained j))))))) (by kernel_rfl) (.inl (by first | rfl | (refine congrArg Bv ?_; simp [okWriter', anyN_not, *]; done) | (refine congrArg Bv ?_; simp [okWriter', anyN_not, *]; omega) | (refine congrArg Bv ?_; simp_all [okWriter', anyN_not]; done) | (refine congrArg Bv ?_; simp_all [okWriter', anyN_not]; omega))) rfl (fun _ => trivial)
    · refine aw_reg [(2, .call [(true, I w.Band), (true, I 0), (true, I 72)] true (Bv true)), (7, .dec false)] [2] [] [Bv false] [] [Con Try.prog 66 [I w.Band, I 0, I 72] true (Bv true) ∧ ((I w.Band : AV) = I w.Band) ∧ ((I 0 : AV) = I 0) ∧ ((I 72 : AV) = I 72) ∧ True, ¬ ((w.Trained.length : Int) ≤ 40)] (by kernel_rfl) hB ⟨⟨(con_bool h1 (within_ok w.Band 0 72)), rfl, rfl, rfl, trivial⟩, h2, trivial⟩ ?_
      refine ae_then ?_
      refine aw_ret ?_
      refine ae_ret hB (Bv false) (by kernel_rfl) (.inl (by first | rfl | (refine congrArg Bv ?_; simp [okWriter', anyN_not, *]; done) | (refine congrArg Bv ?_; simp [okWriter', anyN_not, *]; omega) | (refine congrArg Bv ?_; simp_all [okWriter', anyN_not]; done) | (refine congrArg Bv ?_; simp_all [okWriter', anyN_not]; omega))) rfl (fun _ => trivial)
  · refine aw_reg [(2, .call [(true, I w.Band), (true, I 0), (true, I 72)] true (Bv false))] [2] [] [Bv false] [] [Con Try.prog 66 [I w.Band, I 0, I 72] true (Bv false) ∧ ((I w.Band : AV) = I w.Band) ∧ ((I 0 : AV) = I 0) ∧ ((I 72 : AV) = I 72) ∧ True] (by kernel_rfl) hB ⟨⟨(con_bool h1 (within_ok w.Band 0 72)), rfl, rfl, rfl, trivial⟩, trivial⟩ ?_
    refine ae_then ?_
    refine aw_ret ?_
    refine ae_ret hB (Bv false) (by kernel_rfl) (.inl (by first | rfl | (refine congrArg Bv ?_; simp [okWriter', anyN_not, *]; done) | (refine congrArg Bv ?_; simp [okWriter', anyN_not, *]; omega) | (refine congrArg Bv ?_; simp_all [okWriter', anyN_not]; done) | (refine congrArg Bv ?_; simp_all [okWriter', anyN_not]; omega))) rfl (fun _ => trivial)


-- laws.eqFeat
theorem eqFeat_ok (a : Feat) (b : Feat) : Con Try.prog 97 [.agg [I a.X, I a.Y, I a.D], .agg [I b.X, I b.Y, I b.D]] true (Bv (same a b)) := by
  refine fn_ok (fn := Try.f97) (nt := 20) Try.func97 rfl rfl rfl rfl (by simp [taggedL, tagged]) fun B hB => ?_
  refine aw_seq ?_
  refine aw_reg [(0, .new 2), (1, .new 3)] [2, 3] [2, 3] [.ref 2 0, .ref 3 0] [some (.box [I a.X, I a.Y, I a.D]), some (.box [I b.X, I b.Y, I b.D])] [] (by kernel_rfl) hB trivial ?_
  refine ae_then ?_
  refine aw_seq ?_
  refine aw_seq ?_
  by_cases h1 : a.X = b.X
  · refine aw_reg [(4, .dec false)] [2, 3, 9] [2, 3] [.ref 2 0, .ref 3 0, Bv false] [some (.box [I a.X, I a.Y, I a.D]), some (.box [I b.X, I b.Y, I b.D])] [¬ (a.X ≠ b.X)] (by kernel_rfl) hB ⟨(fun hq => hq h1), trivial⟩ ?_
    refine ae_then ?_
    refine aw_false rfl ?_
    refine aw_skip ?_
    refine ae_then ?_
    refine aw_seq ?_
    refine aw_seq ?_
    by_cases h2 : a.Y = b.Y
    · refine aw_reg [(4, .dec false)] [2, 3, 14] [2, 3] [.ref 2 0, .ref 3 0, Bv false] [some (.box [I a.X, I a.Y, I a.D]), some (.box [I b.X, I b.Y, I b.D])] [¬ (a.Y ≠ b.Y)] (by kernel_rfl) hB ⟨(fun hq => hq h2), trivial⟩ ?_
      refine ae_then ?_
      refine aw_false rfl ?_
      refine aw_skip ?_
      refine ae_then ?_
      refine aw_seq ?_
      refine aw_seq ?_
      by_cases h3 : a.D = b.D
      · refine aw_reg [(4, .dec false)] [19] [] [Bv false] [] [¬ (a.D ≠ b.D)] (by kernel_rfl) hB ⟨(fun hq => hq h3), trivial⟩ ?_
        refine ae_then ?_
        refine aw_false rfl ?_
        refine aw_skip ?_
        refine ae_then ?_
        refine aw_seq ?_
        refine aw_reg [] [4] [] [Bv true] [] [] (by kernel_rfl) hB trivial ?_
        refine ae_then ?_
        refine aw_ret ?_
        refine ae_ret hB (Bv true) (by kernel_rfl) (.inl (by first | (cases a; cases b; simp_all [same]; done) | (cases a; cases b; simp_all [same]; omega))) rfl (fun _ => trivial)
      · refine aw_reg [(4, .dec true)] [19] [] [Bv true] [] [a.D ≠ b.D] (by kernel_rfl) hB ⟨h3, trivial⟩ ?_
        refine ae_then ?_
        refine aw_true rfl ?_
        refine aw_seq ?_
        refine aw_reg [] [4] [] [Bv false] [] [] (by kernel_rfl) hB trivial ?_
        refine ae_then ?_
        refine aw_ret ?_
        refine ae_ret_then ?_
        refine ae_ret hB (Bv false) (by kernel_rfl) (.inl (by first | (cases a; cases b; simp_all [same]; done) | (cases a; cases b; simp_all [same]; omega))) rfl (fun _ => trivial)
    · refine aw_reg [(4, .dec true)] [2, 3, 14] [2, 3] [.ref 2 0, .ref 3 0, Bv true] [some (.box [I a.X, I a.Y, I a.D]), some (.box [I b.X, I b.Y, I b.D])] [a.Y ≠ b.Y] (by kernel_rfl) hB ⟨h2, trivial⟩ ?_
      refine ae_then ?_
      refine aw_true rfl ?_
      refine aw_seq ?_
      refine aw_reg [] [4] [] [Bv false] [] [] (by kernel_rfl) hB trivial ?_
      refine ae_then ?_
      refine aw_ret ?_
      refine ae_ret_then ?_
      refine ae_ret hB (Bv false) (by kernel_rfl) (.inl (by first | (cases a; cases b; simp_all [same]; done) | (cases a; cases b; simp_all [same]; omega))) rfl (fun _ => trivial)
  · refine aw_reg [(4, .dec true)] [2, 3, 9] [2, 3] [.ref 2 0, .ref 3 0, Bv true] [some (.box [I a.X, I a.Y, I a.D]), some (.box [I b.X, I b.Y, I b.D])] [a.X ≠ b.X] (by kernel_rfl) hB ⟨h1, trivial⟩ ?_
    refine ae_then ?_
    refine aw_true rfl ?_
    refine aw_seq ?_
    refine aw_reg [] [4] [] [Bv false] [] [] (by kernel_rfl) hB trivial ?_
    refine ae_then ?_
    refine aw_ret ?_
    refine ae_ret_then ?_
    refine ae_ret hB (Bv false) (by kernel_rfl) (.inl (by first | (cases a; cases b; simp_all [same]; done) | (cases a; cases b; simp_all [same]; omega))) rfl (fun _ => trivial)


-- laws.eqFeatS
theorem eqFeatS_ok (a : List Feat) (b : List Feat) : Con Try.prog 51 [slFeat false a, slFeat false b] true (Bv (same a b)) := by
  refine fn_ok (fn := Try.f51) (nt := 27) Try.func51 rfl rfl rfl rfl (by simp [taggedL, tagged, tagFeat]) fun B hB => ?_
  refine aw_lens (x := slFeat false a) 0 rfl (fun len_a => ?_)
  simp [LenOK, LenL, cFeat, fFeat, slFeat] at len_a
  refine aw_lens (x := slFeat false b) 1 rfl (fun len_b => ?_)
  simp [LenOK, LenL, cFeat, fFeat, slFeat] at len_b
  refine aw_seq ?_
  refine aw_reg [] [0, 1] [] [slFeat false a, slFeat false b] [] [] (by kernel_rfl) hB trivial ?_
  refine ae_then ?_
  refine aw_seq ?_
  refine aw_seq ?_
  by_cases h1 : (a.length : Int) = (b.length : Int)
  · refine aw_reg [(4, .dec false)] [0, 1, 10] [] [slFeat false a, slFeat false b, Bv false] [] [¬ ((a.length : Int) ≠ (b.length : Int))] (by kernel_rfl) hB ⟨(fun hq => hq h1), trivial⟩ ?_
    refine ae_then ?_
    refine aw_false rfl ?_
    refine aw_skip ?_
    refine ae_then ?_
    refine aw_seq ?_
    refine aw_seq ?_
    refine aw_reg [] [0, 1, 5] [] [slFeat false a, slFeat false b, I 0] [] [] (by kernel_rfl) hB trivial ?_
    refine ae_then ?_
    refine aw_block ?_
    refine aw_loop (fun n σ => ∃ (i : Int), n = ((a.length : Int) - i).toNat ∧ (0 ≤ i ∧ i ≤ (a.length : Int)) ∧ (∀ j : Nat, (j : Int) < i → at_ a j = at_ b j) ∧ σ = mkS [(0, slFeat false a), (1, slFeat false b), (5, I i)] []) (((a.length : Int) - 0).toNat) ⟨0, rfl, (by omega), (by intro j hj; omega), rfl⟩ (fun n σ hI => ?_)
    obtain ⟨i, rfl, hi0, he0, rfl⟩ := hI
    refine aw_seq ?_
    refine aw_seq ?_
    by_cases h2 : i < (a.length : Int)
    · have hi : i.toNat < a.length := by omega
      have hib : i.toNat < b.length := by omega
      refine aw_reg [(3, .dec true)] [0, 1, 5, 14] [] [slFeat false a, slFeat false b, I i, Bv true] [] [i < (a.length : Int)] (by kernel_rfl) hB ⟨h2, trivial⟩ ?_
      refine ae_then ?_
      refine aw_true rfl ?_
      refine aw_skip ?_
      refine ae_then ?_
      refine aw_seq ?_
      refine aw_block ?_
      refine aw_seq ?_
      rcases Bool.eq_false_or_eq_true (same (at_ a i.toNat) (at_ b i.toNat)) with h3 | h3
      · have HEQ := h3
        refine aw_reg [(8, .call [(true, .agg [I ((at_ a i.toNat).X), I ((at_ a i.toNat).Y), I ((at_ a i.toNat).D)]), (true, .agg [I ((at_ b i.toNat).X), I ((at_ b i.toNat).Y), I ((at_ b i.toNat).D)])] true (Bv true))] [0, 1, 5, 26] [] [slFeat false a, slFeat false b, I i, Bv false] [] [(0 : Int) ≤ i ∧ i < (a.length : Int), (0 : Int) ≤ i ∧ i < (b.length : Int), Con Try.prog 97 [.agg [I ((at_ a i.toNat).X), I ((at_ a i.toNat).Y), I ((at_ a i.toNat).D)], .agg [I ((at_ b i.toNat).X), I ((at_ b i.toNat).Y), I ((at_ b i.toNat).D)]] true (Bv true) ∧ ((.agg [I ((at_ a i.toNat).X), I ((at_ a i.toNat).Y), I ((at_ a i.toNat).D)] : AV) = .agg [I ((at_ a i.toNat).X), I ((at_ a i.toNat).Y), I ((at_ a i.toNat).D)]) ∧ ((.agg [I ((at_ b i.toNat).X), I ((at_ b i.toNat).Y), I ((at_ b i.toNat).D)] : AV) = .agg [I ((at_ b i.toNat).X), I ((at_ b i.toNat).Y), I ((at_ b i.toNat).D)]) ∧ True] (by kernel_rfl) hB ⟨⟨(by omega), (by omega)⟩, ⟨(by omega), (by omega)⟩, ⟨(con_bool h3 (eqFeat_ok (at_ a i.toNat) (at_ b i.toNat))), rfl, rfl, trivial⟩, trivial⟩ ?_
        refine ae_then ?_
        refine aw_false rfl ?_
        refine aw_skip ?_
        refine ae_block 1 ?_
        refine ae_then ?_
        refine aw_reg [] [0, 1, 5] [] [slFeat false a, slFeat false b, I (i + 1)] [] [inR .i64 (i + 1)] (by kernel_rfl) hB ⟨(inR_i64 (by omega) (by omega)), trivial⟩ ?_
        exact ae_again _ (by omega) ⟨(i + 1), rfl, (by omega), (by intro j hj; by_cases ej : j = i.toNat; (subst ej; simpa [same] using HEQ); exact he0 j (by omega)), rfl⟩
      · refine aw_reg [(8, .call [(true, .agg [I ((at_ a i.toNat).X), I ((at_ a i.toNat).Y), I ((at_ a i.toNat).D)]), (true, .agg [I ((at_ b i.toNat).X), I ((at_ b i.toNat).Y), I ((at_ b i.toNat).D)])] true (Bv false))] [0, 1, 5, 26] [] [slFeat false a, slFeat false b, I i, Bv true] [] [(0 : Int) ≤ i ∧ i < (a.length : Int), (0 : Int) ≤ i ∧ i < (b.length : Int), Con Try.prog 97 [.agg [I ((at_ a i.toNat).X), I ((at_ a i.toNat).Y), I ((at_ a i.toNat).D)], .agg [I ((at_ b i.toNat).X), I ((at_ b i.toNat).Y), I ((at_ b i.toNat).D)]] true (Bv false) ∧ ((.agg [I ((at_ a i.toNat).X), I ((at_ a i.toNat).Y), I ((at_ a i.toNat).D)] : AV) = .agg [I ((at_ a i.toNat).X), I ((at_ a i.toNat).Y), I ((at_ a i.toNat).D)]) ∧ ((.agg [I ((at_ b i.toNat).X), I ((at_ b i.toNat).Y), I ((at_ b i.toNat).D)] : AV) = .agg [I ((at_ b i.toNat).X), I ((at_ b i.toNat).Y), I ((at_ b i.toNat).D)]) ∧ True] (by kernel_rfl) hB ⟨⟨(by omega), (by omega)⟩, ⟨(by omega), (by omega)⟩, ⟨(con_bool h3 (eqFeat_ok (at_ a i.toNat) (at_ b i.toNat))), rfl, rfl, trivial⟩, trivial⟩ ?_
        refine ae_then ?_
        refine aw_true rfl ?_
        refine aw_seq ?_
        refine aw_reg [] [4] [] [Bv false] [] [] (by kernel_rfl) hB trivial ?_
        refine ae_then ?_
        refine aw_ret ?_
        refine ae_ret_block (ae_ret_then (ae_ret_then (ae_ret_block (ae_ret_then ?_))))
        refine ae_ret hB (Bv false) (by kernel_rfl) (.inl (by first | (refine congrArg Bv (Eq.symm (decide_eq_false ?_)); intro e; subst e; simp_all [same]; done) | (exact congrArg Bv (Eq.symm (decide_eq_true hfin))))) rfl (fun _ => trivial)
    · have hfin : a = b := ext_at (by omega) (fun j hj => he0 j (by omega))
      refine aw_reg [(3, .dec false)] [0, 1, 5, 14] [] [slFeat false a, slFeat false b, I i, Bv false] [] [¬ (i < (a.length : Int))] (by kernel_rfl) hB ⟨h2, trivial⟩ ?_
      refine ae_then ?_
      refine aw_false rfl ?_
      refine aw_exit ?_
      refine ae_exit_then ?_
      refine ae_exit_then ?_
      refine ae_exit_same ?_
      refine ae_then ?_
      refine aw_seq ?_
      refine aw_reg [] [4] [] [Bv true] [] [] (by kernel_rfl) hB trivial ?_
      refine ae_then ?_
      refine aw_ret ?_
      refine ae_ret hB (Bv true) (by kernel_rfl) (.inl (by first | (refine congrArg Bv (Eq.symm (decide_eq_false ?_)); intro e; subst e; simp_all [same]; done) | (exact congrArg Bv (Eq.symm (decide_eq_true hfin))))) rfl (fun _ => trivial)
  · refine aw_reg [(4, .dec true)] [0, 1, 10] [] [slFeat false a, slFeat false b, Bv true] [] [(a.length : Int) ≠ (b.length : Int)] (by kernel_rfl) hB ⟨h1, trivial⟩ ?_
    refine ae_then ?_
    refine aw_true rfl ?_
    refine aw_seq ?_
    refine aw_reg [] [4] [] [Bv false] [] [] (by kernel_rfl) hB trivial ?_
    refine ae_then ?_
    refine aw_ret ?_
    refine ae_ret_then ?_
    refine ae_ret hB (Bv false) (by kernel_rfl) (.inl (by first | (refine congrArg Bv (Eq.symm (decide_eq_false ?_)); intro e; subst e; simp_all [same]; done) | (exact congrArg Bv (Eq.symm (decide_eq_true hfin))))) rfl (fun _ => trivial)


-- laws.eqTrained
theorem eqTrained_ok (a : Trained) (b : Trained) : Con Try.prog 15 [.agg [Sv a.Label, slFeat false a.Base, slFeat false a.Feats, I a.Count], .agg [Sv b.Label, slFeat false b.Base, slFeat false b.Feats, I b.Count]] true (Bv (same a b)) := by
  refine fn_ok (fn := Try.f15) (nt := 27) Try.func15 rfl rfl rfl rfl (by simp [taggedL, tagged, tagFeat]) fun B hB => ?_
  refine aw_lens (x := .agg [Sv a.Label, slFeat false a.Base, slFeat false a.Feats, I a.Count]) 0 rfl (fun len_a => ?_)
  simp [LenOK, LenL, cFeat, fFeat, slFeat] at len_a
  refine aw_lens (x := .agg [Sv b.Label, slFeat false b.Base, slFeat false b.Feats, I b.Count]) 1 rfl (fun len_b => ?_)
  simp [LenOK, LenL, cFeat, fFeat, slFeat] at len_b
  refine aw_seq ?_
  refine aw_reg [(0, .new 2), (1, .new 3)] [2, 3] [2, 3] [.ref 2 0, .ref 3 0] [some (.box [Sv a.Label, slFeat false a.Base, slFeat false a.Feats, I a.Count]), some (.box [Sv b.Label, slFeat false b.Base, slFeat false b.Feats, I b.Count])] [] (by kernel_rfl) hB trivial ?_
  refine ae_then ?_
  refine aw_seq ?_
  refine aw_seq ?_
  by_cases h1 : a.Label = b.Label
  · refine aw_reg [(4, .dec false)] [2, 3, 9] [2, 3] [.ref 2 0, .ref 3 0, Bv false] [some (.box [Sv a.Label, slFeat false a.Base, slFeat false a.Feats, I a.Count]), some (.box [Sv b.Label, slFeat false b.Base, slFeat false b.Feats, I b.Count])] [¬ (a.Label ≠ b.Label)] (by kernel_rfl) hB ⟨(fun hq => hq h1), trivial⟩ ?_
    refine ae_then ?_
    refine aw_false rfl ?_
    refine aw_skip ?_
    refine ae_then ?_
    refine aw_seq ?_
    refine aw_seq ?_
    rcases Bool.eq_false_or_eq_true (same a.Base b.Base) with h2 | h2
    · refine aw_reg [(4, .call [(true, slFeat false a.Base), (true, slFeat false b.Base)] true (Bv true))] [2, 3, 15] [2, 3] [.ref 2 0, .ref 3 0, Bv false] [some (.box [Sv a.Label, slFeat false a.Base, slFeat false a.Feats, I a.Count]), some (.box [Sv b.Label, slFeat false b.Base, slFeat false b.Feats, I b.Count])] [Con Try.prog 51 [slFeat false a.Base, slFeat false b.Base] true (Bv true) ∧ ((slFeat false a.Base : AV) = slFeat false a.Base) ∧ ((slFeat false b.Base : AV) = slFeat false b.Base) ∧ True] (by kernel_rfl) hB ⟨⟨(con_bool h2 (eqFeatS_ok a.Base b.Base)), rfl, rfl, trivial⟩, trivial⟩ ?_
      refine ae_then ?_
      refine aw_false rfl ?_
      refine aw_skip ?_
      refine ae_then ?_
      refine aw_seq ?_
      refine aw_seq ?_
      rcases Bool.eq_false_or_eq_true (same a.Feats b.Feats) with h3 | h3
      · refine aw_reg [(4, .call [(true, slFeat false a.Feats), (true, slFeat false b.Feats)] true (Bv true))] [2, 3, 21] [2, 3] [.ref 2 0, .ref 3 0, Bv false] [some (.box [Sv a.Label, slFeat false a.Base, slFeat false a.Feats, I a.Count]), some (.box [Sv b.Label, slFeat false b.Base, slFeat false b.Feats, I b.Count])] [Con Try.prog 51 [slFeat false a.Feats, slFeat false b.Feats] true (Bv true) ∧ ((slFeat false a.Feats : AV) = slFeat false a.Feats) ∧ ((slFeat false b.Feats : AV) = slFeat false b.Feats) ∧ True] (by kernel_rfl) hB ⟨⟨(con_bool h3 (eqFeatS_ok a.Feats b.Feats)), rfl, rfl, trivial⟩, trivial⟩ ?_
        refine ae_then ?_
        refine aw_false rfl ?_
        refine aw_skip ?_
        refine ae_then ?_
        refine aw_seq ?_
        refine aw_seq ?_
        by_cases h4 : a.Count = b.Count
        · refine aw_reg [(4, .dec false)] [26] [] [Bv false] [] [¬ (a.Count ≠ b.Count)] (by kernel_rfl) hB ⟨(fun hq => hq h4), trivial⟩ ?_
          refine ae_then ?_
          refine aw_false rfl ?_
          refine aw_skip ?_
          refine ae_then ?_
          refine aw_seq ?_
          refine aw_reg [] [4] [] [Bv true] [] [] (by kernel_rfl) hB trivial ?_
          refine ae_then ?_
          refine aw_ret ?_
          refine ae_ret hB (Bv true) (by kernel_rfl) (.inl (by first | (cases a; cases b; simp_all [same]; done) | (cases a; cases b; simp_all [same]; omega))) rfl (fun _ => trivial)
        · refine aw_reg [(4, .dec true)] [26] [] [Bv true] [] [a.Count ≠ b.Count] (by kernel_rfl) hB ⟨h4, trivial⟩ ?_
          refine ae_then ?_
          refine aw_true rfl ?_
          refine aw_seq ?_
          refine aw_reg [] [4] [] [Bv false] [] [] (by kernel_rfl) hB trivial ?_
          refine ae_then ?_
          refine aw_ret ?_
          refine ae_ret_then ?_
          refine ae_ret hB (Bv false) (by kernel_rfl) (.inl (by first | (cases a; cases b; simp_all [same]; done) | (cases a; cases b; simp_all [same]; omega))) rfl (fun _ => trivial)
      · refine aw_reg [(4, .call [(true, slFeat false a.Feats), (true, slFeat false b.Feats)] true (Bv false))] [2, 3, 21] [2, 3] [.ref 2 0, .ref 3 0, Bv true] [some (.box [Sv a.Label, slFeat false a.Base, slFeat false a.Feats, I a.Count]), some (.box [Sv b.Label, slFeat false b.Base, slFeat false b.Feats, I b.Count])] [Con Try.prog 51 [slFeat false a.Feats, slFeat false b.Feats] true (Bv false) ∧ ((slFeat false a.Feats : AV) = slFeat false a.Feats) ∧ ((slFeat false b.Feats : AV) = slFeat false b.Feats) ∧ True] (by kernel_rfl) hB ⟨⟨(con_bool h3 (eqFeatS_ok a.Feats b.Feats)), rfl, rfl, trivial⟩, trivial⟩ ?_
        refine ae_then ?_
        refine aw_true rfl ?_
        refine aw_seq ?_
        refine aw_reg [] [4] [] [Bv false] [] [] (by kernel_rfl) hB trivial ?_
        refine ae_then ?_
        refine aw_ret ?_
        refine ae_ret_then ?_
        refine ae_ret hB (Bv false) (by kernel_rfl) (.inl (by first | (cases a; cases b; simp_all [same]; done) | (cases a; cases b; simp_all [same]; omega))) rfl (fun _ => trivial)
    · refine aw_reg [(4, .call [(true, slFeat false a.Base), (true, slFeat false b.Base)] true (Bv false))] [2, 3, 15] [2, 3] [.ref 2 0, .ref 3 0, Bv true] [some (.box [Sv a.Label, slFeat false a.Base, slFeat false a.Feats, I a.Count]), some (.box [Sv b.Label, slFeat false b.Base, slFeat false b.Feats, I b.Count])] [Con Try.prog 51 [slFeat false a.Base, slFeat false b.Base] true (Bv false) ∧ ((slFeat false a.Base : AV) = slFeat false a.Base) ∧ ((slFeat false b.Base : AV) = slFeat false b.Base) ∧ True] (by kernel_rfl) hB ⟨⟨(con_bool h2 (eqFeatS_ok a.Base b.Base)), rfl, rfl, trivial⟩, trivial⟩ ?_
      refine ae_then ?_
      refine aw_true rfl ?_
      refine aw_seq ?_
      refine aw_reg [] [4] [] [Bv false] [] [] (by kernel_rfl) hB trivial ?_
      refine ae_then ?_
      refine aw_ret ?_
      refine ae_ret_then ?_
      refine ae_ret hB (Bv false) (by kernel_rfl) (.inl (by first | (cases a; cases b; simp_all [same]; done) | (cases a; cases b; simp_all [same]; omega))) rfl (fun _ => trivial)
  · refine aw_reg [(4, .dec true)] [2, 3, 9] [2, 3] [.ref 2 0, .ref 3 0, Bv true] [some (.box [Sv a.Label, slFeat false a.Base, slFeat false a.Feats, I a.Count]), some (.box [Sv b.Label, slFeat false b.Base, slFeat false b.Feats, I b.Count])] [a.Label ≠ b.Label] (by kernel_rfl) hB ⟨h1, trivial⟩ ?_
    refine ae_then ?_
    refine aw_true rfl ?_
    refine aw_seq ?_
    refine aw_reg [] [4] [] [Bv false] [] [] (by kernel_rfl) hB trivial ?_
    refine ae_then ?_
    refine aw_ret ?_
    refine ae_ret_then ?_
    refine ae_ret hB (Bv false) (by kernel_rfl) (.inl (by first | (cases a; cases b; simp_all [same]; done) | (cases a; cases b; simp_all [same]; omega))) rfl (fun _ => trivial)


-- laws.eqTrainedS
theorem eqTrainedS_ok (a : List Trained) (b : List Trained) : Con Try.prog 69 [slTrained false a, slTrained false b] true (Bv (same a b)) := by
  refine fn_ok (fn := Try.f69) (nt := 27) Try.func69 rfl rfl rfl rfl (by simp [taggedL, tagged, tagTrained]) fun B hB => ?_
  refine aw_lens (x := slTrained false a) 0 rfl (fun len_a => ?_)
  simp [LenOK, LenL, cFeat, cTrained, fFeat, fTrained, slFeat, slTrained] at len_a
  refine aw_lens (x := slTrained false b) 1 rfl (fun len_b => ?_)
  simp [LenOK, LenL, cFeat, cTrained, fFeat, fTrained, slFeat, slTrained] at len_b
  refine aw_seq ?_
  refine aw_reg [] [0, 1] [] [slTrained false a, slTrained false b] [] [] (by kernel_rfl) hB trivial ?_
  refine ae_then ?_
  refine aw_seq ?_
  refine aw_seq ?_
  by_cases h1 : (a.length : Int) = (b.length : Int)
  · refine aw_reg [(4, .dec false)] [0, 1, 10] [] [slTrained false a, slTrained false b, Bv false] [] [¬ ((a.length : Int) ≠ (b.length : Int))] (by kernel_rfl) hB ⟨(fun hq => hq h1), trivial⟩ ?_
    refine ae_then ?_
    refine aw_false rfl ?_
    refine aw_skip ?_
    refine ae_then ?_
    refine aw_seq ?_
    refine aw_seq ?_
    refine aw_reg [] [0, 1, 5] [] [slTrained false a, slTrained false b, I 0] [] [] (by kernel_rfl) hB trivial ?_
    refine ae_then ?_
    refine aw_block ?_
    refine aw_loop (fun n σ => ∃ (i : Int), n = ((a.length : Int) - i).toNat ∧ (0 ≤ i ∧ i ≤ (a.length : Int)) ∧ (∀ j : Nat, (j : Int) < i → at_ a j = at_ b j) ∧ σ = mkS [(0, slTrained false a), (1, slTrained false b), (5, I i)] []) (((a.length : Int) - 0).toNat) ⟨0, rfl, (by omega), (by intro j hj; omega), rfl⟩ (fun n σ hI => ?_)
    obtain ⟨i, rfl, hi0, he0, rfl⟩ := hI
    refine aw_seq ?_
    refine aw_seq ?_
    by_cases h2 : i < (a.length : Int)
    · have hi : i.toNat < a.length := by omega
      have hib : i.toNat < b.length := by omega
      refine aw_reg [(3, .dec true)] [0, 1, 5, 14] [] [slTrained false a, slTrained false b, I i, Bv true] [] [i < (a.length : Int)] (by kernel_rfl) hB ⟨h2, trivial⟩ ?_
      refine ae_then ?_
      refine aw_true rfl ?_
      refine aw_skip ?_
      refine ae_then ?_
      refine aw_seq ?_
      refine aw_block ?_
      refine aw_seq ?_
      rcases Bool.eq_false_or_eq_true (same (at_ a i.toNat) (at_ b i.toNat)) with h3 | h3
      · have HEQ := h3
        refine aw_reg [(8, .call [(true, .agg [Sv ((at_ a i.toNat).Label), slFeat false ((at_ a i.toNat).Base), slFeat false ((at_ a i.toNat).Feats), I ((at_ a i.toNat).Count)]), (true, .agg [Sv ((at_ b i.toNat).Label), slFeat false ((at_ b i.toNat).Base), slFeat false ((at_ b i.toNat).Feats), I ((at_ b i.toNat).Count)])] true (Bv true))] [0, 1, 5, 26] [] [slTrained false a, slTrained false b, I i, Bv false] [] [(0 : Int) ≤ i ∧ i < (a.length : Int), (0 : Int) ≤ i ∧ i < (b.length : Int), Con Try.prog 15 [.agg [Sv ((at_ a i.toNat).Label), slFeat false ((at_ a i.toNat).Base), slFeat false ((at_ a i.toNat).Feats), I ((at_ a i.toNat).Count)], .agg [Sv ((at_ b i.toNat).Label), slFeat false ((at_ b i.toNat).Base), slFeat false ((at_ b i.toNat).Feats), I ((at_ b i.toNat).Count)]] true (Bv true) ∧ ((.agg [Sv ((at_ a i.toNat).Label), slFeat false ((at_ a i.toNat).Base), slFeat false ((at_ a i.toNat).Feats), I ((at_ a i.toNat).Count)] : AV) = .agg [Sv ((at_ a i.toNat).Label), slFeat false ((at_ a i.toNat).Base), slFeat false ((at_ a i.toNat).Feats), I ((at_ a i.toNat).Count)]) ∧ ((.agg [Sv ((at_ b i.toNat).Label), slFeat false ((at_ b i.toNat).Base), slFeat false ((at_ b i.toNat).Feats), I ((at_ b i.toNat).Count)] : AV) = .agg [Sv ((at_ b i.toNat).Label), slFeat false ((at_ b i.toNat).Base), slFeat false ((at_ b i.toNat).Feats), I ((at_ b i.toNat).Count)]) ∧ True] (by kernel_rfl) hB ⟨⟨(by omega), (by omega)⟩, ⟨(by omega), (by omega)⟩, ⟨(con_bool h3 (eqTrained_ok (at_ a i.toNat) (at_ b i.toNat))), rfl, rfl, trivial⟩, trivial⟩ ?_
        refine ae_then ?_
        refine aw_false rfl ?_
        refine aw_skip ?_
        refine ae_block 1 ?_
        refine ae_then ?_
        refine aw_reg [] [0, 1, 5] [] [slTrained false a, slTrained false b, I (i + 1)] [] [inR .i64 (i + 1)] (by kernel_rfl) hB ⟨(inR_i64 (by omega) (by omega)), trivial⟩ ?_
        exact ae_again _ (by omega) ⟨(i + 1), rfl, (by omega), (by intro j hj; by_cases ej : j = i.toNat; (subst ej; simpa [same] using HEQ); exact he0 j (by omega)), rfl⟩
      · refine aw_reg [(8, .call [(true, .agg [Sv ((at_ a i.toNat).Label), slFeat false ((at_ a i.toNat).Base), slFeat false ((at_ a i.toNat).Feats), I ((at_ a i.toNat).Count)]), (true, .agg [Sv ((at_ b i.toNat).Label), slFeat false ((at_ b i.toNat).Base), slFeat false ((at_ b i.toNat).Feats), I ((at_ b i.toNat).Count)])] true (Bv false))] [0, 1, 5, 26] [] [slTrained false a, slTrained false b, I i, Bv true] [] [(0 : Int) ≤ i ∧ i < (a.length : Int), (0 : Int) ≤ i ∧ i < (b.length : Int), Con Try.prog 15 [.agg [Sv ((at_ a i.toNat).Label), slFeat false ((at_ a i.toNat).Base), slFeat false ((at_ a i.toNat).Feats), I ((at_ a i.toNat).Count)], .agg [Sv ((at_ b i.toNat).Label), slFeat false ((at_ b i.toNat).Base), slFeat false ((at_ b i.toNat).Feats), I ((at_ b i.toNat).Count)]] true (Bv false) ∧ ((.agg [Sv ((at_ a i.toNat).Label), slFeat false ((at_ a i.toNat).Base), slFeat false ((at_ a i.toNat).Feats), I ((at_ a i.toNat).Count)] : AV) = .agg [Sv ((at_ a i.toNat).Label), slFeat false ((at_ a i.toNat).Base), slFeat false ((at_ a i.toNat).Feats), I ((at_ a i.toNat).Count)]) ∧ ((.agg [Sv ((at_ b i.toNat).Label), slFeat false ((at_ b i.toNat).Base), slFeat false ((at_ b i.toNat).Feats), I ((at_ b i.toNat).Count)] : AV) = .agg [Sv ((at_ b i.toNat).Label), slFeat false ((at_ b i.toNat).Base), slFeat false ((at_ b i.toNat).Feats), I ((at_ b i.toNat).Count)]) ∧ True] (by kernel_rfl) hB ⟨⟨(by omega), (by omega)⟩, ⟨(by omega), (by omega)⟩, ⟨(con_bool h3 (eqTrained_ok (at_ a i.toNat) (at_ b i.toNat))), rfl, rfl, trivial⟩, trivial⟩ ?_
        refine ae_then ?_
        refine aw_true rfl ?_
        refine aw_seq ?_
        refine aw_reg [] [4] [] [Bv false] [] [] (by kernel_rfl) hB trivial ?_
        refine ae_then ?_
        refine aw_ret ?_
        refine ae_ret_block (ae_ret_then (ae_ret_then (ae_ret_block (ae_ret_then ?_))))
        refine ae_ret hB (Bv false) (by kernel_rfl) (.inl (by first | (refine congrArg Bv (Eq.symm (decide_eq_false ?_)); intro e; subst e; simp_all [same]; done) | (exact congrArg Bv (Eq.symm (decide_eq_true hfin))))) rfl (fun _ => trivial)
    · have hfin : a = b := ext_at (by omega) (fun j hj => he0 j (by omega))
      refine aw_reg [(3, .dec false)] [0, 1, 5, 14] [] [slTrained false a, slTrained false b, I i, Bv false] [] [¬ (i < (a.length : Int))] (by kernel_rfl) hB ⟨h2, trivial⟩ ?_
      refine ae_then ?_
      refine aw_false rfl ?_
      refine aw_exit ?_
      refine ae_exit_then ?_
      refine ae_exit_then ?_
      refine ae_exit_same ?_
      refine ae_then ?_
      refine aw_seq ?_
      refine aw_reg [] [4] [] [Bv true] [] [] (by kernel_rfl) hB trivial ?_
      refine ae_then ?_
      refine aw_ret ?_
      refine ae_ret hB (Bv true) (by kernel_rfl) (.inl (by first | (refine congrArg Bv (Eq.symm (decide_eq_false ?_)); intro e; subst e; simp_all [same]; done) | (exact congrArg Bv (Eq.symm (decide_eq_true hfin))))) rfl (fun _ => trivial)
  · refine aw_reg [(4, .dec true)] [0, 1, 10] [] [slTrained false a, slTrained false b, Bv true] [] [(a.length : Int) ≠ (b.length : Int)] (by kernel_rfl) hB ⟨h1, trivial⟩ ?_
    refine ae_then ?_
    refine aw_true rfl ?_
    refine aw_seq ?_
    refine aw_reg [] [4] [] [Bv false] [] [] (by kernel_rfl) hB trivial ?_
    refine ae_then ?_
    refine aw_ret ?_
    refine ae_ret_then ?_
    refine ae_ret hB (Bv false) (by kernel_rfl) (.inl (by first | (refine congrArg Bv (Eq.symm (decide_eq_false ?_)); intro e; subst e; simp_all [same]; done) | (exact congrArg Bv (Eq.symm (decide_eq_true hfin))))) rfl (fun _ => trivial)


-- laws.eqWriter
theorem eqWriter_ok (a : Writer) (b : Writer) : Con Try.prog 28 [.agg [I a.Band, slTrained false a.Trained], .agg [I b.Band, slTrained false b.Trained]] true (Bv (same a b)) := by
  refine fn_ok (fn := Try.f28) (nt := 16) Try.func28 rfl rfl rfl rfl (by simp [taggedL, tagged, tagTrained]) fun B hB => ?_
  refine aw_lens (x := .agg [I a.Band, slTrained false a.Trained]) 0 rfl (fun len_a => ?_)
  simp [LenOK, LenL, cFeat, cTrained, fFeat, fTrained, slFeat, slTrained] at len_a
  refine aw_lens (x := .agg [I b.Band, slTrained false b.Trained]) 1 rfl (fun len_b => ?_)
  simp [LenOK, LenL, cFeat, cTrained, fFeat, fTrained, slFeat, slTrained] at len_b
  refine aw_seq ?_
  refine aw_reg [(0, .new 2), (1, .new 3)] [2, 3] [2, 3] [.ref 2 0, .ref 3 0] [some (.box [I a.Band, slTrained false a.Trained]), some (.box [I b.Band, slTrained false b.Trained])] [] (by kernel_rfl) hB trivial ?_
  refine ae_then ?_
  refine aw_seq ?_
  refine aw_seq ?_
  by_cases h1 : a.Band = b.Band
  · refine aw_reg [(4, .dec false)] [2, 3, 9] [2, 3] [.ref 2 0, .ref 3 0, Bv false] [some (.box [I a.Band, slTrained false a.Trained]), some (.box [I b.Band, slTrained false b.Trained])] [¬ (a.Band ≠ b.Band)] (by kernel_rfl) hB ⟨(fun hq => hq h1), trivial⟩ ?_
    refine ae_then ?_
    refine aw_false rfl ?_
    refine aw_skip ?_
    refine ae_then ?_
    refine aw_seq ?_
    refine aw_seq ?_
    rcases Bool.eq_false_or_eq_true (same a.Trained b.Trained) with h2 | h2
    · refine aw_reg [(4, .call [(true, slTrained false a.Trained), (true, slTrained false b.Trained)] true (Bv true))] [15] [] [Bv false] [] [Con Try.prog 69 [slTrained false a.Trained, slTrained false b.Trained] true (Bv true) ∧ ((slTrained false a.Trained : AV) = slTrained false a.Trained) ∧ ((slTrained false b.Trained : AV) = slTrained false b.Trained) ∧ True] (by kernel_rfl) hB ⟨⟨(con_bool h2 (eqTrainedS_ok a.Trained b.Trained)), rfl, rfl, trivial⟩, trivial⟩ ?_
      refine ae_then ?_
      refine aw_false rfl ?_
      refine aw_skip ?_
      refine ae_then ?_
      refine aw_seq ?_
      refine aw_reg [] [4] [] [Bv true] [] [] (by kernel_rfl) hB trivial ?_
      refine ae_then ?_
      refine aw_ret ?_
      refine ae_ret hB (Bv true) (by kernel_rfl) (.inl (by first | (cases a; cases b; simp_all [same]; done) | (cases a; cases b; simp_all [same]; omega))) rfl (fun _ => trivial)
    · refine aw_reg [(4, .call [(true, slTrained false a.Trained), (true, slTrained false b.Trained)] true (Bv false))] [15] [] [Bv true] [] [Con Try.prog 69 [slTrained false a.Trained, slTrained false b.Trained] true (Bv false) ∧ ((slTrained false a.Trained : AV) = slTrained false a.Trained) ∧ ((slTrained false b.Trained : AV) = slTrained false b.Trained) ∧ True] (by kernel_rfl) hB ⟨⟨(con_bool h2 (eqTrainedS_ok a.Trained b.Trained)), rfl, rfl, trivial⟩, trivial⟩ ?_
      refine ae_then ?_
      refine aw_true rfl ?_
      refine aw_seq ?_
      refine aw_reg [] [4] [] [Bv false] [] [] (by kernel_rfl) hB trivial ?_
      refine ae_then ?_
      refine aw_ret ?_
      refine ae_ret_then ?_
      refine ae_ret hB (Bv false) (by kernel_rfl) (.inl (by first | (cases a; cases b; simp_all [same]; done) | (cases a; cases b; simp_all [same]; omega))) rfl (fun _ => trivial)
  · refine aw_reg [(4, .dec true)] [2, 3, 9] [2, 3] [.ref 2 0, .ref 3 0, Bv true] [some (.box [I a.Band, slTrained false a.Trained]), some (.box [I b.Band, slTrained false b.Trained])] [a.Band ≠ b.Band] (by kernel_rfl) hB ⟨h1, trivial⟩ ?_
    refine ae_then ?_
    refine aw_true rfl ?_
    refine aw_seq ?_
    refine aw_reg [] [4] [] [Bv false] [] [] (by kernel_rfl) hB trivial ?_
    refine ae_then ?_
    refine aw_ret ?_
    refine ae_ret_then ?_
    refine ae_ret hB (Bv false) (by kernel_rfl) (.inl (by first | (cases a; cases b; simp_all [same]; done) | (cases a; cases b; simp_all [same]; omega))) rfl (fun _ => trivial)


theorem same_self {α : Type} [DecidableEq α] (x : α) : same x x = true := by simp [same]

-- laws.FnExactValidWriter
theorem fnExactValidWriter_con (aW : Writer) (ok_aW : okWriter aW) : Con Try.prog 5 [.agg [I aW.Band, slTrained false aW.Trained]] true (Bv true) := by
  refine fn_ok (fn := Try.f5) (nt := 27) Try.func5 rfl rfl rfl rfl (by simp [taggedL, tagged, tagTrained]) fun B hB => ?_
  refine aw_lens (x := .agg [I aW.Band, slTrained false aW.Trained]) 0 rfl (fun len_aW => ?_)
  simp [LenOK, LenL, cFeat, cTrained, fFeat, fTrained, slFeat, slTrained] at len_aW
  refine aw_seq ?_
  refine aw_reg [(0, .new 1)] [1] [1] [.ref 1 0] [some (.box [I aW.Band, slTrained false aW.Trained])] [] (by kernel_rfl) hB trivial ?_
  refine ae_then ?_
  refine aw_seq ?_
  refine aw_reg [] [1, 3] [1] [.ref 1 0, I 1048576] [some (.box [I aW.Band, slTrained false aW.Trained])] [] (by kernel_rfl) hB trivial ?_
  refine ae_then ?_
  refine aw_seq ?_
  refine aw_reg [(2, .call [(true, .agg [I aW.Band, slTrained false aW.Trained]), (true, I 1048576)] true (I (szTake 1048576 (bulkWriter aW))))] [1, 3] [1] [.ref 1 0, I (szTake 1048576 (bulkWriter aW))] [some (.box [I aW.Band, slTrained false aW.Trained])] [Con Try.prog 24 [.agg [I aW.Band, slTrained false aW.Trained], I 1048576] true (I (szTake 1048576 (bulkWriter aW))) ∧ ((.agg [I aW.Band, slTrained false aW.Trained] : AV) = .agg [I aW.Band, slTrained false aW.Trained]) ∧ ((I 1048576 : AV) = I 1048576) ∧ True] (by kernel_rfl) hB ⟨⟨(szWriter_ok aW 1048576 (by omega) ok_aW), rfl, rfl, trivial⟩, trivial⟩ ?_
  refine ae_then ?_
  refine aw_seq ?_
  refine aw_seq ?_
  by_cases h1 : (szTake 1048576 (bulkWriter aW)) < 0
  · refine aw_reg [(1, .dec true)] [1, 11] [1] [.ref 1 0, Bv true] [some (.box [I aW.Band, slTrained false aW.Trained])] [(szTake 1048576 (bulkWriter aW)) < 0] (by kernel_rfl) hB ⟨h1, trivial⟩ ?_
    refine ae_then ?_
    refine aw_true rfl ?_
    refine aw_seq ?_
    refine aw_reg [] [2] [] [Bv true] [] [] (by kernel_rfl) hB trivial ?_
    refine ae_then ?_
    refine aw_ret ?_
    refine ae_ret_then ?_
    refine ae_ret hB (Bv true) (by kernel_rfl) (.inl rfl) rfl (fun _ => trivial)
  · have eh1 := szTake_nn h1
    refine aw_reg [(1, .dec false)] [1, 11] [1] [.ref 1 0, Bv false] [some (.box [I aW.Band, slTrained false aW.Trained])] [¬ ((szTake 1048576 (bulkWriter aW)) < 0)] (by kernel_rfl) hB ⟨h1, trivial⟩ ?_
    refine ae_then ?_
    refine aw_false rfl ?_
    refine aw_skip ?_
    refine ae_then ?_
    refine aw_seq ?_
    rcases Bool.eq_false_or_eq_true (okWriter' aW) with h2 | h2
    · refine aw_reg [(1, .call [(true, .agg [I aW.Band, slTrained false aW.Trained])] true (.agg [I aW.Band, slTrained true aW.Trained])), (2, .call [(false, .agg [I aW.Band, slTrained false aW.Trained])] true (Bv true))] [1, 4] [1] [.ref 1 0, Bv true] [some (.box [I aW.Band, slTrained false aW.Trained])] [Con Try.prog 26 [.agg [I aW.Band, slTrained false aW.Trained]] true (.agg [I aW.Band, slTrained true aW.Trained]) ∧ ((.agg [I aW.Band, slTrained false aW.Trained] : AV) = .agg [I aW.Band, slTrained false aW.Trained]) ∧ True, Con Try.prog 25 [.agg [I aW.Band, slTrained false aW.Trained]] true (Bv true) ∧ ((valOf (I aW.Band) = valOf (I aW.Band)) ∧ ((false = true → true = true) ∧ 4 = 4 ∧ aW.Trained.length = aW.Trained.length ∧ ∀ i, i < aW.Trained.length → (fTrained true aW.Trained) i = (fTrained false aW.Trained) i ∨ (AV.idsL ((fTrained false aW.Trained) i) = [] ∧ leL (fun _ => none) false ((fTrained true aW.Trained) i) ((fTrained false aW.Trained) i))) ∧ ([] : List AV) = []) ∧ True] (by kernel_rfl) hB ⟨⟨(toWriter_ok aW (by omega)), rfl, trivial⟩, ⟨(con_bool h2 (specValidWriter_ok aW ok_aW)), ⟨rfl, ⟨⟨(fun h => by cases h), rfl, rfl, fun i _ => .inr ⟨idsTrained _ _, leTrained _ _ _⟩⟩, rfl⟩⟩, trivial⟩, trivial⟩ ?_
      refine ae_then ?_
      refine aw_seq ?_
      refine aw_reg [(1, .call [(true, .agg [I aW.Band, slTrained false aW.Trained])] true (.agg [I aW.Band, slTrained true aW.Trained])), (2, .new 5)] [1, 4, 5] [1, 5] [.ref 1 0, Bv true, .ref 5 0] [some (.box [I aW.Band, slTrained false aW.Trained]), some (.box [I aW.Band, slTrained true aW.Trained])] [Con Try.prog 26 [.agg [I aW.Band, slTrained false aW.Trained]] true (.agg [I aW.Band, slTrained true aW.Trained]) ∧ ((.agg [I aW.Band, slTrained false aW.Trained] : AV) = .agg [I aW.Band, slTrained false aW.Trained]) ∧ True] (by kernel_rfl) hB ⟨⟨(toWriter_ok aW (by omega)), rfl, trivial⟩, trivial⟩ ?_
      refine ae_then ?_
      refine aw_seq ?_
      refine aw_reg [(1, .call [(false, .agg [I aW.Band, slTrained false aW.Trained])] true (Bv true))] [1, 4, 5, 6] [1, 5] [.ref 1 0, Bv true, .ref 5 0, Bv true] [some (.box [I aW.Band, slTrained false aW.Trained]), some (.box [I aW.Band, slTrained true aW.Trained])] [Con Try.prog 27 [.agg [I aW.Band, slTrained false aW.Trained]] true (Bv true) ∧ ((valOf (I aW.Band) = valOf (I aW.Band)) ∧ ((false = true → true = true) ∧ 4 = 4 ∧ aW.Trained.length = aW.Trained.length ∧ ∀ i, i < aW.Trained.length → (fTrained true aW.Trained) i = (fTrained false aW.Trained) i ∨ (AV.idsL ((fTrained false aW.Trained) i) = [] ∧ leL (fun _ => none) false ((fTrained true aW.Trained) i) ((fTrained false aW.Trained) i))) ∧ ([] : List AV) = []) ∧ True] (by kernel_rfl) hB ⟨⟨(con_bool h2 (ValidWriter_ok aW ok_aW)), ⟨rfl, ⟨⟨(fun h => by cases h), rfl, rfl, fun i _ => .inr ⟨idsTrained _ _, leTrained _ _ _⟩⟩, rfl⟩⟩, trivial⟩, trivial⟩ ?_
      refine ae_then ?_
      refine aw_seq ?_
      refine aw_seq ?_
      refine aw_reg [] [1, 5, 21] [1, 5] [.ref 1 0, .ref 5 0, Bv false] [some (.box [I aW.Band, slTrained false aW.Trained]), some (.box [I aW.Band, slTrained true aW.Trained])] [] (by kernel_rfl) hB trivial ?_
      refine ae_then ?_
      refine aw_false rfl ?_
      refine aw_skip ?_
      refine ae_then ?_
      refine aw_seq ?_
      refine aw_seq ?_
      refine aw_reg [(2, .call [(true, .agg [I aW.Band, slTrained false aW.Trained])] true (.agg [I aW.Band, slTrained true aW.Trained])), (3, .call [(false, .agg [I aW.Band, slTrained false aW.Trained]), (false, .agg [I aW.Band, slTrained false aW.Trained])] true (Bv true))] [26] [] [Bv false] [] [Con Try.prog 26 [.agg [I aW.Band, slTrained false aW.Trained]] true (.agg [I aW.Band, slTrained true aW.Trained]) ∧ ((.agg [I aW.Band, slTrained false aW.Trained] : AV) = .agg [I aW.Band, slTrained false aW.Trained]) ∧ True, Con Try.prog 28 [.agg [I aW.Band, slTrained false aW.Trained], .agg [I aW.Band, slTrained false aW.Trained]] true (Bv true) ∧ ((valOf (I aW.Band) = valOf (I aW.Band)) ∧ ((false = true → true = true) ∧ 4 = 4 ∧ aW.Trained.length = aW.Trained.length ∧ ∀ i, i < aW.Trained.length → (fTrained true aW.Trained) i = (fTrained false aW.Trained) i ∨ (AV.idsL ((fTrained false aW.Trained) i) = [] ∧ leL (fun _ => none) false ((fTrained true aW.Trained) i) ((fTrained false aW.Trained) i))) ∧ ([] : List AV) = []) ∧ ((valOf (I aW.Band) = valOf (I aW.Band)) ∧ ((false = true → true = true) ∧ 4 = 4 ∧ aW.Trained.length = aW.Trained.length ∧ ∀ i, i < aW.Trained.length → (fTrained true aW.Trained) i = (fTrained false aW.Trained) i ∨ (AV.idsL ((fTrained false aW.Trained) i) = [] ∧ leL (fun _ => none) false ((fTrained true aW.Trained) i) ((fTrained false aW.Trained) i))) ∧ ([] : List AV) = []) ∧ True] (by kernel_rfl) hB ⟨⟨(toWriter_ok aW (by omega)), rfl, trivial⟩, ⟨(con_bool (same_self _) (eqWriter_ok aW aW)), ⟨rfl, ⟨⟨(fun h => by cases h), rfl, rfl, fun i _ => .inr ⟨idsTrained _ _, leTrained _ _ _⟩⟩, rfl⟩⟩, ⟨rfl, ⟨⟨(fun h => by cases h), rfl, rfl, fun i _ => .inr ⟨idsTrained _ _, leTrained _ _ _⟩⟩, rfl⟩⟩, trivial⟩, trivial⟩ ?_
      refine ae_then ?_
      refine aw_false rfl ?_
      refine aw_skip ?_
      refine ae_then ?_
      refine aw_seq ?_
      refine aw_reg [] [2] [] [Bv true] [] [] (by kernel_rfl) hB trivial ?_
      refine ae_then ?_
      refine aw_ret ?_
      refine ae_ret hB (Bv true) (by kernel_rfl) (.inl rfl) rfl (fun _ => trivial)
    · refine aw_reg [(1, .call [(true, .agg [I aW.Band, slTrained false aW.Trained])] true (.agg [I aW.Band, slTrained true aW.Trained])), (2, .call [(false, .agg [I aW.Band, slTrained false aW.Trained])] true (Bv false))] [1, 4] [1] [.ref 1 0, Bv false] [some (.box [I aW.Band, slTrained false aW.Trained])] [Con Try.prog 26 [.agg [I aW.Band, slTrained false aW.Trained]] true (.agg [I aW.Band, slTrained true aW.Trained]) ∧ ((.agg [I aW.Band, slTrained false aW.Trained] : AV) = .agg [I aW.Band, slTrained false aW.Trained]) ∧ True, Con Try.prog 25 [.agg [I aW.Band, slTrained false aW.Trained]] true (Bv false) ∧ ((valOf (I aW.Band) = valOf (I aW.Band)) ∧ ((false = true → true = true) ∧ 4 = 4 ∧ aW.Trained.length = aW.Trained.length ∧ ∀ i, i < aW.Trained.length → (fTrained true aW.Trained) i = (fTrained false aW.Trained) i ∨ (AV.idsL ((fTrained false aW.Trained) i) = [] ∧ leL (fun _ => none) false ((fTrained true aW.Trained) i) ((fTrained false aW.Trained) i))) ∧ ([] : List AV) = []) ∧ True] (by kernel_rfl) hB ⟨⟨(toWriter_ok aW (by omega)), rfl, trivial⟩, ⟨(con_bool h2 (specValidWriter_ok aW ok_aW)), ⟨rfl, ⟨⟨(fun h => by cases h), rfl, rfl, fun i _ => .inr ⟨idsTrained _ _, leTrained _ _ _⟩⟩, rfl⟩⟩, trivial⟩, trivial⟩ ?_
      refine ae_then ?_
      refine aw_seq ?_
      refine aw_reg [(1, .call [(true, .agg [I aW.Band, slTrained false aW.Trained])] true (.agg [I aW.Band, slTrained true aW.Trained])), (2, .new 5)] [1, 4, 5] [1, 5] [.ref 1 0, Bv false, .ref 5 0] [some (.box [I aW.Band, slTrained false aW.Trained]), some (.box [I aW.Band, slTrained true aW.Trained])] [Con Try.prog 26 [.agg [I aW.Band, slTrained false aW.Trained]] true (.agg [I aW.Band, slTrained true aW.Trained]) ∧ ((.agg [I aW.Band, slTrained false aW.Trained] : AV) = .agg [I aW.Band, slTrained false aW.Trained]) ∧ True] (by kernel_rfl) hB ⟨⟨(toWriter_ok aW (by omega)), rfl, trivial⟩, trivial⟩ ?_
      refine ae_then ?_
      refine aw_seq ?_
      refine aw_reg [(1, .call [(false, .agg [I aW.Band, slTrained false aW.Trained])] true (Bv false))] [1, 4, 5, 6] [1, 5] [.ref 1 0, Bv false, .ref 5 0, Bv false] [some (.box [I aW.Band, slTrained false aW.Trained]), some (.box [I aW.Band, slTrained true aW.Trained])] [Con Try.prog 27 [.agg [I aW.Band, slTrained false aW.Trained]] true (Bv false) ∧ ((valOf (I aW.Band) = valOf (I aW.Band)) ∧ ((false = true → true = true) ∧ 4 = 4 ∧ aW.Trained.length = aW.Trained.length ∧ ∀ i, i < aW.Trained.length → (fTrained true aW.Trained) i = (fTrained false aW.Trained) i ∨ (AV.idsL ((fTrained false aW.Trained) i) = [] ∧ leL (fun _ => none) false ((fTrained true aW.Trained) i) ((fTrained false aW.Trained) i))) ∧ ([] : List AV) = []) ∧ True] (by kernel_rfl) hB ⟨⟨(con_bool h2 (ValidWriter_ok aW ok_aW)), ⟨rfl, ⟨⟨(fun h => by cases h), rfl, rfl, fun i _ => .inr ⟨idsTrained _ _, leTrained _ _ _⟩⟩, rfl⟩⟩, trivial⟩, trivial⟩ ?_
      refine ae_then ?_
      refine aw_seq ?_
      refine aw_seq ?_
      refine aw_reg [] [1, 5, 21] [1, 5] [.ref 1 0, .ref 5 0, Bv false] [some (.box [I aW.Band, slTrained false aW.Trained]), some (.box [I aW.Band, slTrained true aW.Trained])] [] (by kernel_rfl) hB trivial ?_
      refine ae_then ?_
      refine aw_false rfl ?_
      refine aw_skip ?_
      refine ae_then ?_
      refine aw_seq ?_
      refine aw_seq ?_
      refine aw_reg [(2, .call [(true, .agg [I aW.Band, slTrained false aW.Trained])] true (.agg [I aW.Band, slTrained true aW.Trained])), (3, .call [(false, .agg [I aW.Band, slTrained false aW.Trained]), (false, .agg [I aW.Band, slTrained false aW.Trained])] true (Bv true))] [26] [] [Bv false] [] [Con Try.prog 26 [.agg [I aW.Band, slTrained false aW.Trained]] true (.agg [I aW.Band, slTrained true aW.Trained]) ∧ ((.agg [I aW.Band, slTrained false aW.Trained] : AV) = .agg [I aW.Band, slTrained false aW.Trained]) ∧ True, Con Try.prog 28 [.agg [I aW.Band, slTrained false aW.Trained], .agg [I aW.Band, slTrained false aW.Trained]] true (Bv true) ∧ ((valOf (I aW.Band) = valOf (I aW.Band)) ∧ ((false = true → true = true) ∧ 4 = 4 ∧ aW.Trained.length = aW.Trained.length ∧ ∀ i, i < aW.Trained.length → (fTrained true aW.Trained) i = (fTrained false aW.Trained) i ∨ (AV.idsL ((fTrained false aW.Trained) i) = [] ∧ leL (fun _ => none) false ((fTrained true aW.Trained) i) ((fTrained false aW.Trained) i))) ∧ ([] : List AV) = []) ∧ ((valOf (I aW.Band) = valOf (I aW.Band)) ∧ ((false = true → true = true) ∧ 4 = 4 ∧ aW.Trained.length = aW.Trained.length ∧ ∀ i, i < aW.Trained.length → (fTrained true aW.Trained) i = (fTrained false aW.Trained) i ∨ (AV.idsL ((fTrained false aW.Trained) i) = [] ∧ leL (fun _ => none) false ((fTrained true aW.Trained) i) ((fTrained false aW.Trained) i))) ∧ ([] : List AV) = []) ∧ True] (by kernel_rfl) hB ⟨⟨(toWriter_ok aW (by omega)), rfl, trivial⟩, ⟨(con_bool (same_self _) (eqWriter_ok aW aW)), ⟨rfl, ⟨⟨(fun h => by cases h), rfl, rfl, fun i _ => .inr ⟨idsTrained _ _, leTrained _ _ _⟩⟩, rfl⟩⟩, ⟨rfl, ⟨⟨(fun h => by cases h), rfl, rfl, fun i _ => .inr ⟨idsTrained _ _, leTrained _ _ _⟩⟩, rfl⟩⟩, trivial⟩, trivial⟩ ?_
      refine ae_then ?_
      refine aw_false rfl ?_
      refine aw_skip ?_
      refine ae_then ?_
      refine aw_seq ?_
      refine aw_reg [] [2] [] [Bv true] [] [] (by kernel_rfl) hB trivial ?_
      refine ae_then ?_
      refine aw_ret ?_
      refine ae_ret hB (Bv true) (by kernel_rfl) (.inl rfl) rfl (fun _ => trivial)


/-! ### the row -/

def okOFeat (x : Feat) : Prop := (inR .i64 x.X) ∧ (inR .i64 x.Y) ∧ (inR .i64 x.D)

theorem opens_t132 : OpensA Try.prog 132 (cFeat) okOFeat := by
  intro H enc w base spare held fuel cs y h
  obtain ⟨ys, n, _, _, hlen, hyl, hf⟩ := DataW.trod_struct Try.underlying132 h
  obtain ⟨x0, r0, o0⟩ := (opensA_int Try.underlying2) enc w base spare held _ _ _ ((hf 0 _ rfl).trans (List.getElem?_eq_getElem (by rw [hyl]; decide)))
  obtain ⟨x1, r1, o1⟩ := (opensA_int Try.underlying2) enc w base spare held _ _ _ ((hf 1 _ rfl).trans (List.getElem?_eq_getElem (by rw [hyl]; decide)))
  obtain ⟨x2, r2, o2⟩ := (opensA_int Try.underlying2) enc w base spare held _ _ _ ((hf 2 _ rfl).trans (List.getElem?_eq_getElem (by rw [hyl]; decide)))
  have hlen : cs.length = 3 := hlen.trans (by kernel_rfl)
  exact ⟨⟨x0, x1, x2⟩, RelTL.whole (n := 3) (RelTL.app (a := 2) (b := 1) (RelTL.app (a := 1) (b := 1) r0 (by kernel_rfl) r1 (by kernel_rfl) (by kernel_rfl) (by omega)) rfl r2 (by kernel_rfl) (by kernel_rfl) (by omega)) hlen rfl, o0, o1, o2⟩

theorem opens_t22 : OpensA Try.prog 22 (cLFeat false) (fun xs => ∀ y ∈ xs, okOFeat y) :=
  opensA_slice (c := cFeat) (sz := 3) Try.underlying22 (by kernel_rfl) (by decide) (fun x => ⟨rfl, by simp [oneA, cFeat, cI]⟩) (opens_t132)

def okOTrained (x : Trained) : Prop := (x.Label.size ≤ 9223372036854775807) ∧ (∀ y ∈ x.Base, okOFeat y) ∧ (∀ y ∈ x.Feats, okOFeat y) ∧ (inR .i64 x.Count)

theorem opens_t24 : OpensA Try.prog 24 (cTrained false) okOTrained := by
  intro H enc w base spare held fuel cs y h
  obtain ⟨ys, n, _, _, hlen, hyl, hf⟩ := DataW.trod_struct Try.underlying24 h
  obtain ⟨x0, r0, o0⟩ := (opensA_str Try.underlying9) enc w base spare held _ _ _ ((hf 0 _ rfl).trans (List.getElem?_eq_getElem (by rw [hyl]; decide)))
  obtain ⟨x1, r1, o1⟩ := (opens_t22) enc w base spare held _ _ _ ((hf 1 _ rfl).trans (List.getElem?_eq_getElem (by rw [hyl]; decide)))
  obtain ⟨x2, r2, o2⟩ := (opens_t22) enc w base spare held _ _ _ ((hf 2 _ rfl).trans (List.getElem?_eq_getElem (by rw [hyl]; decide)))
  obtain ⟨x3, r3, o3⟩ := (opensA_int Try.underlying2) enc w base spare held _ _ _ ((hf 3 _ rfl).trans (List.getElem?_eq_getElem (by rw [hyl]; decide)))
  have hlen : cs.length = 4 := hlen.trans (by kernel_rfl)
  exact ⟨⟨x0, x1, x2, x3⟩, RelTL.whole (n := 4) (RelTL.app (a := 3) (b := 1) (RelTL.app (a := 2) (b := 1) (RelTL.app (a := 1) (b := 1) r0 (by kernel_rfl) r1 (by kernel_rfl) (by kernel_rfl) (by omega)) rfl r2 (by kernel_rfl) (by kernel_rfl) (by omega)) rfl r3 (by kernel_rfl) (by kernel_rfl) (by omega)) hlen rfl, o0, o1, o2, o3⟩

theorem opens_t46 : OpensA Try.prog 46 (cLTrained false) (fun xs => ∀ y ∈ xs, okOTrained y) :=
  opensA_slice (c := (cTrained false)) (sz := 4) Try.underlying46 (by kernel_rfl) (by decide) (fun x => ⟨rfl, by simp [oneA, cI, cLFeat, cS, cTrained, slFeat]⟩) (opens_t24)

def okOWriter (x : Writer) : Prop := (inR .i64 x.Band) ∧ (∀ y ∈ x.Trained, okOTrained y)

theorem opens_t48 : OpensA Try.prog 48 (cWriter false) okOWriter := by
  intro H enc w base spare held fuel cs y h
  obtain ⟨ys, n, _, _, hlen, hyl, hf⟩ := DataW.trod_struct Try.underlying48 h
  obtain ⟨x0, r0, o0⟩ := (opensA_int Try.underlying2) enc w base spare held _ _ _ ((hf 0 _ rfl).trans (List.getElem?_eq_getElem (by rw [hyl]; decide)))
  obtain ⟨x1, r1, o1⟩ := (opens_t46) enc w base spare held _ _ _ ((hf 1 _ rfl).trans (List.getElem?_eq_getElem (by rw [hyl]; decide)))
  have hlen : cs.length = 2 := hlen.trans (by kernel_rfl)
  exact ⟨⟨x0, x1⟩, RelTL.whole (n := 2) (RelTL.app (a := 1) (b := 1) r0 (by kernel_rfl) r1 (by kernel_rfl) (by kernel_rfl) (by omega)) hlen rfl, o0, o1⟩

namespace fnExactValidWriter
set_option maxRecDepth 100000 in
theorem lifted (os : Os) (started : os.Started) (H : Type) (enc : TypeId × Value → H) :
    ReturnsInHanded {} Try.checked os 5 .any (Rows.fnExactValidWriterSpec.pre6 enc Try.prog Try.f5 Rows.fnExactValidWriterRow.domain false) (Rows.fnExactValidWriterSpec.post enc Try.prog Try.f5 false true false false) := by
  refine returnsInHanded_of_change_shaped (C := Try.checked) Try.own started (by kernel_rfl) Try.func5
    (ChangeSpec.witness6 (enc := enc) (C := Try.checked) false ⟨#[], #[.agg #[.int .i64 0, .slice none 0 0]], []⟩ 8 (by kernel_rfl) (by kernel_rfl) (by kernel_rfl) (by kernel_rfl)) ?_
  intro W base args ds gs before hval0 hW hcnd hsz hshp _
  have hW' := hW
  obtain ⟨p, q, hA0, hV, rfl, hfz, hnd⟩ := hW
  have hval : ∀ (j : Nat) t v, Try.f5.params[j]? = some t → args[j]? = some v → Value.okWide Try.prog W .any base t v := hval0
  have hA : DataW.TrodAll enc Try.prog W 0 (fun _ => true) true Try.f5.params.toList args.toList ds p := hA0
  rw [Try.params5] at hA hval
  obtain ⟨v0, vs0, d0, ds0, p0, q0, hargs, rfl, rfl, h0, r0⟩ := trodAll_cons hA
  obtain ⟨rfl, rfl, rfl⟩ := trodAll_nil r0
  obtain rfl : args = #[v0] := args_eq hargs
  obtain ⟨rfl, rfl⟩ := trodVars_none hV
  obtain ⟨fuel0, hf0⟩ := h0
  obtain ⟨cs0, rfl⟩ : ∃ cs, v0 = .agg cs := by
    obtain ⟨cs, h, _⟩ := okWide_struct Try.underlying48 (hval 0 48 v0 rfl rfl)
    exact ⟨cs, h⟩
  obtain ⟨x0, rx0, ok0⟩ := (opens_t48) enc W 0 _ _ _ _ _ hf0
  refine (walk_of (fnExactValidWriter_con x0 (fun y hy => (ok0.2 y hy).1)) (RelTL.cons (relTL_agg rx0) RelTL.nil)).mono fun e W1 ⟨he, hb⟩ => ?_
  subst he
  exact ⟨_, rfl, law_post Try.laidOut rfl Try.underlying4 (of_decide_eq_true (by kernel_rfl)) rfl hW' hb rfl⟩

theorem over : Rows.fnExactValidWriterRow.holds Try.pinned (OpenSpec.ofChange Rows.fnExactValidWriterSpec) :=
  OpenClaim.holds_of_wide 5 Try.f5 rfl rfl rfl rfl rfl rfl rfl ⟨rfl, rfl, rfl, rfl, rfl⟩ rfl rfl rfl rfl rfl (by kernel_rfl) Try.func5 (by kernel_rfl)
    (of_decide_eq_true (by kernel_rfl)) (by unfold Func.isWrapper; first | (rw [if_pos (by decide +kernel)]; kernel_rfl) | (rw [if_neg (by decide +kernel)]; exact ⟨rfl, rfl⟩))
    (fun os started H enc _ => lifted os started H enc)

theorem proved : Rows.FnExactValidWriterSaid :=
  over
#print axioms proved
end fnExactValidWriter
end Go.Proofs.Ytmnboneljjijmaa.Ax
