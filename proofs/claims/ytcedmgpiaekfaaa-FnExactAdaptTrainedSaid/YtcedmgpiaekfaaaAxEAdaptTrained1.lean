/- Contracts that the statement FnExactAdaptTrained reaches, part 1. No conditions. -/
import Derived.Test.YtcedmgpiaekfaaaAxO
import Derived.Test.YtcedmgpiaekfaaaShelf
import Derived.Test.YtcedmgpiaekfaaaAxR
import Derived.Test.YtcedmgpiaekfaaaAxS
import Derived.Test.YtcedmgpiaekfaaaSortShelf
namespace Go.Proofs.Ytcedmgpiaekfaaa.Ax
open Go.RowKit Go.ChangeShapes Go.WideShapes
set_option linter.unusedVariables false
set_option linter.unusedSimpArgs false


def cS (x : ByteArray) : List AV := [Sv x]
def fS (xs : List ByteArray) (i : Nat) : List AV := cS (at_ xs i)
def slS (fr : Bool) (xs : List ByteArray) : AV := .sl fr 1 xs.length (fS xs)
theorem tagcS (t : Bool) (x : ByteArray) : taggedL t (cS x) := by simp [cS, taggedL, tagged]
theorem tagS (t : Bool) (xs : List ByteArray) : tagged t (slS t xs) := by simp only [slS, tagged]; exact ⟨trivial, fun i _ => tagcS t _⟩
theorem lenS (fr : Bool) (xs : List ByteArray) : lenA noOb (slS fr xs) = some xs.length := rfl
def cI (x : Int) : List AV := [I x]
def fI (xs : List Int) (i : Nat) : List AV := cI (at_ xs i)
def slI (fr : Bool) (xs : List Int) : AV := .sl fr 1 xs.length (fI xs)
theorem tagcI (t : Bool) (x : Int) : taggedL t (cI x) := by simp [cI, taggedL, tagged]
theorem tagI (t : Bool) (xs : List Int) : tagged t (slI t xs) := by simp only [slI, tagged]; exact ⟨trivial, fun i _ => tagcI t _⟩
theorem lenI (fr : Bool) (xs : List Int) : lenA noOb (slI fr xs) = some xs.length := rfl
structure Feat where
  X : Int
  Y : Int
  D : Int
deriving DecidableEq, Inhabited
def cFeat (x : Feat) : List AV := [I x.X, I x.Y, I x.D]
def fFeat (xs : List Feat) (i : Nat) : List AV := cFeat (at_ xs i)
def slFeat (fr : Bool) (xs : List Feat) : AV := .sl fr 3 xs.length (fFeat xs)
theorem tagcFeat (t : Bool) (x : Feat) : taggedL t (cFeat x) := by simp [cFeat, taggedL, tagged]
theorem tagFeat (t : Bool) (xs : List Feat) : tagged t (slFeat t xs) := by simp only [slFeat, tagged]; exact ⟨trivial, fun i _ => tagcFeat t _⟩
theorem lenFeat (fr : Bool) (xs : List Feat) : lenA noOb (slFeat fr xs) = some xs.length := rfl
abbrev bxFeat (x : Feat) : Ob := .box [I x.X, I x.Y, I x.D]
abbrev agFeat (x : Feat) : AV := .agg [I x.X, I x.Y, I x.D]
def cLFeat (fr : Bool) (x : List Feat) : List AV := [slFeat fr x]
def fLFeat (fr : Bool) (xs : List (List Feat)) (i : Nat) : List AV := cLFeat fr (at_ xs i)
def slLFeat (fr : Bool) (xs : List (List Feat)) : AV := .sl fr 1 xs.length (fLFeat fr xs)
theorem tagcLFeat (t : Bool) (x : List Feat) : taggedL t (cLFeat t x) := by simp [cLFeat, taggedL, tagged, tagFeat]
theorem tagLFeat (t : Bool) (xs : List (List Feat)) : tagged t (slLFeat t xs) := by simp only [slLFeat, tagged]; exact ⟨trivial, fun i _ => tagcLFeat t _⟩
theorem lenLFeat (fr : Bool) (xs : List (List Feat)) : lenA noOb (slLFeat fr xs) = some xs.length := rfl
theorem idsLFeat (fr : Bool) (x : List Feat) : AV.idsL (cLFeat fr x) = [] := rfl
theorem leLFeat (fr : Bool) (x : List Feat) (ob : Nat → Option Ob) : leL ob false (cLFeat fr x) (cLFeat false x) := (And.intro (And.intro (fun h => by cases h) (And.intro rfl (And.intro rfl (fun i _ => .inl rfl)))) rfl)
structure Trained where
  Label : ByteArray
  Base : List Feat
  Feats : List Feat
  Count : Int
deriving DecidableEq, Inhabited
def cTrained (fr : Bool) (x : Trained) : List AV := [Sv x.Label, slFeat fr x.Base, slFeat fr x.Feats, I x.Count]
def fTrained (fr : Bool) (xs : List Trained) (i : Nat) : List AV := cTrained fr (at_ xs i)
def slTrained (fr : Bool) (xs : List Trained) : AV := .sl fr 4 xs.length (fTrained fr xs)
theorem tagcTrained (t : Bool) (x : Trained) : taggedL t (cTrained t x) := by simp [cTrained, taggedL, tagged, tagFeat]
theorem tagTrained (t : Bool) (xs : List Trained) : tagged t (slTrained t xs) := by simp only [slTrained, tagged]; exact ⟨trivial, fun i _ => tagcTrained t _⟩
theorem lenTrained (fr : Bool) (xs : List Trained) : lenA noOb (slTrained fr xs) = some xs.length := rfl
theorem idsTrained (fr : Bool) (x : Trained) : AV.idsL (cTrained fr x) = [] := rfl
theorem leTrained (fr : Bool) (x : Trained) (ob : Nat → Option Ob) : leL ob false (cTrained fr x) (cTrained false x) := (And.intro rfl (And.intro (And.intro (fun h => by cases h) (And.intro rfl (And.intro rfl (fun i _ => .inl rfl)))) (And.intro (And.intro (fun h => by cases h) (And.intro rfl (And.intro rfl (fun i _ => .inl rfl)))) (And.intro rfl rfl))))
abbrev bxTrained (x : Trained) : Ob := .box [Sv x.Label, slFeat false x.Base, slFeat false x.Feats, I x.Count]
abbrev agTrained (x : Trained) : AV := .agg [Sv x.Label, slFeat false x.Base, slFeat false x.Feats, I x.Count]
abbrev bxTrainedT (x : Trained) : Ob := .box [Sv x.Label, slFeat true x.Base, slFeat true x.Feats, I x.Count]
abbrev agTrainedT (x : Trained) : AV := .agg [Sv x.Label, slFeat true x.Base, slFeat true x.Feats, I x.Count]
structure Template where
  Label : ByteArray
  Feats : List Feat
deriving DecidableEq, Inhabited
def cTemplate (fr : Bool) (x : Template) : List AV := [Sv x.Label, slFeat fr x.Feats]
def fTemplate (fr : Bool) (xs : List Template) (i : Nat) : List AV := cTemplate fr (at_ xs i)
def slTemplate (fr : Bool) (xs : List Template) : AV := .sl fr 2 xs.length (fTemplate fr xs)
theorem tagcTemplate (t : Bool) (x : Template) : taggedL t (cTemplate t x) := by simp [cTemplate, taggedL, tagged, tagFeat]
theorem tagTemplate (t : Bool) (xs : List Template) : tagged t (slTemplate t xs) := by simp only [slTemplate, tagged]; exact ⟨trivial, fun i _ => tagcTemplate t _⟩
theorem lenTemplate (fr : Bool) (xs : List Template) : lenA noOb (slTemplate fr xs) = some xs.length := rfl
theorem idsTemplate (fr : Bool) (x : Template) : AV.idsL (cTemplate fr x) = [] := rfl
theorem leTemplate (fr : Bool) (x : Template) (ob : Nat → Option Ob) : leL ob false (cTemplate fr x) (cTemplate false x) := (And.intro rfl (And.intro (And.intro (fun h => by cases h) (And.intro rfl (And.intro rfl (fun i _ => .inl rfl)))) rfl))
abbrev bxTemplate (x : Template) : Ob := .box [Sv x.Label, slFeat false x.Feats]
abbrev agTemplate (x : Template) : AV := .agg [Sv x.Label, slFeat false x.Feats]
abbrev bxTemplateT (x : Template) : Ob := .box [Sv x.Label, slFeat true x.Feats]
abbrev agTemplateT (x : Template) : AV := .agg [Sv x.Label, slFeat true x.Feats]
structure Pair where
  I : Int
  J : Int
deriving DecidableEq, Inhabited
def cPair (x : Pair) : List AV := [I x.I, I x.J]
def fPair (xs : List Pair) (i : Nat) : List AV := cPair (at_ xs i)
def slPair (fr : Bool) (xs : List Pair) : AV := .sl fr 2 xs.length (fPair xs)
theorem tagcPair (t : Bool) (x : Pair) : taggedL t (cPair x) := by simp [cPair, taggedL, tagged]
theorem tagPair (t : Bool) (xs : List Pair) : tagged t (slPair t xs) := by simp only [slPair, tagged]; exact ⟨trivial, fun i _ => tagcPair t _⟩
theorem lenPair (fr : Bool) (xs : List Pair) : lenA noOb (slPair fr xs) = some xs.length := rfl
abbrev bxPair (x : Pair) : Ob := .box [I x.I, I x.J]
abbrev agPair (x : Pair) : AV := .agg [I x.I, I x.J]
def cLI (fr : Bool) (x : List Int) : List AV := [slI fr x]
def fLI (fr : Bool) (xs : List (List Int)) (i : Nat) : List AV := cLI fr (at_ xs i)
def slLI (fr : Bool) (xs : List (List Int)) : AV := .sl fr 1 xs.length (fLI fr xs)
theorem tagcLI (t : Bool) (x : List Int) : taggedL t (cLI t x) := by simp [cLI, taggedL, tagged, tagI]
theorem tagLI (t : Bool) (xs : List (List Int)) : tagged t (slLI t xs) := by simp only [slLI, tagged]; exact ⟨trivial, fun i _ => tagcLI t _⟩
theorem lenLI (fr : Bool) (xs : List (List Int)) : lenA noOb (slLI fr xs) = some xs.length := rfl
theorem idsLI (fr : Bool) (x : List Int) : AV.idsL (cLI fr x) = [] := rfl
theorem leLI (fr : Bool) (x : List Int) (ob : Nat → Option Ob) : leL ob false (cLI fr x) (cLI false x) := (And.intro (And.intro (fun h => by cases h) (And.intro rfl (And.intro rfl (fun i _ => .inl rfl)))) rfl)
structure Arr2I where
  a0 : Int
  a1 : Int
deriving DecidableEq, Inhabited
def cArr2I (x : Arr2I) : List AV := [I x.a0, I x.a1]
def fArr2I (xs : List Arr2I) (i : Nat) : List AV := cArr2I (at_ xs i)
def slArr2I (fr : Bool) (xs : List Arr2I) : AV := .sl fr 2 xs.length (fArr2I xs)
theorem tagcArr2I (t : Bool) (x : Arr2I) : taggedL t (cArr2I x) := by simp [cArr2I, taggedL, tagged]
theorem tagArr2I (t : Bool) (xs : List Arr2I) : tagged t (slArr2I t xs) := by simp only [slArr2I, tagged]; exact ⟨trivial, fun i _ => tagcArr2I t _⟩
theorem lenArr2I (fr : Bool) (xs : List Arr2I) : lenA noOb (slArr2I fr xs) = some xs.length := rfl
abbrev bxArr2I (x : Arr2I) : Ob := .box [I x.a0, I x.a1]
abbrev agArr2I (x : Arr2I) : AV := .agg [I x.a0, I x.a1]
structure Arr3Arr2I where
  a0 : Arr2I
  a1 : Arr2I
  a2 : Arr2I
deriving DecidableEq, Inhabited
def cArr3Arr2I (x : Arr3Arr2I) : List AV := [I x.a0.a0, I x.a0.a1, I x.a1.a0, I x.a1.a1, I x.a2.a0, I x.a2.a1]
def fArr3Arr2I (xs : List Arr3Arr2I) (i : Nat) : List AV := cArr3Arr2I (at_ xs i)
def slArr3Arr2I (fr : Bool) (xs : List Arr3Arr2I) : AV := .sl fr 6 xs.length (fArr3Arr2I xs)
theorem tagcArr3Arr2I (t : Bool) (x : Arr3Arr2I) : taggedL t (cArr3Arr2I x) := by simp [cArr3Arr2I, taggedL, tagged]
theorem tagArr3Arr2I (t : Bool) (xs : List Arr3Arr2I) : tagged t (slArr3Arr2I t xs) := by simp only [slArr3Arr2I, tagged]; exact ⟨trivial, fun i _ => tagcArr3Arr2I t _⟩
theorem lenArr3Arr2I (fr : Bool) (xs : List Arr3Arr2I) : lenA noOb (slArr3Arr2I fr xs) = some xs.length := rfl
abbrev bxArr3Arr2I (x : Arr3Arr2I) : Ob := .box [I x.a0.a0, I x.a0.a1, I x.a1.a0, I x.a1.a1, I x.a2.a0, I x.a2.a1]
abbrev agArr3Arr2I (x : Arr3Arr2I) : AV := .agg [I x.a0.a0, I x.a0.a1, I x.a1.a0, I x.a1.a1, I x.a2.a0, I x.a2.a1]

/-- What is left of l behind b. -/
def szTake (l : Int) (b : Nat) : Int := if l < b then -1 else l - b
theorem szTake_nn {l : Int} {b : Nat} (h : ¬ szTake l b < 0) : szTake l b = l - b ∧ (b : Int) ≤ l := by
  unfold szTake at *; split at h <;> simp_all <;> omega
theorem szTake_ng {l : Int} {b : Nat} (h : szTake l b < 0) (h0 : 0 ≤ l) : szTake l b = -1 ∧ l < b := by
  unfold szTake at *; split at h <;> simp_all <;> omega
theorem szTake_of {l : Int} {b : Nat} (h : (b : Int) ≤ l) : szTake l b = l - b := by unfold szTake; rw [if_neg (by omega)]
theorem szTake_neg {l : Int} {b : Nat} (h : l < b) : szTake l b = -1 := by unfold szTake; rw [if_pos h]
theorem take_snoc' {α : Type} [Inhabited α] {l : List α} {k : Nat} (h : k < l.length) : l.take (k + 1) = l.take k ++ [at_ l k] := by
  rw [List.take_succ_eq_append_getElem h, at_eq h]

def bulkFeatS (xs : List Feat) : Nat := xs.length
theorem bulkFeatS_len (xs : List Feat) : xs.length ≤ bulkFeatS xs := Nat.le_refl _

-- laws.szFeatS
theorem szFeatS_ok (a : List Feat) (left : Int) (h0 : 0 ≤ left ∧ left ≤ 1048576) : Con Try.prog 6 [slFeat false a, I left] true (I (szTake left (bulkFeatS a))) := by
  refine fn_ok (fn := Try.f6) (nt := 12) Try.func6 rfl rfl rfl rfl (by simp [taggedL, tagged, tagFeat]) fun B hB => ?_
  refine aw_lens (x := slFeat false a) 0 rfl (fun len_a => ?_)
  simp [LenOK, LenL, cFeat, fFeat, slFeat] at len_a
  refine aw_seq ?_
  refine aw_reg [] [0, 1] [] [slFeat false a, I left] [] [] (by kernel_rfl) hB trivial ?_
  refine ae_then ?_
  refine aw_seq ?_
  refine aw_reg [] [1] [] [I (left - (a.length : Int))] [] [inR .i64 (left - (a.length : Int))] (by kernel_rfl) hB ⟨(inR_i64 (by omega) (by omega)), trivial⟩ ?_
  refine ae_then ?_
  refine aw_seq ?_
  refine aw_seq ?_
  by_cases h1 : (left - (a.length : Int)) < 0
  ·refine aw_reg [(1, .dec true)] [1, 10] [] [I (left - (a.length : Int)), Bv true] [] [(left - (a.length : Int)) < 0] (by kernel_rfl) hB ⟨h1, trivial⟩ ?_
   refine ae_then ?_
   refine aw_true rfl ?_
   refine aw_seq ?_
   refine aw_reg [] [4] [] [I (-1)] [] [] (by kernel_rfl) hB trivial ?_
   refine ae_then ?_
   refine aw_ret ?_
   refine ae_ret_then ?_
   refine ae_ret hB (I (-1)) (by kernel_rfl) (.inl (by refine congrArg I ?_; unfold szTake bulkFeatS; split <;> omega)) rfl (fun _ => trivial)
  ·refine aw_reg [(1, .dec false)] [1, 10] [] [I (left - (a.length : Int)), Bv false] [] [¬ ((left - (a.length : Int)) < 0)] (by kernel_rfl) hB ⟨h1, trivial⟩ ?_
   refine ae_then ?_
   refine aw_false rfl ?_
   refine aw_skip ?_
   refine ae_then ?_
   refine aw_seq ?_
   refine aw_reg [] [4] [] [I (left - (a.length : Int))] [] [] (by kernel_rfl) hB trivial ?_
   refine ae_then ?_
   refine aw_ret ?_
   refine ae_ret hB (I (left - (a.length : Int))) (by kernel_rfl) (.inl (by refine congrArg I ?_; unfold szTake bulkFeatS; split <;> omega)) rfl (fun _ => trivial)


def okTrained (x : Trained) : Prop := (x.Label.size ≤ 9223372036854775807)

def bulkTrained (x : Trained) : Nat := x.Label.size + (bulkFeatS x.Base) + (bulkFeatS x.Feats)
def bulkTrainedS : List Trained → Nat
  | [] => 0
  | x :: r => 1 + (bulkTrained x) + bulkTrainedS r
theorem bulkTrainedS_app (xs ys : List Trained) : bulkTrainedS (xs ++ ys) = bulkTrainedS xs + bulkTrainedS ys := by
  induction xs with
  | nil => simp [bulkTrainedS]
  | cons x r ih => simp [bulkTrainedS, ih]; omega
theorem bulkTrainedS_len (xs : List Trained) : xs.length ≤ bulkTrainedS xs := by
  induction xs with
  | nil => simp
  | cons x r ih => simp [bulkTrainedS]; omega
theorem bulkTrainedS_take {xs : List Trained} {i : Nat} (h : i < xs.length) : bulkTrainedS (xs.take (i + 1)) = bulkTrainedS (xs.take i) + 1 + (bulkTrained (at_ xs i)) := by
  rw [take_snoc' h, bulkTrainedS_app]; simp [bulkTrainedS]; omega
theorem bulkTrainedS_le (xs : List Trained) (i : Nat) : bulkTrainedS (xs.take i) + (xs.length - i) ≤ bulkTrainedS xs := by
  have e := bulkTrainedS_app (xs.take i) (xs.drop i)
  rw [List.take_append_drop] at e
  have := bulkTrainedS_len (xs.drop i)
  simp at this
  omega
theorem bulkTrainedS_at {xs : List Trained} {i : Nat} (h : i < xs.length) : 1 + (bulkTrained (at_ xs i)) ≤ bulkTrainedS xs := by
  have h1 := bulkTrainedS_take h
  have h2 := bulkTrainedS_le xs (i + 1)
  omega

-- laws.szTrained
theorem szTrained_ok (a : Trained) (left : Int) (h0 : 0 ≤ left ∧ left ≤ 1048576) (ok0 : okTrained a) : Con Try.prog 5 [agTrained a, I left] true (I (szTake left (bulkTrained a))) := by
  have ok := ok0
  unfold okTrained at ok
  have ok_Label := ok
  refine fn_ok (fn := Try.f5) (nt := 25) Try.func5 rfl rfl rfl rfl (by simp [taggedL, tagged, tagFeat]) fun B hB => ?_
  refine aw_lens (x := agTrained a) 0 rfl (fun len_a => ?_)
  simp [LenOK, LenL, cFeat, fFeat, slFeat] at len_a
  refine aw_seq ?_
  refine aw_reg [(0, .new 2)] [1, 2] [2] [I left, .ref 2 0] [some (bxTrained a)] [] (by kernel_rfl) hB trivial ?_
  refine ae_then ?_
  refine aw_seq ?_
  refine aw_reg [] [1, 2] [2] [I (left - (a.Label.size : Int)), .ref 2 0] [some (bxTrained a)] [inR .i64 (left - (a.Label.size : Int))] (by kernel_rfl) hB ⟨(inR_i64 (by omega) (by omega)), trivial⟩ ?_
  refine ae_then ?_
  refine aw_seq ?_
  refine aw_seq ?_
  by_cases h1 : (left - (a.Label.size : Int)) < 0
  ·refine aw_reg [(1, .dec true)] [1, 2, 11] [2] [I (left - (a.Label.size : Int)), .ref 2 0, Bv true] [some (bxTrained a)] [(left - (a.Label.size : Int)) < 0] (by kernel_rfl) hB ⟨h1, trivial⟩ ?_
   refine ae_then ?_
   refine aw_true rfl ?_
   refine aw_seq ?_
   refine aw_reg [] [4] [] [I (-1)] [] [] (by kernel_rfl) hB trivial ?_
   refine ae_then ?_
   refine aw_ret ?_
   refine ae_ret_then ?_
   refine ae_ret hB (I (-1)) (by kernel_rfl) (.inl (by refine congrArg I ?_; unfold szTake bulkTrained; split <;> omega)) rfl (fun _ => trivial)
  ·refine aw_reg [(1, .dec false)] [1, 2, 11] [2] [I (left - (a.Label.size : Int)), .ref 2 0, Bv false] [some (bxTrained a)] [¬ ((left - (a.Label.size : Int)) < 0)] (by kernel_rfl) hB ⟨h1, trivial⟩ ?_
   refine ae_then ?_
   refine aw_false rfl ?_
   refine aw_skip ?_
   refine ae_then ?_
   refine aw_seq ?_
   refine aw_reg [(3, .call [(true, slFeat false a.Base), (true, I (left - (a.Label.size : Int)))] true (I (szTake (left - (a.Label.size : Int)) (bulkFeatS a.Base))))] [1, 2] [2] [I (szTake (left - (a.Label.size : Int)) (bulkFeatS a.Base)), .ref 2 0] [some (bxTrained a)] [Con Try.prog 6 [slFeat false a.Base, I (left - (a.Label.size : Int))] true (I (szTake (left - (a.Label.size : Int)) (bulkFeatS a.Base))) ∧ ((slFeat false a.Base : AV) = slFeat false a.Base) ∧ ((I (left - (a.Label.size : Int)) : AV) = I (left - (a.Label.size : Int))) ∧ True] (by kernel_rfl) hB ⟨⟨(szFeatS_ok a.Base (left - (a.Label.size : Int)) (by omega)), rfl, rfl, trivial⟩, trivial⟩ ?_
   refine ae_then ?_
   refine aw_seq ?_
   refine aw_seq ?_
   by_cases h2 : (szTake (left - (a.Label.size : Int)) (bulkFeatS a.Base)) < 0
   ·have eh2 := szTake_ng h2 (by omega)
    refine aw_reg [(1, .dec true)] [1, 2, 17] [2] [I (szTake (left - (a.Label.size : Int)) (bulkFeatS a.Base)), .ref 2 0, Bv true] [some (bxTrained a)] [(szTake (left - (a.Label.size : Int)) (bulkFeatS a.Base)) < 0] (by kernel_rfl) hB ⟨h2, trivial⟩ ?_
    refine ae_then ?_
    refine aw_true rfl ?_
    refine aw_seq ?_
    refine aw_reg [] [4] [] [I (-1)] [] [] (by kernel_rfl) hB trivial ?_
    refine ae_then ?_
    refine aw_ret ?_
    refine ae_ret_then ?_
    refine ae_ret hB (I (-1)) (by kernel_rfl) (.inl (by refine congrArg I ?_; unfold szTake bulkTrained; split <;> omega)) rfl (fun _ => trivial)
   ·have eh2 := szTake_nn h2
    refine aw_reg [(1, .dec false)] [1, 2, 17] [2] [I (szTake (left - (a.Label.size : Int)) (bulkFeatS a.Base)), .ref 2 0, Bv false] [some (bxTrained a)] [¬ ((szTake (left - (a.Label.size : Int)) (bulkFeatS a.Base)) < 0)] (by kernel_rfl) hB ⟨h2, trivial⟩ ?_
    refine ae_then ?_
    refine aw_false rfl ?_
    refine aw_skip ?_
    refine ae_then ?_
    refine aw_seq ?_
    refine aw_reg [(3, .call [(true, slFeat false a.Feats), (true, I (szTake (left - (a.Label.size : Int)) (bulkFeatS a.Base)))] true (I (szTake (szTake (left - (a.Label.size : Int)) (bulkFeatS a.Base)) (bulkFeatS a.Feats))))] [1] [] [I (szTake (szTake (left - (a.Label.size : Int)) (bulkFeatS a.Base)) (bulkFeatS a.Feats))] [] [Con Try.prog 6 [slFeat false a.Feats, I (szTake (left - (a.Label.size : Int)) (bulkFeatS a.Base))] true (I (szTake (szTake (left - (a.Label.size : Int)) (bulkFeatS a.Base)) (bulkFeatS a.Feats))) ∧ ((slFeat false a.Feats : AV) = slFeat false a.Feats) ∧ ((I (szTake (left - (a.Label.size : Int)) (bulkFeatS a.Base)) : AV) = I (szTake (left - (a.Label.size : Int)) (bulkFeatS a.Base))) ∧ True] (by kernel_rfl) hB ⟨⟨(szFeatS_ok a.Feats (szTake (left - (a.Label.size : Int)) (bulkFeatS a.Base)) (by omega)), rfl, rfl, trivial⟩, trivial⟩ ?_
    refine ae_then ?_
    refine aw_seq ?_
    refine aw_seq ?_
    by_cases h3 : (szTake (szTake (left - (a.Label.size : Int)) (bulkFeatS a.Base)) (bulkFeatS a.Feats)) < 0
    ·have eh3 := szTake_ng h3 (by omega)
     refine aw_reg [(1, .dec true)] [1, 23] [] [I (szTake (szTake (left - (a.Label.size : Int)) (bulkFeatS a.Base)) (bulkFeatS a.Feats)), Bv true] [] [(szTake (szTake (left - (a.Label.size : Int)) (bulkFeatS a.Base)) (bulkFeatS a.Feats)) < 0] (by kernel_rfl) hB ⟨h3, trivial⟩ ?_
     refine ae_then ?_
     refine aw_true rfl ?_
     refine aw_seq ?_
     refine aw_reg [] [4] [] [I (-1)] [] [] (by kernel_rfl) hB trivial ?_
     refine ae_then ?_
     refine aw_ret ?_
     refine ae_ret_then ?_
     refine ae_ret hB (I (-1)) (by kernel_rfl) (.inl (by refine congrArg I ?_; unfold szTake bulkTrained; split <;> omega)) rfl (fun _ => trivial)
    ·have eh3 := szTake_nn h3
     refine aw_reg [(1, .dec false)] [1, 23] [] [I (szTake (szTake (left - (a.Label.size : Int)) (bulkFeatS a.Base)) (bulkFeatS a.Feats)), Bv false] [] [¬ ((szTake (szTake (left - (a.Label.size : Int)) (bulkFeatS a.Base)) (bulkFeatS a.Feats)) < 0)] (by kernel_rfl) hB ⟨h3, trivial⟩ ?_
     refine ae_then ?_
     refine aw_false rfl ?_
     refine aw_skip ?_
     refine ae_then ?_
     refine aw_seq ?_
     refine aw_reg [] [4] [] [I (szTake (szTake (left - (a.Label.size : Int)) (bulkFeatS a.Base)) (bulkFeatS a.Feats))] [] [] (by kernel_rfl) hB trivial ?_
     refine ae_then ?_
     refine aw_ret ?_
     refine ae_ret hB (I (szTake (szTake (left - (a.Label.size : Int)) (bulkFeatS a.Base)) (bulkFeatS a.Feats))) (by kernel_rfl) (.inl (by refine congrArg I ?_; unfold szTake bulkTrained; split <;> omega)) rfl (fun _ => trivial)


-- laws.toFeat
theorem toFeat_ok (a : Feat) : Con Try.prog 30 [agFeat a] true (agFeat a) := by
  refine fn_ok (fn := Try.f30) (nt := 14) Try.func30 rfl rfl rfl rfl (by simp [taggedL, tagged]) fun B hB => ?_
  refine aw_seq ?_
  refine aw_reg [(0, .new 1), (1, .new 2)] [1, 2] [1, 2] [.ref 1 0, .ref 2 0] [some (bxFeat a), some (.box [I 0, I 0, I 0])] [] (by kernel_rfl) hB trivial ?_
  refine ae_then ?_
  refine aw_seq ?_
  refine aw_reg [(0, .new 3)] [1, 2, 3] [1, 2, 3] [.ref 1 0, .ref 2 0, .ref 3 0] [some (bxFeat a), some (.box [I 0, I 0, I 0]), some (.box [I 0, I 0, I 0])] [] (by kernel_rfl) hB trivial ?_
  refine ae_then ?_
  refine aw_seq ?_
  refine aw_reg [] [1, 2, 3] [1, 2, 3] [.ref 1 0, .ref 2 0, .ref 3 0] [some (bxFeat a), some (.box [I 0, I 0, I 0]), some (.box [I a.X, I 0, I 0])] [] (by kernel_rfl) hB trivial ?_
  refine ae_then ?_
  refine aw_seq ?_
  refine aw_reg [] [1, 2, 3] [1, 2, 3] [.ref 1 0, .ref 2 0, .ref 3 0] [some (bxFeat a), some (.box [I 0, I 0, I 0]), some (.box [I a.X, I a.Y, I 0])] [] (by kernel_rfl) hB trivial ?_
  refine ae_then ?_
  refine aw_seq ?_
  refine aw_reg [] [2, 3] [2, 3] [.ref 2 0, .ref 3 0] [some (.box [I 0, I 0, I 0]), some (bxFeat a)] [] (by kernel_rfl) hB trivial ?_
  refine ae_then ?_
  refine aw_seq ?_
  refine aw_reg [] [2] [2] [.ref 2 0] [some (bxFeat a)] [] (by kernel_rfl) hB trivial ?_
  refine ae_then ?_
  refine aw_ret ?_
  refine ae_ret hB (agFeat a) (by kernel_rfl) (.inl rfl) rfl (fun _ => (by simp [tagged, taggedL]))


theorem set_at {α : Type} [Inhabited α] {ys xs : List α} {i : Int} (hl : ys.length = xs.length) (hi : i.toNat < xs.length) (h : ∀ j : Nat, (j : Int) < i → at_ ys j = at_ xs j) (j : Nat) (hj : j ≤ i.toNat) : at_ (ys.set i.toNat (at_ xs i.toNat)) j = at_ xs j := by
  by_cases e : i.toNat = j
  · subst e; simp [at_, hl, hi]
  · have := h j (by omega)
    simp only [at_] at this ⊢
    rw [← this]
    simp [e]
/-- Whether two things are the same. -/
def same {α : Type} [DecidableEq α] (x y : α) : Bool := decide (x = y)
theorem same_iff {α : Type} [DecidableEq α] {x y : α} : same x y = true ↔ x = y := by simp [same]
theorem ext_at {α : Type} [Inhabited α] {xs ys : List α} (hl : xs.length = ys.length) (h : ∀ j : Nat, j < xs.length → at_ xs j = at_ ys j) : xs = ys := by
  apply List.ext_getElem hl
  intro i h1 h2
  rw [← at_eq h1, ← at_eq h2]
  exact h i h1

theorem at_mem {α : Type} [Inhabited α] {xs : List α} {i : Nat} (h : i < xs.length) : at_ xs i ∈ xs := by rw [at_eq h]; exact List.getElem_mem h

/-- Whether p holds of all numbers below n. -/
def allN (n : Nat) (p : Nat → Bool) : Bool := (List.range n).all p
def anyN (n : Nat) (p : Nat → Bool) : Bool := !(allN n fun j => !(p j))
theorem allN_iff {n : Nat} {p : Nat → Bool} : allN n p = true ↔ ∀ j, j < n → p j = true := by simp [allN, List.all_eq_true]
theorem allN_at {n : Nat} {p : Nat → Bool} (h : ∀ j, j < n → p j = true) : allN n p = true := allN_iff.2 h
theorem allN_get {n : Nat} {p : Nat → Bool} (h : allN n p = true) {k : Nat} (hk : k < n) : p k = true := allN_iff.1 h k hk
theorem allN_not {n : Nat} {p : Nat → Bool} {k : Nat} (hk : k < n) (h : p k = false) : allN n p = false := by
  rw [← Bool.not_eq_true, allN_iff]; intro h'; rw [h' k hk] at h; cases h
theorem anyN_not (n : Nat) (p : Nat → Bool) : anyN n (fun j => !(p j)) = !(allN n p) := by simp [anyN]
theorem anyN_at {n : Nat} {p : Nat → Bool} {k : Nat} (hk : k < n) (h : p k = true) : anyN n p = true := by
  unfold anyN; rw [allN_not hk (by simp [h])]; rfl
theorem anyN_none {n : Nat} {p : Nat → Bool} (h : ∀ j, j < n → p j = false) : anyN n p = false := by
  unfold anyN; rw [allN_at (fun j hj => by simp [h j hj])]; rfl
theorem anyN_iff {n : Nat} {p : Nat → Bool} : anyN n p = true ↔ ∃ j, j < n ∧ p j = true := by
  constructor
  · intro h
    apply Classical.byContradiction
    intro hn
    rw [anyN_none (fun j hj => by rw [← Bool.not_eq_true]; exact fun hp => hn ⟨j, hj, hp⟩)] at h
    cases h
  · rintro ⟨j, hj, hp⟩; exact anyN_at hj hp
theorem up_to {n : Int} {p : Nat → Prop} {i : Int} (hi : 0 ≤ i) (h : ∀ j : Nat, (j : Int) < i → p j) (hp : p i.toNat) : ∀ j : Nat, (j : Int) < i + 1 → p j := fun j hj => by
  by_cases e : j = i.toNat
  · subst e; exact hp
  · exact h j (by omega)

def inB (a l h : Int) : Bool := decide (l ≤ a ∧ a ≤ h)
theorem inB_iff {a l h : Int} : inB a l h = true ↔ l ≤ a ∧ a ≤ h := by simp [inB]
theorem bAt_bd (s : ByteArray) (i : Nat) : 0 ≤ bAt s i ∧ bAt s i ≤ 255 := by
  unfold bAt
  have := (s.data.toList.getD i 0).toNat_lt
  omega

def okF (p : Feat) : Bool := inB p.X 0 255 && (inB p.Y 0 255 && inB p.D 0 7)
theorem okF_iff {p : Feat} : okF p = true ↔ (0 ≤ p.X ∧ p.X ≤ 255) ∧ (0 ≤ p.Y ∧ p.Y ≤ 255) ∧ (0 ≤ p.D ∧ p.D ≤ 7) := by simp [okF, inB, and_assoc]
/-- Whether all are features, and they are 1 to m. -/
def okFeats (xs : List Feat) (m : Int) : Bool := decide (1 ≤ (xs.length : Int) ∧ (xs.length : Int) ≤ m) && allN xs.length (fun j => okF (at_ xs j))
theorem okFeats_at {xs : List Feat} {m : Int} (h : okFeats xs m = true) {j : Nat} (hj : j < xs.length) : okF (at_ xs j) = true := by
  simp only [okFeats, Bool.and_eq_true] at h
  exact allN_get h.2 hj

/-- Whether a byte is a label's. -/
def labB (n : Int) : Bool := decide ((97 ≤ n ∧ n ≤ 122) ∨ (48 ≤ n ∧ n ≤ 57) ∨ n = 43 ∨ n = 45 ∨ n = 42 ∨ n = 47 ∨ n = 61 ∨ n = 40 ∨ n = 41 ∨ n = 46 ∨ n = 44)
/-- Whether a string is a label. -/
def okLabel (s : ByteArray) : Bool := decide (s.size = 1) && labB (bAt s 0)

/-- Whether a feature is one that another one may have become. -/
def nearB (a b : Feat) : Bool := decide (a.D = b.D) && (decide (((a.X - b.X).natAbs : Int) ≤ 40) && decide (((a.Y - b.Y).natAbs : Int) ≤ 40))
/-- Whether a trained template is valid. -/
def okTrained' (t : Trained) : Bool := okLabel t.Label && (okFeats t.Base 72 && (okFeats t.Feats 72 && ((decide (t.Base.length = t.Feats.length) && allN t.Base.length (fun j => nearB (at_ t.Base j) (at_ t.Feats j))) && inB t.Count 0 100)))
theorem okTr_iff {t : Trained} : okTrained' t = true ↔ okLabel t.Label = true ∧ okFeats t.Base 72 = true ∧ okFeats t.Feats 72 = true ∧ (t.Base.length = t.Feats.length ∧ allN t.Base.length (fun j => nearB (at_ t.Base j) (at_ t.Feats j)) = true) ∧ inB t.Count 0 100 = true := by
  simp [okTrained']



theorem at_setQ {α : Type} [Inhabited α] {xs : List α} {i : Nat} {y : α} (h : i < xs.length) : at_ (xs.set i y) i = y := by simp [at_, h]
def okTm (t : Template) : Bool := okLabel t.Label && okFeats t.Feats 72
def stR (t : Template) : Trained × Int := if okTm t = true then (⟨t.Label, t.Feats, t.Feats, 0⟩, 0) else (⟨⟨#[]⟩, [], [], 0⟩, 1)
theorem stR_yes {t : Template} (h : okTm t = true) : stR t = (⟨t.Label, t.Feats, t.Feats, 0⟩, 0) := if_pos h
theorem stR_no {t : Template} (h : okTm t = false) : stR t = (⟨⟨#[]⟩, [], [], 0⟩, 1) := by simp [stR, h]
theorem okTm_len {t : Template} (h : okTm t = true) : t.Feats.length ≤ 72 := by
  simp only [okTm, okFeats, Bool.and_eq_true, decide_eq_true_eq] at h
  omega
/-- Marks. -/
def mkL (k : Int) (n : Nat) : List Feat := (List.range n).map fun j : Nat => ⟨k + 3 * (j : Int), k + 3 * (j : Int) + 1, k + 3 * (j : Int) + 2⟩
theorem mkL_len (k : Int) (n : Nat) : (mkL k n).length = n := by simp [mkL]
theorem mkL_at {k : Int} {n j : Nat} (h : j < n) : at_ (mkL k n) j = ⟨k + 3 * (j : Int), k + 3 * (j : Int) + 1, k + 3 * (j : Int) + 2⟩ := by simp [at_, mkL, h]
theorem mk_next {ys : List Feat} {k : Int} {i : Int} {y : Feat} (h0 : 0 ≤ i) (hi : i.toNat < ys.length) (h : ∀ j : Nat, (j : Int) < i → at_ ys j = ⟨k + 3 * (j : Int), k + 3 * (j : Int) + 1, k + 3 * (j : Int) + 2⟩) (hy : y = ⟨k + 3 * i, k + 3 * i + 1, k + 3 * i + 2⟩) : ∀ j : Nat, (j : Int) < i + 1 → at_ (ys.set i.toNat y) j = ⟨k + 3 * (j : Int), k + 3 * (j : Int) + 1, k + 3 * (j : Int) + 2⟩ := fun j hj => by
  by_cases e : j = i.toNat
  · subst e
    have e2 : ((i.toNat : Nat) : Int) = i := by omega
    rw [e2]
    simp [at_, hi, hy]
  · have h' : ¬ i.toNat = j := fun q => e q.symm
    have : at_ (ys.set i.toNat y) j = at_ ys j := by simp [at_, List.getElem?_set, h']
    rw [this]; exact h j (by omega)

-- laws.toFeatS
theorem toFeatS_own (al : List Feat) (hb : bulkFeatS al ≤ 1048576) : ∃ (ys : List Feat), (ys = al) ∧ CallOK Try.prog 9 [slFeat false al] (lookO []) false (.arr 8301) (lookO [(8301, .arr 3 ys.length (fFeat ys))]) := by
  have hb0 := bulkFeatS_len al
  have hh : ∃ r : (List Feat), ((r = al) ∧ (True)) ∧ CallOK Try.prog 9 [slFeat false al] (lookO []) false (.arr 8301) (lookO [(8301, .arr 3 r.length (fFeat r))]) := by
    refine fn_okX (Φ := fun r : (List Feat) => (r = al) ∧ (True)) [] (fun r => [(8301, .arr 3 r.length (fFeat r))]) (fn := Try.f9) (nt := 23) Try.func9 rfl rfl (args := [slFeat false al]) rfl (allcons (.inl ⟨rfl, tagFeat false _⟩) allnil) (res := fun r => .arr 8301) ?_
    refine x_seq ?_
    refine x_reg [] [0] [] [slFeat false al] [] [] (by kernel_rfl) trivial ?_
    refine xe_then ?_
    refine x_seq ?_
    refine x_reg [(2, .new 7)] [0, 3] [7] [slFeat false al, .arr 7] [some (.arr 3 ((al.length : Int).toNat) (fun _ => [I 0, I 0, I 0]))] [(0 : Int) ≤ (al.length : Int) ∧ ((al.length : Int) : Int) ≤ (al.length : Int) ∧ (24 : Int) * (al.length : Int) ≤ 281474976710656 ∧ (al.length : Int) ≤ 9223372036854775807] (by kernel_rfl) ⟨⟨(by omega), (by omega), (by omega), (by omega)⟩, trivial⟩ ?_
    refine xe_then ?_
    refine x_seq ?_
    refine x_seq ?_
    refine x_reg [] [0, 3, 4] [7] [slFeat false al, .arr 7, I 0] [some (.arr 3 ((al.length : Int).toNat) (fun _ => [I 0, I 0, I 0]))] [] (by kernel_rfl) trivial ?_
    refine xe_then ?_
    refine x_block ?_
    refine x_weak [] (T := [(0, slFeat false al), (3, .arr 7), (4, I 0)]) (O := [(7, .arr 3 ((List.replicate ((al.length : Int).toNat) (Feat.mk 0 0 0)).length) (fFeat (List.replicate ((al.length : Int).toNat) (Feat.mk 0 0 0))))]) rfl (⟨.inl rfl, .inl rfl, .inl rfl, trivial⟩) (⟨.inr ⟨rfl, (by first | rfl | (simp; done) | (simp; omega) | omega), fun i_ hi_ => .inl (const_enc (enc := cFeat) rfl i_ hi_)⟩, trivial⟩) ?_
    refine x_loop (X := Int × (List Feat)) (fun x => mkS [(0, slFeat false al), (3, .arr 7), (4, I x.1)] [(7, .arr 3 x.2.length (fFeat x.2))]) (fun x => (0 ≤ x.1 ∧ x.1 ≤ (al.length : Int)) ∧ (x.2.length = al.length) ∧ (∀ j : Nat, (j : Int) < x.1 → at_ x.2 j = at_ al j) ∧ True) (fun x => ((al.length : Int) - x.1).toNat) (0, (List.replicate ((al.length : Int).toNat) (Feat.mk 0 0 0))) rfl (show (0 ≤ (0 : Int) ∧ (0 : Int) ≤ (al.length : Int)) ∧ ((List.replicate ((al.length : Int).toNat) (Feat.mk 0 0 0)).length = al.length) ∧ (∀ j : Nat, (j : Int) < (0 : Int) → at_ (List.replicate ((al.length : Int).toNat) (Feat.mk 0 0 0)) j = at_ al j) ∧ True from ⟨(by omega), (by simp), (by intro j hj; omega), trivial⟩) (fun x hI => ?_)
    obtain ⟨i, zs⟩ := x
    obtain ⟨hi0, hy0, hy1, _⟩ : (0 ≤ i ∧ i ≤ (al.length : Int)) ∧ (zs.length = al.length) ∧ (∀ j : Nat, (j : Int) < i → at_ zs j = at_ al j) ∧ True := hI
    show XW _ _ _ _ (mkS [(0, slFeat false al), (3, .arr 7), (4, I i)] [(7, .arr 3 zs.length (fFeat zs))]) _ _
    refine x_seq ?_
    refine x_seq ?_
    by_cases h1 : i < (al.length : Int)
    ·have hi : i.toNat < al.length := by omega
     have hiy : i.toNat < zs.length := by omega
     refine x_reg [(3, .dec true)] [0, 3, 4, 11] [7] [slFeat false al, .arr 7, I i, Bv true] [some (.arr 3 zs.length (fFeat zs))] [i < (al.length : Int)] (by kernel_rfl) ⟨h1, trivial⟩ ?_
     refine xe_then ?_
     refine x_true rfl ?_
     refine x_skip ?_
     refine xe_then ?_
     refine x_seq ?_
     refine x_block ?_
     refine x_reg [(6, .call [(true, agFeat (at_ al i.toNat))] true (agFeat (at_ al i.toNat)))] [0, 3, 4] [7] [slFeat false al, .arr 7, I i] [some (.arr 3 zs.length (fun q => bif Nat.beq q i.toNat then [I ((at_ al i.toNat).X), I ((at_ al i.toNat).Y), I ((at_ al i.toNat).D)] else (fFeat zs) q))] [(0 : Int) ≤ i ∧ i < (al.length : Int), Con Try.prog 30 [agFeat (at_ al i.toNat)] true (agFeat (at_ al i.toNat)) ∧ ((agFeat (at_ al i.toNat) : AV) = agFeat (at_ al i.toNat)) ∧ True, (0 : Int) ≤ i ∧ i < (zs.length : Int), i.toNat < zs.length] (by kernel_rfl) ⟨⟨(by omega), (by omega)⟩, ⟨(toFeat_ok (at_ al i.toNat)), rfl, trivial⟩, ⟨(by omega), (by omega)⟩, (by omega), trivial⟩ ?_
     refine xe_block 1 ?_
     refine xe_then ?_
     refine x_reg [] [0, 3, 4] [7] [slFeat false al, .arr 7, I (i + 1)] [some (.arr 3 zs.length (fun q => bif Nat.beq q i.toNat then [I ((at_ al i.toNat).X), I ((at_ al i.toNat).Y), I ((at_ al i.toNat).D)] else (fFeat zs) q))] [inR .i64 (i + 1)] (by kernel_rfl) ⟨(inR_i64 (by omega) (by omega)), trivial⟩ ?_
     refine xe_weak [] (T := [(0, slFeat false al), (3, .arr 7), (4, I (i + 1))]) (O := [(7, .arr 3 ((zs.set i.toNat (at_ al i.toNat)).length) (fFeat (zs.set i.toNat (at_ al i.toNat))))]) rfl (⟨.inl rfl, .inl rfl, .inl rfl, trivial⟩) (⟨.inr ⟨rfl, (by first | rfl | (simp; done) | (simp; omega) | omega), fun i_ hi_ => .inl (upd_enc (enc := cFeat) rfl i_ hi_)⟩, trivial⟩) (xe_again ((i + 1), (zs.set i.toNat (at_ al i.toNat))) rfl (show (0 ≤ (i + 1) ∧ (i + 1) ≤ (al.length : Int)) ∧ ((zs.set i.toNat (at_ al i.toNat)).length = al.length) ∧ (∀ j : Nat, (j : Int) < (i + 1) → at_ (zs.set i.toNat (at_ al i.toNat)) j = at_ al j) ∧ True from ⟨(by omega), (by simp [hy0]), (by intro j hj; exact set_at hy0 hi hy1 j (by omega)), trivial⟩) (by first | (show (((al.length : Int) - (i + 1)).toNat : Nat) < ((al.length : Int) - i).toNat; omega) | (dsimp only; omega)))
    ·refine x_reg [(3, .dec false)] [0, 3, 4, 11] [7] [slFeat false al, .arr 7, I i, Bv false] [some (.arr 3 zs.length (fFeat zs))] [¬ (i < (al.length : Int))] (by kernel_rfl) ⟨h1, trivial⟩ ?_
     refine xe_then ?_
     refine x_false rfl ?_
     refine x_exit ?_
     refine xe_exit_then ?_
     refine xe_loop_exit ?_
     refine xe_exit_same ?_
     refine xe_then ?_
     refine x_seq ?_
     refine x_reg [] [2] [7] [.arr 7] [some (.arr 3 zs.length (fFeat zs))] [] (by kernel_rfl) trivial ?_
     refine xe_then ?_
     refine x_ret ?_
     refine xe_weak [(8301, 7)] (T := [(2, .arr 8301)]) (O := [(8301, .arr 3 zs.length (fFeat zs))]) rfl (⟨.inl rfl, trivial⟩) (⟨.inl rfl, trivial⟩) ?_
     refine xe_end zs (show (zs = al) ∧ (True) from ⟨(by exact ext_at hy0 (fun j hj => hy1 j (by omega))), trivial⟩) (⟨.inl rfl, trivial⟩) (.arr 8301) (by kernel_rfl) (.inl rfl) (fun h => by cases h) (fun h => by cases h)
  obtain ⟨ys, ⟨hh0, _⟩, hc⟩ := hh
  exact ⟨ys, hh0, hc⟩


-- laws.toTrained
theorem toTrained_own (t : Trained) (hb : bulkFeatS t.Base ≤ 1048576 ∧ bulkFeatS t.Feats ≤ 1048576) : ∃ (bs : List Feat) (fs : List Feat), (bs = t.Base) ∧ (fs = t.Feats) ∧ CallOK Try.prog 8 [agTrained t] (lookO []) false (.agg [Sv t.Label, .arr 8303, .arr 8304, I t.Count]) (lookO [(8303, .arr 3 bs.length (fFeat bs)), (8304, .arr 3 fs.length (fFeat fs))]) := by
  have hh : ∃ r : (List Feat) × (List Feat), ((r.1 = t.Base) ∧ (r.2 = t.Feats) ∧ (True)) ∧ CallOK Try.prog 8 [agTrained t] (lookO []) false (.agg [Sv t.Label, .arr 8303, .arr 8304, I t.Count]) (lookO [(8303, .arr 3 r.1.length (fFeat r.1)), (8304, .arr 3 r.2.length (fFeat r.2))]) := by
    refine fn_okX (Φ := fun r : (List Feat) × (List Feat) => (r.1 = t.Base) ∧ (r.2 = t.Feats) ∧ (True)) [] (fun r => [(8303, .arr 3 r.1.length (fFeat r.1)), (8304, .arr 3 r.2.length (fFeat r.2))]) (fn := Try.f8) (nt := 19) Try.func8 rfl rfl (args := [agTrained t]) rfl (allcons (.inl ⟨rfl, by simp [tagged, taggedL, tagFeat]⟩) allnil) (res := fun r => .agg [Sv t.Label, .arr 8303, .arr 8304, I t.Count]) ?_
    refine x_seq ?_
    refine x_reg [(0, .new 1), (1, .new 2)] [1, 2] [1, 2] [.ref 1 0, .ref 2 0] [some (bxTrained t), some (.box [Sv (⟨#[]⟩ : ByteArray), nilA, nilA, I 0])] [] (by kernel_rfl) trivial ?_
    refine xe_then ?_
    refine x_seq ?_
    refine x_reg [(0, .new 3)] [1, 2, 3] [1, 2, 3] [.ref 1 0, .ref 2 0, .ref 3 0] [some (bxTrained t), some (.box [Sv (⟨#[]⟩ : ByteArray), nilA, nilA, I 0]), some (.box [Sv (⟨#[]⟩ : ByteArray), nilA, nilA, I 0])] [] (by kernel_rfl) trivial ?_
    refine xe_then ?_
    refine x_seq ?_
    refine x_reg [] [1, 2, 3] [1, 2, 3] [.ref 1 0, .ref 2 0, .ref 3 0] [some (bxTrained t), some (.box [Sv (⟨#[]⟩ : ByteArray), nilA, nilA, I 0]), some (.box [Sv t.Label, nilA, nilA, I 0])] [] (by kernel_rfl) trivial ?_
    refine xe_then ?_
    refine x_seq ?_
    obtain ⟨ys_1, hx1_0, hc1⟩ := toFeatS_own t.Base hb.1
    refine x_reg [(2, .lend [] [(8301, .arr 3 ys_1.length (fFeat ys_1))] [(true, slFeat false t.Base)] false (.arr 8301))] [1, 2, 3] [1, 2, 3, 8301] [.ref 1 0, .ref 2 0, .ref 3 0] [some (bxTrained t), some (.box [Sv (⟨#[]⟩ : ByteArray), nilA, nilA, I 0]), some (.box [Sv t.Label, .arr 8301, nilA, I 0]), some (.arr 3 ys_1.length (fFeat ys_1))] [CallOK Try.prog 9 [slFeat false t.Base] (lookO []) false (.arr 8301) (lookO [(8301, .arr 3 ys_1.length (fFeat ys_1))]) ∧ ((slFeat false t.Base : AV) = slFeat false t.Base) ∧ True] (by kernel_rfl) ⟨⟨hc1, rfl, trivial⟩, trivial⟩ ?_
    refine xe_then ?_
    refine x_seq ?_
    refine x_weak [(7901, 8301)] (T := [(1, .ref 1 0), (2, .ref 2 0), (3, .ref 3 0)]) (O := [(1, bxTrained t), (2, .box [Sv (⟨#[]⟩ : ByteArray), nilA, nilA, I 0]), (3, .box [Sv t.Label, .arr 7901, nilA, I 0]), (7901, .arr 3 ys_1.length (fFeat ys_1))]) rfl (⟨.inl rfl, .inl rfl, .inl rfl, trivial⟩) (⟨.inl rfl, .inl rfl, .inl rfl, .inl rfl, trivial⟩) ?_
    obtain ⟨ys_2, hx2_0, hc2⟩ := toFeatS_own t.Feats hb.2
    refine x_reg [(2, .lend [] [(8301, .arr 3 ys_2.length (fFeat ys_2))] [(true, slFeat false t.Feats)] false (.arr 8301))] [1, 2, 3] [1, 2, 3, 7901, 8301] [.ref 1 0, .ref 2 0, .ref 3 0] [some (bxTrained t), some (.box [Sv (⟨#[]⟩ : ByteArray), nilA, nilA, I 0]), some (.box [Sv t.Label, .arr 7901, .arr 8301, I 0]), some (.arr 3 ys_1.length (fFeat ys_1)), some (.arr 3 ys_2.length (fFeat ys_2))] [CallOK Try.prog 9 [slFeat false t.Feats] (lookO []) false (.arr 8301) (lookO [(8301, .arr 3 ys_2.length (fFeat ys_2))]) ∧ ((slFeat false t.Feats : AV) = slFeat false t.Feats) ∧ True] (by kernel_rfl) ⟨⟨hc2, rfl, trivial⟩, trivial⟩ ?_
    refine xe_then ?_
    refine x_seq ?_
    refine x_reg [] [2, 3] [2, 3, 7901, 8301] [.ref 2 0, .ref 3 0] [some (.box [Sv (⟨#[]⟩ : ByteArray), nilA, nilA, I 0]), some (.box [Sv t.Label, .arr 7901, .arr 8301, I t.Count]), some (.arr 3 ys_1.length (fFeat ys_1)), some (.arr 3 ys_2.length (fFeat ys_2))] [] (by kernel_rfl) trivial ?_
    refine xe_then ?_
    refine x_seq ?_
    refine x_reg [] [2] [2, 7901, 8301] [.ref 2 0] [some (.box [Sv t.Label, .arr 7901, .arr 8301, I t.Count]), some (.arr 3 ys_1.length (fFeat ys_1)), some (.arr 3 ys_2.length (fFeat ys_2))] [] (by kernel_rfl) trivial ?_
    refine xe_then ?_
    refine x_ret ?_
    refine xe_weak [(8303, 7901), (8304, 8301)] (T := [(2, .ref 2 0)]) (O := [(2, .box [Sv t.Label, .arr 8303, .arr 8304, I t.Count]), (8303, .arr 3 ys_1.length (fFeat ys_1)), (8304, .arr 3 ys_2.length (fFeat ys_2))]) rfl (⟨.inl rfl, trivial⟩) (⟨.inl rfl, .inl rfl, .inl rfl, trivial⟩) ?_
    refine xe_end (ys_1, ys_2) (show (ys_1 = t.Base) ∧ (ys_2 = t.Feats) ∧ (True) from ⟨(by assumption), (by assumption), trivial⟩) (⟨.inl rfl, .inl rfl, trivial⟩) (.agg [Sv t.Label, .arr 8303, .arr 8304, I t.Count]) (by kernel_rfl) (.inl rfl) (fun h => by cases h) (fun h => by cases h)
  obtain ⟨⟨bs, fs⟩, ⟨hh0, hh1, _⟩, hc⟩ := hh
  exact ⟨bs, fs, hh0, hh1, hc⟩


-- spec.l01Small
theorem l01Small_ok (c : Int) : Con Try.prog 81 [.val (.int .u8 c)] true (Bv (inB c 97 122)) := by
  refine fn_ok (fn := Try.f81) (nt := 9) Try.func81 rfl rfl rfl rfl (by simp [taggedL, tagged]) fun B hB => ?_
  refine aw_seq ?_
  refine aw_reg [] [0] [] [.val (.int .u8 c)] [] [] (by kernel_rfl) hB trivial ?_
  refine ae_then ?_
  refine aw_seq ?_
  by_cases h1 : 97 ≤ c
  ·refine aw_reg [(1, .dec true)] [2] [] [Bv (decide (c ≤ 122))] [] [97 ≤ c] (by kernel_rfl) hB ⟨h1, trivial⟩ ?_
   refine ae_then ?_
   refine aw_ret ?_
   refine ae_ret hB (Bv (decide (c ≤ 122))) (by kernel_rfl) (.inl (by first | rfl | (refine congrArg Bv ?_; simp [inB, *]; done) | (refine congrArg Bv ?_; simp [inB, *]; omega) | (refine congrArg Bv ?_; simp_all [inB]; done) | (refine congrArg Bv ?_; simp_all [inB]; omega))) rfl (fun _ => trivial)
  ·refine aw_reg [(1, .dec false)] [2] [] [Bv false] [] [¬ (97 ≤ c)] (by kernel_rfl) hB ⟨h1, trivial⟩ ?_
   refine ae_then ?_
   refine aw_ret ?_
   refine ae_ret hB (Bv false) (by kernel_rfl) (.inl (by first | rfl | (refine congrArg Bv ?_; simp [inB, *]; done) | (refine congrArg Bv ?_; simp [inB, *]; omega) | (refine congrArg Bv ?_; simp_all [inB]; done) | (refine congrArg Bv ?_; simp_all [inB]; omega))) rfl (fun _ => trivial)


-- spec.l11Label
theorem l11Label_ok (c : Int) : Con Try.prog 68 [.val (.int .u8 c)] true (Bv (labB c)) := by
  refine fn_ok (fn := Try.f68) (nt := 24) Try.func68 rfl rfl rfl rfl (by simp [taggedL, tagged]) fun B hB => ?_
  refine aw_seq ?_
  refine aw_reg [] [0] [] [.val (.int .u8 c)] [] [] (by kernel_rfl) hB trivial ?_
  refine ae_then ?_
  refine aw_seq ?_
  refine aw_seq ?_
  refine aw_reg [] [0, 3] [] [.val (.int .u8 c), .val (.int .u8 c)] [] [] (by kernel_rfl) hB trivial ?_
  refine ae_then ?_
  refine aw_block ?_
  refine aw_seq ?_
  refine aw_seq ?_
  by_cases h1 : c = 43
  ·refine aw_reg [(0, .dec true)] [0, 3, 4] [] [.val (.int .u8 c), .val (.int .u8 c), Bv true] [] [c = 43] (by kernel_rfl) hB ⟨h1, trivial⟩ ?_
   refine ae_then ?_
   refine aw_true rfl ?_
   refine aw_skip ?_
   refine ae_then ?_
   refine aw_true rfl ?_
   refine aw_seq ?_
   refine aw_reg [] [2] [] [Bv true] [] [] (by kernel_rfl) hB trivial ?_
   refine ae_then ?_
   refine aw_ret ?_
   refine ae_ret_block (ae_ret_then ?_)
   refine ae_ret hB (Bv true) (by kernel_rfl) (.inl (by first | rfl | (refine congrArg Bv ?_; simp [labB, inB, *]; done) | (refine congrArg Bv ?_; simp [labB, inB, *]; omega) | (refine congrArg Bv ?_; simp_all [labB, inB]; done) | (refine congrArg Bv ?_; simp_all [labB, inB]; omega))) rfl (fun _ => trivial)
  ·refine aw_reg [(0, .dec false)] [0, 3, 4] [] [.val (.int .u8 c), .val (.int .u8 c), Bv false] [] [¬ (c = 43)] (by kernel_rfl) hB ⟨h1, trivial⟩ ?_
   refine ae_then ?_
   refine aw_false rfl ?_
   refine aw_seq ?_
   by_cases h2 : c = 45
   ·refine aw_reg [(0, .dec true)] [0, 3, 4] [] [.val (.int .u8 c), .val (.int .u8 c), Bv true] [] [c = 45] (by kernel_rfl) hB ⟨h2, trivial⟩ ?_
    refine ae_then ?_
    refine aw_true rfl ?_
    refine aw_skip ?_
    refine ae_then ?_
    refine aw_true rfl ?_
    refine aw_seq ?_
    refine aw_reg [] [2] [] [Bv true] [] [] (by kernel_rfl) hB trivial ?_
    refine ae_then ?_
    refine aw_ret ?_
    refine ae_ret_block (ae_ret_then ?_)
    refine ae_ret hB (Bv true) (by kernel_rfl) (.inl (by first | rfl | (refine congrArg Bv ?_; simp [labB, inB, *]; done) | (refine congrArg Bv ?_; simp [labB, inB, *]; omega) | (refine congrArg Bv ?_; simp_all [labB, inB]; done) | (refine congrArg Bv ?_; simp_all [labB, inB]; omega))) rfl (fun _ => trivial)
   ·refine aw_reg [(0, .dec false)] [0, 3, 4] [] [.val (.int .u8 c), .val (.int .u8 c), Bv false] [] [¬ (c = 45)] (by kernel_rfl) hB ⟨h2, trivial⟩ ?_
    refine ae_then ?_
    refine aw_false rfl ?_
    refine aw_seq ?_
    by_cases h3 : c = 42
    ·refine aw_reg [(0, .dec true)] [0, 3, 4] [] [.val (.int .u8 c), .val (.int .u8 c), Bv true] [] [c = 42] (by kernel_rfl) hB ⟨h3, trivial⟩ ?_
     refine ae_then ?_
     refine aw_true rfl ?_
     refine aw_skip ?_
     refine ae_then ?_
     refine aw_true rfl ?_
     refine aw_seq ?_
     refine aw_reg [] [2] [] [Bv true] [] [] (by kernel_rfl) hB trivial ?_
     refine ae_then ?_
     refine aw_ret ?_
     refine ae_ret_block (ae_ret_then ?_)
     refine ae_ret hB (Bv true) (by kernel_rfl) (.inl (by first | rfl | (refine congrArg Bv ?_; simp [labB, inB, *]; done) | (refine congrArg Bv ?_; simp [labB, inB, *]; omega) | (refine congrArg Bv ?_; simp_all [labB, inB]; done) | (refine congrArg Bv ?_; simp_all [labB, inB]; omega))) rfl (fun _ => trivial)
    ·refine aw_reg [(0, .dec false)] [0, 3, 4] [] [.val (.int .u8 c), .val (.int .u8 c), Bv false] [] [¬ (c = 42)] (by kernel_rfl) hB ⟨h3, trivial⟩ ?_
     refine ae_then ?_
     refine aw_false rfl ?_
     refine aw_seq ?_
     by_cases h4 : c = 47
     ·refine aw_reg [(0, .dec true)] [0, 3, 4] [] [.val (.int .u8 c), .val (.int .u8 c), Bv true] [] [c = 47] (by kernel_rfl) hB ⟨h4, trivial⟩ ?_
      refine ae_then ?_
      refine aw_true rfl ?_
      refine aw_skip ?_
      refine ae_then ?_
      refine aw_true rfl ?_
      refine aw_seq ?_
      refine aw_reg [] [2] [] [Bv true] [] [] (by kernel_rfl) hB trivial ?_
      refine ae_then ?_
      refine aw_ret ?_
      refine ae_ret_block (ae_ret_then ?_)
      refine ae_ret hB (Bv true) (by kernel_rfl) (.inl (by first | rfl | (refine congrArg Bv ?_; simp [labB, inB, *]; done) | (refine congrArg Bv ?_; simp [labB, inB, *]; omega) | (refine congrArg Bv ?_; simp_all [labB, inB]; done) | (refine congrArg Bv ?_; simp_all [labB, inB]; omega))) rfl (fun _ => trivial)
     ·refine aw_reg [(0, .dec false)] [0, 3, 4] [] [.val (.int .u8 c), .val (.int .u8 c), Bv false] [] [¬ (c = 47)] (by kernel_rfl) hB ⟨h4, trivial⟩ ?_
      refine ae_then ?_
      refine aw_false rfl ?_
      refine aw_seq ?_
      by_cases h5 : c = 61
      ·refine aw_reg [(0, .dec true)] [0, 3, 4] [] [.val (.int .u8 c), .val (.int .u8 c), Bv true] [] [c = 61] (by kernel_rfl) hB ⟨h5, trivial⟩ ?_
       refine ae_then ?_
       refine aw_true rfl ?_
       refine aw_skip ?_
       refine ae_then ?_
       refine aw_true rfl ?_
       refine aw_seq ?_
       refine aw_reg [] [2] [] [Bv true] [] [] (by kernel_rfl) hB trivial ?_
       refine ae_then ?_
       refine aw_ret ?_
       refine ae_ret_block (ae_ret_then ?_)
       refine ae_ret hB (Bv true) (by kernel_rfl) (.inl (by first | rfl | (refine congrArg Bv ?_; simp [labB, inB, *]; done) | (refine congrArg Bv ?_; simp [labB, inB, *]; omega) | (refine congrArg Bv ?_; simp_all [labB, inB]; done) | (refine congrArg Bv ?_; simp_all [labB, inB]; omega))) rfl (fun _ => trivial)
      ·refine aw_reg [(0, .dec false)] [0, 3, 4] [] [.val (.int .u8 c), .val (.int .u8 c), Bv false] [] [¬ (c = 61)] (by kernel_rfl) hB ⟨h5, trivial⟩ ?_
       refine ae_then ?_
       refine aw_false rfl ?_
       refine aw_seq ?_
       by_cases h6 : c = 40
       ·refine aw_reg [(0, .dec true)] [0, 3, 4] [] [.val (.int .u8 c), .val (.int .u8 c), Bv true] [] [c = 40] (by kernel_rfl) hB ⟨h6, trivial⟩ ?_
        refine ae_then ?_
        refine aw_true rfl ?_
        refine aw_skip ?_
        refine ae_then ?_
        refine aw_true rfl ?_
        refine aw_seq ?_
        refine aw_reg [] [2] [] [Bv true] [] [] (by kernel_rfl) hB trivial ?_
        refine ae_then ?_
        refine aw_ret ?_
        refine ae_ret_block (ae_ret_then ?_)
        refine ae_ret hB (Bv true) (by kernel_rfl) (.inl (by first | rfl | (refine congrArg Bv ?_; simp [labB, inB, *]; done) | (refine congrArg Bv ?_; simp [labB, inB, *]; omega) | (refine congrArg Bv ?_; simp_all [labB, inB]; done) | (refine congrArg Bv ?_; simp_all [labB, inB]; omega))) rfl (fun _ => trivial)
       ·refine aw_reg [(0, .dec false)] [0, 3, 4] [] [.val (.int .u8 c), .val (.int .u8 c), Bv false] [] [¬ (c = 40)] (by kernel_rfl) hB ⟨h6, trivial⟩ ?_
        refine ae_then ?_
        refine aw_false rfl ?_
        refine aw_seq ?_
        by_cases h7 : c = 41
        ·refine aw_reg [(0, .dec true)] [0, 3, 4] [] [.val (.int .u8 c), .val (.int .u8 c), Bv true] [] [c = 41] (by kernel_rfl) hB ⟨h7, trivial⟩ ?_
         refine ae_then ?_
         refine aw_true rfl ?_
         refine aw_skip ?_
         refine ae_then ?_
         refine aw_true rfl ?_
         refine aw_seq ?_
         refine aw_reg [] [2] [] [Bv true] [] [] (by kernel_rfl) hB trivial ?_
         refine ae_then ?_
         refine aw_ret ?_
         refine ae_ret_block (ae_ret_then ?_)
         refine ae_ret hB (Bv true) (by kernel_rfl) (.inl (by first | rfl | (refine congrArg Bv ?_; simp [labB, inB, *]; done) | (refine congrArg Bv ?_; simp [labB, inB, *]; omega) | (refine congrArg Bv ?_; simp_all [labB, inB]; done) | (refine congrArg Bv ?_; simp_all [labB, inB]; omega))) rfl (fun _ => trivial)
        ·refine aw_reg [(0, .dec false)] [0, 3, 4] [] [.val (.int .u8 c), .val (.int .u8 c), Bv false] [] [¬ (c = 41)] (by kernel_rfl) hB ⟨h7, trivial⟩ ?_
         refine ae_then ?_
         refine aw_false rfl ?_
         refine aw_seq ?_
         by_cases h8 : c = 46
         ·refine aw_reg [(0, .dec true)] [0, 3, 4] [] [.val (.int .u8 c), .val (.int .u8 c), Bv true] [] [c = 46] (by kernel_rfl) hB ⟨h8, trivial⟩ ?_
          refine ae_then ?_
          refine aw_true rfl ?_
          refine aw_skip ?_
          refine ae_then ?_
          refine aw_true rfl ?_
          refine aw_seq ?_
          refine aw_reg [] [2] [] [Bv true] [] [] (by kernel_rfl) hB trivial ?_
          refine ae_then ?_
          refine aw_ret ?_
          refine ae_ret_block (ae_ret_then ?_)
          refine ae_ret hB (Bv true) (by kernel_rfl) (.inl (by first | rfl | (refine congrArg Bv ?_; simp [labB, inB, *]; done) | (refine congrArg Bv ?_; simp [labB, inB, *]; omega) | (refine congrArg Bv ?_; simp_all [labB, inB]; done) | (refine congrArg Bv ?_; simp_all [labB, inB]; omega))) rfl (fun _ => trivial)
         ·refine aw_reg [(0, .dec false)] [0, 3, 4] [] [.val (.int .u8 c), .val (.int .u8 c), Bv false] [] [¬ (c = 46)] (by kernel_rfl) hB ⟨h8, trivial⟩ ?_
          refine ae_then ?_
          refine aw_false rfl ?_
          by_cases h9 : c = 44
          ·refine aw_reg [(0, .dec true)] [0, 4] [] [.val (.int .u8 c), Bv true] [] [c = 44] (by kernel_rfl) hB ⟨h9, trivial⟩ ?_
           refine ae_then ?_
           refine aw_true rfl ?_
           refine aw_seq ?_
           refine aw_reg [] [2] [] [Bv true] [] [] (by kernel_rfl) hB trivial ?_
           refine ae_then ?_
           refine aw_ret ?_
           refine ae_ret_block (ae_ret_then ?_)
           refine ae_ret hB (Bv true) (by kernel_rfl) (.inl (by first | rfl | (refine congrArg Bv ?_; simp [labB, inB, *]; done) | (refine congrArg Bv ?_; simp [labB, inB, *]; omega) | (refine congrArg Bv ?_; simp_all [labB, inB]; done) | (refine congrArg Bv ?_; simp_all [labB, inB]; omega))) rfl (fun _ => trivial)
          ·refine aw_reg [(0, .dec false)] [0, 4] [] [.val (.int .u8 c), Bv false] [] [¬ (c = 44)] (by kernel_rfl) hB ⟨h9, trivial⟩ ?_
           refine ae_then ?_
           refine aw_false rfl ?_
           refine aw_skip ?_
           refine ae_block 0 ?_
           refine ae_then ?_
           refine aw_seq ?_
           rcases Bool.eq_false_or_eq_true (inB c 97 122) with h10 | h10
           ·refine aw_reg [(1, .call [(true, .val (.int .u8 c))] true (Bv true))] [2] [] [Bv true] [] [Con Try.prog 81 [.val (.int .u8 c)] true (Bv true) ∧ ((.val (.int .u8 c) : AV) = .val (.int .u8 c)) ∧ True] (by kernel_rfl) hB ⟨⟨(con_bool h10 (l01Small_ok c)), rfl, trivial⟩, trivial⟩ ?_
            refine ae_then ?_
            refine aw_ret ?_
            refine ae_ret hB (Bv true) (by kernel_rfl) (.inl (by first | rfl | (refine congrArg Bv ?_; simp [labB, inB, *]; done) | (refine congrArg Bv ?_; simp [labB, inB, *]; omega) | (refine congrArg Bv ?_; simp_all [labB, inB]; done) | (refine congrArg Bv ?_; simp_all [labB, inB]; omega))) rfl (fun _ => trivial)
           ·by_cases h11 : 48 ≤ c
            ·refine aw_reg [(1, .call [(true, .val (.int .u8 c))] true (Bv false)), (4, .dec true)] [2] [] [Bv (decide (c ≤ 57))] [] [Con Try.prog 81 [.val (.int .u8 c)] true (Bv false) ∧ ((.val (.int .u8 c) : AV) = .val (.int .u8 c)) ∧ True, 48 ≤ c] (by kernel_rfl) hB ⟨⟨(con_bool h10 (l01Small_ok c)), rfl, trivial⟩, h11, trivial⟩ ?_
             refine ae_then ?_
             refine aw_ret ?_
             refine ae_ret hB (Bv (decide (c ≤ 57))) (by kernel_rfl) (.inl (by first | rfl | (refine congrArg Bv ?_; simp [labB, inB, *]; done) | (refine congrArg Bv ?_; simp [labB, inB, *]; omega) | (refine congrArg Bv ?_; simp_all [labB, inB]; done) | (refine congrArg Bv ?_; simp_all [labB, inB]; omega))) rfl (fun _ => trivial)
            ·refine aw_reg [(1, .call [(true, .val (.int .u8 c))] true (Bv false)), (4, .dec false)] [2] [] [Bv false] [] [Con Try.prog 81 [.val (.int .u8 c)] true (Bv false) ∧ ((.val (.int .u8 c) : AV) = .val (.int .u8 c)) ∧ True, ¬ (48 ≤ c)] (by kernel_rfl) hB ⟨⟨(con_bool h10 (l01Small_ok c)), rfl, trivial⟩, h11, trivial⟩ ?_
             refine ae_then ?_
             refine aw_ret ?_
             refine ae_ret hB (Bv false) (by kernel_rfl) (.inl (by first | rfl | (refine congrArg Bv ?_; simp [labB, inB, *]; done) | (refine congrArg Bv ?_; simp [labB, inB, *]; omega) | (refine congrArg Bv ?_; simp_all [labB, inB]; done) | (refine congrArg Bv ?_; simp_all [labB, inB]; omega))) rfl (fun _ => trivial)


-- spec.IsLabel
theorem specIsLabel_ok (s : ByteArray) (ok : s.size ≤ 9223372036854775807) : Con Try.prog 46 [Sv s] true (Bv (okLabel s)) := by
  refine fn_ok (fn := Try.f46) (nt := 11) Try.func46 rfl rfl rfl rfl (by simp [taggedL, tagged]) fun B hB => ?_
  refine aw_seq ?_
  refine aw_reg [] [0] [] [Sv s] [] [] (by kernel_rfl) hB trivial ?_
  refine ae_then ?_
  refine aw_seq ?_
  by_cases h1 : (s.size : Int) = 1
  ·refine aw_reg [(2, .dec true), (6, .call [(true, .val (.int .u8 (bAt s 0)))] true (Bv (labB (bAt s 0))))] [2] [] [Bv (labB (bAt s 0))] [] [(s.size : Int) = 1, (0 : Int) ≤ 0 ∧ 0 < (s.size : Int), Con Try.prog 68 [.val (.int .u8 (bAt s 0))] true (Bv (labB (bAt s 0))) ∧ ((.val (.int .u8 (bAt s 0)) : AV) = .val (.int .u8 (bAt s 0))) ∧ True] (by kernel_rfl) hB ⟨h1, ⟨(by omega), (by omega)⟩, ⟨(l11Label_ok (bAt s 0)), rfl, trivial⟩, trivial⟩ ?_
   refine ae_then ?_
   refine aw_ret ?_
   refine ae_ret hB (Bv (labB (bAt s 0))) (by kernel_rfl) (.inl (by first | rfl | (refine congrArg Bv ?_; simp [okLabel, *]; done) | (refine congrArg Bv ?_; simp [okLabel, *]; omega) | (refine congrArg Bv ?_; simp_all [okLabel]; done) | (refine congrArg Bv ?_; simp_all [okLabel]; omega))) rfl (fun _ => trivial)
  ·refine aw_reg [(2, .dec false)] [2] [] [Bv false] [] [¬ ((s.size : Int) = 1)] (by kernel_rfl) hB ⟨h1, trivial⟩ ?_
   refine ae_then ?_
   refine aw_ret ?_
   refine ae_ret hB (Bv false) (by kernel_rfl) (.inl (by first | rfl | (refine congrArg Bv ?_; simp [okLabel, *]; done) | (refine congrArg Bv ?_; simp [okLabel, *]; omega) | (refine congrArg Bv ?_; simp_all [okLabel]; done) | (refine congrArg Bv ?_; simp_all [okLabel]; omega))) rfl (fun _ => trivial)


-- spec.l00In
theorem l00In_ok (n : Int) (low : Int) (high : Int) : Con Try.prog 27 [I n, I low, I high] true (Bv (inB n low high)) := by
  refine fn_ok (fn := Try.f27) (nt := 15) Try.func27 rfl rfl rfl rfl (by simp [taggedL, tagged]) fun B hB => ?_
  refine aw_seq ?_
  refine aw_reg [] [0, 1, 2] [] [I n, I low, I high] [] [] (by kernel_rfl) hB trivial ?_
  refine ae_then ?_
  refine aw_seq ?_
  by_cases h1 : low ≤ n
  ·refine aw_reg [(2, .dec true)] [6] [] [Bv (decide (n ≤ high))] [] [low ≤ n] (by kernel_rfl) hB ⟨h1, trivial⟩ ?_
   refine ae_then ?_
   refine aw_ret ?_
   refine ae_ret hB (Bv (decide (n ≤ high))) (by kernel_rfl) (.inl (by first | rfl | (refine congrArg Bv ?_; simp [inB, *]; done) | (refine congrArg Bv ?_; simp [inB, *]; omega) | (refine congrArg Bv ?_; simp_all [inB]; done) | (refine congrArg Bv ?_; simp_all [inB]; omega))) rfl (fun _ => trivial)
  ·refine aw_reg [(2, .dec false)] [6] [] [Bv false] [] [¬ (low ≤ n)] (by kernel_rfl) hB ⟨h1, trivial⟩ ?_
   refine ae_then ?_
   refine aw_ret ?_
   refine ae_ret hB (Bv false) (by kernel_rfl) (.inl (by first | rfl | (refine congrArg Bv ?_; simp [inB, *]; done) | (refine congrArg Bv ?_; simp [inB, *]; omega) | (refine congrArg Bv ?_; simp_all [inB]; done) | (refine congrArg Bv ?_; simp_all [inB]; omega))) rfl (fun _ => trivial)


-- spec.l09Feat
theorem l09Feat_ok (f : Feat) : Con Try.prog 48 [agFeat f] true (Bv (okF f)) := by
  refine fn_ok (fn := Try.f48) (nt := 16) Try.func48 rfl rfl rfl rfl (by simp [taggedL, tagged]) fun B hB => ?_
  refine aw_seq ?_
  refine aw_reg [(0, .new 1)] [1] [1] [.ref 1 0] [some (bxFeat f)] [] (by kernel_rfl) hB trivial ?_
  refine ae_then ?_
  refine aw_seq ?_
  rcases Bool.eq_false_or_eq_true (inB f.X 0 255) with h1 | h1
  ·rcases Bool.eq_false_or_eq_true (inB f.Y 0 255) with h2 | h2
   ·refine aw_reg [(2, .call [(true, I f.X), (true, I 0), (true, I 255)] true (Bv true)), (6, .call [(true, I f.Y), (true, I 0), (true, I 255)] true (Bv true)), (11, .call [(true, I f.D), (true, I 0), (true, I 7)] true (Bv (inB f.D 0 7)))] [2] [] [Bv (inB f.D 0 7)] [] [Con Try.prog 27 [I f.X, I 0, I 255] true (Bv true) ∧ ((I f.X : AV) = I f.X) ∧ ((I 0 : AV) = I 0) ∧ ((I 255 : AV) = I 255) ∧ True, Con Try.prog 27 [I f.Y, I 0, I 255] true (Bv true) ∧ ((I f.Y : AV) = I f.Y) ∧ ((I 0 : AV) = I 0) ∧ ((I 255 : AV) = I 255) ∧ True, Con Try.prog 27 [I f.D, I 0, I 7] true (Bv (inB f.D 0 7)) ∧ ((I f.D : AV) = I f.D) ∧ ((I 0 : AV) = I 0) ∧ ((I 7 : AV) = I 7) ∧ True] (by kernel_rfl) hB ⟨⟨(con_bool h1 (l00In_ok f.X 0 255)), rfl, rfl, rfl, trivial⟩, ⟨(con_bool h2 (l00In_ok f.Y 0 255)), rfl, rfl, rfl, trivial⟩, ⟨(l00In_ok f.D 0 7), rfl, rfl, rfl, trivial⟩, trivial⟩ ?_
    refine ae_then ?_
    refine aw_ret ?_
    refine ae_ret hB (Bv (inB f.D 0 7)) (by kernel_rfl) (.inl (by first | rfl | (refine congrArg Bv ?_; simp [okF, *]; done) | (refine congrArg Bv ?_; simp [okF, *]; omega) | (refine congrArg Bv ?_; simp_all [okF]; done) | (refine congrArg Bv ?_; simp_all [okF]; omega))) rfl (fun _ => trivial)
   ·refine aw_reg [(2, .call [(true, I f.X), (true, I 0), (true, I 255)] true (Bv true)), (6, .call [(true, I f.Y), (true, I 0), (true, I 255)] true (Bv false))] [2] [] [Bv false] [] [Con Try.prog 27 [I f.X, I 0, I 255] true (Bv true) ∧ ((I f.X : AV) = I f.X) ∧ ((I 0 : AV) = I 0) ∧ ((I 255 : AV) = I 255) ∧ True, Con Try.prog 27 [I f.Y, I 0, I 255] true (Bv false) ∧ ((I f.Y : AV) = I f.Y) ∧ ((I 0 : AV) = I 0) ∧ ((I 255 : AV) = I 255) ∧ True] (by kernel_rfl) hB ⟨⟨(con_bool h1 (l00In_ok f.X 0 255)), rfl, rfl, rfl, trivial⟩, ⟨(con_bool h2 (l00In_ok f.Y 0 255)), rfl, rfl, rfl, trivial⟩, trivial⟩ ?_
    refine ae_then ?_
    refine aw_ret ?_
    refine ae_ret hB (Bv false) (by kernel_rfl) (.inl (by first | rfl | (refine congrArg Bv ?_; simp [okF, *]; done) | (refine congrArg Bv ?_; simp [okF, *]; omega) | (refine congrArg Bv ?_; simp_all [okF]; done) | (refine congrArg Bv ?_; simp_all [okF]; omega))) rfl (fun _ => trivial)
  ·refine aw_reg [(2, .call [(true, I f.X), (true, I 0), (true, I 255)] true (Bv false))] [2] [] [Bv false] [] [Con Try.prog 27 [I f.X, I 0, I 255] true (Bv false) ∧ ((I f.X : AV) = I f.X) ∧ ((I 0 : AV) = I 0) ∧ ((I 255 : AV) = I 255) ∧ True] (by kernel_rfl) hB ⟨⟨(con_bool h1 (l00In_ok f.X 0 255)), rfl, rfl, rfl, trivial⟩, trivial⟩ ?_
   refine ae_then ?_
   refine aw_ret ?_
   refine ae_ret hB (Bv false) (by kernel_rfl) (.inl (by first | rfl | (refine congrArg Bv ?_; simp [okF, *]; done) | (refine congrArg Bv ?_; simp [okF, *]; omega) | (refine congrArg Bv ?_; simp_all [okF]; done) | (refine congrArg Bv ?_; simp_all [okF]; omega))) rfl (fun _ => trivial)


-- spec.l09Ok
theorem l09Ok_ok (list : List Feat) : Con Try.prog 26 [slFeat false list] true (Bv (okFeats list 72)) := by
  refine fn_ok (fn := Try.f26) (nt := 19) Try.func26 rfl rfl rfl rfl (by simp [taggedL, tagged, tagFeat]) fun B hB => ?_
  refine aw_lens (x := slFeat false list) 0 rfl (fun len_list => ?_)
  simp [LenOK, LenL, cFeat, fFeat, slFeat] at len_list
  refine aw_seq ?_
  refine aw_reg [] [0] [] [slFeat false list] [] [] (by kernel_rfl) hB trivial ?_
  refine ae_then ?_
  refine aw_seq ?_
  refine aw_seq ?_
  refine aw_reg [] [0, 3] [] [slFeat false list, I 0] [] [] (by kernel_rfl) hB trivial ?_
  refine ae_then ?_
  refine aw_block ?_
  refine aw_loop (fun gn gσ => ∃ (i : Int), gn = ((list.length : Int) - i).toNat ∧ (0 ≤ i ∧ i ≤ (list.length : Int)) ∧ (∀ j : Nat, (j : Int) < i → okF (at_ list j) = true) ∧ gσ = mkS [(0, slFeat false list), (3, I i)] []) (((list.length : Int) - 0).toNat) ⟨0, rfl, (by omega), (by intro j hj; omega), rfl⟩ (fun gn gσ hI => ?_)
  obtain ⟨i, rfl, hi0, hall0, rfl⟩ := hI
  refine aw_seq ?_
  refine aw_seq ?_
  by_cases h1 : i < (list.length : Int)
  ·have hi : i.toNat < list.length := by omega
   refine aw_reg [(3, .dec true)] [0, 3, 7] [] [slFeat false list, I i, Bv true] [] [i < (list.length : Int)] (by kernel_rfl) hB ⟨h1, trivial⟩ ?_
   refine ae_then ?_
   refine aw_true rfl ?_
   refine aw_skip ?_
   refine ae_then ?_
   refine aw_seq ?_
   refine aw_block ?_
   refine aw_seq ?_
   rcases Bool.eq_false_or_eq_true (okF (at_ list i.toNat)) with h2 | h2
   ·refine aw_reg [(4, .call [(true, agFeat (at_ list i.toNat))] true (Bv true))] [0, 3, 15] [] [slFeat false list, I i, Bv false] [] [(0 : Int) ≤ i ∧ i < (list.length : Int), Con Try.prog 48 [agFeat (at_ list i.toNat)] true (Bv true) ∧ ((agFeat (at_ list i.toNat) : AV) = agFeat (at_ list i.toNat)) ∧ True] (by kernel_rfl) hB ⟨⟨(by omega), (by omega)⟩, ⟨(con_bool h2 (l09Feat_ok (at_ list i.toNat))), rfl, trivial⟩, trivial⟩ ?_
    refine ae_then ?_
    refine aw_false rfl ?_
    refine aw_skip ?_
    refine ae_block 1 ?_
    refine ae_then ?_
    refine aw_reg [] [0, 3] [] [slFeat false list, I (i + 1)] [] [inR .i64 (i + 1)] (by kernel_rfl) hB ⟨(inR_i64 (by omega) (by omega)), trivial⟩ ?_
    exact ae_again _ (by omega) ⟨(i + 1), rfl, (by omega), (by intro j hj; by_cases ej : j = i.toNat; (subst ej; first | assumption | exact hok); exact hall0 j (by omega)), rfl⟩
   ·have hall : allN list.length (fun j => okF (at_ list j)) = false := allN_not hi h2
    refine aw_reg [(4, .call [(true, agFeat (at_ list i.toNat))] true (Bv false))] [0, 3, 15] [] [slFeat false list, I i, Bv true] [] [(0 : Int) ≤ i ∧ i < (list.length : Int), Con Try.prog 48 [agFeat (at_ list i.toNat)] true (Bv false) ∧ ((agFeat (at_ list i.toNat) : AV) = agFeat (at_ list i.toNat)) ∧ True] (by kernel_rfl) hB ⟨⟨(by omega), (by omega)⟩, ⟨(con_bool h2 (l09Feat_ok (at_ list i.toNat))), rfl, trivial⟩, trivial⟩ ?_
    refine ae_then ?_
    refine aw_true rfl ?_
    refine aw_seq ?_
    refine aw_reg [] [2] [] [Bv false] [] [] (by kernel_rfl) hB trivial ?_
    refine ae_then ?_
    refine aw_ret ?_
    refine ae_ret_block (ae_ret_then (ae_ret_then (ae_ret_block (ae_ret_then ?_))))
    refine ae_ret hB (Bv false) (by kernel_rfl) (.inl (by first | rfl | (refine congrArg Bv ?_; simp [okFeats, inB, *]; done) | (refine congrArg Bv ?_; simp [okFeats, inB, *]; omega) | (refine congrArg Bv ?_; simp_all [okFeats, inB]; done) | (refine congrArg Bv ?_; simp_all [okFeats, inB]; omega))) rfl (fun _ => trivial)
  ·have hall : allN list.length (fun j => okF (at_ list j)) = true := allN_at (fun j hj => hall0 j (by omega))
   refine aw_reg [(3, .dec false)] [0, 3, 7] [] [slFeat false list, I i, Bv false] [] [¬ (i < (list.length : Int))] (by kernel_rfl) hB ⟨h1, trivial⟩ ?_
   refine ae_then ?_
   refine aw_false rfl ?_
   refine aw_exit ?_
   refine ae_exit_then ?_
   refine ae_exit_then ?_
   refine ae_exit_same ?_
   refine ae_then ?_
   refine aw_seq ?_
   refine aw_reg [(2, .call [(true, I (list.length : Int)), (true, I 1), (true, I 72)] true (Bv (inB (list.length : Int) 1 72)))] [2] [] [Bv (inB (list.length : Int) 1 72)] [] [Con Try.prog 27 [I (list.length : Int), I 1, I 72] true (Bv (inB (list.length : Int) 1 72)) ∧ ((I (list.length : Int) : AV) = I (list.length : Int)) ∧ ((I 1 : AV) = I 1) ∧ ((I 72 : AV) = I 72) ∧ True] (by kernel_rfl) hB ⟨⟨(l00In_ok (list.length : Int) 1 72), rfl, rfl, rfl, trivial⟩, trivial⟩ ?_
   refine ae_then ?_
   refine aw_ret ?_
   refine ae_ret hB (Bv (inB (list.length : Int) 1 72)) (by kernel_rfl) (.inl (by first | rfl | (refine congrArg Bv ?_; simp [okFeats, inB, *]; done) | (refine congrArg Bv ?_; simp [okFeats, inB, *]; omega) | (refine congrArg Bv ?_; simp_all [okFeats, inB]; done) | (refine congrArg Bv ?_; simp_all [okFeats, inB]; omega))) rfl (fun _ => trivial)


-- spec.l09Size
theorem l09Size_ok (n : Int) (hn : -9223372036854775807 ≤ n ∧ n ≤ 9223372036854775807) : Con Try.prog 49 [I n] true (I (n.natAbs : Int)) := by
  refine fn_ok (fn := Try.f49) (nt := 8) Try.func49 rfl rfl rfl rfl (by simp [taggedL, tagged]) fun B hB => ?_
  refine aw_seq ?_
  refine aw_reg [] [0] [] [I n] [] [] (by kernel_rfl) hB trivial ?_
  refine ae_then ?_
  refine aw_seq ?_
  refine aw_seq ?_
  by_cases h1 : n < 0
  ·refine aw_reg [(1, .dec true)] [0, 4] [] [I n, Bv true] [] [n < 0] (by kernel_rfl) hB ⟨h1, trivial⟩ ?_
   refine ae_then ?_
   refine aw_true rfl ?_
   refine aw_seq ?_
   refine aw_reg [] [2] [] [I (-n)] [] [inR .i64 (-n)] (by kernel_rfl) hB ⟨(inR_i64 (by omega) (by omega)), trivial⟩ ?_
   refine ae_then ?_
   refine aw_ret ?_
   refine ae_ret_then ?_
   refine ae_ret hB (I (-n)) (by kernel_rfl) (.inl (by refine congrArg I ?_; omega)) rfl (fun _ => trivial)
  ·refine aw_reg [(1, .dec false)] [0, 4] [] [I n, Bv false] [] [¬ (n < 0)] (by kernel_rfl) hB ⟨h1, trivial⟩ ?_
   refine ae_then ?_
   refine aw_false rfl ?_
   refine aw_skip ?_
   refine ae_then ?_
   refine aw_seq ?_
   refine aw_reg [] [2] [] [I n] [] [] (by kernel_rfl) hB trivial ?_
   refine ae_then ?_
   refine aw_ret ?_
   refine ae_ret hB (I n) (by kernel_rfl) (.inl (by refine congrArg I ?_; omega)) rfl (fun _ => trivial)


-- spec.l24Near
theorem l24Near_ok (a : Feat) (b : Feat) (ha : okF a = true) (hb : okF b = true) : Con Try.prog 47 [agFeat a, agFeat b] true (Bv (nearB a b)) := by
  have ha' := okF_iff.1 ha
  have hb' := okF_iff.1 hb
  refine fn_ok (fn := Try.f47) (nt := 28) Try.func47 rfl rfl rfl rfl (by simp [taggedL, tagged]) fun B hB => ?_
  refine aw_seq ?_
  refine aw_reg [(0, .new 2), (1, .new 3)] [2, 3] [2, 3] [.ref 2 0, .ref 3 0] [some (bxFeat a), some (bxFeat b)] [] (by kernel_rfl) hB trivial ?_
  refine ae_then ?_
  refine aw_seq ?_
  by_cases h1 : a.D = b.D
  ·by_cases h2 : ((a.X - b.X).natAbs : Int) ≤ 40
   ·refine aw_reg [(4, .dec true), (11, .call [(true, I (a.X - b.X))] true (I ((a.X - b.X).natAbs : Int))), (12, .dec true), (20, .call [(true, I (a.Y - b.Y))] true (I ((a.Y - b.Y).natAbs : Int)))] [4] [] [Bv (decide (((a.Y - b.Y).natAbs : Int) ≤ 40))] [] [a.D = b.D, inR .i64 (a.X - b.X), Con Try.prog 49 [I (a.X - b.X)] true (I ((a.X - b.X).natAbs : Int)) ∧ ((I (a.X - b.X) : AV) = I (a.X - b.X)) ∧ True, ((a.X - b.X).natAbs : Int) ≤ 40, inR .i64 (a.Y - b.Y), Con Try.prog 49 [I (a.Y - b.Y)] true (I ((a.Y - b.Y).natAbs : Int)) ∧ ((I (a.Y - b.Y) : AV) = I (a.Y - b.Y)) ∧ True] (by kernel_rfl) hB ⟨h1, (inR_i64 (by omega) (by omega)), ⟨(l09Size_ok (a.X - b.X) (by omega)), rfl, trivial⟩, h2, (inR_i64 (by omega) (by omega)), ⟨(l09Size_ok (a.Y - b.Y) (by omega)), rfl, trivial⟩, trivial⟩ ?_
    refine ae_then ?_
    refine aw_ret ?_
    refine ae_ret hB (Bv (decide (((a.Y - b.Y).natAbs : Int) ≤ 40))) (by kernel_rfl) (.inl (by first | rfl | (refine congrArg Bv ?_; simp [nearB, *]; done) | (refine congrArg Bv ?_; simp [nearB, *]; omega) | (refine congrArg Bv ?_; simp_all [nearB]; done) | (refine congrArg Bv ?_; simp_all [nearB]; omega))) rfl (fun _ => trivial)
   ·refine aw_reg [(4, .dec true), (11, .call [(true, I (a.X - b.X))] true (I ((a.X - b.X).natAbs : Int))), (12, .dec false)] [4] [] [Bv false] [] [a.D = b.D, inR .i64 (a.X - b.X), Con Try.prog 49 [I (a.X - b.X)] true (I ((a.X - b.X).natAbs : Int)) ∧ ((I (a.X - b.X) : AV) = I (a.X - b.X)) ∧ True, ¬ (((a.X - b.X).natAbs : Int) ≤ 40)] (by kernel_rfl) hB ⟨h1, (inR_i64 (by omega) (by omega)), ⟨(l09Size_ok (a.X - b.X) (by omega)), rfl, trivial⟩, h2, trivial⟩ ?_
    refine ae_then ?_
    refine aw_ret ?_
    refine ae_ret hB (Bv false) (by kernel_rfl) (.inl (by first | rfl | (refine congrArg Bv ?_; simp [nearB, *]; done) | (refine congrArg Bv ?_; simp [nearB, *]; omega) | (refine congrArg Bv ?_; simp_all [nearB]; done) | (refine congrArg Bv ?_; simp_all [nearB]; omega))) rfl (fun _ => trivial)
  ·refine aw_reg [(4, .dec false)] [4] [] [Bv false] [] [¬ (a.D = b.D)] (by kernel_rfl) hB ⟨h1, trivial⟩ ?_
   refine ae_then ?_
   refine aw_ret ?_
   refine ae_ret hB (Bv false) (by kernel_rfl) (.inl (by first | rfl | (refine congrArg Bv ?_; simp [nearB, *]; done) | (refine congrArg Bv ?_; simp [nearB, *]; omega) | (refine congrArg Bv ?_; simp_all [nearB]; done) | (refine congrArg Bv ?_; simp_all [nearB]; omega))) rfl (fun _ => trivial)


-- spec.l24Ok
theorem l24Ok_ok (t : Trained) (ok : okTrained t) : Con Try.prog 25 [.ptr false [Sv t.Label, slFeat false t.Base, slFeat false t.Feats, I t.Count]] true (Bv (okTrained' t)) := by
  refine fn_ok (fn := Try.f25) (nt := 69) Try.func25 rfl rfl rfl rfl (by simp [taggedL, tagged, tagFeat]) fun B hB => ?_
  refine aw_lens (x := .ptr false [Sv t.Label, slFeat false t.Base, slFeat false t.Feats, I t.Count]) 0 rfl (fun len_t => ?_)
  simp [LenOK, LenL, cFeat, fFeat, slFeat] at len_t
  refine aw_seq ?_
  refine aw_reg [] [0] [] [.ptr false [Sv t.Label, slFeat false t.Base, slFeat false t.Feats, I t.Count]] [] [] (by kernel_rfl) hB trivial ?_
  refine ae_then ?_
  refine aw_seq ?_
  refine aw_seq ?_
  rcases Bool.eq_false_or_eq_true (okLabel t.Label) with h1 | h1
  ·rcases Bool.eq_false_or_eq_true (okFeats t.Base 72) with h2 | h2
   ·rcases Bool.eq_false_or_eq_true (okFeats t.Feats 72) with h3 | h3
    ·by_cases h4 : (t.Base.length : Int) = (t.Feats.length : Int)
     ·refine aw_reg [(4, .call [(true, Sv t.Label)] true (Bv true)), (11, .call [(true, slFeat false t.Base)] true (Bv true)), (19, .call [(true, slFeat false t.Feats)] true (Bv true)), (33, .dec false)] [0, 38] [] [.ptr false [Sv t.Label, slFeat false t.Base, slFeat false t.Feats, I t.Count], Bv false] [] [Con Try.prog 46 [Sv t.Label] true (Bv true) ∧ ((Sv t.Label : AV) = Sv t.Label) ∧ True, Con Try.prog 26 [slFeat false t.Base] true (Bv true) ∧ ((slFeat false t.Base : AV) = slFeat false t.Base) ∧ True, Con Try.prog 26 [slFeat false t.Feats] true (Bv true) ∧ ((slFeat false t.Feats : AV) = slFeat false t.Feats) ∧ True, ¬ ((t.Base.length : Int) ≠ (t.Feats.length : Int))] (by kernel_rfl) hB ⟨⟨(con_bool h1 (specIsLabel_ok t.Label ok)), rfl, trivial⟩, ⟨(con_bool h2 (l09Ok_ok t.Base)), rfl, trivial⟩, ⟨(con_bool h3 (l09Ok_ok t.Feats)), rfl, trivial⟩, (fun hq => hq h4), trivial⟩ ?_
      refine ae_then ?_
      refine aw_false rfl ?_
      refine aw_skip ?_
      refine ae_then ?_
      refine aw_seq ?_
      refine aw_seq ?_
      refine aw_reg [] [0, 3] [] [.ptr false [Sv t.Label, slFeat false t.Base, slFeat false t.Feats, I t.Count], I 0] [] [] (by kernel_rfl) hB trivial ?_
      refine ae_then ?_
      refine aw_block ?_
      refine aw_loop (fun gn gσ => ∃ (i : Int), gn = ((t.Base.length : Int) - i).toNat ∧ (0 ≤ i ∧ i ≤ (t.Base.length : Int)) ∧ (∀ j : Nat, (j : Int) < i → nearB (at_ t.Base j) (at_ t.Feats j) = true) ∧ gσ = mkS [(0, .ptr false [Sv t.Label, slFeat false t.Base, slFeat false t.Feats, I t.Count]), (3, I i)] []) (((t.Base.length : Int) - 0).toNat) ⟨0, rfl, (by omega), (by intro j hj; omega), rfl⟩ (fun gn gσ hI => ?_)
      obtain ⟨i, rfl, hir, hall0, rfl⟩ := hI
      refine aw_seq ?_
      refine aw_seq ?_
      by_cases h5 : i < (t.Base.length : Int)
      ·have hi : i.toNat < t.Base.length := by omega
       have hi0 : i.toNat < t.Feats.length := by omega
       refine aw_reg [(6, .dec true)] [0, 3, 45] [] [.ptr false [Sv t.Label, slFeat false t.Base, slFeat false t.Feats, I t.Count], I i, Bv true] [] [i < (t.Base.length : Int)] (by kernel_rfl) hB ⟨h5, trivial⟩ ?_
       refine ae_then ?_
       refine aw_true rfl ?_
       refine aw_skip ?_
       refine ae_then ?_
       refine aw_seq ?_
       refine aw_block ?_
       refine aw_seq ?_
       rcases Bool.eq_false_or_eq_true (nearB (at_ t.Base i.toNat) (at_ t.Feats i.toNat)) with h6 | h6
       ·refine aw_reg [(14, .call [(true, agFeat (at_ t.Base i.toNat)), (true, agFeat (at_ t.Feats i.toNat))] true (Bv true))] [0, 3, 63] [] [.ptr false [Sv t.Label, slFeat false t.Base, slFeat false t.Feats, I t.Count], I i, Bv false] [] [(0 : Int) ≤ i ∧ i < (t.Base.length : Int), (0 : Int) ≤ i ∧ i < (t.Feats.length : Int), Con Try.prog 47 [agFeat (at_ t.Base i.toNat), agFeat (at_ t.Feats i.toNat)] true (Bv true) ∧ ((agFeat (at_ t.Base i.toNat) : AV) = agFeat (at_ t.Base i.toNat)) ∧ ((agFeat (at_ t.Feats i.toNat) : AV) = agFeat (at_ t.Feats i.toNat)) ∧ True] (by kernel_rfl) hB ⟨⟨(by omega), (by omega)⟩, ⟨(by omega), (by omega)⟩, ⟨(con_bool h6 (l24Near_ok (at_ t.Base i.toNat) (at_ t.Feats i.toNat) (okFeats_at (by assumption) hi) (okFeats_at (by assumption) hi0))), rfl, rfl, trivial⟩, trivial⟩ ?_
        refine ae_then ?_
        refine aw_false rfl ?_
        refine aw_skip ?_
        refine ae_block 1 ?_
        refine ae_then ?_
        refine aw_reg [] [0, 3] [] [.ptr false [Sv t.Label, slFeat false t.Base, slFeat false t.Feats, I t.Count], I (i + 1)] [] [inR .i64 (i + 1)] (by kernel_rfl) hB ⟨(inR_i64 (by omega) (by omega)), trivial⟩ ?_
        exact ae_again _ (by omega) ⟨(i + 1), rfl, (by omega), (by intro j hj; by_cases ej : j = i.toNat; (subst ej; first | assumption | exact hok); exact hall0 j (by omega)), rfl⟩
       ·have hall : allN t.Base.length (fun j => nearB (at_ t.Base j) (at_ t.Feats j)) = false := allN_not hi h6
        refine aw_reg [(14, .call [(true, agFeat (at_ t.Base i.toNat)), (true, agFeat (at_ t.Feats i.toNat))] true (Bv false))] [0, 3, 63] [] [.ptr false [Sv t.Label, slFeat false t.Base, slFeat false t.Feats, I t.Count], I i, Bv true] [] [(0 : Int) ≤ i ∧ i < (t.Base.length : Int), (0 : Int) ≤ i ∧ i < (t.Feats.length : Int), Con Try.prog 47 [agFeat (at_ t.Base i.toNat), agFeat (at_ t.Feats i.toNat)] true (Bv false) ∧ ((agFeat (at_ t.Base i.toNat) : AV) = agFeat (at_ t.Base i.toNat)) ∧ ((agFeat (at_ t.Feats i.toNat) : AV) = agFeat (at_ t.Feats i.toNat)) ∧ True] (by kernel_rfl) hB ⟨⟨(by omega), (by omega)⟩, ⟨(by omega), (by omega)⟩, ⟨(con_bool h6 (l24Near_ok (at_ t.Base i.toNat) (at_ t.Feats i.toNat) (okFeats_at (by assumption) hi) (okFeats_at (by assumption) hi0))), rfl, rfl, trivial⟩, trivial⟩ ?_
        refine ae_then ?_
        refine aw_true rfl ?_
        refine aw_seq ?_
        refine aw_reg [] [2] [] [Bv false] [] [] (by kernel_rfl) hB trivial ?_
        refine ae_then ?_
        refine aw_ret ?_
        refine ae_ret_block (ae_ret_then (ae_ret_then (ae_ret_block (ae_ret_then ?_))))
        refine ae_ret hB (Bv false) (by kernel_rfl) (.inl (by first | rfl | (refine congrArg Bv ?_; simp [okTrained', inB, *]; done) | (refine congrArg Bv ?_; simp [okTrained', inB, *]; omega) | (refine congrArg Bv ?_; simp_all [okTrained', inB]; done) | (refine congrArg Bv ?_; simp_all [okTrained', inB]; omega))) rfl (fun _ => trivial)
      ·have hall : allN t.Base.length (fun j => nearB (at_ t.Base j) (at_ t.Feats j)) = true := allN_at (fun j hj => hall0 j (by omega))
       refine aw_reg [(6, .dec false)] [0, 3, 45] [] [.ptr false [Sv t.Label, slFeat false t.Base, slFeat false t.Feats, I t.Count], I i, Bv false] [] [¬ (i < (t.Base.length : Int))] (by kernel_rfl) hB ⟨h5, trivial⟩ ?_
       refine ae_then ?_
       refine aw_false rfl ?_
       refine aw_exit ?_
       refine ae_exit_then ?_
       refine ae_exit_then ?_
       refine ae_exit_same ?_
       refine ae_then ?_
       refine aw_seq ?_
       refine aw_reg [(4, .call [(true, I t.Count), (true, I 0), (true, I 100)] true (Bv (inB t.Count 0 100)))] [2] [] [Bv (inB t.Count 0 100)] [] [Con Try.prog 27 [I t.Count, I 0, I 100] true (Bv (inB t.Count 0 100)) ∧ ((I t.Count : AV) = I t.Count) ∧ ((I 0 : AV) = I 0) ∧ ((I 100 : AV) = I 100) ∧ True] (by kernel_rfl) hB ⟨⟨(l00In_ok t.Count 0 100), rfl, rfl, rfl, trivial⟩, trivial⟩ ?_
       refine ae_then ?_
       refine aw_ret ?_
       refine ae_ret hB (Bv (inB t.Count 0 100)) (by kernel_rfl) (.inl (by first | rfl | (refine congrArg Bv ?_; simp [okTrained', inB, *]; done) | (refine congrArg Bv ?_; simp [okTrained', inB, *]; omega) | (refine congrArg Bv ?_; simp_all [okTrained', inB]; done) | (refine congrArg Bv ?_; simp_all [okTrained', inB]; omega))) rfl (fun _ => trivial)
     ·refine aw_reg [(4, .call [(true, Sv t.Label)] true (Bv true)), (11, .call [(true, slFeat false t.Base)] true (Bv true)), (19, .call [(true, slFeat false t.Feats)] true (Bv true)), (33, .dec true)] [0, 38] [] [.ptr false [Sv t.Label, slFeat false t.Base, slFeat false t.Feats, I t.Count], Bv true] [] [Con Try.prog 46 [Sv t.Label] true (Bv true) ∧ ((Sv t.Label : AV) = Sv t.Label) ∧ True, Con Try.prog 26 [slFeat false t.Base] true (Bv true) ∧ ((slFeat false t.Base : AV) = slFeat false t.Base) ∧ True, Con Try.prog 26 [slFeat false t.Feats] true (Bv true) ∧ ((slFeat false t.Feats : AV) = slFeat false t.Feats) ∧ True, (t.Base.length : Int) ≠ (t.Feats.length : Int)] (by kernel_rfl) hB ⟨⟨(con_bool h1 (specIsLabel_ok t.Label ok)), rfl, trivial⟩, ⟨(con_bool h2 (l09Ok_ok t.Base)), rfl, trivial⟩, ⟨(con_bool h3 (l09Ok_ok t.Feats)), rfl, trivial⟩, h4, trivial⟩ ?_
      refine ae_then ?_
      refine aw_true rfl ?_
      refine aw_seq ?_
      refine aw_reg [] [2] [] [Bv false] [] [] (by kernel_rfl) hB trivial ?_
      refine ae_then ?_
      refine aw_ret ?_
      refine ae_ret_then ?_
      refine ae_ret hB (Bv false) (by kernel_rfl) (.inl (by first | rfl | (refine congrArg Bv ?_; simp [okTrained', inB, *]; done) | (refine congrArg Bv ?_; simp [okTrained', inB, *]; omega) | (refine congrArg Bv ?_; simp_all [okTrained', inB]; done) | (refine congrArg Bv ?_; simp_all [okTrained', inB]; omega))) rfl (fun _ => trivial)
    ·refine aw_reg [(4, .call [(true, Sv t.Label)] true (Bv true)), (11, .call [(true, slFeat false t.Base)] true (Bv true)), (19, .call [(true, slFeat false t.Feats)] true (Bv false))] [0, 38] [] [.ptr false [Sv t.Label, slFeat false t.Base, slFeat false t.Feats, I t.Count], Bv true] [] [Con Try.prog 46 [Sv t.Label] true (Bv true) ∧ ((Sv t.Label : AV) = Sv t.Label) ∧ True, Con Try.prog 26 [slFeat false t.Base] true (Bv true) ∧ ((slFeat false t.Base : AV) = slFeat false t.Base) ∧ True, Con Try.prog 26 [slFeat false t.Feats] true (Bv false) ∧ ((slFeat false t.Feats : AV) = slFeat false t.Feats) ∧ True] (by kernel_rfl) hB ⟨⟨(con_bool h1 (specIsLabel_ok t.Label ok)), rfl, trivial⟩, ⟨(con_bool h2 (l09Ok_ok t.Base)), rfl, trivial⟩, ⟨(con_bool h3 (l09Ok_ok t.Feats)), rfl, trivial⟩, trivial⟩ ?_
     refine ae_then ?_
     refine aw_true rfl ?_
     refine aw_seq ?_
     refine aw_reg [] [2] [] [Bv false] [] [] (by kernel_rfl) hB trivial ?_
     refine ae_then ?_
     refine aw_ret ?_
     refine ae_ret_then ?_
     refine ae_ret hB (Bv false) (by kernel_rfl) (.inl (by first | rfl | (refine congrArg Bv ?_; simp [okTrained', inB, *]; done) | (refine congrArg Bv ?_; simp [okTrained', inB, *]; omega) | (refine congrArg Bv ?_; simp_all [okTrained', inB]; done) | (refine congrArg Bv ?_; simp_all [okTrained', inB]; omega))) rfl (fun _ => trivial)
   ·refine aw_reg [(4, .call [(true, Sv t.Label)] true (Bv true)), (11, .call [(true, slFeat false t.Base)] true (Bv false))] [0, 38] [] [.ptr false [Sv t.Label, slFeat false t.Base, slFeat false t.Feats, I t.Count], Bv true] [] [Con Try.prog 46 [Sv t.Label] true (Bv true) ∧ ((Sv t.Label : AV) = Sv t.Label) ∧ True, Con Try.prog 26 [slFeat false t.Base] true (Bv false) ∧ ((slFeat false t.Base : AV) = slFeat false t.Base) ∧ True] (by kernel_rfl) hB ⟨⟨(con_bool h1 (specIsLabel_ok t.Label ok)), rfl, trivial⟩, ⟨(con_bool h2 (l09Ok_ok t.Base)), rfl, trivial⟩, trivial⟩ ?_
    refine ae_then ?_
    refine aw_true rfl ?_
    refine aw_seq ?_
    refine aw_reg [] [2] [] [Bv false] [] [] (by kernel_rfl) hB trivial ?_
    refine ae_then ?_
    refine aw_ret ?_
    refine ae_ret_then ?_
    refine ae_ret hB (Bv false) (by kernel_rfl) (.inl (by first | rfl | (refine congrArg Bv ?_; simp [okTrained', inB, *]; done) | (refine congrArg Bv ?_; simp [okTrained', inB, *]; omega) | (refine congrArg Bv ?_; simp_all [okTrained', inB]; done) | (refine congrArg Bv ?_; simp_all [okTrained', inB]; omega))) rfl (fun _ => trivial)
  ·refine aw_reg [(4, .call [(true, Sv t.Label)] true (Bv false))] [0, 38] [] [.ptr false [Sv t.Label, slFeat false t.Base, slFeat false t.Feats, I t.Count], Bv true] [] [Con Try.prog 46 [Sv t.Label] true (Bv false) ∧ ((Sv t.Label : AV) = Sv t.Label) ∧ True] (by kernel_rfl) hB ⟨⟨(con_bool h1 (specIsLabel_ok t.Label ok)), rfl, trivial⟩, trivial⟩ ?_
   refine ae_then ?_
   refine aw_true rfl ?_
   refine aw_seq ?_
   refine aw_reg [] [2] [] [Bv false] [] [] (by kernel_rfl) hB trivial ?_
   refine ae_then ?_
   refine aw_ret ?_
   refine ae_ret_then ?_
   refine ae_ret hB (Bv false) (by kernel_rfl) (.inl (by first | rfl | (refine congrArg Bv ?_; simp [okTrained', inB, *]; done) | (refine congrArg Bv ?_; simp [okTrained', inB, *]; omega) | (refine congrArg Bv ?_; simp_all [okTrained', inB]; done) | (refine congrArg Bv ?_; simp_all [okTrained', inB]; omega))) rfl (fun _ => trivial)


-- spec.l10Band
theorem l10Band_ok (n : Int) (m : Int) (band : Int) (hn : 0 ≤ n ∧ n ≤ 4611686018427387904) (hm : 0 ≤ m ∧ m ≤ 4611686018427387904) : Con Try.prog 28 [I n, I m, I band] true (Bv (inB band 0 72 && decide (((n - m).natAbs : Int) ≤ band))) := by
  refine fn_ok (fn := Try.f28) (nt := 17) Try.func28 rfl rfl rfl rfl (by simp [taggedL, tagged]) fun B hB => ?_
  refine aw_seq ?_
  refine aw_reg [] [0, 1, 2] [] [I n, I m, I band] [] [] (by kernel_rfl) hB trivial ?_
  refine ae_then ?_
  refine aw_seq ?_
  rcases Bool.eq_false_or_eq_true (inB band 0 72) with h1 | h1
  ·refine aw_reg [(1, .call [(true, I band), (true, I 0), (true, I 72)] true (Bv true)), (6, .call [(true, I (n - m))] true (I ((n - m).natAbs : Int)))] [6] [] [Bv (decide (((n - m).natAbs : Int) ≤ band))] [] [Con Try.prog 27 [I band, I 0, I 72] true (Bv true) ∧ ((I band : AV) = I band) ∧ ((I 0 : AV) = I 0) ∧ ((I 72 : AV) = I 72) ∧ True, inR .i64 (n - m), Con Try.prog 49 [I (n - m)] true (I ((n - m).natAbs : Int)) ∧ ((I (n - m) : AV) = I (n - m)) ∧ True] (by kernel_rfl) hB ⟨⟨(con_bool h1 (l00In_ok band 0 72)), rfl, rfl, rfl, trivial⟩, (inR_i64 (by omega) (by omega)), ⟨(l09Size_ok (n - m) (by omega)), rfl, trivial⟩, trivial⟩ ?_
   refine ae_then ?_
   refine aw_ret ?_
   refine ae_ret hB (Bv (decide (((n - m).natAbs : Int) ≤ band))) (by kernel_rfl) (.inl (by refine congrArg Bv ?_; first | (simp [*]; done) | (simp [inB] at *; omega))) rfl (fun _ => trivial)
  ·refine aw_reg [(1, .call [(true, I band), (true, I 0), (true, I 72)] true (Bv false))] [6] [] [Bv false] [] [Con Try.prog 27 [I band, I 0, I 72] true (Bv false) ∧ ((I band : AV) = I band) ∧ ((I 0 : AV) = I 0) ∧ ((I 72 : AV) = I 72) ∧ True] (by kernel_rfl) hB ⟨⟨(con_bool h1 (l00In_ok band 0 72)), rfl, rfl, rfl, trivial⟩, trivial⟩ ?_
   refine ae_then ?_
   refine aw_ret ?_
   refine ae_ret hB (Bv false) (by kernel_rfl) (.inl (by refine congrArg Bv ?_; first | (simp [*]; done) | (simp [inB] at *; omega))) rfl (fun _ => trivial)


-- spec.l00Min
theorem l00Min_ok (a : Int) (b : Int) : Con Try.prog 66 [I a, I b] true (I (min a b)) := by
  refine fn_ok (fn := Try.f66) (nt := 10) Try.func66 rfl rfl rfl rfl (by simp [taggedL, tagged]) fun B hB => ?_
  refine aw_seq ?_
  refine aw_reg [] [0, 1] [] [I a, I b] [] [] (by kernel_rfl) hB trivial ?_
  refine ae_then ?_
  refine aw_seq ?_
  refine aw_seq ?_
  by_cases h1 : a < b
  ·refine aw_reg [(2, .dec true)] [0, 1, 7] [] [I a, I b, Bv true] [] [a < b] (by kernel_rfl) hB ⟨h1, trivial⟩ ?_
   refine ae_then ?_
   refine aw_true rfl ?_
   refine aw_seq ?_
   refine aw_reg [] [4] [] [I a] [] [] (by kernel_rfl) hB trivial ?_
   refine ae_then ?_
   refine aw_ret ?_
   refine ae_ret_then ?_
   refine ae_ret hB (I a) (by kernel_rfl) (.inl (by refine congrArg I ?_; omega)) rfl (fun _ => trivial)
  ·refine aw_reg [(2, .dec false)] [0, 1, 7] [] [I a, I b, Bv false] [] [¬ (a < b)] (by kernel_rfl) hB ⟨h1, trivial⟩ ?_
   refine ae_then ?_
   refine aw_false rfl ?_
   refine aw_skip ?_
   refine ae_then ?_
   refine aw_seq ?_
   refine aw_reg [] [4] [] [I b] [] [] (by kernel_rfl) hB trivial ?_
   refine ae_then ?_
   refine aw_ret ?_
   refine ae_ret hB (I b) (by kernel_rfl) (.inl (by refine congrArg I ?_; omega)) rfl (fun _ => trivial)


/-- The cost of matching two features. -/
def costF (a b : Feat) : Int := ((a.X - b.X).natAbs : Int) + ((a.Y - b.Y).natAbs : Int) + 16 * min ((a.D - b.D).natAbs : Int) (8 - ((a.D - b.D).natAbs : Int))
theorem costF_bd {a b : Feat} (ha : okF a = true) (hb : okF b = true) : 0 ≤ costF a b ∧ costF a b ≤ 600 := by
  have h1 := okF_iff.1 ha
  have h2 := okF_iff.1 hb
  unfold costF
  omega
/-- A cell of the table, from the least cost ahead of it. -/
def stp (far band : Int) (i j : Nat) (before c : Int) : Int := if band < (((i : Int) - (j : Int)).natAbs : Int) ∨ far ≤ before then far else before + c
/-- The least cost of all paths to a pair, or 'far'. -/
def cv (far : Int) (a b : List Feat) (band : Int) : Nat → Nat → Int
  | 0, 0 => stp far band 0 0 0 (costF (at_ a 0) (at_ b 0))
  | 0, j + 1 => stp far band 0 (j + 1) (min far (cv far a b band 0 j)) (costF (at_ a 0) (at_ b (j + 1)))
  | i + 1, 0 => stp far band (i + 1) 0 (min far (cv far a b band i 0)) (costF (at_ a (i + 1)) (at_ b 0))
  | i + 1, j + 1 => stp far band (i + 1) (j + 1) (min (min (min far (cv far a b band i j)) (cv far a b band i (j + 1))) (cv far a b band (i + 1) j)) (costF (at_ a (i + 1)) (at_ b (j + 1)))
termination_by i j => (i, j)
/-- Lists of features that may be matched. -/
def okAB (a b : List Feat) : Prop := (∀ i, i < a.length → okF (at_ a i) = true) ∧ (∀ j, j < b.length → okF (at_ b j) = true) ∧ a.length ≤ 72 ∧ b.length ≤ 72
theorem stp_far {far band : Int} {i j : Nat} {before c : Int} (h : band < (((i : Int) - (j : Int)).natAbs : Int) ∨ far ≤ before) : stp far band i j before c = far := if_pos h
theorem stp_add {far band : Int} {i j : Nat} {before c : Int} (h1 : ¬ band < (((i : Int) - (j : Int)).natAbs : Int)) (h2 : ¬ far ≤ before) : stp far band i j before c = before + c := if_neg (by omega)
theorem cv_out {far band : Int} {a b : List Feat} {i j : Nat} (h : band < (((i : Int) - (j : Int)).natAbs : Int)) : cv far a b band i j = far := by
  rcases i with _ | i <;> rcases j with _ | j <;> rw [cv] <;> exact stp_far (.inl h)
/-- Within the band the costs are few, and the same however far 'far' is. -/
theorem cv_in {band : Int} {a b : List Feat} (hab : okAB a b) {f1 f2 : Int} (h1 : 1000000000 ≤ f1) (h2 : 1000000000 ≤ f2) : ∀ (s i j : Nat), i + j = s → i < a.length → j < b.length → (((i : Int) - (j : Int)).natAbs : Int) ≤ band → cv f1 a b band i j = cv f2 a b band i j ∧ 0 ≤ cv f1 a b band i j ∧ cv f1 a b band i j ≤ 600 * ((i : Int) + j + 1)
  | s, 0, 0, hs, hi, hj, hb => by
    have hc := costF_bd (hab.1 0 hi) (hab.2.1 0 hj)
    rw [cv, cv, stp_add (by omega) (by omega), stp_add (by omega) (by omega)]
    omega
  | s, 0, j + 1, hs, hi, hj, hb => by
    have hc := costF_bd (hab.1 0 hi) (hab.2.1 (j + 1) hj)
    obtain ⟨e, p0, p1⟩ := cv_in (band := band) hab h1 h2 (0 + j) 0 j rfl hi (by omega) (by omega)
    have hl := hab.2.2
    rw [cv, cv, ← e, stp_add (by omega) (by omega), stp_add (by omega) (by omega)]
    omega
  | s, i + 1, 0, hs, hi, hj, hb => by
    have hc := costF_bd (hab.1 (i + 1) hi) (hab.2.1 0 hj)
    obtain ⟨e, p0, p1⟩ := cv_in (band := band) hab h1 h2 (i + 0) i 0 rfl (by omega) hj (by omega)
    have hl := hab.2.2
    rw [cv, cv, ← e, stp_add (by omega) (by omega), stp_add (by omega) (by omega)]
    omega
  | s, i + 1, j + 1, hs, hi, hj, hb => by
    have hc := costF_bd (hab.1 (i + 1) hi) (hab.2.1 (j + 1) hj)
    have hl := hab.2.2
    obtain ⟨e, p0, p1⟩ := cv_in (band := band) hab h1 h2 (i + j) i j rfl (by omega) (by omega) (by omega)
    have q1 : (cv f1 a b band i (j + 1) = f1 ∧ cv f2 a b band i (j + 1) = f2) ∨ (cv f1 a b band i (j + 1) = cv f2 a b band i (j + 1) ∧ 0 ≤ cv f1 a b band i (j + 1) ∧ cv f1 a b band i (j + 1) ≤ 600 * ((i : Int) + (j + 1 : Nat) + 1)) := by
      by_cases q : band < (((i : Int) - ((j + 1 : Nat) : Int)).natAbs : Int)
      · exact .inl ⟨cv_out q, cv_out q⟩
      · exact .inr (cv_in (band := band) hab h1 h2 (i + (j + 1)) i (j + 1) rfl (by omega) hj (by omega))
    have q2 : (cv f1 a b band (i + 1) j = f1 ∧ cv f2 a b band (i + 1) j = f2) ∨ (cv f1 a b band (i + 1) j = cv f2 a b band (i + 1) j ∧ 0 ≤ cv f1 a b band (i + 1) j ∧ cv f1 a b band (i + 1) j ≤ 600 * (((i + 1 : Nat) : Int) + j + 1)) := by
      by_cases q : band < ((((i + 1 : Nat) : Int) - (j : Int)).natAbs : Int)
      · exact .inl ⟨cv_out q, cv_out q⟩
      · exact .inr (cv_in (band := band) hab h1 h2 ((i + 1) + j) (i + 1) j rfl hi (by omega) (by omega))
    rw [cv, cv, ← e, stp_add (by omega) (by omega), stp_add (by omega) (by omega)]
    omega
termination_by s i j => i + j

-- spec.l09Cost
theorem l09Cost_ok (a : Feat) (b : Feat) (ha : okF a = true) (hb : okF b = true) : Con Try.prog 69 [agFeat a, agFeat b] true (I (costF a b)) := by
  have ha' := okF_iff.1 ha
  have hb' := okF_iff.1 hb
  refine fn_ok (fn := Try.f69) (nt := 31) Try.func69 rfl rfl rfl rfl (by simp [taggedL, tagged]) fun B hB => ?_
  refine aw_seq ?_
  refine aw_reg [(0, .new 2), (1, .new 3)] [2, 3] [2, 3] [.ref 2 0, .ref 3 0] [some (bxFeat a), some (bxFeat b)] [] (by kernel_rfl) hB trivial ?_
  refine ae_then ?_
  refine aw_seq ?_
  refine aw_reg [(5, .call [(true, I (a.D - b.D))] true (I ((a.D - b.D).natAbs : Int)))] [2, 3, 5] [2, 3] [.ref 2 0, .ref 3 0, I ((a.D - b.D).natAbs : Int)] [some (bxFeat a), some (bxFeat b)] [inR .i64 (a.D - b.D), Con Try.prog 49 [I (a.D - b.D)] true (I ((a.D - b.D).natAbs : Int)) ∧ ((I (a.D - b.D) : AV) = I (a.D - b.D)) ∧ True] (by kernel_rfl) hB ⟨(inR_i64 (by omega) (by omega)), ⟨(l09Size_ok (a.D - b.D) (by omega)), rfl, trivial⟩, trivial⟩ ?_
  refine ae_then ?_
  refine aw_seq ?_
  refine aw_reg [(5, .call [(true, I (a.X - b.X))] true (I ((a.X - b.X).natAbs : Int))), (11, .call [(true, I (a.Y - b.Y))] true (I ((a.Y - b.Y).natAbs : Int))), (16, .call [(true, I ((a.D - b.D).natAbs : Int)), (true, I (8 - ((a.D - b.D).natAbs : Int)))] true (I (min ((a.D - b.D).natAbs : Int) (8 - ((a.D - b.D).natAbs : Int)))))] [4] [] [I ((((a.X - b.X).natAbs : Int) + ((a.Y - b.Y).natAbs : Int)) + (16 * (min ((a.D - b.D).natAbs : Int) (8 - ((a.D - b.D).natAbs : Int)))))] [] [inR .i64 (a.X - b.X), Con Try.prog 49 [I (a.X - b.X)] true (I ((a.X - b.X).natAbs : Int)) ∧ ((I (a.X - b.X) : AV) = I (a.X - b.X)) ∧ True, inR .i64 (a.Y - b.Y), Con Try.prog 49 [I (a.Y - b.Y)] true (I ((a.Y - b.Y).natAbs : Int)) ∧ ((I (a.Y - b.Y) : AV) = I (a.Y - b.Y)) ∧ True, inR .i64 (((a.X - b.X).natAbs : Int) + ((a.Y - b.Y).natAbs : Int)), inR .i64 (8 - ((a.D - b.D).natAbs : Int)), Con Try.prog 66 [I ((a.D - b.D).natAbs : Int), I (8 - ((a.D - b.D).natAbs : Int))] true (I (min ((a.D - b.D).natAbs : Int) (8 - ((a.D - b.D).natAbs : Int)))) ∧ ((I ((a.D - b.D).natAbs : Int) : AV) = I ((a.D - b.D).natAbs : Int)) ∧ ((I (8 - ((a.D - b.D).natAbs : Int)) : AV) = I (8 - ((a.D - b.D).natAbs : Int))) ∧ True, inR .i64 (16 * (min ((a.D - b.D).natAbs : Int) (8 - ((a.D - b.D).natAbs : Int)))), inR .i64 ((((a.X - b.X).natAbs : Int) + ((a.Y - b.Y).natAbs : Int)) + (16 * (min ((a.D - b.D).natAbs : Int) (8 - ((a.D - b.D).natAbs : Int)))))] (by kernel_rfl) hB ⟨(inR_i64 (by omega) (by omega)), ⟨(l09Size_ok (a.X - b.X) (by omega)), rfl, trivial⟩, (inR_i64 (by omega) (by omega)), ⟨(l09Size_ok (a.Y - b.Y) (by omega)), rfl, trivial⟩, (inR_i64 (by omega) (by omega)), (inR_i64 (by omega) (by omega)), ⟨(l00Min_ok ((a.D - b.D).natAbs : Int) (8 - ((a.D - b.D).natAbs : Int))), rfl, rfl, trivial⟩, (inR_i64 (by omega) (by omega)), (inR_i64 (by omega) (by omega)), trivial⟩ ?_
  refine ae_then ?_
  refine aw_ret ?_
  refine ae_ret hB (I ((((a.X - b.X).natAbs : Int) + ((a.Y - b.Y).natAbs : Int)) + (16 * (min ((a.D - b.D).natAbs : Int) (8 - ((a.D - b.D).natAbs : Int)))))) (by kernel_rfl) (.inl (by refine congrArg I ?_; first | rfl | (unfold costF; omega))) rfl (fun _ => trivial)


/-- The least cost of the pairs ahead of a pair, after k of three. -/
def lb1 (tb : List (List Int)) (i j : Int) : Int := if 1 ≤ i ∧ 1 ≤ j then min 1099511627776 (at_ (at_ tb (i - 1).toNat) (j - 1).toNat) else 1099511627776
def lb2 (tb : List (List Int)) (i j : Int) : Int := if 1 ≤ i then min (lb1 tb i j) (at_ (at_ tb (i - 1).toNat) (j - 0).toNat) else lb1 tb i j
def lb3 (tb : List (List Int)) (i j : Int) : Int := if 1 ≤ j then min (lb2 tb i j) (at_ (at_ tb (i - 0).toNat) (j - 1).toNat) else lb2 tb i j
def lbk (tb : List (List Int)) (i j : Int) : Nat → Int
  | 0 => 1099511627776
  | 1 => lb1 tb i j
  | 2 => lb2 tb i j
  | _ => lb3 tb i j

theorem set_next {xs : List Int} {i : Int} {f : Nat → Int} {y : Int} (h0 : 0 ≤ i) (hi : i.toNat < xs.length) (h : ∀ j : Nat, (j : Int) < i → at_ xs j = f j) (hy : y = f i.toNat) : ∀ j : Nat, (j : Int) < i + 1 → at_ (xs.set i.toNat y) j = f j := fun j hj => by
  by_cases e : j = i.toNat
  · subst e; simp [at_, hi, hy]
  · have h' : ¬ i.toNat = j := fun q => e q.symm
    have : at_ (xs.set i.toNat y) j = at_ xs j := by simp [at_, List.getElem?_set, h']
    rw [this]; exact h j (by omega)

theorem at_set_same {α : Type} [Inhabited α] {xs : List α} {i : Nat} {x : α} (h : i < xs.length) : at_ (xs.set i x) i = x := by simp [at_, h]
theorem at_set_oth {α : Type} [Inhabited α] {xs : List α} {i j : Nat} {x : α} (h : i ≠ j) : at_ (xs.set j x) i = at_ xs i := by
  have h' : ¬ j = i := fun e => h e.symm
  simp [at_, List.getElem?_set, h']
abbrev farI : Int := 1099511627776
/-- The first n cells of a row of the table. -/
def rowOk (a b : List Feat) (band : Int) (r : List Int) (p n : Nat) : Prop := r.length = b.length ∧ ∀ q, q < n → at_ r q = cv farI a b band p q
/-- The first i rows of the table. -/
def tbOk (a b : List Feat) (band : Int) (tb : List (List Int)) (i : Nat) : Prop := tb.length = a.length ∧ ∀ p, p < i → rowOk a b band (at_ tb p) p b.length
theorem cv_nn {far : Int} (hf : 0 ≤ far) {a b : List Feat} (band : Int) (hab : okAB a b) : ∀ (i j : Nat), i < a.length → j < b.length → 0 ≤ cv far a b band i j
  | 0, 0, hi, hj => by
    have hc := costF_bd (hab.1 0 hi) (hab.2.1 0 hj)
    rw [cv]; unfold stp; split <;> omega
  | 0, j + 1, hi, hj => by
    have hc := costF_bd (hab.1 0 hi) (hab.2.1 (j + 1) hj)
    have := cv_nn hf band hab 0 j hi (by omega)
    rw [cv]; unfold stp; split <;> omega
  | i + 1, 0, hi, hj => by
    have hc := costF_bd (hab.1 (i + 1) hi) (hab.2.1 0 hj)
    have := cv_nn hf band hab i 0 (by omega) hj
    rw [cv]; unfold stp; split <;> omega
  | i + 1, j + 1, hi, hj => by
    have hc := costF_bd (hab.1 (i + 1) hi) (hab.2.1 (j + 1) hj)
    have := cv_nn hf band hab i j (by omega) (by omega)
    have := cv_nn hf band hab i (j + 1) (by omega) (by omega)
    have := cv_nn hf band hab (i + 1) j (by omega) (by omega)
    rw [cv]; unfold stp; split <;> omega
termination_by i j => i + j
/-- What the pairs ahead cost. -/
theorem lb_at {a b : List Feat} {band : Int} {tb : List (List Int)} {i j : Nat} (hab : okAB a b) (h : tbOk a b band tb i) (hr : rowOk a b band (at_ tb i) i j) (hi : i < a.length) (hj : j < b.length) :
    (0 ≤ lb3 tb i j ∧ lb3 tb i j ≤ farI) ∧ cv farI a b band i j = stp farI band i j (if i = 0 ∧ j = 0 then 0 else lb3 tb i j) (costF (at_ a i) (at_ b j)) := by
  have hF : farI = 1099511627776 := rfl
  have e1 : ∀ p q : Nat, p < i → q < b.length → at_ (at_ tb p) q = cv farI a b band p q ∧ 0 ≤ cv farI a b band p q := fun p q hp hq => ⟨(h.2 p hp).2 q hq, cv_nn (by decide) band hab p q (by omega) hq⟩
  have e2 : ∀ q : Nat, q < j → at_ (at_ tb i) q = cv farI a b band i q ∧ 0 ≤ cv farI a b band i q := fun q hq => ⟨hr.2 q hq, cv_nn (by decide) band hab i q hi (by omega)⟩
  rcases i with _ | i <;> rcases j with _ | j
  · refine ⟨?_, by rw [cv]; simp⟩
    simp [lb3, lb2, lb1]
  · have q := e2 j (by omega)
    have e : lb3 tb (0 : Nat) ((j + 1 : Nat) : Int) = min farI (cv farI a b band 0 j) := by
      unfold lb3 lb2 lb1
      rw [if_pos (by omega), if_neg (by omega), if_neg (by omega), show (((j + 1 : Nat) : Int) - 1).toNat = j from by omega, show (((0 : Nat) : Int) - 0).toNat = 0 from rfl, q.1]
    rw [e]
    refine ⟨by omega, ?_⟩
    rw [cv, if_neg (by omega)]
  · have q := e1 i 0 (by omega) hj
    have e : lb3 tb ((i + 1 : Nat) : Int) (0 : Nat) = min farI (cv farI a b band i 0) := by
      unfold lb3 lb2 lb1
      rw [if_neg (by omega), if_pos (by omega), if_neg (by omega), show (((i + 1 : Nat) : Int) - 1).toNat = i from by omega, show (((0 : Nat) : Int) - 0).toNat = 0 from rfl, q.1]
    rw [e]
    refine ⟨by omega, ?_⟩
    rw [cv, if_neg (by omega)]
  · have q1 := e1 i j (by omega) (by omega)
    have q2 := e1 i (j + 1) (by omega) hj
    have q3 := e2 j (by omega)
    have e : lb3 tb ((i + 1 : Nat) : Int) ((j + 1 : Nat) : Int) = min (min (min farI (cv farI a b band i j)) (cv farI a b band i (j + 1))) (cv farI a b band (i + 1) j) := by
      unfold lb3 lb2 lb1
      rw [if_pos (by omega), if_pos (by omega), if_pos (by omega), show (((i + 1 : Nat) : Int) - 1).toNat = i from by omega, show (((j + 1 : Nat) : Int) - 1).toNat = j from by omega, show (((j + 1 : Nat) : Int) - 0).toNat = j + 1 from by omega, show (((i + 1 : Nat) : Int) - 0).toNat = i + 1 from by omega, q1.1, q2.1, q3.1]
    rw [e]
    refine ⟨by omega, ?_⟩
    rw [cv, if_neg (by omega)]
theorem tb_row {a b : List Feat} {band : Int} {tb : List (List Int)} {i m : Nat} (h : tbOk a b band tb i) (hi : i < a.length) (hm : m = b.length) : tbOk a b band (tb.set i (List.replicate m 0)) i ∧ rowOk a b band (at_ (tb.set i (List.replicate m 0)) i) i 0 := by
  refine ⟨⟨by rw [List.length_set]; exact h.1, fun p hp => ?_⟩, ?_, fun q hq => by omega⟩
  · rw [at_set_oth (by omega)]; exact h.2 p hp
  · rw [at_set_same (by rw [h.1]; exact hi)]; simp [hm]
theorem tb_step {a b : List Feat} {band v : Int} {tb : List (List Int)} {i j : Nat} (h : tbOk a b band tb i) (hr : rowOk a b band (at_ tb i) i j) (hi : i < a.length) (hj : j < b.length) (hv : v = cv farI a b band i j) : tbOk a b band (tb.set i ((at_ tb i).set j v)) i ∧ rowOk a b band (at_ (tb.set i ((at_ tb i).set j v)) i) i (j + 1) := by
  refine ⟨⟨by rw [List.length_set]; exact h.1, fun p hp => ?_⟩, ?_, fun q hq => ?_⟩
  · rw [at_set_oth (by omega)]; exact h.2 p hp
  · rw [at_set_same (by rw [h.1]; exact hi), List.length_set]; exact hr.1
  · rw [at_set_same (by rw [h.1]; exact hi)]
    by_cases e : q = j
    · subst e; rw [at_set_same (by rw [hr.1]; exact hj)]; exact hv
    · rw [at_set_oth e]; exact hr.2 q (by omega)
theorem tb_done {a b : List Feat} {band : Int} {tb : List (List Int)} {i n : Nat} (h : tbOk a b band tb i) (hr : rowOk a b band (at_ tb i) i n) (hn : n = b.length) : tbOk a b band tb (i + 1) := by
  subst hn
  refine ⟨h.1, fun p hp => ?_⟩
  by_cases e : p = i
  · subst e; exact hr
  · exact h.2 p (by omega)
theorem tb_nil (a b : List Feat) (band : Int) {n : Nat} (hn : n = a.length) : tbOk a b band (List.replicate n []) 0 := ⟨by simp [hn], fun p hp => by omega⟩

abbrev farS : Int := 1000000000
/-- The first k cells of the table in one list. -/
def flOk (a b : List Feat) (band : Int) (out : List Int) (k : Nat) : Prop := out.length = a.length * b.length ∧ ∀ p q, p < a.length → q < b.length → p * b.length + q < k → at_ out (p * b.length + q) = cv farS a b band p q
def sb0 (i j : Int) : Int := if i = 0 ∧ j = 0 then 0 else 1000000000
def sb1 (out : List Int) (m i j : Int) : Int := if 0 < i ∧ 0 < j then min (sb0 i j) (at_ out ((i - 1) * m + j - 1).toNat) else sb0 i j
def sb2 (out : List Int) (m i j : Int) : Int := if 0 < i then min (sb1 out m i j) (at_ out ((i - 1) * m + j).toNat) else sb1 out m i j
def sb3 (out : List Int) (m i j : Int) : Int := if 0 < j then min (sb2 out m i j) (at_ out (i * m + j - 1).toNat) else sb2 out m i j
theorem fl_lt {p q i j m : Nat} (h : p < i) (hq : q < m) : p * m + q < i * m + j := by
  have : (p + 1) * m ≤ i * m := Nat.mul_le_mul_right _ h
  rw [Nat.succ_mul] at this
  omega
theorem ix_up {i j : Nat} {m : Nat} : (((i + 1 : Nat) : Int) - 1) * (m : Int) = ((i * m : Nat) : Int) := by
  rw [show ((i + 1 : Nat) : Int) - 1 = (i : Int) from by omega, Int.natCast_mul]
theorem cv_le {far : Int} (hf : 1000000000 ≤ far) {a b : List Feat} (band : Int) (hab : okAB a b) {i j : Nat} (hi : i < a.length) (hj : j < b.length) : cv far a b band i j = far ∨ cv far a b band i j ≤ 87000 := by
  by_cases h : band < (((i : Int) - (j : Int)).natAbs : Int)
  · exact .inl (cv_out h)
  · have := (cv_in (band := band) hab hf hf (i + j) i j rfl hi hj (by omega)).2.2
    have hl := hab.2.2
    right; omega
/-- What the pairs ahead cost. -/
theorem sb_at {a b : List Feat} {band : Int} {out : List Int} {i j : Nat} (hab : okAB a b) (h : flOk a b band out (i * b.length + j)) (hi : i < a.length) (hj : j < b.length) :
    (0 ≤ sb3 out b.length i j ∧ (sb3 out b.length i j ≤ 87000 ∨ sb3 out b.length i j = 1000000000)) ∧ cv farS a b band i j = (if sb3 out b.length i j = 1000000000 ∨ band < (((i : Int) - (j : Int)).natAbs : Int) then 1000000000 else sb3 out b.length i j + costF (at_ a i) (at_ b j)) := by
  have hF : farS = 1000000000 := rfl
  have e1 : ∀ p q : Nat, p < i → q < b.length → at_ out (p * b.length + q) = cv farS a b band p q ∧ 0 ≤ cv farS a b band p q ∧ (cv farS a b band p q = farS ∨ cv farS a b band p q ≤ 87000) := fun p q hp hq => ⟨h.2 p q (by omega) hq (fl_lt hp hq), cv_nn (by decide) band hab p q (by omega) hq, cv_le (by decide) band hab (by omega) hq⟩
  have e2 : ∀ q : Nat, q < j → at_ out (i * b.length + q) = cv farS a b band i q ∧ 0 ≤ cv farS a b band i q ∧ (cv farS a b band i q = farS ∨ cv farS a b band i q ≤ 87000) := fun q hq => ⟨h.2 i q hi (by omega) (by omega), cv_nn (by decide) band hab i q hi (by omega), cv_le (by decide) band hab hi (by omega)⟩
  have hst : ∀ x c : Int, x ≤ farS → stp farS band i j x c = (if x = 1000000000 ∨ band < (((i : Int) - (j : Int)).natAbs : Int) then 1000000000 else x + c) := fun x c hx => by
    unfold stp; split <;> split <;> omega
  rcases i with _ | i <;> rcases j with _ | j
  · have e : sb3 out b.length (0 : Nat) (0 : Nat) = 0 := by simp [sb3, sb2, sb1, sb0]
    rw [e]
    refine ⟨by omega, ?_⟩
    rw [cv, hst _ _ (by omega)]
  · have q := e2 j (by omega)
    have e : sb3 out b.length (0 : Nat) ((j + 1 : Nat) : Int) = min farS (cv farS a b band 0 j) := by
      unfold sb3 sb2 sb1 sb0
      rw [if_pos (by omega), if_neg (by omega), if_neg (by omega), if_neg (by omega), show (((0 : Nat) : Int) * (b.length : Int) + ((j + 1 : Nat) : Int) - 1).toNat = 0 * b.length + j from by rw [show ((0 : Nat) : Int) * (b.length : Int) = 0 from Int.zero_mul _, Nat.zero_mul]; omega, q.1]
    rw [e]
    refine ⟨by omega, ?_⟩
    rw [cv, hst _ _ (by omega)]
  · have q := e1 i 0 (by omega) hj
    have e : sb3 out b.length ((i + 1 : Nat) : Int) (0 : Nat) = min farS (cv farS a b band i 0) := by
      unfold sb3 sb2 sb1 sb0
      rw [if_neg (by omega), if_pos (by omega), if_neg (by omega), if_neg (by omega), ix_up (j := 0), show (((i * b.length : Nat) : Int) + ((0 : Nat) : Int)).toNat = i * b.length + 0 from by omega, q.1]
    rw [e]
    refine ⟨by omega, ?_⟩
    rw [cv, hst _ _ (by omega)]
  · have q1 := e1 i j (by omega) (by omega)
    have q2 := e1 i (j + 1) (by omega) hj
    have q3 := e2 j (by omega)
    have e : sb3 out b.length ((i + 1 : Nat) : Int) ((j + 1 : Nat) : Int) = min (min (min farS (cv farS a b band i j)) (cv farS a b band i (j + 1))) (cv farS a b band (i + 1) j) := by
      unfold sb3 sb2 sb1 sb0
      rw [if_pos (by omega), if_pos (by omega), if_pos (by omega), if_neg (by omega), ix_up (j := 0), show (((i * b.length : Nat) : Int) + ((j + 1 : Nat) : Int) - 1).toNat = i * b.length + j from by omega, show (((i * b.length : Nat) : Int) + ((j + 1 : Nat) : Int)).toNat = i * b.length + (j + 1) from by omega, show (((i + 1 : Nat) : Int) * (b.length : Int) + ((j + 1 : Nat) : Int) - 1).toNat = (i + 1) * b.length + j from by rw [← Int.natCast_mul]; omega, q1.1, q2.1, q3.1]
    rw [e]
    refine ⟨by omega, ?_⟩
    rw [cv, hst _ _ (by omega)]
theorem fl_nn {a b : List Feat} {band : Int} {out : List Int} {k0 k : Nat} (hab : okAB a b) (h : flOk a b band out k0) (hM : 0 < b.length) (hk : k < k0) (hk2 : k < a.length * b.length) : 0 ≤ at_ out k := by
  have h1 := Nat.div_add_mod k b.length
  have h2 := Nat.mod_lt k hM
  have h3 : k / b.length < a.length := (Nat.div_lt_iff_lt_mul hM).2 hk2
  rw [Nat.mul_comm] at h1
  rw [← h1, h.2 _ _ h3 h2 (by omega)]
  exact cv_nn (by decide) band hab _ _ h3 h2
theorem fl_uniq {p q i j m : Nat} (hq : q < m) (hj : j < m) (h : p * m + q = i * m + j) : p = i ∧ q = j := by
  have hp : p = i := by
    rcases Nat.lt_trichotomy p i with e | e | e
    · have := fl_lt (j := j) e hq; omega
    · exact e
    · have := fl_lt (j := q) e hj; omega
  subst hp
  exact ⟨rfl, by omega⟩
theorem fl_step {a b : List Feat} {band v : Int} {out : List Int} {i j : Nat} {k : Nat} (h : flOk a b band out (i * b.length + j)) (hi : i < a.length) (hj : j < b.length) (hk : k = i * b.length + j) (hv : v = cv farS a b band i j) : flOk a b band (out.set k v) (i * b.length + (j + 1)) := by
  subst hk
  refine ⟨by rw [List.length_set]; exact h.1, fun p q hp hq hk => ?_⟩
  by_cases e : p * b.length + q = i * b.length + j
  · obtain ⟨rfl, rfl⟩ := fl_uniq hq hj e
    have : p * b.length + q < a.length * b.length + 0 := fl_lt hi hj
    rw [at_set_same (by rw [h.1]; omega)]; exact hv
  · rw [at_set_oth e]; exact h.2 p q hp hq (by omega)
theorem fl_done {a b : List Feat} {band : Int} {out : List Int} {i n : Nat} (h : flOk a b band out (i * b.length + n)) (hn : n = b.length) : flOk a b band out ((i + 1) * b.length) := by
  subst hn; rw [Nat.succ_mul]; exact h
theorem fl_all {a b : List Feat} {band : Int} {out : List Int} {i j : Nat} (h : flOk a b band out (a.length * b.length)) (hi : i < a.length) (hj : j < b.length) : at_ out (i * b.length + j) = cv farS a b band i j := h.2 i j hi hj (by have := fl_lt (j := 0) hi hj; omega)
end Go.Proofs.Ytcedmgpiaekfaaa.Ax
