/- Contracts that the statement FnExactResetTrained reaches, part 1. No conditions. -/
import Derived.Test.YtmnboneljjijmaaAxO
import Derived.Test.YtmnboneljjijmaaShelf
import Derived.Test.YtmnboneljjijmaaAxS
namespace Go.Proofs.Ytmnboneljjijmaa.Ax
open Go.RowKit Go.ChangeShapes Go.WideShapes
set_option linter.unusedVariables false
set_option linter.unusedSimpArgs false


def cS (x : ByteArray) : List AV := [Sv x]
def fS (xs : List ByteArray) (i : Nat) : List AV := cS (at_ xs i)
def slS (fr : Bool) (xs : List ByteArray) : AV := .sl fr 1 xs.length (fS xs)
theorem tagcS (t : Bool) (x : ByteArray) : taggedL t (cS x) := by simp [cS, taggedL, tagged]
theorem tagS (t : Bool) (xs : List ByteArray) : tagged t (slS t xs) := by simp only [slS, tagged]; exact ⟨trivial, fun i _ => tagcS t _⟩
theorem lenS (fr : Bool) (xs : List ByteArray) : lenA noOb (slS fr xs) = some xs.length := rfl
def cI (x : Int) : List AV := [I x]
def fI (xs : List Int) (i : Nat) : List AV := cI (at_ xs i)
def slI (fr : Bool) (xs : List Int) : AV := .sl fr 1 xs.length (fI xs)
theorem tagcI (t : Bool) (x : Int) : taggedL t (cI x) := by simp [cI, taggedL, tagged]
theorem tagI (t : Bool) (xs : List Int) : tagged t (slI t xs) := by simp only [slI, tagged]; exact ⟨trivial, fun i _ => tagcI t _⟩
theorem lenI (fr : Bool) (xs : List Int) : lenA noOb (slI fr xs) = some xs.length := rfl
structure Feat where
  X : Int
  Y : Int
  D : Int
deriving DecidableEq, Inhabited
def cFeat (x : Feat) : List AV := [I x.X, I x.Y, I x.D]
def fFeat (xs : List Feat) (i : Nat) : List AV := cFeat (at_ xs i)
def slFeat (fr : Bool) (xs : List Feat) : AV := .sl fr 3 xs.length (fFeat xs)
theorem tagcFeat (t : Bool) (x : Feat) : taggedL t (cFeat x) := by simp [cFeat, taggedL, tagged]
theorem tagFeat (t : Bool) (xs : List Feat) : tagged t (slFeat t xs) := by simp only [slFeat, tagged]; exact ⟨trivial, fun i _ => tagcFeat t _⟩
theorem lenFeat (fr : Bool) (xs : List Feat) : lenA noOb (slFeat fr xs) = some xs.length := rfl
abbrev bxFeat (x : Feat) : Ob := .box [I x.X, I x.Y, I x.D]
abbrev agFeat (x : Feat) : AV := .agg [I x.X, I x.Y, I x.D]
def cLFeat (fr : Bool) (x : List Feat) : List AV := [slFeat fr x]
def fLFeat (fr : Bool) (xs : List (List Feat)) (i : Nat) : List AV := cLFeat fr (at_ xs i)
def slLFeat (fr : Bool) (xs : List (List Feat)) : AV := .sl fr 1 xs.length (fLFeat fr xs)
theorem tagcLFeat (t : Bool) (x : List Feat) : taggedL t (cLFeat t x) := by simp [cLFeat, taggedL, tagged, tagFeat]
theorem tagLFeat (t : Bool) (xs : List (List Feat)) : tagged t (slLFeat t xs) := by simp only [slLFeat, tagged]; exact ⟨trivial, fun i _ => tagcLFeat t _⟩
theorem lenLFeat (fr : Bool) (xs : List (List Feat)) : lenA noOb (slLFeat fr xs) = some xs.length := rfl
theorem idsLFeat (fr : Bool) (x : List Feat) : AV.idsL (cLFeat fr x) = [] := rfl
theorem leLFeat (fr : Bool) (x : List Feat) (ob : Nat → Option Ob) : leL ob false (cLFeat fr x) (cLFeat false x) := (And.intro (And.intro (fun h => by cases h) (And.intro rfl (And.intro rfl (fun i _ => .inl rfl)))) rfl)
structure Trained where
  Label : ByteArray
  Base : List Feat
  Feats : List Feat
  Count : Int
deriving DecidableEq, Inhabited
def cTrained (fr : Bool) (x : Trained) : List AV := [Sv x.Label, slFeat fr x.Base, slFeat fr x.Feats, I x.Count]
def fTrained (fr : Bool) (xs : List Trained) (i : Nat) : List AV := cTrained fr (at_ xs i)
def slTrained (fr : Bool) (xs : List Trained) : AV := .sl fr 4 xs.length (fTrained fr xs)
theorem tagcTrained (t : Bool) (x : Trained) : taggedL t (cTrained t x) := by simp [cTrained, taggedL, tagged, tagFeat]
theorem tagTrained (t : Bool) (xs : List Trained) : tagged t (slTrained t xs) := by simp only [slTrained, tagged]; exact ⟨trivial, fun i _ => tagcTrained t _⟩
theorem lenTrained (fr : Bool) (xs : List Trained) : lenA noOb (slTrained fr xs) = some xs.length := rfl
theorem idsTrained (fr : Bool) (x : Trained) : AV.idsL (cTrained fr x) = [] := rfl
theorem leTrained (fr : Bool) (x : Trained) (ob : Nat → Option Ob) : leL ob false (cTrained fr x) (cTrained false x) := (And.intro rfl (And.intro (And.intro (fun h => by cases h) (And.intro rfl (And.intro rfl (fun i _ => .inl rfl)))) (And.intro (And.intro (fun h => by cases h) (And.intro rfl (And.intro rfl (fun i _ => .inl rfl)))) (And.intro rfl rfl))))
abbrev bxTrained (x : Trained) : Ob := .box [Sv x.Label, slFeat false x.Base, slFeat false x.Feats, I x.Count]
abbrev agTrained (x : Trained) : AV := .agg [Sv x.Label, slFeat false x.Base, slFeat false x.Feats, I x.Count]
abbrev bxTrainedT (x : Trained) : Ob := .box [Sv x.Label, slFeat true x.Base, slFeat true x.Feats, I x.Count]
abbrev agTrainedT (x : Trained) : AV := .agg [Sv x.Label, slFeat true x.Base, slFeat true x.Feats, I x.Count]
structure Template where
  Label : ByteArray
  Feats : List Feat
deriving DecidableEq, Inhabited
def cTemplate (fr : Bool) (x : Template) : List AV := [Sv x.Label, slFeat fr x.Feats]
def fTemplate (fr : Bool) (xs : List Template) (i : Nat) : List AV := cTemplate fr (at_ xs i)
def slTemplate (fr : Bool) (xs : List Template) : AV := .sl fr 2 xs.length (fTemplate fr xs)
theorem tagcTemplate (t : Bool) (x : Template) : taggedL t (cTemplate t x) := by simp [cTemplate, taggedL, tagged, tagFeat]
theorem tagTemplate (t : Bool) (xs : List Template) : tagged t (slTemplate t xs) := by simp only [slTemplate, tagged]; exact ⟨trivial, fun i _ => tagcTemplate t _⟩
theorem lenTemplate (fr : Bool) (xs : List Template) : lenA noOb (slTemplate fr xs) = some xs.length := rfl
theorem idsTemplate (fr : Bool) (x : Template) : AV.idsL (cTemplate fr x) = [] := rfl
theorem leTemplate (fr : Bool) (x : Template) (ob : Nat → Option Ob) : leL ob false (cTemplate fr x) (cTemplate false x) := (And.intro rfl (And.intro (And.intro (fun h => by cases h) (And.intro rfl (And.intro rfl (fun i _ => .inl rfl)))) rfl))
abbrev bxTemplate (x : Template) : Ob := .box [Sv x.Label, slFeat false x.Feats]
abbrev agTemplate (x : Template) : AV := .agg [Sv x.Label, slFeat false x.Feats]
abbrev bxTemplateT (x : Template) : Ob := .box [Sv x.Label, slFeat true x.Feats]
abbrev agTemplateT (x : Template) : AV := .agg [Sv x.Label, slFeat true x.Feats]

/-- What is left of l behind b. -/
def szTake (l : Int) (b : Nat) : Int := if l < b then -1 else l - b
theorem szTake_nn {l : Int} {b : Nat} (h : ¬ szTake l b < 0) : szTake l b = l - b ∧ (b : Int) ≤ l := by
  unfold szTake at *; split at h <;> simp_all <;> omega
theorem szTake_ng {l : Int} {b : Nat} (h : szTake l b < 0) (h0 : 0 ≤ l) : szTake l b = -1 ∧ l < b := by
  unfold szTake at *; split at h <;> simp_all <;> omega
theorem szTake_of {l : Int} {b : Nat} (h : (b : Int) ≤ l) : szTake l b = l - b := by unfold szTake; rw [if_neg (by omega)]
theorem szTake_neg {l : Int} {b : Nat} (h : l < b) : szTake l b = -1 := by unfold szTake; rw [if_pos h]
theorem take_snoc' {α : Type} [Inhabited α] {l : List α} {k : Nat} (h : k < l.length) : l.take (k + 1) = l.take k ++ [at_ l k] := by
  rw [List.take_succ_eq_append_getElem h, at_eq h]

def bulkFeatS (xs : List Feat) : Nat := xs.length
theorem bulkFeatS_len (xs : List Feat) : xs.length ≤ bulkFeatS xs := Nat.le_refl _

-- laws.szFeatS
theorem szFeatS_ok (a : List Feat) (left : Int) (h0 : 0 ≤ left ∧ left ≤ 1048576) : Con Try.prog 47 [slFeat false a, I left] true (I (szTake left (bulkFeatS a))) := by
  refine fn_ok (fn := Try.f47) (nt := 12) Try.func47 rfl rfl rfl rfl (by simp [taggedL, tagged, tagFeat]) fun B hB => ?_
  refine aw_lens (x := slFeat false a) 0 rfl (fun len_a => ?_)
  simp [LenOK, LenL, cFeat, fFeat, slFeat] at len_a
  refine aw_seq ?_
  refine aw_reg [] [0, 1] [] [slFeat false a, I left] [] [] (by kernel_rfl) hB trivial ?_
  refine ae_then ?_
  refine aw_seq ?_
  refine aw_reg [] [1] [] [I (left - (a.length : Int))] [] [inR .i64 (left - (a.length : Int))] (by kernel_rfl) hB ⟨(inR_i64 (by omega) (by omega)), trivial⟩ ?_
  refine ae_then ?_
  refine aw_seq ?_
  refine aw_seq ?_
  by_cases h1 : (left - (a.length : Int)) < 0
  ·refine aw_reg [(1, .dec true)] [1, 10] [] [I (left - (a.length : Int)), Bv true] [] [(left - (a.length : Int)) < 0] (by kernel_rfl) hB ⟨h1, trivial⟩ ?_
   refine ae_then ?_
   refine aw_true rfl ?_
   refine aw_seq ?_
   refine aw_reg [] [4] [] [I (-1)] [] [] (by kernel_rfl) hB trivial ?_
   refine ae_then ?_
   refine aw_ret ?_
   refine ae_ret_then ?_
   refine ae_ret hB (I (-1)) (by kernel_rfl) (.inl (by refine congrArg I ?_; unfold szTake bulkFeatS; split <;> omega)) rfl (fun _ => trivial)
  ·refine aw_reg [(1, .dec false)] [1, 10] [] [I (left - (a.length : Int)), Bv false] [] [¬ ((left - (a.length : Int)) < 0)] (by kernel_rfl) hB ⟨h1, trivial⟩ ?_
   refine ae_then ?_
   refine aw_false rfl ?_
   refine aw_skip ?_
   refine ae_then ?_
   refine aw_seq ?_
   refine aw_reg [] [4] [] [I (left - (a.length : Int))] [] [] (by kernel_rfl) hB trivial ?_
   refine ae_then ?_
   refine aw_ret ?_
   refine ae_ret hB (I (left - (a.length : Int))) (by kernel_rfl) (.inl (by refine congrArg I ?_; unfold szTake bulkFeatS; split <;> omega)) rfl (fun _ => trivial)


def okTrained (x : Trained) : Prop := (x.Label.size ≤ 9223372036854775807)

def bulkTrained (x : Trained) : Nat := x.Label.size + (bulkFeatS x.Base) + (bulkFeatS x.Feats)
def bulkTrainedS : List Trained → Nat
  | [] => 0
  | x :: r => 1 + (bulkTrained x) + bulkTrainedS r
theorem bulkTrainedS_app (xs ys : List Trained) : bulkTrainedS (xs ++ ys) = bulkTrainedS xs + bulkTrainedS ys := by
  induction xs with
  | nil => simp [bulkTrainedS]
  | cons x r ih => simp [bulkTrainedS, ih]; omega
theorem bulkTrainedS_len (xs : List Trained) : xs.length ≤ bulkTrainedS xs := by
  induction xs with
  | nil => simp
  | cons x r ih => simp [bulkTrainedS]; omega
theorem bulkTrainedS_take {xs : List Trained} {i : Nat} (h : i < xs.length) : bulkTrainedS (xs.take (i + 1)) = bulkTrainedS (xs.take i) + 1 + (bulkTrained (at_ xs i)) := by
  rw [take_snoc' h, bulkTrainedS_app]; simp [bulkTrainedS]; omega
theorem bulkTrainedS_le (xs : List Trained) (i : Nat) : bulkTrainedS (xs.take i) + (xs.length - i) ≤ bulkTrainedS xs := by
  have e := bulkTrainedS_app (xs.take i) (xs.drop i)
  rw [List.take_append_drop] at e
  have := bulkTrainedS_len (xs.drop i)
  simp at this
  omega
theorem bulkTrainedS_at {xs : List Trained} {i : Nat} (h : i < xs.length) : 1 + (bulkTrained (at_ xs i)) ≤ bulkTrainedS xs := by
  have h1 := bulkTrainedS_take h
  have h2 := bulkTrainedS_le xs (i + 1)
  omega

-- laws.szTrained
theorem szTrained_ok (a : Trained) (left : Int) (h0 : 0 ≤ left ∧ left ≤ 1048576) (ok0 : okTrained a) : Con Try.prog 11 [agTrained a, I left] true (I (szTake left (bulkTrained a))) := by
  have ok := ok0
  unfold okTrained at ok
  have ok_Label := ok
  refine fn_ok (fn := Try.f11) (nt := 25) Try.func11 rfl rfl rfl rfl (by simp [taggedL, tagged, tagFeat]) fun B hB => ?_
  refine aw_lens (x := agTrained a) 0 rfl (fun len_a => ?_)
  simp [LenOK, LenL, cFeat, fFeat, slFeat] at len_a
  refine aw_seq ?_
  refine aw_reg [(0, .new 2)] [1, 2] [2] [I left, .ref 2 0] [some (bxTrained a)] [] (by kernel_rfl) hB trivial ?_
  refine ae_then ?_
  refine aw_seq ?_
  refine aw_reg [] [1, 2] [2] [I (left - (a.Label.size : Int)), .ref 2 0] [some (bxTrained a)] [inR .i64 (left - (a.Label.size : Int))] (by kernel_rfl) hB ⟨(inR_i64 (by omega) (by omega)), trivial⟩ ?_
  refine ae_then ?_
  refine aw_seq ?_
  refine aw_seq ?_
  by_cases h1 : (left - (a.Label.size : Int)) < 0
  ·refine aw_reg [(1, .dec true)] [1, 2, 11] [2] [I (left - (a.Label.size : Int)), .ref 2 0, Bv true] [some (bxTrained a)] [(left - (a.Label.size : Int)) < 0] (by kernel_rfl) hB ⟨h1, trivial⟩ ?_
   refine ae_then ?_
   refine aw_true rfl ?_
   refine aw_seq ?_
   refine aw_reg [] [4] [] [I (-1)] [] [] (by kernel_rfl) hB trivial ?_
   refine ae_then ?_
   refine aw_ret ?_
   refine ae_ret_then ?_
   refine ae_ret hB (I (-1)) (by kernel_rfl) (.inl (by refine congrArg I ?_; unfold szTake bulkTrained; split <;> omega)) rfl (fun _ => trivial)
  ·refine aw_reg [(1, .dec false)] [1, 2, 11] [2] [I (left - (a.Label.size : Int)), .ref 2 0, Bv false] [some (bxTrained a)] [¬ ((left - (a.Label.size : Int)) < 0)] (by kernel_rfl) hB ⟨h1, trivial⟩ ?_
   refine ae_then ?_
   refine aw_false rfl ?_
   refine aw_skip ?_
   refine ae_then ?_
   refine aw_seq ?_
   refine aw_reg [(3, .call [(true, slFeat false a.Base), (true, I (left - (a.Label.size : Int)))] true (I (szTake (left - (a.Label.size : Int)) (bulkFeatS a.Base))))] [1, 2] [2] [I (szTake (left - (a.Label.size : Int)) (bulkFeatS a.Base)), .ref 2 0] [some (bxTrained a)] [Con Try.prog 47 [slFeat false a.Base, I (left - (a.Label.size : Int))] true (I (szTake (left - (a.Label.size : Int)) (bulkFeatS a.Base))) ∧ ((slFeat false a.Base : AV) = slFeat false a.Base) ∧ ((I (left - (a.Label.size : Int)) : AV) = I (left - (a.Label.size : Int))) ∧ True] (by kernel_rfl) hB ⟨⟨(szFeatS_ok a.Base (left - (a.Label.size : Int)) (by omega)), rfl, rfl, trivial⟩, trivial⟩ ?_
   refine ae_then ?_
   refine aw_seq ?_
   refine aw_seq ?_
   by_cases h2 : (szTake (left - (a.Label.size : Int)) (bulkFeatS a.Base)) < 0
   ·have eh2 := szTake_ng h2 (by omega)
    refine aw_reg [(1, .dec true)] [1, 2, 17] [2] [I (szTake (left - (a.Label.size : Int)) (bulkFeatS a.Base)), .ref 2 0, Bv true] [some (bxTrained a)] [(szTake (left - (a.Label.size : Int)) (bulkFeatS a.Base)) < 0] (by kernel_rfl) hB ⟨h2, trivial⟩ ?_
    refine ae_then ?_
    refine aw_true rfl ?_
    refine aw_seq ?_
    refine aw_reg [] [4] [] [I (-1)] [] [] (by kernel_rfl) hB trivial ?_
    refine ae_then ?_
    refine aw_ret ?_
    refine ae_ret_then ?_
    refine ae_ret hB (I (-1)) (by kernel_rfl) (.inl (by refine congrArg I ?_; unfold szTake bulkTrained; split <;> omega)) rfl (fun _ => trivial)
   ·have eh2 := szTake_nn h2
    refine aw_reg [(1, .dec false)] [1, 2, 17] [2] [I (szTake (left - (a.Label.size : Int)) (bulkFeatS a.Base)), .ref 2 0, Bv false] [some (bxTrained a)] [¬ ((szTake (left - (a.Label.size : Int)) (bulkFeatS a.Base)) < 0)] (by kernel_rfl) hB ⟨h2, trivial⟩ ?_
    refine ae_then ?_
    refine aw_false rfl ?_
    refine aw_skip ?_
    refine ae_then ?_
    refine aw_seq ?_
    refine aw_reg [(3, .call [(true, slFeat false a.Feats), (true, I (szTake (left - (a.Label.size : Int)) (bulkFeatS a.Base)))] true (I (szTake (szTake (left - (a.Label.size : Int)) (bulkFeatS a.Base)) (bulkFeatS a.Feats))))] [1] [] [I (szTake (szTake (left - (a.Label.size : Int)) (bulkFeatS a.Base)) (bulkFeatS a.Feats))] [] [Con Try.prog 47 [slFeat false a.Feats, I (szTake (left - (a.Label.size : Int)) (bulkFeatS a.Base))] true (I (szTake (szTake (left - (a.Label.size : Int)) (bulkFeatS a.Base)) (bulkFeatS a.Feats))) ∧ ((slFeat false a.Feats : AV) = slFeat false a.Feats) ∧ ((I (szTake (left - (a.Label.size : Int)) (bulkFeatS a.Base)) : AV) = I (szTake (left - (a.Label.size : Int)) (bulkFeatS a.Base))) ∧ True] (by kernel_rfl) hB ⟨⟨(szFeatS_ok a.Feats (szTake (left - (a.Label.size : Int)) (bulkFeatS a.Base)) (by omega)), rfl, rfl, trivial⟩, trivial⟩ ?_
    refine ae_then ?_
    refine aw_seq ?_
    refine aw_seq ?_
    by_cases h3 : (szTake (szTake (left - (a.Label.size : Int)) (bulkFeatS a.Base)) (bulkFeatS a.Feats)) < 0
    ·have eh3 := szTake_ng h3 (by omega)
     refine aw_reg [(1, .dec true)] [1, 23] [] [I (szTake (szTake (left - (a.Label.size : Int)) (bulkFeatS a.Base)) (bulkFeatS a.Feats)), Bv true] [] [(szTake (szTake (left - (a.Label.size : Int)) (bulkFeatS a.Base)) (bulkFeatS a.Feats)) < 0] (by kernel_rfl) hB ⟨h3, trivial⟩ ?_
     refine ae_then ?_
     refine aw_true rfl ?_
     refine aw_seq ?_
     refine aw_reg [] [4] [] [I (-1)] [] [] (by kernel_rfl) hB trivial ?_
     refine ae_then ?_
     refine aw_ret ?_
     refine ae_ret_then ?_
     refine ae_ret hB (I (-1)) (by kernel_rfl) (.inl (by refine congrArg I ?_; unfold szTake bulkTrained; split <;> omega)) rfl (fun _ => trivial)
    ·have eh3 := szTake_nn h3
     refine aw_reg [(1, .dec false)] [1, 23] [] [I (szTake (szTake (left - (a.Label.size : Int)) (bulkFeatS a.Base)) (bulkFeatS a.Feats)), Bv false] [] [¬ ((szTake (szTake (left - (a.Label.size : Int)) (bulkFeatS a.Base)) (bulkFeatS a.Feats)) < 0)] (by kernel_rfl) hB ⟨h3, trivial⟩ ?_
     refine ae_then ?_
     refine aw_false rfl ?_
     refine aw_skip ?_
     refine ae_then ?_
     refine aw_seq ?_
     refine aw_reg [] [4] [] [I (szTake (szTake (left - (a.Label.size : Int)) (bulkFeatS a.Base)) (bulkFeatS a.Feats))] [] [] (by kernel_rfl) hB trivial ?_
     refine ae_then ?_
     refine aw_ret ?_
     refine ae_ret hB (I (szTake (szTake (left - (a.Label.size : Int)) (bulkFeatS a.Base)) (bulkFeatS a.Feats))) (by kernel_rfl) (.inl (by refine congrArg I ?_; unfold szTake bulkTrained; split <;> omega)) rfl (fun _ => trivial)


-- laws.toFeat
theorem toFeat_ok (a : Feat) : Con Try.prog 93 [agFeat a] true (agFeat a) := by
  refine fn_ok (fn := Try.f93) (nt := 14) Try.func93 rfl rfl rfl rfl (by simp [taggedL, tagged]) fun B hB => ?_
  refine aw_seq ?_
  refine aw_reg [(0, .new 1), (1, .new 2)] [1, 2] [1, 2] [.ref 1 0, .ref 2 0] [some (bxFeat a), some (.box [I 0, I 0, I 0])] [] (by kernel_rfl) hB trivial ?_
  refine ae_then ?_
  refine aw_seq ?_
  refine aw_reg [(0, .new 3)] [1, 2, 3] [1, 2, 3] [.ref 1 0, .ref 2 0, .ref 3 0] [some (bxFeat a), some (.box [I 0, I 0, I 0]), some (.box [I 0, I 0, I 0])] [] (by kernel_rfl) hB trivial ?_
  refine ae_then ?_
  refine aw_seq ?_
  refine aw_reg [] [1, 2, 3] [1, 2, 3] [.ref 1 0, .ref 2 0, .ref 3 0] [some (bxFeat a), some (.box [I 0, I 0, I 0]), some (.box [I a.X, I 0, I 0])] [] (by kernel_rfl) hB trivial ?_
  refine ae_then ?_
  refine aw_seq ?_
  refine aw_reg [] [1, 2, 3] [1, 2, 3] [.ref 1 0, .ref 2 0, .ref 3 0] [some (bxFeat a), some (.box [I 0, I 0, I 0]), some (.box [I a.X, I a.Y, I 0])] [] (by kernel_rfl) hB trivial ?_
  refine ae_then ?_
  refine aw_seq ?_
  refine aw_reg [] [2, 3] [2, 3] [.ref 2 0, .ref 3 0] [some (.box [I 0, I 0, I 0]), some (bxFeat a)] [] (by kernel_rfl) hB trivial ?_
  refine ae_then ?_
  refine aw_seq ?_
  refine aw_reg [] [2] [2] [.ref 2 0] [some (bxFeat a)] [] (by kernel_rfl) hB trivial ?_
  refine ae_then ?_
  refine aw_ret ?_
  refine ae_ret hB (agFeat a) (by kernel_rfl) (.inl rfl) rfl (fun _ => (by simp [tagged, taggedL]))


theorem set_at {α : Type} [Inhabited α] {ys xs : List α} {i : Int} (hl : ys.length = xs.length) (hi : i.toNat < xs.length) (h : ∀ j : Nat, (j : Int) < i → at_ ys j = at_ xs j) (j : Nat) (hj : j ≤ i.toNat) : at_ (ys.set i.toNat (at_ xs i.toNat)) j = at_ xs j := by
  by_cases e : i.toNat = j
  · subst e; simp [at_, hl, hi]
  · have := h j (by omega)
    simp only [at_] at this ⊢
    rw [← this]
    simp [e]
/-- Whether two things are the same. -/
def same {α : Type} [DecidableEq α] (x y : α) : Bool := decide (x = y)
theorem same_iff {α : Type} [DecidableEq α] {x y : α} : same x y = true ↔ x = y := by simp [same]
theorem ext_at {α : Type} [Inhabited α] {xs ys : List α} (hl : xs.length = ys.length) (h : ∀ j : Nat, j < xs.length → at_ xs j = at_ ys j) : xs = ys := by
  apply List.ext_getElem hl
  intro i h1 h2
  rw [← at_eq h1, ← at_eq h2]
  exact h i h1

theorem at_mem {α : Type} [Inhabited α] {xs : List α} {i : Nat} (h : i < xs.length) : at_ xs i ∈ xs := by rw [at_eq h]; exact List.getElem_mem h

/-- Whether p holds of all numbers below n. -/
def allN (n : Nat) (p : Nat → Bool) : Bool := (List.range n).all p
def anyN (n : Nat) (p : Nat → Bool) : Bool := !(allN n fun j => !(p j))
theorem allN_iff {n : Nat} {p : Nat → Bool} : allN n p = true ↔ ∀ j, j < n → p j = true := by simp [allN, List.all_eq_true]
theorem allN_at {n : Nat} {p : Nat → Bool} (h : ∀ j, j < n → p j = true) : allN n p = true := allN_iff.2 h
theorem allN_get {n : Nat} {p : Nat → Bool} (h : allN n p = true) {k : Nat} (hk : k < n) : p k = true := allN_iff.1 h k hk
theorem allN_not {n : Nat} {p : Nat → Bool} {k : Nat} (hk : k < n) (h : p k = false) : allN n p = false := by
  rw [← Bool.not_eq_true, allN_iff]; intro h'; rw [h' k hk] at h; cases h
theorem anyN_not (n : Nat) (p : Nat → Bool) : anyN n (fun j => !(p j)) = !(allN n p) := by simp [anyN]
theorem anyN_at {n : Nat} {p : Nat → Bool} {k : Nat} (hk : k < n) (h : p k = true) : anyN n p = true := by
  unfold anyN; rw [allN_not hk (by simp [h])]; rfl
theorem anyN_none {n : Nat} {p : Nat → Bool} (h : ∀ j, j < n → p j = false) : anyN n p = false := by
  unfold anyN; rw [allN_at (fun j hj => by simp [h j hj])]; rfl
theorem anyN_iff {n : Nat} {p : Nat → Bool} : anyN n p = true ↔ ∃ j, j < n ∧ p j = true := by
  constructor
  · intro h
    apply Classical.byContradiction
    intro hn
    rw [anyN_none (fun j hj => by rw [← Bool.not_eq_true]; exact fun hp => hn ⟨j, hj, hp⟩)] at h
    cases h
  · rintro ⟨j, hj, hp⟩; exact anyN_at hj hp
theorem up_to {n : Int} {p : Nat → Prop} {i : Int} (hi : 0 ≤ i) (h : ∀ j : Nat, (j : Int) < i → p j) (hp : p i.toNat) : ∀ j : Nat, (j : Int) < i + 1 → p j := fun j hj => by
  by_cases e : j = i.toNat
  · subst e; exact hp
  · exact h j (by omega)

def inB (a l h : Int) : Bool := decide (l ≤ a ∧ a ≤ h)
theorem inB_iff {a l h : Int} : inB a l h = true ↔ l ≤ a ∧ a ≤ h := by simp [inB]
theorem bAt_bd (s : ByteArray) (i : Nat) : 0 ≤ bAt s i ∧ bAt s i ≤ 255 := by
  unfold bAt
  have := (s.data.toList.getD i 0).toNat_lt
  omega

def okF (p : Feat) : Bool := inB p.X 0 255 && (inB p.Y 0 255 && inB p.D 0 7)
theorem okF_iff {p : Feat} : okF p = true ↔ (0 ≤ p.X ∧ p.X ≤ 255) ∧ (0 ≤ p.Y ∧ p.Y ≤ 255) ∧ (0 ≤ p.D ∧ p.D ≤ 7) := by simp [okF, inB, and_assoc]
/-- Whether all are features, and they are 1 to m. -/
def okFeats (xs : List Feat) (m : Int) : Bool := decide (1 ≤ (xs.length : Int) ∧ (xs.length : Int) ≤ m) && allN xs.length (fun j => okF (at_ xs j))
theorem okFeats_at {xs : List Feat} {m : Int} (h : okFeats xs m = true) {j : Nat} (hj : j < xs.length) : okF (at_ xs j) = true := by
  simp only [okFeats, Bool.and_eq_true] at h
  exact allN_get h.2 hj

/-- Whether a byte is a label's. -/
def labB (n : Int) : Bool := decide ((97 ≤ n ∧ n ≤ 122) ∨ (48 ≤ n ∧ n ≤ 57) ∨ n = 43 ∨ n = 45 ∨ n = 42 ∨ n = 47 ∨ n = 61 ∨ n = 40 ∨ n = 41 ∨ n = 46 ∨ n = 44)
/-- Whether a string is a label. -/
def okLabel (s : ByteArray) : Bool := decide (s.size = 1) && labB (bAt s 0)

/-- Whether a feature is one that another one may have become. -/
def nearB (a b : Feat) : Bool := decide (a.D = b.D) && (decide (((a.X - b.X).natAbs : Int) ≤ 40) && decide (((a.Y - b.Y).natAbs : Int) ≤ 40))
/-- Whether a trained template is valid. -/
def okTrained' (t : Trained) : Bool := okLabel t.Label && (okFeats t.Base 72 && (okFeats t.Feats 72 && ((decide (t.Base.length = t.Feats.length) && allN t.Base.length (fun j => nearB (at_ t.Base j) (at_ t.Feats j))) && inB t.Count 0 100)))
theorem okTr_iff {t : Trained} : okTrained' t = true ↔ okLabel t.Label = true ∧ okFeats t.Base 72 = true ∧ okFeats t.Feats 72 = true ∧ (t.Base.length = t.Feats.length ∧ allN t.Base.length (fun j => nearB (at_ t.Base j) (at_ t.Feats j)) = true) ∧ inB t.Count 0 100 = true := by
  simp [okTrained']



theorem at_setQ {α : Type} [Inhabited α] {xs : List α} {i : Nat} {y : α} (h : i < xs.length) : at_ (xs.set i y) i = y := by simp [at_, h]
def okTm (t : Template) : Bool := okLabel t.Label && okFeats t.Feats 72
def stR (t : Template) : Trained × Int := if okTm t = true then (⟨t.Label, t.Feats, t.Feats, 0⟩, 0) else (⟨⟨#[]⟩, [], [], 0⟩, 1)
theorem stR_yes {t : Template} (h : okTm t = true) : stR t = (⟨t.Label, t.Feats, t.Feats, 0⟩, 0) := if_pos h
theorem stR_no {t : Template} (h : okTm t = false) : stR t = (⟨⟨#[]⟩, [], [], 0⟩, 1) := by simp [stR, h]
theorem okTm_len {t : Template} (h : okTm t = true) : t.Feats.length ≤ 72 := by
  simp only [okTm, okFeats, Bool.and_eq_true, decide_eq_true_eq] at h
  omega
/-- Marks. -/
def mkL (k : Int) (n : Nat) : List Feat := (List.range n).map fun j : Nat => ⟨k + 3 * (j : Int), k + 3 * (j : Int) + 1, k + 3 * (j : Int) + 2⟩
theorem mkL_len (k : Int) (n : Nat) : (mkL k n).length = n := by simp [mkL]
theorem mkL_at {k : Int} {n j : Nat} (h : j < n) : at_ (mkL k n) j = ⟨k + 3 * (j : Int), k + 3 * (j : Int) + 1, k + 3 * (j : Int) + 2⟩ := by simp [at_, mkL, h]
theorem mk_next {ys : List Feat} {k : Int} {i : Int} {y : Feat} (h0 : 0 ≤ i) (hi : i.toNat < ys.length) (h : ∀ j : Nat, (j : Int) < i → at_ ys j = ⟨k + 3 * (j : Int), k + 3 * (j : Int) + 1, k + 3 * (j : Int) + 2⟩) (hy : y = ⟨k + 3 * i, k + 3 * i + 1, k + 3 * i + 2⟩) : ∀ j : Nat, (j : Int) < i + 1 → at_ (ys.set i.toNat y) j = ⟨k + 3 * (j : Int), k + 3 * (j : Int) + 1, k + 3 * (j : Int) + 2⟩ := fun j hj => by
  by_cases e : j = i.toNat
  · subst e
    have e2 : ((i.toNat : Nat) : Int) = i := by omega
    rw [e2]
    simp [at_, hi, hy]
  · have h' : ¬ i.toNat = j := fun q => e q.symm
    have : at_ (ys.set i.toNat y) j = at_ ys j := by simp [at_, List.getElem?_set, h']
    rw [this]; exact h j (by omega)

-- laws.toFeatS
theorem toFeatS_own (al : List Feat) (hb : bulkFeatS al ≤ 1048576) : ∃ (ys : List Feat), (ys = al) ∧ CallOK Try.prog 49 [slFeat false al] (lookO []) false (.arr 8301) (lookO [(8301, .arr 3 ys.length (fFeat ys))]) := by
  have hb0 := bulkFeatS_len al
  have hh : ∃ r : (List Feat), ((r = al) ∧ (True)) ∧ CallOK Try.prog 49 [slFeat false al] (lookO []) false (.arr 8301) (lookO [(8301, .arr 3 r.length (fFeat r))]) := by
    refine fn_okX (Φ := fun r : (List Feat) => (r = al) ∧ (True)) [] (fun r => [(8301, .arr 3 r.length (fFeat r))]) (fn := Try.f49) (nt := 23) Try.func49 rfl rfl (args := [slFeat false al]) rfl (allcons (.inl ⟨rfl, tagFeat false _⟩) allnil) (res := fun r => .arr 8301) ?_
    refine x_seq ?_
    refine x_reg [] [0] [] [slFeat false al] [] [] (by kernel_rfl) trivial ?_
    refine xe_then ?_
    refine x_seq ?_
    refine x_reg [(2, .new 7)] [0, 3] [7] [slFeat false al, .arr 7] [some (.arr 3 ((al.length : Int).toNat) (fun _ => [I 0, I 0, I 0]))] [(0 : Int) ≤ (al.length : Int) ∧ ((al.length : Int) : Int) ≤ (al.length : Int) ∧ (24 : Int) * (al.length : Int) ≤ 281474976710656 ∧ (al.length : Int) ≤ 9223372036854775807] (by kernel_rfl) ⟨⟨(by omega), (by omega), (by omega), (by omega)⟩, trivial⟩ ?_
    refine xe_then ?_
    refine x_seq ?_
    refine x_seq ?_
    refine x_reg [] [0, 3, 4] [7] [slFeat false al, .arr 7, I 0] [some (.arr 3 ((al.length : Int).toNat) (fun _ => [I 0, I 0, I 0]))] [] (by kernel_rfl) trivial ?_
    refine xe_then ?_
    refine x_block ?_
    refine x_weak [] (T := [(0, slFeat false al), (3, .arr 7), (4, I 0)]) (O := [(7, .arr 3 ((List.replicate ((al.length : Int).toNat) (Feat.mk 0 0 0)).length) (fFeat (List.replicate ((al.length : Int).toNat) (Feat.mk 0 0 0))))]) rfl (⟨.inl rfl, .inl rfl, .inl rfl, trivial⟩) (⟨.inr ⟨rfl, (by first | rfl | (simp; done) | (simp; omega) | omega), fun i_ hi_ => .inl (const_enc (enc := cFeat) rfl i_ hi_)⟩, trivial⟩) ?_
    refine x_loop (X := Int × (List Feat)) (fun x => mkS [(0, slFeat false al), (3, .arr 7), (4, I x.1)] [(7, .arr 3 x.2.length (fFeat x.2))]) (fun x => (0 ≤ x.1 ∧ x.1 ≤ (al.length : Int)) ∧ (x.2.length = al.length) ∧ (∀ j : Nat, (j : Int) < x.1 → at_ x.2 j = at_ al j) ∧ True) (fun x => ((al.length : Int) - x.1).toNat) (0, (List.replicate ((al.length : Int).toNat) (Feat.mk 0 0 0))) rfl (show (0 ≤ (0 : Int) ∧ (0 : Int) ≤ (al.length : Int)) ∧ ((List.replicate ((al.length : Int).toNat) (Feat.mk 0 0 0)).length = al.length) ∧ (∀ j : Nat, (j : Int) < (0 : Int) → at_ (List.replicate ((al.length : Int).toNat) (Feat.mk 0 0 0)) j = at_ al j) ∧ True from ⟨(by omega), (by simp), (by intro j hj; omega), trivial⟩) (fun x hI => ?_)
    obtain ⟨i, zs⟩ := x
    obtain ⟨hi0, hy0, hy1, _⟩ : (0 ≤ i ∧ i ≤ (al.length : Int)) ∧ (zs.length = al.length) ∧ (∀ j : Nat, (j : Int) < i → at_ zs j = at_ al j) ∧ True := hI
    show XW _ _ _ _ (mkS [(0, slFeat false al), (3, .arr 7), (4, I i)] [(7, .arr 3 zs.length (fFeat zs))]) _ _
    refine x_seq ?_
    refine x_seq ?_
    by_cases h1 : i < (al.length : Int)
    ·have hi : i.toNat < al.length := by omega
     have hiy : i.toNat < zs.length := by omega
     refine x_reg [(3, .dec true)] [0, 3, 4, 11] [7] [slFeat false al, .arr 7, I i, Bv true] [some (.arr 3 zs.length (fFeat zs))] [i < (al.length : Int)] (by kernel_rfl) ⟨h1, trivial⟩ ?_
     refine xe_then ?_
     refine x_true rfl ?_
     refine x_skip ?_
     refine xe_then ?_
     refine x_seq ?_
     refine x_block ?_
     refine x_reg [(6, .call [(true, agFeat (at_ al i.toNat))] true (agFeat (at_ al i.toNat)))] [0, 3, 4] [7] [slFeat false al, .arr 7, I i] [some (.arr 3 zs.length (fun q => bif Nat.beq q i.toNat then [I ((at_ al i.toNat).X), I ((at_ al i.toNat).Y), I ((at_ al i.toNat).D)] else (fFeat zs) q))] [(0 : Int) ≤ i ∧ i < (al.length : Int), Con Try.prog 93 [agFeat (at_ al i.toNat)] true (agFeat (at_ al i.toNat)) ∧ ((agFeat (at_ al i.toNat) : AV) = agFeat (at_ al i.toNat)) ∧ True, (0 : Int) ≤ i ∧ i < (zs.length : Int), i.toNat < zs.length] (by kernel_rfl) ⟨⟨(by omega), (by omega)⟩, ⟨(toFeat_ok (at_ al i.toNat)), rfl, trivial⟩, ⟨(by omega), (by omega)⟩, (by omega), trivial⟩ ?_
     refine xe_block 1 ?_
     refine xe_then ?_
     refine x_reg [] [0, 3, 4] [7] [slFeat false al, .arr 7, I (i + 1)] [some (.arr 3 zs.length (fun q => bif Nat.beq q i.toNat then [I ((at_ al i.toNat).X), I ((at_ al i.toNat).Y), I ((at_ al i.toNat).D)] else (fFeat zs) q))] [inR .i64 (i + 1)] (by kernel_rfl) ⟨(inR_i64 (by omega) (by omega)), trivial⟩ ?_
     refine xe_weak [] (T := [(0, slFeat false al), (3, .arr 7), (4, I (i + 1))]) (O := [(7, .arr 3 ((zs.set i.toNat (at_ al i.toNat)).length) (fFeat (zs.set i.toNat (at_ al i.toNat))))]) rfl (⟨.inl rfl, .inl rfl, .inl rfl, trivial⟩) (⟨.inr ⟨rfl, (by first | rfl | (simp; done) | (simp; omega) | omega), fun i_ hi_ => .inl (upd_enc (enc := cFeat) rfl i_ hi_)⟩, trivial⟩) (xe_again ((i + 1), (zs.set i.toNat (at_ al i.toNat))) rfl (show (0 ≤ (i + 1) ∧ (i + 1) ≤ (al.length : Int)) ∧ ((zs.set i.toNat (at_ al i.toNat)).length = al.length) ∧ (∀ j : Nat, (j : Int) < (i + 1) → at_ (zs.set i.toNat (at_ al i.toNat)) j = at_ al j) ∧ True from ⟨(by omega), (by simp [hy0]), (by intro j hj; exact set_at hy0 hi hy1 j (by omega)), trivial⟩) (by show (((al.length : Int) - (i + 1)).toNat : Nat) < ((al.length : Int) - i).toNat; omega))
    ·refine x_reg [(3, .dec false)] [0, 3, 4, 11] [7] [slFeat false al, .arr 7, I i, Bv false] [some (.arr 3 zs.length (fFeat zs))] [¬ (i < (al.length : Int))] (by kernel_rfl) ⟨h1, trivial⟩ ?_
     refine xe_then ?_
     refine x_false rfl ?_
     refine x_exit ?_
     refine xe_exit_then ?_
     refine xe_loop_exit ?_
     refine xe_exit_same ?_
     refine xe_then ?_
     refine x_seq ?_
     refine x_reg [] [2] [7] [.arr 7] [some (.arr 3 zs.length (fFeat zs))] [] (by kernel_rfl) trivial ?_
     refine xe_then ?_
     refine x_ret ?_
     refine xe_weak [(8301, 7)] (T := [(2, .arr 8301)]) (O := [(8301, .arr 3 zs.length (fFeat zs))]) rfl (⟨.inl rfl, trivial⟩) (⟨.inl rfl, trivial⟩) ?_
     refine xe_end zs (show (zs = al) ∧ (True) from ⟨(by exact ext_at hy0 (fun j hj => hy1 j (by omega))), trivial⟩) (⟨.inl rfl, trivial⟩) (.arr 8301) (by kernel_rfl) (.inl rfl) (fun h => by cases h) (fun h => by cases h)
  obtain ⟨ys, ⟨hh0, _⟩, hc⟩ := hh
  exact ⟨ys, hh0, hc⟩


-- laws.toTrained
theorem toTrained_own (t : Trained) (hb : bulkFeatS t.Base ≤ 1048576 ∧ bulkFeatS t.Feats ≤ 1048576) : ∃ (bs : List Feat) (fs : List Feat), (bs = t.Base) ∧ (fs = t.Feats) ∧ CallOK Try.prog 13 [agTrained t] (lookO []) false (.agg [Sv t.Label, .arr 8303, .arr 8304, I t.Count]) (lookO [(8303, .arr 3 bs.length (fFeat bs)), (8304, .arr 3 fs.length (fFeat fs))]) := by
  have hh : ∃ r : (List Feat) × (List Feat), ((r.1 = t.Base) ∧ (r.2 = t.Feats) ∧ (True)) ∧ CallOK Try.prog 13 [agTrained t] (lookO []) false (.agg [Sv t.Label, .arr 8303, .arr 8304, I t.Count]) (lookO [(8303, .arr 3 r.1.length (fFeat r.1)), (8304, .arr 3 r.2.length (fFeat r.2))]) := by
    refine fn_okX (Φ := fun r : (List Feat) × (List Feat) => (r.1 = t.Base) ∧ (r.2 = t.Feats) ∧ (True)) [] (fun r => [(8303, .arr 3 r.1.length (fFeat r.1)), (8304, .arr 3 r.2.length (fFeat r.2))]) (fn := Try.f13) (nt := 19) Try.func13 rfl rfl (args := [agTrained t]) rfl (allcons (.inl ⟨rfl, by simp [tagged, taggedL, tagFeat]⟩) allnil) (res := fun r => .agg [Sv t.Label, .arr 8303, .arr 8304, I t.Count]) ?_
    refine x_seq ?_
    refine x_reg [(0, .new 1), (1, .new 2)] [1, 2] [1, 2] [.ref 1 0, .ref 2 0] [some (bxTrained t), some (.box [Sv (⟨#[]⟩ : ByteArray), nilA, nilA, I 0])] [] (by kernel_rfl) trivial ?_
    refine xe_then ?_
    refine x_seq ?_
    refine x_reg [(0, .new 3)] [1, 2, 3] [1, 2, 3] [.ref 1 0, .ref 2 0, .ref 3 0] [some (bxTrained t), some (.box [Sv (⟨#[]⟩ : ByteArray), nilA, nilA, I 0]), some (.box [Sv (⟨#[]⟩ : ByteArray), nilA, nilA, I 0])] [] (by kernel_rfl) trivial ?_
    refine xe_then ?_
    refine x_seq ?_
    refine x_reg [] [1, 2, 3] [1, 2, 3] [.ref 1 0, .ref 2 0, .ref 3 0] [some (bxTrained t), some (.box [Sv (⟨#[]⟩ : ByteArray), nilA, nilA, I 0]), some (.box [Sv t.Label, nilA, nilA, I 0])] [] (by kernel_rfl) trivial ?_
    refine xe_then ?_
    refine x_seq ?_
    obtain ⟨ys_1, hx1_0, hc1⟩ := toFeatS_own t.Base hb.1
    refine x_reg [(2, .lend [] [(8301, .arr 3 ys_1.length (fFeat ys_1))] [(true, slFeat false t.Base)] false (.arr 8301))] [1, 2, 3] [1, 2, 3, 8301] [.ref 1 0, .ref 2 0, .ref 3 0] [some (bxTrained t), some (.box [Sv (⟨#[]⟩ : ByteArray), nilA, nilA, I 0]), some (.box [Sv t.Label, .arr 8301, nilA, I 0]), some (.arr 3 ys_1.length (fFeat ys_1))] [CallOK Try.prog 49 [slFeat false t.Base] (lookO []) false (.arr 8301) (lookO [(8301, .arr 3 ys_1.length (fFeat ys_1))]) ∧ ((slFeat false t.Base : AV) = slFeat false t.Base) ∧ True] (by kernel_rfl) ⟨⟨hc1, rfl, trivial⟩, trivial⟩ ?_
    refine xe_then ?_
    refine x_seq ?_
    refine x_weak [(7901, 8301)] (T := [(1, .ref 1 0), (2, .ref 2 0), (3, .ref 3 0)]) (O := [(1, bxTrained t), (2, .box [Sv (⟨#[]⟩ : ByteArray), nilA, nilA, I 0]), (3, .box [Sv t.Label, .arr 7901, nilA, I 0]), (7901, .arr 3 ys_1.length (fFeat ys_1))]) rfl (⟨.inl rfl, .inl rfl, .inl rfl, trivial⟩) (⟨.inl rfl, .inl rfl, .inl rfl, .inl rfl, trivial⟩) ?_
    obtain ⟨ys_2, hx2_0, hc2⟩ := toFeatS_own t.Feats hb.2
    refine x_reg [(2, .lend [] [(8301, .arr 3 ys_2.length (fFeat ys_2))] [(true, slFeat false t.Feats)] false (.arr 8301))] [1, 2, 3] [1, 2, 3, 7901, 8301] [.ref 1 0, .ref 2 0, .ref 3 0] [some (bxTrained t), some (.box [Sv (⟨#[]⟩ : ByteArray), nilA, nilA, I 0]), some (.box [Sv t.Label, .arr 7901, .arr 8301, I 0]), some (.arr 3 ys_1.length (fFeat ys_1)), some (.arr 3 ys_2.length (fFeat ys_2))] [CallOK Try.prog 49 [slFeat false t.Feats] (lookO []) false (.arr 8301) (lookO [(8301, .arr 3 ys_2.length (fFeat ys_2))]) ∧ ((slFeat false t.Feats : AV) = slFeat false t.Feats) ∧ True] (by kernel_rfl) ⟨⟨hc2, rfl, trivial⟩, trivial⟩ ?_
    refine xe_then ?_
    refine x_seq ?_
    refine x_reg [] [2, 3] [2, 3, 7901, 8301] [.ref 2 0, .ref 3 0] [some (.box [Sv (⟨#[]⟩ : ByteArray), nilA, nilA, I 0]), some (.box [Sv t.Label, .arr 7901, .arr 8301, I t.Count]), some (.arr 3 ys_1.length (fFeat ys_1)), some (.arr 3 ys_2.length (fFeat ys_2))] [] (by kernel_rfl) trivial ?_
    refine xe_then ?_
    refine x_seq ?_
    refine x_reg [] [2] [2, 7901, 8301] [.ref 2 0] [some (.box [Sv t.Label, .arr 7901, .arr 8301, I t.Count]), some (.arr 3 ys_1.length (fFeat ys_1)), some (.arr 3 ys_2.length (fFeat ys_2))] [] (by kernel_rfl) trivial ?_
    refine xe_then ?_
    refine x_ret ?_
    refine xe_weak [(8303, 7901), (8304, 8301)] (T := [(2, .ref 2 0)]) (O := [(2, .box [Sv t.Label, .arr 8303, .arr 8304, I t.Count]), (8303, .arr 3 ys_1.length (fFeat ys_1)), (8304, .arr 3 ys_2.length (fFeat ys_2))]) rfl (⟨.inl rfl, trivial⟩) (⟨.inl rfl, .inl rfl, .inl rfl, trivial⟩) ?_
    refine xe_end (ys_1, ys_2) (show (ys_1 = t.Base) ∧ (ys_2 = t.Feats) ∧ (True) from ⟨(by assumption), (by assumption), trivial⟩) (⟨.inl rfl, .inl rfl, trivial⟩) (.agg [Sv t.Label, .arr 8303, .arr 8304, I t.Count]) (by kernel_rfl) (.inl rfl) (fun h => by cases h) (fun h => by cases h)
  obtain ⟨⟨bs, fs⟩, ⟨hh0, hh1, _⟩, hc⟩ := hh
  exact ⟨bs, fs, hh0, hh1, hc⟩


-- spec.l01Small
theorem l01Small_ok (c : Int) : Con Try.prog 161 [.val (.int .u8 c)] true (Bv (inB c 97 122)) := by
  refine fn_ok (fn := Try.f161) (nt := 9) Try.func161 rfl rfl rfl rfl (by simp [taggedL, tagged]) fun B hB => ?_
  refine aw_seq ?_
  refine aw_reg [] [0] [] [.val (.int .u8 c)] [] [] (by kernel_rfl) hB trivial ?_
  refine ae_then ?_
  refine aw_seq ?_
  by_cases h1 : 97 ≤ c
  ·refine aw_reg [(1, .dec true)] [2] [] [Bv (decide (c ≤ 122))] [] [97 ≤ c] (by kernel_rfl) hB ⟨h1, trivial⟩ ?_
   refine ae_then ?_
   refine aw_ret ?_
   refine ae_ret hB (Bv (decide (c ≤ 122))) (by kernel_rfl) (.inl (by first | rfl | (refine congrArg Bv ?_; simp [inB, *]; done) | (refine congrArg Bv ?_; simp [inB, *]; omega) | (refine congrArg Bv ?_; simp_all [inB]; done) | (refine congrArg Bv ?_; simp_all [inB]; omega))) rfl (fun _ => trivial)
  ·refine aw_reg [(1, .dec false)] [2] [] [Bv false] [] [¬ (97 ≤ c)] (by kernel_rfl) hB ⟨h1, trivial⟩ ?_
   refine ae_then ?_
   refine aw_ret ?_
   refine ae_ret hB (Bv false) (by kernel_rfl) (.inl (by first | rfl | (refine congrArg Bv ?_; simp [inB, *]; done) | (refine congrArg Bv ?_; simp [inB, *]; omega) | (refine congrArg Bv ?_; simp_all [inB]; done) | (refine congrArg Bv ?_; simp_all [inB]; omega))) rfl (fun _ => trivial)


-- spec.l11Label
theorem l11Label_ok (c : Int) : Con Try.prog 136 [.val (.int .u8 c)] true (Bv (labB c)) := by
  refine fn_ok (fn := Try.f136) (nt := 24) Try.func136 rfl rfl rfl rfl (by simp [taggedL, tagged]) fun B hB => ?_
  refine aw_seq ?_
  refine aw_reg [] [0] [] [.val (.int .u8 c)] [] [] (by kernel_rfl) hB trivial ?_
  refine ae_then ?_
  refine aw_seq ?_
  refine aw_seq ?_
  refine aw_reg [] [0, 3] [] [.val (.int .u8 c), .val (.int .u8 c)] [] [] (by kernel_rfl) hB trivial ?_
  refine ae_then ?_
  refine aw_block ?_
  refine aw_seq ?_
  refine aw_seq ?_
  by_cases h1 : c = 43
  ·refine aw_reg [(0, .dec true)] [0, 3, 4] [] [.val (.int .u8 c), .val (.int .u8 c), Bv true] [] [c = 43] (by kernel_rfl) hB ⟨h1, trivial⟩ ?_
   refine ae_then ?_
   refine aw_true rfl ?_
   refine aw_skip ?_
   refine ae_then ?_
   refine aw_true rfl ?_
   refine aw_seq ?_
   refine aw_reg [] [2] [] [Bv true] [] [] (by kernel_rfl) hB trivial ?_
   refine ae_then ?_
   refine aw_ret ?_
   refine ae_ret_block (ae_ret_then ?_)
   refine ae_ret hB (Bv true) (by kernel_rfl) (.inl (by first | rfl | (refine congrArg Bv ?_; simp [labB, inB, *]; done) | (refine congrArg Bv ?_; simp [labB, inB, *]; omega) | (refine congrArg Bv ?_; simp_all [labB, inB]; done) | (refine congrArg Bv ?_; simp_all [labB, inB]; omega))) rfl (fun _ => trivial)
  ·refine aw_reg [(0, .dec false)] [0, 3, 4] [] [.val (.int .u8 c), .val (.int .u8 c), Bv false] [] [¬ (c = 43)] (by kernel_rfl) hB ⟨h1, trivial⟩ ?_
   refine ae_then ?_
   refine aw_false rfl ?_
   refine aw_seq ?_
   by_cases h2 : c = 45
   ·refine aw_reg [(0, .dec true)] [0, 3, 4] [] [.val (.int .u8 c), .val (.int .u8 c), Bv true] [] [c = 45] (by kernel_rfl) hB ⟨h2, trivial⟩ ?_
    refine ae_then ?_
    refine aw_true rfl ?_
    refine aw_skip ?_
    refine ae_then ?_
    refine aw_true rfl ?_
    refine aw_seq ?_
    refine aw_reg [] [2] [] [Bv true] [] [] (by kernel_rfl) hB trivial ?_
    refine ae_then ?_
    refine aw_ret ?_
    refine ae_ret_block (ae_ret_then ?_)
    refine ae_ret hB (Bv true) (by kernel_rfl) (.inl (by first | rfl | (refine congrArg Bv ?_; simp [labB, inB, *]; done) | (refine congrArg Bv ?_; simp [labB, inB, *]; omega) | (refine congrArg Bv ?_; simp_all [labB, inB]; done) | (refine congrArg Bv ?_; simp_all [labB, inB]; omega))) rfl (fun _ => trivial)
   ·refine aw_reg [(0, .dec false)] [0, 3, 4] [] [.val (.int .u8 c), .val (.int .u8 c), Bv false] [] [¬ (c = 45)] (by kernel_rfl) hB ⟨h2, trivial⟩ ?_
    refine ae_then ?_
    refine aw_false rfl ?_
    refine aw_seq ?_
    by_cases h3 : c = 42
    ·refine aw_reg [(0, .dec true)] [0, 3, 4] [] [.val (.int .u8 c), .val (.int .u8 c), Bv true] [] [c = 42] (by kernel_rfl) hB ⟨h3, trivial⟩ ?_
     refine ae_then ?_
     refine aw_true rfl ?_
     refine aw_skip ?_
     refine ae_then ?_
     refine aw_true rfl ?_
     refine aw_seq ?_
     refine aw_reg [] [2] [] [Bv true] [] [] (by kernel_rfl) hB trivial ?_
     refine ae_then ?_
     refine aw_ret ?_
     refine ae_ret_block (ae_ret_then ?_)
     refine ae_ret hB (Bv true) (by kernel_rfl) (.inl (by first | rfl | (refine congrArg Bv ?_; simp [labB, inB, *]; done) | (refine congrArg Bv ?_; simp [labB, inB, *]; omega) | (refine congrArg Bv ?_; simp_all [labB, inB]; done) | (refine congrArg Bv ?_; simp_all [labB, inB]; omega))) rfl (fun _ => trivial)
    ·refine aw_reg [(0, .dec false)] [0, 3, 4] [] [.val (.int .u8 c), .val (.int .u8 c), Bv false] [] [¬ (c = 42)] (by kernel_rfl) hB ⟨h3, trivial⟩ ?_
     refine ae_then ?_
     refine aw_false rfl ?_
     refine aw_seq ?_
     by_cases h4 : c = 47
     ·refine aw_reg [(0, .dec true)] [0, 3, 4] [] [.val (.int .u8 c), .val (.int .u8 c), Bv true] [] [c = 47] (by kernel_rfl) hB ⟨h4, trivial⟩ ?_
      refine ae_then ?_
      refine aw_true rfl ?_
      refine aw_skip ?_
      refine ae_then ?_
      refine aw_true rfl ?_
      refine aw_seq ?_
      refine aw_reg [] [2] [] [Bv true] [] [] (by kernel_rfl) hB trivial ?_
      refine ae_then ?_
      refine aw_ret ?_
      refine ae_ret_block (ae_ret_then ?_)
      refine ae_ret hB (Bv true) (by kernel_rfl) (.inl (by first | rfl | (refine congrArg Bv ?_; simp [labB, inB, *]; done) | (refine congrArg Bv ?_; simp [labB, inB, *]; omega) | (refine congrArg Bv ?_; simp_all [labB, inB]; done) | (refine congrArg Bv ?_; simp_all [labB, inB]; omega))) rfl (fun _ => trivial)
     ·refine aw_reg [(0, .dec false)] [0, 3, 4] [] [.val (.int .u8 c), .val (.int .u8 c), Bv false] [] [¬ (c = 47)] (by kernel_rfl) hB ⟨h4, trivial⟩ ?_
      refine ae_then ?_
      refine aw_false rfl ?_
      refine aw_seq ?_
      by_cases h5 : c = 61
      ·refine aw_reg [(0, .dec true)] [0, 3, 4] [] [.val (.int .u8 c), .val (.int .u8 c), Bv true] [] [c = 61] (by kernel_rfl) hB ⟨h5, trivial⟩ ?_
       refine ae_then ?_
       refine aw_true rfl ?_
       refine aw_skip ?_
       refine ae_then ?_
       refine aw_true rfl ?_
       refine aw_seq ?_
       refine aw_reg [] [2] [] [Bv true] [] [] (by kernel_rfl) hB trivial ?_
       refine ae_then ?_
       refine aw_ret ?_
       refine ae_ret_block (ae_ret_then ?_)
       refine ae_ret hB (Bv true) (by kernel_rfl) (.inl (by first | rfl | (refine congrArg Bv ?_; simp [labB, inB, *]; done) | (refine congrArg Bv ?_; simp [labB, inB, *]; omega) | (refine congrArg Bv ?_; simp_all [labB, inB]; done) | (refine congrArg Bv ?_; simp_all [labB, inB]; omega))) rfl (fun _ => trivial)
      ·refine aw_reg [(0, .dec false)] [0, 3, 4] [] [.val (.int .u8 c), .val (.int .u8 c), Bv false] [] [¬ (c = 61)] (by kernel_rfl) hB ⟨h5, trivial⟩ ?_
       refine ae_then ?_
       refine aw_false rfl ?_
       refine aw_seq ?_
       by_cases h6 : c = 40
       ·refine aw_reg [(0, .dec true)] [0, 3, 4] [] [.val (.int .u8 c), .val (.int .u8 c), Bv true] [] [c = 40] (by kernel_rfl) hB ⟨h6, trivial⟩ ?_
        refine ae_then ?_
        refine aw_true rfl ?_
        refine aw_skip ?_
        refine ae_then ?_
        refine aw_true rfl ?_
        refine aw_seq ?_
        refine aw_reg [] [2] [] [Bv true] [] [] (by kernel_rfl) hB trivial ?_
        refine ae_then ?_
        refine aw_ret ?_
        refine ae_ret_block (ae_ret_then ?_)
        refine ae_ret hB (Bv true) (by kernel_rfl) (.inl (by first | rfl | (refine congrArg Bv ?_; simp [labB, inB, *]; done) | (refine congrArg Bv ?_; simp [labB, inB, *]; omega) | (refine congrArg Bv ?_; simp_all [labB, inB]; done) | (refine congrArg Bv ?_; simp_all [labB, inB]; omega))) rfl (fun _ => trivial)
       ·refine aw_reg [(0, .dec false)] [0, 3, 4] [] [.val (.int .u8 c), .val (.int .u8 c), Bv false] [] [¬ (c = 40)] (by kernel_rfl) hB ⟨h6, trivial⟩ ?_
        refine ae_then ?_
        refine aw_false rfl ?_
        refine aw_seq ?_
        by_cases h7 : c = 41
        ·refine aw_reg [(0, .dec true)] [0, 3, 4] [] [.val (.int .u8 c), .val (.int .u8 c), Bv true] [] [c = 41] (by kernel_rfl) hB ⟨h7, trivial⟩ ?_
         refine ae_then ?_
         refine aw_true rfl ?_
         refine aw_skip ?_
         refine ae_then ?_
         refine aw_true rfl ?_
         refine aw_seq ?_
         refine aw_reg [] [2] [] [Bv true] [] [] (by kernel_rfl) hB trivial ?_
         refine ae_then ?_
         refine aw_ret ?_
         refine ae_ret_block (ae_ret_then ?_)
         refine ae_ret hB (Bv true) (by kernel_rfl) (.inl (by first | rfl | (refine congrArg Bv ?_; simp [labB, inB, *]; done) | (refine congrArg Bv ?_; simp [labB, inB, *]; omega) | (refine congrArg Bv ?_; simp_all [labB, inB]; done) | (refine congrArg Bv ?_; simp_all [labB, inB]; omega))) rfl (fun _ => trivial)
        ·refine aw_reg [(0, .dec false)] [0, 3, 4] [] [.val (.int .u8 c), .val (.int .u8 c), Bv false] [] [¬ (c = 41)] (by kernel_rfl) hB ⟨h7, trivial⟩ ?_
         refine ae_then ?_
         refine aw_false rfl ?_
         refine aw_seq ?_
         by_cases h8 : c = 46
         ·refine aw_reg [(0, .dec true)] [0, 3, 4] [] [.val (.int .u8 c), .val (.int .u8 c), Bv true] [] [c = 46] (by kernel_rfl) hB ⟨h8, trivial⟩ ?_
          refine ae_then ?_
          refine aw_true rfl ?_
          refine aw_skip ?_
          refine ae_then ?_
          refine aw_true rfl ?_
          refine aw_seq ?_
          refine aw_reg [] [2] [] [Bv true] [] [] (by kernel_rfl) hB trivial ?_
          refine ae_then ?_
          refine aw_ret ?_
          refine ae_ret_block (ae_ret_then ?_)
          refine ae_ret hB (Bv true) (by kernel_rfl) (.inl (by first | rfl | (refine congrArg Bv ?_; simp [labB, inB, *]; done) | (refine congrArg Bv ?_; simp [labB, inB, *]; omega) | (refine congrArg Bv ?_; simp_all [labB, inB]; done) | (refine congrArg Bv ?_; simp_all [labB, inB]; omega))) rfl (fun _ => trivial)
         ·refine aw_reg [(0, .dec false)] [0, 3, 4] [] [.val (.int .u8 c), .val (.int .u8 c), Bv false] [] [¬ (c = 46)] (by kernel_rfl) hB ⟨h8, trivial⟩ ?_
          refine ae_then ?_
          refine aw_false rfl ?_
          by_cases h9 : c = 44
          ·refine aw_reg [(0, .dec true)] [0, 4] [] [.val (.int .u8 c), Bv true] [] [c = 44] (by kernel_rfl) hB ⟨h9, trivial⟩ ?_
           refine ae_then ?_
           refine aw_true rfl ?_
           refine aw_seq ?_
           refine aw_reg [] [2] [] [Bv true] [] [] (by kernel_rfl) hB trivial ?_
           refine ae_then ?_
           refine aw_ret ?_
           refine ae_ret_block (ae_ret_then ?_)
           refine ae_ret hB (Bv true) (by kernel_rfl) (.inl (by first | rfl | (refine congrArg Bv ?_; simp [labB, inB, *]; done) | (refine congrArg Bv ?_; simp [labB, inB, *]; omega) | (refine congrArg Bv ?_; simp_all [labB, inB]; done) | (refine congrArg Bv ?_; simp_all [labB, inB]; omega))) rfl (fun _ => trivial)
          ·refine aw_reg [(0, .dec false)] [0, 4] [] [.val (.int .u8 c), Bv false] [] [¬ (c = 44)] (by kernel_rfl) hB ⟨h9, trivial⟩ ?_
           refine ae_then ?_
           refine aw_false rfl ?_
           refine aw_skip ?_
           refine ae_block 0 ?_
           refine ae_then ?_
           refine aw_seq ?_
           rcases Bool.eq_false_or_eq_true (inB c 97 122) with h10 | h10
           ·refine aw_reg [(1, .call [(true, .val (.int .u8 c))] true (Bv true))] [2] [] [Bv true] [] [Con Try.prog 161 [.val (.int .u8 c)] true (Bv true) ∧ ((.val (.int .u8 c) : AV) = .val (.int .u8 c)) ∧ True] (by kernel_rfl) hB ⟨⟨(con_bool h10 (l01Small_ok c)), rfl, trivial⟩, trivial⟩ ?_
            refine ae_then ?_
            refine aw_ret ?_
            refine ae_ret hB (Bv true) (by kernel_rfl) (.inl (by first | rfl | (refine congrArg Bv ?_; simp [labB, inB, *]; done) | (refine congrArg Bv ?_; simp [labB, inB, *]; omega) | (refine congrArg Bv ?_; simp_all [labB, inB]; done) | (refine congrArg Bv ?_; simp_all [labB, inB]; omega))) rfl (fun _ => trivial)
           ·by_cases h11 : 48 ≤ c
            ·refine aw_reg [(1, .call [(true, .val (.int .u8 c))] true (Bv false)), (4, .dec true)] [2] [] [Bv (decide (c ≤ 57))] [] [Con Try.prog 161 [.val (.int .u8 c)] true (Bv false) ∧ ((.val (.int .u8 c) : AV) = .val (.int .u8 c)) ∧ True, 48 ≤ c] (by kernel_rfl) hB ⟨⟨(con_bool h10 (l01Small_ok c)), rfl, trivial⟩, h11, trivial⟩ ?_
             refine ae_then ?_
             refine aw_ret ?_
             refine ae_ret hB (Bv (decide (c ≤ 57))) (by kernel_rfl) (.inl (by first | rfl | (refine congrArg Bv ?_; simp [labB, inB, *]; done) | (refine congrArg Bv ?_; simp [labB, inB, *]; omega) | (refine congrArg Bv ?_; simp_all [labB, inB]; done) | (refine congrArg Bv ?_; simp_all [labB, inB]; omega))) rfl (fun _ => trivial)
            ·refine aw_reg [(1, .call [(true, .val (.int .u8 c))] true (Bv false)), (4, .dec false)] [2] [] [Bv false] [] [Con Try.prog 161 [.val (.int .u8 c)] true (Bv false) ∧ ((.val (.int .u8 c) : AV) = .val (.int .u8 c)) ∧ True, ¬ (48 ≤ c)] (by kernel_rfl) hB ⟨⟨(con_bool h10 (l01Small_ok c)), rfl, trivial⟩, h11, trivial⟩ ?_
             refine ae_then ?_
             refine aw_ret ?_
             refine ae_ret hB (Bv false) (by kernel_rfl) (.inl (by first | rfl | (refine congrArg Bv ?_; simp [labB, inB, *]; done) | (refine congrArg Bv ?_; simp [labB, inB, *]; omega) | (refine congrArg Bv ?_; simp_all [labB, inB]; done) | (refine congrArg Bv ?_; simp_all [labB, inB]; omega))) rfl (fun _ => trivial)


-- spec.IsLabel
theorem specIsLabel_ok (s : ByteArray) (ok : s.size ≤ 9223372036854775807) : Con Try.prog 98 [Sv s] true (Bv (okLabel s)) := by
  refine fn_ok (fn := Try.f98) (nt := 11) Try.func98 rfl rfl rfl rfl (by simp [taggedL, tagged]) fun B hB => ?_
  refine aw_seq ?_
  refine aw_reg [] [0] [] [Sv s] [] [] (by kernel_rfl) hB trivial ?_
  refine ae_then ?_
  refine aw_seq ?_
  by_cases h1 : (s.size : Int) = 1
  ·refine aw_reg [(2, .dec true), (6, .call [(true, .val (.int .u8 (bAt s 0)))] true (Bv (labB (bAt s 0))))] [2] [] [Bv (labB (bAt s 0))] [] [(s.size : Int) = 1, (0 : Int) ≤ 0 ∧ 0 < (s.size : Int), Con Try.prog 136 [.val (.int .u8 (bAt s 0))] true (Bv (labB (bAt s 0))) ∧ ((.val (.int .u8 (bAt s 0)) : AV) = .val (.int .u8 (bAt s 0))) ∧ True] (by kernel_rfl) hB ⟨h1, ⟨(by omega), (by omega)⟩, ⟨(l11Label_ok (bAt s 0)), rfl, trivial⟩, trivial⟩ ?_
   refine ae_then ?_
   refine aw_ret ?_
   refine ae_ret hB (Bv (labB (bAt s 0))) (by kernel_rfl) (.inl (by first | rfl | (refine congrArg Bv ?_; simp [okLabel, *]; done) | (refine congrArg Bv ?_; simp [okLabel, *]; omega) | (refine congrArg Bv ?_; simp_all [okLabel]; done) | (refine congrArg Bv ?_; simp_all [okLabel]; omega))) rfl (fun _ => trivial)
  ·refine aw_reg [(2, .dec false)] [2] [] [Bv false] [] [¬ ((s.size : Int) = 1)] (by kernel_rfl) hB ⟨h1, trivial⟩ ?_
   refine ae_then ?_
   refine aw_ret ?_
   refine ae_ret hB (Bv false) (by kernel_rfl) (.inl (by first | rfl | (refine congrArg Bv ?_; simp [okLabel, *]; done) | (refine congrArg Bv ?_; simp [okLabel, *]; omega) | (refine congrArg Bv ?_; simp_all [okLabel]; done) | (refine congrArg Bv ?_; simp_all [okLabel]; omega))) rfl (fun _ => trivial)


-- spec.l00In
theorem l00In_ok (n : Int) (low : Int) (high : Int) : Con Try.prog 90 [I n, I low, I high] true (Bv (inB n low high)) := by
  refine fn_ok (fn := Try.f90) (nt := 15) Try.func90 rfl rfl rfl rfl (by simp [taggedL, tagged]) fun B hB => ?_
  refine aw_seq ?_
  refine aw_reg [] [0, 1, 2] [] [I n, I low, I high] [] [] (by kernel_rfl) hB trivial ?_
  refine ae_then ?_
  refine aw_seq ?_
  by_cases h1 : low ≤ n
  ·refine aw_reg [(2, .dec true)] [6] [] [Bv (decide (n ≤ high))] [] [low ≤ n] (by kernel_rfl) hB ⟨h1, trivial⟩ ?_
   refine ae_then ?_
   refine aw_ret ?_
   refine ae_ret hB (Bv (decide (n ≤ high))) (by kernel_rfl) (.inl (by first | rfl | (refine congrArg Bv ?_; simp [inB, *]; done) | (refine congrArg Bv ?_; simp [inB, *]; omega) | (refine congrArg Bv ?_; simp_all [inB]; done) | (refine congrArg Bv ?_; simp_all [inB]; omega))) rfl (fun _ => trivial)
  ·refine aw_reg [(2, .dec false)] [6] [] [Bv false] [] [¬ (low ≤ n)] (by kernel_rfl) hB ⟨h1, trivial⟩ ?_
   refine ae_then ?_
   refine aw_ret ?_
   refine ae_ret hB (Bv false) (by kernel_rfl) (.inl (by first | rfl | (refine congrArg Bv ?_; simp [inB, *]; done) | (refine congrArg Bv ?_; simp [inB, *]; omega) | (refine congrArg Bv ?_; simp_all [inB]; done) | (refine congrArg Bv ?_; simp_all [inB]; omega))) rfl (fun _ => trivial)


-- spec.l09Feat
theorem l09Feat_ok (f : Feat) : Con Try.prog 128 [agFeat f] true (Bv (okF f)) := by
  refine fn_ok (fn := Try.f128) (nt := 16) Try.func128 rfl rfl rfl rfl (by simp [taggedL, tagged]) fun B hB => ?_
  refine aw_seq ?_
  refine aw_reg [(0, .new 1)] [1] [1] [.ref 1 0] [some (bxFeat f)] [] (by kernel_rfl) hB trivial ?_
  refine ae_then ?_
  refine aw_seq ?_
  rcases Bool.eq_false_or_eq_true (inB f.X 0 255) with h1 | h1
  ·rcases Bool.eq_false_or_eq_true (inB f.Y 0 255) with h2 | h2
   ·refine aw_reg [(2, .call [(true, I f.X), (true, I 0), (true, I 255)] true (Bv true)), (6, .call [(true, I f.Y), (true, I 0), (true, I 255)] true (Bv true)), (11, .call [(true, I f.D), (true, I 0), (true, I 7)] true (Bv (inB f.D 0 7)))] [2] [] [Bv (inB f.D 0 7)] [] [Con Try.prog 90 [I f.X, I 0, I 255] true (Bv true) ∧ ((I f.X : AV) = I f.X) ∧ ((I 0 : AV) = I 0) ∧ ((I 255 : AV) = I 255) ∧ True, Con Try.prog 90 [I f.Y, I 0, I 255] true (Bv true) ∧ ((I f.Y : AV) = I f.Y) ∧ ((I 0 : AV) = I 0) ∧ ((I 255 : AV) = I 255) ∧ True, Con Try.prog 90 [I f.D, I 0, I 7] true (Bv (inB f.D 0 7)) ∧ ((I f.D : AV) = I f.D) ∧ ((I 0 : AV) = I 0) ∧ ((I 7 : AV) = I 7) ∧ True] (by kernel_rfl) hB ⟨⟨(con_bool h1 (l00In_ok f.X 0 255)), rfl, rfl, rfl, trivial⟩, ⟨(con_bool h2 (l00In_ok f.Y 0 255)), rfl, rfl, rfl, trivial⟩, ⟨(l00In_ok f.D 0 7), rfl, rfl, rfl, trivial⟩, trivial⟩ ?_
    refine ae_then ?_
    refine aw_ret ?_
    refine ae_ret hB (Bv (inB f.D 0 7)) (by kernel_rfl) (.inl (by first | rfl | (refine congrArg Bv ?_; simp [okF, *]; done) | (refine congrArg Bv ?_; simp [okF, *]; omega) | (refine congrArg Bv ?_; simp_all [okF]; done) | (refine congrArg Bv ?_; simp_all [okF]; omega))) rfl (fun _ => trivial)
   ·refine aw_reg [(2, .call [(true, I f.X), (true, I 0), (true, I 255)] true (Bv true)), (6, .call [(true, I f.Y), (true, I 0), (true, I 255)] true (Bv false))] [2] [] [Bv false] [] [Con Try.prog 90 [I f.X, I 0, I 255] true (Bv true) ∧ ((I f.X : AV) = I f.X) ∧ ((I 0 : AV) = I 0) ∧ ((I 255 : AV) = I 255) ∧ True, Con Try.prog 90 [I f.Y, I 0, I 255] true (Bv false) ∧ ((I f.Y : AV) = I f.Y) ∧ ((I 0 : AV) = I 0) ∧ ((I 255 : AV) = I 255) ∧ True] (by kernel_rfl) hB ⟨⟨(con_bool h1 (l00In_ok f.X 0 255)), rfl, rfl, rfl, trivial⟩, ⟨(con_bool h2 (l00In_ok f.Y 0 255)), rfl, rfl, rfl, trivial⟩, trivial⟩ ?_
    refine ae_then ?_
    refine aw_ret ?_
    refine ae_ret hB (Bv false) (by kernel_rfl) (.inl (by first | rfl | (refine congrArg Bv ?_; simp [okF, *]; done) | (refine congrArg Bv ?_; simp [okF, *]; omega) | (refine congrArg Bv ?_; simp_all [okF]; done) | (refine congrArg Bv ?_; simp_all [okF]; omega))) rfl (fun _ => trivial)
  ·refine aw_reg [(2, .call [(true, I f.X), (true, I 0), (true, I 255)] true (Bv false))] [2] [] [Bv false] [] [Con Try.prog 90 [I f.X, I 0, I 255] true (Bv false) ∧ ((I f.X : AV) = I f.X) ∧ ((I 0 : AV) = I 0) ∧ ((I 255 : AV) = I 255) ∧ True] (by kernel_rfl) hB ⟨⟨(con_bool h1 (l00In_ok f.X 0 255)), rfl, rfl, rfl, trivial⟩, trivial⟩ ?_
   refine ae_then ?_
   refine aw_ret ?_
   refine ae_ret hB (Bv false) (by kernel_rfl) (.inl (by first | rfl | (refine congrArg Bv ?_; simp [okF, *]; done) | (refine congrArg Bv ?_; simp [okF, *]; omega) | (refine congrArg Bv ?_; simp_all [okF]; done) | (refine congrArg Bv ?_; simp_all [okF]; omega))) rfl (fun _ => trivial)


-- spec.l09Ok
theorem l09Ok_ok (list : List Feat) : Con Try.prog 89 [slFeat false list] true (Bv (okFeats list 72)) := by
  refine fn_ok (fn := Try.f89) (nt := 19) Try.func89 rfl rfl rfl rfl (by simp [taggedL, tagged, tagFeat]) fun B hB => ?_
  refine aw_lens (x := slFeat false list) 0 rfl (fun len_list => ?_)
  simp [LenOK, LenL, cFeat, fFeat, slFeat] at len_list
  refine aw_seq ?_
  refine aw_reg [] [0] [] [slFeat false list] [] [] (by kernel_rfl) hB trivial ?_
  refine ae_then ?_
  refine aw_seq ?_
  refine aw_seq ?_
  refine aw_reg [] [0, 3] [] [slFeat false list, I 0] [] [] (by kernel_rfl) hB trivial ?_
  refine ae_then ?_
  refine aw_block ?_
  refine aw_loop (fun gn gσ => ∃ (i : Int), gn = ((list.length : Int) - i).toNat ∧ (0 ≤ i ∧ i ≤ (list.length : Int)) ∧ (∀ j : Nat, (j : Int) < i → okF (at_ list j) = true) ∧ gσ = mkS [(0, slFeat false list), (3, I i)] []) (((list.length : Int) - 0).toNat) ⟨0, rfl, (by omega), (by intro j hj; omega), rfl⟩ (fun gn gσ hI => ?_)
  obtain ⟨i, rfl, hi0, hall0, rfl⟩ := hI
  refine aw_seq ?_
  refine aw_seq ?_
  by_cases h1 : i < (list.length : Int)
  ·have hi : i.toNat < list.length := by omega
   refine aw_reg [(3, .dec true)] [0, 3, 7] [] [slFeat false list, I i, Bv true] [] [i < (list.length : Int)] (by kernel_rfl) hB ⟨h1, trivial⟩ ?_
   refine ae_then ?_
   refine aw_true rfl ?_
   refine aw_skip ?_
   refine ae_then ?_
   refine aw_seq ?_
   refine aw_block ?_
   refine aw_seq ?_
   rcases Bool.eq_false_or_eq_true (okF (at_ list i.toNat)) with h2 | h2
   ·refine aw_reg [(4, .call [(true, agFeat (at_ list i.toNat))] true (Bv true))] [0, 3, 15] [] [slFeat false list, I i, Bv false] [] [(0 : Int) ≤ i ∧ i < (list.length : Int), Con Try.prog 128 [agFeat (at_ list i.toNat)] true (Bv true) ∧ ((agFeat (at_ list i.toNat) : AV) = agFeat (at_ list i.toNat)) ∧ True] (by kernel_rfl) hB ⟨⟨(by omega), (by omega)⟩, ⟨(con_bool h2 (l09Feat_ok (at_ list i.toNat))), rfl, trivial⟩, trivial⟩ ?_
    refine ae_then ?_
    refine aw_false rfl ?_
    refine aw_skip ?_
    refine ae_block 1 ?_
    refine ae_then ?_
    refine aw_reg [] [0, 3] [] [slFeat false list, I (i + 1)] [] [inR .i64 (i + 1)] (by kernel_rfl) hB ⟨(inR_i64 (by omega) (by omega)), trivial⟩ ?_
    exact ae_again _ (by omega) ⟨(i + 1), rfl, (by omega), (by intro j hj; by_cases ej : j = i.toNat; (subst ej; first | assumption | exact hok); exact hall0 j (by omega)), rfl⟩
   ·have hall : allN list.length (fun j => okF (at_ list j)) = false := allN_not hi h2
    refine aw_reg [(4, .call [(true, agFeat (at_ list i.toNat))] true (Bv false))] [0, 3, 15] [] [slFeat false list, I i, Bv true] [] [(0 : Int) ≤ i ∧ i < (list.length : Int), Con Try.prog 128 [agFeat (at_ list i.toNat)] true (Bv false) ∧ ((agFeat (at_ list i.toNat) : AV) = agFeat (at_ list i.toNat)) ∧ True] (by kernel_rfl) hB ⟨⟨(by omega), (by omega)⟩, ⟨(con_bool h2 (l09Feat_ok (at_ list i.toNat))), rfl, trivial⟩, trivial⟩ ?_
    refine ae_then ?_
    refine aw_true rfl ?_
    refine aw_seq ?_
    refine aw_reg [] [2] [] [Bv false] [] [] (by kernel_rfl) hB trivial ?_
    refine ae_then ?_
    refine aw_ret ?_
    refine ae_ret_block (ae_ret_then (ae_ret_then (ae_ret_block (ae_ret_then ?_))))
    refine ae_ret hB (Bv false) (by kernel_rfl) (.inl (by first | rfl | (refine congrArg Bv ?_; simp [okFeats, inB, *]; done) | (refine congrArg Bv ?_; simp [okFeats, inB, *]; omega) | (refine congrArg Bv ?_; simp_all [okFeats, inB]; done) | (refine congrArg Bv ?_; simp_all [okFeats, inB]; omega))) rfl (fun _ => trivial)
  ·have hall : allN list.length (fun j => okF (at_ list j)) = true := allN_at (fun j hj => hall0 j (by omega))
   refine aw_reg [(3, .dec false)] [0, 3, 7] [] [slFeat false list, I i, Bv false] [] [¬ (i < (list.length : Int))] (by kernel_rfl) hB ⟨h1, trivial⟩ ?_
   refine ae_then ?_
   refine aw_false rfl ?_
   refine aw_exit ?_
   refine ae_exit_then ?_
   refine ae_exit_then ?_
   refine ae_exit_same ?_
   refine ae_then ?_
   refine aw_seq ?_
   refine aw_reg [(2, .call [(true, I (list.length : Int)), (true, I 1), (true, I 72)] true (Bv (inB (list.length : Int) 1 72)))] [2] [] [Bv (inB (list.length : Int) 1 72)] [] [Con Try.prog 90 [I (list.length : Int), I 1, I 72] true (Bv (inB (list.length : Int) 1 72)) ∧ ((I (list.length : Int) : AV) = I (list.length : Int)) ∧ ((I 1 : AV) = I 1) ∧ ((I 72 : AV) = I 72) ∧ True] (by kernel_rfl) hB ⟨⟨(l00In_ok (list.length : Int) 1 72), rfl, rfl, rfl, trivial⟩, trivial⟩ ?_
   refine ae_then ?_
   refine aw_ret ?_
   refine ae_ret hB (Bv (inB (list.length : Int) 1 72)) (by kernel_rfl) (.inl (by first | rfl | (refine congrArg Bv ?_; simp [okFeats, inB, *]; done) | (refine congrArg Bv ?_; simp [okFeats, inB, *]; omega) | (refine congrArg Bv ?_; simp_all [okFeats, inB]; done) | (refine congrArg Bv ?_; simp_all [okFeats, inB]; omega))) rfl (fun _ => trivial)


-- spec.l09Size
theorem l09Size_ok (n : Int) (hn : -9223372036854775807 ≤ n ∧ n ≤ 9223372036854775807) : Con Try.prog 55 [I n] true (I (n.natAbs : Int)) := by
  refine fn_ok (fn := Try.f55) (nt := 8) Try.func55 rfl rfl rfl rfl (by simp [taggedL, tagged]) fun B hB => ?_
  refine aw_seq ?_
  refine aw_reg [] [0] [] [I n] [] [] (by kernel_rfl) hB trivial ?_
  refine ae_then ?_
  refine aw_seq ?_
  refine aw_seq ?_
  by_cases h1 : n < 0
  ·refine aw_reg [(1, .dec true)] [0, 4] [] [I n, Bv true] [] [n < 0] (by kernel_rfl) hB ⟨h1, trivial⟩ ?_
   refine ae_then ?_
   refine aw_true rfl ?_
   refine aw_seq ?_
   refine aw_reg [] [2] [] [I (-n)] [] [inR .i64 (-n)] (by kernel_rfl) hB ⟨(inR_i64 (by omega) (by omega)), trivial⟩ ?_
   refine ae_then ?_
   refine aw_ret ?_
   refine ae_ret_then ?_
   refine ae_ret hB (I (-n)) (by kernel_rfl) (.inl (by refine congrArg I ?_; omega)) rfl (fun _ => trivial)
  ·refine aw_reg [(1, .dec false)] [0, 4] [] [I n, Bv false] [] [¬ (n < 0)] (by kernel_rfl) hB ⟨h1, trivial⟩ ?_
   refine ae_then ?_
   refine aw_false rfl ?_
   refine aw_skip ?_
   refine ae_then ?_
   refine aw_seq ?_
   refine aw_reg [] [2] [] [I n] [] [] (by kernel_rfl) hB trivial ?_
   refine ae_then ?_
   refine aw_ret ?_
   refine ae_ret hB (I n) (by kernel_rfl) (.inl (by refine congrArg I ?_; omega)) rfl (fun _ => trivial)


-- spec.l24Near
theorem l24Near_ok (a : Feat) (b : Feat) (ha : okF a = true) (hb : okF b = true) : Con Try.prog 99 [agFeat a, agFeat b] true (Bv (nearB a b)) := by
  have ha' := okF_iff.1 ha
  have hb' := okF_iff.1 hb
  refine fn_ok (fn := Try.f99) (nt := 28) Try.func99 rfl rfl rfl rfl (by simp [taggedL, tagged]) fun B hB => ?_
  refine aw_seq ?_
  refine aw_reg [(0, .new 2), (1, .new 3)] [2, 3] [2, 3] [.ref 2 0, .ref 3 0] [some (bxFeat a), some (bxFeat b)] [] (by kernel_rfl) hB trivial ?_
  refine ae_then ?_
  refine aw_seq ?_
  by_cases h1 : a.D = b.D
  ·by_cases h2 : ((a.X - b.X).natAbs : Int) ≤ 40
   ·refine aw_reg [(4, .dec true), (11, .call [(true, I (a.X - b.X))] true (I ((a.X - b.X).natAbs : Int))), (12, .dec true), (20, .call [(true, I (a.Y - b.Y))] true (I ((a.Y - b.Y).natAbs : Int)))] [4] [] [Bv (decide (((a.Y - b.Y).natAbs : Int) ≤ 40))] [] [a.D = b.D, inR .i64 (a.X - b.X), Con Try.prog 55 [I (a.X - b.X)] true (I ((a.X - b.X).natAbs : Int)) ∧ ((I (a.X - b.X) : AV) = I (a.X - b.X)) ∧ True, ((a.X - b.X).natAbs : Int) ≤ 40, inR .i64 (a.Y - b.Y), Con Try.prog 55 [I (a.Y - b.Y)] true (I ((a.Y - b.Y).natAbs : Int)) ∧ ((I (a.Y - b.Y) : AV) = I (a.Y - b.Y)) ∧ True] (by kernel_rfl) hB ⟨h1, (inR_i64 (by omega) (by omega)), ⟨(l09Size_ok (a.X - b.X) (by omega)), rfl, trivial⟩, h2, (inR_i64 (by omega) (by omega)), ⟨(l09Size_ok (a.Y - b.Y) (by omega)), rfl, trivial⟩, trivial⟩ ?_
    refine ae_then ?_
    refine aw_ret ?_
    refine ae_ret hB (Bv (decide (((a.Y - b.Y).natAbs : Int) ≤ 40))) (by kernel_rfl) (.inl (by first | rfl | (refine congrArg Bv ?_; simp [nearB, *]; done) | (refine congrArg Bv ?_; simp [nearB, *]; omega) | (refine congrArg Bv ?_; simp_all [nearB]; done) | (refine congrArg Bv ?_; simp_all [nearB]; omega))) rfl (fun _ => trivial)
   ·refine aw_reg [(4, .dec true), (11, .call [(true, I (a.X - b.X))] true (I ((a.X - b.X).natAbs : Int))), (12, .dec false)] [4] [] [Bv false] [] [a.D = b.D, inR .i64 (a.X - b.X), Con Try.prog 55 [I (a.X - b.X)] true (I ((a.X - b.X).natAbs : Int)) ∧ ((I (a.X - b.X) : AV) = I (a.X - b.X)) ∧ True, ¬ (((a.X - b.X).natAbs : Int) ≤ 40)] (by kernel_rfl) hB ⟨h1, (inR_i64 (by omega) (by omega)), ⟨(l09Size_ok (a.X - b.X) (by omega)), rfl, trivial⟩, h2, trivial⟩ ?_
    refine ae_then ?_
    refine aw_ret ?_
    refine ae_ret hB (Bv false) (by kernel_rfl) (.inl (by first | rfl | (refine congrArg Bv ?_; simp [nearB, *]; done) | (refine congrArg Bv ?_; simp [nearB, *]; omega) | (refine congrArg Bv ?_; simp_all [nearB]; done) | (refine congrArg Bv ?_; simp_all [nearB]; omega))) rfl (fun _ => trivial)
  ·refine aw_reg [(4, .dec false)] [4] [] [Bv false] [] [¬ (a.D = b.D)] (by kernel_rfl) hB ⟨h1, trivial⟩ ?_
   refine ae_then ?_
   refine aw_ret ?_
   refine ae_ret hB (Bv false) (by kernel_rfl) (.inl (by first | rfl | (refine congrArg Bv ?_; simp [nearB, *]; done) | (refine congrArg Bv ?_; simp [nearB, *]; omega) | (refine congrArg Bv ?_; simp_all [nearB]; done) | (refine congrArg Bv ?_; simp_all [nearB]; omega))) rfl (fun _ => trivial)


-- spec.l24Ok
theorem l24Ok_ok (t : Trained) (ok : okTrained t) : Con Try.prog 53 [.ptr false [Sv t.Label, slFeat false t.Base, slFeat false t.Feats, I t.Count]] true (Bv (okTrained' t)) := by
  refine fn_ok (fn := Try.f53) (nt := 69) Try.func53 rfl rfl rfl rfl (by simp [taggedL, tagged, tagFeat]) fun B hB => ?_
  refine aw_lens (x := .ptr false [Sv t.Label, slFeat false t.Base, slFeat false t.Feats, I t.Count]) 0 rfl (fun len_t => ?_)
  simp [LenOK, LenL, cFeat, fFeat, slFeat] at len_t
  refine aw_seq ?_
  refine aw_reg [] [0] [] [.ptr false [Sv t.Label, slFeat false t.Base, slFeat false t.Feats, I t.Count]] [] [] (by kernel_rfl) hB trivial ?_
  refine ae_then ?_
  refine aw_seq ?_
  refine aw_seq ?_
  rcases Bool.eq_false_or_eq_true (okLabel t.Label) with h1 | h1
  ·rcases Bool.eq_false_or_eq_true (okFeats t.Base 72) with h2 | h2
   ·rcases Bool.eq_false_or_eq_true (okFeats t.Feats 72) with h3 | h3
    ·by_cases h4 : (t.Base.length : Int) = (t.Feats.length : Int)
     ·refine aw_reg [(4, .call [(true, Sv t.Label)] true (Bv true)), (11, .call [(true, slFeat false t.Base)] true (Bv true)), (19, .call [(true, slFeat false t.Feats)] true (Bv true)), (33, .dec false)] [0, 38] [] [.ptr false [Sv t.Label, slFeat false t.Base, slFeat false t.Feats, I t.Count], Bv false] [] [Con Try.prog 98 [Sv t.Label] true (Bv true) ∧ ((Sv t.Label : AV) = Sv t.Label) ∧ True, Con Try.prog 89 [slFeat false t.Base] true (Bv true) ∧ ((slFeat false t.Base : AV) = slFeat false t.Base) ∧ True, Con Try.prog 89 [slFeat false t.Feats] true (Bv true) ∧ ((slFeat false t.Feats : AV) = slFeat false t.Feats) ∧ True, ¬ ((t.Base.length : Int) ≠ (t.Feats.length : Int))] (by kernel_rfl) hB ⟨⟨(con_bool h1 (specIsLabel_ok t.Label ok)), rfl, trivial⟩, ⟨(con_bool h2 (l09Ok_ok t.Base)), rfl, trivial⟩, ⟨(con_bool h3 (l09Ok_ok t.Feats)), rfl, trivial⟩, (fun hq => hq h4), trivial⟩ ?_
      refine ae_then ?_
      refine aw_false rfl ?_
      refine aw_skip ?_
      refine ae_then ?_
      refine aw_seq ?_
      refine aw_seq ?_
      refine aw_reg [] [0, 3] [] [.ptr false [Sv t.Label, slFeat false t.Base, slFeat false t.Feats, I t.Count], I 0] [] [] (by kernel_rfl) hB trivial ?_
      refine ae_then ?_
      refine aw_block ?_
      refine aw_loop (fun gn gσ => ∃ (i : Int), gn = ((t.Base.length : Int) - i).toNat ∧ (0 ≤ i ∧ i ≤ (t.Base.length : Int)) ∧ (∀ j : Nat, (j : Int) < i → nearB (at_ t.Base j) (at_ t.Feats j) = true) ∧ gσ = mkS [(0, .ptr false [Sv t.Label, slFeat false t.Base, slFeat false t.Feats, I t.Count]), (3, I i)] []) (((t.Base.length : Int) - 0).toNat) ⟨0, rfl, (by omega), (by intro j hj; omega), rfl⟩ (fun gn gσ hI => ?_)
      obtain ⟨i, rfl, hir, hall0, rfl⟩ := hI
      refine aw_seq ?_
      refine aw_seq ?_
      by_cases h5 : i < (t.Base.length : Int)
      ·have hi : i.toNat < t.Base.length := by omega
       have hi0 : i.toNat < t.Feats.length := by omega
       refine aw_reg [(6, .dec true)] [0, 3, 45] [] [.ptr false [Sv t.Label, slFeat false t.Base, slFeat false t.Feats, I t.Count], I i, Bv true] [] [i < (t.Base.length : Int)] (by kernel_rfl) hB ⟨h5, trivial⟩ ?_
       refine ae_then ?_
       refine aw_true rfl ?_
       refine aw_skip ?_
       refine ae_then ?_
       refine aw_seq ?_
       refine aw_block ?_
       refine aw_seq ?_
       rcases Bool.eq_false_or_eq_true (nearB (at_ t.Base i.toNat) (at_ t.Feats i.toNat)) with h6 | h6
       ·refine aw_reg [(14, .call [(true, agFeat (at_ t.Base i.toNat)), (true, agFeat (at_ t.Feats i.toNat))] true (Bv true))] [0, 3, 63] [] [.ptr false [Sv t.Label, slFeat false t.Base, slFeat false t.Feats, I t.Count], I i, Bv false] [] [(0 : Int) ≤ i ∧ i < (t.Base.length : Int), (0 : Int) ≤ i ∧ i < (t.Feats.length : Int), Con Try.prog 99 [agFeat (at_ t.Base i.toNat), agFeat (at_ t.Feats i.toNat)] true (Bv true) ∧ ((agFeat (at_ t.Base i.toNat) : AV) = agFeat (at_ t.Base i.toNat)) ∧ ((agFeat (at_ t.Feats i.toNat) : AV) = agFeat (at_ t.Feats i.toNat)) ∧ True] (by kernel_rfl) hB ⟨⟨(by omega), (by omega)⟩, ⟨(by omega), (by omega)⟩, ⟨(con_bool h6 (l24Near_ok (at_ t.Base i.toNat) (at_ t.Feats i.toNat) (okFeats_at (by assumption) hi) (okFeats_at (by assumption) hi0))), rfl, rfl, trivial⟩, trivial⟩ ?_
        refine ae_then ?_
        refine aw_false rfl ?_
        refine aw_skip ?_
        refine ae_block 1 ?_
        refine ae_then ?_
        refine aw_reg [] [0, 3] [] [.ptr false [Sv t.Label, slFeat false t.Base, slFeat false t.Feats, I t.Count], I (i + 1)] [] [inR .i64 (i + 1)] (by kernel_rfl) hB ⟨(inR_i64 (by omega) (by omega)), trivial⟩ ?_
        exact ae_again _ (by omega) ⟨(i + 1), rfl, (by omega), (by intro j hj; by_cases ej : j = i.toNat; (subst ej; first | assumption | exact hok); exact hall0 j (by omega)), rfl⟩
       ·have hall : allN t.Base.length (fun j => nearB (at_ t.Base j) (at_ t.Feats j)) = false := allN_not hi h6
        refine aw_reg [(14, .call [(true, agFeat (at_ t.Base i.toNat)), (true, agFeat (at_ t.Feats i.toNat))] true (Bv false))] [0, 3, 63] [] [.ptr false [Sv t.Label, slFeat false t.Base, slFeat false t.Feats, I t.Count], I i, Bv true] [] [(0 : Int) ≤ i ∧ i < (t.Base.length : Int), (0 : Int) ≤ i ∧ i < (t.Feats.length : Int), Con Try.prog 99 [agFeat (at_ t.Base i.toNat), agFeat (at_ t.Feats i.toNat)] true (Bv false) ∧ ((agFeat (at_ t.Base i.toNat) : AV) = agFeat (at_ t.Base i.toNat)) ∧ ((agFeat (at_ t.Feats i.toNat) : AV) = agFeat (at_ t.Feats i.toNat)) ∧ True] (by kernel_rfl) hB ⟨⟨(by omega), (by omega)⟩, ⟨(by omega), (by omega)⟩, ⟨(con_bool h6 (l24Near_ok (at_ t.Base i.toNat) (at_ t.Feats i.toNat) (okFeats_at (by assumption) hi) (okFeats_at (by assumption) hi0))), rfl, rfl, trivial⟩, trivial⟩ ?_
        refine ae_then ?_
        refine aw_true rfl ?_
        refine aw_seq ?_
        refine aw_reg [] [2] [] [Bv false] [] [] (by kernel_rfl) hB trivial ?_
        refine ae_then ?_
        refine aw_ret ?_
        refine ae_ret_block (ae_ret_then (ae_ret_then (ae_ret_block (ae_ret_then ?_))))
        refine ae_ret hB (Bv false) (by kernel_rfl) (.inl (by first | rfl | (refine congrArg Bv ?_; simp [okTrained', inB, *]; done) | (refine congrArg Bv ?_; simp [okTrained', inB, *]; omega) | (refine congrArg Bv ?_; simp_all [okTrained', inB]; done) | (refine congrArg Bv ?_; simp_all [okTrained', inB]; omega))) rfl (fun _ => trivial)
      ·have hall : allN t.Base.length (fun j => nearB (at_ t.Base j) (at_ t.Feats j)) = true := allN_at (fun j hj => hall0 j (by omega))
       refine aw_reg [(6, .dec false)] [0, 3, 45] [] [.ptr false [Sv t.Label, slFeat false t.Base, slFeat false t.Feats, I t.Count], I i, Bv false] [] [¬ (i < (t.Base.length : Int))] (by kernel_rfl) hB ⟨h5, trivial⟩ ?_
       refine ae_then ?_
       refine aw_false rfl ?_
       refine aw_exit ?_
       refine ae_exit_then ?_
       refine ae_exit_then ?_
       refine ae_exit_same ?_
       refine ae_then ?_
       refine aw_seq ?_
       refine aw_reg [(4, .call [(true, I t.Count), (true, I 0), (true, I 100)] true (Bv (inB t.Count 0 100)))] [2] [] [Bv (inB t.Count 0 100)] [] [Con Try.prog 90 [I t.Count, I 0, I 100] true (Bv (inB t.Count 0 100)) ∧ ((I t.Count : AV) = I t.Count) ∧ ((I 0 : AV) = I 0) ∧ ((I 100 : AV) = I 100) ∧ True] (by kernel_rfl) hB ⟨⟨(l00In_ok t.Count 0 100), rfl, rfl, rfl, trivial⟩, trivial⟩ ?_
       refine ae_then ?_
       refine aw_ret ?_
       refine ae_ret hB (Bv (inB t.Count 0 100)) (by kernel_rfl) (.inl (by first | rfl | (refine congrArg Bv ?_; simp [okTrained', inB, *]; done) | (refine congrArg Bv ?_; simp [okTrained', inB, *]; omega) | (refine congrArg Bv ?_; simp_all [okTrained', inB]; done) | (refine congrArg Bv ?_; simp_all [okTrained', inB]; omega))) rfl (fun _ => trivial)
     ·refine aw_reg [(4, .call [(true, Sv t.Label)] true (Bv true)), (11, .call [(true, slFeat false t.Base)] true (Bv true)), (19, .call [(true, slFeat false t.Feats)] true (Bv true)), (33, .dec true)] [0, 38] [] [.ptr false [Sv t.Label, slFeat false t.Base, slFeat false t.Feats, I t.Count], Bv true] [] [Con Try.prog 98 [Sv t.Label] true (Bv true) ∧ ((Sv t.Label : AV) = Sv t.Label) ∧ True, Con Try.prog 89 [slFeat false t.Base] true (Bv true) ∧ ((slFeat false t.Base : AV) = slFeat false t.Base) ∧ True, Con Try.prog 89 [slFeat false t.Feats] true (Bv true) ∧ ((slFeat false t.Feats : AV) = slFeat false t.Feats) ∧ True, (t.Base.length : Int) ≠ (t.Feats.length : Int)] (by kernel_rfl) hB ⟨⟨(con_bool h1 (specIsLabel_ok t.Label ok)), rfl, trivial⟩, ⟨(con_bool h2 (l09Ok_ok t.Base)), rfl, trivial⟩, ⟨(con_bool h3 (l09Ok_ok t.Feats)), rfl, trivial⟩, h4, trivial⟩ ?_
      refine ae_then ?_
      refine aw_true rfl ?_
      refine aw_seq ?_
      refine aw_reg [] [2] [] [Bv false] [] [] (by kernel_rfl) hB trivial ?_
      refine ae_then ?_
      refine aw_ret ?_
      refine ae_ret_then ?_
      refine ae_ret hB (Bv false) (by kernel_rfl) (.inl (by first | rfl | (refine congrArg Bv ?_; simp [okTrained', inB, *]; done) | (refine congrArg Bv ?_; simp [okTrained', inB, *]; omega) | (refine congrArg Bv ?_; simp_all [okTrained', inB]; done) | (refine congrArg Bv ?_; simp_all [okTrained', inB]; omega))) rfl (fun _ => trivial)
    ·refine aw_reg [(4, .call [(true, Sv t.Label)] true (Bv true)), (11, .call [(true, slFeat false t.Base)] true (Bv true)), (19, .call [(true, slFeat false t.Feats)] true (Bv false))] [0, 38] [] [.ptr false [Sv t.Label, slFeat false t.Base, slFeat false t.Feats, I t.Count], Bv true] [] [Con Try.prog 98 [Sv t.Label] true (Bv true) ∧ ((Sv t.Label : AV) = Sv t.Label) ∧ True, Con Try.prog 89 [slFeat false t.Base] true (Bv true) ∧ ((slFeat false t.Base : AV) = slFeat false t.Base) ∧ True, Con Try.prog 89 [slFeat false t.Feats] true (Bv false) ∧ ((slFeat false t.Feats : AV) = slFeat false t.Feats) ∧ True] (by kernel_rfl) hB ⟨⟨(con_bool h1 (specIsLabel_ok t.Label ok)), rfl, trivial⟩, ⟨(con_bool h2 (l09Ok_ok t.Base)), rfl, trivial⟩, ⟨(con_bool h3 (l09Ok_ok t.Feats)), rfl, trivial⟩, trivial⟩ ?_
     refine ae_then ?_
     refine aw_true rfl ?_
     refine aw_seq ?_
     refine aw_reg [] [2] [] [Bv false] [] [] (by kernel_rfl) hB trivial ?_
     refine ae_then ?_
     refine aw_ret ?_
     refine ae_ret_then ?_
     refine ae_ret hB (Bv false) (by kernel_rfl) (.inl (by first | rfl | (refine congrArg Bv ?_; simp [okTrained', inB, *]; done) | (refine congrArg Bv ?_; simp [okTrained', inB, *]; omega) | (refine congrArg Bv ?_; simp_all [okTrained', inB]; done) | (refine congrArg Bv ?_; simp_all [okTrained', inB]; omega))) rfl (fun _ => trivial)
   ·refine aw_reg [(4, .call [(true, Sv t.Label)] true (Bv true)), (11, .call [(true, slFeat false t.Base)] true (Bv false))] [0, 38] [] [.ptr false [Sv t.Label, slFeat false t.Base, slFeat false t.Feats, I t.Count], Bv true] [] [Con Try.prog 98 [Sv t.Label] true (Bv true) ∧ ((Sv t.Label : AV) = Sv t.Label) ∧ True, Con Try.prog 89 [slFeat false t.Base] true (Bv false) ∧ ((slFeat false t.Base : AV) = slFeat false t.Base) ∧ True] (by kernel_rfl) hB ⟨⟨(con_bool h1 (specIsLabel_ok t.Label ok)), rfl, trivial⟩, ⟨(con_bool h2 (l09Ok_ok t.Base)), rfl, trivial⟩, trivial⟩ ?_
    refine ae_then ?_
    refine aw_true rfl ?_
    refine aw_seq ?_
    refine aw_reg [] [2] [] [Bv false] [] [] (by kernel_rfl) hB trivial ?_
    refine ae_then ?_
    refine aw_ret ?_
    refine ae_ret_then ?_
    refine ae_ret hB (Bv false) (by kernel_rfl) (.inl (by first | rfl | (refine congrArg Bv ?_; simp [okTrained', inB, *]; done) | (refine congrArg Bv ?_; simp [okTrained', inB, *]; omega) | (refine congrArg Bv ?_; simp_all [okTrained', inB]; done) | (refine congrArg Bv ?_; simp_all [okTrained', inB]; omega))) rfl (fun _ => trivial)
  ·refine aw_reg [(4, .call [(true, Sv t.Label)] true (Bv false))] [0, 38] [] [.ptr false [Sv t.Label, slFeat false t.Base, slFeat false t.Feats, I t.Count], Bv true] [] [Con Try.prog 98 [Sv t.Label] true (Bv false) ∧ ((Sv t.Label : AV) = Sv t.Label) ∧ True] (by kernel_rfl) hB ⟨⟨(con_bool h1 (specIsLabel_ok t.Label ok)), rfl, trivial⟩, trivial⟩ ?_
   refine ae_then ?_
   refine aw_true rfl ?_
   refine aw_seq ?_
   refine aw_reg [] [2] [] [Bv false] [] [] (by kernel_rfl) hB trivial ?_
   refine ae_then ?_
   refine aw_ret ?_
   refine ae_ret_then ?_
   refine ae_ret hB (Bv false) (by kernel_rfl) (.inl (by first | rfl | (refine congrArg Bv ?_; simp [okTrained', inB, *]; done) | (refine congrArg Bv ?_; simp [okTrained', inB, *]; omega) | (refine congrArg Bv ?_; simp_all [okTrained', inB]; done) | (refine congrArg Bv ?_; simp_all [okTrained', inB]; omega))) rfl (fun _ => trivial)


-- spec.l24Copy
theorem l24Copy_ok (list : List Feat) (hl : list.length ≤ 72) : Con Try.prog 103 [slFeat false list] true (slFeat true list) := by
  refine fn_ok (fn := Try.f103) (nt := 6) Try.func103 rfl rfl rfl rfl (by simp [taggedL, tagged, tagFeat]) fun B hB => ?_
  refine aw_lens (x := slFeat false list) 0 rfl (fun len_list => ?_)
  simp [LenOK, LenL, cFeat, fFeat, slFeat] at len_list
  refine aw_seq ?_
  refine aw_reg [] [0] [] [slFeat false list] [] [] (by kernel_rfl) hB trivial ?_
  refine ae_then ?_
  refine aw_seq ?_
  refine aw_reg [(0, .new 3), (2, .new 5)] [2] [5] [.arr 5] [some (.arr 3 (0 + list.length) (catF 0 (litF [] 3) (fFeat list)))] [(0 + list.length) * 24 ≤ 140737488355328] (by kernel_rfl) hB ⟨(by omega), trivial⟩ ?_
  refine ae_then ?_
  refine aw_ret ?_
  refine ae_ret hB (.arr 5) (by kernel_rfl) (.inr ⟨(fun _ => rfl), rfl, (by first | rfl | (simp; done) | (simp; omega) | omega), fun i_ hi_ => .inl (by first | rfl | fail)⟩) rfl (fun _ => (tagFeat true _))


-- spec.l24Start
theorem l24Start_ok (label : ByteArray) (feats : List Feat) (hl : feats.length ≤ 72) : Con Try.prog 59 [Sv label, slFeat false feats] true (agTrainedT (Trained.mk label feats feats 0)) := by
  refine fn_ok (fn := Try.f59) (nt := 11) Try.func59 rfl rfl rfl rfl (by simp [taggedL, tagged, tagFeat]) fun B hB => ?_
  refine aw_lens (x := slFeat false feats) 1 rfl (fun len_feats => ?_)
  simp [LenOK, LenL, cFeat, fFeat, slFeat] at len_feats
  refine aw_seq ?_
  refine aw_reg [(0, .new 4)] [0, 1, 4] [4] [Sv label, slFeat false feats, .ref 4 0] [some (.box [Sv (⟨#[]⟩ : ByteArray), nilA, nilA, I 0])] [] (by kernel_rfl) hB trivial ?_
  refine ae_then ?_
  refine aw_seq ?_
  refine aw_reg [(2, .call [(true, slFeat false feats)] true (slFeat true feats)), (4, .call [(true, slFeat false feats)] true (slFeat true feats))] [4] [4] [.ref 4 0] [some (.box [Sv label, slFeat true feats, slFeat true feats, I 0])] [Con Try.prog 103 [slFeat false feats] true (slFeat true feats) ∧ ((slFeat false feats : AV) = slFeat false feats) ∧ True, Con Try.prog 103 [slFeat false feats] true (slFeat true feats) ∧ ((slFeat false feats : AV) = slFeat false feats) ∧ True] (by kernel_rfl) hB ⟨⟨(l24Copy_ok feats hl), rfl, trivial⟩, ⟨(l24Copy_ok feats hl), rfl, trivial⟩, trivial⟩ ?_
  refine ae_then ?_
  refine aw_ret ?_
  refine ae_ret hB (.agg [Sv label, slFeat true feats, slFeat true feats, I 0]) (by kernel_rfl) (.inr ⟨(by first | rfl | (simp [valOf]; done) | (simp [valOf]; omega)), ⟨⟨(fun _ => rfl), rfl, (by first | rfl | (simp; done) | (simp; omega) | omega), fun i_ hi_ => .inl (by first | rfl | fail)⟩, ⟨⟨(fun _ => rfl), rfl, (by first | rfl | (simp; done) | (simp; omega) | omega), fun i_ hi_ => .inl (by first | rfl | fail)⟩, ⟨(by first | rfl | (simp [valOf]; done) | (simp [valOf]; omega)), rfl⟩⟩⟩⟩) rfl (fun _ => (by simp [tagged, taggedL, tagFeat]))


theorem stR_len (t : Template) : (stR t).1.Base.length ≤ 72 ∧ (stR t).1.Feats.length ≤ 72 := by
  cases h : okTm t with
  | true => rw [stR_yes h]; exact ⟨okTm_len h, okTm_len h⟩
  | false => rw [stR_no h]; exact ⟨by decide, by decide⟩

def rsR (t : Trained) : Trained × Int := if okTrained' t = true then (⟨t.Label, t.Base, t.Base, 0⟩, 0) else (⟨⟨#[]⟩, [], [], 0⟩, 1)
theorem rsR_yes {t : Trained} (h : okTrained' t = true) : rsR t = (⟨t.Label, t.Base, t.Base, 0⟩, 0) := if_pos h
theorem rsR_no {t : Trained} (h : okTrained' t = false) : rsR t = (⟨⟨#[]⟩, [], [], 0⟩, 1) := by simp [rsR, h]
theorem okTr_len {t : Trained} (h : okTrained' t = true) : t.Base.length ≤ 72 := by
  simp only [okTrained', okFeats, Bool.and_eq_true, decide_eq_true_eq] at h
  omega
theorem rsR_len (t : Trained) : (rsR t).1.Base.length ≤ 72 ∧ (rsR t).1.Feats.length ≤ 72 := by
  cases h : okTrained' t with
  | true => rw [rsR_yes h]; have := okTr_len h; exact ⟨this, this⟩
  | false => rw [rsR_no h]; exact ⟨by decide, by decide⟩

-- spec.ResetTrained
theorem specResetTrained_ok (t : Trained) (ok : okTrained t) : Con Try.prog 29 [agTrained t] true (.tup [agTrainedT ((rsR t).1), I ((rsR t).2)]) := by
  refine fn_ok (fn := Try.f29) (nt := 12) Try.func29 rfl rfl rfl rfl (by simp [taggedL, tagged, tagFeat]) fun B hB => ?_
  refine aw_lens (x := agTrained t) 0 rfl (fun len_t => ?_)
  simp [LenOK, LenL, cFeat, fFeat, slFeat] at len_t
  refine aw_seq ?_
  refine aw_reg [(0, .new 1), (1, .new 2)] [1, 2] [1, 2] [.ref 1 0, .ref 2 0] [some (bxTrained t), some (.box [Sv (⟨#[]⟩ : ByteArray), nilA, nilA, I 0])] [] (by kernel_rfl) hB trivial ?_
  refine ae_then ?_
  refine aw_seq ?_
  refine aw_seq ?_
  rcases Bool.eq_false_or_eq_true (okTrained' t) with h1 | h1
  ·have hst := rsR_yes h1
   have hlen := okTr_len h1
   rw [hst]
   refine aw_reg [(0, .call [(false, .ptr false [Sv t.Label, slFeat false t.Base, slFeat false t.Feats, I t.Count])] true (Bv true))] [1, 2, 5] [1, 2] [.ref 1 0, .ref 2 0, Bv false] [some (bxTrained t), some (.box [Sv (⟨#[]⟩ : ByteArray), nilA, nilA, I 0])] [Con Try.prog 53 [.ptr false [Sv t.Label, slFeat false t.Base, slFeat false t.Feats, I t.Count]] true (Bv true) ∧ ((false = true → true = true) ∧ AV.idsL [Sv t.Label, slFeat false t.Base, slFeat false t.Feats, I t.Count] = [] ∧ (valOf (Sv t.Label) = valOf (Sv t.Label)) ∧ ((false = true → false = true) ∧ 3 = 3 ∧ t.Base.length = t.Base.length ∧ ∀ i, i < t.Base.length → (fFeat t.Base) i = (fFeat t.Base) i ∨ (AV.idsL ((fFeat t.Base) i) = [] ∧ leL (fun _ => none) false ((fFeat t.Base) i) ((fFeat t.Base) i))) ∧ ((false = true → false = true) ∧ 3 = 3 ∧ t.Feats.length = t.Feats.length ∧ ∀ i, i < t.Feats.length → (fFeat t.Feats) i = (fFeat t.Feats) i ∨ (AV.idsL ((fFeat t.Feats) i) = [] ∧ leL (fun _ => none) false ((fFeat t.Feats) i) ((fFeat t.Feats) i))) ∧ (valOf (I t.Count) = valOf (I t.Count)) ∧ ([] : List AV) = []) ∧ True] (by kernel_rfl) hB ⟨⟨(con_bool h1 (l24Ok_ok t ok)), ⟨(fun h => by cases h), rfl, ⟨rfl, ⟨⟨(fun h => by cases h), rfl, rfl, fun i _ => .inl rfl⟩, ⟨⟨(fun h => by cases h), rfl, rfl, fun i _ => .inl rfl⟩, ⟨rfl, rfl⟩⟩⟩⟩⟩, trivial⟩, trivial⟩ ?_
   refine ae_then ?_
   refine aw_false rfl ?_
   refine aw_skip ?_
   refine ae_then ?_
   refine aw_seq ?_
   refine aw_reg [(4, .call [(true, Sv t.Label), (true, slFeat false t.Base)] true (agTrainedT (Trained.mk t.Label t.Base t.Base 0)))] [2, 3] [2] [.ref 2 0, I 0] [some (bxTrainedT (Trained.mk t.Label t.Base t.Base 0))] [Con Try.prog 59 [Sv t.Label, slFeat false t.Base] true (agTrainedT (Trained.mk t.Label t.Base t.Base 0)) ∧ ((Sv t.Label : AV) = Sv t.Label) ∧ ((slFeat false t.Base : AV) = slFeat false t.Base) ∧ True] (by kernel_rfl) hB ⟨⟨(l24Start_ok t.Label t.Base hlen), rfl, rfl, trivial⟩, trivial⟩ ?_
   refine ae_then ?_
   refine aw_ret ?_
   refine ae_ret hB (.tup [agTrainedT (Trained.mk t.Label t.Base t.Base 0), I 0]) (by kernel_rfl) (.inr ⟨⟨(by first | rfl | (simp [valOf]; done) | (simp [valOf]; omega)), ⟨⟨(fun _ => rfl), rfl, (by first | rfl | (simp; done) | (simp; omega) | omega), fun i_ hi_ => .inl (by first | rfl | fail)⟩, ⟨⟨(fun _ => rfl), rfl, (by first | rfl | (simp; done) | (simp; omega) | omega), fun i_ hi_ => .inl (by first | rfl | fail)⟩, ⟨(by first | rfl | (simp [valOf]; done) | (simp [valOf]; omega)), rfl⟩⟩⟩⟩, ⟨(by first | rfl | (simp [valOf]; done) | (simp [valOf]; omega)), rfl⟩⟩) rfl (fun _ => (by simp [tagged, taggedL, tagFeat]))
  ·have hst := rsR_no h1
   rw [hst]
   refine aw_reg [(0, .call [(false, .ptr false [Sv t.Label, slFeat false t.Base, slFeat false t.Feats, I t.Count])] true (Bv false))] [1, 2, 5] [1, 2] [.ref 1 0, .ref 2 0, Bv true] [some (bxTrained t), some (.box [Sv (⟨#[]⟩ : ByteArray), nilA, nilA, I 0])] [Con Try.prog 53 [.ptr false [Sv t.Label, slFeat false t.Base, slFeat false t.Feats, I t.Count]] true (Bv false) ∧ ((false = true → true = true) ∧ AV.idsL [Sv t.Label, slFeat false t.Base, slFeat false t.Feats, I t.Count] = [] ∧ (valOf (Sv t.Label) = valOf (Sv t.Label)) ∧ ((false = true → false = true) ∧ 3 = 3 ∧ t.Base.length = t.Base.length ∧ ∀ i, i < t.Base.length → (fFeat t.Base) i = (fFeat t.Base) i ∨ (AV.idsL ((fFeat t.Base) i) = [] ∧ leL (fun _ => none) false ((fFeat t.Base) i) ((fFeat t.Base) i))) ∧ ((false = true → false = true) ∧ 3 = 3 ∧ t.Feats.length = t.Feats.length ∧ ∀ i, i < t.Feats.length → (fFeat t.Feats) i = (fFeat t.Feats) i ∨ (AV.idsL ((fFeat t.Feats) i) = [] ∧ leL (fun _ => none) false ((fFeat t.Feats) i) ((fFeat t.Feats) i))) ∧ (valOf (I t.Count) = valOf (I t.Count)) ∧ ([] : List AV) = []) ∧ True] (by kernel_rfl) hB ⟨⟨(con_bool h1 (l24Ok_ok t ok)), ⟨(fun h => by cases h), rfl, ⟨rfl, ⟨⟨(fun h => by cases h), rfl, rfl, fun i _ => .inl rfl⟩, ⟨⟨(fun h => by cases h), rfl, rfl, fun i _ => .inl rfl⟩, ⟨rfl, rfl⟩⟩⟩⟩⟩, trivial⟩, trivial⟩ ?_
   refine ae_then ?_
   refine aw_true rfl ?_
   refine aw_seq ?_
   refine aw_reg [] [2, 3] [2] [.ref 2 0, I 1] [some (.box [Sv (⟨#[]⟩ : ByteArray), nilA, nilA, I 0])] [] (by kernel_rfl) hB trivial ?_
   refine ae_then ?_
   refine aw_ret ?_
   refine ae_ret_then ?_
   refine ae_ret hB (.tup [.agg [Sv (⟨#[]⟩ : ByteArray), nilA, nilA, I 0], I 1]) (by kernel_rfl) (.inr ⟨⟨(by first | rfl | (simp [valOf]; done) | (simp [valOf]; omega)), ⟨⟨(by simp), rfl⟩, ⟨⟨(by simp), rfl⟩, ⟨(by first | rfl | (simp [valOf]; done) | (simp [valOf]; omega)), rfl⟩⟩⟩⟩, ⟨(by first | rfl | (simp [valOf]; done) | (simp [valOf]; omega)), rfl⟩⟩) rfl (fun _ => (by simp [tagged, taggedL, tagFeat]))


-- impl.isLetter
theorem isLetter_ok (c : Int) : Con Try.prog 137 [.val (.int .u8 c)] true (Bv (inB c 97 122)) := by
  refine fn_ok (fn := Try.f137) (nt := 9) Try.func137 rfl rfl rfl rfl (by simp [taggedL, tagged]) fun B hB => ?_
  refine aw_seq ?_
  refine aw_reg [] [0] [] [.val (.int .u8 c)] [] [] (by kernel_rfl) hB trivial ?_
  refine ae_then ?_
  refine aw_seq ?_
  by_cases h1 : 97 ≤ c
  ·refine aw_reg [(1, .dec true)] [2] [] [Bv (decide (c ≤ 122))] [] [97 ≤ c] (by kernel_rfl) hB ⟨h1, trivial⟩ ?_
   refine ae_then ?_
   refine aw_ret ?_
   refine ae_ret hB (Bv (decide (c ≤ 122))) (by kernel_rfl) (.inl (by first | rfl | (refine congrArg Bv ?_; simp [inB, *]; done) | (refine congrArg Bv ?_; simp [inB, *]; omega) | (refine congrArg Bv ?_; simp_all [inB]; done) | (refine congrArg Bv ?_; simp_all [inB]; omega))) rfl (fun _ => trivial)
  ·refine aw_reg [(1, .dec false)] [2] [] [Bv false] [] [¬ (97 ≤ c)] (by kernel_rfl) hB ⟨h1, trivial⟩ ?_
   refine ae_then ?_
   refine aw_ret ?_
   refine ae_ret hB (Bv false) (by kernel_rfl) (.inl (by first | rfl | (refine congrArg Bv ?_; simp [inB, *]; done) | (refine congrArg Bv ?_; simp [inB, *]; omega) | (refine congrArg Bv ?_; simp_all [inB]; done) | (refine congrArg Bv ?_; simp_all [inB]; omega))) rfl (fun _ => trivial)


/-- Whether a byte occurs. -/
def hasB (s : ByteArray) (n : Int) : Bool := s.data.toList.any fun x => decide ((x.toNat : Int) = n)
theorem one_byte {t : ByteArray} (h : t.size = 1) : ∃ c, t = ⟨#[c]⟩ := by
  obtain ⟨⟨l⟩⟩ := t
  cases l with
  | nil => cases h
  | cons c l =>
    cases l with
    | nil => exact ⟨c, rfl⟩
    | cons d l => simp [ByteArray.size] at h
theorem has_index (l : List UInt8) (c : UInt8) : decide (0 ≤ Lib.indexByte l c) = l.any fun x => decide ((x.toNat : Int) = bAt ⟨#[c]⟩ 0) := by
  rw [← Lib.contains_iff_indexByte, Bool.eq_iff_iff]
  simp [bAt, List.contains_iff_mem]
  constructor
  · intro h; exact ⟨c, h, rfl⟩
  · rintro ⟨x, hx, e⟩
    have : x = c := UInt8.toNat_inj.1 (by omega)
    exact this ▸ hx

-- strings.Contains
theorem contains_ok (s t : ByteArray) (h : t.size = 1) : Con Try.prog 138 [Sv s, Sv t] true (Bv (hasB s (bAt t 0))) := by
  obtain ⟨c, rfl⟩ := one_byte h
  refine con_of_calls (vals := [.string s, .string ⟨#[c]⟩]) fun w _ => ?_
  refine (Try.strings_Contains_one s c w).mono ?_
  rintro e w' ⟨rfl, rfl⟩
  refine ⟨?_, Below.refl _ _⟩
  simp only [has_index, hasB]


-- impl.IsLabel
theorem implIsLabel_ok (s : ByteArray) (ok : s.size ≤ 9223372036854775807) : Con Try.prog 100 [Sv s] true (Bv (okLabel s)) := by
  refine fn_ok (fn := Try.f100) (nt := 15) Try.func100 rfl rfl rfl rfl (by simp [taggedL, tagged]) fun B hB => ?_
  refine aw_seq ?_
  refine aw_reg [] [0] [] [Sv s] [] [] (by kernel_rfl) hB trivial ?_
  refine ae_then ?_
  refine aw_seq ?_
  by_cases h1 : (s.size : Int) = 1
  ·rcases Bool.eq_false_or_eq_true (inB (bAt s 0) 97 122) with h2 | h2
   ·refine aw_reg [(2, .dec true), (6, .call [(true, .val (.int .u8 (bAt s 0)))] true (Bv true))] [2] [] [Bv true] [] [(s.size : Int) = 1, (0 : Int) ≤ 0 ∧ 0 < (s.size : Int), Con Try.prog 137 [.val (.int .u8 (bAt s 0))] true (Bv true) ∧ ((.val (.int .u8 (bAt s 0)) : AV) = .val (.int .u8 (bAt s 0))) ∧ True] (by kernel_rfl) hB ⟨h1, ⟨(by omega), (by omega)⟩, ⟨(con_bool h2 (isLetter_ok (bAt s 0))), rfl, trivial⟩, trivial⟩ ?_
    refine ae_then ?_
    refine aw_ret ?_
    refine ae_ret hB (Bv true) (by kernel_rfl) (.inl (by first | (refine congrArg Bv ?_; simp_all [okLabel, labB, inB]; done) | (refine congrArg Bv ?_; have hbd := bAt_bd s 0; rw [Bool.eq_iff_iff]; simp_all [okLabel, hasB, labB, inB]; omega))) rfl (fun _ => trivial)
   ·refine aw_reg [(2, .dec true), (6, .call [(true, .val (.int .u8 (bAt s 0)))] true (Bv false)), (9, .call [(true, Sv (⟨#[48, 49, 50, 51, 52, 53, 54, 55, 56, 57, 43, 45, 42, 47, 61, 40, 41, 46, 44]⟩ : ByteArray)), (true, Sv s)] true (Bv (hasB (⟨#[48, 49, 50, 51, 52, 53, 54, 55, 56, 57, 43, 45, 42, 47, 61, 40, 41, 46, 44]⟩ : ByteArray) (bAt s 0))))] [2] [] [Bv (hasB (⟨#[48, 49, 50, 51, 52, 53, 54, 55, 56, 57, 43, 45, 42, 47, 61, 40, 41, 46, 44]⟩ : ByteArray) (bAt s 0))] [] [(s.size : Int) = 1, (0 : Int) ≤ 0 ∧ 0 < (s.size : Int), Con Try.prog 137 [.val (.int .u8 (bAt s 0))] true (Bv false) ∧ ((.val (.int .u8 (bAt s 0)) : AV) = .val (.int .u8 (bAt s 0))) ∧ True, Con Try.prog 138 [Sv (⟨#[48, 49, 50, 51, 52, 53, 54, 55, 56, 57, 43, 45, 42, 47, 61, 40, 41, 46, 44]⟩ : ByteArray), Sv s] true (Bv (hasB (⟨#[48, 49, 50, 51, 52, 53, 54, 55, 56, 57, 43, 45, 42, 47, 61, 40, 41, 46, 44]⟩ : ByteArray) (bAt s 0))) ∧ ((Sv (⟨#[48, 49, 50, 51, 52, 53, 54, 55, 56, 57, 43, 45, 42, 47, 61, 40, 41, 46, 44]⟩ : ByteArray) : AV) = Sv (⟨#[48, 49, 50, 51, 52, 53, 54, 55, 56, 57, 43, 45, 42, 47, 61, 40, 41, 46, 44]⟩ : ByteArray)) ∧ ((Sv s : AV) = Sv s) ∧ True] (by kernel_rfl) hB ⟨h1, ⟨(by omega), (by omega)⟩, ⟨(con_bool h2 (isLetter_ok (bAt s 0))), rfl, trivial⟩, ⟨(contains_ok (⟨#[48, 49, 50, 51, 52, 53, 54, 55, 56, 57, 43, 45, 42, 47, 61, 40, 41, 46, 44]⟩ : ByteArray) s (by omega)), rfl, rfl, trivial⟩, trivial⟩ ?_
    refine ae_then ?_
    refine aw_ret ?_
    refine ae_ret hB (Bv (hasB (⟨#[48, 49, 50, 51, 52, 53, 54, 55, 56, 57, 43, 45, 42, 47, 61, 40, 41, 46, 44]⟩ : ByteArray) (bAt s 0))) (by kernel_rfl) (.inl (by first | (refine congrArg Bv ?_; simp_all [okLabel, labB, inB]; done) | (refine congrArg Bv ?_; have hbd := bAt_bd s 0; rw [Bool.eq_iff_iff]; simp_all [okLabel, hasB, labB, inB]; omega))) rfl (fun _ => trivial)
  ·refine aw_reg [(2, .dec false)] [2] [] [Bv false] [] [¬ ((s.size : Int) = 1)] (by kernel_rfl) hB ⟨h1, trivial⟩ ?_
   refine ae_then ?_
   refine aw_ret ?_
   refine ae_ret hB (Bv false) (by kernel_rfl) (.inl (by first | (refine congrArg Bv ?_; simp_all [okLabel, labB, inB]; done) | (refine congrArg Bv ?_; have hbd := bAt_bd s 0; rw [Bool.eq_iff_iff]; simp_all [okLabel, hasB, labB, inB]; omega))) rfl (fun _ => trivial)


-- impl.within
theorem within_ok (n : Int) (low : Int) (high : Int) : Con Try.prog 66 [I n, I low, I high] true (Bv (inB n low high)) := by
  refine fn_ok (fn := Try.f66) (nt := 15) Try.func66 rfl rfl rfl rfl (by simp [taggedL, tagged]) fun B hB => ?_
  refine aw_seq ?_
  refine aw_reg [] [0, 1, 2] [] [I n, I low, I high] [] [] (by kernel_rfl) hB trivial ?_
  refine ae_then ?_
  refine aw_seq ?_
  by_cases h1 : low ≤ n
  ·refine aw_reg [(2, .dec true)] [6] [] [Bv (decide (n ≤ high))] [] [low ≤ n] (by kernel_rfl) hB ⟨h1, trivial⟩ ?_
   refine ae_then ?_
   refine aw_ret ?_
   refine ae_ret hB (Bv (decide (n ≤ high))) (by kernel_rfl) (.inl (by first | rfl | (refine congrArg Bv ?_; simp [inB, *]; done) | (refine congrArg Bv ?_; simp [inB, *]; omega) | (refine congrArg Bv ?_; simp_all [inB]; done) | (refine congrArg Bv ?_; simp_all [inB]; omega))) rfl (fun _ => trivial)
  ·refine aw_reg [(2, .dec false)] [6] [] [Bv false] [] [¬ (low ≤ n)] (by kernel_rfl) hB ⟨h1, trivial⟩ ?_
   refine ae_then ?_
   refine aw_ret ?_
   refine ae_ret hB (Bv false) (by kernel_rfl) (.inl (by first | rfl | (refine congrArg Bv ?_; simp [inB, *]; done) | (refine congrArg Bv ?_; simp [inB, *]; omega) | (refine congrArg Bv ?_; simp_all [inB]; done) | (refine congrArg Bv ?_; simp_all [inB]; omega))) rfl (fun _ => trivial)


-- impl.ValidFeat
theorem ValidFeat_ok (f : Feat) : Con Try.prog 155 [agFeat f] true (Bv (okF f)) := by
  refine fn_ok (fn := Try.f155) (nt := 16) Try.func155 rfl rfl rfl rfl (by simp [taggedL, tagged]) fun B hB => ?_
  refine aw_seq ?_
  refine aw_reg [(0, .new 1)] [1] [1] [.ref 1 0] [some (bxFeat f)] [] (by kernel_rfl) hB trivial ?_
  refine ae_then ?_
  refine aw_seq ?_
  rcases Bool.eq_false_or_eq_true (inB f.X 0 255) with h1 | h1
  ·rcases Bool.eq_false_or_eq_true (inB f.Y 0 255) with h2 | h2
   ·refine aw_reg [(2, .call [(true, I f.X), (true, I 0), (true, I 255)] true (Bv true)), (6, .call [(true, I f.Y), (true, I 0), (true, I 255)] true (Bv true)), (11, .call [(true, I f.D), (true, I 0), (true, I 7)] true (Bv (inB f.D 0 7)))] [2] [] [Bv (inB f.D 0 7)] [] [Con Try.prog 66 [I f.X, I 0, I 255] true (Bv true) ∧ ((I f.X : AV) = I f.X) ∧ ((I 0 : AV) = I 0) ∧ ((I 255 : AV) = I 255) ∧ True, Con Try.prog 66 [I f.Y, I 0, I 255] true (Bv true) ∧ ((I f.Y : AV) = I f.Y) ∧ ((I 0 : AV) = I 0) ∧ ((I 255 : AV) = I 255) ∧ True, Con Try.prog 66 [I f.D, I 0, I 7] true (Bv (inB f.D 0 7)) ∧ ((I f.D : AV) = I f.D) ∧ ((I 0 : AV) = I 0) ∧ ((I 7 : AV) = I 7) ∧ True] (by kernel_rfl) hB ⟨⟨(con_bool h1 (within_ok f.X 0 255)), rfl, rfl, rfl, trivial⟩, ⟨(con_bool h2 (within_ok f.Y 0 255)), rfl, rfl, rfl, trivial⟩, ⟨(within_ok f.D 0 7), rfl, rfl, rfl, trivial⟩, trivial⟩ ?_
    refine ae_then ?_
    refine aw_ret ?_
    refine ae_ret hB (Bv (inB f.D 0 7)) (by kernel_rfl) (.inl (by first | rfl | (refine congrArg Bv ?_; simp [okF, *]; done) | (refine congrArg Bv ?_; simp [okF, *]; omega) | (refine congrArg Bv ?_; simp_all [okF]; done) | (refine congrArg Bv ?_; simp_all [okF]; omega))) rfl (fun _ => trivial)
   ·refine aw_reg [(2, .call [(true, I f.X), (true, I 0), (true, I 255)] true (Bv true)), (6, .call [(true, I f.Y), (true, I 0), (true, I 255)] true (Bv false))] [2] [] [Bv false] [] [Con Try.prog 66 [I f.X, I 0, I 255] true (Bv true) ∧ ((I f.X : AV) = I f.X) ∧ ((I 0 : AV) = I 0) ∧ ((I 255 : AV) = I 255) ∧ True, Con Try.prog 66 [I f.Y, I 0, I 255] true (Bv false) ∧ ((I f.Y : AV) = I f.Y) ∧ ((I 0 : AV) = I 0) ∧ ((I 255 : AV) = I 255) ∧ True] (by kernel_rfl) hB ⟨⟨(con_bool h1 (within_ok f.X 0 255)), rfl, rfl, rfl, trivial⟩, ⟨(con_bool h2 (within_ok f.Y 0 255)), rfl, rfl, rfl, trivial⟩, trivial⟩ ?_
    refine ae_then ?_
    refine aw_ret ?_
    refine ae_ret hB (Bv false) (by kernel_rfl) (.inl (by first | rfl | (refine congrArg Bv ?_; simp [okF, *]; done) | (refine congrArg Bv ?_; simp [okF, *]; omega) | (refine congrArg Bv ?_; simp_all [okF]; done) | (refine congrArg Bv ?_; simp_all [okF]; omega))) rfl (fun _ => trivial)
  ·refine aw_reg [(2, .call [(true, I f.X), (true, I 0), (true, I 255)] true (Bv false))] [2] [] [Bv false] [] [Con Try.prog 66 [I f.X, I 0, I 255] true (Bv false) ∧ ((I f.X : AV) = I f.X) ∧ ((I 0 : AV) = I 0) ∧ ((I 255 : AV) = I 255) ∧ True] (by kernel_rfl) hB ⟨⟨(con_bool h1 (within_ok f.X 0 255)), rfl, rfl, rfl, trivial⟩, trivial⟩ ?_
   refine ae_then ?_
   refine aw_ret ?_
   refine ae_ret hB (Bv false) (by kernel_rfl) (.inl (by first | rfl | (refine congrArg Bv ?_; simp [okF, *]; done) | (refine congrArg Bv ?_; simp [okF, *]; omega) | (refine congrArg Bv ?_; simp_all [okF]; done) | (refine congrArg Bv ?_; simp_all [okF]; omega))) rfl (fun _ => trivial)


-- impl.areFeats$1
theorem areFeats1_ok (f : Feat) : Con Try.prog 154 [agFeat f] true (Bv (!(okF f))) := by
  refine fn_ok (fn := Try.f154) (nt := 6) Try.func154 rfl rfl rfl rfl (by simp [taggedL, tagged]) fun B hB => ?_
  refine aw_seq ?_
  refine aw_reg [(0, .new 1)] [1] [1] [.ref 1 0] [some (bxFeat f)] [] (by kernel_rfl) hB trivial ?_
  refine ae_then ?_
  refine aw_seq ?_
  refine aw_reg [(1, .call [(true, agFeat f)] true (Bv (okF f)))] [2] [] [Bv (!(okF f))] [] [Con Try.prog 155 [agFeat f] true (Bv (okF f)) ∧ ((agFeat f : AV) = agFeat f) ∧ True] (by kernel_rfl) hB ⟨⟨(ValidFeat_ok f), rfl, trivial⟩, trivial⟩ ?_
  refine ae_then ?_
  refine aw_ret ?_
  refine ae_ret hB (Bv (!(okF f))) (by kernel_rfl) (.inl rfl) rfl (fun _ => trivial)


/-- The first number below n that p holds of, or -1. -/
def firstN (n : Nat) (p : Nat → Bool) : Int := match (List.range n).find? p with
  | some i => i
  | none => -1
theorem firstN_hit {n : Nat} {p : Nat → Bool} {k : Nat} (hk : k < n) (hp : p k = true) (hn : ∀ i, i < k → p i = false) : firstN n p = k := by
  have h : (List.range n).find? p = some k := by
    rw [List.find?_range_eq_some]
    exact ⟨hp, List.mem_range.2 hk, fun j hj => by simpa using hn j hj⟩
  simp [firstN, h]
theorem firstN_none {n : Nat} {p : Nat → Bool} (hn : ∀ i, i < n → p i = false) : firstN n p = -1 := by
  have h : (List.range n).find? p = none := by
    rw [List.find?_range_eq_none]
    intro i hi; simpa using hn i hi
  simp [firstN, h]
theorem firstN_cases (n : Nat) (p : Nat → Bool) : (firstN n p = -1 ∧ ∀ i, i < n → p i = false) ∨ ∃ k : Nat, firstN n p = k ∧ k < n ∧ p k = true ∧ ∀ i, i < k → p i = false := by
  by_cases h : ∃ k, k < n ∧ p k = true
  · right
    obtain ⟨k, hk, hp⟩ := h
    cases e : (List.range n).find? p with
    | none => rw [List.find?_range_eq_none] at e; exact absurd hp (by simpa using e k hk)
    | some i =>
      have e' := e
      rw [List.find?_range_eq_some] at e
      exact ⟨i, by simp [firstN, e'], List.mem_range.1 e.2.1, e.1, fun j hj => by simpa using e.2.2 j hj⟩
  · left
    have h' : ∀ i, i < n → p i = false := fun i hi => by rw [← Bool.not_eq_true]; exact fun hp => h ⟨i, hi, hp⟩
    exact ⟨firstN_none h', h'⟩
theorem firstN_any (n : Nat) (p : Nat → Bool) : decide (0 ≤ firstN n p) = anyN n p := by
  rcases firstN_cases n p with ⟨h1, h2⟩ | ⟨k, h1, h2, h3, _⟩
  · rw [h1, anyN_none h2]; decide
  · rw [h1, anyN_at h2 h3]; simp

-- impl.areFeats
theorem containsFeat_ok_idx (s : List Feat) : Con Try.prog 166 [slFeat false s, .fn 154 []] true (I (firstN s.length (fun j => (!(okF (at_ s j)))))) := by
  refine fn_ok (fn := Try.f166) (nt := 19) Try.func166 rfl rfl rfl rfl (by simp [taggedL, tagged, tagFeat]) fun B hB => ?_
  refine aw_lens (x := slFeat false s) 0 rfl (fun len_s => ?_)
  simp [LenOK, LenL, cFeat, fFeat, slFeat] at len_s
  refine aw_seq ?_
  refine aw_reg [] [0, 1] [] [slFeat false s, .fn 154 []] [] [] (by kernel_rfl) hB trivial ?_
  refine ae_then ?_
  refine aw_seq ?_
  refine aw_seq ?_
  refine aw_reg [] [0, 1, 7, 8] [] [slFeat false s, .fn 154 [], I (s.length : Int), I 0] [] [] (by kernel_rfl) hB trivial ?_
  refine ae_then ?_
  refine aw_block ?_
  refine aw_loop (fun gn gσ => ∃ (t8 : Int), gn = ((s.length : Int) - t8).toNat ∧ (0 ≤ t8 ∧ t8 ≤ (s.length : Int)) ∧ (∀ j : Nat, (j : Int) < t8 → (!(okF (at_ s j))) = false) ∧ gσ = mkS [(0, slFeat false s), (1, .fn 154 []), (7, I (s.length : Int)), (8, I t8)] []) (((s.length : Int) - 0).toNat) ⟨0, rfl, (by omega), (by intro j hj; omega), rfl⟩ (fun gn gσ hI => ?_)
  obtain ⟨t8, rfl, hi0, hall0, rfl⟩ := hI
  refine aw_seq ?_
  by_cases h1 : t8 < (s.length : Int)
  ·have hi : t8.toNat < s.length := by omega
   refine aw_reg [(0, .dec true)] [0, 1, 7, 8, 9] [] [slFeat false s, .fn 154 [], I (s.length : Int), I t8, Bv true] [] [t8 < (s.length : Int)] (by kernel_rfl) hB ⟨h1, trivial⟩ ?_
   refine ae_then ?_
   refine aw_seq ?_
   refine aw_true rfl ?_
   refine aw_skip ?_
   refine ae_then ?_
   refine aw_seq ?_
   refine aw_block ?_
   refine aw_seq ?_
   refine aw_reg [] [0, 1, 5, 7, 8] [] [slFeat false s, .fn 154 [], I t8, I (s.length : Int), I t8] [] [] (by kernel_rfl) hB trivial ?_
   refine ae_then ?_
   refine aw_seq ?_
   rcases Bool.eq_false_or_eq_true (!(okF (at_ s t8.toNat))) with h2 | h2
   ·have hfin : firstN s.length (fun j => (!(okF (at_ s j)))) = t8.toNat := firstN_hit hi h2 (fun j hj => hall0 j (by omega))
    refine aw_reg [(5, .call [(true, agFeat (at_ s t8.toNat))] true (Bv true))] [0, 1, 5, 7, 8, 16] [] [slFeat false s, .fn 154 [], I t8, I (s.length : Int), I t8, Bv true] [] [(0 : Int) ≤ t8 ∧ t8 < (s.length : Int), Con Try.prog 154 [agFeat (at_ s t8.toNat)] true (Bv true) ∧ ((agFeat (at_ s t8.toNat) : AV) = agFeat (at_ s t8.toNat)) ∧ True] (by kernel_rfl) hB ⟨⟨(by omega), (by omega)⟩, ⟨(con_bool h2 (areFeats1_ok (at_ s t8.toNat))), rfl, trivial⟩, trivial⟩ ?_
    refine ae_then ?_
    refine aw_true rfl ?_
    refine aw_seq ?_
    refine aw_reg [] [4] [] [I t8] [] [] (by kernel_rfl) hB trivial ?_
    refine ae_then ?_
    refine aw_ret ?_
    refine ae_ret_block (ae_ret_then (ae_ret_then (ae_ret_block (ae_ret_then ?_))))
    refine ae_ret hB (I t8) (by kernel_rfl) (.inl (by refine congrArg I ?_; first | (rw [hfin]; done) | (rw [hfin]; omega))) rfl (fun _ => trivial)
   ·refine aw_reg [(5, .call [(true, agFeat (at_ s t8.toNat))] true (Bv false))] [0, 1, 5, 7, 8, 16] [] [slFeat false s, .fn 154 [], I t8, I (s.length : Int), I t8, Bv false] [] [(0 : Int) ≤ t8 ∧ t8 < (s.length : Int), Con Try.prog 154 [agFeat (at_ s t8.toNat)] true (Bv false) ∧ ((agFeat (at_ s t8.toNat) : AV) = agFeat (at_ s t8.toNat)) ∧ True] (by kernel_rfl) hB ⟨⟨(by omega), (by omega)⟩, ⟨(con_bool h2 (areFeats1_ok (at_ s t8.toNat))), rfl, trivial⟩, trivial⟩ ?_
    refine ae_then ?_
    refine aw_false rfl ?_
    refine aw_skip ?_
    refine ae_block 1 ?_
    refine ae_then ?_
    refine aw_reg [] [0, 1, 7, 8] [] [slFeat false s, .fn 154 [], I (s.length : Int), I (t8 + 1)] [] [inR .i64 (t8 + 1)] (by kernel_rfl) hB ⟨(inR_i64 (by omega) (by omega)), trivial⟩ ?_
    exact ae_again _ (by omega) ⟨(t8 + 1), rfl, (by omega), (by intro j hj; by_cases ej : j = t8.toNat; (subst ej; assumption); exact hall0 j (by omega)), rfl⟩
  ·have hfin : firstN s.length (fun j => (!(okF (at_ s j)))) = -1 := firstN_none (fun j hj => hall0 j (by omega))
   refine aw_reg [(0, .dec false)] [0, 1, 7, 8, 9] [] [slFeat false s, .fn 154 [], I (s.length : Int), I t8, Bv false] [] [¬ (t8 < (s.length : Int))] (by kernel_rfl) hB ⟨h1, trivial⟩ ?_
   refine ae_then ?_
   refine aw_seq ?_
   refine aw_false rfl ?_
   refine aw_exit ?_
   refine ae_exit_then ?_
   refine ae_exit_then ?_
   refine ae_exit_same ?_
   refine ae_then ?_
   refine aw_seq ?_
   refine aw_reg [] [4] [] [I (-1)] [] [] (by kernel_rfl) hB trivial ?_
   refine ae_then ?_
   refine aw_ret ?_
   refine ae_ret hB (I (-1)) (by kernel_rfl) (.inl (by refine congrArg I ?_; first | (rw [hfin]; done) | (rw [hfin]; omega))) rfl (fun _ => trivial)

theorem containsFeat_ok (s : List Feat) : Con Try.prog 153 [slFeat false s, .fn 154 []] true (Bv (anyN s.length (fun j => (!(okF (at_ s j)))))) := by
  refine fn_ok (fn := Try.f153) (nt := 9) Try.func153 rfl rfl rfl rfl (by simp [taggedL, tagged, tagFeat]) fun B hB => ?_
  refine aw_lens (x := slFeat false s) 0 rfl (fun len_s => ?_)
  simp [LenOK, LenL, cFeat, fFeat, slFeat] at len_s
  refine aw_seq ?_
  refine aw_reg [] [0, 1] [] [slFeat false s, .fn 154 []] [] [] (by kernel_rfl) hB trivial ?_
  refine ae_then ?_
  refine aw_seq ?_
  refine aw_reg [(2, .call [(true, slFeat false s), (true, .fn 154 [])] true (I (firstN s.length (fun j => (!(okF (at_ s j)))))))] [4] [] [Bv (decide (0 ≤ (firstN s.length (fun j => (!(okF (at_ s j)))))))] [] [Con Try.prog 166 [slFeat false s, .fn 154 []] true (I (firstN s.length (fun j => (!(okF (at_ s j)))))) ∧ ((slFeat false s : AV) = slFeat false s) ∧ ((.fn 154 [] : AV) = .fn 154 []) ∧ True] (by kernel_rfl) hB ⟨⟨(containsFeat_ok_idx s), rfl, rfl, trivial⟩, trivial⟩ ?_
  refine ae_then ?_
  refine aw_ret ?_
  refine ae_ret hB (Bv (decide (0 ≤ (firstN s.length (fun j => (!(okF (at_ s j)))))))) (by kernel_rfl) (.inl (by exact congrArg Bv (firstN_any _ _))) rfl (fun _ => trivial)

theorem areFeats_ok (list : List Feat) (most : Int) : Con Try.prog 132 [slFeat false list, I most] true (Bv (okFeats list most)) := by
  refine fn_ok (fn := Try.f132) (nt := 19) Try.func132 rfl rfl rfl rfl (by simp [taggedL, tagged, tagFeat]) fun B hB => ?_
  refine aw_lens (x := slFeat false list) 0 rfl (fun len_list => ?_)
  simp [LenOK, LenL, cFeat, fFeat, slFeat] at len_list
  refine aw_seq ?_
  refine aw_reg [] [0, 1] [] [slFeat false list, I most] [] [] (by kernel_rfl) hB trivial ?_
  refine ae_then ?_
  refine aw_seq ?_
  by_cases h1 : 1 ≤ (list.length : Int)
  ·by_cases h2 : (list.length : Int) ≤ most
   ·refine aw_reg [(2, .dec true), (7, .dec true), (11, .call [(true, slFeat false list), (true, .fn 154 [])] true (Bv (anyN list.length (fun j => (!(okF (at_ list j)))))))] [4] [] [Bv (!(anyN list.length (fun j => (!(okF (at_ list j))))))] [] [1 ≤ (list.length : Int), (list.length : Int) ≤ most, Con Try.prog 153 [slFeat false list, .fn 154 []] true (Bv (anyN list.length (fun j => (!(okF (at_ list j)))))) ∧ ((slFeat false list : AV) = slFeat false list) ∧ ((.fn 154 [] : AV) = .fn 154 []) ∧ True] (by kernel_rfl) hB ⟨h1, h2, ⟨(containsFeat_ok list), rfl, rfl, trivial⟩, trivial⟩ ?_
    refine ae_then ?_
    refine aw_ret ?_
    refine ae_ret hB (Bv (!(anyN list.length (fun j => (!(okF (at_ list j))))))) (by kernel_rfl) (.inl (by first | rfl | (refine congrArg Bv ?_; simp [okFeats, anyN_not, *]; done) | (refine congrArg Bv ?_; simp [okFeats, anyN_not, *]; omega) | (refine congrArg Bv ?_; simp_all [okFeats, anyN_not]; done) | (refine congrArg Bv ?_; simp_all [okFeats, anyN_not]; omega))) rfl (fun _ => trivial)
   ·refine aw_reg [(2, .dec true), (7, .dec false)] [4] [] [Bv false] [] [1 ≤ (list.length : Int), ¬ ((list.length : Int) ≤ most)] (by kernel_rfl) hB ⟨h1, h2, trivial⟩ ?_
    refine ae_then ?_
    refine aw_ret ?_
    refine ae_ret hB (Bv false) (by kernel_rfl) (.inl (by first | rfl | (refine congrArg Bv ?_; simp [okFeats, anyN_not, *]; done) | (refine congrArg Bv ?_; simp [okFeats, anyN_not, *]; omega) | (refine congrArg Bv ?_; simp_all [okFeats, anyN_not]; done) | (refine congrArg Bv ?_; simp_all [okFeats, anyN_not]; omega))) rfl (fun _ => trivial)
  ·refine aw_reg [(2, .dec false)] [4] [] [Bv false] [] [¬ (1 ≤ (list.length : Int))] (by kernel_rfl) hB ⟨h1, trivial⟩ ?_
   refine ae_then ?_
   refine aw_ret ?_
   refine ae_ret hB (Bv false) (by kernel_rfl) (.inl (by first | rfl | (refine congrArg Bv ?_; simp [okFeats, anyN_not, *]; done) | (refine congrArg Bv ?_; simp [okFeats, anyN_not, *]; omega) | (refine congrArg Bv ?_; simp_all [okFeats, anyN_not]; done) | (refine congrArg Bv ?_; simp_all [okFeats, anyN_not]; omega))) rfl (fun _ => trivial)


-- impl.ValidSeq
theorem ValidSeq_ok (list : List Feat) : Con Try.prog 94 [slFeat false list] true (Bv (okFeats list 72)) := by
  refine fn_ok (fn := Try.f94) (nt := 5) Try.func94 rfl rfl rfl rfl (by simp [taggedL, tagged, tagFeat]) fun B hB => ?_
  refine aw_lens (x := slFeat false list) 0 rfl (fun len_list => ?_)
  simp [LenOK, LenL, cFeat, fFeat, slFeat] at len_list
  refine aw_seq ?_
  refine aw_reg [] [0] [] [slFeat false list] [] [] (by kernel_rfl) hB trivial ?_
  refine ae_then ?_
  refine aw_seq ?_
  refine aw_reg [(1, .call [(true, slFeat false list), (true, I 72)] true (Bv (okFeats list 72)))] [2] [] [Bv (okFeats list 72)] [] [Con Try.prog 132 [slFeat false list, I 72] true (Bv (okFeats list 72)) ∧ ((slFeat false list : AV) = slFeat false list) ∧ ((I 72 : AV) = I 72) ∧ True] (by kernel_rfl) hB ⟨⟨(areFeats_ok list 72), rfl, rfl, trivial⟩, trivial⟩ ?_
  refine ae_then ?_
  refine aw_ret ?_
  refine ae_ret hB (Bv (okFeats list 72)) (by kernel_rfl) (.inl rfl) rfl (fun _ => trivial)


-- impl.abs
theorem abs_ok (n : Int) (hn : -9223372036854775807 ≤ n ∧ n ≤ 9223372036854775807) : Con Try.prog 57 [I n] true (I (n.natAbs : Int)) := by
  refine fn_ok (fn := Try.f57) (nt := 8) Try.func57 rfl rfl rfl rfl (by simp [taggedL, tagged]) fun B hB => ?_
  refine aw_seq ?_
  refine aw_reg [] [0] [] [I n] [] [] (by kernel_rfl) hB trivial ?_
  refine ae_then ?_
  refine aw_seq ?_
  refine aw_seq ?_
  by_cases h1 : n < 0
  ·refine aw_reg [(1, .dec true)] [0, 4] [] [I n, Bv true] [] [n < 0] (by kernel_rfl) hB ⟨h1, trivial⟩ ?_
   refine ae_then ?_
   refine aw_true rfl ?_
   refine aw_seq ?_
   refine aw_reg [] [2] [] [I (-n)] [] [inR .i64 (-n)] (by kernel_rfl) hB ⟨(inR_i64 (by omega) (by omega)), trivial⟩ ?_
   refine ae_then ?_
   refine aw_ret ?_
   refine ae_ret_then ?_
   refine ae_ret hB (I (-n)) (by kernel_rfl) (.inl (by refine congrArg I ?_; omega)) rfl (fun _ => trivial)
  ·refine aw_reg [(1, .dec false)] [0, 4] [] [I n, Bv false] [] [¬ (n < 0)] (by kernel_rfl) hB ⟨h1, trivial⟩ ?_
   refine ae_then ?_
   refine aw_false rfl ?_
   refine aw_skip ?_
   refine ae_then ?_
   refine aw_seq ?_
   refine aw_reg [] [2] [] [I n] [] [] (by kernel_rfl) hB trivial ?_
   refine ae_then ?_
   refine aw_ret ?_
   refine ae_ret hB (I n) (by kernel_rfl) (.inl (by refine congrArg I ?_; omega)) rfl (fun _ => trivial)


-- impl.near
theorem near_ok (a : Feat) (b : Feat) (ha : okF a = true) (hb : okF b = true) : Con Try.prog 102 [agFeat a, agFeat b] true (Bv (nearB a b)) := by
  have ha' := okF_iff.1 ha
  have hb' := okF_iff.1 hb
  refine fn_ok (fn := Try.f102) (nt := 28) Try.func102 rfl rfl rfl rfl (by simp [taggedL, tagged]) fun B hB => ?_
  refine aw_seq ?_
  refine aw_reg [(0, .new 2), (1, .new 3)] [2, 3] [2, 3] [.ref 2 0, .ref 3 0] [some (bxFeat a), some (bxFeat b)] [] (by kernel_rfl) hB trivial ?_
  refine ae_then ?_
  refine aw_seq ?_
  by_cases h1 : a.D = b.D
  ·by_cases h2 : ((a.X - b.X).natAbs : Int) ≤ 40
   ·refine aw_reg [(4, .dec true), (11, .call [(true, I (a.X - b.X))] true (I ((a.X - b.X).natAbs : Int))), (12, .dec true), (20, .call [(true, I (a.Y - b.Y))] true (I ((a.Y - b.Y).natAbs : Int)))] [4] [] [Bv (decide (((a.Y - b.Y).natAbs : Int) ≤ 40))] [] [a.D = b.D, inR .i64 (a.X - b.X), Con Try.prog 57 [I (a.X - b.X)] true (I ((a.X - b.X).natAbs : Int)) ∧ ((I (a.X - b.X) : AV) = I (a.X - b.X)) ∧ True, ((a.X - b.X).natAbs : Int) ≤ 40, inR .i64 (a.Y - b.Y), Con Try.prog 57 [I (a.Y - b.Y)] true (I ((a.Y - b.Y).natAbs : Int)) ∧ ((I (a.Y - b.Y) : AV) = I (a.Y - b.Y)) ∧ True] (by kernel_rfl) hB ⟨h1, (inR_i64 (by omega) (by omega)), ⟨(abs_ok (a.X - b.X) (by omega)), rfl, trivial⟩, h2, (inR_i64 (by omega) (by omega)), ⟨(abs_ok (a.Y - b.Y) (by omega)), rfl, trivial⟩, trivial⟩ ?_
    refine ae_then ?_
    refine aw_ret ?_
    refine ae_ret hB (Bv (decide (((a.Y - b.Y).natAbs : Int) ≤ 40))) (by kernel_rfl) (.inl (by first | rfl | (refine congrArg Bv ?_; simp [nearB, *]; done) | (refine congrArg Bv ?_; simp [nearB, *]; omega) | (refine congrArg Bv ?_; simp_all [nearB]; done) | (refine congrArg Bv ?_; simp_all [nearB]; omega))) rfl (fun _ => trivial)
   ·refine aw_reg [(4, .dec true), (11, .call [(true, I (a.X - b.X))] true (I ((a.X - b.X).natAbs : Int))), (12, .dec false)] [4] [] [Bv false] [] [a.D = b.D, inR .i64 (a.X - b.X), Con Try.prog 57 [I (a.X - b.X)] true (I ((a.X - b.X).natAbs : Int)) ∧ ((I (a.X - b.X) : AV) = I (a.X - b.X)) ∧ True, ¬ (((a.X - b.X).natAbs : Int) ≤ 40)] (by kernel_rfl) hB ⟨h1, (inR_i64 (by omega) (by omega)), ⟨(abs_ok (a.X - b.X) (by omega)), rfl, trivial⟩, h2, trivial⟩ ?_
    refine ae_then ?_
    refine aw_ret ?_
    refine ae_ret hB (Bv false) (by kernel_rfl) (.inl (by first | rfl | (refine congrArg Bv ?_; simp [nearB, *]; done) | (refine congrArg Bv ?_; simp [nearB, *]; omega) | (refine congrArg Bv ?_; simp_all [nearB]; done) | (refine congrArg Bv ?_; simp_all [nearB]; omega))) rfl (fun _ => trivial)
  ·refine aw_reg [(4, .dec false)] [4] [] [Bv false] [] [¬ (a.D = b.D)] (by kernel_rfl) hB ⟨h1, trivial⟩ ?_
   refine ae_then ?_
   refine aw_ret ?_
   refine ae_ret hB (Bv false) (by kernel_rfl) (.inl (by first | rfl | (refine congrArg Bv ?_; simp [nearB, *]; done) | (refine congrArg Bv ?_; simp [nearB, *]; omega) | (refine congrArg Bv ?_; simp_all [nearB]; done) | (refine congrArg Bv ?_; simp_all [nearB]; omega))) rfl (fun _ => trivial)


-- impl.ValidTrained
theorem equalNear_ok (s1 : List Feat) (s2 : List Feat) (hel : ∀ j, j < s1.length → j < s2.length → okF (at_ s1 j) = true ∧ okF (at_ s2 j) = true) : Con Try.prog 101 [slFeat false s1, slFeat false s2, .fn 102 []] true (Bv (decide (s1.length = s2.length) && allN s1.length (fun j => nearB (at_ s1 j) (at_ s2 j)))) := by
  refine fn_ok (fn := Try.f101) (nt := 32) Try.func101 rfl rfl rfl rfl (by simp [taggedL, tagged, tagFeat]) fun B hB => ?_
  refine aw_lens (x := slFeat false s1) 0 rfl (fun len_s1 => ?_)
  simp [LenOK, LenL, cFeat, fFeat, slFeat] at len_s1
  refine aw_lens (x := slFeat false s2) 1 rfl (fun len_s2 => ?_)
  simp [LenOK, LenL, cFeat, fFeat, slFeat] at len_s2
  refine aw_seq ?_
  refine aw_reg [] [0, 1, 2] [] [slFeat false s1, slFeat false s2, .fn 102 []] [] [] (by kernel_rfl) hB trivial ?_
  refine ae_then ?_
  refine aw_seq ?_
  refine aw_seq ?_
  by_cases h1 : (s1.length : Int) = (s2.length : Int)
  ·have hle :  s1.length = s2.length := by omega
   refine aw_reg [(4, .dec false)] [0, 1, 2, 14] [] [slFeat false s1, slFeat false s2, .fn 102 [], Bv false] [] [¬ ((s1.length : Int) ≠ (s2.length : Int))] (by kernel_rfl) hB ⟨(fun hq => hq h1), trivial⟩ ?_
   refine ae_then ?_
   refine aw_false rfl ?_
   refine aw_skip ?_
   refine ae_then ?_
   refine aw_seq ?_
   refine aw_seq ?_
   refine aw_reg [] [1, 2, 15, 16, 17] [] [slFeat false s2, .fn 102 [], slFeat false s1, I (s1.length : Int), I 0] [] [] (by kernel_rfl) hB trivial ?_
   refine ae_then ?_
   refine aw_block ?_
   refine aw_loop (fun gn gσ => ∃ (t17 : Int), gn = ((s1.length : Int) - t17).toNat ∧ (0 ≤ t17 ∧ t17 ≤ (s1.length : Int)) ∧ (∀ j : Nat, (j : Int) < t17 → nearB (at_ s1 j) (at_ s2 j) = true) ∧ gσ = mkS [(1, slFeat false s2), (2, .fn 102 []), (15, slFeat false s1), (16, I (s1.length : Int)), (17, I t17)] []) (((s1.length : Int) - 0).toNat) ⟨0, rfl, (by omega), (by intro j hj; omega), rfl⟩ (fun gn gσ hI => ?_)
   obtain ⟨t17, rfl, hi0, hall0, rfl⟩ := hI
   refine aw_seq ?_
   by_cases h2 : t17 < (s1.length : Int)
   ·have hi : t17.toNat < s1.length := by omega
    have hi2 : t17.toNat < s2.length := by omega
    refine aw_reg [(0, .dec true)] [1, 2, 15, 16, 17, 18] [] [slFeat false s2, .fn 102 [], slFeat false s1, I (s1.length : Int), I t17, Bv true] [] [t17 < (s1.length : Int)] (by kernel_rfl) hB ⟨h2, trivial⟩ ?_
    refine ae_then ?_
    refine aw_seq ?_
    refine aw_true rfl ?_
    refine aw_skip ?_
    refine ae_then ?_
    refine aw_seq ?_
    refine aw_block ?_
    refine aw_seq ?_
    refine aw_reg [(3, .new 8)] [1, 2, 7, 8, 15, 16, 17] [8] [slFeat false s2, .fn 102 [], I t17, .ref 8 0, slFeat false s1, I (s1.length : Int), I t17] [some (bxFeat (at_ s1 t17.toNat))] [(0 : Int) ≤ t17 ∧ t17 < (s1.length : Int)] (by kernel_rfl) hB ⟨⟨(by omega), (by omega)⟩, trivial⟩ ?_
    refine ae_then ?_
    refine aw_seq ?_
    refine aw_reg [(4, .new 9)] [1, 2, 8, 9, 15, 16, 17] [8, 9] [slFeat false s2, .fn 102 [], .ref 8 0, .ref 9 0, slFeat false s1, I (s1.length : Int), I t17] [some (bxFeat (at_ s1 t17.toNat)), some (bxFeat (at_ s2 t17.toNat))] [(0 : Int) ≤ t17 ∧ t17 < (s2.length : Int)] (by kernel_rfl) hB ⟨⟨(by omega), (by omega)⟩, trivial⟩ ?_
    refine ae_then ?_
    refine aw_seq ?_
    rcases Bool.eq_false_or_eq_true (nearB (at_ s1 t17.toNat) (at_ s2 t17.toNat)) with h3 | h3
    ·refine aw_reg [(3, .call [(true, agFeat (at_ s1 t17.toNat)), (true, agFeat (at_ s2 t17.toNat))] true (Bv true))] [1, 2, 15, 16, 17, 30] [] [slFeat false s2, .fn 102 [], slFeat false s1, I (s1.length : Int), I t17, Bv false] [] [Con Try.prog 102 [agFeat (at_ s1 t17.toNat), agFeat (at_ s2 t17.toNat)] true (Bv true) ∧ ((agFeat (at_ s1 t17.toNat) : AV) = agFeat (at_ s1 t17.toNat)) ∧ ((agFeat (at_ s2 t17.toNat) : AV) = agFeat (at_ s2 t17.toNat)) ∧ True] (by kernel_rfl) hB ⟨⟨(con_bool h3 (near_ok (at_ s1 t17.toNat) (at_ s2 t17.toNat) (hel _ hi hi2).1 (hel _ hi hi2).2)), rfl, rfl, trivial⟩, trivial⟩ ?_
     refine ae_then ?_
     refine aw_false rfl ?_
     refine aw_skip ?_
     refine ae_block 1 ?_
     refine ae_then ?_
     refine aw_reg [] [1, 2, 15, 16, 17] [] [slFeat false s2, .fn 102 [], slFeat false s1, I (s1.length : Int), I (t17 + 1)] [] [inR .i64 (t17 + 1)] (by kernel_rfl) hB ⟨(inR_i64 (by omega) (by omega)), trivial⟩ ?_
     exact ae_again _ (by omega) ⟨(t17 + 1), rfl, (by omega), (by intro j hj; by_cases ej : j = t17.toNat; (subst ej; assumption); exact hall0 j (by omega)), rfl⟩
    ·have hfin : allN s1.length (fun j => nearB (at_ s1 j) (at_ s2 j)) = false := allN_not hi h3
     refine aw_reg [(3, .call [(true, agFeat (at_ s1 t17.toNat)), (true, agFeat (at_ s2 t17.toNat))] true (Bv false))] [1, 2, 15, 16, 17, 30] [] [slFeat false s2, .fn 102 [], slFeat false s1, I (s1.length : Int), I t17, Bv true] [] [Con Try.prog 102 [agFeat (at_ s1 t17.toNat), agFeat (at_ s2 t17.toNat)] true (Bv false) ∧ ((agFeat (at_ s1 t17.toNat) : AV) = agFeat (at_ s1 t17.toNat)) ∧ ((agFeat (at_ s2 t17.toNat) : AV) = agFeat (at_ s2 t17.toNat)) ∧ True] (by kernel_rfl) hB ⟨⟨(con_bool h3 (near_ok (at_ s1 t17.toNat) (at_ s2 t17.toNat) (hel _ hi hi2).1 (hel _ hi hi2).2)), rfl, rfl, trivial⟩, trivial⟩ ?_
     refine ae_then ?_
     refine aw_true rfl ?_
     refine aw_seq ?_
     refine aw_reg [] [6] [] [Bv false] [] [] (by kernel_rfl) hB trivial ?_
     refine ae_then ?_
     refine aw_ret ?_
     refine ae_ret_block (ae_ret_then (ae_ret_then (ae_ret_block (ae_ret_then ?_))))
     refine ae_ret hB (Bv false) (by kernel_rfl) (.inl (by refine congrArg Bv ?_; first | (rw [hfin, decide_eq_true hle]; rfl) | (rw [hfin, Bool.and_false]) | (rw [decide_eq_false hle, Bool.false_and]))) rfl (fun _ => trivial)
   ·have hfin : allN s1.length (fun j => nearB (at_ s1 j) (at_ s2 j)) = true := allN_at (fun j hj => hall0 j (by omega))
    have hle : s1.length = s2.length := by omega
    refine aw_reg [(0, .dec false)] [1, 2, 15, 16, 17, 18] [] [slFeat false s2, .fn 102 [], slFeat false s1, I (s1.length : Int), I t17, Bv false] [] [¬ (t17 < (s1.length : Int))] (by kernel_rfl) hB ⟨h2, trivial⟩ ?_
    refine ae_then ?_
    refine aw_seq ?_
    refine aw_false rfl ?_
    refine aw_exit ?_
    refine ae_exit_then ?_
    refine ae_exit_then ?_
    refine ae_exit_same ?_
    refine ae_then ?_
    refine aw_seq ?_
    refine aw_reg [] [6] [] [Bv true] [] [] (by kernel_rfl) hB trivial ?_
    refine ae_then ?_
    refine aw_ret ?_
    refine ae_ret hB (Bv true) (by kernel_rfl) (.inl (by refine congrArg Bv ?_; first | (rw [hfin, decide_eq_true hle]; rfl) | (rw [hfin, Bool.and_false]) | (rw [decide_eq_false hle, Bool.false_and]))) rfl (fun _ => trivial)
  ·have hle : ¬ s1.length = s2.length := by omega
   refine aw_reg [(4, .dec true)] [0, 1, 2, 14] [] [slFeat false s1, slFeat false s2, .fn 102 [], Bv true] [] [(s1.length : Int) ≠ (s2.length : Int)] (by kernel_rfl) hB ⟨h1, trivial⟩ ?_
   refine ae_then ?_
   refine aw_true rfl ?_
   refine aw_seq ?_
   refine aw_reg [] [6] [] [Bv false] [] [] (by kernel_rfl) hB trivial ?_
   refine ae_then ?_
   refine aw_ret ?_
   refine ae_ret_then ?_
   refine ae_ret hB (Bv false) (by kernel_rfl) (.inl (by refine congrArg Bv ?_; first | (rw [hfin, decide_eq_true hle]; rfl) | (rw [hfin, Bool.and_false]) | (rw [decide_eq_false hle, Bool.false_and]))) rfl (fun _ => trivial)

theorem ValidTrained_ok (t : Trained) (ok : okTrained t) : Con Try.prog 56 [agTrained t] true (Bv (okTrained' t)) := by
  refine fn_ok (fn := Try.f56) (nt := 28) Try.func56 rfl rfl rfl rfl (by simp [taggedL, tagged, tagFeat]) fun B hB => ?_
  refine aw_lens (x := agTrained t) 0 rfl (fun len_t => ?_)
  simp [LenOK, LenL, cFeat, fFeat, slFeat] at len_t
  refine aw_seq ?_
  refine aw_reg [(0, .new 1)] [1] [1] [.ref 1 0] [some (bxTrained t)] [] (by kernel_rfl) hB trivial ?_
  refine ae_then ?_
  refine aw_seq ?_
  rcases Bool.eq_false_or_eq_true (okLabel t.Label) with h1 | h1
  ·rcases Bool.eq_false_or_eq_true (okFeats t.Base 72) with h2 | h2
   ·rcases Bool.eq_false_or_eq_true (okFeats t.Feats 72) with h3 | h3
    ·rcases Bool.eq_false_or_eq_true (decide (t.Base.length = t.Feats.length) && allN t.Base.length (fun j => nearB (at_ t.Base j) (at_ t.Feats j))) with h4 | h4
     ·refine aw_reg [(2, .call [(true, Sv t.Label)] true (Bv true)), (6, .call [(true, slFeat false t.Base)] true (Bv true)), (11, .call [(true, slFeat false t.Feats)] true (Bv true)), (18, .call [(true, slFeat false t.Base), (true, slFeat false t.Feats), (true, .fn 102 [])] true (Bv true)), (23, .call [(true, I t.Count), (true, I 0), (true, I 100)] true (Bv (inB t.Count 0 100)))] [2] [] [Bv (inB t.Count 0 100)] [] [Con Try.prog 100 [Sv t.Label] true (Bv true) ∧ ((Sv t.Label : AV) = Sv t.Label) ∧ True, Con Try.prog 94 [slFeat false t.Base] true (Bv true) ∧ ((slFeat false t.Base : AV) = slFeat false t.Base) ∧ True, Con Try.prog 94 [slFeat false t.Feats] true (Bv true) ∧ ((slFeat false t.Feats : AV) = slFeat false t.Feats) ∧ True, Con Try.prog 101 [slFeat false t.Base, slFeat false t.Feats, .fn 102 []] true (Bv true) ∧ ((slFeat false t.Base : AV) = slFeat false t.Base) ∧ ((slFeat false t.Feats : AV) = slFeat false t.Feats) ∧ ((.fn 102 [] : AV) = .fn 102 []) ∧ True, Con Try.prog 66 [I t.Count, I 0, I 100] true (Bv (inB t.Count 0 100)) ∧ ((I t.Count : AV) = I t.Count) ∧ ((I 0 : AV) = I 0) ∧ ((I 100 : AV) = I 100) ∧ True] (by kernel_rfl) hB ⟨⟨(con_bool h1 (implIsLabel_ok t.Label ok)), rfl, trivial⟩, ⟨(con_bool h2 (ValidSeq_ok t.Base)), rfl, trivial⟩, ⟨(con_bool h3 (ValidSeq_ok t.Feats)), rfl, trivial⟩, ⟨(con_bool h4 (equalNear_ok t.Base t.Feats (fun j h1 h2 => ⟨okFeats_at (by assumption) h1, okFeats_at (by assumption) h2⟩))), rfl, rfl, rfl, trivial⟩, ⟨(within_ok t.Count 0 100), rfl, rfl, rfl, trivial⟩, trivial⟩ ?_
      refine ae_then ?_
      refine aw_ret ?_
      refine ae_ret hB (Bv (inB t.Count 0 100)) (by kernel_rfl) (.inl (by first | rfl | (refine congrArg Bv ?_; simp [okTrained', inB, *]; done) | (refine congrArg Bv ?_; simp [okTrained', inB, *]; omega) | (refine congrArg Bv ?_; simp_all [okTrained', inB]; done) | (refine congrArg Bv ?_; simp_all [okTrained', inB]; omega))) rfl (fun _ => trivial)
     ·refine aw_reg [(2, .call [(true, Sv t.Label)] true (Bv true)), (6, .call [(true, slFeat false t.Base)] true (Bv true)), (11, .call [(true, slFeat false t.Feats)] true (Bv true)), (18, .call [(true, slFeat false t.Base), (true, slFeat false t.Feats), (true, .fn 102 [])] true (Bv false))] [2] [] [Bv false] [] [Con Try.prog 100 [Sv t.Label] true (Bv true) ∧ ((Sv t.Label : AV) = Sv t.Label) ∧ True, Con Try.prog 94 [slFeat false t.Base] true (Bv true) ∧ ((slFeat false t.Base : AV) = slFeat false t.Base) ∧ True, Con Try.prog 94 [slFeat false t.Feats] true (Bv true) ∧ ((slFeat false t.Feats : AV) = slFeat false t.Feats) ∧ True, Con Try.prog 101 [slFeat false t.Base, slFeat false t.Feats, .fn 102 []] true (Bv false) ∧ ((slFeat false t.Base : AV) = slFeat false t.Base) ∧ ((slFeat false t.Feats : AV) = slFeat false t.Feats) ∧ ((.fn 102 [] : AV) = .fn 102 []) ∧ True] (by kernel_rfl) hB ⟨⟨(con_bool h1 (implIsLabel_ok t.Label ok)), rfl, trivial⟩, ⟨(con_bool h2 (ValidSeq_ok t.Base)), rfl, trivial⟩, ⟨(con_bool h3 (ValidSeq_ok t.Feats)), rfl, trivial⟩, ⟨(con_bool h4 (equalNear_ok t.Base t.Feats (fun j h1 h2 => ⟨okFeats_at (by assumption) h1, okFeats_at (by assumption) h2⟩))), rfl, rfl, rfl, trivial⟩, trivial⟩ ?_
      refine ae_then ?_
      refine aw_ret ?_
      refine ae_ret hB (Bv false) (by kernel_rfl) (.inl (by first | rfl | (refine congrArg Bv ?_; simp [okTrained', inB, *]; done) | (refine congrArg Bv ?_; simp [okTrained', inB, *]; omega) | (refine congrArg Bv ?_; simp_all [okTrained', inB]; done) | (refine congrArg Bv ?_; simp_all [okTrained', inB]; omega))) rfl (fun _ => trivial)
    ·refine aw_reg [(2, .call [(true, Sv t.Label)] true (Bv true)), (6, .call [(true, slFeat false t.Base)] true (Bv true)), (11, .call [(true, slFeat false t.Feats)] true (Bv false))] [2] [] [Bv false] [] [Con Try.prog 100 [Sv t.Label] true (Bv true) ∧ ((Sv t.Label : AV) = Sv t.Label) ∧ True, Con Try.prog 94 [slFeat false t.Base] true (Bv true) ∧ ((slFeat false t.Base : AV) = slFeat false t.Base) ∧ True, Con Try.prog 94 [slFeat false t.Feats] true (Bv false) ∧ ((slFeat false t.Feats : AV) = slFeat false t.Feats) ∧ True] (by kernel_rfl) hB ⟨⟨(con_bool h1 (implIsLabel_ok t.Label ok)), rfl, trivial⟩, ⟨(con_bool h2 (ValidSeq_ok t.Base)), rfl, trivial⟩, ⟨(con_bool h3 (ValidSeq_ok t.Feats)), rfl, trivial⟩, trivial⟩ ?_
     refine ae_then ?_
     refine aw_ret ?_
     refine ae_ret hB (Bv false) (by kernel_rfl) (.inl (by first | rfl | (refine congrArg Bv ?_; simp [okTrained', inB, *]; done) | (refine congrArg Bv ?_; simp [okTrained', inB, *]; omega) | (refine congrArg Bv ?_; simp_all [okTrained', inB]; done) | (refine congrArg Bv ?_; simp_all [okTrained', inB]; omega))) rfl (fun _ => trivial)
   ·refine aw_reg [(2, .call [(true, Sv t.Label)] true (Bv true)), (6, .call [(true, slFeat false t.Base)] true (Bv false))] [2] [] [Bv false] [] [Con Try.prog 100 [Sv t.Label] true (Bv true) ∧ ((Sv t.Label : AV) = Sv t.Label) ∧ True, Con Try.prog 94 [slFeat false t.Base] true (Bv false) ∧ ((slFeat false t.Base : AV) = slFeat false t.Base) ∧ True] (by kernel_rfl) hB ⟨⟨(con_bool h1 (implIsLabel_ok t.Label ok)), rfl, trivial⟩, ⟨(con_bool h2 (ValidSeq_ok t.Base)), rfl, trivial⟩, trivial⟩ ?_
    refine ae_then ?_
    refine aw_ret ?_
    refine ae_ret hB (Bv false) (by kernel_rfl) (.inl (by first | rfl | (refine congrArg Bv ?_; simp [okTrained', inB, *]; done) | (refine congrArg Bv ?_; simp [okTrained', inB, *]; omega) | (refine congrArg Bv ?_; simp_all [okTrained', inB]; done) | (refine congrArg Bv ?_; simp_all [okTrained', inB]; omega))) rfl (fun _ => trivial)
  ·refine aw_reg [(2, .call [(true, Sv t.Label)] true (Bv false))] [2] [] [Bv false] [] [Con Try.prog 100 [Sv t.Label] true (Bv false) ∧ ((Sv t.Label : AV) = Sv t.Label) ∧ True] (by kernel_rfl) hB ⟨⟨(con_bool h1 (implIsLabel_ok t.Label ok)), rfl, trivial⟩, trivial⟩ ?_
   refine ae_then ?_
   refine aw_ret ?_
   refine ae_ret hB (Bv false) (by kernel_rfl) (.inl (by first | rfl | (refine congrArg Bv ?_; simp [okTrained', inB, *]; done) | (refine congrArg Bv ?_; simp [okTrained', inB, *]; omega) | (refine congrArg Bv ?_; simp_all [okTrained', inB]; done) | (refine congrArg Bv ?_; simp_all [okTrained', inB]; omega))) rfl (fun _ => trivial)


-- impl.Feat]
theorem cloneF0_ok (s : List Feat) (hl : s.length ≤ 100000) : ∃ (out : List Feat), (out = s) ∧ CallOK Try.prog 87 [slFeat false s] (lookO []) false (.arr 8311) (lookO [(8311, .arr 3 out.length (fFeat out))]) := by
  refine ⟨s, rfl, ?_⟩
  refine fn_okL [] [(8311, .arr 3 s.length (fFeat s))] (fn := Try.f87) (nt := 8) Try.func87 rfl rfl (args := [slFeat false s]) rfl (allcons (.inl ⟨rfl, tagFeat false _⟩) allnil) (res := .arr 8311) (fun B hB => ?_)
  refine aw_seq ?_
  refine aw_reg [] [0] [] [slFeat false s] [] [] (by kernel_rfl) hB trivial ?_
  refine ae_then ?_
  refine aw_seq ?_
  refine aw_seq ?_
  refine aw_reg [] [0, 4] [] [slFeat false s, .nilq s.length] [] [] (by kernel_rfl) hB trivial ?_
  refine ae_then ?_
  refine aw_nilq (n := s.length) rfl (fun h1 => ?_) ?_
  · refine aw_seq ?_
    refine aw_reg [] [2] [] [nilA] [] [] (by kernel_rfl) hB trivial ?_
    refine ae_then ?_
    refine aw_ret ?_
    refine ae_ret_then ?_
    refine ae_nil hB 2 8311 3 (fun _ => []) (by kernel_rfl) ?_
    refine ae_weak hB [] (T := [(2, .arr 8311)]) (O := [(8311, .arr 3 s.length (fFeat s))]) rfl (⟨.inl rfl, trivial⟩) (⟨.inr ⟨rfl, (by omega), fun i_ hi_ => absurd hi_ (by omega)⟩, trivial⟩) ?_
    refine ae_retL hB [(8311, .arr 3 s.length (fFeat s))] (⟨.inl rfl, trivial⟩) (.arr 8311) (by kernel_rfl) (.inl rfl) (fun h => by cases h) (fun h => by cases h)
  · refine aw_skip ?_
    refine ae_then ?_
    refine aw_seq ?_
    refine aw_reg [(0, .new 5), (2, .new 7)] [2] [7] [.arr 7] [some (.arr 3 (0 + s.length) (catF 0 (litF [] 3) (fFeat s)))] [(0 + s.length) * 24 ≤ 140737488355328] (by kernel_rfl) hB ⟨(by omega), trivial⟩ ?_
    refine ae_then ?_
    refine aw_ret ?_
    refine ae_weak hB [(8311, 7)] (T := [(2, .arr 8311)]) (O := [(8311, .arr 3 s.length (fFeat s))]) rfl (⟨.inl rfl, trivial⟩) (⟨.inr ⟨rfl, (by simp), fun i_ hi_ => .inl (cat_nil i_)⟩, trivial⟩) ?_
    refine ae_retL hB [(8311, .arr 3 s.length (fFeat s))] (⟨.inl rfl, trivial⟩) (.arr 8311) (by kernel_rfl) (.inl rfl) (fun h => by cases h) (fun h => by cases h)

theorem cloneF1_ok (s : List Feat) (hl : s.length ≤ 100000) : ∃ (out : List Feat), (out = s) ∧ CallOK Try.prog 87 [slFeat false s] (lookO []) false (.arr 8312) (lookO [(8312, .arr 3 out.length (fFeat out))]) := by
  refine ⟨s, rfl, ?_⟩
  refine fn_okL [] [(8312, .arr 3 s.length (fFeat s))] (fn := Try.f87) (nt := 8) Try.func87 rfl rfl (args := [slFeat false s]) rfl (allcons (.inl ⟨rfl, tagFeat false _⟩) allnil) (res := .arr 8312) (fun B hB => ?_)
  refine aw_seq ?_
  refine aw_reg [] [0] [] [slFeat false s] [] [] (by kernel_rfl) hB trivial ?_
  refine ae_then ?_
  refine aw_seq ?_
  refine aw_seq ?_
  refine aw_reg [] [0, 4] [] [slFeat false s, .nilq s.length] [] [] (by kernel_rfl) hB trivial ?_
  refine ae_then ?_
  refine aw_nilq (n := s.length) rfl (fun h1 => ?_) ?_
  · refine aw_seq ?_
    refine aw_reg [] [2] [] [nilA] [] [] (by kernel_rfl) hB trivial ?_
    refine ae_then ?_
    refine aw_ret ?_
    refine ae_ret_then ?_
    refine ae_nil hB 2 8312 3 (fun _ => []) (by kernel_rfl) ?_
    refine ae_weak hB [] (T := [(2, .arr 8312)]) (O := [(8312, .arr 3 s.length (fFeat s))]) rfl (⟨.inl rfl, trivial⟩) (⟨.inr ⟨rfl, (by omega), fun i_ hi_ => absurd hi_ (by omega)⟩, trivial⟩) ?_
    refine ae_retL hB [(8312, .arr 3 s.length (fFeat s))] (⟨.inl rfl, trivial⟩) (.arr 8312) (by kernel_rfl) (.inl rfl) (fun h => by cases h) (fun h => by cases h)
  · refine aw_skip ?_
    refine ae_then ?_
    refine aw_seq ?_
    refine aw_reg [(0, .new 5), (2, .new 7)] [2] [7] [.arr 7] [some (.arr 3 (0 + s.length) (catF 0 (litF [] 3) (fFeat s)))] [(0 + s.length) * 24 ≤ 140737488355328] (by kernel_rfl) hB ⟨(by omega), trivial⟩ ?_
    refine ae_then ?_
    refine aw_ret ?_
    refine ae_weak hB [(8312, 7)] (T := [(2, .arr 8312)]) (O := [(8312, .arr 3 s.length (fFeat s))]) rfl (⟨.inl rfl, trivial⟩) (⟨.inr ⟨rfl, (by simp), fun i_ hi_ => .inl (cat_nil i_)⟩, trivial⟩) ?_
    refine ae_retL hB [(8312, .arr 3 s.length (fFeat s))] (⟨.inl rfl, trivial⟩) (.arr 8312) (by kernel_rfl) (.inl rfl) (fun h => by cases h) (fun h => by cases h)


-- impl.startTrained
theorem startTrained_ok (t : Template) (hl : t.Feats.length ≤ 72) : ∃ (bs : List Feat) (fs : List Feat), (bs = t.Feats) ∧ (fs = t.Feats) ∧ CallOK Try.prog 61 [agTemplate t] (lookO []) false (.agg [Sv t.Label, .arr 8311, .arr 8312, I 0]) (lookO [(8311, .arr 3 bs.length (fFeat bs)), (8312, .arr 3 fs.length (fFeat fs))]) := by
  have hh : ∃ r : (List Feat) × (List Feat), ((r.1 = t.Feats) ∧ (r.2 = t.Feats) ∧ (True)) ∧ CallOK Try.prog 61 [agTemplate t] (lookO []) false (.agg [Sv t.Label, .arr 8311, .arr 8312, I 0]) (lookO [(8311, .arr 3 r.1.length (fFeat r.1)), (8312, .arr 3 r.2.length (fFeat r.2))]) := by
    refine fn_okX (Φ := fun r : (List Feat) × (List Feat) => (r.1 = t.Feats) ∧ (r.2 = t.Feats) ∧ (True)) [] (fun r => [(8311, .arr 3 r.1.length (fFeat r.1)), (8312, .arr 3 r.2.length (fFeat r.2))]) (fn := Try.f61) (nt := 12) Try.func61 rfl rfl (args := [agTemplate t]) rfl (allcons (.inl ⟨rfl, by simp [tagged, taggedL, tagFeat]⟩) allnil) (res := fun r => .agg [Sv t.Label, .arr 8311, .arr 8312, I 0]) ?_
    refine x_seq ?_
    refine x_reg [(0, .new 1), (1, .new 2)] [1, 2] [1, 2] [.ref 1 0, .ref 2 0] [some (bxTemplate t), some (.box [Sv (⟨#[]⟩ : ByteArray), nilA, nilA, I 0])] [] (by kernel_rfl) trivial ?_
    refine xe_then ?_
    refine x_seq ?_
    obtain ⟨out_1, hx1_0, hc1⟩ := cloneF0_ok t.Feats (by omega)
    obtain ⟨out_2, hx2_0, hc2⟩ := cloneF1_ok t.Feats (by omega)
    refine x_reg [(4, .lend [] [(8311, .arr 3 out_1.length (fFeat out_1))] [(true, slFeat false t.Feats)] false (.arr 8311)), (7, .lend [] [(8312, .arr 3 out_2.length (fFeat out_2))] [(true, slFeat false t.Feats)] false (.arr 8312))] [2] [2, 8311, 8312] [.ref 2 0] [some (.box [Sv t.Label, .arr 8311, .arr 8312, I 0]), some (.arr 3 out_1.length (fFeat out_1)), some (.arr 3 out_2.length (fFeat out_2))] [CallOK Try.prog 87 [slFeat false t.Feats] (lookO []) false (.arr 8311) (lookO [(8311, .arr 3 out_1.length (fFeat out_1))]) ∧ ((slFeat false t.Feats : AV) = slFeat false t.Feats) ∧ True, CallOK Try.prog 87 [slFeat false t.Feats] (lookO []) false (.arr 8312) (lookO [(8312, .arr 3 out_2.length (fFeat out_2))]) ∧ ((slFeat false t.Feats : AV) = slFeat false t.Feats) ∧ True] (by kernel_rfl) ⟨⟨hc1, rfl, trivial⟩, ⟨hc2, rfl, trivial⟩, trivial⟩ ?_
    refine xe_then ?_
    refine x_ret ?_
    refine xe_end (out_1, out_2) (show (out_1 = t.Feats) ∧ (out_2 = t.Feats) ∧ (True) from ⟨(by assumption), (by assumption), trivial⟩) (⟨.inl rfl, .inl rfl, trivial⟩) (.agg [Sv t.Label, .arr 8311, .arr 8312, I 0]) (by kernel_rfl) (.inl rfl) (fun h => by cases h) (fun h => by cases h)
  obtain ⟨⟨bs, fs⟩, ⟨hh0, hh1, _⟩, hc⟩ := hh
  exact ⟨bs, fs, hh0, hh1, hc⟩


-- impl.ResetTrained
theorem implResetTrained_ok (t : Trained) (ok : okTrained t) : ∃ (bs : List Feat) (fs : List Feat), (bs = (rsR t).1.Base) ∧ (fs = (rsR t).1.Feats) ∧ CallOK Try.prog 30 [agTrained t] (lookO []) false (.tup [.agg [Sv ((rsR t).1.Label), .arr 8311, .arr 8312, I ((rsR t).1.Count)], I ((rsR t).2)]) (lookO [(8311, .arr 3 bs.length (fFeat bs)), (8312, .arr 3 fs.length (fFeat fs))]) := by
  have hh : ∃ r : (List Feat) × (List Feat), ((r.1 = (rsR t).1.Base) ∧ (r.2 = (rsR t).1.Feats) ∧ (True)) ∧ CallOK Try.prog 30 [agTrained t] (lookO []) false (.tup [.agg [Sv ((rsR t).1.Label), .arr 8311, .arr 8312, I ((rsR t).1.Count)], I ((rsR t).2)]) (lookO [(8311, .arr 3 r.1.length (fFeat r.1)), (8312, .arr 3 r.2.length (fFeat r.2))]) := by
    refine fn_okX (Φ := fun r : (List Feat) × (List Feat) => (r.1 = (rsR t).1.Base) ∧ (r.2 = (rsR t).1.Feats) ∧ (True)) [] (fun r => [(8311, .arr 3 r.1.length (fFeat r.1)), (8312, .arr 3 r.2.length (fFeat r.2))]) (fn := Try.f30) (nt := 14) Try.func30 rfl rfl (args := [agTrained t]) rfl (allcons (.inl ⟨rfl, by simp [tagged, taggedL, tagFeat]⟩) allnil) (res := fun r => .tup [.agg [Sv ((rsR t).1.Label), .arr 8311, .arr 8312, I ((rsR t).1.Count)], I ((rsR t).2)]) ?_
    refine x_seq ?_
    refine x_reg [(0, .new 1), (1, .new 2)] [1, 2] [1, 2] [.ref 1 0, .ref 2 0] [some (bxTrained t), some (.box [Sv (⟨#[]⟩ : ByteArray), nilA, nilA, I 0])] [] (by kernel_rfl) trivial ?_
    refine xe_then ?_
    refine x_seq ?_
    refine x_seq ?_
    rcases Bool.eq_false_or_eq_true (okTrained' t) with h1 | h1
    ·have hst := rsR_yes h1
     have hlen := okTr_len h1
     refine x_reg [(1, .call [(true, agTrained t)] true (Bv true))] [1, 2, 6] [1, 2] [.ref 1 0, .ref 2 0, Bv false] [some (bxTrained t), some (.box [Sv (⟨#[]⟩ : ByteArray), nilA, nilA, I 0])] [Con Try.prog 56 [agTrained t] true (Bv true) ∧ ((agTrained t : AV) = agTrained t) ∧ True] (by kernel_rfl) ⟨⟨(con_bool h1 (ValidTrained_ok t ok)), rfl, trivial⟩, trivial⟩ ?_
     refine xe_then ?_
     refine x_false rfl ?_
     refine x_skip ?_
     refine xe_then ?_
     refine x_seq ?_
     obtain ⟨bs_1, fs_1, hx1_0, hx1_1, hc1⟩ := startTrained_ok (Template.mk t.Label t.Base) hlen
     refine x_reg [(5, .lend [] [(8311, .arr 3 bs_1.length (fFeat bs_1)), (8312, .arr 3 fs_1.length (fFeat fs_1))] [(true, .agg [Sv t.Label, slFeat false t.Base])] false (.agg [Sv ((Template.mk t.Label t.Base).Label), .arr 8311, .arr 8312, I 0]))] [2, 3] [2, 8311, 8312] [.ref 2 0, I 0] [some (.box [Sv ((Template.mk t.Label t.Base).Label), .arr 8311, .arr 8312, I 0]), some (.arr 3 bs_1.length (fFeat bs_1)), some (.arr 3 fs_1.length (fFeat fs_1))] [CallOK Try.prog 61 [.agg [Sv t.Label, slFeat false t.Base]] (lookO []) false (.agg [Sv ((Template.mk t.Label t.Base).Label), .arr 8311, .arr 8312, I 0]) (lookO [(8311, .arr 3 bs_1.length (fFeat bs_1)), (8312, .arr 3 fs_1.length (fFeat fs_1))]) ∧ ((.agg [Sv t.Label, slFeat false t.Base] : AV) = .agg [Sv t.Label, slFeat false t.Base]) ∧ True] (by kernel_rfl) ⟨⟨hc1, rfl, trivial⟩, trivial⟩ ?_
     refine xe_then ?_
     refine x_ret ?_
     refine xe_weak [] (T := [(2, .ref 2 0), (3, I 0)]) (O := [(2, .box [Sv ((rsR t).1.Label), .arr 8311, .arr 8312, I ((rsR t).1.Count)]), (8311, .arr 3 bs_1.length (fFeat bs_1)), (8312, .arr 3 fs_1.length (fFeat fs_1))]) rfl (⟨.inl rfl, .inl rfl, trivial⟩) (⟨.inr ⟨(by first | rfl | (simp [valOf]; done) | (simp [valOf]; first | omega | (rw [hst]; exact rfl) | (simp [hst]))), ⟨rfl, ⟨rfl, ⟨(by first | rfl | (simp [valOf]; done) | (simp [valOf]; first | omega | (rw [hst]; exact rfl) | (simp [hst]))), rfl⟩⟩⟩⟩, .inl rfl, .inl rfl, trivial⟩) ?_
     refine xe_end (bs_1, fs_1) (show (bs_1 = (rsR t).1.Base) ∧ (fs_1 = (rsR t).1.Feats) ∧ (True) from ⟨(by first | (rw [hst]; done) | (rw [hst]; assumption)), (by first | (rw [hst]; done) | (rw [hst]; assumption)), trivial⟩) (⟨.inl rfl, .inl rfl, trivial⟩) (.tup [.agg [Sv ((rsR t).1.Label), .arr 8311, .arr 8312, I ((rsR t).1.Count)], I 0]) (by kernel_rfl) (.inr ⟨⟨rfl, ⟨rfl, ⟨rfl, ⟨rfl, rfl⟩⟩⟩⟩, ⟨(by first | rfl | (simp [valOf]; done) | (simp [valOf]; first | omega | (rw [hst]; exact rfl) | (simp [hst]))), rfl⟩⟩) (fun h => by cases h) (fun h => by cases h)
    ·have hst := rsR_no h1
     refine x_reg [(1, .call [(true, agTrained t)] true (Bv false))] [1, 2, 6] [1, 2] [.ref 1 0, .ref 2 0, Bv true] [some (bxTrained t), some (.box [Sv (⟨#[]⟩ : ByteArray), nilA, nilA, I 0])] [Con Try.prog 56 [agTrained t] true (Bv false) ∧ ((agTrained t : AV) = agTrained t) ∧ True] (by kernel_rfl) ⟨⟨(con_bool h1 (ValidTrained_ok t ok)), rfl, trivial⟩, trivial⟩ ?_
     refine xe_then ?_
     refine x_true rfl ?_
     refine x_seq ?_
     refine x_reg [] [2, 3] [2] [.ref 2 0, I 1] [some (.box [Sv (⟨#[]⟩ : ByteArray), nilA, nilA, I 0])] [] (by kernel_rfl) trivial ?_
     refine xe_then ?_
     refine x_ret ?_
     refine xe_ret_then ?_
     refine xe_nilC 2 1 8311 3 (fun _ => []) rfl (by kernel_rfl) ?_
     refine xe_nilC 2 2 8312 3 (fun _ => []) rfl (by kernel_rfl) ?_
     refine xe_weak [] (T := [(2, .ref 2 0), (3, I 1)]) (O := [(2, .box [Sv ((rsR t).1.Label), .arr 8311, .arr 8312, I ((rsR t).1.Count)]), (8311, .arr 3 (([] : List Feat).length) (fFeat ([] : List Feat))), (8312, .arr 3 (([] : List Feat).length) (fFeat ([] : List Feat)))]) rfl (⟨.inl rfl, .inl rfl, trivial⟩) (⟨.inr ⟨(by first | rfl | (simp [valOf]; done) | (simp [valOf]; first | omega | (rw [hst]; exact rfl) | (simp [hst]))), ⟨rfl, ⟨rfl, ⟨(by first | rfl | (simp [valOf]; done) | (simp [valOf]; first | omega | (rw [hst]; exact rfl) | (simp [hst]))), rfl⟩⟩⟩⟩, .inr ⟨rfl, (by first | rfl | (simp; done) | (simp; omega) | omega), fun i_ hi_ => absurd hi_ (Nat.not_lt_zero _)⟩, .inr ⟨rfl, (by first | rfl | (simp; done) | (simp; omega) | omega), fun i_ hi_ => absurd hi_ (Nat.not_lt_zero _)⟩, trivial⟩) ?_
     refine xe_end (([] : List Feat), ([] : List Feat)) (show (([] : List Feat) = (rsR t).1.Base) ∧ (([] : List Feat) = (rsR t).1.Feats) ∧ (True) from ⟨(by first | (rw [hst]; done) | (rw [hst]; assumption)), (by first | (rw [hst]; done) | (rw [hst]; assumption)), trivial⟩) (⟨.inl rfl, .inl rfl, trivial⟩) (.tup [.agg [Sv ((rsR t).1.Label), .arr 8311, .arr 8312, I ((rsR t).1.Count)], I 1]) (by kernel_rfl) (.inr ⟨⟨rfl, ⟨rfl, ⟨rfl, ⟨rfl, rfl⟩⟩⟩⟩, ⟨(by first | rfl | (simp [valOf]; done) | (simp [valOf]; first | omega | (rw [hst]; exact rfl) | (simp [hst]))), rfl⟩⟩) (fun h => by cases h) (fun h => by cases h)
  obtain ⟨⟨bs, fs⟩, ⟨hh0, hh1, _⟩, hc⟩ := hh
  exact ⟨bs, fs, hh0, hh1, hc⟩


-- laws.eqFeat
theorem eqFeat_ok (a : Feat) (b : Feat) : Con Try.prog 97 [agFeat a, agFeat b] true (Bv (same a b)) := by
  refine fn_ok (fn := Try.f97) (nt := 20) Try.func97 rfl rfl rfl rfl (by simp [taggedL, tagged]) fun B hB => ?_
  refine aw_seq ?_
  refine aw_reg [(0, .new 2), (1, .new 3)] [2, 3] [2, 3] [.ref 2 0, .ref 3 0] [some (bxFeat a), some (bxFeat b)] [] (by kernel_rfl) hB trivial ?_
  refine ae_then ?_
  refine aw_seq ?_
  refine aw_seq ?_
  by_cases h1 : a.X = b.X
  ·refine aw_reg [(4, .dec false)] [2, 3, 9] [2, 3] [.ref 2 0, .ref 3 0, Bv false] [some (bxFeat a), some (bxFeat b)] [¬ (a.X ≠ b.X)] (by kernel_rfl) hB ⟨(fun hq => hq h1), trivial⟩ ?_
   refine ae_then ?_
   refine aw_false rfl ?_
   refine aw_skip ?_
   refine ae_then ?_
   refine aw_seq ?_
   refine aw_seq ?_
   by_cases h2 : a.Y = b.Y
   ·refine aw_reg [(4, .dec false)] [2, 3, 14] [2, 3] [.ref 2 0, .ref 3 0, Bv false] [some (bxFeat a), some (bxFeat b)] [¬ (a.Y ≠ b.Y)] (by kernel_rfl) hB ⟨(fun hq => hq h2), trivial⟩ ?_
    refine ae_then ?_
    refine aw_false rfl ?_
    refine aw_skip ?_
    refine ae_then ?_
    refine aw_seq ?_
    refine aw_seq ?_
    by_cases h3 : a.D = b.D
    ·refine aw_reg [(4, .dec false)] [19] [] [Bv false] [] [¬ (a.D ≠ b.D)] (by kernel_rfl) hB ⟨(fun hq => hq h3), trivial⟩ ?_
     refine ae_then ?_
     refine aw_false rfl ?_
     refine aw_skip ?_
     refine ae_then ?_
     refine aw_seq ?_
     refine aw_reg [] [4] [] [Bv true] [] [] (by kernel_rfl) hB trivial ?_
     refine ae_then ?_
     refine aw_ret ?_
     refine ae_ret hB (Bv true) (by kernel_rfl) (.inl (by first | (cases a; cases b; simp_all [same]; done) | (cases a; cases b; simp_all [same]; omega))) rfl (fun _ => trivial)
    ·refine aw_reg [(4, .dec true)] [19] [] [Bv true] [] [a.D ≠ b.D] (by kernel_rfl) hB ⟨h3, trivial⟩ ?_
     refine ae_then ?_
     refine aw_true rfl ?_
     refine aw_seq ?_
     refine aw_reg [] [4] [] [Bv false] [] [] (by kernel_rfl) hB trivial ?_
     refine ae_then ?_
     refine aw_ret ?_
     refine ae_ret_then ?_
     refine ae_ret hB (Bv false) (by kernel_rfl) (.inl (by first | (cases a; cases b; simp_all [same]; done) | (cases a; cases b; simp_all [same]; omega))) rfl (fun _ => trivial)
   ·refine aw_reg [(4, .dec true)] [2, 3, 14] [2, 3] [.ref 2 0, .ref 3 0, Bv true] [some (bxFeat a), some (bxFeat b)] [a.Y ≠ b.Y] (by kernel_rfl) hB ⟨h2, trivial⟩ ?_
    refine ae_then ?_
    refine aw_true rfl ?_
    refine aw_seq ?_
    refine aw_reg [] [4] [] [Bv false] [] [] (by kernel_rfl) hB trivial ?_
    refine ae_then ?_
    refine aw_ret ?_
    refine ae_ret_then ?_
    refine ae_ret hB (Bv false) (by kernel_rfl) (.inl (by first | (cases a; cases b; simp_all [same]; done) | (cases a; cases b; simp_all [same]; omega))) rfl (fun _ => trivial)
  ·refine aw_reg [(4, .dec true)] [2, 3, 9] [2, 3] [.ref 2 0, .ref 3 0, Bv true] [some (bxFeat a), some (bxFeat b)] [a.X ≠ b.X] (by kernel_rfl) hB ⟨h1, trivial⟩ ?_
   refine ae_then ?_
   refine aw_true rfl ?_
   refine aw_seq ?_
   refine aw_reg [] [4] [] [Bv false] [] [] (by kernel_rfl) hB trivial ?_
   refine ae_then ?_
   refine aw_ret ?_
   refine ae_ret_then ?_
   refine ae_ret hB (Bv false) (by kernel_rfl) (.inl (by first | (cases a; cases b; simp_all [same]; done) | (cases a; cases b; simp_all [same]; omega))) rfl (fun _ => trivial)


-- laws.eqFeatS
theorem eqFeatS_ok (a : List Feat) (b : List Feat) : Con Try.prog 51 [slFeat false a, slFeat false b] true (Bv (same a b)) := by
  refine fn_ok (fn := Try.f51) (nt := 27) Try.func51 rfl rfl rfl rfl (by simp [taggedL, tagged, tagFeat]) fun B hB => ?_
  refine aw_lens (x := slFeat false a) 0 rfl (fun len_a => ?_)
  simp [LenOK, LenL, cFeat, fFeat, slFeat] at len_a
  refine aw_lens (x := slFeat false b) 1 rfl (fun len_b => ?_)
  simp [LenOK, LenL, cFeat, fFeat, slFeat] at len_b
  refine aw_seq ?_
  refine aw_reg [] [0, 1] [] [slFeat false a, slFeat false b] [] [] (by kernel_rfl) hB trivial ?_
  refine ae_then ?_
  refine aw_seq ?_
  refine aw_seq ?_
  by_cases h1 : (a.length : Int) = (b.length : Int)
  ·refine aw_reg [(4, .dec false)] [0, 1, 10] [] [slFeat false a, slFeat false b, Bv false] [] [¬ ((a.length : Int) ≠ (b.length : Int))] (by kernel_rfl) hB ⟨(fun hq => hq h1), trivial⟩ ?_
   refine ae_then ?_
   refine aw_false rfl ?_
   refine aw_skip ?_
   refine ae_then ?_
   refine aw_seq ?_
   refine aw_seq ?_
   refine aw_reg [] [0, 1, 5] [] [slFeat false a, slFeat false b, I 0] [] [] (by kernel_rfl) hB trivial ?_
   refine ae_then ?_
   refine aw_block ?_
   refine aw_loop (fun gn gσ => ∃ (i : Int), gn = ((a.length : Int) - i).toNat ∧ (0 ≤ i ∧ i ≤ (a.length : Int)) ∧ (∀ j : Nat, (j : Int) < i → at_ a j = at_ b j) ∧ gσ = mkS [(0, slFeat false a), (1, slFeat false b), (5, I i)] []) (((a.length : Int) - 0).toNat) ⟨0, rfl, (by omega), (by intro j hj; omega), rfl⟩ (fun gn gσ hI => ?_)
   obtain ⟨i, rfl, hi0, he0, rfl⟩ := hI
   refine aw_seq ?_
   refine aw_seq ?_
   by_cases h2 : i < (a.length : Int)
   ·have hi : i.toNat < a.length := by omega
    have hib : i.toNat < b.length := by omega
    refine aw_reg [(3, .dec true)] [0, 1, 5, 14] [] [slFeat false a, slFeat false b, I i, Bv true] [] [i < (a.length : Int)] (by kernel_rfl) hB ⟨h2, trivial⟩ ?_
    refine ae_then ?_
    refine aw_true rfl ?_
    refine aw_skip ?_
    refine ae_then ?_
    refine aw_seq ?_
    refine aw_block ?_
    refine aw_seq ?_
    rcases Bool.eq_false_or_eq_true (same (at_ a i.toNat) (at_ b i.toNat)) with h3 | h3
    ·have HEQ := h3
     refine aw_reg [(8, .call [(true, agFeat (at_ a i.toNat)), (true, agFeat (at_ b i.toNat))] true (Bv true))] [0, 1, 5, 26] [] [slFeat false a, slFeat false b, I i, Bv false] [] [(0 : Int) ≤ i ∧ i < (a.length : Int), (0 : Int) ≤ i ∧ i < (b.length : Int), Con Try.prog 97 [agFeat (at_ a i.toNat), agFeat (at_ b i.toNat)] true (Bv true) ∧ ((agFeat (at_ a i.toNat) : AV) = agFeat (at_ a i.toNat)) ∧ ((agFeat (at_ b i.toNat) : AV) = agFeat (at_ b i.toNat)) ∧ True] (by kernel_rfl) hB ⟨⟨(by omega), (by omega)⟩, ⟨(by omega), (by omega)⟩, ⟨(con_bool h3 (eqFeat_ok (at_ a i.toNat) (at_ b i.toNat))), rfl, rfl, trivial⟩, trivial⟩ ?_
     refine ae_then ?_
     refine aw_false rfl ?_
     refine aw_skip ?_
     refine ae_block 1 ?_
     refine ae_then ?_
     refine aw_reg [] [0, 1, 5] [] [slFeat false a, slFeat false b, I (i + 1)] [] [inR .i64 (i + 1)] (by kernel_rfl) hB ⟨(inR_i64 (by omega) (by omega)), trivial⟩ ?_
     exact ae_again _ (by omega) ⟨(i + 1), rfl, (by omega), (by intro j hj; by_cases ej : j = i.toNat; (subst ej; simpa [same] using HEQ); exact he0 j (by omega)), rfl⟩
    ·refine aw_reg [(8, .call [(true, agFeat (at_ a i.toNat)), (true, agFeat (at_ b i.toNat))] true (Bv false))] [0, 1, 5, 26] [] [slFeat false a, slFeat false b, I i, Bv true] [] [(0 : Int) ≤ i ∧ i < (a.length : Int), (0 : Int) ≤ i ∧ i < (b.length : Int), Con Try.prog 97 [agFeat (at_ a i.toNat), agFeat (at_ b i.toNat)] true (Bv false) ∧ ((agFeat (at_ a i.toNat) : AV) = agFeat (at_ a i.toNat)) ∧ ((agFeat (at_ b i.toNat) : AV) = agFeat (at_ b i.toNat)) ∧ True] (by kernel_rfl) hB ⟨⟨(by omega), (by omega)⟩, ⟨(by omega), (by omega)⟩, ⟨(con_bool h3 (eqFeat_ok (at_ a i.toNat) (at_ b i.toNat))), rfl, rfl, trivial⟩, trivial⟩ ?_
     refine ae_then ?_
     refine aw_true rfl ?_
     refine aw_seq ?_
     refine aw_reg [] [4] [] [Bv false] [] [] (by kernel_rfl) hB trivial ?_
     refine ae_then ?_
     refine aw_ret ?_
     refine ae_ret_block (ae_ret_then (ae_ret_then (ae_ret_block (ae_ret_then ?_))))
     refine ae_ret hB (Bv false) (by kernel_rfl) (.inl (by first | (refine congrArg Bv (Eq.symm (decide_eq_false ?_)); intro e; subst e; simp_all [same]; done) | (exact congrArg Bv (Eq.symm (decide_eq_true hfin))))) rfl (fun _ => trivial)
   ·have hfin : a = b := ext_at (by omega) (fun j hj => he0 j (by omega))
    refine aw_reg [(3, .dec false)] [0, 1, 5, 14] [] [slFeat false a, slFeat false b, I i, Bv false] [] [¬ (i < (a.length : Int))] (by kernel_rfl) hB ⟨h2, trivial⟩ ?_
    refine ae_then ?_
    refine aw_false rfl ?_
    refine aw_exit ?_
    refine ae_exit_then ?_
    refine ae_exit_then ?_
    refine ae_exit_same ?_
    refine ae_then ?_
    refine aw_seq ?_
    refine aw_reg [] [4] [] [Bv true] [] [] (by kernel_rfl) hB trivial ?_
    refine ae_then ?_
    refine aw_ret ?_
    refine ae_ret hB (Bv true) (by kernel_rfl) (.inl (by first | (refine congrArg Bv (Eq.symm (decide_eq_false ?_)); intro e; subst e; simp_all [same]; done) | (exact congrArg Bv (Eq.symm (decide_eq_true hfin))))) rfl (fun _ => trivial)
  ·refine aw_reg [(4, .dec true)] [0, 1, 10] [] [slFeat false a, slFeat false b, Bv true] [] [(a.length : Int) ≠ (b.length : Int)] (by kernel_rfl) hB ⟨h1, trivial⟩ ?_
   refine ae_then ?_
   refine aw_true rfl ?_
   refine aw_seq ?_
   refine aw_reg [] [4] [] [Bv false] [] [] (by kernel_rfl) hB trivial ?_
   refine ae_then ?_
   refine aw_ret ?_
   refine ae_ret_then ?_
   refine ae_ret hB (Bv false) (by kernel_rfl) (.inl (by first | (refine congrArg Bv (Eq.symm (decide_eq_false ?_)); intro e; subst e; simp_all [same]; done) | (exact congrArg Bv (Eq.symm (decide_eq_true hfin))))) rfl (fun _ => trivial)


-- laws.eqTrained
theorem eqTrained_ok (a : Trained) (b : Trained) : Con Try.prog 15 [agTrained a, agTrained b] true (Bv (same a b)) := by
  refine fn_ok (fn := Try.f15) (nt := 27) Try.func15 rfl rfl rfl rfl (by simp [taggedL, tagged, tagFeat]) fun B hB => ?_
  refine aw_lens (x := agTrained a) 0 rfl (fun len_a => ?_)
  simp [LenOK, LenL, cFeat, fFeat, slFeat] at len_a
  refine aw_lens (x := agTrained b) 1 rfl (fun len_b => ?_)
  simp [LenOK, LenL, cFeat, fFeat, slFeat] at len_b
  refine aw_seq ?_
  refine aw_reg [(0, .new 2), (1, .new 3)] [2, 3] [2, 3] [.ref 2 0, .ref 3 0] [some (bxTrained a), some (bxTrained b)] [] (by kernel_rfl) hB trivial ?_
  refine ae_then ?_
  refine aw_seq ?_
  refine aw_seq ?_
  by_cases h1 : a.Label = b.Label
  ·refine aw_reg [(4, .dec false)] [2, 3, 9] [2, 3] [.ref 2 0, .ref 3 0, Bv false] [some (bxTrained a), some (bxTrained b)] [¬ (a.Label ≠ b.Label)] (by kernel_rfl) hB ⟨(fun hq => hq h1), trivial⟩ ?_
   refine ae_then ?_
   refine aw_false rfl ?_
   refine aw_skip ?_
   refine ae_then ?_
   refine aw_seq ?_
   refine aw_seq ?_
   rcases Bool.eq_false_or_eq_true (same a.Base b.Base) with h2 | h2
   ·refine aw_reg [(4, .call [(true, slFeat false a.Base), (true, slFeat false b.Base)] true (Bv true))] [2, 3, 15] [2, 3] [.ref 2 0, .ref 3 0, Bv false] [some (bxTrained a), some (bxTrained b)] [Con Try.prog 51 [slFeat false a.Base, slFeat false b.Base] true (Bv true) ∧ ((slFeat false a.Base : AV) = slFeat false a.Base) ∧ ((slFeat false b.Base : AV) = slFeat false b.Base) ∧ True] (by kernel_rfl) hB ⟨⟨(con_bool h2 (eqFeatS_ok a.Base b.Base)), rfl, rfl, trivial⟩, trivial⟩ ?_
    refine ae_then ?_
    refine aw_false rfl ?_
    refine aw_skip ?_
    refine ae_then ?_
    refine aw_seq ?_
    refine aw_seq ?_
    rcases Bool.eq_false_or_eq_true (same a.Feats b.Feats) with h3 | h3
    ·refine aw_reg [(4, .call [(true, slFeat false a.Feats), (true, slFeat false b.Feats)] true (Bv true))] [2, 3, 21] [2, 3] [.ref 2 0, .ref 3 0, Bv false] [some (bxTrained a), some (bxTrained b)] [Con Try.prog 51 [slFeat false a.Feats, slFeat false b.Feats] true (Bv true) ∧ ((slFeat false a.Feats : AV) = slFeat false a.Feats) ∧ ((slFeat false b.Feats : AV) = slFeat false b.Feats) ∧ True] (by kernel_rfl) hB ⟨⟨(con_bool h3 (eqFeatS_ok a.Feats b.Feats)), rfl, rfl, trivial⟩, trivial⟩ ?_
     refine ae_then ?_
     refine aw_false rfl ?_
     refine aw_skip ?_
     refine ae_then ?_
     refine aw_seq ?_
     refine aw_seq ?_
     by_cases h4 : a.Count = b.Count
     ·refine aw_reg [(4, .dec false)] [26] [] [Bv false] [] [¬ (a.Count ≠ b.Count)] (by kernel_rfl) hB ⟨(fun hq => hq h4), trivial⟩ ?_
      refine ae_then ?_
      refine aw_false rfl ?_
      refine aw_skip ?_
      refine ae_then ?_
      refine aw_seq ?_
      refine aw_reg [] [4] [] [Bv true] [] [] (by kernel_rfl) hB trivial ?_
      refine ae_then ?_
      refine aw_ret ?_
      refine ae_ret hB (Bv true) (by kernel_rfl) (.inl (by first | (cases a; cases b; simp_all [same]; done) | (cases a; cases b; simp_all [same]; omega))) rfl (fun _ => trivial)
     ·refine aw_reg [(4, .dec true)] [26] [] [Bv true] [] [a.Count ≠ b.Count] (by kernel_rfl) hB ⟨h4, trivial⟩ ?_
      refine ae_then ?_
      refine aw_true rfl ?_
      refine aw_seq ?_
      refine aw_reg [] [4] [] [Bv false] [] [] (by kernel_rfl) hB trivial ?_
      refine ae_then ?_
      refine aw_ret ?_
      refine ae_ret_then ?_
      refine ae_ret hB (Bv false) (by kernel_rfl) (.inl (by first | (cases a; cases b; simp_all [same]; done) | (cases a; cases b; simp_all [same]; omega))) rfl (fun _ => trivial)
    ·refine aw_reg [(4, .call [(true, slFeat false a.Feats), (true, slFeat false b.Feats)] true (Bv false))] [2, 3, 21] [2, 3] [.ref 2 0, .ref 3 0, Bv true] [some (bxTrained a), some (bxTrained b)] [Con Try.prog 51 [slFeat false a.Feats, slFeat false b.Feats] true (Bv false) ∧ ((slFeat false a.Feats : AV) = slFeat false a.Feats) ∧ ((slFeat false b.Feats : AV) = slFeat false b.Feats) ∧ True] (by kernel_rfl) hB ⟨⟨(con_bool h3 (eqFeatS_ok a.Feats b.Feats)), rfl, rfl, trivial⟩, trivial⟩ ?_
     refine ae_then ?_
     refine aw_true rfl ?_
     refine aw_seq ?_
     refine aw_reg [] [4] [] [Bv false] [] [] (by kernel_rfl) hB trivial ?_
     refine ae_then ?_
     refine aw_ret ?_
     refine ae_ret_then ?_
     refine ae_ret hB (Bv false) (by kernel_rfl) (.inl (by first | (cases a; cases b; simp_all [same]; done) | (cases a; cases b; simp_all [same]; omega))) rfl (fun _ => trivial)
   ·refine aw_reg [(4, .call [(true, slFeat false a.Base), (true, slFeat false b.Base)] true (Bv false))] [2, 3, 15] [2, 3] [.ref 2 0, .ref 3 0, Bv true] [some (bxTrained a), some (bxTrained b)] [Con Try.prog 51 [slFeat false a.Base, slFeat false b.Base] true (Bv false) ∧ ((slFeat false a.Base : AV) = slFeat false a.Base) ∧ ((slFeat false b.Base : AV) = slFeat false b.Base) ∧ True] (by kernel_rfl) hB ⟨⟨(con_bool h2 (eqFeatS_ok a.Base b.Base)), rfl, rfl, trivial⟩, trivial⟩ ?_
    refine ae_then ?_
    refine aw_true rfl ?_
    refine aw_seq ?_
    refine aw_reg [] [4] [] [Bv false] [] [] (by kernel_rfl) hB trivial ?_
    refine ae_then ?_
    refine aw_ret ?_
    refine ae_ret_then ?_
    refine ae_ret hB (Bv false) (by kernel_rfl) (.inl (by first | (cases a; cases b; simp_all [same]; done) | (cases a; cases b; simp_all [same]; omega))) rfl (fun _ => trivial)
  ·refine aw_reg [(4, .dec true)] [2, 3, 9] [2, 3] [.ref 2 0, .ref 3 0, Bv true] [some (bxTrained a), some (bxTrained b)] [a.Label ≠ b.Label] (by kernel_rfl) hB ⟨h1, trivial⟩ ?_
   refine ae_then ?_
   refine aw_true rfl ?_
   refine aw_seq ?_
   refine aw_reg [] [4] [] [Bv false] [] [] (by kernel_rfl) hB trivial ?_
   refine ae_then ?_
   refine aw_ret ?_
   refine ae_ret_then ?_
   refine ae_ret hB (Bv false) (by kernel_rfl) (.inl (by first | (cases a; cases b; simp_all [same]; done) | (cases a; cases b; simp_all [same]; omega))) rfl (fun _ => trivial)


-- laws.markFeatS
theorem markFeatS0_ok (al : List Feat) (k : Int) (hk : 0 ≤ k ∧ k ≤ 100000000 ∧ al.length ≤ 1048576) : ∃ (v : Int) (al' : List Feat), (v = k + 3 * (al.length : Int)) ∧ (al' = mkL k al.length) ∧ CallOK Try.prog 52 [.arr 7301, I k] (lookO [(7301, .arr 3 al.length (fFeat al))]) true (I v) (lookO [(7301, .arr 3 al'.length (fFeat al'))]) := by
  have hh : ∃ r : Int × (List Feat), ((r.1 = k + 3 * (al.length : Int)) ∧ (r.2 = mkL k al.length) ∧ (True)) ∧ CallOK Try.prog 52 [.arr 7301, I k] (lookO [(7301, .arr 3 al.length (fFeat al))]) true (I r.1) (lookO [(7301, .arr 3 r.2.length (fFeat r.2))]) := by
    refine fn_okX (Φ := fun r : Int × (List Feat) => (r.1 = k + 3 * (al.length : Int)) ∧ (r.2 = mkL k al.length) ∧ (True)) [(7301, .arr 3 al.length (fFeat al))] (fun r => [(7301, .arr 3 r.2.length (fFeat r.2))]) (fn := Try.f52) (nt := 34) Try.func52 rfl rfl (args := [.arr 7301, I k]) rfl (allcons (.inr trivial) (allcons (.inl ⟨rfl, trivial⟩) allnil)) (res := fun r => I r.1) ?_
    refine x_seq ?_
    refine x_reg [] [0, 1] [7301] [.arr 7301, I k] [some (.arr 3 al.length (fFeat al))] [] (by kernel_rfl) trivial ?_
    refine xe_then ?_
    refine x_seq ?_
    refine x_seq ?_
    refine x_reg [] [0, 1, 5] [7301] [.arr 7301, I k, I 0] [some (.arr 3 al.length (fFeat al))] [] (by kernel_rfl) trivial ?_
    refine xe_then ?_
    refine x_block ?_
    refine x_loop (X := Int × Int × (List Feat)) (fun x => mkS [(0, .arr 7301), (1, I x.1), (5, I x.2.1)] [(7301, .arr 3 x.2.2.length (fFeat x.2.2))]) (fun x => (0 ≤ x.2.1 ∧ x.2.1 ≤ (al.length : Int)) ∧ (x.2.2.length = al.length) ∧ (x.1 = k + 3 * x.2.1) ∧ (∀ j : Nat, (j : Int) < x.2.1 → at_ x.2.2 j = ⟨k + 3 * (j : Int), k + 3 * (j : Int) + 1, k + 3 * (j : Int) + 2⟩) ∧ True) (fun x => ((al.length : Int) - x.2.1).toNat) (k, 0, al) rfl (show (0 ≤ (0 : Int) ∧ (0 : Int) ≤ (al.length : Int)) ∧ (al.length = al.length) ∧ (k = k + 3 * (0 : Int)) ∧ (∀ j : Nat, (j : Int) < (0 : Int) → at_ al j = ⟨k + 3 * (j : Int), k + 3 * (j : Int) + 1, k + 3 * (j : Int) + 2⟩) ∧ True from ⟨(by omega), (by rfl), (by omega), (by intro j hj; omega), trivial⟩) (fun x hI => ?_)
    obtain ⟨k', i, ys⟩ := x
    obtain ⟨hi0, hy0, hk1, hy1, _⟩ : (0 ≤ i ∧ i ≤ (al.length : Int)) ∧ (ys.length = al.length) ∧ (k' = k + 3 * i) ∧ (∀ j : Nat, (j : Int) < i → at_ ys j = ⟨k + 3 * (j : Int), k + 3 * (j : Int) + 1, k + 3 * (j : Int) + 2⟩) ∧ True := hI
    show XW _ _ _ _ (mkS [(0, .arr 7301), (1, I k'), (5, I i)] [(7301, .arr 3 ys.length (fFeat ys))]) _ _
    refine x_seq ?_
    refine x_seq ?_
    by_cases h1 : i < (ys.length : Int)
    ·have hi : i.toNat < al.length := by omega
     have hiy : i.toNat < ys.length := by omega
     refine x_reg [(3, .dec true)] [0, 1, 5, 9] [7301] [.arr 7301, I k', I i, Bv true] [some (.arr 3 ys.length (fFeat ys))] [i < (ys.length : Int)] (by kernel_rfl) ⟨h1, trivial⟩ ?_
     refine xe_then ?_
     refine x_true rfl ?_
     refine x_skip ?_
     refine xe_then ?_
     refine x_seq ?_
     refine x_block ?_
     refine x_seq ?_
     refine x_reg [] [0, 1, 5] [7301] [.arr 7301, I k', I i] [some (.arr 3 ys.length (fun q => bif Nat.beq q i.toNat then [I k', I ((at_ ys i.toNat).Y), I ((at_ ys i.toNat).D)] else (fFeat ys) q))] [(0 : Int) ≤ i ∧ i < (ys.length : Int), i.toNat < ys.length] (by kernel_rfl) ⟨⟨(by omega), (by omega)⟩, (by omega), trivial⟩ ?_
     refine xe_then ?_
     refine x_seq ?_
     refine x_weak [] (T := [(0, .arr 7301), (1, I k'), (5, I i)]) (O := [(7301, .arr 3 ((ys.set i.toNat (Feat.mk k' ((at_ ys i.toNat).Y) ((at_ ys i.toNat).D))).length) (fFeat (ys.set i.toNat (Feat.mk k' ((at_ ys i.toNat).Y) ((at_ ys i.toNat).D)))))]) rfl (⟨.inl rfl, .inl rfl, .inl rfl, trivial⟩) (⟨.inr ⟨rfl, (by first | rfl | (simp; done) | (simp; omega) | omega), fun i_ hi_ => .inl (upd_enc (enc := cFeat) rfl i_ hi_)⟩, trivial⟩) ?_
     refine x_reg [] [0, 1, 5] [7301] [.arr 7301, I (k' + 1), I i] [some (.arr 3 ((ys.set i.toNat (Feat.mk k' ((at_ ys i.toNat).Y) ((at_ ys i.toNat).D))).length) (fFeat (ys.set i.toNat (Feat.mk k' ((at_ ys i.toNat).Y) ((at_ ys i.toNat).D)))))] [inR .i64 (k' + 1)] (by kernel_rfl) ⟨(inR_i64 (by omega) (by omega)), trivial⟩ ?_
     refine xe_then ?_
     refine x_seq ?_
     refine x_reg [] [0, 1, 5] [7301] [.arr 7301, I (k' + 1), I i] [some (.arr 3 ((ys.set i.toNat (Feat.mk k' ((at_ ys i.toNat).Y) ((at_ ys i.toNat).D))).length) (fun q => bif Nat.beq q i.toNat then [I ((at_ (ys.set i.toNat (Feat.mk k' ((at_ ys i.toNat).Y) ((at_ ys i.toNat).D))) i.toNat).X), I (k' + 1), I ((at_ (ys.set i.toNat (Feat.mk k' ((at_ ys i.toNat).Y) ((at_ ys i.toNat).D))) i.toNat).D)] else (fFeat (ys.set i.toNat (Feat.mk k' ((at_ ys i.toNat).Y) ((at_ ys i.toNat).D)))) q))] [(0 : Int) ≤ i ∧ i < (((ys.set i.toNat (Feat.mk k' ((at_ ys i.toNat).Y) ((at_ ys i.toNat).D))).length) : Int), i.toNat < (ys.set i.toNat (Feat.mk k' ((at_ ys i.toNat).Y) ((at_ ys i.toNat).D))).length] (by kernel_rfl) ⟨⟨(by (try simp only [List.length_set]); omega), (by (try simp only [List.length_set]); omega)⟩, (by (try simp only [List.length_set]); omega), trivial⟩ ?_
     refine xe_then ?_
     refine x_seq ?_
     refine x_weak [] (T := [(0, .arr 7301), (1, I (k' + 1)), (5, I i)]) (O := [(7301, .arr 3 (((ys.set i.toNat (Feat.mk k' ((at_ ys i.toNat).Y) ((at_ ys i.toNat).D))).set i.toNat (Feat.mk ((at_ (ys.set i.toNat (Feat.mk k' ((at_ ys i.toNat).Y) ((at_ ys i.toNat).D))) i.toNat).X) (k' + 1) ((at_ (ys.set i.toNat (Feat.mk k' ((at_ ys i.toNat).Y) ((at_ ys i.toNat).D))) i.toNat).D))).length) (fFeat ((ys.set i.toNat (Feat.mk k' ((at_ ys i.toNat).Y) ((at_ ys i.toNat).D))).set i.toNat (Feat.mk ((at_ (ys.set i.toNat (Feat.mk k' ((at_ ys i.toNat).Y) ((at_ ys i.toNat).D))) i.toNat).X) (k' + 1) ((at_ (ys.set i.toNat (Feat.mk k' ((at_ ys i.toNat).Y) ((at_ ys i.toNat).D))) i.toNat).D)))))]) rfl (⟨.inl rfl, .inl rfl, .inl rfl, trivial⟩) (⟨.inr ⟨rfl, (by first | rfl | (simp; done) | (simp; omega) | omega), fun i_ hi_ => .inl (upd_enc (enc := cFeat) rfl i_ hi_)⟩, trivial⟩) ?_
     refine x_reg [] [0, 1, 5] [7301] [.arr 7301, I ((k' + 1) + 1), I i] [some (.arr 3 (((ys.set i.toNat (Feat.mk k' ((at_ ys i.toNat).Y) ((at_ ys i.toNat).D))).set i.toNat (Feat.mk ((at_ (ys.set i.toNat (Feat.mk k' ((at_ ys i.toNat).Y) ((at_ ys i.toNat).D))) i.toNat).X) (k' + 1) ((at_ (ys.set i.toNat (Feat.mk k' ((at_ ys i.toNat).Y) ((at_ ys i.toNat).D))) i.toNat).D))).length) (fFeat ((ys.set i.toNat (Feat.mk k' ((at_ ys i.toNat).Y) ((at_ ys i.toNat).D))).set i.toNat (Feat.mk ((at_ (ys.set i.toNat (Feat.mk k' ((at_ ys i.toNat).Y) ((at_ ys i.toNat).D))) i.toNat).X) (k' + 1) ((at_ (ys.set i.toNat (Feat.mk k' ((at_ ys i.toNat).Y) ((at_ ys i.toNat).D))) i.toNat).D)))))] [inR .i64 ((k' + 1) + 1)] (by kernel_rfl) ⟨(inR_i64 (by omega) (by omega)), trivial⟩ ?_
     refine xe_then ?_
     refine x_seq ?_
     refine x_reg [] [0, 1, 5] [7301] [.arr 7301, I ((k' + 1) + 1), I i] [some (.arr 3 (((ys.set i.toNat (Feat.mk k' ((at_ ys i.toNat).Y) ((at_ ys i.toNat).D))).set i.toNat (Feat.mk ((at_ (ys.set i.toNat (Feat.mk k' ((at_ ys i.toNat).Y) ((at_ ys i.toNat).D))) i.toNat).X) (k' + 1) ((at_ (ys.set i.toNat (Feat.mk k' ((at_ ys i.toNat).Y) ((at_ ys i.toNat).D))) i.toNat).D))).length) (fun q => bif Nat.beq q i.toNat then [I ((at_ ((ys.set i.toNat (Feat.mk k' ((at_ ys i.toNat).Y) ((at_ ys i.toNat).D))).set i.toNat (Feat.mk ((at_ (ys.set i.toNat (Feat.mk k' ((at_ ys i.toNat).Y) ((at_ ys i.toNat).D))) i.toNat).X) (k' + 1) ((at_ (ys.set i.toNat (Feat.mk k' ((at_ ys i.toNat).Y) ((at_ ys i.toNat).D))) i.toNat).D))) i.toNat).X), I ((at_ ((ys.set i.toNat (Feat.mk k' ((at_ ys i.toNat).Y) ((at_ ys i.toNat).D))).set i.toNat (Feat.mk ((at_ (ys.set i.toNat (Feat.mk k' ((at_ ys i.toNat).Y) ((at_ ys i.toNat).D))) i.toNat).X) (k' + 1) ((at_ (ys.set i.toNat (Feat.mk k' ((at_ ys i.toNat).Y) ((at_ ys i.toNat).D))) i.toNat).D))) i.toNat).Y), I ((k' + 1) + 1)] else (fFeat ((ys.set i.toNat (Feat.mk k' ((at_ ys i.toNat).Y) ((at_ ys i.toNat).D))).set i.toNat (Feat.mk ((at_ (ys.set i.toNat (Feat.mk k' ((at_ ys i.toNat).Y) ((at_ ys i.toNat).D))) i.toNat).X) (k' + 1) ((at_ (ys.set i.toNat (Feat.mk k' ((at_ ys i.toNat).Y) ((at_ ys i.toNat).D))) i.toNat).D)))) q))] [(0 : Int) ≤ i ∧ i < ((((ys.set i.toNat (Feat.mk k' ((at_ ys i.toNat).Y) ((at_ ys i.toNat).D))).set i.toNat (Feat.mk ((at_ (ys.set i.toNat (Feat.mk k' ((at_ ys i.toNat).Y) ((at_ ys i.toNat).D))) i.toNat).X) (k' + 1) ((at_ (ys.set i.toNat (Feat.mk k' ((at_ ys i.toNat).Y) ((at_ ys i.toNat).D))) i.toNat).D))).length) : Int), i.toNat < ((ys.set i.toNat (Feat.mk k' ((at_ ys i.toNat).Y) ((at_ ys i.toNat).D))).set i.toNat (Feat.mk ((at_ (ys.set i.toNat (Feat.mk k' ((at_ ys i.toNat).Y) ((at_ ys i.toNat).D))) i.toNat).X) (k' + 1) ((at_ (ys.set i.toNat (Feat.mk k' ((at_ ys i.toNat).Y) ((at_ ys i.toNat).D))) i.toNat).D))).length] (by kernel_rfl) ⟨⟨(by (try simp only [List.length_set]); omega), (by (try simp only [List.length_set]); omega)⟩, (by (try simp only [List.length_set]); omega), trivial⟩ ?_
     refine xe_then ?_
     refine x_weak [] (T := [(0, .arr 7301), (1, I ((k' + 1) + 1)), (5, I i)]) (O := [(7301, .arr 3 ((((ys.set i.toNat (Feat.mk k' ((at_ ys i.toNat).Y) ((at_ ys i.toNat).D))).set i.toNat (Feat.mk ((at_ (ys.set i.toNat (Feat.mk k' ((at_ ys i.toNat).Y) ((at_ ys i.toNat).D))) i.toNat).X) (k' + 1) ((at_ (ys.set i.toNat (Feat.mk k' ((at_ ys i.toNat).Y) ((at_ ys i.toNat).D))) i.toNat).D))).set i.toNat (Feat.mk ((at_ ((ys.set i.toNat (Feat.mk k' ((at_ ys i.toNat).Y) ((at_ ys i.toNat).D))).set i.toNat (Feat.mk ((at_ (ys.set i.toNat (Feat.mk k' ((at_ ys i.toNat).Y) ((at_ ys i.toNat).D))) i.toNat).X) (k' + 1) ((at_ (ys.set i.toNat (Feat.mk k' ((at_ ys i.toNat).Y) ((at_ ys i.toNat).D))) i.toNat).D))) i.toNat).X) ((at_ ((ys.set i.toNat (Feat.mk k' ((at_ ys i.toNat).Y) ((at_ ys i.toNat).D))).set i.toNat (Feat.mk ((at_ (ys.set i.toNat (Feat.mk k' ((at_ ys i.toNat).Y) ((at_ ys i.toNat).D))) i.toNat).X) (k' + 1) ((at_ (ys.set i.toNat (Feat.mk k' ((at_ ys i.toNat).Y) ((at_ ys i.toNat).D))) i.toNat).D))) i.toNat).Y) ((k' + 1) + 1))).length) (fFeat (((ys.set i.toNat (Feat.mk k' ((at_ ys i.toNat).Y) ((at_ ys i.toNat).D))).set i.toNat (Feat.mk ((at_ (ys.set i.toNat (Feat.mk k' ((at_ ys i.toNat).Y) ((at_ ys i.toNat).D))) i.toNat).X) (k' + 1) ((at_ (ys.set i.toNat (Feat.mk k' ((at_ ys i.toNat).Y) ((at_ ys i.toNat).D))) i.toNat).D))).set i.toNat (Feat.mk ((at_ ((ys.set i.toNat (Feat.mk k' ((at_ ys i.toNat).Y) ((at_ ys i.toNat).D))).set i.toNat (Feat.mk ((at_ (ys.set i.toNat (Feat.mk k' ((at_ ys i.toNat).Y) ((at_ ys i.toNat).D))) i.toNat).X) (k' + 1) ((at_ (ys.set i.toNat (Feat.mk k' ((at_ ys i.toNat).Y) ((at_ ys i.toNat).D))) i.toNat).D))) i.toNat).X) ((at_ ((ys.set i.toNat (Feat.mk k' ((at_ ys i.toNat).Y) ((at_ ys i.toNat).D))).set i.toNat (Feat.mk ((at_ (ys.set i.toNat (Feat.mk k' ((at_ ys i.toNat).Y) ((at_ ys i.toNat).D))) i.toNat).X) (k' + 1) ((at_ (ys.set i.toNat (Feat.mk k' ((at_ ys i.toNat).Y) ((at_ ys i.toNat).D))) i.toNat).D))) i.toNat).Y) ((k' + 1) + 1)))))]) rfl (⟨.inl rfl, .inl rfl, .inl rfl, trivial⟩) (⟨.inr ⟨rfl, (by first | rfl | (simp; done) | (simp; omega) | omega), fun i_ hi_ => .inl (upd_enc (enc := cFeat) rfl i_ hi_)⟩, trivial⟩) ?_
     refine x_reg [] [0, 1, 5] [7301] [.arr 7301, I (((k' + 1) + 1) + 1), I i] [some (.arr 3 ((((ys.set i.toNat (Feat.mk k' ((at_ ys i.toNat).Y) ((at_ ys i.toNat).D))).set i.toNat (Feat.mk ((at_ (ys.set i.toNat (Feat.mk k' ((at_ ys i.toNat).Y) ((at_ ys i.toNat).D))) i.toNat).X) (k' + 1) ((at_ (ys.set i.toNat (Feat.mk k' ((at_ ys i.toNat).Y) ((at_ ys i.toNat).D))) i.toNat).D))).set i.toNat (Feat.mk ((at_ ((ys.set i.toNat (Feat.mk k' ((at_ ys i.toNat).Y) ((at_ ys i.toNat).D))).set i.toNat (Feat.mk ((at_ (ys.set i.toNat (Feat.mk k' ((at_ ys i.toNat).Y) ((at_ ys i.toNat).D))) i.toNat).X) (k' + 1) ((at_ (ys.set i.toNat (Feat.mk k' ((at_ ys i.toNat).Y) ((at_ ys i.toNat).D))) i.toNat).D))) i.toNat).X) ((at_ ((ys.set i.toNat (Feat.mk k' ((at_ ys i.toNat).Y) ((at_ ys i.toNat).D))).set i.toNat (Feat.mk ((at_ (ys.set i.toNat (Feat.mk k' ((at_ ys i.toNat).Y) ((at_ ys i.toNat).D))) i.toNat).X) (k' + 1) ((at_ (ys.set i.toNat (Feat.mk k' ((at_ ys i.toNat).Y) ((at_ ys i.toNat).D))) i.toNat).D))) i.toNat).Y) ((k' + 1) + 1))).length) (fFeat (((ys.set i.toNat (Feat.mk k' ((at_ ys i.toNat).Y) ((at_ ys i.toNat).D))).set i.toNat (Feat.mk ((at_ (ys.set i.toNat (Feat.mk k' ((at_ ys i.toNat).Y) ((at_ ys i.toNat).D))) i.toNat).X) (k' + 1) ((at_ (ys.set i.toNat (Feat.mk k' ((at_ ys i.toNat).Y) ((at_ ys i.toNat).D))) i.toNat).D))).set i.toNat (Feat.mk ((at_ ((ys.set i.toNat (Feat.mk k' ((at_ ys i.toNat).Y) ((at_ ys i.toNat).D))).set i.toNat (Feat.mk ((at_ (ys.set i.toNat (Feat.mk k' ((at_ ys i.toNat).Y) ((at_ ys i.toNat).D))) i.toNat).X) (k' + 1) ((at_ (ys.set i.toNat (Feat.mk k' ((at_ ys i.toNat).Y) ((at_ ys i.toNat).D))) i.toNat).D))) i.toNat).X) ((at_ ((ys.set i.toNat (Feat.mk k' ((at_ ys i.toNat).Y) ((at_ ys i.toNat).D))).set i.toNat (Feat.mk ((at_ (ys.set i.toNat (Feat.mk k' ((at_ ys i.toNat).Y) ((at_ ys i.toNat).D))) i.toNat).X) (k' + 1) ((at_ (ys.set i.toNat (Feat.mk k' ((at_ ys i.toNat).Y) ((at_ ys i.toNat).D))) i.toNat).D))) i.toNat).Y) ((k' + 1) + 1)))))] [inR .i64 (((k' + 1) + 1) + 1)] (by kernel_rfl) ⟨(inR_i64 (by omega) (by omega)), trivial⟩ ?_
     refine xe_block 1 ?_
     refine xe_then ?_
     refine x_reg [] [0, 1, 5] [7301] [.arr 7301, I (((k' + 1) + 1) + 1), I (i + 1)] [some (.arr 3 ((((ys.set i.toNat (Feat.mk k' ((at_ ys i.toNat).Y) ((at_ ys i.toNat).D))).set i.toNat (Feat.mk ((at_ (ys.set i.toNat (Feat.mk k' ((at_ ys i.toNat).Y) ((at_ ys i.toNat).D))) i.toNat).X) (k' + 1) ((at_ (ys.set i.toNat (Feat.mk k' ((at_ ys i.toNat).Y) ((at_ ys i.toNat).D))) i.toNat).D))).set i.toNat (Feat.mk ((at_ ((ys.set i.toNat (Feat.mk k' ((at_ ys i.toNat).Y) ((at_ ys i.toNat).D))).set i.toNat (Feat.mk ((at_ (ys.set i.toNat (Feat.mk k' ((at_ ys i.toNat).Y) ((at_ ys i.toNat).D))) i.toNat).X) (k' + 1) ((at_ (ys.set i.toNat (Feat.mk k' ((at_ ys i.toNat).Y) ((at_ ys i.toNat).D))) i.toNat).D))) i.toNat).X) ((at_ ((ys.set i.toNat (Feat.mk k' ((at_ ys i.toNat).Y) ((at_ ys i.toNat).D))).set i.toNat (Feat.mk ((at_ (ys.set i.toNat (Feat.mk k' ((at_ ys i.toNat).Y) ((at_ ys i.toNat).D))) i.toNat).X) (k' + 1) ((at_ (ys.set i.toNat (Feat.mk k' ((at_ ys i.toNat).Y) ((at_ ys i.toNat).D))) i.toNat).D))) i.toNat).Y) ((k' + 1) + 1))).length) (fFeat (((ys.set i.toNat (Feat.mk k' ((at_ ys i.toNat).Y) ((at_ ys i.toNat).D))).set i.toNat (Feat.mk ((at_ (ys.set i.toNat (Feat.mk k' ((at_ ys i.toNat).Y) ((at_ ys i.toNat).D))) i.toNat).X) (k' + 1) ((at_ (ys.set i.toNat (Feat.mk k' ((at_ ys i.toNat).Y) ((at_ ys i.toNat).D))) i.toNat).D))).set i.toNat (Feat.mk ((at_ ((ys.set i.toNat (Feat.mk k' ((at_ ys i.toNat).Y) ((at_ ys i.toNat).D))).set i.toNat (Feat.mk ((at_ (ys.set i.toNat (Feat.mk k' ((at_ ys i.toNat).Y) ((at_ ys i.toNat).D))) i.toNat).X) (k' + 1) ((at_ (ys.set i.toNat (Feat.mk k' ((at_ ys i.toNat).Y) ((at_ ys i.toNat).D))) i.toNat).D))) i.toNat).X) ((at_ ((ys.set i.toNat (Feat.mk k' ((at_ ys i.toNat).Y) ((at_ ys i.toNat).D))).set i.toNat (Feat.mk ((at_ (ys.set i.toNat (Feat.mk k' ((at_ ys i.toNat).Y) ((at_ ys i.toNat).D))) i.toNat).X) (k' + 1) ((at_ (ys.set i.toNat (Feat.mk k' ((at_ ys i.toNat).Y) ((at_ ys i.toNat).D))) i.toNat).D))) i.toNat).Y) ((k' + 1) + 1)))))] [inR .i64 (i + 1)] (by kernel_rfl) ⟨(inR_i64 (by omega) (by omega)), trivial⟩ ?_
     exact xe_again ((((k' + 1) + 1) + 1), (i + 1), (((ys.set i.toNat (Feat.mk k' ((at_ ys i.toNat).Y) ((at_ ys i.toNat).D))).set i.toNat (Feat.mk ((at_ (ys.set i.toNat (Feat.mk k' ((at_ ys i.toNat).Y) ((at_ ys i.toNat).D))) i.toNat).X) (k' + 1) ((at_ (ys.set i.toNat (Feat.mk k' ((at_ ys i.toNat).Y) ((at_ ys i.toNat).D))) i.toNat).D))).set i.toNat (Feat.mk ((at_ ((ys.set i.toNat (Feat.mk k' ((at_ ys i.toNat).Y) ((at_ ys i.toNat).D))).set i.toNat (Feat.mk ((at_ (ys.set i.toNat (Feat.mk k' ((at_ ys i.toNat).Y) ((at_ ys i.toNat).D))) i.toNat).X) (k' + 1) ((at_ (ys.set i.toNat (Feat.mk k' ((at_ ys i.toNat).Y) ((at_ ys i.toNat).D))) i.toNat).D))) i.toNat).X) ((at_ ((ys.set i.toNat (Feat.mk k' ((at_ ys i.toNat).Y) ((at_ ys i.toNat).D))).set i.toNat (Feat.mk ((at_ (ys.set i.toNat (Feat.mk k' ((at_ ys i.toNat).Y) ((at_ ys i.toNat).D))) i.toNat).X) (k' + 1) ((at_ (ys.set i.toNat (Feat.mk k' ((at_ ys i.toNat).Y) ((at_ ys i.toNat).D))) i.toNat).D))) i.toNat).Y) ((k' + 1) + 1)))) rfl (show (0 ≤ (i + 1) ∧ (i + 1) ≤ (al.length : Int)) ∧ ((((ys.set i.toNat (Feat.mk k' ((at_ ys i.toNat).Y) ((at_ ys i.toNat).D))).set i.toNat (Feat.mk ((at_ (ys.set i.toNat (Feat.mk k' ((at_ ys i.toNat).Y) ((at_ ys i.toNat).D))) i.toNat).X) (k' + 1) ((at_ (ys.set i.toNat (Feat.mk k' ((at_ ys i.toNat).Y) ((at_ ys i.toNat).D))) i.toNat).D))).set i.toNat (Feat.mk ((at_ ((ys.set i.toNat (Feat.mk k' ((at_ ys i.toNat).Y) ((at_ ys i.toNat).D))).set i.toNat (Feat.mk ((at_ (ys.set i.toNat (Feat.mk k' ((at_ ys i.toNat).Y) ((at_ ys i.toNat).D))) i.toNat).X) (k' + 1) ((at_ (ys.set i.toNat (Feat.mk k' ((at_ ys i.toNat).Y) ((at_ ys i.toNat).D))) i.toNat).D))) i.toNat).X) ((at_ ((ys.set i.toNat (Feat.mk k' ((at_ ys i.toNat).Y) ((at_ ys i.toNat).D))).set i.toNat (Feat.mk ((at_ (ys.set i.toNat (Feat.mk k' ((at_ ys i.toNat).Y) ((at_ ys i.toNat).D))) i.toNat).X) (k' + 1) ((at_ (ys.set i.toNat (Feat.mk k' ((at_ ys i.toNat).Y) ((at_ ys i.toNat).D))) i.toNat).D))) i.toNat).Y) ((k' + 1) + 1))).length = al.length) ∧ ((((k' + 1) + 1) + 1) = k + 3 * (i + 1)) ∧ (∀ j : Nat, (j : Int) < (i + 1) → at_ (((ys.set i.toNat (Feat.mk k' ((at_ ys i.toNat).Y) ((at_ ys i.toNat).D))).set i.toNat (Feat.mk ((at_ (ys.set i.toNat (Feat.mk k' ((at_ ys i.toNat).Y) ((at_ ys i.toNat).D))) i.toNat).X) (k' + 1) ((at_ (ys.set i.toNat (Feat.mk k' ((at_ ys i.toNat).Y) ((at_ ys i.toNat).D))) i.toNat).D))).set i.toNat (Feat.mk ((at_ ((ys.set i.toNat (Feat.mk k' ((at_ ys i.toNat).Y) ((at_ ys i.toNat).D))).set i.toNat (Feat.mk ((at_ (ys.set i.toNat (Feat.mk k' ((at_ ys i.toNat).Y) ((at_ ys i.toNat).D))) i.toNat).X) (k' + 1) ((at_ (ys.set i.toNat (Feat.mk k' ((at_ ys i.toNat).Y) ((at_ ys i.toNat).D))) i.toNat).D))) i.toNat).X) ((at_ ((ys.set i.toNat (Feat.mk k' ((at_ ys i.toNat).Y) ((at_ ys i.toNat).D))).set i.toNat (Feat.mk ((at_ (ys.set i.toNat (Feat.mk k' ((at_ ys i.toNat).Y) ((at_ ys i.toNat).D))) i.toNat).X) (k' + 1) ((at_ (ys.set i.toNat (Feat.mk k' ((at_ ys i.toNat).Y) ((at_ ys i.toNat).D))) i.toNat).D))) i.toNat).Y) ((k' + 1) + 1))) j = ⟨k + 3 * (j : Int), k + 3 * (j : Int) + 1, k + 3 * (j : Int) + 2⟩) ∧ True from ⟨(by omega), (by simp; omega), (by omega), (by simp only [List.set_set, at_setQ hiy]; exact mk_next hi0.1 hiy hy1 (by simp only [Feat.mk.injEq]; omega)), trivial⟩) (by show (((al.length : Int) - (i + 1)).toNat : Nat) < ((al.length : Int) - i).toNat; omega)
    ·refine x_reg [(3, .dec false)] [0, 1, 5, 9] [7301] [.arr 7301, I k', I i, Bv false] [some (.arr 3 ys.length (fFeat ys))] [¬ (i < (ys.length : Int))] (by kernel_rfl) ⟨h1, trivial⟩ ?_
     refine xe_then ?_
     refine x_false rfl ?_
     refine x_exit ?_
     refine xe_exit_then ?_
     refine xe_loop_exit ?_
     refine xe_exit_same ?_
     refine xe_then ?_
     refine x_seq ?_
     refine x_reg [] [4] [7301] [I k'] [some (.arr 3 ys.length (fFeat ys))] [] (by kernel_rfl) trivial ?_
     refine xe_then ?_
     refine x_ret ?_
     refine xe_end (k', ys) (show (k' = k + 3 * (al.length : Int)) ∧ (ys = mkL k al.length) ∧ (True) from ⟨(by first | omega | exact ext_at (by rw [hy0, mkL_len]) (fun j hj => by rw [hy1 j (by omega), mkL_at (by omega)])), (by first | omega | exact ext_at (by rw [hy0, mkL_len]) (fun j hj => by rw [hy1 j (by omega), mkL_at (by omega)])), trivial⟩) (⟨.inl rfl, trivial⟩) (I k') (by kernel_rfl) (.inl rfl) (fun _ => rfl) (fun _ => trivial)
  obtain ⟨⟨v, al'⟩, ⟨hh0, hh1, _⟩, hc⟩ := hh
  exact ⟨v, al', hh0, hh1, hc⟩

theorem markFeatS1_ok (al : List Feat) (k : Int) (hk : 0 ≤ k ∧ k ≤ 100000000 ∧ al.length ≤ 1048576) : ∃ (v : Int) (al' : List Feat), (v = k + 3 * (al.length : Int)) ∧ (al' = mkL k al.length) ∧ CallOK Try.prog 52 [.arr 7302, I k] (lookO [(7302, .arr 3 al.length (fFeat al))]) true (I v) (lookO [(7302, .arr 3 al'.length (fFeat al'))]) := by
  have hh : ∃ r : Int × (List Feat), ((r.1 = k + 3 * (al.length : Int)) ∧ (r.2 = mkL k al.length) ∧ (True)) ∧ CallOK Try.prog 52 [.arr 7302, I k] (lookO [(7302, .arr 3 al.length (fFeat al))]) true (I r.1) (lookO [(7302, .arr 3 r.2.length (fFeat r.2))]) := by
    refine fn_okX (Φ := fun r : Int × (List Feat) => (r.1 = k + 3 * (al.length : Int)) ∧ (r.2 = mkL k al.length) ∧ (True)) [(7302, .arr 3 al.length (fFeat al))] (fun r => [(7302, .arr 3 r.2.length (fFeat r.2))]) (fn := Try.f52) (nt := 34) Try.func52 rfl rfl (args := [.arr 7302, I k]) rfl (allcons (.inr trivial) (allcons (.inl ⟨rfl, trivial⟩) allnil)) (res := fun r => I r.1) ?_
    refine x_seq ?_
    refine x_reg [] [0, 1] [7302] [.arr 7302, I k] [some (.arr 3 al.length (fFeat al))] [] (by kernel_rfl) trivial ?_
    refine xe_then ?_
    refine x_seq ?_
    refine x_seq ?_
    refine x_reg [] [0, 1, 5] [7302] [.arr 7302, I k, I 0] [some (.arr 3 al.length (fFeat al))] [] (by kernel_rfl) trivial ?_
    refine xe_then ?_
    refine x_block ?_
    refine x_loop (X := Int × Int × (List Feat)) (fun x => mkS [(0, .arr 7302), (1, I x.1), (5, I x.2.1)] [(7302, .arr 3 x.2.2.length (fFeat x.2.2))]) (fun x => (0 ≤ x.2.1 ∧ x.2.1 ≤ (al.length : Int)) ∧ (x.2.2.length = al.length) ∧ (x.1 = k + 3 * x.2.1) ∧ (∀ j : Nat, (j : Int) < x.2.1 → at_ x.2.2 j = ⟨k + 3 * (j : Int), k + 3 * (j : Int) + 1, k + 3 * (j : Int) + 2⟩) ∧ True) (fun x => ((al.length : Int) - x.2.1).toNat) (k, 0, al) rfl (show (0 ≤ (0 : Int) ∧ (0 : Int) ≤ (al.length : Int)) ∧ (al.length = al.length) ∧ (k = k + 3 * (0 : Int)) ∧ (∀ j : Nat, (j : Int) < (0 : Int) → at_ al j = ⟨k + 3 * (j : Int), k + 3 * (j : Int) + 1, k + 3 * (j : Int) + 2⟩) ∧ True from ⟨(by omega), (by rfl), (by omega), (by intro j hj; omega), trivial⟩) (fun x hI => ?_)
    obtain ⟨k', i, ys⟩ := x
    obtain ⟨hi0, hy0, hk1, hy1, _⟩ : (0 ≤ i ∧ i ≤ (al.length : Int)) ∧ (ys.length = al.length) ∧ (k' = k + 3 * i) ∧ (∀ j : Nat, (j : Int) < i → at_ ys j = ⟨k + 3 * (j : Int), k + 3 * (j : Int) + 1, k + 3 * (j : Int) + 2⟩) ∧ True := hI
    show XW _ _ _ _ (mkS [(0, .arr 7302), (1, I k'), (5, I i)] [(7302, .arr 3 ys.length (fFeat ys))]) _ _
    refine x_seq ?_
    refine x_seq ?_
    by_cases h1 : i < (ys.length : Int)
    ·have hi : i.toNat < al.length := by omega
     have hiy : i.toNat < ys.length := by omega
     refine x_reg [(3, .dec true)] [0, 1, 5, 9] [7302] [.arr 7302, I k', I i, Bv true] [some (.arr 3 ys.length (fFeat ys))] [i < (ys.length : Int)] (by kernel_rfl) ⟨h1, trivial⟩ ?_
     refine xe_then ?_
     refine x_true rfl ?_
     refine x_skip ?_
     refine xe_then ?_
     refine x_seq ?_
     refine x_block ?_
     refine x_seq ?_
     refine x_reg [] [0, 1, 5] [7302] [.arr 7302, I k', I i] [some (.arr 3 ys.length (fun q => bif Nat.beq q i.toNat then [I k', I ((at_ ys i.toNat).Y), I ((at_ ys i.toNat).D)] else (fFeat ys) q))] [(0 : Int) ≤ i ∧ i < (ys.length : Int), i.toNat < ys.length] (by kernel_rfl) ⟨⟨(by omega), (by omega)⟩, (by omega), trivial⟩ ?_
     refine xe_then ?_
     refine x_seq ?_
     refine x_weak [] (T := [(0, .arr 7302), (1, I k'), (5, I i)]) (O := [(7302, .arr 3 ((ys.set i.toNat (Feat.mk k' ((at_ ys i.toNat).Y) ((at_ ys i.toNat).D))).length) (fFeat (ys.set i.toNat (Feat.mk k' ((at_ ys i.toNat).Y) ((at_ ys i.toNat).D)))))]) rfl (⟨.inl rfl, .inl rfl, .inl rfl, trivial⟩) (⟨.inr ⟨rfl, (by first | rfl | (simp; done) | (simp; omega) | omega), fun i_ hi_ => .inl (upd_enc (enc := cFeat) rfl i_ hi_)⟩, trivial⟩) ?_
     refine x_reg [] [0, 1, 5] [7302] [.arr 7302, I (k' + 1), I i] [some (.arr 3 ((ys.set i.toNat (Feat.mk k' ((at_ ys i.toNat).Y) ((at_ ys i.toNat).D))).length) (fFeat (ys.set i.toNat (Feat.mk k' ((at_ ys i.toNat).Y) ((at_ ys i.toNat).D)))))] [inR .i64 (k' + 1)] (by kernel_rfl) ⟨(inR_i64 (by omega) (by omega)), trivial⟩ ?_
     refine xe_then ?_
     refine x_seq ?_
     refine x_reg [] [0, 1, 5] [7302] [.arr 7302, I (k' + 1), I i] [some (.arr 3 ((ys.set i.toNat (Feat.mk k' ((at_ ys i.toNat).Y) ((at_ ys i.toNat).D))).length) (fun q => bif Nat.beq q i.toNat then [I ((at_ (ys.set i.toNat (Feat.mk k' ((at_ ys i.toNat).Y) ((at_ ys i.toNat).D))) i.toNat).X), I (k' + 1), I ((at_ (ys.set i.toNat (Feat.mk k' ((at_ ys i.toNat).Y) ((at_ ys i.toNat).D))) i.toNat).D)] else (fFeat (ys.set i.toNat (Feat.mk k' ((at_ ys i.toNat).Y) ((at_ ys i.toNat).D)))) q))] [(0 : Int) ≤ i ∧ i < (((ys.set i.toNat (Feat.mk k' ((at_ ys i.toNat).Y) ((at_ ys i.toNat).D))).length) : Int), i.toNat < (ys.set i.toNat (Feat.mk k' ((at_ ys i.toNat).Y) ((at_ ys i.toNat).D))).length] (by kernel_rfl) ⟨⟨(by (try simp only [List.length_set]); omega), (by (try simp only [List.length_set]); omega)⟩, (by (try simp only [List.length_set]); omega), trivial⟩ ?_
     refine xe_then ?_
     refine x_seq ?_
     refine x_weak [] (T := [(0, .arr 7302), (1, I (k' + 1)), (5, I i)]) (O := [(7302, .arr 3 (((ys.set i.toNat (Feat.mk k' ((at_ ys i.toNat).Y) ((at_ ys i.toNat).D))).set i.toNat (Feat.mk ((at_ (ys.set i.toNat (Feat.mk k' ((at_ ys i.toNat).Y) ((at_ ys i.toNat).D))) i.toNat).X) (k' + 1) ((at_ (ys.set i.toNat (Feat.mk k' ((at_ ys i.toNat).Y) ((at_ ys i.toNat).D))) i.toNat).D))).length) (fFeat ((ys.set i.toNat (Feat.mk k' ((at_ ys i.toNat).Y) ((at_ ys i.toNat).D))).set i.toNat (Feat.mk ((at_ (ys.set i.toNat (Feat.mk k' ((at_ ys i.toNat).Y) ((at_ ys i.toNat).D))) i.toNat).X) (k' + 1) ((at_ (ys.set i.toNat (Feat.mk k' ((at_ ys i.toNat).Y) ((at_ ys i.toNat).D))) i.toNat).D)))))]) rfl (⟨.inl rfl, .inl rfl, .inl rfl, trivial⟩) (⟨.inr ⟨rfl, (by first | rfl | (simp; done) | (simp; omega) | omega), fun i_ hi_ => .inl (upd_enc (enc := cFeat) rfl i_ hi_)⟩, trivial⟩) ?_
     refine x_reg [] [0, 1, 5] [7302] [.arr 7302, I ((k' + 1) + 1), I i] [some (.arr 3 (((ys.set i.toNat (Feat.mk k' ((at_ ys i.toNat).Y) ((at_ ys i.toNat).D))).set i.toNat (Feat.mk ((at_ (ys.set i.toNat (Feat.mk k' ((at_ ys i.toNat).Y) ((at_ ys i.toNat).D))) i.toNat).X) (k' + 1) ((at_ (ys.set i.toNat (Feat.mk k' ((at_ ys i.toNat).Y) ((at_ ys i.toNat).D))) i.toNat).D))).length) (fFeat ((ys.set i.toNat (Feat.mk k' ((at_ ys i.toNat).Y) ((at_ ys i.toNat).D))).set i.toNat (Feat.mk ((at_ (ys.set i.toNat (Feat.mk k' ((at_ ys i.toNat).Y) ((at_ ys i.toNat).D))) i.toNat).X) (k' + 1) ((at_ (ys.set i.toNat (Feat.mk k' ((at_ ys i.toNat).Y) ((at_ ys i.toNat).D))) i.toNat).D)))))] [inR .i64 ((k' + 1) + 1)] (by kernel_rfl) ⟨(inR_i64 (by omega) (by omega)), trivial⟩ ?_
     refine xe_then ?_
     refine x_seq ?_
     refine x_reg [] [0, 1, 5] [7302] [.arr 7302, I ((k' + 1) + 1), I i] [some (.arr 3 (((ys.set i.toNat (Feat.mk k' ((at_ ys i.toNat).Y) ((at_ ys i.toNat).D))).set i.toNat (Feat.mk ((at_ (ys.set i.toNat (Feat.mk k' ((at_ ys i.toNat).Y) ((at_ ys i.toNat).D))) i.toNat).X) (k' + 1) ((at_ (ys.set i.toNat (Feat.mk k' ((at_ ys i.toNat).Y) ((at_ ys i.toNat).D))) i.toNat).D))).length) (fun q => bif Nat.beq q i.toNat then [I ((at_ ((ys.set i.toNat (Feat.mk k' ((at_ ys i.toNat).Y) ((at_ ys i.toNat).D))).set i.toNat (Feat.mk ((at_ (ys.set i.toNat (Feat.mk k' ((at_ ys i.toNat).Y) ((at_ ys i.toNat).D))) i.toNat).X) (k' + 1) ((at_ (ys.set i.toNat (Feat.mk k' ((at_ ys i.toNat).Y) ((at_ ys i.toNat).D))) i.toNat).D))) i.toNat).X), I ((at_ ((ys.set i.toNat (Feat.mk k' ((at_ ys i.toNat).Y) ((at_ ys i.toNat).D))).set i.toNat (Feat.mk ((at_ (ys.set i.toNat (Feat.mk k' ((at_ ys i.toNat).Y) ((at_ ys i.toNat).D))) i.toNat).X) (k' + 1) ((at_ (ys.set i.toNat (Feat.mk k' ((at_ ys i.toNat).Y) ((at_ ys i.toNat).D))) i.toNat).D))) i.toNat).Y), I ((k' + 1) + 1)] else (fFeat ((ys.set i.toNat (Feat.mk k' ((at_ ys i.toNat).Y) ((at_ ys i.toNat).D))).set i.toNat (Feat.mk ((at_ (ys.set i.toNat (Feat.mk k' ((at_ ys i.toNat).Y) ((at_ ys i.toNat).D))) i.toNat).X) (k' + 1) ((at_ (ys.set i.toNat (Feat.mk k' ((at_ ys i.toNat).Y) ((at_ ys i.toNat).D))) i.toNat).D)))) q))] [(0 : Int) ≤ i ∧ i < ((((ys.set i.toNat (Feat.mk k' ((at_ ys i.toNat).Y) ((at_ ys i.toNat).D))).set i.toNat (Feat.mk ((at_ (ys.set i.toNat (Feat.mk k' ((at_ ys i.toNat).Y) ((at_ ys i.toNat).D))) i.toNat).X) (k' + 1) ((at_ (ys.set i.toNat (Feat.mk k' ((at_ ys i.toNat).Y) ((at_ ys i.toNat).D))) i.toNat).D))).length) : Int), i.toNat < ((ys.set i.toNat (Feat.mk k' ((at_ ys i.toNat).Y) ((at_ ys i.toNat).D))).set i.toNat (Feat.mk ((at_ (ys.set i.toNat (Feat.mk k' ((at_ ys i.toNat).Y) ((at_ ys i.toNat).D))) i.toNat).X) (k' + 1) ((at_ (ys.set i.toNat (Feat.mk k' ((at_ ys i.toNat).Y) ((at_ ys i.toNat).D))) i.toNat).D))).length] (by kernel_rfl) ⟨⟨(by (try simp only [List.length_set]); omega), (by (try simp only [List.length_set]); omega)⟩, (by (try simp only [List.length_set]); omega), trivial⟩ ?_
     refine xe_then ?_
     refine x_weak [] (T := [(0, .arr 7302), (1, I ((k' + 1) + 1)), (5, I i)]) (O := [(7302, .arr 3 ((((ys.set i.toNat (Feat.mk k' ((at_ ys i.toNat).Y) ((at_ ys i.toNat).D))).set i.toNat (Feat.mk ((at_ (ys.set i.toNat (Feat.mk k' ((at_ ys i.toNat).Y) ((at_ ys i.toNat).D))) i.toNat).X) (k' + 1) ((at_ (ys.set i.toNat (Feat.mk k' ((at_ ys i.toNat).Y) ((at_ ys i.toNat).D))) i.toNat).D))).set i.toNat (Feat.mk ((at_ ((ys.set i.toNat (Feat.mk k' ((at_ ys i.toNat).Y) ((at_ ys i.toNat).D))).set i.toNat (Feat.mk ((at_ (ys.set i.toNat (Feat.mk k' ((at_ ys i.toNat).Y) ((at_ ys i.toNat).D))) i.toNat).X) (k' + 1) ((at_ (ys.set i.toNat (Feat.mk k' ((at_ ys i.toNat).Y) ((at_ ys i.toNat).D))) i.toNat).D))) i.toNat).X) ((at_ ((ys.set i.toNat (Feat.mk k' ((at_ ys i.toNat).Y) ((at_ ys i.toNat).D))).set i.toNat (Feat.mk ((at_ (ys.set i.toNat (Feat.mk k' ((at_ ys i.toNat).Y) ((at_ ys i.toNat).D))) i.toNat).X) (k' + 1) ((at_ (ys.set i.toNat (Feat.mk k' ((at_ ys i.toNat).Y) ((at_ ys i.toNat).D))) i.toNat).D))) i.toNat).Y) ((k' + 1) + 1))).length) (fFeat (((ys.set i.toNat (Feat.mk k' ((at_ ys i.toNat).Y) ((at_ ys i.toNat).D))).set i.toNat (Feat.mk ((at_ (ys.set i.toNat (Feat.mk k' ((at_ ys i.toNat).Y) ((at_ ys i.toNat).D))) i.toNat).X) (k' + 1) ((at_ (ys.set i.toNat (Feat.mk k' ((at_ ys i.toNat).Y) ((at_ ys i.toNat).D))) i.toNat).D))).set i.toNat (Feat.mk ((at_ ((ys.set i.toNat (Feat.mk k' ((at_ ys i.toNat).Y) ((at_ ys i.toNat).D))).set i.toNat (Feat.mk ((at_ (ys.set i.toNat (Feat.mk k' ((at_ ys i.toNat).Y) ((at_ ys i.toNat).D))) i.toNat).X) (k' + 1) ((at_ (ys.set i.toNat (Feat.mk k' ((at_ ys i.toNat).Y) ((at_ ys i.toNat).D))) i.toNat).D))) i.toNat).X) ((at_ ((ys.set i.toNat (Feat.mk k' ((at_ ys i.toNat).Y) ((at_ ys i.toNat).D))).set i.toNat (Feat.mk ((at_ (ys.set i.toNat (Feat.mk k' ((at_ ys i.toNat).Y) ((at_ ys i.toNat).D))) i.toNat).X) (k' + 1) ((at_ (ys.set i.toNat (Feat.mk k' ((at_ ys i.toNat).Y) ((at_ ys i.toNat).D))) i.toNat).D))) i.toNat).Y) ((k' + 1) + 1)))))]) rfl (⟨.inl rfl, .inl rfl, .inl rfl, trivial⟩) (⟨.inr ⟨rfl, (by first | rfl | (simp; done) | (simp; omega) | omega), fun i_ hi_ => .inl (upd_enc (enc := cFeat) rfl i_ hi_)⟩, trivial⟩) ?_
     refine x_reg [] [0, 1, 5] [7302] [.arr 7302, I (((k' + 1) + 1) + 1), I i] [some (.arr 3 ((((ys.set i.toNat (Feat.mk k' ((at_ ys i.toNat).Y) ((at_ ys i.toNat).D))).set i.toNat (Feat.mk ((at_ (ys.set i.toNat (Feat.mk k' ((at_ ys i.toNat).Y) ((at_ ys i.toNat).D))) i.toNat).X) (k' + 1) ((at_ (ys.set i.toNat (Feat.mk k' ((at_ ys i.toNat).Y) ((at_ ys i.toNat).D))) i.toNat).D))).set i.toNat (Feat.mk ((at_ ((ys.set i.toNat (Feat.mk k' ((at_ ys i.toNat).Y) ((at_ ys i.toNat).D))).set i.toNat (Feat.mk ((at_ (ys.set i.toNat (Feat.mk k' ((at_ ys i.toNat).Y) ((at_ ys i.toNat).D))) i.toNat).X) (k' + 1) ((at_ (ys.set i.toNat (Feat.mk k' ((at_ ys i.toNat).Y) ((at_ ys i.toNat).D))) i.toNat).D))) i.toNat).X) ((at_ ((ys.set i.toNat (Feat.mk k' ((at_ ys i.toNat).Y) ((at_ ys i.toNat).D))).set i.toNat (Feat.mk ((at_ (ys.set i.toNat (Feat.mk k' ((at_ ys i.toNat).Y) ((at_ ys i.toNat).D))) i.toNat).X) (k' + 1) ((at_ (ys.set i.toNat (Feat.mk k' ((at_ ys i.toNat).Y) ((at_ ys i.toNat).D))) i.toNat).D))) i.toNat).Y) ((k' + 1) + 1))).length) (fFeat (((ys.set i.toNat (Feat.mk k' ((at_ ys i.toNat).Y) ((at_ ys i.toNat).D))).set i.toNat (Feat.mk ((at_ (ys.set i.toNat (Feat.mk k' ((at_ ys i.toNat).Y) ((at_ ys i.toNat).D))) i.toNat).X) (k' + 1) ((at_ (ys.set i.toNat (Feat.mk k' ((at_ ys i.toNat).Y) ((at_ ys i.toNat).D))) i.toNat).D))).set i.toNat (Feat.mk ((at_ ((ys.set i.toNat (Feat.mk k' ((at_ ys i.toNat).Y) ((at_ ys i.toNat).D))).set i.toNat (Feat.mk ((at_ (ys.set i.toNat (Feat.mk k' ((at_ ys i.toNat).Y) ((at_ ys i.toNat).D))) i.toNat).X) (k' + 1) ((at_ (ys.set i.toNat (Feat.mk k' ((at_ ys i.toNat).Y) ((at_ ys i.toNat).D))) i.toNat).D))) i.toNat).X) ((at_ ((ys.set i.toNat (Feat.mk k' ((at_ ys i.toNat).Y) ((at_ ys i.toNat).D))).set i.toNat (Feat.mk ((at_ (ys.set i.toNat (Feat.mk k' ((at_ ys i.toNat).Y) ((at_ ys i.toNat).D))) i.toNat).X) (k' + 1) ((at_ (ys.set i.toNat (Feat.mk k' ((at_ ys i.toNat).Y) ((at_ ys i.toNat).D))) i.toNat).D))) i.toNat).Y) ((k' + 1) + 1)))))] [inR .i64 (((k' + 1) + 1) + 1)] (by kernel_rfl) ⟨(inR_i64 (by omega) (by omega)), trivial⟩ ?_
     refine xe_block 1 ?_
     refine xe_then ?_
     refine x_reg [] [0, 1, 5] [7302] [.arr 7302, I (((k' + 1) + 1) + 1), I (i + 1)] [some (.arr 3 ((((ys.set i.toNat (Feat.mk k' ((at_ ys i.toNat).Y) ((at_ ys i.toNat).D))).set i.toNat (Feat.mk ((at_ (ys.set i.toNat (Feat.mk k' ((at_ ys i.toNat).Y) ((at_ ys i.toNat).D))) i.toNat).X) (k' + 1) ((at_ (ys.set i.toNat (Feat.mk k' ((at_ ys i.toNat).Y) ((at_ ys i.toNat).D))) i.toNat).D))).set i.toNat (Feat.mk ((at_ ((ys.set i.toNat (Feat.mk k' ((at_ ys i.toNat).Y) ((at_ ys i.toNat).D))).set i.toNat (Feat.mk ((at_ (ys.set i.toNat (Feat.mk k' ((at_ ys i.toNat).Y) ((at_ ys i.toNat).D))) i.toNat).X) (k' + 1) ((at_ (ys.set i.toNat (Feat.mk k' ((at_ ys i.toNat).Y) ((at_ ys i.toNat).D))) i.toNat).D))) i.toNat).X) ((at_ ((ys.set i.toNat (Feat.mk k' ((at_ ys i.toNat).Y) ((at_ ys i.toNat).D))).set i.toNat (Feat.mk ((at_ (ys.set i.toNat (Feat.mk k' ((at_ ys i.toNat).Y) ((at_ ys i.toNat).D))) i.toNat).X) (k' + 1) ((at_ (ys.set i.toNat (Feat.mk k' ((at_ ys i.toNat).Y) ((at_ ys i.toNat).D))) i.toNat).D))) i.toNat).Y) ((k' + 1) + 1))).length) (fFeat (((ys.set i.toNat (Feat.mk k' ((at_ ys i.toNat).Y) ((at_ ys i.toNat).D))).set i.toNat (Feat.mk ((at_ (ys.set i.toNat (Feat.mk k' ((at_ ys i.toNat).Y) ((at_ ys i.toNat).D))) i.toNat).X) (k' + 1) ((at_ (ys.set i.toNat (Feat.mk k' ((at_ ys i.toNat).Y) ((at_ ys i.toNat).D))) i.toNat).D))).set i.toNat (Feat.mk ((at_ ((ys.set i.toNat (Feat.mk k' ((at_ ys i.toNat).Y) ((at_ ys i.toNat).D))).set i.toNat (Feat.mk ((at_ (ys.set i.toNat (Feat.mk k' ((at_ ys i.toNat).Y) ((at_ ys i.toNat).D))) i.toNat).X) (k' + 1) ((at_ (ys.set i.toNat (Feat.mk k' ((at_ ys i.toNat).Y) ((at_ ys i.toNat).D))) i.toNat).D))) i.toNat).X) ((at_ ((ys.set i.toNat (Feat.mk k' ((at_ ys i.toNat).Y) ((at_ ys i.toNat).D))).set i.toNat (Feat.mk ((at_ (ys.set i.toNat (Feat.mk k' ((at_ ys i.toNat).Y) ((at_ ys i.toNat).D))) i.toNat).X) (k' + 1) ((at_ (ys.set i.toNat (Feat.mk k' ((at_ ys i.toNat).Y) ((at_ ys i.toNat).D))) i.toNat).D))) i.toNat).Y) ((k' + 1) + 1)))))] [inR .i64 (i + 1)] (by kernel_rfl) ⟨(inR_i64 (by omega) (by omega)), trivial⟩ ?_
     exact xe_again ((((k' + 1) + 1) + 1), (i + 1), (((ys.set i.toNat (Feat.mk k' ((at_ ys i.toNat).Y) ((at_ ys i.toNat).D))).set i.toNat (Feat.mk ((at_ (ys.set i.toNat (Feat.mk k' ((at_ ys i.toNat).Y) ((at_ ys i.toNat).D))) i.toNat).X) (k' + 1) ((at_ (ys.set i.toNat (Feat.mk k' ((at_ ys i.toNat).Y) ((at_ ys i.toNat).D))) i.toNat).D))).set i.toNat (Feat.mk ((at_ ((ys.set i.toNat (Feat.mk k' ((at_ ys i.toNat).Y) ((at_ ys i.toNat).D))).set i.toNat (Feat.mk ((at_ (ys.set i.toNat (Feat.mk k' ((at_ ys i.toNat).Y) ((at_ ys i.toNat).D))) i.toNat).X) (k' + 1) ((at_ (ys.set i.toNat (Feat.mk k' ((at_ ys i.toNat).Y) ((at_ ys i.toNat).D))) i.toNat).D))) i.toNat).X) ((at_ ((ys.set i.toNat (Feat.mk k' ((at_ ys i.toNat).Y) ((at_ ys i.toNat).D))).set i.toNat (Feat.mk ((at_ (ys.set i.toNat (Feat.mk k' ((at_ ys i.toNat).Y) ((at_ ys i.toNat).D))) i.toNat).X) (k' + 1) ((at_ (ys.set i.toNat (Feat.mk k' ((at_ ys i.toNat).Y) ((at_ ys i.toNat).D))) i.toNat).D))) i.toNat).Y) ((k' + 1) + 1)))) rfl (show (0 ≤ (i + 1) ∧ (i + 1) ≤ (al.length : Int)) ∧ ((((ys.set i.toNat (Feat.mk k' ((at_ ys i.toNat).Y) ((at_ ys i.toNat).D))).set i.toNat (Feat.mk ((at_ (ys.set i.toNat (Feat.mk k' ((at_ ys i.toNat).Y) ((at_ ys i.toNat).D))) i.toNat).X) (k' + 1) ((at_ (ys.set i.toNat (Feat.mk k' ((at_ ys i.toNat).Y) ((at_ ys i.toNat).D))) i.toNat).D))).set i.toNat (Feat.mk ((at_ ((ys.set i.toNat (Feat.mk k' ((at_ ys i.toNat).Y) ((at_ ys i.toNat).D))).set i.toNat (Feat.mk ((at_ (ys.set i.toNat (Feat.mk k' ((at_ ys i.toNat).Y) ((at_ ys i.toNat).D))) i.toNat).X) (k' + 1) ((at_ (ys.set i.toNat (Feat.mk k' ((at_ ys i.toNat).Y) ((at_ ys i.toNat).D))) i.toNat).D))) i.toNat).X) ((at_ ((ys.set i.toNat (Feat.mk k' ((at_ ys i.toNat).Y) ((at_ ys i.toNat).D))).set i.toNat (Feat.mk ((at_ (ys.set i.toNat (Feat.mk k' ((at_ ys i.toNat).Y) ((at_ ys i.toNat).D))) i.toNat).X) (k' + 1) ((at_ (ys.set i.toNat (Feat.mk k' ((at_ ys i.toNat).Y) ((at_ ys i.toNat).D))) i.toNat).D))) i.toNat).Y) ((k' + 1) + 1))).length = al.length) ∧ ((((k' + 1) + 1) + 1) = k + 3 * (i + 1)) ∧ (∀ j : Nat, (j : Int) < (i + 1) → at_ (((ys.set i.toNat (Feat.mk k' ((at_ ys i.toNat).Y) ((at_ ys i.toNat).D))).set i.toNat (Feat.mk ((at_ (ys.set i.toNat (Feat.mk k' ((at_ ys i.toNat).Y) ((at_ ys i.toNat).D))) i.toNat).X) (k' + 1) ((at_ (ys.set i.toNat (Feat.mk k' ((at_ ys i.toNat).Y) ((at_ ys i.toNat).D))) i.toNat).D))).set i.toNat (Feat.mk ((at_ ((ys.set i.toNat (Feat.mk k' ((at_ ys i.toNat).Y) ((at_ ys i.toNat).D))).set i.toNat (Feat.mk ((at_ (ys.set i.toNat (Feat.mk k' ((at_ ys i.toNat).Y) ((at_ ys i.toNat).D))) i.toNat).X) (k' + 1) ((at_ (ys.set i.toNat (Feat.mk k' ((at_ ys i.toNat).Y) ((at_ ys i.toNat).D))) i.toNat).D))) i.toNat).X) ((at_ ((ys.set i.toNat (Feat.mk k' ((at_ ys i.toNat).Y) ((at_ ys i.toNat).D))).set i.toNat (Feat.mk ((at_ (ys.set i.toNat (Feat.mk k' ((at_ ys i.toNat).Y) ((at_ ys i.toNat).D))) i.toNat).X) (k' + 1) ((at_ (ys.set i.toNat (Feat.mk k' ((at_ ys i.toNat).Y) ((at_ ys i.toNat).D))) i.toNat).D))) i.toNat).Y) ((k' + 1) + 1))) j = ⟨k + 3 * (j : Int), k + 3 * (j : Int) + 1, k + 3 * (j : Int) + 2⟩) ∧ True from ⟨(by omega), (by simp; omega), (by omega), (by simp only [List.set_set, at_setQ hiy]; exact mk_next hi0.1 hiy hy1 (by simp only [Feat.mk.injEq]; omega)), trivial⟩) (by show (((al.length : Int) - (i + 1)).toNat : Nat) < ((al.length : Int) - i).toNat; omega)
    ·refine x_reg [(3, .dec false)] [0, 1, 5, 9] [7302] [.arr 7302, I k', I i, Bv false] [some (.arr 3 ys.length (fFeat ys))] [¬ (i < (ys.length : Int))] (by kernel_rfl) ⟨h1, trivial⟩ ?_
     refine xe_then ?_
     refine x_false rfl ?_
     refine x_exit ?_
     refine xe_exit_then ?_
     refine xe_loop_exit ?_
     refine xe_exit_same ?_
     refine xe_then ?_
     refine x_seq ?_
     refine x_reg [] [4] [7302] [I k'] [some (.arr 3 ys.length (fFeat ys))] [] (by kernel_rfl) trivial ?_
     refine xe_then ?_
     refine x_ret ?_
     refine xe_end (k', ys) (show (k' = k + 3 * (al.length : Int)) ∧ (ys = mkL k al.length) ∧ (True) from ⟨(by first | omega | exact ext_at (by rw [hy0, mkL_len]) (fun j hj => by rw [hy1 j (by omega), mkL_at (by omega)])), (by first | omega | exact ext_at (by rw [hy0, mkL_len]) (fun j hj => by rw [hy1 j (by omega), mkL_at (by omega)])), trivial⟩) (⟨.inl rfl, trivial⟩) (I k') (by kernel_rfl) (.inl rfl) (fun _ => rfl) (fun _ => trivial)
  obtain ⟨⟨v, al'⟩, ⟨hh0, hh1, _⟩, hc⟩ := hh
  exact ⟨v, al', hh0, hh1, hc⟩


-- laws.markTrained
theorem markTrained_ok (al : Trained) (k : Int) (hk : 0 ≤ k ∧ k ≤ 10000000 ∧ al.Base.length ≤ 1048576 ∧ al.Feats.length ≤ 1048576) : ∃ (v : Int) (al_Base : List Feat) (al_Feats : List Feat), (v = k + 3 * (al.Base.length : Int) + 3 * (al.Feats.length : Int)) ∧ (al_Base = mkL k al.Base.length) ∧ (al_Feats = mkL (k + 3 * (al.Base.length : Int)) al.Feats.length) ∧ CallOK Try.prog 22 [.agg [Sv al.Label, .arr 7301, .arr 7302, I al.Count], I k] (lookO [(7301, .arr 3 al.Base.length (fFeat al.Base)), (7302, .arr 3 al.Feats.length (fFeat al.Feats))]) true (I v) (lookO [(7301, .arr 3 al_Base.length (fFeat al_Base)), (7302, .arr 3 al_Feats.length (fFeat al_Feats))]) := by
  have hh : ∃ r : Int × (List Feat) × (List Feat), ((r.1 = k + 3 * (al.Base.length : Int) + 3 * (al.Feats.length : Int)) ∧ (r.2.1 = mkL k al.Base.length) ∧ (r.2.2 = mkL (k + 3 * (al.Base.length : Int)) al.Feats.length) ∧ (True)) ∧ CallOK Try.prog 22 [.agg [Sv al.Label, .arr 7301, .arr 7302, I al.Count], I k] (lookO [(7301, .arr 3 al.Base.length (fFeat al.Base)), (7302, .arr 3 al.Feats.length (fFeat al.Feats))]) true (I r.1) (lookO [(7301, .arr 3 r.2.1.length (fFeat r.2.1)), (7302, .arr 3 r.2.2.length (fFeat r.2.2))]) := by
    refine fn_okX (Φ := fun r : Int × (List Feat) × (List Feat) => (r.1 = k + 3 * (al.Base.length : Int) + 3 * (al.Feats.length : Int)) ∧ (r.2.1 = mkL k al.Base.length) ∧ (r.2.2 = mkL (k + 3 * (al.Base.length : Int)) al.Feats.length) ∧ (True)) [(7301, .arr 3 al.Base.length (fFeat al.Base)), (7302, .arr 3 al.Feats.length (fFeat al.Feats))] (fun r => [(7301, .arr 3 r.2.1.length (fFeat r.2.1)), (7302, .arr 3 r.2.2.length (fFeat r.2.2))]) (fn := Try.f22) (nt := 14) Try.func22 rfl rfl (args := [.agg [Sv al.Label, .arr 7301, .arr 7302, I al.Count], I k]) rfl (allcons (.inr (by simp [tagged, taggedL])) (allcons (.inl ⟨rfl, trivial⟩) allnil)) (res := fun r => I r.1) ?_
    refine x_seq ?_
    refine x_reg [(0, .new 2)] [1, 2] [2, 7301, 7302] [I k, .ref 2 0] [some (.box [Sv al.Label, .arr 7301, .arr 7302, I al.Count]), some (.arr 3 al.Base.length (fFeat al.Base)), some (.arr 3 al.Feats.length (fFeat al.Feats))] [] (by kernel_rfl) trivial ?_
    refine xe_then ?_
    refine x_seq ?_
    obtain ⟨v_1, al'_1, hx1_0, hx1_1, hc1⟩ := markFeatS0_ok al.Base k (by omega)
    refine x_reg [(3, .lend [(7301, .arr 3 al.Base.length (fFeat al.Base), .arr 3 al'_1.length (fFeat al'_1))] [] [(true, .arr 7301), (true, I k)] true (I v_1))] [1, 2] [2, 7301, 7302] [I v_1, .ref 2 0] [some (.box [Sv al.Label, .arr 7301, .arr 7302, I al.Count]), some (.arr 3 al'_1.length (fFeat al'_1)), some (.arr 3 al.Feats.length (fFeat al.Feats))] [CallOK Try.prog 52 [.arr 7301, I k] (lookO [(7301, .arr 3 al.Base.length (fFeat al.Base))]) true (I v_1) (lookO [(7301, .arr 3 al'_1.length (fFeat al'_1))]) ∧ ((.arr 7301 : AV) = .arr 7301) ∧ ((I k : AV) = I k) ∧ (((.arr 3 al.Base.length (fFeat al.Base) : Ob) = .arr 3 al.Base.length (fFeat al.Base) ∨ obLe noOb true (.arr 3 al.Base.length (fFeat al.Base)) (.arr 3 al.Base.length (fFeat al.Base))) ∧ taggedO false (.arr 3 al.Base.length (fFeat al.Base))) ∧ True] (by kernel_rfl) ⟨⟨hc1, rfl, rfl, ⟨.inl rfl, fun _ _ => tagcFeat false _⟩, trivial⟩, trivial⟩ ?_
    refine xe_then ?_
    refine x_seq ?_
    obtain ⟨v_2, al'_2, hx2_0, hx2_1, hc2⟩ := markFeatS1_ok al.Feats v_1 (by omega)
    refine x_reg [(3, .lend [(7302, .arr 3 al.Feats.length (fFeat al.Feats), .arr 3 al'_2.length (fFeat al'_2))] [] [(true, .arr 7302), (true, I v_1)] true (I v_2))] [1] [7301, 7302] [I v_2] [some (.arr 3 al'_1.length (fFeat al'_1)), some (.arr 3 al'_2.length (fFeat al'_2))] [CallOK Try.prog 52 [.arr 7302, I v_1] (lookO [(7302, .arr 3 al.Feats.length (fFeat al.Feats))]) true (I v_2) (lookO [(7302, .arr 3 al'_2.length (fFeat al'_2))]) ∧ ((.arr 7302 : AV) = .arr 7302) ∧ ((I v_1 : AV) = I v_1) ∧ (((.arr 3 al.Feats.length (fFeat al.Feats) : Ob) = .arr 3 al.Feats.length (fFeat al.Feats) ∨ obLe noOb true (.arr 3 al.Feats.length (fFeat al.Feats)) (.arr 3 al.Feats.length (fFeat al.Feats))) ∧ taggedO false (.arr 3 al.Feats.length (fFeat al.Feats))) ∧ True] (by kernel_rfl) ⟨⟨hc2, rfl, rfl, ⟨.inl rfl, fun _ _ => tagcFeat false _⟩, trivial⟩, trivial⟩ ?_
    refine xe_then ?_
    refine x_seq ?_
    refine x_reg [] [4] [7301, 7302] [I v_2] [some (.arr 3 al'_1.length (fFeat al'_1)), some (.arr 3 al'_2.length (fFeat al'_2))] [] (by kernel_rfl) trivial ?_
    refine xe_then ?_
    refine x_ret ?_
    refine xe_end (v_2, al'_1, al'_2) (show (v_2 = k + 3 * (al.Base.length : Int) + 3 * (al.Feats.length : Int)) ∧ (al'_1 = mkL k al.Base.length) ∧ (al'_2 = mkL (k + 3 * (al.Base.length : Int)) al.Feats.length) ∧ (True) from ⟨(by first | omega | assumption | (simp only [*]; done) | (rw [hx2_1, hx1_0])), (by first | omega | assumption | (simp only [*]; done) | (rw [hx2_1, hx1_0])), (by first | omega | assumption | (simp only [*]; done) | (rw [hx2_1, hx1_0])), trivial⟩) (⟨.inl rfl, .inl rfl, trivial⟩) (I v_2) (by kernel_rfl) (.inl rfl) (fun _ => rfl) (fun _ => trivial)
  obtain ⟨⟨v, al_Base, al_Feats⟩, ⟨hh0, hh1, hh2, _⟩, hc⟩ := hh
  exact ⟨v, al_Base, al_Feats, hh0, hh1, hh2, hc⟩


-- laws.heldFeatS
theorem heldFeatS_ok (a : List Feat) (k : Int) (hk : 0 ≤ k ∧ k ≤ 100000000 ∧ a.length ≤ 1048576) (ha : a = mkL k a.length) : Con Try.prog 62 [slFeat false a, I k] true (I (k + 3 * (a.length : Int))) := by
  refine fn_ok (fn := Try.f62) (nt := 40) Try.func62 rfl rfl rfl rfl (by simp [taggedL, tagged, tagFeat]) fun B hB => ?_
  refine aw_lens (x := slFeat false a) 0 rfl (fun len_a => ?_)
  simp [LenOK, LenL, cFeat, fFeat, slFeat] at len_a
  refine aw_seq ?_
  refine aw_reg [] [0, 1] [] [slFeat false a, I k] [] [] (by kernel_rfl) hB trivial ?_
  refine ae_then ?_
  refine aw_seq ?_
  refine aw_seq ?_
  refine aw_reg [] [0, 1, 5] [] [slFeat false a, I k, I 0] [] [] (by kernel_rfl) hB trivial ?_
  refine ae_then ?_
  refine aw_block ?_
  refine aw_loop (fun gn gσ => ∃ (k' : Int) (i : Int), gn = ((a.length : Int) - i).toNat ∧ (0 ≤ i ∧ i ≤ (a.length : Int)) ∧ (k' = k + 3 * i) ∧ gσ = mkS [(0, slFeat false a), (1, I k'), (5, I i)] []) (((a.length : Int) - 0).toNat) ⟨k, 0, rfl, (by omega), (by omega), rfl⟩ (fun gn gσ hI => ?_)
  obtain ⟨k', i, rfl, hi0, hk1, rfl⟩ := hI
  refine aw_seq ?_
  refine aw_seq ?_
  by_cases h1 : i < (a.length : Int)
  ·have hi : i.toNat < a.length := by omega
   have hat : at_ a i.toNat = ⟨k + 3 * (i.toNat : Int), k + 3 * (i.toNat : Int) + 1, k + 3 * (i.toNat : Int) + 2⟩ := (congrArg (fun z => at_ z i.toNat) ha).trans (mkL_at hi)
   refine aw_reg [(3, .dec true)] [0, 1, 5, 9] [] [slFeat false a, I k', I i, Bv true] [] [i < (a.length : Int)] (by kernel_rfl) hB ⟨h1, trivial⟩ ?_
   refine ae_then ?_
   refine aw_true rfl ?_
   refine aw_skip ?_
   refine ae_then ?_
   refine aw_seq ?_
   refine aw_block ?_
   refine aw_seq ?_
   refine aw_seq ?_
   refine aw_reg [(6, .dec false)] [0, 1, 5, 18] [] [slFeat false a, I k', I i, Bv false] [] [(0 : Int) ≤ i ∧ i < (a.length : Int), ¬ (((at_ a i.toNat).X) ≠ k')] (by kernel_rfl) hB ⟨⟨(by omega), (by omega)⟩, (fun hq => hq (by rw [hat]; simp only; omega)), trivial⟩ ?_
   refine ae_then ?_
   refine aw_false rfl ?_
   refine aw_skip ?_
   refine ae_then ?_
   refine aw_seq ?_
   refine aw_reg [] [0, 1, 5] [] [slFeat false a, I (k' + 1), I i] [] [inR .i64 (k' + 1)] (by kernel_rfl) hB ⟨(inR_i64 (by omega) (by omega)), trivial⟩ ?_
   refine ae_then ?_
   refine aw_seq ?_
   refine aw_seq ?_
   refine aw_reg [(6, .dec false)] [0, 1, 5, 27] [] [slFeat false a, I (k' + 1), I i, Bv false] [] [(0 : Int) ≤ i ∧ i < (a.length : Int), ¬ (((at_ a i.toNat).Y) ≠ (k' + 1))] (by kernel_rfl) hB ⟨⟨(by omega), (by omega)⟩, (fun hq => hq (by rw [hat]; simp only; omega)), trivial⟩ ?_
   refine ae_then ?_
   refine aw_false rfl ?_
   refine aw_skip ?_
   refine ae_then ?_
   refine aw_seq ?_
   refine aw_reg [] [0, 1, 5] [] [slFeat false a, I ((k' + 1) + 1), I i] [] [inR .i64 ((k' + 1) + 1)] (by kernel_rfl) hB ⟨(inR_i64 (by omega) (by omega)), trivial⟩ ?_
   refine ae_then ?_
   refine aw_seq ?_
   refine aw_seq ?_
   refine aw_reg [(6, .dec false)] [0, 1, 5, 36] [] [slFeat false a, I ((k' + 1) + 1), I i, Bv false] [] [(0 : Int) ≤ i ∧ i < (a.length : Int), ¬ (((at_ a i.toNat).D) ≠ ((k' + 1) + 1))] (by kernel_rfl) hB ⟨⟨(by omega), (by omega)⟩, (fun hq => hq (by rw [hat]; simp only; omega)), trivial⟩ ?_
   refine ae_then ?_
   refine aw_false rfl ?_
   refine aw_skip ?_
   refine ae_then ?_
   refine aw_reg [] [0, 1, 5] [] [slFeat false a, I (((k' + 1) + 1) + 1), I i] [] [inR .i64 (((k' + 1) + 1) + 1)] (by kernel_rfl) hB ⟨(inR_i64 (by omega) (by omega)), trivial⟩ ?_
   refine ae_block 1 ?_
   refine ae_then ?_
   refine aw_reg [] [0, 1, 5] [] [slFeat false a, I (((k' + 1) + 1) + 1), I (i + 1)] [] [inR .i64 (i + 1)] (by kernel_rfl) hB ⟨(inR_i64 (by omega) (by omega)), trivial⟩ ?_
   exact ae_again _ (by omega) ⟨(((k' + 1) + 1) + 1), (i + 1), rfl, (by omega), (by omega), rfl⟩
  ·refine aw_reg [(3, .dec false)] [0, 1, 5, 9] [] [slFeat false a, I k', I i, Bv false] [] [¬ (i < (a.length : Int))] (by kernel_rfl) hB ⟨h1, trivial⟩ ?_
   refine ae_then ?_
   refine aw_false rfl ?_
   refine aw_exit ?_
   refine ae_exit_then ?_
   refine ae_exit_then ?_
   refine ae_exit_same ?_
   refine ae_then ?_
   refine aw_seq ?_
   refine aw_reg [] [4] [] [I k'] [] [] (by kernel_rfl) hB trivial ?_
   refine ae_then ?_
   refine aw_ret ?_
   refine ae_ret hB (I k') (by kernel_rfl) (.inl (by refine congrArg I ?_; omega)) rfl (fun _ => trivial)


-- laws.heldTrained
theorem heldTrained_ok (a : Trained) (k : Int) (hk : 0 ≤ k ∧ k ≤ 10000000 ∧ a.Base.length ≤ 1048576 ∧ a.Feats.length ≤ 1048576) (h1 : a.Base = mkL k a.Base.length) (h2 : a.Feats = mkL (k + 3 * (a.Base.length : Int)) a.Feats.length) : Con Try.prog 23 [agTrained a, I k] true (I (k + 3 * (a.Base.length : Int) + 3 * (a.Feats.length : Int))) := by
  refine fn_ok (fn := Try.f23) (nt := 18) Try.func23 rfl rfl rfl rfl (by simp [taggedL, tagged, tagFeat]) fun B hB => ?_
  refine aw_lens (x := agTrained a) 0 rfl (fun len_a => ?_)
  simp [LenOK, LenL, cFeat, fFeat, slFeat] at len_a
  refine aw_seq ?_
  refine aw_reg [(0, .new 2)] [1, 2] [2] [I k, .ref 2 0] [some (bxTrained a)] [] (by kernel_rfl) hB trivial ?_
  refine ae_then ?_
  refine aw_seq ?_
  refine aw_reg [(3, .call [(true, slFeat false a.Base), (true, I k)] true (I (k + 3 * (a.Base.length : Int))))] [1, 2] [2] [I (k + 3 * (a.Base.length : Int)), .ref 2 0] [some (bxTrained a)] [Con Try.prog 62 [slFeat false a.Base, I k] true (I (k + 3 * (a.Base.length : Int))) ∧ ((slFeat false a.Base : AV) = slFeat false a.Base) ∧ ((I k : AV) = I k) ∧ True] (by kernel_rfl) hB ⟨⟨(heldFeatS_ok a.Base k (by omega) h1), rfl, rfl, trivial⟩, trivial⟩ ?_
  refine ae_then ?_
  refine aw_seq ?_
  refine aw_seq ?_
  refine aw_reg [(1, .dec false)] [1, 2, 10] [2] [I (k + 3 * (a.Base.length : Int)), .ref 2 0, Bv false] [some (bxTrained a)] [¬ ((k + 3 * (a.Base.length : Int)) < 0)] (by kernel_rfl) hB ⟨(by omega), trivial⟩ ?_
  refine ae_then ?_
  refine aw_false rfl ?_
  refine aw_skip ?_
  refine ae_then ?_
  refine aw_seq ?_
  refine aw_reg [(3, .call [(true, slFeat false a.Feats), (true, I (k + 3 * (a.Base.length : Int)))] true (I ((k + 3 * (a.Base.length : Int)) + 3 * (a.Feats.length : Int))))] [1] [] [I ((k + 3 * (a.Base.length : Int)) + 3 * (a.Feats.length : Int))] [] [Con Try.prog 62 [slFeat false a.Feats, I (k + 3 * (a.Base.length : Int))] true (I ((k + 3 * (a.Base.length : Int)) + 3 * (a.Feats.length : Int))) ∧ ((slFeat false a.Feats : AV) = slFeat false a.Feats) ∧ ((I (k + 3 * (a.Base.length : Int)) : AV) = I (k + 3 * (a.Base.length : Int))) ∧ True] (by kernel_rfl) hB ⟨⟨(heldFeatS_ok a.Feats (k + 3 * (a.Base.length : Int)) (by omega) h2), rfl, rfl, trivial⟩, trivial⟩ ?_
  refine ae_then ?_
  refine aw_seq ?_
  refine aw_seq ?_
  refine aw_reg [(1, .dec false)] [1, 16] [] [I ((k + 3 * (a.Base.length : Int)) + 3 * (a.Feats.length : Int)), Bv false] [] [¬ (((k + 3 * (a.Base.length : Int)) + 3 * (a.Feats.length : Int)) < 0)] (by kernel_rfl) hB ⟨(by omega), trivial⟩ ?_
  refine ae_then ?_
  refine aw_false rfl ?_
  refine aw_skip ?_
  refine ae_then ?_
  refine aw_seq ?_
  refine aw_reg [] [4] [] [I ((k + 3 * (a.Base.length : Int)) + 3 * (a.Feats.length : Int))] [] [] (by kernel_rfl) hB trivial ?_
  refine ae_then ?_
  refine aw_ret ?_
  refine ae_ret hB (I ((k + 3 * (a.Base.length : Int)) + 3 * (a.Feats.length : Int))) (by kernel_rfl) (.inl (by rfl)) rfl (fun _ => trivial)


theorem same_self {α : Type} [DecidableEq α] (x : α) : same x x = true := by simp [same]
end Go.Proofs.Ytmnboneljjijmaa.Ax
