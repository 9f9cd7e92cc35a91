/- Contracts that the statement FnExactStoreOfWriter reaches, part 1. No conditions. -/
import Derived.Test.YtjiflhglbephbaaAxO
import Derived.Test.YtjiflhglbephbaaShelf
import Derived.Test.YtjiflhglbephbaaAxR
import Derived.Test.YtjiflhglbephbaaAxS
namespace Go.Proofs.Ytjiflhglbephbaa.Ax
open Go.RowKit Go.ChangeShapes Go.WideShapes
set_option linter.unusedVariables false
set_option linter.unusedSimpArgs false


def cI (x : Int) : List AV := [I x]
def fI (xs : List Int) (i : Nat) : List AV := cI (at_ xs i)
def slI (fr : Bool) (xs : List Int) : AV := .sl fr 1 xs.length (fI xs)
theorem tagcI (t : Bool) (x : Int) : taggedL t (cI x) := by simp [cI, taggedL, tagged]
theorem tagI (t : Bool) (xs : List Int) : tagged t (slI t xs) := by simp only [slI, tagged]; exact ⟨trivial, fun i _ => tagcI t _⟩
theorem lenI (fr : Bool) (xs : List Int) : lenA noOb (slI fr xs) = some xs.length := rfl
def cS (x : ByteArray) : List AV := [Sv x]
def fS (xs : List ByteArray) (i : Nat) : List AV := cS (at_ xs i)
def slS (fr : Bool) (xs : List ByteArray) : AV := .sl fr 1 xs.length (fS xs)
theorem tagcS (t : Bool) (x : ByteArray) : taggedL t (cS x) := by simp [cS, taggedL, tagged]
theorem tagS (t : Bool) (xs : List ByteArray) : tagged t (slS t xs) := by simp only [slS, tagged]; exact ⟨trivial, fun i _ => tagcS t _⟩
theorem lenS (fr : Bool) (xs : List ByteArray) : lenA noOb (slS fr xs) = some xs.length := rfl
structure Feat where
  X : Int
  Y : Int
  D : Int
deriving DecidableEq, Inhabited
def cFeat (x : Feat) : List AV := [I x.X, I x.Y, I x.D]
def fFeat (xs : List Feat) (i : Nat) : List AV := cFeat (at_ xs i)
def slFeat (fr : Bool) (xs : List Feat) : AV := .sl fr 3 xs.length (fFeat xs)
theorem tagcFeat (t : Bool) (x : Feat) : taggedL t (cFeat x) := by simp [cFeat, taggedL, tagged]
theorem tagFeat (t : Bool) (xs : List Feat) : tagged t (slFeat t xs) := by simp only [slFeat, tagged]; exact ⟨trivial, fun i _ => tagcFeat t _⟩
theorem lenFeat (fr : Bool) (xs : List Feat) : lenA noOb (slFeat fr xs) = some xs.length := rfl
abbrev bxFeat (x : Feat) : Ob := .box [I x.X, I x.Y, I x.D]
abbrev agFeat (x : Feat) : AV := .agg [I x.X, I x.Y, I x.D]
def cLFeat (fr : Bool) (x : List Feat) : List AV := [slFeat fr x]
def fLFeat (fr : Bool) (xs : List (List Feat)) (i : Nat) : List AV := cLFeat fr (at_ xs i)
def slLFeat (fr : Bool) (xs : List (List Feat)) : AV := .sl fr 1 xs.length (fLFeat fr xs)
theorem tagcLFeat (t : Bool) (x : List Feat) : taggedL t (cLFeat t x) := by simp [cLFeat, taggedL, tagged, tagFeat]
theorem tagLFeat (t : Bool) (xs : List (List Feat)) : tagged t (slLFeat t xs) := by simp only [slLFeat, tagged]; exact ⟨trivial, fun i _ => tagcLFeat t _⟩
theorem lenLFeat (fr : Bool) (xs : List (List Feat)) : lenA noOb (slLFeat fr xs) = some xs.length := rfl
theorem idsLFeat (fr : Bool) (x : List Feat) : AV.idsL (cLFeat fr x) = [] := rfl
theorem leLFeat (fr : Bool) (x : List Feat) (ob : Nat → Option Ob) : leL ob false (cLFeat fr x) (cLFeat false x) := (And.intro (And.intro (fun h => by cases h) (And.intro rfl (And.intro rfl (fun i _ => .inl rfl)))) rfl)
structure Trained where
  Label : ByteArray
  Base : List Feat
  Feats : List Feat
  Count : Int
deriving DecidableEq, Inhabited
def cTrained (fr : Bool) (x : Trained) : List AV := [Sv x.Label, slFeat fr x.Base, slFeat fr x.Feats, I x.Count]
def fTrained (fr : Bool) (xs : List Trained) (i : Nat) : List AV := cTrained fr (at_ xs i)
def slTrained (fr : Bool) (xs : List Trained) : AV := .sl fr 4 xs.length (fTrained fr xs)
theorem tagcTrained (t : Bool) (x : Trained) : taggedL t (cTrained t x) := by simp [cTrained, taggedL, tagged, tagFeat]
theorem tagTrained (t : Bool) (xs : List Trained) : tagged t (slTrained t xs) := by simp only [slTrained, tagged]; exact ⟨trivial, fun i _ => tagcTrained t _⟩
theorem lenTrained (fr : Bool) (xs : List Trained) : lenA noOb (slTrained fr xs) = some xs.length := rfl
theorem idsTrained (fr : Bool) (x : Trained) : AV.idsL (cTrained fr x) = [] := rfl
theorem leTrained (fr : Bool) (x : Trained) (ob : Nat → Option Ob) : leL ob false (cTrained fr x) (cTrained false x) := (And.intro rfl (And.intro (And.intro (fun h => by cases h) (And.intro rfl (And.intro rfl (fun i _ => .inl rfl)))) (And.intro (And.intro (fun h => by cases h) (And.intro rfl (And.intro rfl (fun i _ => .inl rfl)))) (And.intro rfl rfl))))
abbrev bxTrained (x : Trained) : Ob := .box [Sv x.Label, slFeat false x.Base, slFeat false x.Feats, I x.Count]
abbrev agTrained (x : Trained) : AV := .agg [Sv x.Label, slFeat false x.Base, slFeat false x.Feats, I x.Count]
abbrev bxTrainedT (x : Trained) : Ob := .box [Sv x.Label, slFeat true x.Base, slFeat true x.Feats, I x.Count]
abbrev agTrainedT (x : Trained) : AV := .agg [Sv x.Label, slFeat true x.Base, slFeat true x.Feats, I x.Count]
def cLTrained (fr : Bool) (x : List Trained) : List AV := [slTrained fr x]
def fLTrained (fr : Bool) (xs : List (List Trained)) (i : Nat) : List AV := cLTrained fr (at_ xs i)
def slLTrained (fr : Bool) (xs : List (List Trained)) : AV := .sl fr 1 xs.length (fLTrained fr xs)
theorem tagcLTrained (t : Bool) (x : List Trained) : taggedL t (cLTrained t x) := by simp [cLTrained, taggedL, tagged, tagTrained]
theorem tagLTrained (t : Bool) (xs : List (List Trained)) : tagged t (slLTrained t xs) := by simp only [slLTrained, tagged]; exact ⟨trivial, fun i _ => tagcLTrained t _⟩
theorem lenLTrained (fr : Bool) (xs : List (List Trained)) : lenA noOb (slLTrained fr xs) = some xs.length := rfl
theorem idsLTrained (fr : Bool) (x : List Trained) : AV.idsL (cLTrained fr x) = [] := rfl
theorem leLTrained (fr : Bool) (x : List Trained) (ob : Nat → Option Ob) : leL ob false (cLTrained fr x) (cLTrained false x) := (And.intro (And.intro (fun h => by cases h) (And.intro rfl (And.intro rfl (fun i _ => .inr ⟨idsTrained _ _, leTrained _ _ _⟩)))) rfl)
structure Writer where
  Band : Int
  Trained : List Trained
deriving DecidableEq, Inhabited
def cWriter (fr : Bool) (x : Writer) : List AV := [I x.Band, slTrained fr x.Trained]
def fWriter (fr : Bool) (xs : List Writer) (i : Nat) : List AV := cWriter fr (at_ xs i)
def slWriter (fr : Bool) (xs : List Writer) : AV := .sl fr 2 xs.length (fWriter fr xs)
theorem tagcWriter (t : Bool) (x : Writer) : taggedL t (cWriter t x) := by simp [cWriter, taggedL, tagged, tagTrained]
theorem tagWriter (t : Bool) (xs : List Writer) : tagged t (slWriter t xs) := by simp only [slWriter, tagged]; exact ⟨trivial, fun i _ => tagcWriter t _⟩
theorem lenWriter (fr : Bool) (xs : List Writer) : lenA noOb (slWriter fr xs) = some xs.length := rfl
theorem idsWriter (fr : Bool) (x : Writer) : AV.idsL (cWriter fr x) = [] := rfl
theorem leWriter (fr : Bool) (x : Writer) (ob : Nat → Option Ob) : leL ob false (cWriter fr x) (cWriter false x) := (And.intro rfl (And.intro (And.intro (fun h => by cases h) (And.intro rfl (And.intro rfl (fun i _ => .inr ⟨idsTrained _ _, leTrained _ _ _⟩)))) rfl))
abbrev bxWriter (x : Writer) : Ob := .box [I x.Band, slTrained false x.Trained]
abbrev agWriter (x : Writer) : AV := .agg [I x.Band, slTrained false x.Trained]
abbrev bxWriterT (x : Writer) : Ob := .box [I x.Band, slTrained true x.Trained]
abbrev agWriterT (x : Writer) : AV := .agg [I x.Band, slTrained true x.Trained]
structure Template where
  Label : ByteArray
  Feats : List Feat
deriving DecidableEq, Inhabited
def cTemplate (fr : Bool) (x : Template) : List AV := [Sv x.Label, slFeat fr x.Feats]
def fTemplate (fr : Bool) (xs : List Template) (i : Nat) : List AV := cTemplate fr (at_ xs i)
def slTemplate (fr : Bool) (xs : List Template) : AV := .sl fr 2 xs.length (fTemplate fr xs)
theorem tagcTemplate (t : Bool) (x : Template) : taggedL t (cTemplate t x) := by simp [cTemplate, taggedL, tagged, tagFeat]
theorem tagTemplate (t : Bool) (xs : List Template) : tagged t (slTemplate t xs) := by simp only [slTemplate, tagged]; exact ⟨trivial, fun i _ => tagcTemplate t _⟩
theorem lenTemplate (fr : Bool) (xs : List Template) : lenA noOb (slTemplate fr xs) = some xs.length := rfl
theorem idsTemplate (fr : Bool) (x : Template) : AV.idsL (cTemplate fr x) = [] := rfl
theorem leTemplate (fr : Bool) (x : Template) (ob : Nat → Option Ob) : leL ob false (cTemplate fr x) (cTemplate false x) := (And.intro rfl (And.intro (And.intro (fun h => by cases h) (And.intro rfl (And.intro rfl (fun i _ => .inl rfl)))) rfl))
abbrev bxTemplate (x : Template) : Ob := .box [Sv x.Label, slFeat false x.Feats]
abbrev agTemplate (x : Template) : AV := .agg [Sv x.Label, slFeat false x.Feats]
abbrev bxTemplateT (x : Template) : Ob := .box [Sv x.Label, slFeat true x.Feats]
abbrev agTemplateT (x : Template) : AV := .agg [Sv x.Label, slFeat true x.Feats]
def cLTemplate (fr : Bool) (x : List Template) : List AV := [slTemplate fr x]
def fLTemplate (fr : Bool) (xs : List (List Template)) (i : Nat) : List AV := cLTemplate fr (at_ xs i)
def slLTemplate (fr : Bool) (xs : List (List Template)) : AV := .sl fr 1 xs.length (fLTemplate fr xs)
theorem tagcLTemplate (t : Bool) (x : List Template) : taggedL t (cLTemplate t x) := by simp [cLTemplate, taggedL, tagged, tagTemplate]
theorem tagLTemplate (t : Bool) (xs : List (List Template)) : tagged t (slLTemplate t xs) := by simp only [slLTemplate, tagged]; exact ⟨trivial, fun i _ => tagcLTemplate t _⟩
theorem lenLTemplate (fr : Bool) (xs : List (List Template)) : lenA noOb (slLTemplate fr xs) = some xs.length := rfl
theorem idsLTemplate (fr : Bool) (x : List Template) : AV.idsL (cLTemplate fr x) = [] := rfl
theorem leLTemplate (fr : Bool) (x : List Template) (ob : Nat → Option Ob) : leL ob false (cLTemplate fr x) (cLTemplate false x) := (And.intro (And.intro (fun h => by cases h) (And.intro rfl (And.intro rfl (fun i _ => .inr ⟨idsTemplate _ _, leTemplate _ _ _⟩)))) rfl)
structure Store where
  Band : Int
  Templates : List Template
deriving DecidableEq, Inhabited
def cStore (fr : Bool) (x : Store) : List AV := [I x.Band, slTemplate fr x.Templates]
def fStore (fr : Bool) (xs : List Store) (i : Nat) : List AV := cStore fr (at_ xs i)
def slStore (fr : Bool) (xs : List Store) : AV := .sl fr 2 xs.length (fStore fr xs)
theorem tagcStore (t : Bool) (x : Store) : taggedL t (cStore t x) := by simp [cStore, taggedL, tagged, tagTemplate]
theorem tagStore (t : Bool) (xs : List Store) : tagged t (slStore t xs) := by simp only [slStore, tagged]; exact ⟨trivial, fun i _ => tagcStore t _⟩
theorem lenStore (fr : Bool) (xs : List Store) : lenA noOb (slStore fr xs) = some xs.length := rfl
theorem idsStore (fr : Bool) (x : Store) : AV.idsL (cStore fr x) = [] := rfl
theorem leStore (fr : Bool) (x : Store) (ob : Nat → Option Ob) : leL ob false (cStore fr x) (cStore false x) := (And.intro rfl (And.intro (And.intro (fun h => by cases h) (And.intro rfl (And.intro rfl (fun i _ => .inr ⟨idsTemplate _ _, leTemplate _ _ _⟩)))) rfl))
abbrev bxStore (x : Store) : Ob := .box [I x.Band, slTemplate false x.Templates]
abbrev agStore (x : Store) : AV := .agg [I x.Band, slTemplate false x.Templates]
abbrev bxStoreT (x : Store) : Ob := .box [I x.Band, slTemplate true x.Templates]
abbrev agStoreT (x : Store) : AV := .agg [I x.Band, slTemplate true x.Templates]
def cU8 (x : Int) : List AV := [.val (.int .u8 x)]
def fU8 (xs : List Int) (i : Nat) : List AV := cU8 (at_ xs i)
def slU8 (fr : Bool) (xs : List Int) : AV := .sl fr 1 xs.length (fU8 xs)
theorem tagcU8 (t : Bool) (x : Int) : taggedL t (cU8 x) := by simp [cU8, taggedL, tagged]
theorem tagU8 (t : Bool) (xs : List Int) : tagged t (slU8 t xs) := by simp only [slU8, tagged]; exact ⟨trivial, fun i _ => tagcU8 t _⟩
theorem lenU8 (fr : Bool) (xs : List Int) : lenA noOb (slU8 fr xs) = some xs.length := rfl

/-- What is left of l behind b. -/
def szTake (l : Int) (b : Nat) : Int := if l < b then -1 else l - b
theorem szTake_nn {l : Int} {b : Nat} (h : ¬ szTake l b < 0) : szTake l b = l - b ∧ (b : Int) ≤ l := by
  unfold szTake at *; split at h <;> simp_all <;> omega
theorem szTake_ng {l : Int} {b : Nat} (h : szTake l b < 0) (h0 : 0 ≤ l) : szTake l b = -1 ∧ l < b := by
  unfold szTake at *; split at h <;> simp_all <;> omega
theorem szTake_of {l : Int} {b : Nat} (h : (b : Int) ≤ l) : szTake l b = l - b := by unfold szTake; rw [if_neg (by omega)]
theorem szTake_neg {l : Int} {b : Nat} (h : l < b) : szTake l b = -1 := by unfold szTake; rw [if_pos h]
theorem take_snoc' {α : Type} [Inhabited α] {l : List α} {k : Nat} (h : k < l.length) : l.take (k + 1) = l.take k ++ [at_ l k] := by
  rw [List.take_succ_eq_append_getElem h, at_eq h]

def bulkFeatS (xs : List Feat) : Nat := xs.length
theorem bulkFeatS_len (xs : List Feat) : xs.length ≤ bulkFeatS xs := Nat.le_refl _

-- laws.szFeatS
theorem szFeatS_ok (a : List Feat) (left : Int) (h0 : 0 ≤ left ∧ left ≤ 1048576) : Con Try.prog 58 [slFeat false a, I left] true (I (szTake left (bulkFeatS a))) := by
  refine fn_ok (fn := Try.f58) (nt := 12) Try.func58 rfl rfl rfl rfl (by simp [taggedL, tagged, tagFeat]) fun B hB => ?_
  refine aw_lens (x := slFeat false a) 0 rfl (fun len_a => ?_)
  simp [LenOK, LenL, cFeat, fFeat, slFeat] at len_a
  refine aR [] [0, 1] [] [slFeat false a, I left] [] [] hB trivial ?_
  refine aR [] [1] [] [I (left - (a.length : Int))] [] [inR .i64 (left - (a.length : Int))] hB ⟨(inR_i64 (by omega) (by omega)), trivial⟩ ?_
  refine aw_seq ?_
  refine aw_seq ?_
  by_cases h1 : (left - (a.length : Int)) < 0
  ·refine aw_r [(1, .dec true)] [1, 10] [] [I (left - (a.length : Int)), Bv true] [] [(left - (a.length : Int)) < 0] hB ⟨h1, trivial⟩ ?_
   refine ae_then ?_
   refine aw_true rfl ?_
   refine aR [] [4] [] [I (-1)] [] [] hB trivial ?_
   refine aw_ret ?_
   refine ae_ret_then ?_
   refine ae_ret hB (I (-1)) (by kernel_rfl) (.inl (by refine congrArg I ?_; unfold szTake bulkFeatS; split <;> omega)) rfl (fun _ => trivial)
  refine aw_r [(1, .dec false)] [1, 10] [] [I (left - (a.length : Int)), Bv false] [] [¬ ((left - (a.length : Int)) < 0)] hB ⟨h1, trivial⟩ ?_
  refine ae_then ?_
  refine aw_false rfl ?_
  refine aw_skip ?_
  refine ae_then ?_
  refine aR [] [4] [] [I (left - (a.length : Int))] [] [] hB trivial ?_
  refine aw_ret ?_
  refine ae_ret hB (I (left - (a.length : Int))) (by kernel_rfl) (.inl (by refine congrArg I ?_; unfold szTake bulkFeatS; split <;> omega)) rfl (fun _ => trivial)


def okTrained (x : Trained) : Prop := (x.Label.size ≤ 9223372036854775807)

def bulkTrained (x : Trained) : Nat := x.Label.size + (bulkFeatS x.Base) + (bulkFeatS x.Feats)
def bulkTrainedS : List Trained → Nat
  | [] => 0
  | x :: r => 1 + (bulkTrained x) + bulkTrainedS r
theorem bulkTrainedS_app (xs ys : List Trained) : bulkTrainedS (xs ++ ys) = bulkTrainedS xs + bulkTrainedS ys := by
  induction xs with
  | nil => simp [bulkTrainedS]
  | cons x r ih => simp [bulkTrainedS, ih]; omega
theorem bulkTrainedS_len (xs : List Trained) : xs.length ≤ bulkTrainedS xs := by
  induction xs with
  | nil => simp
  | cons x r ih => simp [bulkTrainedS]; omega
theorem bulkTrainedS_take {xs : List Trained} {i : Nat} (h : i < xs.length) : bulkTrainedS (xs.take (i + 1)) = bulkTrainedS (xs.take i) + 1 + (bulkTrained (at_ xs i)) := by
  rw [take_snoc' h, bulkTrainedS_app]; simp [bulkTrainedS]; omega
theorem bulkTrainedS_le (xs : List Trained) (i : Nat) : bulkTrainedS (xs.take i) + (xs.length - i) ≤ bulkTrainedS xs := by
  have e := bulkTrainedS_app (xs.take i) (xs.drop i)
  rw [List.take_append_drop] at e
  have := bulkTrainedS_len (xs.drop i)
  simp at this
  omega
theorem bulkTrainedS_at {xs : List Trained} {i : Nat} (h : i < xs.length) : 1 + (bulkTrained (at_ xs i)) ≤ bulkTrainedS xs := by
  have h1 := bulkTrainedS_take h
  have h2 := bulkTrainedS_le xs (i + 1)
  omega

-- laws.szTrained
theorem szTrained_ok (a : Trained) (left : Int) (h0 : 0 ≤ left ∧ left ≤ 1048576) (ok0 : okTrained a) : Con Try.prog 51 [agTrained a, I left] true (I (szTake left (bulkTrained a))) := by
  have ok := ok0
  unfold okTrained at ok
  have ok_Label := ok
  refine fn_ok (fn := Try.f51) (nt := 25) Try.func51 rfl rfl rfl rfl (by simp [taggedL, tagged, tagFeat]) fun B hB => ?_
  refine aw_lens (x := agTrained a) 0 rfl (fun len_a => ?_)
  simp [LenOK, LenL, cFeat, fFeat, slFeat] at len_a
  refine aR [(0, .new 2)] [1, 2] [2] [I left, .ref 2 0] [some (bxTrained a)] [] hB trivial ?_
  refine aR [] [1, 2] [2] [I (left - (a.Label.size : Int)), .ref 2 0] [some (bxTrained a)] [inR .i64 (left - (a.Label.size : Int))] hB ⟨(inR_i64 (by omega) (by omega)), trivial⟩ ?_
  refine aw_seq ?_
  refine aw_seq ?_
  by_cases h1 : (left - (a.Label.size : Int)) < 0
  ·refine aw_r [(1, .dec true)] [1, 2, 11] [2] [I (left - (a.Label.size : Int)), .ref 2 0, Bv true] [some (bxTrained a)] [(left - (a.Label.size : Int)) < 0] hB ⟨h1, trivial⟩ ?_
   refine ae_then ?_
   refine aw_true rfl ?_
   refine aR [] [4] [] [I (-1)] [] [] hB trivial ?_
   refine aw_ret ?_
   refine ae_ret_then ?_
   refine ae_ret hB (I (-1)) (by kernel_rfl) (.inl (by refine congrArg I ?_; unfold szTake bulkTrained; split <;> omega)) rfl (fun _ => trivial)
  refine aw_r [(1, .dec false)] [1, 2, 11] [2] [I (left - (a.Label.size : Int)), .ref 2 0, Bv false] [some (bxTrained a)] [¬ ((left - (a.Label.size : Int)) < 0)] hB ⟨h1, trivial⟩ ?_
  refine ae_then ?_
  refine aw_false rfl ?_
  refine aw_skip ?_
  refine ae_then ?_
  refine aR [(3, .call [(true, .any), (true, .any)] true (I (szTake (left - (a.Label.size : Int)) (bulkFeatS a.Base))))] [1, 2] [2] [I (szTake (left - (a.Label.size : Int)) (bulkFeatS a.Base)), .ref 2 0] [some (bxTrained a)] [Con Try.prog 58 [slFeat false a.Base, I (left - (a.Label.size : Int))] true (I (szTake (left - (a.Label.size : Int)) (bulkFeatS a.Base))) ∧ True] hB ⟨⟨(szFeatS_ok a.Base (left - (a.Label.size : Int)) (by omega)), trivial⟩, trivial⟩ ?_
  refine aw_seq ?_
  refine aw_seq ?_
  by_cases h2 : (szTake (left - (a.Label.size : Int)) (bulkFeatS a.Base)) < 0
  ·have eh2 := szTake_ng h2 (by omega)
   refine aw_r [(1, .dec true)] [1, 2, 17] [2] [I (szTake (left - (a.Label.size : Int)) (bulkFeatS a.Base)), .ref 2 0, Bv true] [some (bxTrained a)] [(szTake (left - (a.Label.size : Int)) (bulkFeatS a.Base)) < 0] hB ⟨h2, trivial⟩ ?_
   refine ae_then ?_
   refine aw_true rfl ?_
   refine aR [] [4] [] [I (-1)] [] [] hB trivial ?_
   refine aw_ret ?_
   refine ae_ret_then ?_
   refine ae_ret hB (I (-1)) (by kernel_rfl) (.inl (by refine congrArg I ?_; unfold szTake bulkTrained; split <;> omega)) rfl (fun _ => trivial)
  have eh2 := szTake_nn h2
  refine aw_r [(1, .dec false)] [1, 2, 17] [2] [I (szTake (left - (a.Label.size : Int)) (bulkFeatS a.Base)), .ref 2 0, Bv false] [some (bxTrained a)] [¬ ((szTake (left - (a.Label.size : Int)) (bulkFeatS a.Base)) < 0)] hB ⟨h2, trivial⟩ ?_
  refine ae_then ?_
  refine aw_false rfl ?_
  refine aw_skip ?_
  refine ae_then ?_
  refine aR [(3, .call [(true, .any), (true, .any)] true (I (szTake (szTake (left - (a.Label.size : Int)) (bulkFeatS a.Base)) (bulkFeatS a.Feats))))] [1] [] [I (szTake (szTake (left - (a.Label.size : Int)) (bulkFeatS a.Base)) (bulkFeatS a.Feats))] [] [Con Try.prog 58 [slFeat false a.Feats, I (szTake (left - (a.Label.size : Int)) (bulkFeatS a.Base))] true (I (szTake (szTake (left - (a.Label.size : Int)) (bulkFeatS a.Base)) (bulkFeatS a.Feats))) ∧ True] hB ⟨⟨(szFeatS_ok a.Feats (szTake (left - (a.Label.size : Int)) (bulkFeatS a.Base)) (by omega)), trivial⟩, trivial⟩ ?_
  refine aw_seq ?_
  refine aw_seq ?_
  by_cases h3 : (szTake (szTake (left - (a.Label.size : Int)) (bulkFeatS a.Base)) (bulkFeatS a.Feats)) < 0
  ·have eh3 := szTake_ng h3 (by omega)
   refine aw_r [(1, .dec true)] [1, 23] [] [I (szTake (szTake (left - (a.Label.size : Int)) (bulkFeatS a.Base)) (bulkFeatS a.Feats)), Bv true] [] [(szTake (szTake (left - (a.Label.size : Int)) (bulkFeatS a.Base)) (bulkFeatS a.Feats)) < 0] hB ⟨h3, trivial⟩ ?_
   refine ae_then ?_
   refine aw_true rfl ?_
   refine aR [] [4] [] [I (-1)] [] [] hB trivial ?_
   refine aw_ret ?_
   refine ae_ret_then ?_
   refine ae_ret hB (I (-1)) (by kernel_rfl) (.inl (by refine congrArg I ?_; unfold szTake bulkTrained; split <;> omega)) rfl (fun _ => trivial)
  have eh3 := szTake_nn h3
  refine aw_r [(1, .dec false)] [1, 23] [] [I (szTake (szTake (left - (a.Label.size : Int)) (bulkFeatS a.Base)) (bulkFeatS a.Feats)), Bv false] [] [¬ ((szTake (szTake (left - (a.Label.size : Int)) (bulkFeatS a.Base)) (bulkFeatS a.Feats)) < 0)] hB ⟨h3, trivial⟩ ?_
  refine ae_then ?_
  refine aw_false rfl ?_
  refine aw_skip ?_
  refine ae_then ?_
  refine aR [] [4] [] [I (szTake (szTake (left - (a.Label.size : Int)) (bulkFeatS a.Base)) (bulkFeatS a.Feats))] [] [] hB trivial ?_
  refine aw_ret ?_
  refine ae_ret hB (I (szTake (szTake (left - (a.Label.size : Int)) (bulkFeatS a.Base)) (bulkFeatS a.Feats))) (by kernel_rfl) (.inl (by refine congrArg I ?_; unfold szTake bulkTrained; split <;> omega)) rfl (fun _ => trivial)


theorem at_mem {α : Type} [Inhabited α] {xs : List α} {i : Nat} (h : i < xs.length) : at_ xs i ∈ xs := by rw [at_eq h]; exact List.getElem_mem h

-- laws.szTrainedS
theorem szTrainedS_ok (a : List Trained) (left : Int) (h0 : 0 ≤ left ∧ left ≤ 1048576) (ok0 : ∀ y ∈ a, okTrained y) : Con Try.prog 30 [slTrained false a, I left] true (I (szTake left (bulkTrainedS a))) := by
  have hb0 := bulkTrainedS_len a
  refine fn_ok (fn := Try.f30) (nt := 27) Try.func30 rfl rfl rfl rfl (by simp [taggedL, tagged, tagTrained]) fun B hB => ?_
  refine aw_lens (x := slTrained false a) 0 rfl (fun len_a => ?_)
  simp [LenOK, LenL, cFeat, cTrained, fFeat, fTrained, slFeat, slTrained] at len_a
  refine aR [] [0, 1] [] [slTrained false a, I left] [] [] hB trivial ?_
  refine aR [] [0, 1] [] [slTrained false a, I (left - (a.length : Int))] [] [inR .i64 (left - (a.length : Int))] hB ⟨(inR_i64 (by omega) (by omega)), trivial⟩ ?_
  refine aw_seq ?_
  refine aw_seq ?_
  by_cases h1 : (left - (a.length : Int)) < 0
  ·refine aw_r [(1, .dec true)] [0, 1, 11] [] [slTrained false a, I (left - (a.length : Int)), Bv true] [] [(left - (a.length : Int)) < 0] hB ⟨h1, trivial⟩ ?_
   refine ae_then ?_
   refine aw_true rfl ?_
   refine aR [] [4] [] [I (-1)] [] [] hB trivial ?_
   refine aw_ret ?_
   refine ae_ret_then ?_
   refine ae_ret hB (I (-1)) (by kernel_rfl) (.inl (by refine congrArg I ?_; unfold szTake; split <;> omega)) rfl (fun _ => trivial)
  refine aw_r [(1, .dec false)] [0, 1, 11] [] [slTrained false a, I (left - (a.length : Int)), Bv false] [] [¬ ((left - (a.length : Int)) < 0)] hB ⟨h1, trivial⟩ ?_
  refine ae_then ?_
  refine aw_false rfl ?_
  refine aw_skip ?_
  refine ae_then ?_
  refine aw_seq ?_
  refine aR [] [0, 1, 5] [] [slTrained false a, I (left - (a.length : Int)), I 0] [] [] hB trivial ?_
  refine aw_block ?_
  refine aw_loop (fun gn gσ => ∃ (left' : Int) (i : Int), gn = ((a.length : Int) - i).toNat ∧ (0 ≤ i ∧ i ≤ (a.length : Int)) ∧ (0 ≤ left' ∧ left' ≤ 1048576) ∧ (left' + (a.length : Int) - i + (bulkTrainedS (a.take i.toNat) : Int) = left) ∧ gσ = mkS [(0, slTrained false a), (1, I left'), (5, I i)] []) (((a.length : Int) - 0).toNat) ⟨(left - (a.length : Int)), 0, rfl, (by omega), (by omega), (by simp [bulkTrainedS]), rfl⟩ (fun gn gσ hI => ?_)
  obtain ⟨left', i, rfl, hi0, hl0, hs0, rfl⟩ := hI
  refine aw_seq ?_
  refine aw_seq ?_
  by_cases h2 : i < (a.length : Int)
  ·have hi : i.toNat < a.length := by omega
   have hle := bulkTrainedS_le a (i.toNat + 1)
   have htk := bulkTrainedS_take hi
   refine aw_r [(3, .dec true)] [0, 1, 5, 15] [] [slTrained false a, I left', I i, Bv true] [] [i < (a.length : Int)] hB ⟨h2, trivial⟩ ?_
   refine ae_then ?_
   refine aw_true rfl ?_
   refine aw_skip ?_
   refine ae_then ?_
   refine aw_seq ?_
   refine aw_block ?_
   refine aR [(5, .call [(true, .any), (true, .any)] true (I (szTake left' (bulkTrained (at_ a i.toNat)))))] [0, 1, 5] [] [slTrained false a, I (szTake left' (bulkTrained (at_ a i.toNat))), I i] [] [(0 : Int) ≤ i ∧ i < (a.length : Int), Con Try.prog 51 [agTrained (at_ a i.toNat), I left'] true (I (szTake left' (bulkTrained (at_ a i.toNat)))) ∧ True] hB ⟨⟨(by omega), (by omega)⟩, ⟨(szTrained_ok (at_ a i.toNat) left' (by omega) (ok0 _ (at_mem hi))), trivial⟩, trivial⟩ ?_
   refine aw_seq ?_
   by_cases h3 : (szTake left' (bulkTrained (at_ a i.toNat))) < 0
   ·have eh3 := szTake_ng h3 (by omega)
    refine aw_r [(1, .dec true)] [0, 1, 5, 25] [] [slTrained false a, I (szTake left' (bulkTrained (at_ a i.toNat))), I i, Bv true] [] [(szTake left' (bulkTrained (at_ a i.toNat))) < 0] hB ⟨h3, trivial⟩ ?_
    refine ae_then ?_
    refine aw_true rfl ?_
    refine aR [] [4] [] [I (-1)] [] [] hB trivial ?_
    refine aw_ret ?_
    refine ae_ret_block (ae_ret_then (ae_ret_then (ae_ret_block (ae_ret_then ?_))))
    refine ae_ret hB (I (-1)) (by kernel_rfl) (.inl (by refine congrArg I ?_; unfold szTake; split <;> omega)) rfl (fun _ => trivial)
   have eh3 := szTake_nn h3
   refine aw_r [(1, .dec false)] [0, 1, 5, 25] [] [slTrained false a, I (szTake left' (bulkTrained (at_ a i.toNat))), I i, Bv false] [] [¬ ((szTake left' (bulkTrained (at_ a i.toNat))) < 0)] hB ⟨h3, trivial⟩ ?_
   refine ae_then ?_
   refine aw_false rfl ?_
   refine aw_skip ?_
   refine ae_block 1 ?_
   refine ae_then ?_
   refine aw_r [] [0, 1, 5] [] [slTrained false a, I (szTake left' (bulkTrained (at_ a i.toNat))), I (i + 1)] [] [inR .i64 (i + 1)] hB ⟨(inR_i64 (by omega) (by omega)), trivial⟩ ?_
   exact ae_again _ (by omega) ⟨(szTake left' (bulkTrained (at_ a i.toNat))), (i + 1), rfl, (by omega), (by omega), (by (have e2 : (i + 1).toNat = i.toNat + 1 := by omega); rw [e2, htk]; push_cast; omega), rfl⟩
  have hie : i.toNat = a.length := by omega
  rw [hie, List.take_length] at hs0
  refine aw_r [(3, .dec false)] [0, 1, 5, 15] [] [slTrained false a, I left', I i, Bv false] [] [¬ (i < (a.length : Int))] hB ⟨h2, trivial⟩ ?_
  refine ae_then ?_
  refine aw_false rfl ?_
  refine aw_exit ?_
  refine ae_exit_then ?_
  refine ae_exit_then ?_
  refine ae_exit_same ?_
  refine ae_then ?_
  refine aR [] [4] [] [I left'] [] [] hB trivial ?_
  refine aw_ret ?_
  refine ae_ret hB (I left') (by kernel_rfl) (.inl (by refine congrArg I ?_; unfold szTake; split <;> omega)) rfl (fun _ => trivial)


def okWriter (x : Writer) : Prop := (∀ y ∈ x.Trained, okTrained y)

def bulkWriter (x : Writer) : Nat := (bulkTrainedS x.Trained)
def bulkWriterS : List Writer → Nat
  | [] => 0
  | x :: r => 1 + (bulkWriter x) + bulkWriterS r
theorem bulkWriterS_app (xs ys : List Writer) : bulkWriterS (xs ++ ys) = bulkWriterS xs + bulkWriterS ys := by
  induction xs with
  | nil => simp [bulkWriterS]
  | cons x r ih => simp [bulkWriterS, ih]; omega
theorem bulkWriterS_len (xs : List Writer) : xs.length ≤ bulkWriterS xs := by
  induction xs with
  | nil => simp
  | cons x r ih => simp [bulkWriterS]; omega
theorem bulkWriterS_take {xs : List Writer} {i : Nat} (h : i < xs.length) : bulkWriterS (xs.take (i + 1)) = bulkWriterS (xs.take i) + 1 + (bulkWriter (at_ xs i)) := by
  rw [take_snoc' h, bulkWriterS_app]; simp [bulkWriterS]; omega
theorem bulkWriterS_le (xs : List Writer) (i : Nat) : bulkWriterS (xs.take i) + (xs.length - i) ≤ bulkWriterS xs := by
  have e := bulkWriterS_app (xs.take i) (xs.drop i)
  rw [List.take_append_drop] at e
  have := bulkWriterS_len (xs.drop i)
  simp at this
  omega
theorem bulkWriterS_at {xs : List Writer} {i : Nat} (h : i < xs.length) : 1 + (bulkWriter (at_ xs i)) ≤ bulkWriterS xs := by
  have h1 := bulkWriterS_take h
  have h2 := bulkWriterS_le xs (i + 1)
  omega

-- laws.szWriter
theorem szWriter_ok (a : Writer) (left : Int) (h0 : 0 ≤ left ∧ left ≤ 1048576) (ok0 : okWriter a) : Con Try.prog 14 [agWriter a, I left] true (I (szTake left (bulkWriter a))) := by
  have ok := ok0
  unfold okWriter at ok
  have ok_Trained := ok
  refine fn_ok (fn := Try.f14) (nt := 12) Try.func14 rfl rfl rfl rfl (by simp [taggedL, tagged, tagTrained]) fun B hB => ?_
  refine aw_lens (x := agWriter a) 0 rfl (fun len_a => ?_)
  simp [LenOK, LenL, cFeat, cTrained, fFeat, fTrained, slFeat, slTrained] at len_a
  refine aR [(0, .new 2)] [1, 2] [2] [I left, .ref 2 0] [some (bxWriter a)] [] hB trivial ?_
  refine aR [(3, .call [(true, .any), (true, .any)] true (I (szTake left (bulkTrainedS a.Trained))))] [1] [] [I (szTake left (bulkTrainedS a.Trained))] [] [Con Try.prog 30 [slTrained false a.Trained, I left] true (I (szTake left (bulkTrainedS a.Trained))) ∧ True] hB ⟨⟨(szTrainedS_ok a.Trained left (by omega) ok_Trained), trivial⟩, trivial⟩ ?_
  refine aw_seq ?_
  refine aw_seq ?_
  by_cases h1 : (szTake left (bulkTrainedS a.Trained)) < 0
  ·have eh1 := szTake_ng h1 (by omega)
   refine aw_r [(1, .dec true)] [1, 10] [] [I (szTake left (bulkTrainedS a.Trained)), Bv true] [] [(szTake left (bulkTrainedS a.Trained)) < 0] hB ⟨h1, trivial⟩ ?_
   refine ae_then ?_
   refine aw_true rfl ?_
   refine aR [] [4] [] [I (-1)] [] [] hB trivial ?_
   refine aw_ret ?_
   refine ae_ret_then ?_
   refine ae_ret hB (I (-1)) (by kernel_rfl) (.inl (by refine congrArg I ?_; unfold szTake bulkWriter; split <;> omega)) rfl (fun _ => trivial)
  have eh1 := szTake_nn h1
  refine aw_r [(1, .dec false)] [1, 10] [] [I (szTake left (bulkTrainedS a.Trained)), Bv false] [] [¬ ((szTake left (bulkTrainedS a.Trained)) < 0)] hB ⟨h1, trivial⟩ ?_
  refine ae_then ?_
  refine aw_false rfl ?_
  refine aw_skip ?_
  refine ae_then ?_
  refine aR [] [4] [] [I (szTake left (bulkTrainedS a.Trained))] [] [] hB trivial ?_
  refine aw_ret ?_
  refine ae_ret hB (I (szTake left (bulkTrainedS a.Trained))) (by kernel_rfl) (.inl (by refine congrArg I ?_; unfold szTake bulkWriter; split <;> omega)) rfl (fun _ => trivial)


-- laws.toFeat
theorem toFeat_ok (a : Feat) : Con Try.prog 72 [agFeat a] true (agFeat a) := by
  refine fn_ok (fn := Try.f72) (nt := 14) Try.func72 rfl rfl rfl rfl (by simp [taggedL, tagged]) fun B hB => ?_
  refine aR [(0, .new 1), (1, .new 2)] [1, 2] [1, 2] [.ref 1 0, .ref 2 0] [some (bxFeat a), some (.box [I 0, I 0, I 0])] [] hB trivial ?_
  refine aR [(0, .new 3)] [1, 2, 3] [1, 2, 3] [.ref 1 0, .ref 2 0, .ref 3 0] [some (bxFeat a), some (.box [I 0, I 0, I 0]), some (.box [I 0, I 0, I 0])] [] hB trivial ?_
  refine aR [] [1, 2, 3] [1, 2, 3] [.ref 1 0, .ref 2 0, .ref 3 0] [some (bxFeat a), some (.box [I 0, I 0, I 0]), some (.box [I a.X, I 0, I 0])] [] hB trivial ?_
  refine aR [] [1, 2, 3] [1, 2, 3] [.ref 1 0, .ref 2 0, .ref 3 0] [some (bxFeat a), some (.box [I 0, I 0, I 0]), some (.box [I a.X, I a.Y, I 0])] [] hB trivial ?_
  refine aR [] [2, 3] [2, 3] [.ref 2 0, .ref 3 0] [some (.box [I 0, I 0, I 0]), some (bxFeat a)] [] hB trivial ?_
  refine aR [] [2] [2] [.ref 2 0] [some (bxFeat a)] [] hB trivial ?_
  refine aw_ret ?_
  refine ae_ret hB (agFeat a) (by kernel_rfl) (.inl rfl) rfl (fun _ => (by simp [tagged, taggedL]))


theorem set_at {α : Type} [Inhabited α] {ys xs : List α} {i : Int} (hl : ys.length = xs.length) (hi : i.toNat < xs.length) (h : ∀ j : Nat, (j : Int) < i → at_ ys j = at_ xs j) (j : Nat) (hj : j ≤ i.toNat) : at_ (ys.set i.toNat (at_ xs i.toNat)) j = at_ xs j := by
  by_cases e : i.toNat = j
  · subst e; simp [at_, hl, hi]
  · have := h j (by omega)
    simp only [at_] at this ⊢
    rw [← this]
    simp [e]
/-- Whether two things are the same. -/
def same {α : Type} [DecidableEq α] (x y : α) : Bool := decide (x = y)
theorem same_iff {α : Type} [DecidableEq α] {x y : α} : same x y = true ↔ x = y := by simp [same]
theorem ext_at {α : Type} [Inhabited α] {xs ys : List α} (hl : xs.length = ys.length) (h : ∀ j : Nat, j < xs.length → at_ xs j = at_ ys j) : xs = ys := by
  apply List.ext_getElem hl
  intro i h1 h2
  rw [← at_eq h1, ← at_eq h2]
  exact h i h1

/-- Whether p holds of all numbers below n. -/
def allN (n : Nat) (p : Nat → Bool) : Bool := (List.range n).all p
def anyN (n : Nat) (p : Nat → Bool) : Bool := !(allN n fun j => !(p j))
theorem allN_iff {n : Nat} {p : Nat → Bool} : allN n p = true ↔ ∀ j, j < n → p j = true := by simp [allN, List.all_eq_true]
theorem allN_at {n : Nat} {p : Nat → Bool} (h : ∀ j, j < n → p j = true) : allN n p = true := allN_iff.2 h
theorem allN_get {n : Nat} {p : Nat → Bool} (h : allN n p = true) {k : Nat} (hk : k < n) : p k = true := allN_iff.1 h k hk
theorem allN_not {n : Nat} {p : Nat → Bool} {k : Nat} (hk : k < n) (h : p k = false) : allN n p = false := by
  rw [← Bool.not_eq_true, allN_iff]; intro h'; rw [h' k hk] at h; cases h
theorem anyN_not (n : Nat) (p : Nat → Bool) : anyN n (fun j => !(p j)) = !(allN n p) := by simp [anyN]
theorem anyN_at {n : Nat} {p : Nat → Bool} {k : Nat} (hk : k < n) (h : p k = true) : anyN n p = true := by
  unfold anyN; rw [allN_not hk (by simp [h])]; rfl
theorem anyN_none {n : Nat} {p : Nat → Bool} (h : ∀ j, j < n → p j = false) : anyN n p = false := by
  unfold anyN; rw [allN_at (fun j hj => by simp [h j hj])]; rfl
theorem anyN_iff {n : Nat} {p : Nat → Bool} : anyN n p = true ↔ ∃ j, j < n ∧ p j = true := by
  constructor
  · intro h
    apply Classical.byContradiction
    intro hn
    rw [anyN_none (fun j hj => by rw [← Bool.not_eq_true]; exact fun hp => hn ⟨j, hj, hp⟩)] at h
    cases h
  · rintro ⟨j, hj, hp⟩; exact anyN_at hj hp
theorem up_to {n : Int} {p : Nat → Prop} {i : Int} (hi : 0 ≤ i) (h : ∀ j : Nat, (j : Int) < i → p j) (hp : p i.toNat) : ∀ j : Nat, (j : Int) < i + 1 → p j := fun j hj => by
  by_cases e : j = i.toNat
  · subst e; exact hp
  · exact h j (by omega)

def inB (a l h : Int) : Bool := decide (l ≤ a ∧ a ≤ h)
theorem inB_iff {a l h : Int} : inB a l h = true ↔ l ≤ a ∧ a ≤ h := by simp [inB]
theorem bAt_bd (s : ByteArray) (i : Nat) : 0 ≤ bAt s i ∧ bAt s i ≤ 255 := by
  unfold bAt
  have := (s.data.toList.getD i 0).toNat_lt
  omega

/-- Whether a byte is a label's. -/
def labB (n : Int) : Bool := decide ((97 ≤ n ∧ n ≤ 122) ∨ (48 ≤ n ∧ n ≤ 57) ∨ n = 43 ∨ n = 45 ∨ n = 42 ∨ n = 47 ∨ n = 61 ∨ n = 40 ∨ n = 41 ∨ n = 46 ∨ n = 44)
/-- Whether a string is a label. -/
def okLabel (s : ByteArray) : Bool := decide (s.size = 1) && labB (bAt s 0)

def okF (p : Feat) : Bool := inB p.X 0 255 && (inB p.Y 0 255 && inB p.D 0 7)
theorem okF_iff {p : Feat} : okF p = true ↔ (0 ≤ p.X ∧ p.X ≤ 255) ∧ (0 ≤ p.Y ∧ p.Y ≤ 255) ∧ (0 ≤ p.D ∧ p.D ≤ 7) := by simp [okF, inB, and_assoc]
/-- Whether all are features, and they are 1 to m. -/
def okFeats (xs : List Feat) (m : Int) : Bool := decide (1 ≤ (xs.length : Int) ∧ (xs.length : Int) ≤ m) && allN xs.length (fun j => okF (at_ xs j))
theorem okFeats_n {xs : List Feat} {m : Int} (h : okFeats xs m = true) : 1 ≤ xs.length ∧ (xs.length : Int) ≤ m := by
  simp only [okFeats, Bool.and_eq_true, decide_eq_true_eq] at h; omega
theorem okFeats_at {xs : List Feat} {m : Int} (h : okFeats xs m = true) {j : Nat} (hj : j < xs.length) : okF (at_ xs j) = true := by
  simp only [okFeats, Bool.and_eq_true] at h
  exact allN_get h.2 hj

theorem at_setQ {α : Type} [Inhabited α] {xs : List α} {i : Nat} {y : α} (h : i < xs.length) : at_ (xs.set i y) i = y := by simp [at_, h]
def okTm (t : Template) : Bool := okLabel t.Label && okFeats t.Feats 72
theorem okTm_len {t : Template} (h : okTm t = true) : t.Feats.length ≤ 72 := by
  simp only [okTm, okFeats, Bool.and_eq_true, decide_eq_true_eq] at h
  omega

/-- Whether a feature is one that another one may have become. -/
def nearB (a b : Feat) : Bool := decide (a.D = b.D) && (decide (((a.X - b.X).natAbs : Int) ≤ 40) && decide (((a.Y - b.Y).natAbs : Int) ≤ 40))
/-- Whether a trained template is valid. -/
def okTrained' (t : Trained) : Bool := okLabel t.Label && (okFeats t.Base 72 && (okFeats t.Feats 72 && ((decide (t.Base.length = t.Feats.length) && allN t.Base.length (fun j => nearB (at_ t.Base j) (at_ t.Feats j))) && inB t.Count 0 100)))
theorem okTr_iff {t : Trained} : okTrained' t = true ↔ okLabel t.Label = true ∧ okFeats t.Base 72 = true ∧ okFeats t.Feats 72 = true ∧ (t.Base.length = t.Feats.length ∧ allN t.Base.length (fun j => nearB (at_ t.Base j) (at_ t.Feats j)) = true) ∧ inB t.Count 0 100 = true := by
  simp [okTrained']



def stR (t : Template) : Trained × Int := if okTm t = true then (⟨t.Label, t.Feats, t.Feats, 0⟩, 0) else (⟨⟨#[]⟩, [], [], 0⟩, 1)
theorem stR_yes {t : Template} (h : okTm t = true) : stR t = (⟨t.Label, t.Feats, t.Feats, 0⟩, 0) := if_pos h
theorem stR_no {t : Template} (h : okTm t = false) : stR t = (⟨⟨#[]⟩, [], [], 0⟩, 1) := by simp [stR, h]
/-- Marks. -/
def mkL (k : Int) (n : Nat) : List Feat := (List.range n).map fun j : Nat => ⟨k + 3 * (j : Int), k + 3 * (j : Int) + 1, k + 3 * (j : Int) + 2⟩
theorem mkL_len (k : Int) (n : Nat) : (mkL k n).length = n := by simp [mkL]
theorem mkL_at {k : Int} {n j : Nat} (h : j < n) : at_ (mkL k n) j = ⟨k + 3 * (j : Int), k + 3 * (j : Int) + 1, k + 3 * (j : Int) + 2⟩ := by simp [at_, mkL, h]
theorem mk_next {ys : List Feat} {k : Int} {i : Int} {y : Feat} (h0 : 0 ≤ i) (hi : i.toNat < ys.length) (h : ∀ j : Nat, (j : Int) < i → at_ ys j = ⟨k + 3 * (j : Int), k + 3 * (j : Int) + 1, k + 3 * (j : Int) + 2⟩) (hy : y = ⟨k + 3 * i, k + 3 * i + 1, k + 3 * i + 2⟩) : ∀ j : Nat, (j : Int) < i + 1 → at_ (ys.set i.toNat y) j = ⟨k + 3 * (j : Int), k + 3 * (j : Int) + 1, k + 3 * (j : Int) + 2⟩ := fun j hj => by
  by_cases e : j = i.toNat
  · subst e
    have e2 : ((i.toNat : Nat) : Int) = i := by omega
    rw [e2]
    simp [at_, hi, hy]
  · have h' : ¬ i.toNat = j := fun q => e q.symm
    have : at_ (ys.set i.toNat y) j = at_ ys j := by simp [at_, List.getElem?_set, h']
    rw [this]; exact h j (by omega)

-- laws.toFeatS
theorem toFeatS_own (al : List Feat) (hb : bulkFeatS al ≤ 1048576) : ∃ (ys : List Feat), (ys = al) ∧ CallOK Try.prog 61 [slFeat false al] (lookO []) false (.arr 8301) (lookO [(8301, .arr 3 ys.length (fFeat ys))]) := by
  have hb0 := bulkFeatS_len al
  have hh : ∃ r : (List Feat), ((r = al) ∧ (True)) ∧ CallOK Try.prog 61 [slFeat false al] (lookO []) false (.arr 8301) (lookO [(8301, .arr 3 r.length (fFeat r))]) := by
    refine fn_okX (Φ := fun r : (List Feat) => (r = al) ∧ (True)) [] (fun r => [(8301, .arr 3 r.length (fFeat r))]) (fn := Try.f61) (nt := 23) Try.func61 rfl rfl (args := [slFeat false al]) rfl (allcons (.inl ⟨rfl, tagFeat false _⟩) allnil) (res := fun r => .arr 8301) ?_
    refine xR [] [0] [] [slFeat false al] [] [] trivial ?_
    refine xR [(2, .new 7)] [0, 3] [7] [slFeat false al, .arr 7] [some (.arr 3 ((al.length : Int).toNat) (fun _ => [I 0, I 0, I 0]))] [(0 : Int) ≤ (al.length : Int) ∧ ((al.length : Int) : Int) ≤ (al.length : Int) ∧ (24 : Int) * (al.length : Int) ≤ 281474976710656 ∧ (al.length : Int) ≤ 9223372036854775807] ⟨⟨(by omega), (by omega), (by omega), (by omega)⟩, trivial⟩ ?_
    refine x_seq ?_
    refine xR [] [0, 3, 4] [7] [slFeat false al, .arr 7, I 0] [some (.arr 3 ((al.length : Int).toNat) (fun _ => [I 0, I 0, I 0]))] [] trivial ?_
    refine x_block ?_
    refine x_weak [] (T := [(0, slFeat false al), (3, .arr 7), (4, I 0)]) (O := [(7, .arr 3 ((List.replicate ((al.length : Int).toNat) (Feat.mk 0 0 0)).length) (fFeat (List.replicate ((al.length : Int).toNat) (Feat.mk 0 0 0))))]) rfl (⟨.inl rfl, .inl rfl, .inl rfl, trivial⟩) (⟨.inr ⟨rfl, (by first | rfl | (simp; done) | (simp; omega) | omega), fun i_ hi_ => .inl (const_enc (enc := cFeat) rfl i_ hi_)⟩, trivial⟩) ?_
    refine x_loop (X := Int × (List Feat)) (fun x => mkS [(0, slFeat false al), (3, .arr 7), (4, I x.1)] [(7, .arr 3 x.2.length (fFeat x.2))]) (fun x => (0 ≤ x.1 ∧ x.1 ≤ (al.length : Int)) ∧ (x.2.length = al.length) ∧ (∀ j : Nat, (j : Int) < x.1 → at_ x.2 j = at_ al j) ∧ True) (fun x => ((al.length : Int) - x.1).toNat) (0, (List.replicate ((al.length : Int).toNat) (Feat.mk 0 0 0))) rfl (show (0 ≤ (0 : Int) ∧ (0 : Int) ≤ (al.length : Int)) ∧ ((List.replicate ((al.length : Int).toNat) (Feat.mk 0 0 0)).length = al.length) ∧ (∀ j : Nat, (j : Int) < (0 : Int) → at_ (List.replicate ((al.length : Int).toNat) (Feat.mk 0 0 0)) j = at_ al j) ∧ True from ⟨(by omega), (by simp), (by intro j hj; omega), trivial⟩) (fun x hI => ?_)
    obtain ⟨i, zs⟩ := x
    obtain ⟨hi0, hy0, hy1, _⟩ : (0 ≤ i ∧ i ≤ (al.length : Int)) ∧ (zs.length = al.length) ∧ (∀ j : Nat, (j : Int) < i → at_ zs j = at_ al j) ∧ True := hI
    show XW _ _ _ _ (mkS [(0, slFeat false al), (3, .arr 7), (4, I i)] [(7, .arr 3 zs.length (fFeat zs))]) _ _
    refine x_seq ?_
    refine x_seq ?_
    by_cases h1 : i < (al.length : Int)
    ·have hi : i.toNat < al.length := by omega
     have hiy : i.toNat < zs.length := by omega
     refine x_r [(3, .dec true)] [0, 3, 4, 11] [7] [slFeat false al, .arr 7, I i, Bv true] [some (.arr 3 zs.length (fFeat zs))] [i < (al.length : Int)] ⟨h1, trivial⟩ ?_
     refine xe_then ?_
     refine x_true rfl ?_
     refine x_skip ?_
     refine xe_then ?_
     refine x_seq ?_
     refine x_block ?_
     refine x_r [(6, .call [(true, .any)] true (agFeat (at_ al i.toNat)))] [0, 3, 4] [7] [slFeat false al, .arr 7, I i] [some (.arr 3 zs.length (fun q => bif Nat.beq q i.toNat then [I ((at_ al i.toNat).X), I ((at_ al i.toNat).Y), I ((at_ al i.toNat).D)] else (fFeat zs) q))] [(0 : Int) ≤ i ∧ i < (al.length : Int), Con Try.prog 72 [agFeat (at_ al i.toNat)] true (agFeat (at_ al i.toNat)) ∧ True, (0 : Int) ≤ i ∧ i < (zs.length : Int), i.toNat < zs.length] ⟨⟨(by omega), (by omega)⟩, ⟨(toFeat_ok (at_ al i.toNat)), trivial⟩, ⟨(by omega), (by omega)⟩, (by omega), trivial⟩ ?_
     refine xe_block 1 ?_
     refine xe_then ?_
     refine x_r [] [0, 3, 4] [7] [slFeat false al, .arr 7, I (i + 1)] [some (.arr 3 zs.length (fun q => bif Nat.beq q i.toNat then [I ((at_ al i.toNat).X), I ((at_ al i.toNat).Y), I ((at_ al i.toNat).D)] else (fFeat zs) q))] [inR .i64 (i + 1)] ⟨(inR_i64 (by omega) (by omega)), trivial⟩ ?_
     refine xe_weak [] (T := [(0, slFeat false al), (3, .arr 7), (4, I (i + 1))]) (O := [(7, .arr 3 ((zs.set i.toNat (at_ al i.toNat)).length) (fFeat (zs.set i.toNat (at_ al i.toNat))))]) rfl (⟨.inl rfl, .inl rfl, .inl rfl, trivial⟩) (⟨.inr ⟨rfl, (by first | rfl | (simp; done) | (simp; omega) | omega), fun i_ hi_ => .inl (upd_enc (enc := cFeat) rfl i_ hi_)⟩, trivial⟩) (xe_again ((i + 1), (zs.set i.toNat (at_ al i.toNat))) rfl (show (0 ≤ (i + 1) ∧ (i + 1) ≤ (al.length : Int)) ∧ ((zs.set i.toNat (at_ al i.toNat)).length = al.length) ∧ (∀ j : Nat, (j : Int) < (i + 1) → at_ (zs.set i.toNat (at_ al i.toNat)) j = at_ al j) ∧ True from ⟨(by omega), (by simp [hy0]), (by intro j hj; exact set_at hy0 hi hy1 j (by omega)), trivial⟩) (by first | (show (((al.length : Int) - (i + 1)).toNat : Nat) < ((al.length : Int) - i).toNat; omega) | (dsimp only; omega)))
    refine x_r [(3, .dec false)] [0, 3, 4, 11] [7] [slFeat false al, .arr 7, I i, Bv false] [some (.arr 3 zs.length (fFeat zs))] [¬ (i < (al.length : Int))] ⟨h1, trivial⟩ ?_
    refine xe_then ?_
    refine x_false rfl ?_
    refine x_exit ?_
    refine xe_exit_then ?_
    refine xe_loop_exit ?_
    refine xe_exit_same ?_
    refine xe_then ?_
    refine xR [] [2] [7] [.arr 7] [some (.arr 3 zs.length (fFeat zs))] [] trivial ?_
    refine x_ret ?_
    refine xe_weak [(8301, 7)] (T := [(2, .arr 8301)]) (O := [(8301, .arr 3 zs.length (fFeat zs))]) rfl (⟨.inl rfl, trivial⟩) (⟨.inl rfl, trivial⟩) ?_
    refine xe_end zs (show (zs = al) ∧ (True) from ⟨(by exact ext_at hy0 (fun j hj => hy1 j (by omega))), trivial⟩) (⟨.inl rfl, trivial⟩) (.arr 8301) (by kernel_rfl) (.inl rfl) (fun h => by cases h) (fun h => by cases h)
  obtain ⟨ys, ⟨hh0, _⟩, hc⟩ := hh
  exact ⟨ys, hh0, hc⟩


-- laws.toTrained
theorem toTrained_own (t : Trained) (hb : bulkFeatS t.Base ≤ 1048576 ∧ bulkFeatS t.Feats ≤ 1048576) : ∃ (bs : List Feat) (fs : List Feat), (bs = t.Base) ∧ (fs = t.Feats) ∧ CallOK Try.prog 54 [agTrained t] (lookO []) false (.agg [Sv t.Label, .arr 8303, .arr 8304, I t.Count]) (lookO [(8303, .arr 3 bs.length (fFeat bs)), (8304, .arr 3 fs.length (fFeat fs))]) := by
  have hh : ∃ r : (List Feat) × (List Feat), ((r.1 = t.Base) ∧ (r.2 = t.Feats) ∧ (True)) ∧ CallOK Try.prog 54 [agTrained t] (lookO []) false (.agg [Sv t.Label, .arr 8303, .arr 8304, I t.Count]) (lookO [(8303, .arr 3 r.1.length (fFeat r.1)), (8304, .arr 3 r.2.length (fFeat r.2))]) := by
    refine fn_okX (Φ := fun r : (List Feat) × (List Feat) => (r.1 = t.Base) ∧ (r.2 = t.Feats) ∧ (True)) [] (fun r => [(8303, .arr 3 r.1.length (fFeat r.1)), (8304, .arr 3 r.2.length (fFeat r.2))]) (fn := Try.f54) (nt := 19) Try.func54 rfl rfl (args := [agTrained t]) rfl (allcons (.inl ⟨rfl, by simp [tagged, taggedL, tagFeat]⟩) allnil) (res := fun r => .agg [Sv t.Label, .arr 8303, .arr 8304, I t.Count]) ?_
    refine xR [(0, .new 1), (1, .new 2)] [1, 2] [1, 2] [.ref 1 0, .ref 2 0] [some (bxTrained t), some (.box [Sv (⟨#[]⟩ : ByteArray), nilA, nilA, I 0])] [] trivial ?_
    refine xR [(0, .new 3)] [1, 2, 3] [1, 2, 3] [.ref 1 0, .ref 2 0, .ref 3 0] [some (bxTrained t), some (.box [Sv (⟨#[]⟩ : ByteArray), nilA, nilA, I 0]), some (.box [Sv (⟨#[]⟩ : ByteArray), nilA, nilA, I 0])] [] trivial ?_
    refine xR [] [1, 2, 3] [1, 2, 3] [.ref 1 0, .ref 2 0, .ref 3 0] [some (bxTrained t), some (.box [Sv (⟨#[]⟩ : ByteArray), nilA, nilA, I 0]), some (.box [Sv t.Label, nilA, nilA, I 0])] [] trivial ?_
    refine x_seq ?_
    obtain ⟨ys_1, hx1_0, hc1⟩ := toFeatS_own t.Base hb.1
    refine x_r [(2, .lend [] [(8301, .arr 3 ys_1.length (fFeat ys_1))] [(true, .any)] false (.arr 8301))] [1, 2, 3] [1, 2, 3, 8301] [.ref 1 0, .ref 2 0, .ref 3 0] [some (bxTrained t), some (.box [Sv (⟨#[]⟩ : ByteArray), nilA, nilA, I 0]), some (.box [Sv t.Label, .arr 8301, nilA, I 0]), some (.arr 3 ys_1.length (fFeat ys_1))] [CallOK Try.prog 61 [slFeat false t.Base] (lookO []) false (.arr 8301) (lookO [(8301, .arr 3 ys_1.length (fFeat ys_1))]) ∧ True] ⟨⟨hc1, trivial⟩, trivial⟩ ?_
    refine xe_then ?_
    refine x_seq ?_
    refine x_weak [(7901, 8301)] (T := [(1, .ref 1 0), (2, .ref 2 0), (3, .ref 3 0)]) (O := [(1, bxTrained t), (2, .box [Sv (⟨#[]⟩ : ByteArray), nilA, nilA, I 0]), (3, .box [Sv t.Label, .arr 7901, nilA, I 0]), (7901, .arr 3 ys_1.length (fFeat ys_1))]) rfl (⟨.inl rfl, .inl rfl, .inl rfl, trivial⟩) (⟨.inl rfl, .inl rfl, .inl rfl, .inl rfl, trivial⟩) ?_
    obtain ⟨ys_2, hx2_0, hc2⟩ := toFeatS_own t.Feats hb.2
    refine x_r [(2, .lend [] [(8301, .arr 3 ys_2.length (fFeat ys_2))] [(true, .any)] false (.arr 8301))] [1, 2, 3] [1, 2, 3, 7901, 8301] [.ref 1 0, .ref 2 0, .ref 3 0] [some (bxTrained t), some (.box [Sv (⟨#[]⟩ : ByteArray), nilA, nilA, I 0]), some (.box [Sv t.Label, .arr 7901, .arr 8301, I 0]), some (.arr 3 ys_1.length (fFeat ys_1)), some (.arr 3 ys_2.length (fFeat ys_2))] [CallOK Try.prog 61 [slFeat false t.Feats] (lookO []) false (.arr 8301) (lookO [(8301, .arr 3 ys_2.length (fFeat ys_2))]) ∧ True] ⟨⟨hc2, trivial⟩, trivial⟩ ?_
    refine xe_then ?_
    refine xR [] [2, 3] [2, 3, 7901, 8301] [.ref 2 0, .ref 3 0] [some (.box [Sv (⟨#[]⟩ : ByteArray), nilA, nilA, I 0]), some (.box [Sv t.Label, .arr 7901, .arr 8301, I t.Count]), some (.arr 3 ys_1.length (fFeat ys_1)), some (.arr 3 ys_2.length (fFeat ys_2))] [] trivial ?_
    refine xR [] [2] [2, 7901, 8301] [.ref 2 0] [some (.box [Sv t.Label, .arr 7901, .arr 8301, I t.Count]), some (.arr 3 ys_1.length (fFeat ys_1)), some (.arr 3 ys_2.length (fFeat ys_2))] [] trivial ?_
    refine x_ret ?_
    refine xe_weak [(8303, 7901), (8304, 8301)] (T := [(2, .ref 2 0)]) (O := [(2, .box [Sv t.Label, .arr 8303, .arr 8304, I t.Count]), (8303, .arr 3 ys_1.length (fFeat ys_1)), (8304, .arr 3 ys_2.length (fFeat ys_2))]) rfl (⟨.inl rfl, trivial⟩) (⟨.inl rfl, .inl rfl, .inl rfl, trivial⟩) ?_
    refine xe_end (ys_1, ys_2) (show (ys_1 = t.Base) ∧ (ys_2 = t.Feats) ∧ (True) from ⟨(by assumption), (by assumption), trivial⟩) (⟨.inl rfl, .inl rfl, trivial⟩) (.agg [Sv t.Label, .arr 8303, .arr 8304, I t.Count]) (by kernel_rfl) (.inl rfl) (fun h => by cases h) (fun h => by cases h)
  obtain ⟨⟨bs, fs⟩, ⟨hh0, hh1, _⟩, hc⟩ := hh
  exact ⟨bs, fs, hh0, hh1, hc⟩


theorem beq_ne {i k : Nat} (h : i ≠ k) : Nat.beq i k = false := Bool.eq_false_iff.2 fun e => h (Nat.eq_of_beq_eq_true e)
theorem at_set_eq {α : Type} [Inhabited α] {xs : List α} {k : Nat} {c : α} (h : k < xs.length) : at_ (xs.set k c) k = c := by simp [at_, h]
theorem at_set_ne {α : Type} [Inhabited α] {xs : List α} {k i : Nat} {c : α} (h : i ≠ k) : at_ (xs.set k c) i = at_ xs i := by
  have : ¬ k = i := fun e => h e.symm
  simp [at_, this]
theorem le_row {ob : Nat → Option Ob} {F N sz p n : Nat} {m : Nat → Nat} {g : Nat → Nat → List AV} {fr : Bool} {f : Nat → List AV} (h : ob F = some (.fam N sz m g)) (hp : p < N) (hn : m p = n)
    (hf : ∀ i, i < n → g p i = f i ∨ (AV.idsL (f i) = [] ∧ leL (fun _ => none) false (g p i) (f i))) : le ob true (.row F p) (.sl fr sz n f) := by
  simp only [le, h]
  exact ⟨fun _ => trivial, hp, trivial, hn, hf⟩

def Trained.withBase (x : Trained) (ys : List Feat) : Trained := Trained.mk x.Label ys x.Feats x.Count
def Trained.withFeats (x : Trained) (ys : List Feat) : Trained := Trained.mk x.Label x.Base ys x.Count
def oTrainedc (F0 F1 : Nat) (x : Trained) (i : Nat) : List AV := [Sv x.Label, .row F0 i, .row F1 i, I x.Count]
def oTrained (F0 F1 : Nat) (xs : List Trained) (i : Nat) : List AV := oTrainedc F0 F1 (at_ xs i) i
def mTrainedBase (xs : List Trained) (p : Nat) : Nat := (at_ xs p).Base.length
def gTrainedBase (xs : List Trained) (p : Nat) : Nat → List AV := fFeat (at_ xs p).Base
theorem fcatTrainedBase {xs : List Trained} (x : Trained) {n : Nat} {f : Nat → List AV} (hn : n = x.Base.length) (hf : ∀ i, i < n → f i = fFeat x.Base i) : xs.length + 1 = (xs ++ [x]).length ∧ 3 = 3 ∧ ∀ p, p < (xs ++ [x]).length → famUp xs.length n (mTrainedBase xs) p = mTrainedBase (xs ++ [x]) p ∧ ∀ i, i < mTrainedBase (xs ++ [x]) p → famUpF xs.length f (gTrainedBase xs) p i = gTrainedBase (xs ++ [x]) p i ∨ (AV.idsL (gTrainedBase (xs ++ [x]) p i) = [] ∧ leL (fun _ => none) false (famUpF xs.length f (gTrainedBase xs) p i) (gTrainedBase (xs ++ [x]) p i)) := by
  refine ⟨by simp, rfl, fun p hp => ?_⟩
  by_cases h : p < xs.length
  · have e : Nat.beq p xs.length = false := Bool.eq_false_iff.2 fun e => by have := Nat.eq_of_beq_eq_true e; omega
    simp [famUp, famUpF, e, mTrainedBase, gTrainedBase, at_left h]
  · have e : p = xs.length := by simp at hp; omega
    subst e
    have e2 : at_ (xs ++ [x]) xs.length = x := by simp [at_right (Nat.le_refl _), at_]
    simp only [famUp, famUpF, Nat.beq_refl, cond_true, mTrainedBase, gTrainedBase, e2]
    exact ⟨hn, fun i hi => .inl (hf i (by omega))⟩
theorem osetTrainedBase (F0 F1 P : Nat) (xs : List Trained) (ys : List Feat) (i : Nat) : oTrained F0 F1 xs i = oTrained F0 F1 (xs.set P (Trained.withBase (at_ xs P) ys)) i := by
  unfold oTrained
  by_cases h : P = i
  · subst h
    by_cases hl : P < xs.length
    · simp [at_, hl, oTrainedc, Trained.withBase]
    · rw [List.set_eq_of_length_le (by omega)]
  · simp [at_, h]
def mTrainedFeats (xs : List Trained) (p : Nat) : Nat := (at_ xs p).Feats.length
def gTrainedFeats (xs : List Trained) (p : Nat) : Nat → List AV := fFeat (at_ xs p).Feats
theorem fcatTrainedFeats {xs : List Trained} (x : Trained) {n : Nat} {f : Nat → List AV} (hn : n = x.Feats.length) (hf : ∀ i, i < n → f i = fFeat x.Feats i) : xs.length + 1 = (xs ++ [x]).length ∧ 3 = 3 ∧ ∀ p, p < (xs ++ [x]).length → famUp xs.length n (mTrainedFeats xs) p = mTrainedFeats (xs ++ [x]) p ∧ ∀ i, i < mTrainedFeats (xs ++ [x]) p → famUpF xs.length f (gTrainedFeats xs) p i = gTrainedFeats (xs ++ [x]) p i ∨ (AV.idsL (gTrainedFeats (xs ++ [x]) p i) = [] ∧ leL (fun _ => none) false (famUpF xs.length f (gTrainedFeats xs) p i) (gTrainedFeats (xs ++ [x]) p i)) := by
  refine ⟨by simp, rfl, fun p hp => ?_⟩
  by_cases h : p < xs.length
  · have e : Nat.beq p xs.length = false := Bool.eq_false_iff.2 fun e => by have := Nat.eq_of_beq_eq_true e; omega
    simp [famUp, famUpF, e, mTrainedFeats, gTrainedFeats, at_left h]
  · have e : p = xs.length := by simp at hp; omega
    subst e
    have e2 : at_ (xs ++ [x]) xs.length = x := by simp [at_right (Nat.le_refl _), at_]
    simp only [famUp, famUpF, Nat.beq_refl, cond_true, mTrainedFeats, gTrainedFeats, e2]
    exact ⟨hn, fun i hi => .inl (hf i (by omega))⟩
theorem osetTrainedFeats (F0 F1 P : Nat) (xs : List Trained) (ys : List Feat) (i : Nat) : oTrained F0 F1 xs i = oTrained F0 F1 (xs.set P (Trained.withFeats (at_ xs P) ys)) i := by
  unfold oTrained
  by_cases h : P = i
  · subst h
    by_cases hl : P < xs.length
    · simp [at_, hl, oTrainedc, Trained.withFeats]
    · rw [List.set_eq_of_length_le (by omega)]
  · simp [at_, h]
theorem oleTrained {ob : Nat → Option Ob} {F0 F1 : Nat} (fr : Bool) (xs : List Trained) (h0 : ob F0 = some (.fam xs.length 3 (mTrainedBase xs) (gTrainedBase xs))) (h1 : ob F1 = some (.fam xs.length 3 (mTrainedFeats xs) (gTrainedFeats xs))) : ∀ i, i < xs.length → AV.idsL (fTrained fr xs i) = [] ∧ leL ob true (oTrained F0 F1 xs i) (fTrained fr xs i) :=
  fun i hi => And.intro rfl (And.intro rfl (And.intro (le_row h0 hi rfl (fun q _ => .inl rfl)) (And.intro (le_row h1 hi rfl (fun q _ => .inl rfl)) (And.intro rfl rfl))))
theorem ocatTrained {F0 F1 j0 j1 N : Nat} (h00 : Nat.beq F0 j0 = false) (h01 : Nat.beq F0 j1 = false) (h10 : Nat.beq F1 j0 = false) (h11 : Nat.beq F1 j1 = false) {xs : List Trained} {x : Trained} {g : Nat → List AV} (hN : N = xs.length) (hx : (AV.joiL j1 F1 N (AV.joiL j0 F0 N (g 0))) = oTrainedc F0 F1 x N) : ∀ i, i < (xs ++ [x]).length → (AV.joiL j1 F1 N (AV.joiL j0 F0 N (catF xs.length (oTrained F0 F1 xs) g i))) = oTrained F0 F1 (xs ++ [x]) i := by
  subst hN
  intro i hi
  by_cases h : i < xs.length
  · rw [catF_lt h]
    simp [oTrained, oTrainedc, at_left h, AV.joiL, AV.joi, *]
  · have e : i = xs.length := by simp at hi; omega
    subst e
    rw [catF_ge (Nat.le_refl _), Nat.sub_self, hx]
    simp [oTrained, at_right (Nat.le_refl _), at_]
theorem fsameTrainedBase {xs : List Trained} {P : Nat} {x' : Trained} (hx : x'.Base = (at_ xs P).Base) : xs.length = (xs.set P x').length ∧ 3 = 3 ∧ ∀ p, p < (xs.set P x').length → mTrainedBase xs p = mTrainedBase (xs.set P x') p ∧ ∀ i, i < mTrainedBase (xs.set P x') p → gTrainedBase xs p i = gTrainedBase (xs.set P x') p i ∨ (AV.idsL (gTrainedBase (xs.set P x') p i) = [] ∧ leL (fun _ => none) false (gTrainedBase xs p i) (gTrainedBase (xs.set P x') p i)) := by
  refine ⟨by simp, rfl, fun p hp => ?_⟩
  have e : (at_ (xs.set P x') p).Base = (at_ xs p).Base := by
    by_cases h : p = P
    · subst h; rw [at_set_eq (by simpa using hp)]; exact hx
    · rw [at_set_ne h]
  simp only [mTrainedBase, gTrainedBase, e]
  first | exact ⟨trivial, fun i hi => .inl rfl⟩ | exact ⟨trivial, fun i hi => .inl trivial⟩
theorem fputTrainedBase {xs : List Trained} {P m1 : Nat} {ys : List Feat} {f1 : Nat → List AV} (hP : P < xs.length) (hm : m1 = ys.length) (hf : ∀ i, i < m1 → f1 i = fFeat ys i) : xs.length = (xs.set P (Trained.withBase (at_ xs P) ys)).length ∧ 3 = 3 ∧ ∀ p, p < (xs.set P (Trained.withBase (at_ xs P) ys)).length → famUp P m1 (mTrainedBase xs) p = mTrainedBase (xs.set P (Trained.withBase (at_ xs P) ys)) p ∧ ∀ i, i < mTrainedBase (xs.set P (Trained.withBase (at_ xs P) ys)) p → famUpF P f1 (gTrainedBase xs) p i = gTrainedBase (xs.set P (Trained.withBase (at_ xs P) ys)) p i ∨ (AV.idsL (gTrainedBase (xs.set P (Trained.withBase (at_ xs P) ys)) p i) = [] ∧ leL (fun _ => none) false (famUpF P f1 (gTrainedBase xs) p i) (gTrainedBase (xs.set P (Trained.withBase (at_ xs P) ys)) p i)) := by
  refine ⟨by simp, rfl, fun p hp => ?_⟩
  by_cases h : p = P
  · subst h
    have e : (at_ (xs.set p (Trained.withBase (at_ xs p) ys)) p).Base = ys := by rw [at_set_eq hP]; rfl
    simp only [mTrainedBase, gTrainedBase, famUp_at, famUpF_at, e]
    exact ⟨hm, fun i hi => .inl (hf i (by omega))⟩
  · have e : at_ (xs.set P (Trained.withBase (at_ xs P) ys)) p = at_ xs p := at_set_ne h
    simp only [mTrainedBase, gTrainedBase, famUp_ne _ _ h, famUpF_ne _ _ h, e]
    first | exact ⟨trivial, fun i hi => .inl rfl⟩ | exact ⟨trivial, fun i hi => .inl trivial⟩
theorem fsameTrainedFeats {xs : List Trained} {P : Nat} {x' : Trained} (hx : x'.Feats = (at_ xs P).Feats) : xs.length = (xs.set P x').length ∧ 3 = 3 ∧ ∀ p, p < (xs.set P x').length → mTrainedFeats xs p = mTrainedFeats (xs.set P x') p ∧ ∀ i, i < mTrainedFeats (xs.set P x') p → gTrainedFeats xs p i = gTrainedFeats (xs.set P x') p i ∨ (AV.idsL (gTrainedFeats (xs.set P x') p i) = [] ∧ leL (fun _ => none) false (gTrainedFeats xs p i) (gTrainedFeats (xs.set P x') p i)) := by
  refine ⟨by simp, rfl, fun p hp => ?_⟩
  have e : (at_ (xs.set P x') p).Feats = (at_ xs p).Feats := by
    by_cases h : p = P
    · subst h; rw [at_set_eq (by simpa using hp)]; exact hx
    · rw [at_set_ne h]
  simp only [mTrainedFeats, gTrainedFeats, e]
  first | exact ⟨trivial, fun i hi => .inl rfl⟩ | exact ⟨trivial, fun i hi => .inl trivial⟩
theorem fputTrainedFeats {xs : List Trained} {P m1 : Nat} {ys : List Feat} {f1 : Nat → List AV} (hP : P < xs.length) (hm : m1 = ys.length) (hf : ∀ i, i < m1 → f1 i = fFeat ys i) : xs.length = (xs.set P (Trained.withFeats (at_ xs P) ys)).length ∧ 3 = 3 ∧ ∀ p, p < (xs.set P (Trained.withFeats (at_ xs P) ys)).length → famUp P m1 (mTrainedFeats xs) p = mTrainedFeats (xs.set P (Trained.withFeats (at_ xs P) ys)) p ∧ ∀ i, i < mTrainedFeats (xs.set P (Trained.withFeats (at_ xs P) ys)) p → famUpF P f1 (gTrainedFeats xs) p i = gTrainedFeats (xs.set P (Trained.withFeats (at_ xs P) ys)) p i ∨ (AV.idsL (gTrainedFeats (xs.set P (Trained.withFeats (at_ xs P) ys)) p i) = [] ∧ leL (fun _ => none) false (famUpF P f1 (gTrainedFeats xs) p i) (gTrainedFeats (xs.set P (Trained.withFeats (at_ xs P) ys)) p i)) := by
  refine ⟨by simp, rfl, fun p hp => ?_⟩
  by_cases h : p = P
  · subst h
    have e : (at_ (xs.set p (Trained.withFeats (at_ xs p) ys)) p).Feats = ys := by rw [at_set_eq hP]; rfl
    simp only [mTrainedFeats, gTrainedFeats, famUp_at, famUpF_at, e]
    exact ⟨hm, fun i hi => .inl (hf i (by omega))⟩
  · have e : at_ (xs.set P (Trained.withFeats (at_ xs P) ys)) p = at_ xs p := at_set_ne h
    simp only [mTrainedFeats, gTrainedFeats, famUp_ne _ _ h, famUpF_ne _ _ h, e]
    first | exact ⟨trivial, fun i hi => .inl rfl⟩ | exact ⟨trivial, fun i hi => .inl trivial⟩
theorem oputTrained (F0 F1 P : Nat) {xs : List Trained} {x' : Trained} (i : Nat) (hi : i < (xs.set P x').length) : (bif Nat.beq i P then oTrainedc F0 F1 x' P else oTrained F0 F1 xs i) = oTrained F0 F1 (xs.set P x') i := by
  by_cases h : i = P
  · subst h
    have hl : i < xs.length := by simpa using hi
    simp only [Nat.beq_refl, cond_true, oTrained, at_set_eq hl]
  · simp only [beq_ne h, cond_false, oTrained, at_set_ne h]
theorem opreTrained {F0 F1 j0 j1 P : Nat} (h00 : Nat.beq F0 j0 = false) (h01 : Nat.beq F0 j1 = false) (h10 : Nat.beq F1 j0 = false) (h11 : Nat.beq F1 j1 = false) (i01 : Nat.beq j0 j1 = false) (i10 : Nat.beq j1 j0 = false) {xs : List Trained} {x : Trained} (hP : P = xs.length) (i : Nat) : (AV.joiL j1 F1 xs.length (AV.joiL j0 F0 xs.length (bif Nat.beq i P then spl (catF xs.length (oTrained F0 F1 xs) (fun _ => [Sv (⟨#[]⟩ : ByteArray), nilA, nilA, I 0]) P) 0 [Sv x.Label, .arr j0, .arr j1, I x.Count] else catF xs.length (oTrained F0 F1 xs) (fun _ => [Sv (⟨#[]⟩ : ByteArray), nilA, nilA, I 0]) i))) = catF (xs ++ [x]).length (oTrained F0 F1 (xs ++ [x])) (fun _ => [Sv (⟨#[]⟩ : ByteArray), nilA, nilA, I 0]) i := by
  subst hP
  have e0 : spl (catF xs.length (oTrained F0 F1 xs) (fun _ => [Sv (⟨#[]⟩ : ByteArray), nilA, nilA, I 0]) xs.length) 0 [Sv x.Label, .arr j0, .arr j1, I x.Count] = [Sv x.Label, .arr j0, .arr j1, I x.Count] := by rw [catF_ge (Nat.le_refl _)]; rfl
  have eR : ∀ i, i < xs.length + 1 → catF (xs ++ [x]).length (oTrained F0 F1 (xs ++ [x])) (fun _ => [Sv (⟨#[]⟩ : ByteArray), nilA, nilA, I 0]) i = oTrained F0 F1 (xs ++ [x]) i := fun i h => catF_lt (by simpa using h)
  by_cases h : i < xs.length
  · have eL : catF xs.length (oTrained F0 F1 xs) (fun _ => [Sv (⟨#[]⟩ : ByteArray), nilA, nilA, I 0]) i = oTrained F0 F1 xs i := catF_lt h
    rw [beq_ne (by omega), cond_false, eL, eR i (by omega)]
    simp [oTrained, oTrainedc, at_left h, AV.joiL, AV.joi, *]
  · by_cases e : i = xs.length
    · subst e
      rw [Nat.beq_refl, cond_true, e0, eR _ (by omega)]
      simp [oTrained, oTrainedc, at_right (Nat.le_refl _), at_, AV.joiL, AV.joi, *]
    · have eL : catF xs.length (oTrained F0 F1 xs) (fun _ => [Sv (⟨#[]⟩ : ByteArray), nilA, nilA, I 0]) i = [Sv (⟨#[]⟩ : ByteArray), nilA, nilA, I 0] := catF_ge (by omega)
      have eT : catF (xs ++ [x]).length (oTrained F0 F1 (xs ++ [x])) (fun _ => [Sv (⟨#[]⟩ : ByteArray), nilA, nilA, I 0]) i = [Sv (⟨#[]⟩ : ByteArray), nilA, nilA, I 0] := catF_ge (by simp; omega)
      rw [beq_ne e, cond_false, eL, eT]
      rfl

theorem fgsetFeat {ob : Nat → Option Ob} {N p k j : Nat} {m : Nat → Nat} {g : Nat → Nat → List AV} {ys : List Feat} {c : Feat} {cs : List AV} (hk : k < ys.length) (h : spl (fFeat ys k) j cs = cFeat c) :
    obLe ob true (.fam N 3 (famUp p ys.length m) (fun q => bif Nat.beq q p then (fun q => bif Nat.beq q k then spl (famUpF p (fFeat ys) g p k) j cs else famUpF p (fFeat ys) g p q) else famUpF p (fFeat ys) g q)) (.fam N 3 (famUp p (ys.set k c).length m) (famUpF p (fFeat (ys.set k c)) g)) :=
  fg_set (by simp) (h.trans (by show _ = cFeat (at_ _ _); rw [at_set_eq hk])) (fun i hi => by show cFeat (at_ _ _) = cFeat (at_ (ys.set k c) i); rw [at_set_ne hi])

-- laws.toTrainedS
theorem toTrainedS_own (al : List Trained) (hb : bulkTrainedS al ≤ 1048576) : ∃ (ys : List Trained), (ys = al) ∧ CallOK Try.prog 33 [slTrained false al] (lookO []) false (.arr 7401) (lookO [(7401, .oar [7411, 7412] 4 ys.length (oTrained 7411 7412 ys)), (7411, .fam ys.length 3 (mTrainedBase ys) (gTrainedBase ys)), (7412, .fam ys.length 3 (mTrainedFeats ys) (gTrainedFeats ys))]) := by
  have hb0 := bulkTrainedS_len al
  have hh : ∃ r : (List Trained), ((r = al) ∧ (True)) ∧ CallOK Try.prog 33 [slTrained false al] (lookO []) false (.arr 7401) (lookO [(7401, .oar [7411, 7412] 4 r.length (oTrained 7411 7412 r)), (7411, .fam r.length 3 (mTrainedBase r) (gTrainedBase r)), (7412, .fam r.length 3 (mTrainedFeats r) (gTrainedFeats r))]) := by
    refine fn_okX (Φ := fun r : (List Trained) => (r = al) ∧ (True)) [] (fun r => [(7401, .oar [7411, 7412] 4 r.length (oTrained 7411 7412 r)), (7411, .fam r.length 3 (mTrainedBase r) (gTrainedBase r)), (7412, .fam r.length 3 (mTrainedFeats r) (gTrainedFeats r))]) (fn := Try.f33) (nt := 23) Try.func33 rfl rfl (args := [slTrained false al]) rfl (allcons (.inl ⟨rfl, tagTrained false _⟩) allnil) (res := fun r => .arr 7401) ?_
    refine xR [] [0] [] [slTrained false al] [] [] trivial ?_
    refine xR [(2, .new 7)] [0, 3] [7] [slTrained false al, .arr 7] [some (.arr 4 ((al.length : Int).toNat) (fun _ => [Sv (⟨#[]⟩ : ByteArray), nilA, nilA, I 0]))] [(0 : Int) ≤ (al.length : Int) ∧ ((al.length : Int) : Int) ≤ (al.length : Int) ∧ (72 : Int) * (al.length : Int) ≤ 281474976710656 ∧ (al.length : Int) ≤ 9223372036854775807] ⟨⟨(by omega), (by omega), (by omega), (by omega)⟩, trivial⟩ ?_
    refine x_seq ?_
    refine xR [] [0, 3, 4] [7] [slTrained false al, .arr 7, I 0] [some (.arr 4 ((al.length : Int).toNat) (fun _ => [Sv (⟨#[]⟩ : ByteArray), nilA, nilA, I 0]))] [] trivial ?_
    refine x_block ?_
    refine x_fam 7411 3 (fun _ => 0) (fun _ _ => []) (by kernel_rfl) ?_
    refine x_fam 7412 3 (fun _ => 0) (fun _ _ => []) (by kernel_rfl) ?_
    refine x_weak [] (T := [(0, slTrained false al), (3, .arr 7), (4, I 0)]) (O := [(7, .oar [7411, 7412] 4 ((al.length : Int).toNat) (catF (([] : List Trained).length) (oTrained 7411 7412 ([] : List Trained)) (fun _ => [Sv (⟨#[]⟩ : ByteArray), nilA, nilA, I 0]))), (7411, .fam ([] : List Trained).length 3 (mTrainedBase ([] : List Trained)) (gTrainedBase ([] : List Trained))), (7412, .fam ([] : List Trained).length 3 (mTrainedFeats ([] : List Trained)) (gTrainedFeats ([] : List Trained)))]) rfl (⟨.inl rfl, .inl rfl, .inl rfl, trivial⟩) (⟨.inr ⟨rfl, rfl, fun i_ hi_ => rfl⟩, .inr ⟨rfl, rfl, fun p hp => absurd hp (Nat.not_lt_zero _)⟩, .inr ⟨rfl, rfl, fun p hp => absurd hp (Nat.not_lt_zero _)⟩, trivial⟩) ?_
    refine x_loop (X := Int × (List Trained)) (fun x => mkS [(0, slTrained false al), (3, .arr 7), (4, I x.1)] [(7, .oar [7411, 7412] 4 ((al.length : Int).toNat) (catF x.2.length (oTrained 7411 7412 x.2) (fun _ => [Sv (⟨#[]⟩ : ByteArray), nilA, nilA, I 0]))), (7411, .fam x.2.length 3 (mTrainedBase x.2) (gTrainedBase x.2)), (7412, .fam x.2.length 3 (mTrainedFeats x.2) (gTrainedFeats x.2))]) (fun x => (0 ≤ x.1 ∧ x.1 ≤ (al.length : Int)) ∧ (x.2.length = x.1.toNat) ∧ (x.2 = al.take x.1.toNat) ∧ True) (fun x => ((al.length : Int) - x.1).toNat) (0, ([] : List Trained)) rfl (show (0 ≤ (0 : Int) ∧ (0 : Int) ≤ (al.length : Int)) ∧ (([] : List Trained).length = (0 : Int).toNat) ∧ (([] : List Trained) = al.take (0 : Int).toNat) ∧ True from ⟨(by omega), (by rfl), (by rfl), trivial⟩) (fun x hI => ?_)
    obtain ⟨i, zs⟩ := x
    obtain ⟨hi0, hy0, hy1, _⟩ : (0 ≤ i ∧ i ≤ (al.length : Int)) ∧ (zs.length = i.toNat) ∧ (zs = al.take i.toNat) ∧ True := hI
    show XW _ _ _ _ (mkS [(0, slTrained false al), (3, .arr 7), (4, I i)] [(7, .oar [7411, 7412] 4 ((al.length : Int).toNat) (catF zs.length (oTrained 7411 7412 zs) (fun _ => [Sv (⟨#[]⟩ : ByteArray), nilA, nilA, I 0]))), (7411, .fam zs.length 3 (mTrainedBase zs) (gTrainedBase zs)), (7412, .fam zs.length 3 (mTrainedFeats zs) (gTrainedFeats zs))]) _ _
    refine x_seq ?_
    refine x_seq ?_
    by_cases h1 : i < (al.length : Int)
    ·have hi : i.toNat < al.length := by omega
     refine x_r [(3, .dec true)] [0, 3, 4, 11] [7, 7411, 7412] [slTrained false al, .arr 7, I i, Bv true] [some (.oar [7411, 7412] 4 ((al.length : Int).toNat) (catF zs.length (oTrained 7411 7412 zs) (fun _ => [Sv (⟨#[]⟩ : ByteArray), nilA, nilA, I 0]))), some (.fam zs.length 3 (mTrainedBase zs) (gTrainedBase zs)), some (.fam zs.length 3 (mTrainedFeats zs) (gTrainedFeats zs))] [i < (al.length : Int)] ⟨h1, trivial⟩ ?_
     refine xe_then ?_
     refine x_true rfl ?_
     refine x_skip ?_
     refine xe_then ?_
     refine x_seq ?_
     refine x_block ?_
     obtain ⟨bs_1, fs_1, hx1_0, hx1_1, hc1⟩ := toTrained_own (at_ al i.toNat) (by have := bulkTrainedS_at hi; unfold bulkTrained at this; omega)
     refine x_r [(6, .lend [] [(8303, .arr 3 bs_1.length (fFeat bs_1)), (8304, .arr 3 fs_1.length (fFeat fs_1))] [(true, .any)] false (.agg [Sv ((at_ al i.toNat).Label), .arr 8303, .arr 8304, I ((at_ al i.toNat).Count)]))] [0, 3, 4] [7, 7411, 7412, 8303, 8304] [slTrained false al, .arr 7, I i] [some (.oar [7411, 7412, 8303, 8304] 4 ((al.length : Int).toNat) (fun q => bif Nat.beq q i.toNat then spl ((catF zs.length (oTrained 7411 7412 zs) (fun _ => [Sv (⟨#[]⟩ : ByteArray), nilA, nilA, I 0])) i.toNat) 0 [Sv ((at_ al i.toNat).Label), .arr 8303, .arr 8304, I ((at_ al i.toNat).Count)] else (catF zs.length (oTrained 7411 7412 zs) (fun _ => [Sv (⟨#[]⟩ : ByteArray), nilA, nilA, I 0])) q)), some (.fam zs.length 3 (mTrainedBase zs) (gTrainedBase zs)), some (.fam zs.length 3 (mTrainedFeats zs) (gTrainedFeats zs)), some (.arr 3 bs_1.length (fFeat bs_1)), some (.arr 3 fs_1.length (fFeat fs_1))] [(0 : Int) ≤ i ∧ i < (al.length : Int), CallOK Try.prog 54 [agTrained (at_ al i.toNat)] (lookO []) false (.agg [Sv ((at_ al i.toNat).Label), .arr 8303, .arr 8304, I ((at_ al i.toNat).Count)]) (lookO [(8303, .arr 3 bs_1.length (fFeat bs_1)), (8304, .arr 3 fs_1.length (fFeat fs_1))]) ∧ True, (0 : Int) ≤ i ∧ i < (((al.length : Int).toNat) : Int), i.toNat < (al.length : Int).toNat] ⟨⟨(by omega), (by omega)⟩, ⟨hc1, trivial⟩, ⟨(by omega), (by omega)⟩, (by omega), trivial⟩ ?_
     refine xe_block 1 ?_
     refine xe_then ?_
     refine x_join 8303 7411 rfl rfl rfl ?_
     refine x_join 8304 7412 rfl rfl rfl ?_
     refine x_weak [] (T := [(0, slTrained false al), (3, .arr 7), (4, I i)]) (O := [(7, .oar [7411, 7412] 4 ((al.length : Int).toNat) (catF ((zs ++ [(Trained.mk ((at_ al i.toNat).Label) bs_1 fs_1 ((at_ al i.toNat).Count))]).length) (oTrained 7411 7412 (zs ++ [(Trained.mk ((at_ al i.toNat).Label) bs_1 fs_1 ((at_ al i.toNat).Count))])) (fun _ => [Sv (⟨#[]⟩ : ByteArray), nilA, nilA, I 0]))), (7411, .fam (zs ++ [(Trained.mk ((at_ al i.toNat).Label) bs_1 fs_1 ((at_ al i.toNat).Count))]).length 3 (mTrainedBase (zs ++ [(Trained.mk ((at_ al i.toNat).Label) bs_1 fs_1 ((at_ al i.toNat).Count))])) (gTrainedBase (zs ++ [(Trained.mk ((at_ al i.toNat).Label) bs_1 fs_1 ((at_ al i.toNat).Count))]))), (7412, .fam (zs ++ [(Trained.mk ((at_ al i.toNat).Label) bs_1 fs_1 ((at_ al i.toNat).Count))]).length 3 (mTrainedFeats (zs ++ [(Trained.mk ((at_ al i.toNat).Label) bs_1 fs_1 ((at_ al i.toNat).Count))])) (gTrainedFeats (zs ++ [(Trained.mk ((at_ al i.toNat).Label) bs_1 fs_1 ((at_ al i.toNat).Count))])))]) rfl (⟨.inl rfl, .inl rfl, .inl rfl, trivial⟩) (⟨.inr ⟨rfl, rfl, rfl, fun i_ hi_ => .inl ((opreTrained (P := i.toNat) (xs := zs) (x := (Trained.mk ((at_ al i.toNat).Label) bs_1 fs_1 ((at_ al i.toNat).Count))) rfl rfl rfl rfl rfl rfl (by omega) i_).trans (AV.renL_nil _).symm)⟩, .inr (fcatTrainedBase (Trained.mk ((at_ al i.toNat).Label) bs_1 fs_1 ((at_ al i.toNat).Count)) (by first | rfl | (simp; done)) (fun i_ hi_ => (by first | rfl | fail))), .inr (fcatTrainedFeats (Trained.mk ((at_ al i.toNat).Label) bs_1 fs_1 ((at_ al i.toNat).Count)) (by first | rfl | (simp; done)) (fun i_ hi_ => (by first | rfl | fail))), trivial⟩) ?_
     refine x_r [] [0, 3, 4] [7, 7411, 7412] [slTrained false al, .arr 7, I (i + 1)] [some (.oar [7411, 7412] 4 ((al.length : Int).toNat) (catF ((zs ++ [(Trained.mk ((at_ al i.toNat).Label) bs_1 fs_1 ((at_ al i.toNat).Count))]).length) (oTrained 7411 7412 (zs ++ [(Trained.mk ((at_ al i.toNat).Label) bs_1 fs_1 ((at_ al i.toNat).Count))])) (fun _ => [Sv (⟨#[]⟩ : ByteArray), nilA, nilA, I 0]))), some (.fam (zs ++ [(Trained.mk ((at_ al i.toNat).Label) bs_1 fs_1 ((at_ al i.toNat).Count))]).length 3 (mTrainedBase (zs ++ [(Trained.mk ((at_ al i.toNat).Label) bs_1 fs_1 ((at_ al i.toNat).Count))])) (gTrainedBase (zs ++ [(Trained.mk ((at_ al i.toNat).Label) bs_1 fs_1 ((at_ al i.toNat).Count))]))), some (.fam (zs ++ [(Trained.mk ((at_ al i.toNat).Label) bs_1 fs_1 ((at_ al i.toNat).Count))]).length 3 (mTrainedFeats (zs ++ [(Trained.mk ((at_ al i.toNat).Label) bs_1 fs_1 ((at_ al i.toNat).Count))])) (gTrainedFeats (zs ++ [(Trained.mk ((at_ al i.toNat).Label) bs_1 fs_1 ((at_ al i.toNat).Count))])))] [inR .i64 (i + 1)] ⟨(inR_i64 (by omega) (by omega)), trivial⟩ ?_
     exact xe_again ((i + 1), (zs ++ [(Trained.mk ((at_ al i.toNat).Label) bs_1 fs_1 ((at_ al i.toNat).Count))])) rfl (show (0 ≤ (i + 1) ∧ (i + 1) ≤ (al.length : Int)) ∧ ((zs ++ [(Trained.mk ((at_ al i.toNat).Label) bs_1 fs_1 ((at_ al i.toNat).Count))]).length = (i + 1).toNat) ∧ ((zs ++ [(Trained.mk ((at_ al i.toNat).Label) bs_1 fs_1 ((at_ al i.toNat).Count))]) = al.take (i + 1).toNat) ∧ True from ⟨(by omega), (by simp; omega), (by rw [show (i + 1).toNat = i.toNat + 1 from by omega, take_snoc' hi, ← hy1, hx1_0, hx1_1]), trivial⟩) (by first | (show (((al.length : Int) - (i + 1)).toNat : Nat) < ((al.length : Int) - i).toNat; omega) | (dsimp only; omega))
    refine x_r [(3, .dec false)] [0, 3, 4, 11] [7, 7411, 7412] [slTrained false al, .arr 7, I i, Bv false] [some (.oar [7411, 7412] 4 ((al.length : Int).toNat) (catF zs.length (oTrained 7411 7412 zs) (fun _ => [Sv (⟨#[]⟩ : ByteArray), nilA, nilA, I 0]))), some (.fam zs.length 3 (mTrainedBase zs) (gTrainedBase zs)), some (.fam zs.length 3 (mTrainedFeats zs) (gTrainedFeats zs))] [¬ (i < (al.length : Int))] ⟨h1, trivial⟩ ?_
    refine xe_then ?_
    refine x_false rfl ?_
    refine x_exit ?_
    refine xe_exit_then ?_
    refine xe_loop_exit ?_
    refine xe_exit_same ?_
    refine xe_then ?_
    refine xR [] [2] [7, 7411, 7412] [.arr 7] [some (.oar [7411, 7412] 4 ((al.length : Int).toNat) (catF zs.length (oTrained 7411 7412 zs) (fun _ => [Sv (⟨#[]⟩ : ByteArray), nilA, nilA, I 0]))), some (.fam zs.length 3 (mTrainedBase zs) (gTrainedBase zs)), some (.fam zs.length 3 (mTrainedFeats zs) (gTrainedFeats zs))] [] trivial ?_
    refine x_ret ?_
    refine xe_weak [(7401, 7)] (T := [(2, .arr 7401)]) (O := [(7401, .oar [7411, 7412] 4 zs.length (oTrained 7411 7412 zs)), (7411, .fam zs.length 3 (mTrainedBase zs) (gTrainedBase zs)), (7412, .fam zs.length 3 (mTrainedFeats zs) (gTrainedFeats zs))]) rfl (⟨.inl rfl, trivial⟩) (⟨.inr ⟨rfl, rfl, (by omega), fun i_ hi_ => .inl (catF_lt hi_)⟩, .inl rfl, .inl rfl, trivial⟩) ?_
    refine xe_end zs (show (zs = al) ∧ (True) from ⟨(by rw [hy1, List.take_of_length_le (by omega)]), trivial⟩) (⟨.inl rfl, .inl rfl, .inl rfl, trivial⟩) (.arr 7401) (by kernel_rfl) (.inl rfl) (fun h => by cases h) (fun h => by cases h)
  obtain ⟨ys, ⟨hh0, _⟩, hc⟩ := hh
  exact ⟨ys, hh0, hc⟩


-- laws.toWriter
theorem toWriter_own (w : Writer) (hb : bulkTrainedS w.Trained ≤ 1048576) : ∃ (ts : List Trained), (ts = w.Trained) ∧ CallOK Try.prog 16 [agWriter w] (lookO []) false (.agg [I w.Band, .arr 7401]) (lookO [(7401, .oar [7411, 7412] 4 ts.length (oTrained 7411 7412 ts)), (7411, .fam ts.length 3 (mTrainedBase ts) (gTrainedBase ts)), (7412, .fam ts.length 3 (mTrainedFeats ts) (gTrainedFeats ts))]) := by
  have hh : ∃ r : (List Trained), ((r = w.Trained) ∧ (True)) ∧ CallOK Try.prog 16 [agWriter w] (lookO []) false (.agg [I w.Band, .arr 7401]) (lookO [(7401, .oar [7411, 7412] 4 r.length (oTrained 7411 7412 r)), (7411, .fam r.length 3 (mTrainedBase r) (gTrainedBase r)), (7412, .fam r.length 3 (mTrainedFeats r) (gTrainedFeats r))]) := by
    refine fn_okX (Φ := fun r : (List Trained) => (r = w.Trained) ∧ (True)) [] (fun r => [(7401, .oar [7411, 7412] 4 r.length (oTrained 7411 7412 r)), (7411, .fam r.length 3 (mTrainedBase r) (gTrainedBase r)), (7412, .fam r.length 3 (mTrainedFeats r) (gTrainedFeats r))]) (fn := Try.f16) (nt := 12) Try.func16 rfl rfl (args := [agWriter w]) rfl (allcons (.inl ⟨rfl, by simp [tagged, taggedL, tagTrained]⟩) allnil) (res := fun r => .agg [I w.Band, .arr 7401]) ?_
    refine xR [(0, .new 1), (1, .new 2)] [1, 2] [1, 2] [.ref 1 0, .ref 2 0] [some (bxWriter w), some (.box [I 0, nilA])] [] trivial ?_
    refine xR [(0, .new 3)] [1, 2, 3] [1, 2, 3] [.ref 1 0, .ref 2 0, .ref 3 0] [some (bxWriter w), some (.box [I 0, nilA]), some (.box [I 0, nilA])] [] trivial ?_
    refine xR [] [1, 2, 3] [1, 2, 3] [.ref 1 0, .ref 2 0, .ref 3 0] [some (bxWriter w), some (.box [I 0, nilA]), some (.box [I w.Band, nilA])] [] trivial ?_
    refine x_seq ?_
    obtain ⟨ys_1, hx1_0, hc1⟩ := toTrainedS_own w.Trained hb
    refine x_r [(2, .lend [] [(7401, .oar [7411, 7412] 4 ys_1.length (oTrained 7411 7412 ys_1)), (7411, .fam ys_1.length 3 (mTrainedBase ys_1) (gTrainedBase ys_1)), (7412, .fam ys_1.length 3 (mTrainedFeats ys_1) (gTrainedFeats ys_1))] [(true, .any)] false (.arr 7401))] [2, 3] [2, 3, 7401, 7411, 7412] [.ref 2 0, .ref 3 0] [some (.box [I 0, nilA]), some (.box [I w.Band, .arr 7401]), some (.oar [7411, 7412] 4 ys_1.length (oTrained 7411 7412 ys_1)), some (.fam ys_1.length 3 (mTrainedBase ys_1) (gTrainedBase ys_1)), some (.fam ys_1.length 3 (mTrainedFeats ys_1) (gTrainedFeats ys_1))] [CallOK Try.prog 33 [slTrained false w.Trained] (lookO []) false (.arr 7401) (lookO [(7401, .oar [7411, 7412] 4 ys_1.length (oTrained 7411 7412 ys_1)), (7411, .fam ys_1.length 3 (mTrainedBase ys_1) (gTrainedBase ys_1)), (7412, .fam ys_1.length 3 (mTrainedFeats ys_1) (gTrainedFeats ys_1))]) ∧ True] ⟨⟨hc1, trivial⟩, trivial⟩ ?_
    refine xe_then ?_
    refine xR [] [2] [2, 7401, 7411, 7412] [.ref 2 0] [some (.box [I w.Band, .arr 7401]), some (.oar [7411, 7412] 4 ys_1.length (oTrained 7411 7412 ys_1)), some (.fam ys_1.length 3 (mTrainedBase ys_1) (gTrainedBase ys_1)), some (.fam ys_1.length 3 (mTrainedFeats ys_1) (gTrainedFeats ys_1))] [] trivial ?_
    refine x_ret ?_
    refine xe_end ys_1 (show (ys_1 = w.Trained) ∧ (True) from ⟨(by assumption), trivial⟩) (⟨.inl rfl, .inl rfl, .inl rfl, trivial⟩) (.agg [I w.Band, .arr 7401]) (by kernel_rfl) (.inl rfl) (fun h => by cases h) (fun h => by cases h)
  obtain ⟨ts, ⟨hh0, _⟩, hc⟩ := hh
  exact ⟨ts, hh0, hc⟩


-- spec.l01Small
theorem l01Small_ok (c : Int) : Con Try.prog 79 [.val (.int .u8 c)] true (Bv (inB c 97 122)) := by
  refine fn_ok (fn := Try.f79) (nt := 9) Try.func79 rfl rfl rfl rfl (by simp [taggedL, tagged]) fun B hB => ?_
  refine aR [] [0] [] [.val (.int .u8 c)] [] [] hB trivial ?_
  refine aw_seq ?_
  by_cases h1 : 97 ≤ c
  ·refine aw_r [(1, .dec true)] [2] [] [Bv (decide (c ≤ 122))] [] [97 ≤ c] hB ⟨h1, trivial⟩ ?_
   refine ae_then ?_
   refine aw_ret ?_
   refine ae_ret hB (Bv (decide (c ≤ 122))) (by kernel_rfl) (.inl (by first | rfl | (refine congrArg Bv ?_; simp [inB, *]; done) | (refine congrArg Bv ?_; simp [inB, *]; omega) | (refine congrArg Bv ?_; simp_all [inB]; done) | (refine congrArg Bv ?_; simp_all [inB]; omega))) rfl (fun _ => trivial)
  refine aw_r [(1, .dec false)] [2] [] [Bv false] [] [¬ (97 ≤ c)] hB ⟨h1, trivial⟩ ?_
  refine ae_then ?_
  refine aw_ret ?_
  refine ae_ret hB (Bv false) (by kernel_rfl) (.inl (by first | rfl | (refine congrArg Bv ?_; simp [inB, *]; done) | (refine congrArg Bv ?_; simp [inB, *]; omega) | (refine congrArg Bv ?_; simp_all [inB]; done) | (refine congrArg Bv ?_; simp_all [inB]; omega))) rfl (fun _ => trivial)


-- spec.l11Label
theorem l11Label_ok (c : Int) : Con Try.prog 70 [.val (.int .u8 c)] true (Bv (labB c)) := by
  refine fn_ok (fn := Try.f70) (nt := 24) Try.func70 rfl rfl rfl rfl (by simp [taggedL, tagged]) fun B hB => ?_
  refine aR [] [0] [] [.val (.int .u8 c)] [] [] hB trivial ?_
  refine aw_seq ?_
  refine aR [] [0, 3] [] [.val (.int .u8 c), .val (.int .u8 c)] [] [] hB trivial ?_
  refine aw_block ?_
  refine aw_seq ?_
  refine aw_seq ?_
  by_cases h1 : c = 43
  ·refine aw_r [(0, .dec true)] [0, 3, 4] [] [.val (.int .u8 c), .val (.int .u8 c), Bv true] [] [c = 43] hB ⟨h1, trivial⟩ ?_
   refine ae_then ?_
   refine aw_true rfl ?_
   refine aw_skip ?_
   refine ae_then ?_
   refine aw_true rfl ?_
   refine aR [] [2] [] [Bv true] [] [] hB trivial ?_
   refine aw_ret ?_
   refine ae_ret_block (ae_ret_then ?_)
   refine ae_ret hB (Bv true) (by kernel_rfl) (.inl (by first | rfl | (refine congrArg Bv ?_; simp [labB, inB, *]; done) | (refine congrArg Bv ?_; simp [labB, inB, *]; omega) | (refine congrArg Bv ?_; simp_all [labB, inB]; done) | (refine congrArg Bv ?_; simp_all [labB, inB]; omega))) rfl (fun _ => trivial)
  refine aw_r [(0, .dec false)] [0, 3, 4] [] [.val (.int .u8 c), .val (.int .u8 c), Bv false] [] [¬ (c = 43)] hB ⟨h1, trivial⟩ ?_
  refine ae_then ?_
  refine aw_false rfl ?_
  refine aw_seq ?_
  by_cases h2 : c = 45
  ·refine aw_r [(0, .dec true)] [0, 3, 4] [] [.val (.int .u8 c), .val (.int .u8 c), Bv true] [] [c = 45] hB ⟨h2, trivial⟩ ?_
   refine ae_then ?_
   refine aw_true rfl ?_
   refine aw_skip ?_
   refine ae_then ?_
   refine aw_true rfl ?_
   refine aR [] [2] [] [Bv true] [] [] hB trivial ?_
   refine aw_ret ?_
   refine ae_ret_block (ae_ret_then ?_)
   refine ae_ret hB (Bv true) (by kernel_rfl) (.inl (by first | rfl | (refine congrArg Bv ?_; simp [labB, inB, *]; done) | (refine congrArg Bv ?_; simp [labB, inB, *]; omega) | (refine congrArg Bv ?_; simp_all [labB, inB]; done) | (refine congrArg Bv ?_; simp_all [labB, inB]; omega))) rfl (fun _ => trivial)
  refine aw_r [(0, .dec false)] [0, 3, 4] [] [.val (.int .u8 c), .val (.int .u8 c), Bv false] [] [¬ (c = 45)] hB ⟨h2, trivial⟩ ?_
  refine ae_then ?_
  refine aw_false rfl ?_
  refine aw_seq ?_
  by_cases h3 : c = 42
  ·refine aw_r [(0, .dec true)] [0, 3, 4] [] [.val (.int .u8 c), .val (.int .u8 c), Bv true] [] [c = 42] hB ⟨h3, trivial⟩ ?_
   refine ae_then ?_
   refine aw_true rfl ?_
   refine aw_skip ?_
   refine ae_then ?_
   refine aw_true rfl ?_
   refine aR [] [2] [] [Bv true] [] [] hB trivial ?_
   refine aw_ret ?_
   refine ae_ret_block (ae_ret_then ?_)
   refine ae_ret hB (Bv true) (by kernel_rfl) (.inl (by first | rfl | (refine congrArg Bv ?_; simp [labB, inB, *]; done) | (refine congrArg Bv ?_; simp [labB, inB, *]; omega) | (refine congrArg Bv ?_; simp_all [labB, inB]; done) | (refine congrArg Bv ?_; simp_all [labB, inB]; omega))) rfl (fun _ => trivial)
  refine aw_r [(0, .dec false)] [0, 3, 4] [] [.val (.int .u8 c), .val (.int .u8 c), Bv false] [] [¬ (c = 42)] hB ⟨h3, trivial⟩ ?_
  refine ae_then ?_
  refine aw_false rfl ?_
  refine aw_seq ?_
  by_cases h4 : c = 47
  ·refine aw_r [(0, .dec true)] [0, 3, 4] [] [.val (.int .u8 c), .val (.int .u8 c), Bv true] [] [c = 47] hB ⟨h4, trivial⟩ ?_
   refine ae_then ?_
   refine aw_true rfl ?_
   refine aw_skip ?_
   refine ae_then ?_
   refine aw_true rfl ?_
   refine aR [] [2] [] [Bv true] [] [] hB trivial ?_
   refine aw_ret ?_
   refine ae_ret_block (ae_ret_then ?_)
   refine ae_ret hB (Bv true) (by kernel_rfl) (.inl (by first | rfl | (refine congrArg Bv ?_; simp [labB, inB, *]; done) | (refine congrArg Bv ?_; simp [labB, inB, *]; omega) | (refine congrArg Bv ?_; simp_all [labB, inB]; done) | (refine congrArg Bv ?_; simp_all [labB, inB]; omega))) rfl (fun _ => trivial)
  refine aw_r [(0, .dec false)] [0, 3, 4] [] [.val (.int .u8 c), .val (.int .u8 c), Bv false] [] [¬ (c = 47)] hB ⟨h4, trivial⟩ ?_
  refine ae_then ?_
  refine aw_false rfl ?_
  refine aw_seq ?_
  by_cases h5 : c = 61
  ·refine aw_r [(0, .dec true)] [0, 3, 4] [] [.val (.int .u8 c), .val (.int .u8 c), Bv true] [] [c = 61] hB ⟨h5, trivial⟩ ?_
   refine ae_then ?_
   refine aw_true rfl ?_
   refine aw_skip ?_
   refine ae_then ?_
   refine aw_true rfl ?_
   refine aR [] [2] [] [Bv true] [] [] hB trivial ?_
   refine aw_ret ?_
   refine ae_ret_block (ae_ret_then ?_)
   refine ae_ret hB (Bv true) (by kernel_rfl) (.inl (by first | rfl | (refine congrArg Bv ?_; simp [labB, inB, *]; done) | (refine congrArg Bv ?_; simp [labB, inB, *]; omega) | (refine congrArg Bv ?_; simp_all [labB, inB]; done) | (refine congrArg Bv ?_; simp_all [labB, inB]; omega))) rfl (fun _ => trivial)
  refine aw_r [(0, .dec false)] [0, 3, 4] [] [.val (.int .u8 c), .val (.int .u8 c), Bv false] [] [¬ (c = 61)] hB ⟨h5, trivial⟩ ?_
  refine ae_then ?_
  refine aw_false rfl ?_
  refine aw_seq ?_
  by_cases h6 : c = 40
  ·refine aw_r [(0, .dec true)] [0, 3, 4] [] [.val (.int .u8 c), .val (.int .u8 c), Bv true] [] [c = 40] hB ⟨h6, trivial⟩ ?_
   refine ae_then ?_
   refine aw_true rfl ?_
   refine aw_skip ?_
   refine ae_then ?_
   refine aw_true rfl ?_
   refine aR [] [2] [] [Bv true] [] [] hB trivial ?_
   refine aw_ret ?_
   refine ae_ret_block (ae_ret_then ?_)
   refine ae_ret hB (Bv true) (by kernel_rfl) (.inl (by first | rfl | (refine congrArg Bv ?_; simp [labB, inB, *]; done) | (refine congrArg Bv ?_; simp [labB, inB, *]; omega) | (refine congrArg Bv ?_; simp_all [labB, inB]; done) | (refine congrArg Bv ?_; simp_all [labB, inB]; omega))) rfl (fun _ => trivial)
  refine aw_r [(0, .dec false)] [0, 3, 4] [] [.val (.int .u8 c), .val (.int .u8 c), Bv false] [] [¬ (c = 40)] hB ⟨h6, trivial⟩ ?_
  refine ae_then ?_
  refine aw_false rfl ?_
  refine aw_seq ?_
  by_cases h7 : c = 41
  ·refine aw_r [(0, .dec true)] [0, 3, 4] [] [.val (.int .u8 c), .val (.int .u8 c), Bv true] [] [c = 41] hB ⟨h7, trivial⟩ ?_
   refine ae_then ?_
   refine aw_true rfl ?_
   refine aw_skip ?_
   refine ae_then ?_
   refine aw_true rfl ?_
   refine aR [] [2] [] [Bv true] [] [] hB trivial ?_
   refine aw_ret ?_
   refine ae_ret_block (ae_ret_then ?_)
   refine ae_ret hB (Bv true) (by kernel_rfl) (.inl (by first | rfl | (refine congrArg Bv ?_; simp [labB, inB, *]; done) | (refine congrArg Bv ?_; simp [labB, inB, *]; omega) | (refine congrArg Bv ?_; simp_all [labB, inB]; done) | (refine congrArg Bv ?_; simp_all [labB, inB]; omega))) rfl (fun _ => trivial)
  refine aw_r [(0, .dec false)] [0, 3, 4] [] [.val (.int .u8 c), .val (.int .u8 c), Bv false] [] [¬ (c = 41)] hB ⟨h7, trivial⟩ ?_
  refine ae_then ?_
  refine aw_false rfl ?_
  refine aw_seq ?_
  by_cases h8 : c = 46
  ·refine aw_r [(0, .dec true)] [0, 3, 4] [] [.val (.int .u8 c), .val (.int .u8 c), Bv true] [] [c = 46] hB ⟨h8, trivial⟩ ?_
   refine ae_then ?_
   refine aw_true rfl ?_
   refine aw_skip ?_
   refine ae_then ?_
   refine aw_true rfl ?_
   refine aR [] [2] [] [Bv true] [] [] hB trivial ?_
   refine aw_ret ?_
   refine ae_ret_block (ae_ret_then ?_)
   refine ae_ret hB (Bv true) (by kernel_rfl) (.inl (by first | rfl | (refine congrArg Bv ?_; simp [labB, inB, *]; done) | (refine congrArg Bv ?_; simp [labB, inB, *]; omega) | (refine congrArg Bv ?_; simp_all [labB, inB]; done) | (refine congrArg Bv ?_; simp_all [labB, inB]; omega))) rfl (fun _ => trivial)
  refine aw_r [(0, .dec false)] [0, 3, 4] [] [.val (.int .u8 c), .val (.int .u8 c), Bv false] [] [¬ (c = 46)] hB ⟨h8, trivial⟩ ?_
  refine ae_then ?_
  refine aw_false rfl ?_
  by_cases h9 : c = 44
  ·refine aw_r [(0, .dec true)] [0, 4] [] [.val (.int .u8 c), Bv true] [] [c = 44] hB ⟨h9, trivial⟩ ?_
   refine ae_then ?_
   refine aw_true rfl ?_
   refine aR [] [2] [] [Bv true] [] [] hB trivial ?_
   refine aw_ret ?_
   refine ae_ret_block (ae_ret_then ?_)
   refine ae_ret hB (Bv true) (by kernel_rfl) (.inl (by first | rfl | (refine congrArg Bv ?_; simp [labB, inB, *]; done) | (refine congrArg Bv ?_; simp [labB, inB, *]; omega) | (refine congrArg Bv ?_; simp_all [labB, inB]; done) | (refine congrArg Bv ?_; simp_all [labB, inB]; omega))) rfl (fun _ => trivial)
  refine aw_r [(0, .dec false)] [0, 4] [] [.val (.int .u8 c), Bv false] [] [¬ (c = 44)] hB ⟨h9, trivial⟩ ?_
  refine ae_then ?_
  refine aw_false rfl ?_
  refine aw_skip ?_
  refine ae_block 0 ?_
  refine ae_then ?_
  refine aw_seq ?_
  rcases Bool.eq_false_or_eq_true (inB c 97 122) with h10 | h10
  ·refine aw_r [(1, .call [(true, .any)] true (Bv true))] [2] [] [Bv true] [] [Con Try.prog 79 [.val (.int .u8 c)] true (Bv true) ∧ True] hB ⟨⟨(con_bool h10 (l01Small_ok c)), trivial⟩, trivial⟩ ?_
   refine ae_then ?_
   refine aw_ret ?_
   refine ae_ret hB (Bv true) (by kernel_rfl) (.inl (by first | rfl | (refine congrArg Bv ?_; simp [labB, inB, *]; done) | (refine congrArg Bv ?_; simp [labB, inB, *]; omega) | (refine congrArg Bv ?_; simp_all [labB, inB]; done) | (refine congrArg Bv ?_; simp_all [labB, inB]; omega))) rfl (fun _ => trivial)
  by_cases h11 : 48 ≤ c
  ·refine aw_r [(1, .call [(true, .any)] true (Bv false)), (4, .dec true)] [2] [] [Bv (decide (c ≤ 57))] [] [Con Try.prog 79 [.val (.int .u8 c)] true (Bv false) ∧ True, 48 ≤ c] hB ⟨⟨(con_bool h10 (l01Small_ok c)), trivial⟩, h11, trivial⟩ ?_
   refine ae_then ?_
   refine aw_ret ?_
   refine ae_ret hB (Bv (decide (c ≤ 57))) (by kernel_rfl) (.inl (by first | rfl | (refine congrArg Bv ?_; simp [labB, inB, *]; done) | (refine congrArg Bv ?_; simp [labB, inB, *]; omega) | (refine congrArg Bv ?_; simp_all [labB, inB]; done) | (refine congrArg Bv ?_; simp_all [labB, inB]; omega))) rfl (fun _ => trivial)
  refine aw_r [(1, .call [(true, .any)] true (Bv false)), (4, .dec false)] [2] [] [Bv false] [] [Con Try.prog 79 [.val (.int .u8 c)] true (Bv false) ∧ True, ¬ (48 ≤ c)] hB ⟨⟨(con_bool h10 (l01Small_ok c)), trivial⟩, h11, trivial⟩ ?_
  refine ae_then ?_
  refine aw_ret ?_
  refine ae_ret hB (Bv false) (by kernel_rfl) (.inl (by first | rfl | (refine congrArg Bv ?_; simp [labB, inB, *]; done) | (refine congrArg Bv ?_; simp [labB, inB, *]; omega) | (refine congrArg Bv ?_; simp_all [labB, inB]; done) | (refine congrArg Bv ?_; simp_all [labB, inB]; omega))) rfl (fun _ => trivial)


-- spec.IsLabel
theorem specIsLabel_ok (s : ByteArray) (ok : s.size ≤ 9223372036854775807) : Con Try.prog 59 [Sv s] true (Bv (okLabel s)) := by
  refine fn_ok (fn := Try.f59) (nt := 11) Try.func59 rfl rfl rfl rfl (by simp [taggedL, tagged]) fun B hB => ?_
  refine aR [] [0] [] [Sv s] [] [] hB trivial ?_
  refine aw_seq ?_
  by_cases h1 : (s.size : Int) = 1
  ·refine aw_r [(2, .dec true), (6, .call [(true, .any)] true (Bv (labB (bAt s 0))))] [2] [] [Bv (labB (bAt s 0))] [] [(s.size : Int) = 1, (0 : Int) ≤ 0 ∧ 0 < (s.size : Int), Con Try.prog 70 [.val (.int .u8 (bAt s 0))] true (Bv (labB (bAt s 0))) ∧ True] hB ⟨h1, ⟨(by omega), (by omega)⟩, ⟨(l11Label_ok (bAt s 0)), trivial⟩, trivial⟩ ?_
   refine ae_then ?_
   refine aw_ret ?_
   refine ae_ret hB (Bv (labB (bAt s 0))) (by kernel_rfl) (.inl (by first | rfl | (refine congrArg Bv ?_; simp [okLabel, *]; done) | (refine congrArg Bv ?_; simp [okLabel, *]; omega) | (refine congrArg Bv ?_; simp_all [okLabel]; done) | (refine congrArg Bv ?_; simp_all [okLabel]; omega))) rfl (fun _ => trivial)
  refine aw_r [(2, .dec false)] [2] [] [Bv false] [] [¬ ((s.size : Int) = 1)] hB ⟨h1, trivial⟩ ?_
  refine ae_then ?_
  refine aw_ret ?_
  refine ae_ret hB (Bv false) (by kernel_rfl) (.inl (by first | rfl | (refine congrArg Bv ?_; simp [okLabel, *]; done) | (refine congrArg Bv ?_; simp [okLabel, *]; omega) | (refine congrArg Bv ?_; simp_all [okLabel]; done) | (refine congrArg Bv ?_; simp_all [okLabel]; omega))) rfl (fun _ => trivial)


-- spec.l00In
theorem l00In_ok (n : Int) (low : Int) (high : Int) : Con Try.prog 39 [I n, I low, I high] true (Bv (inB n low high)) := by
  refine fn_ok (fn := Try.f39) (nt := 15) Try.func39 rfl rfl rfl rfl (by simp [taggedL, tagged]) fun B hB => ?_
  refine aR [] [0, 1, 2] [] [I n, I low, I high] [] [] hB trivial ?_
  refine aw_seq ?_
  by_cases h1 : low ≤ n
  ·refine aw_r [(2, .dec true)] [6] [] [Bv (decide (n ≤ high))] [] [low ≤ n] hB ⟨h1, trivial⟩ ?_
   refine ae_then ?_
   refine aw_ret ?_
   refine ae_ret hB (Bv (decide (n ≤ high))) (by kernel_rfl) (.inl (by first | rfl | (refine congrArg Bv ?_; simp [inB, *]; done) | (refine congrArg Bv ?_; simp [inB, *]; omega) | (refine congrArg Bv ?_; simp_all [inB]; done) | (refine congrArg Bv ?_; simp_all [inB]; omega))) rfl (fun _ => trivial)
  refine aw_r [(2, .dec false)] [6] [] [Bv false] [] [¬ (low ≤ n)] hB ⟨h1, trivial⟩ ?_
  refine ae_then ?_
  refine aw_ret ?_
  refine ae_ret hB (Bv false) (by kernel_rfl) (.inl (by first | rfl | (refine congrArg Bv ?_; simp [inB, *]; done) | (refine congrArg Bv ?_; simp [inB, *]; omega) | (refine congrArg Bv ?_; simp_all [inB]; done) | (refine congrArg Bv ?_; simp_all [inB]; omega))) rfl (fun _ => trivial)


-- spec.l09Feat
theorem l09Feat_ok (f : Feat) : Con Try.prog 71 [agFeat f] true (Bv (okF f)) := by
  refine fn_ok (fn := Try.f71) (nt := 16) Try.func71 rfl rfl rfl rfl (by simp [taggedL, tagged]) fun B hB => ?_
  refine aR [(0, .new 1)] [1] [1] [.ref 1 0] [some (bxFeat f)] [] hB trivial ?_
  refine aw_seq ?_
  rcases Bool.eq_false_or_eq_true (inB f.X 0 255) with h1 | h1
  ·rcases Bool.eq_false_or_eq_true (inB f.Y 0 255) with h2 | h2
   ·refine aw_r [(2, .call [(true, .any), (true, .any), (true, .any)] true (Bv true)), (6, .call [(true, .any), (true, .any), (true, .any)] true (Bv true)), (11, .call [(true, .any), (true, .any), (true, .any)] true (Bv (inB f.D 0 7)))] [2] [] [Bv (inB f.D 0 7)] [] [Con Try.prog 39 [I f.X, I 0, I 255] true (Bv true) ∧ True, Con Try.prog 39 [I f.Y, I 0, I 255] true (Bv true) ∧ True, Con Try.prog 39 [I f.D, I 0, I 7] true (Bv (inB f.D 0 7)) ∧ True] hB ⟨⟨(con_bool h1 (l00In_ok f.X 0 255)), trivial⟩, ⟨(con_bool h2 (l00In_ok f.Y 0 255)), trivial⟩, ⟨(l00In_ok f.D 0 7), trivial⟩, trivial⟩ ?_
    refine ae_then ?_
    refine aw_ret ?_
    refine ae_ret hB (Bv (inB f.D 0 7)) (by kernel_rfl) (.inl (by first | rfl | (refine congrArg Bv ?_; simp [okF, *]; done) | (refine congrArg Bv ?_; simp [okF, *]; omega) | (refine congrArg Bv ?_; simp_all [okF]; done) | (refine congrArg Bv ?_; simp_all [okF]; omega))) rfl (fun _ => trivial)
   refine aw_r [(2, .call [(true, .any), (true, .any), (true, .any)] true (Bv true)), (6, .call [(true, .any), (true, .any), (true, .any)] true (Bv false))] [2] [] [Bv false] [] [Con Try.prog 39 [I f.X, I 0, I 255] true (Bv true) ∧ True, Con Try.prog 39 [I f.Y, I 0, I 255] true (Bv false) ∧ True] hB ⟨⟨(con_bool h1 (l00In_ok f.X 0 255)), trivial⟩, ⟨(con_bool h2 (l00In_ok f.Y 0 255)), trivial⟩, trivial⟩ ?_
   refine ae_then ?_
   refine aw_ret ?_
   refine ae_ret hB (Bv false) (by kernel_rfl) (.inl (by first | rfl | (refine congrArg Bv ?_; simp [okF, *]; done) | (refine congrArg Bv ?_; simp [okF, *]; omega) | (refine congrArg Bv ?_; simp_all [okF]; done) | (refine congrArg Bv ?_; simp_all [okF]; omega))) rfl (fun _ => trivial)
  refine aw_r [(2, .call [(true, .any), (true, .any), (true, .any)] true (Bv false))] [2] [] [Bv false] [] [Con Try.prog 39 [I f.X, I 0, I 255] true (Bv false) ∧ True] hB ⟨⟨(con_bool h1 (l00In_ok f.X 0 255)), trivial⟩, trivial⟩ ?_
  refine ae_then ?_
  refine aw_ret ?_
  refine ae_ret hB (Bv false) (by kernel_rfl) (.inl (by first | rfl | (refine congrArg Bv ?_; simp [okF, *]; done) | (refine congrArg Bv ?_; simp [okF, *]; omega) | (refine congrArg Bv ?_; simp_all [okF]; done) | (refine congrArg Bv ?_; simp_all [okF]; omega))) rfl (fun _ => trivial)


-- spec.l09Ok
theorem l09Ok_ok (list : List Feat) : Con Try.prog 60 [slFeat false list] true (Bv (okFeats list 72)) := by
  refine fn_ok (fn := Try.f60) (nt := 19) Try.func60 rfl rfl rfl rfl (by simp [taggedL, tagged, tagFeat]) fun B hB => ?_
  refine aw_lens (x := slFeat false list) 0 rfl (fun len_list => ?_)
  simp [LenOK, LenL, cFeat, fFeat, slFeat] at len_list
  refine aR [] [0] [] [slFeat false list] [] [] hB trivial ?_
  refine aw_seq ?_
  refine aR [] [0, 3] [] [slFeat false list, I 0] [] [] hB trivial ?_
  refine aw_block ?_
  refine aw_loop (fun gn gσ => ∃ (i : Int), gn = ((list.length : Int) - i).toNat ∧ (0 ≤ i ∧ i ≤ (list.length : Int)) ∧ (∀ j : Nat, (j : Int) < i → okF (at_ list j) = true) ∧ gσ = mkS [(0, slFeat false list), (3, I i)] []) (((list.length : Int) - 0).toNat) ⟨0, rfl, (by omega), (by intro j hj; omega), rfl⟩ (fun gn gσ hI => ?_)
  obtain ⟨i, rfl, hi0, hall0, rfl⟩ := hI
  refine aw_seq ?_
  refine aw_seq ?_
  by_cases h1 : i < (list.length : Int)
  ·have hi : i.toNat < list.length := by omega
   refine aw_r [(3, .dec true)] [0, 3, 7] [] [slFeat false list, I i, Bv true] [] [i < (list.length : Int)] hB ⟨h1, trivial⟩ ?_
   refine ae_then ?_
   refine aw_true rfl ?_
   refine aw_skip ?_
   refine ae_then ?_
   refine aw_seq ?_
   refine aw_block ?_
   refine aw_seq ?_
   rcases Bool.eq_false_or_eq_true (okF (at_ list i.toNat)) with h2 | h2
   ·refine aw_r [(4, .call [(true, .any)] true (Bv true))] [0, 3, 15] [] [slFeat false list, I i, Bv false] [] [(0 : Int) ≤ i ∧ i < (list.length : Int), Con Try.prog 71 [agFeat (at_ list i.toNat)] true (Bv true) ∧ True] hB ⟨⟨(by omega), (by omega)⟩, ⟨(con_bool h2 (l09Feat_ok (at_ list i.toNat))), trivial⟩, trivial⟩ ?_
    refine ae_then ?_
    refine aw_false rfl ?_
    refine aw_skip ?_
    refine ae_block 1 ?_
    refine ae_then ?_
    refine aw_r [] [0, 3] [] [slFeat false list, I (i + 1)] [] [inR .i64 (i + 1)] hB ⟨(inR_i64 (by omega) (by omega)), trivial⟩ ?_
    exact ae_again _ (by omega) ⟨(i + 1), rfl, (by omega), (by intro j hj; by_cases ej : j = i.toNat; (subst ej; first | assumption | exact hok); exact hall0 j (by omega)), rfl⟩
   have hall : allN list.length (fun j => okF (at_ list j)) = false := allN_not hi h2
   refine aw_r [(4, .call [(true, .any)] true (Bv false))] [0, 3, 15] [] [slFeat false list, I i, Bv true] [] [(0 : Int) ≤ i ∧ i < (list.length : Int), Con Try.prog 71 [agFeat (at_ list i.toNat)] true (Bv false) ∧ True] hB ⟨⟨(by omega), (by omega)⟩, ⟨(con_bool h2 (l09Feat_ok (at_ list i.toNat))), trivial⟩, trivial⟩ ?_
   refine ae_then ?_
   refine aw_true rfl ?_
   refine aR [] [2] [] [Bv false] [] [] hB trivial ?_
   refine aw_ret ?_
   refine ae_ret_block (ae_ret_then (ae_ret_then (ae_ret_block (ae_ret_then ?_))))
   refine ae_ret hB (Bv false) (by kernel_rfl) (.inl (by first | rfl | (refine congrArg Bv ?_; simp [okFeats, inB, *]; done) | (refine congrArg Bv ?_; simp [okFeats, inB, *]; omega) | (refine congrArg Bv ?_; simp_all [okFeats, inB]; done) | (refine congrArg Bv ?_; simp_all [okFeats, inB]; omega))) rfl (fun _ => trivial)
  have hall : allN list.length (fun j => okF (at_ list j)) = true := allN_at (fun j hj => hall0 j (by omega))
  refine aw_r [(3, .dec false)] [0, 3, 7] [] [slFeat false list, I i, Bv false] [] [¬ (i < (list.length : Int))] hB ⟨h1, trivial⟩ ?_
  refine ae_then ?_
  refine aw_false rfl ?_
  refine aw_exit ?_
  refine ae_exit_then ?_
  refine ae_exit_then ?_
  refine ae_exit_same ?_
  refine ae_then ?_
  refine aR [(2, .call [(true, .any), (true, .any), (true, .any)] true (Bv (inB (list.length : Int) 1 72)))] [2] [] [Bv (inB (list.length : Int) 1 72)] [] [Con Try.prog 39 [I (list.length : Int), I 1, I 72] true (Bv (inB (list.length : Int) 1 72)) ∧ True] hB ⟨⟨(l00In_ok (list.length : Int) 1 72), trivial⟩, trivial⟩ ?_
  refine aw_ret ?_
  refine ae_ret hB (Bv (inB (list.length : Int) 1 72)) (by kernel_rfl) (.inl (by first | rfl | (refine congrArg Bv ?_; simp [okFeats, inB, *]; done) | (refine congrArg Bv ?_; simp [okFeats, inB, *]; omega) | (refine congrArg Bv ?_; simp_all [okFeats, inB]; done) | (refine congrArg Bv ?_; simp_all [okFeats, inB]; omega))) rfl (fun _ => trivial)


-- spec.l09Size
theorem l09Size_ok (n : Int) (hn : -9223372036854775807 ≤ n ∧ n ≤ 9223372036854775807) : Con Try.prog 77 [I n] true (I (n.natAbs : Int)) := by
  refine fn_ok (fn := Try.f77) (nt := 8) Try.func77 rfl rfl rfl rfl (by simp [taggedL, tagged]) fun B hB => ?_
  refine aR [] [0] [] [I n] [] [] hB trivial ?_
  refine aw_seq ?_
  refine aw_seq ?_
  by_cases h1 : n < 0
  ·refine aw_r [(1, .dec true)] [0, 4] [] [I n, Bv true] [] [n < 0] hB ⟨h1, trivial⟩ ?_
   refine ae_then ?_
   refine aw_true rfl ?_
   refine aR [] [2] [] [I (-n)] [] [inR .i64 (-n)] hB ⟨(inR_i64 (by omega) (by omega)), trivial⟩ ?_
   refine aw_ret ?_
   refine ae_ret_then ?_
   refine ae_ret hB (I (-n)) (by kernel_rfl) (.inl (by refine congrArg I ?_; omega)) rfl (fun _ => trivial)
  refine aw_r [(1, .dec false)] [0, 4] [] [I n, Bv false] [] [¬ (n < 0)] hB ⟨h1, trivial⟩ ?_
  refine ae_then ?_
  refine aw_false rfl ?_
  refine aw_skip ?_
  refine ae_then ?_
  refine aR [] [2] [] [I n] [] [] hB trivial ?_
  refine aw_ret ?_
  refine ae_ret hB (I n) (by kernel_rfl) (.inl (by refine congrArg I ?_; omega)) rfl (fun _ => trivial)


-- spec.l24Near
theorem l24Near_ok (a : Feat) (b : Feat) (ha : okF a = true) (hb : okF b = true) : Con Try.prog 66 [agFeat a, agFeat b] true (Bv (nearB a b)) := by
  have ha' := okF_iff.1 ha
  have hb' := okF_iff.1 hb
  refine fn_ok (fn := Try.f66) (nt := 28) Try.func66 rfl rfl rfl rfl (by simp [taggedL, tagged]) fun B hB => ?_
  refine aR [(0, .new 2), (1, .new 3)] [2, 3] [2, 3] [.ref 2 0, .ref 3 0] [some (bxFeat a), some (bxFeat b)] [] hB trivial ?_
  refine aw_seq ?_
  by_cases h1 : a.D = b.D
  ·by_cases h2 : ((a.X - b.X).natAbs : Int) ≤ 40
   ·refine aw_r [(4, .dec true), (11, .call [(true, .any)] true (I ((a.X - b.X).natAbs : Int))), (12, .dec true), (20, .call [(true, .any)] true (I ((a.Y - b.Y).natAbs : Int)))] [4] [] [Bv (decide (((a.Y - b.Y).natAbs : Int) ≤ 40))] [] [a.D = b.D, inR .i64 (a.X - b.X), Con Try.prog 77 [I (a.X - b.X)] true (I ((a.X - b.X).natAbs : Int)) ∧ True, ((a.X - b.X).natAbs : Int) ≤ 40, inR .i64 (a.Y - b.Y), Con Try.prog 77 [I (a.Y - b.Y)] true (I ((a.Y - b.Y).natAbs : Int)) ∧ True] hB ⟨h1, (inR_i64 (by omega) (by omega)), ⟨(l09Size_ok (a.X - b.X) (by omega)), trivial⟩, h2, (inR_i64 (by omega) (by omega)), ⟨(l09Size_ok (a.Y - b.Y) (by omega)), trivial⟩, trivial⟩ ?_
    refine ae_then ?_
    refine aw_ret ?_
    refine ae_ret hB (Bv (decide (((a.Y - b.Y).natAbs : Int) ≤ 40))) (by kernel_rfl) (.inl (by first | rfl | (refine congrArg Bv ?_; simp [nearB, *]; done) | (refine congrArg Bv ?_; simp [nearB, *]; omega) | (refine congrArg Bv ?_; simp_all [nearB]; done) | (refine congrArg Bv ?_; simp_all [nearB]; omega))) rfl (fun _ => trivial)
   refine aw_r [(4, .dec true), (11, .call [(true, .any)] true (I ((a.X - b.X).natAbs : Int))), (12, .dec false)] [4] [] [Bv false] [] [a.D = b.D, inR .i64 (a.X - b.X), Con Try.prog 77 [I (a.X - b.X)] true (I ((a.X - b.X).natAbs : Int)) ∧ True, ¬ (((a.X - b.X).natAbs : Int) ≤ 40)] hB ⟨h1, (inR_i64 (by omega) (by omega)), ⟨(l09Size_ok (a.X - b.X) (by omega)), trivial⟩, h2, trivial⟩ ?_
   refine ae_then ?_
   refine aw_ret ?_
   refine ae_ret hB (Bv false) (by kernel_rfl) (.inl (by first | rfl | (refine congrArg Bv ?_; simp [nearB, *]; done) | (refine congrArg Bv ?_; simp [nearB, *]; omega) | (refine congrArg Bv ?_; simp_all [nearB]; done) | (refine congrArg Bv ?_; simp_all [nearB]; omega))) rfl (fun _ => trivial)
  refine aw_r [(4, .dec false)] [4] [] [Bv false] [] [¬ (a.D = b.D)] hB ⟨h1, trivial⟩ ?_
  refine ae_then ?_
  refine aw_ret ?_
  refine ae_ret hB (Bv false) (by kernel_rfl) (.inl (by first | rfl | (refine congrArg Bv ?_; simp [nearB, *]; done) | (refine congrArg Bv ?_; simp [nearB, *]; omega) | (refine congrArg Bv ?_; simp_all [nearB]; done) | (refine congrArg Bv ?_; simp_all [nearB]; omega))) rfl (fun _ => trivial)


-- spec.l24Ok
theorem l24Ok_ok (t : Trained) (ok : okTrained t) : Con Try.prog 52 [.ptr false [Sv t.Label, slFeat false t.Base, slFeat false t.Feats, I t.Count]] true (Bv (okTrained' t)) := by
  refine fn_ok (fn := Try.f52) (nt := 69) Try.func52 rfl rfl rfl rfl (by simp [taggedL, tagged, tagFeat]) fun B hB => ?_
  refine aw_lens (x := .ptr false [Sv t.Label, slFeat false t.Base, slFeat false t.Feats, I t.Count]) 0 rfl (fun len_t => ?_)
  simp [LenOK, LenL, cFeat, fFeat, slFeat] at len_t
  refine aR [] [0] [] [.ptr false [Sv t.Label, slFeat false t.Base, slFeat false t.Feats, I t.Count]] [] [] hB trivial ?_
  refine aw_seq ?_
  refine aw_seq ?_
  rcases Bool.eq_false_or_eq_true (okLabel t.Label) with h1 | h1
  ·rcases Bool.eq_false_or_eq_true (okFeats t.Base 72) with h2 | h2
   ·rcases Bool.eq_false_or_eq_true (okFeats t.Feats 72) with h3 | h3
    ·by_cases h4 : (t.Base.length : Int) = (t.Feats.length : Int)
     ·refine aw_r [(4, .call [(true, .any)] true (Bv true)), (11, .call [(true, .any)] true (Bv true)), (19, .call [(true, .any)] true (Bv true)), (33, .dec false)] [0, 38] [] [.ptr false [Sv t.Label, slFeat false t.Base, slFeat false t.Feats, I t.Count], Bv false] [] [Con Try.prog 59 [Sv t.Label] true (Bv true) ∧ True, Con Try.prog 60 [slFeat false t.Base] true (Bv true) ∧ True, Con Try.prog 60 [slFeat false t.Feats] true (Bv true) ∧ True, ¬ ((t.Base.length : Int) ≠ (t.Feats.length : Int))] hB ⟨⟨(con_bool h1 (specIsLabel_ok t.Label ok)), trivial⟩, ⟨(con_bool h2 (l09Ok_ok t.Base)), trivial⟩, ⟨(con_bool h3 (l09Ok_ok t.Feats)), trivial⟩, (fun hq => hq h4), trivial⟩ ?_
      refine ae_then ?_
      refine aw_false rfl ?_
      refine aw_skip ?_
      refine ae_then ?_
      refine aw_seq ?_
      refine aR [] [0, 3] [] [.ptr false [Sv t.Label, slFeat false t.Base, slFeat false t.Feats, I t.Count], I 0] [] [] hB trivial ?_
      refine aw_block ?_
      refine aw_loop (fun gn gσ => ∃ (i : Int), gn = ((t.Base.length : Int) - i).toNat ∧ (0 ≤ i ∧ i ≤ (t.Base.length : Int)) ∧ (∀ j : Nat, (j : Int) < i → nearB (at_ t.Base j) (at_ t.Feats j) = true) ∧ gσ = mkS [(0, .ptr false [Sv t.Label, slFeat false t.Base, slFeat false t.Feats, I t.Count]), (3, I i)] []) (((t.Base.length : Int) - 0).toNat) ⟨0, rfl, (by omega), (by intro j hj; omega), rfl⟩ (fun gn gσ hI => ?_)
      obtain ⟨i, rfl, hir, hall0, rfl⟩ := hI
      refine aw_seq ?_
      refine aw_seq ?_
      by_cases h5 : i < (t.Base.length : Int)
      ·have hi : i.toNat < t.Base.length := by omega
       have hi0 : i.toNat < t.Feats.length := by omega
       refine aw_r [(6, .dec true)] [0, 3, 45] [] [.ptr false [Sv t.Label, slFeat false t.Base, slFeat false t.Feats, I t.Count], I i, Bv true] [] [i < (t.Base.length : Int)] hB ⟨h5, trivial⟩ ?_
       refine ae_then ?_
       refine aw_true rfl ?_
       refine aw_skip ?_
       refine ae_then ?_
       refine aw_seq ?_
       refine aw_block ?_
       refine aw_seq ?_
       rcases Bool.eq_false_or_eq_true (nearB (at_ t.Base i.toNat) (at_ t.Feats i.toNat)) with h6 | h6
       ·refine aw_r [(14, .call [(true, .any), (true, .any)] true (Bv true))] [0, 3, 63] [] [.ptr false [Sv t.Label, slFeat false t.Base, slFeat false t.Feats, I t.Count], I i, Bv false] [] [(0 : Int) ≤ i ∧ i < (t.Base.length : Int), (0 : Int) ≤ i ∧ i < (t.Feats.length : Int), Con Try.prog 66 [agFeat (at_ t.Base i.toNat), agFeat (at_ t.Feats i.toNat)] true (Bv true) ∧ True] hB ⟨⟨(by omega), (by omega)⟩, ⟨(by omega), (by omega)⟩, ⟨(con_bool h6 (l24Near_ok (at_ t.Base i.toNat) (at_ t.Feats i.toNat) (okFeats_at (by assumption) hi) (okFeats_at (by assumption) hi0))), trivial⟩, trivial⟩ ?_
        refine ae_then ?_
        refine aw_false rfl ?_
        refine aw_skip ?_
        refine ae_block 1 ?_
        refine ae_then ?_
        refine aw_r [] [0, 3] [] [.ptr false [Sv t.Label, slFeat false t.Base, slFeat false t.Feats, I t.Count], I (i + 1)] [] [inR .i64 (i + 1)] hB ⟨(inR_i64 (by omega) (by omega)), trivial⟩ ?_
        exact ae_again _ (by omega) ⟨(i + 1), rfl, (by omega), (by intro j hj; by_cases ej : j = i.toNat; (subst ej; first | assumption | exact hok); exact hall0 j (by omega)), rfl⟩
       have hall : allN t.Base.length (fun j => nearB (at_ t.Base j) (at_ t.Feats j)) = false := allN_not hi h6
       refine aw_r [(14, .call [(true, .any), (true, .any)] true (Bv false))] [0, 3, 63] [] [.ptr false [Sv t.Label, slFeat false t.Base, slFeat false t.Feats, I t.Count], I i, Bv true] [] [(0 : Int) ≤ i ∧ i < (t.Base.length : Int), (0 : Int) ≤ i ∧ i < (t.Feats.length : Int), Con Try.prog 66 [agFeat (at_ t.Base i.toNat), agFeat (at_ t.Feats i.toNat)] true (Bv false) ∧ True] hB ⟨⟨(by omega), (by omega)⟩, ⟨(by omega), (by omega)⟩, ⟨(con_bool h6 (l24Near_ok (at_ t.Base i.toNat) (at_ t.Feats i.toNat) (okFeats_at (by assumption) hi) (okFeats_at (by assumption) hi0))), trivial⟩, trivial⟩ ?_
       refine ae_then ?_
       refine aw_true rfl ?_
       refine aR [] [2] [] [Bv false] [] [] hB trivial ?_
       refine aw_ret ?_
       refine ae_ret_block (ae_ret_then (ae_ret_then (ae_ret_block (ae_ret_then ?_))))
       refine ae_ret hB (Bv false) (by kernel_rfl) (.inl (by first | rfl | (refine congrArg Bv ?_; simp [okTrained', inB, *]; done) | (refine congrArg Bv ?_; simp [okTrained', inB, *]; omega) | (refine congrArg Bv ?_; simp_all [okTrained', inB]; done) | (refine congrArg Bv ?_; simp_all [okTrained', inB]; omega))) rfl (fun _ => trivial)
      have hall : allN t.Base.length (fun j => nearB (at_ t.Base j) (at_ t.Feats j)) = true := allN_at (fun j hj => hall0 j (by omega))
      refine aw_r [(6, .dec false)] [0, 3, 45] [] [.ptr false [Sv t.Label, slFeat false t.Base, slFeat false t.Feats, I t.Count], I i, Bv false] [] [¬ (i < (t.Base.length : Int))] hB ⟨h5, trivial⟩ ?_
      refine ae_then ?_
      refine aw_false rfl ?_
      refine aw_exit ?_
      refine ae_exit_then ?_
      refine ae_exit_then ?_
      refine ae_exit_same ?_
      refine ae_then ?_
      refine aR [(4, .call [(true, .any), (true, .any), (true, .any)] true (Bv (inB t.Count 0 100)))] [2] [] [Bv (inB t.Count 0 100)] [] [Con Try.prog 39 [I t.Count, I 0, I 100] true (Bv (inB t.Count 0 100)) ∧ True] hB ⟨⟨(l00In_ok t.Count 0 100), trivial⟩, trivial⟩ ?_
      refine aw_ret ?_
      refine ae_ret hB (Bv (inB t.Count 0 100)) (by kernel_rfl) (.inl (by first | rfl | (refine congrArg Bv ?_; simp [okTrained', inB, *]; done) | (refine congrArg Bv ?_; simp [okTrained', inB, *]; omega) | (refine congrArg Bv ?_; simp_all [okTrained', inB]; done) | (refine congrArg Bv ?_; simp_all [okTrained', inB]; omega))) rfl (fun _ => trivial)
     refine aw_r [(4, .call [(true, .any)] true (Bv true)), (11, .call [(true, .any)] true (Bv true)), (19, .call [(true, .any)] true (Bv true)), (33, .dec true)] [0, 38] [] [.ptr false [Sv t.Label, slFeat false t.Base, slFeat false t.Feats, I t.Count], Bv true] [] [Con Try.prog 59 [Sv t.Label] true (Bv true) ∧ True, Con Try.prog 60 [slFeat false t.Base] true (Bv true) ∧ True, Con Try.prog 60 [slFeat false t.Feats] true (Bv true) ∧ True, (t.Base.length : Int) ≠ (t.Feats.length : Int)] hB ⟨⟨(con_bool h1 (specIsLabel_ok t.Label ok)), trivial⟩, ⟨(con_bool h2 (l09Ok_ok t.Base)), trivial⟩, ⟨(con_bool h3 (l09Ok_ok t.Feats)), trivial⟩, h4, trivial⟩ ?_
     refine ae_then ?_
     refine aw_true rfl ?_
     refine aR [] [2] [] [Bv false] [] [] hB trivial ?_
     refine aw_ret ?_
     refine ae_ret_then ?_
     refine ae_ret hB (Bv false) (by kernel_rfl) (.inl (by first | rfl | (refine congrArg Bv ?_; simp [okTrained', inB, *]; done) | (refine congrArg Bv ?_; simp [okTrained', inB, *]; omega) | (refine congrArg Bv ?_; simp_all [okTrained', inB]; done) | (refine congrArg Bv ?_; simp_all [okTrained', inB]; omega))) rfl (fun _ => trivial)
    refine aw_r [(4, .call [(true, .any)] true (Bv true)), (11, .call [(true, .any)] true (Bv true)), (19, .call [(true, .any)] true (Bv false))] [0, 38] [] [.ptr false [Sv t.Label, slFeat false t.Base, slFeat false t.Feats, I t.Count], Bv true] [] [Con Try.prog 59 [Sv t.Label] true (Bv true) ∧ True, Con Try.prog 60 [slFeat false t.Base] true (Bv true) ∧ True, Con Try.prog 60 [slFeat false t.Feats] true (Bv false) ∧ True] hB ⟨⟨(con_bool h1 (specIsLabel_ok t.Label ok)), trivial⟩, ⟨(con_bool h2 (l09Ok_ok t.Base)), trivial⟩, ⟨(con_bool h3 (l09Ok_ok t.Feats)), trivial⟩, trivial⟩ ?_
    refine ae_then ?_
    refine aw_true rfl ?_
    refine aR [] [2] [] [Bv false] [] [] hB trivial ?_
    refine aw_ret ?_
    refine ae_ret_then ?_
    refine ae_ret hB (Bv false) (by kernel_rfl) (.inl (by first | rfl | (refine congrArg Bv ?_; simp [okTrained', inB, *]; done) | (refine congrArg Bv ?_; simp [okTrained', inB, *]; omega) | (refine congrArg Bv ?_; simp_all [okTrained', inB]; done) | (refine congrArg Bv ?_; simp_all [okTrained', inB]; omega))) rfl (fun _ => trivial)
   refine aw_r [(4, .call [(true, .any)] true (Bv true)), (11, .call [(true, .any)] true (Bv false))] [0, 38] [] [.ptr false [Sv t.Label, slFeat false t.Base, slFeat false t.Feats, I t.Count], Bv true] [] [Con Try.prog 59 [Sv t.Label] true (Bv true) ∧ True, Con Try.prog 60 [slFeat false t.Base] true (Bv false) ∧ True] hB ⟨⟨(con_bool h1 (specIsLabel_ok t.Label ok)), trivial⟩, ⟨(con_bool h2 (l09Ok_ok t.Base)), trivial⟩, trivial⟩ ?_
   refine ae_then ?_
   refine aw_true rfl ?_
   refine aR [] [2] [] [Bv false] [] [] hB trivial ?_
   refine aw_ret ?_
   refine ae_ret_then ?_
   refine ae_ret hB (Bv false) (by kernel_rfl) (.inl (by first | rfl | (refine congrArg Bv ?_; simp [okTrained', inB, *]; done) | (refine congrArg Bv ?_; simp [okTrained', inB, *]; omega) | (refine congrArg Bv ?_; simp_all [okTrained', inB]; done) | (refine congrArg Bv ?_; simp_all [okTrained', inB]; omega))) rfl (fun _ => trivial)
  refine aw_r [(4, .call [(true, .any)] true (Bv false))] [0, 38] [] [.ptr false [Sv t.Label, slFeat false t.Base, slFeat false t.Feats, I t.Count], Bv true] [] [Con Try.prog 59 [Sv t.Label] true (Bv false) ∧ True] hB ⟨⟨(con_bool h1 (specIsLabel_ok t.Label ok)), trivial⟩, trivial⟩ ?_
  refine ae_then ?_
  refine aw_true rfl ?_
  refine aR [] [2] [] [Bv false] [] [] hB trivial ?_
  refine aw_ret ?_
  refine ae_ret_then ?_
  refine ae_ret hB (Bv false) (by kernel_rfl) (.inl (by first | rfl | (refine congrArg Bv ?_; simp [okTrained', inB, *]; done) | (refine congrArg Bv ?_; simp [okTrained', inB, *]; omega) | (refine congrArg Bv ?_; simp_all [okTrained', inB]; done) | (refine congrArg Bv ?_; simp_all [okTrained', inB]; omega))) rfl (fun _ => trivial)


def okWriter' (w : Writer) : Bool := inB w.Band 0 72 && (decide ((w.Trained.length : Int) ≤ 40) && allN w.Trained.length (fun j => okTrained' (at_ w.Trained j)))

-- spec.l24Writer
theorem l24Writer_ok (w : Writer) (ok : okWriter w) : Con Try.prog 31 [.ptr false [I w.Band, slTrained false w.Trained]] true (Bv (okWriter' w)) := by
  refine fn_ok (fn := Try.f31) (nt := 34) Try.func31 rfl rfl rfl rfl (by simp [taggedL, tagged, tagTrained]) fun B hB => ?_
  refine aw_lens (x := .ptr false [I w.Band, slTrained false w.Trained]) 0 rfl (fun len_w => ?_)
  simp [LenOK, LenL, cFeat, cTrained, fFeat, fTrained, slFeat, slTrained] at len_w
  refine aR [] [0] [] [.ptr false [I w.Band, slTrained false w.Trained]] [] [] hB trivial ?_
  refine aw_seq ?_
  refine aR [] [0, 3] [] [.ptr false [I w.Band, slTrained false w.Trained], I 0] [] [] hB trivial ?_
  refine aw_block ?_
  refine aw_loop (fun gn gσ => ∃ (i : Int), gn = ((w.Trained.length : Int) - i).toNat ∧ (0 ≤ i ∧ i ≤ (w.Trained.length : Int)) ∧ (∀ j : Nat, (j : Int) < i → okTrained' (at_ w.Trained j) = true) ∧ gσ = mkS [(0, .ptr false [I w.Band, slTrained false w.Trained]), (3, I i)] []) (((w.Trained.length : Int) - 0).toNat) ⟨0, rfl, (by omega), (by intro j hj; omega), rfl⟩ (fun gn gσ hI => ?_)
  obtain ⟨i, rfl, hi0, hall0, rfl⟩ := hI
  refine aw_seq ?_
  refine aw_seq ?_
  by_cases h1 : i < (w.Trained.length : Int)
  ·have hi : i.toNat < w.Trained.length := by omega
   refine aw_r [(6, .dec true)] [0, 3, 10] [] [.ptr false [I w.Band, slTrained false w.Trained], I i, Bv true] [] [i < (w.Trained.length : Int)] hB ⟨h1, trivial⟩ ?_
   refine ae_then ?_
   refine aw_true rfl ?_
   refine aw_skip ?_
   refine ae_then ?_
   refine aw_seq ?_
   refine aw_block ?_
   refine aw_seq ?_
   rcases Bool.eq_false_or_eq_true (okTrained' (at_ w.Trained i.toNat)) with h2 | h2
   ·refine aw_r [(6, .call [(true, .any)] true (Bv true))] [0, 3, 20] [] [.ptr false [I w.Band, slTrained false w.Trained], I i, Bv false] [] [(0 : Int) ≤ i ∧ i < (w.Trained.length : Int), Con Try.prog 52 [.ptr false [Sv ((at_ w.Trained i.toNat).Label), slFeat false ((at_ w.Trained i.toNat).Base), slFeat false ((at_ w.Trained i.toNat).Feats), I ((at_ w.Trained i.toNat).Count)]] true (Bv true) ∧ True] hB ⟨⟨(by omega), (by omega)⟩, ⟨(con_bool h2 (l24Ok_ok (at_ w.Trained i.toNat) (ok _ (at_mem hi)))), trivial⟩, trivial⟩ ?_
    refine ae_then ?_
    refine aw_false rfl ?_
    refine aw_skip ?_
    refine ae_block 1 ?_
    refine ae_then ?_
    refine aw_r [] [0, 3] [] [.ptr false [I w.Band, slTrained false w.Trained], I (i + 1)] [] [inR .i64 (i + 1)] hB ⟨(inR_i64 (by omega) (by omega)), trivial⟩ ?_
    exact ae_again _ (by omega) ⟨(i + 1), rfl, (by omega), (by intro j hj; by_cases ej : j = i.toNat; (subst ej; first | assumption | exact hok); exact hall0 j (by omega)), rfl⟩
   have hall : allN w.Trained.length (fun j => okTrained' (at_ w.Trained j)) = false := allN_not hi h2
   refine aw_r [(6, .call [(true, .any)] true (Bv false))] [0, 3, 20] [] [.ptr false [I w.Band, slTrained false w.Trained], I i, Bv true] [] [(0 : Int) ≤ i ∧ i < (w.Trained.length : Int), Con Try.prog 52 [.ptr false [Sv ((at_ w.Trained i.toNat).Label), slFeat false ((at_ w.Trained i.toNat).Base), slFeat false ((at_ w.Trained i.toNat).Feats), I ((at_ w.Trained i.toNat).Count)]] true (Bv false) ∧ True] hB ⟨⟨(by omega), (by omega)⟩, ⟨(con_bool h2 (l24Ok_ok (at_ w.Trained i.toNat) (ok _ (at_mem hi)))), trivial⟩, trivial⟩ ?_
   refine ae_then ?_
   refine aw_true rfl ?_
   refine aR [] [2] [] [Bv false] [] [] hB trivial ?_
   refine aw_ret ?_
   refine ae_ret_block (ae_ret_then (ae_ret_then (ae_ret_block (ae_ret_then ?_))))
   refine ae_ret hB (Bv false) (by kernel_rfl) (.inl (by first | rfl | (refine congrArg Bv ?_; simp [okWriter', inB, *]; done) | (refine congrArg Bv ?_; simp [okWriter', inB, *]; omega) | (refine congrArg Bv ?_; simp_all [okWriter', inB]; done) | (refine congrArg Bv ?_; simp_all [okWriter', inB]; omega))) rfl (fun _ => trivial)
  have hall : allN w.Trained.length (fun j => okTrained' (at_ w.Trained j)) = true := allN_at (fun j hj => hall0 j (by omega))
  refine aw_r [(6, .dec false)] [0, 3, 10] [] [.ptr false [I w.Band, slTrained false w.Trained], I i, Bv false] [] [¬ (i < (w.Trained.length : Int))] hB ⟨h1, trivial⟩ ?_
  refine ae_then ?_
  refine aw_false rfl ?_
  refine aw_exit ?_
  refine ae_exit_then ?_
  refine ae_exit_then ?_
  refine ae_exit_same ?_
  refine ae_then ?_
  refine aw_seq ?_
  rcases Bool.eq_false_or_eq_true (inB w.Band 0 72) with h3 | h3
  ·refine aw_r [(4, .call [(true, .any), (true, .any), (true, .any)] true (Bv true))] [2] [] [Bv (decide ((w.Trained.length : Int) ≤ 40))] [] [Con Try.prog 39 [I w.Band, I 0, I 72] true (Bv true) ∧ True] hB ⟨⟨(con_bool h3 (l00In_ok w.Band 0 72)), trivial⟩, trivial⟩ ?_
   refine ae_then ?_
   refine aw_ret ?_
   refine ae_ret hB (Bv (decide ((w.Trained.length : Int) ≤ 40))) (by kernel_rfl) (.inl (by first | rfl | (refine congrArg Bv ?_; simp [okWriter', inB, *]; done) | (refine congrArg Bv ?_; simp [okWriter', inB, *]; omega) | (refine congrArg Bv ?_; simp_all [okWriter', inB]; done) | (refine congrArg Bv ?_; simp_all [okWriter', inB]; omega))) rfl (fun _ => trivial)
  refine aw_r [(4, .call [(true, .any), (true, .any), (true, .any)] true (Bv false))] [2] [] [Bv false] [] [Con Try.prog 39 [I w.Band, I 0, I 72] true (Bv false) ∧ True] hB ⟨⟨(con_bool h3 (l00In_ok w.Band 0 72)), trivial⟩, trivial⟩ ?_
  refine ae_then ?_
  refine aw_ret ?_
  refine ae_ret hB (Bv false) (by kernel_rfl) (.inl (by first | rfl | (refine congrArg Bv ?_; simp [okWriter', inB, *]; done) | (refine congrArg Bv ?_; simp [okWriter', inB, *]; omega) | (refine congrArg Bv ?_; simp_all [okWriter', inB]; done) | (refine congrArg Bv ?_; simp_all [okWriter', inB]; omega))) rfl (fun _ => trivial)


-- spec.l24Copy
theorem l24Copy_ok (list : List Feat) (hl : list.length ≤ 72) : Con Try.prog 53 [slFeat false list] true (slFeat true list) := by
  refine fn_ok (fn := Try.f53) (nt := 6) Try.func53 rfl rfl rfl rfl (by simp [taggedL, tagged, tagFeat]) fun B hB => ?_
  refine aw_lens (x := slFeat false list) 0 rfl (fun len_list => ?_)
  simp [LenOK, LenL, cFeat, fFeat, slFeat] at len_list
  refine aR [] [0] [] [slFeat false list] [] [] hB trivial ?_
  refine aR [(0, .new 3), (2, .new 5)] [2] [5] [.arr 5] [some (.arr 3 (0 + list.length) (catF 0 (litF [] 3) (fFeat list)))] [(0 + list.length) * 24 ≤ 140737488355328] hB ⟨(by omega), trivial⟩ ?_
  refine aw_ret ?_
  refine ae_ret hB (.arr 5) (by kernel_rfl) (.inr ⟨(fun _ => rfl), rfl, (by first | rfl | (simp; done) | (simp; omega) | omega), fun i_ hi_ => .inl (cat_nil i_)⟩) rfl (fun _ => (tagFeat true _))


def okStore' (s : Store) : Bool := inB s.Band 0 72 && (decide ((s.Templates.length : Int) ≤ 40) && allN s.Templates.length (fun j => okTm (at_ s.Templates j)))
theorem okStore_iff {s : Store} : okStore' s = true ↔ (0 ≤ s.Band ∧ s.Band ≤ 72) ∧ s.Templates.length ≤ 40 ∧ ∀ j, j < s.Templates.length → okTm (at_ s.Templates j) = true := by
  simp only [okStore', Bool.and_eq_true, decide_eq_true_eq, inB, allN_iff]
  constructor
  · rintro ⟨a, b, c⟩; exact ⟨a, by omega, c⟩
  · rintro ⟨a, b, c⟩; exact ⟨a, by omega, c⟩

def stT (t : Template) : Trained := ⟨t.Label, t.Feats, t.Feats, 0⟩
def wsR (s : Store) : Writer × Int := if okStore' s = true then (⟨s.Band, s.Templates.map stT⟩, 0) else (⟨0, []⟩, 1)
theorem wsR_yes {s : Store} (h : okStore' s = true) : wsR s = (⟨s.Band, s.Templates.map stT⟩, 0) := if_pos h
theorem wsR_no {s : Store} (h : okStore' s = false) : wsR s = (⟨0, []⟩, 1) := by simp [wsR, h]
theorem map_take {α β : Type} [Inhabited α] (f : α → β) {l : List α} {i : Nat} (hi : i < l.length) : (l.take (i + 1)).map f = (l.take i).map f ++ [f (at_ l i)] := by rw [take_snoc' hi, List.map_append]; rfl

def tmT (t : Trained) : Template := ⟨t.Label, t.Feats⟩
def swR (w : Writer) : Store × Int := if okWriter' w = true then (⟨w.Band, w.Trained.map tmT⟩, 0) else (⟨0, []⟩, 1)
theorem swR_yes {w : Writer} (h : okWriter' w = true) : swR w = (⟨w.Band, w.Trained.map tmT⟩, 0) := if_pos h
theorem swR_no {w : Writer} (h : okWriter' w = false) : swR w = (⟨0, []⟩, 1) := by simp [swR, h]
theorem okWr_len {w : Writer} (h : okWriter' w = true) : w.Trained.length ≤ 40 ∧ ∀ j, j < w.Trained.length → (at_ w.Trained j).Feats.length ≤ 72 := by
  simp only [okWriter', Bool.and_eq_true, decide_eq_true_eq, allN_iff] at h
  refine ⟨by omega, fun j hj => ?_⟩
  have := h.2.2 j hj
  simp only [okTrained', okFeats, Bool.and_eq_true, decide_eq_true_eq] at this
  omega

-- spec.l24Store
theorem l24Store_ok (w : Writer) (hok : w.Trained.length ≤ 40 ∧ ∀ j, j < w.Trained.length → (at_ w.Trained j).Feats.length ≤ 72) : ∃ (v : Store), (v = Store.mk w.Band (w.Trained.map tmT)) ∧ Con Try.prog 32 [.ptr false [I w.Band, slTrained false w.Trained]] true (agStoreT v) := by
  have hh : ∃ r : Store, ((r = Store.mk w.Band (w.Trained.map tmT)) ∧ (True)) ∧ CallOK Try.prog 32 [.ptr false [I w.Band, slTrained false w.Trained]] (lookO []) true (agStoreT r) (lookO []) := by
    refine fn_okX (Φ := fun r : Store => (r = Store.mk w.Band (w.Trained.map tmT)) ∧ (True)) [] (fun r => []) (fn := Try.f32) (nt := 43) Try.func32 rfl rfl (args := [.ptr false [I w.Band, slTrained false w.Trained]]) rfl (allcons (.inl ⟨rfl, by simp [tagged, taggedL, tagTrained]⟩) allnil) (res := fun r => agStoreT r) ?_
    refine xR [(0, .new 2)] [0, 2] [2] [.ptr false [I w.Band, slTrained false w.Trained], .ref 2 0] [some (.box [I 0, nilA])] [] trivial ?_
    refine xR [(5, .new 3)] [0, 2, 3] [2, 3] [.ptr false [I w.Band, slTrained false w.Trained], .ref 2 0, .ref 3 0] [some (.box [I 0, nilA]), some (.box [I w.Band, nilA])] [] trivial ?_
    refine x_seq ?_
    refine xR [] [0, 2, 3, 4] [2, 3] [.ptr false [I w.Band, slTrained false w.Trained], .ref 2 0, .ref 3 0, I 0] [some (.box [I 0, nilA]), some (.box [I w.Band, nilA])] [] trivial ?_
    refine x_block ?_
    refine x_nilC 3 1 731 2 (fun _ => []) rfl (by kernel_rfl) ?_
    refine x_weak [] (T := [(0, .ptr false [I w.Band, slTrained false w.Trained]), (2, .ref 2 0), (3, .ref 3 0), (4, I 0)]) (O := [(2, .box [I 0, nilA]), (3, .box [I w.Band, .arr 731]), (731, .arr 2 (([] : List Template).length) (fTemplate true ([] : List Template)))]) rfl (⟨.inl rfl, .inl rfl, .inl rfl, .inl rfl, trivial⟩) (⟨.inl rfl, .inl rfl, .inr ⟨rfl, (by first | rfl | (simp; done) | (simp; omega) | omega), fun i_ hi_ => absurd hi_ (Nat.not_lt_zero _)⟩, trivial⟩) ?_
    refine x_loop (X := Int × (List Template)) (fun x => mkS [(0, .ptr false [I w.Band, slTrained false w.Trained]), (2, .ref 2 0), (3, .ref 3 0), (4, I x.1)] [(2, .box [I 0, nilA]), (3, .box [I w.Band, .arr 731]), (731, .arr 2 x.2.length (fTemplate true x.2))]) (fun x => (0 ≤ x.1 ∧ x.1 ≤ (w.Trained.length : Int)) ∧ (x.2 = (w.Trained.take x.1.toNat).map tmT) ∧ True) (fun x => ((w.Trained.length : Int) - x.1).toNat) (0, ([] : List Template)) rfl (show (0 ≤ (0 : Int) ∧ (0 : Int) ≤ (w.Trained.length : Int)) ∧ (([] : List Template) = (w.Trained.take (0 : Int).toNat).map tmT) ∧ True from ⟨(by omega), (by rfl), trivial⟩) (fun x hI => ?_)
    obtain ⟨i, ts⟩ := x
    obtain ⟨hi0, hy0, _⟩ : (0 ≤ i ∧ i ≤ (w.Trained.length : Int)) ∧ (ts = (w.Trained.take i.toNat).map tmT) ∧ True := hI
    show XW _ _ _ _ (mkS [(0, .ptr false [I w.Band, slTrained false w.Trained]), (2, .ref 2 0), (3, .ref 3 0), (4, I i)] [(2, .box [I 0, nilA]), (3, .box [I w.Band, .arr 731]), (731, .arr 2 ts.length (fTemplate true ts))]) _ _
    refine x_seq ?_
    refine x_seq ?_
    by_cases h1 : i < (w.Trained.length : Int)
    ·have hi : i.toNat < w.Trained.length := by omega
     have hlen := hok.2 _ hi
     have htl : ts.length = i.toNat := by rw [hy0, List.length_map, List.length_take]; omega
     refine x_r [(6, .dec true)] [0, 2, 3, 4, 16] [2, 3, 731] [.ptr false [I w.Band, slTrained false w.Trained], .ref 2 0, .ref 3 0, I i, Bv true] [some (.box [I 0, nilA]), some (.box [I w.Band, .arr 731]), some (.arr 2 ts.length (fTemplate true ts))] [i < (w.Trained.length : Int)] ⟨h1, trivial⟩ ?_
     refine xe_then ?_
     refine x_true rfl ?_
     refine x_skip ?_
     refine xe_then ?_
     refine x_seq ?_
     refine x_block ?_
     refine x_r [(18, .call [(true, .any)] true (slFeat true ((at_ w.Trained i.toNat).Feats))), (20, .new 39), (21, .new 40)] [0, 2, 3, 4] [2, 3, 40] [.ptr false [I w.Band, slTrained false w.Trained], .ref 2 0, .ref 3 0, I i] [some (.box [I 0, nilA]), some (.box [I w.Band, .arr 40]), some (.arr 2 (ts.length + 1) (catF ts.length (fTemplate true ts) (litF [Sv ((at_ w.Trained i.toNat).Label), slFeat true ((at_ w.Trained i.toNat).Feats)] 2)))] [(0 : Int) ≤ i ∧ i < (w.Trained.length : Int), (0 : Int) ≤ i ∧ i < (w.Trained.length : Int), Con Try.prog 53 [slFeat false ((at_ w.Trained i.toNat).Feats)] true (slFeat true ((at_ w.Trained i.toNat).Feats)) ∧ True, (ts.length + 1) * 40 ≤ 140737488355328] ⟨⟨(by omega), (by omega)⟩, ⟨(by omega), (by omega)⟩, ⟨(l24Copy_ok ((at_ w.Trained i.toNat).Feats) hlen), trivial⟩, (by omega), trivial⟩ ?_
     refine xe_block 1 ?_
     refine xe_then ?_
     refine x_r [] [0, 2, 3, 4] [2, 3, 40] [.ptr false [I w.Band, slTrained false w.Trained], .ref 2 0, .ref 3 0, I (i + 1)] [some (.box [I 0, nilA]), some (.box [I w.Band, .arr 40]), some (.arr 2 (ts.length + 1) (catF ts.length (fTemplate true ts) (litF [Sv ((at_ w.Trained i.toNat).Label), slFeat true ((at_ w.Trained i.toNat).Feats)] 2)))] [inR .i64 (i + 1)] ⟨(inR_i64 (by omega) (by omega)), trivial⟩ ?_
     refine xe_weak [(731, 40)] (T := [(0, .ptr false [I w.Band, slTrained false w.Trained]), (2, .ref 2 0), (3, .ref 3 0), (4, I (i + 1))]) (O := [(2, .box [I 0, nilA]), (3, .box [I w.Band, .arr 731]), (731, .arr 2 ((ts ++ [(Template.mk ((at_ w.Trained i.toNat).Label) ((at_ w.Trained i.toNat).Feats))]).length) (fTemplate true (ts ++ [(Template.mk ((at_ w.Trained i.toNat).Label) ((at_ w.Trained i.toNat).Feats))])))]) rfl (⟨.inl rfl, .inl rfl, .inl rfl, .inl rfl, trivial⟩) (⟨.inl rfl, .inl rfl, .inr ⟨rfl, (by first | rfl | (simp; done) | (simp; omega) | omega), fun i_ hi_ => .inl (cat_snoc (enc := (cTemplate true)) (xs := ts) rfl i_ hi_)⟩, trivial⟩) (xe_again ((i + 1), (ts ++ [(Template.mk ((at_ w.Trained i.toNat).Label) ((at_ w.Trained i.toNat).Feats))])) rfl (show (0 ≤ (i + 1) ∧ (i + 1) ≤ (w.Trained.length : Int)) ∧ ((ts ++ [(Template.mk ((at_ w.Trained i.toNat).Label) ((at_ w.Trained i.toNat).Feats))]) = (w.Trained.take (i + 1).toNat).map tmT) ∧ True from ⟨(by omega), (by rw [show (i + 1).toNat = i.toNat + 1 from by omega, map_take tmT hi, ← hy0]; rfl), trivial⟩) (by first | (show (((w.Trained.length : Int) - (i + 1)).toNat : Nat) < ((w.Trained.length : Int) - i).toNat; omega) | (dsimp only; omega)))
    have hie : i.toNat = w.Trained.length := by omega
    rw [hie, List.take_length] at hy0
    refine x_r [(6, .dec false)] [0, 2, 3, 4, 16] [2, 3, 731] [.ptr false [I w.Band, slTrained false w.Trained], .ref 2 0, .ref 3 0, I i, Bv false] [some (.box [I 0, nilA]), some (.box [I w.Band, .arr 731]), some (.arr 2 ts.length (fTemplate true ts))] [¬ (i < (w.Trained.length : Int))] ⟨h1, trivial⟩ ?_
    refine xe_then ?_
    refine x_false rfl ?_
    refine x_exit ?_
    refine xe_exit_then ?_
    refine xe_loop_exit ?_
    refine xe_exit_same ?_
    refine xe_then ?_
    refine xR [] [2] [2, 731] [.ref 2 0] [some (.box [I w.Band, .arr 731]), some (.arr 2 ts.length (fTemplate true ts))] [] trivial ?_
    refine x_ret ?_
    refine xe_end (Store.mk w.Band ts) (show ((Store.mk w.Band ts) = Store.mk w.Band (w.Trained.map tmT)) ∧ (True) from ⟨(by rw [hy0]), trivial⟩) (trivial) (.agg [I w.Band, .arr 731]) (by kernel_rfl) (.inr ⟨rfl, ⟨⟨(fun _ => rfl), rfl, rfl, fun i _ => .inl rfl⟩, rfl⟩⟩) (fun _ => rfl) (fun _ => (by simp [tagged, taggedL, tagTemplate]))
  obtain ⟨v, ⟨hh0, _⟩, hc⟩ := hh
  exact ⟨v, hh0, hc⟩


-- spec.StoreOfWriter
theorem specStoreOfWriter_ok (w : Writer) (ok : okWriter w) : ∃ (v : Store) (c : Int), (v = (swR w).1) ∧ (c = (swR w).2) ∧ Con Try.prog 15 [agWriter w] true (.tup [agStoreT v, I c]) := by
  have hh : ∃ r : Store × Int, ((r.1 = (swR w).1) ∧ (r.2 = (swR w).2) ∧ (True)) ∧ CallOK Try.prog 15 [agWriter w] (lookO []) true (.tup [agStoreT r.1, I r.2]) (lookO []) := by
    refine fn_okX (Φ := fun r : Store × Int => (r.1 = (swR w).1) ∧ (r.2 = (swR w).2) ∧ (True)) [] (fun r => []) (fn := Try.f15) (nt := 8) Try.func15 rfl rfl (args := [agWriter w]) rfl (allcons (.inl ⟨rfl, by simp [tagged, taggedL, tagTrained]⟩) allnil) (res := fun r => .tup [agStoreT r.1, I r.2]) ?_
    refine xR [(0, .new 1), (1, .new 2)] [1, 2] [1, 2] [.ref 1 0, .ref 2 0] [some (bxWriter w), some (.box [I 0, nilA])] [] trivial ?_
    refine x_seq ?_
    refine x_seq ?_
    rcases Bool.eq_false_or_eq_true (okWriter' w) with h1 | h1
    ·have hst := swR_yes h1
     have hok := okWr_len h1
     refine x_r [(0, .call [(false, .ptr false [I w.Band, slTrained false w.Trained])] true (Bv true))] [1, 2, 5] [1, 2] [.ref 1 0, .ref 2 0, Bv false] [some (bxWriter w), some (.box [I 0, nilA])] [Con Try.prog 31 [.ptr false [I w.Band, slTrained false w.Trained]] true (Bv true) ∧ ((false = true → true = true) ∧ AV.idsL [I w.Band, slTrained false w.Trained] = [] ∧ (valOf (I w.Band) = valOf (I w.Band)) ∧ ((false = true → false = true) ∧ 4 = 4 ∧ w.Trained.length = w.Trained.length ∧ ∀ i_, i_ < w.Trained.length → (fTrained false w.Trained) i_ = (fTrained false w.Trained) i_ ∨ (AV.idsL ((fTrained false w.Trained) i_) = [] ∧ leL (fun _ => none) false ((fTrained false w.Trained) i_) ((fTrained false w.Trained) i_))) ∧ ([] : List AV) = []) ∧ True] ⟨⟨(con_bool h1 (l24Writer_ok w ok)), ⟨(fun h => by cases h), rfl, ⟨rfl, ⟨⟨(fun h => by cases h), rfl, rfl, fun i _ => .inl rfl⟩, rfl⟩⟩⟩, trivial⟩, trivial⟩ ?_
     refine xe_then ?_
     refine x_false rfl ?_
     refine x_skip ?_
     refine xe_then ?_
     refine x_seq ?_
     obtain ⟨v_1, hx1_0, hc1⟩ := l24Store_ok w hok
     refine x_r [(0, .call [(false, .ptr false [I w.Band, slTrained false w.Trained])] true (agStoreT v_1))] [2, 3] [2] [.ref 2 0, I 0] [some (bxStoreT v_1)] [Con Try.prog 32 [.ptr false [I w.Band, slTrained false w.Trained]] true (agStoreT v_1) ∧ ((false = true → true = true) ∧ AV.idsL [I w.Band, slTrained false w.Trained] = [] ∧ (valOf (I w.Band) = valOf (I w.Band)) ∧ ((false = true → false = true) ∧ 4 = 4 ∧ w.Trained.length = w.Trained.length ∧ ∀ i_, i_ < w.Trained.length → (fTrained false w.Trained) i_ = (fTrained false w.Trained) i_ ∨ (AV.idsL ((fTrained false w.Trained) i_) = [] ∧ leL (fun _ => none) false ((fTrained false w.Trained) i_) ((fTrained false w.Trained) i_))) ∧ ([] : List AV) = []) ∧ True] ⟨⟨hc1, ⟨(fun h => by cases h), rfl, ⟨rfl, ⟨⟨(fun h => by cases h), rfl, rfl, fun i _ => .inl rfl⟩, rfl⟩⟩⟩, trivial⟩, trivial⟩ ?_
     refine xe_then ?_
     refine x_ret ?_
     refine xe_end (v_1, 0) (show (v_1 = (swR w).1) ∧ (0 = (swR w).2) ∧ (True) from ⟨(by first | (rw [hst]; done) | (rw [hst]; assumption) | (rw [hst]; rfl)), (by first | (rw [hst]; done) | (rw [hst]; assumption) | (rw [hst]; rfl)), trivial⟩) (trivial) (.tup [agStoreT v_1, I 0]) (by kernel_rfl) (.inl rfl) (fun _ => rfl) (fun _ => (by simp [tagged, taggedL, tagTemplate]))
    have hst := swR_no h1
    refine x_r [(0, .call [(false, .ptr false [I w.Band, slTrained false w.Trained])] true (Bv false))] [1, 2, 5] [1, 2] [.ref 1 0, .ref 2 0, Bv true] [some (bxWriter w), some (.box [I 0, nilA])] [Con Try.prog 31 [.ptr false [I w.Band, slTrained false w.Trained]] true (Bv false) ∧ ((false = true → true = true) ∧ AV.idsL [I w.Band, slTrained false w.Trained] = [] ∧ (valOf (I w.Band) = valOf (I w.Band)) ∧ ((false = true → false = true) ∧ 4 = 4 ∧ w.Trained.length = w.Trained.length ∧ ∀ i_, i_ < w.Trained.length → (fTrained false w.Trained) i_ = (fTrained false w.Trained) i_ ∨ (AV.idsL ((fTrained false w.Trained) i_) = [] ∧ leL (fun _ => none) false ((fTrained false w.Trained) i_) ((fTrained false w.Trained) i_))) ∧ ([] : List AV) = []) ∧ True] ⟨⟨(con_bool h1 (l24Writer_ok w ok)), ⟨(fun h => by cases h), rfl, ⟨rfl, ⟨⟨(fun h => by cases h), rfl, rfl, fun i _ => .inl rfl⟩, rfl⟩⟩⟩, trivial⟩, trivial⟩ ?_
    refine xe_then ?_
    refine x_true rfl ?_
    refine xR [] [2, 3] [2] [.ref 2 0, I 1] [some (.box [I 0, nilA])] [] trivial ?_
    refine x_ret ?_
    refine xe_ret_then ?_
    refine xe_end ((Store.mk 0 ([] : List Template)), 1) (show ((Store.mk 0 ([] : List Template)) = (swR w).1) ∧ (1 = (swR w).2) ∧ (True) from ⟨(by first | (rw [hst]; done) | (rw [hst]; assumption) | (rw [hst]; rfl)), (by first | (rw [hst]; done) | (rw [hst]; assumption) | (rw [hst]; rfl)), trivial⟩) (trivial) (.tup [.agg [I 0, nilA], I 1]) (by kernel_rfl) (.inr ⟨⟨rfl, ⟨⟨rfl, rfl⟩, rfl⟩⟩, ⟨rfl, rfl⟩⟩) (fun _ => rfl) (fun _ => (by simp [tagged, taggedL, tagTemplate]))
  obtain ⟨⟨v, c⟩, ⟨hh0, hh1, _⟩, hc⟩ := hh
  exact ⟨v, c, hh0, hh1, hc⟩


-- impl.within
theorem within_ok (n : Int) (low : Int) (high : Int) : Con Try.prog 42 [I n, I low, I high] true (Bv (inB n low high)) := by
  refine fn_ok (fn := Try.f42) (nt := 15) Try.func42 rfl rfl rfl rfl (by simp [taggedL, tagged]) fun B hB => ?_
  refine aR [] [0, 1, 2] [] [I n, I low, I high] [] [] hB trivial ?_
  refine aw_seq ?_
  by_cases h1 : low ≤ n
  ·refine aw_r [(2, .dec true)] [6] [] [Bv (decide (n ≤ high))] [] [low ≤ n] hB ⟨h1, trivial⟩ ?_
   refine ae_then ?_
   refine aw_ret ?_
   refine ae_ret hB (Bv (decide (n ≤ high))) (by kernel_rfl) (.inl (by first | rfl | (refine congrArg Bv ?_; simp [inB, *]; done) | (refine congrArg Bv ?_; simp [inB, *]; omega) | (refine congrArg Bv ?_; simp_all [inB]; done) | (refine congrArg Bv ?_; simp_all [inB]; omega))) rfl (fun _ => trivial)
  refine aw_r [(2, .dec false)] [6] [] [Bv false] [] [¬ (low ≤ n)] hB ⟨h1, trivial⟩ ?_
  refine ae_then ?_
  refine aw_ret ?_
  refine ae_ret hB (Bv false) (by kernel_rfl) (.inl (by first | rfl | (refine congrArg Bv ?_; simp [inB, *]; done) | (refine congrArg Bv ?_; simp [inB, *]; omega) | (refine congrArg Bv ?_; simp_all [inB]; done) | (refine congrArg Bv ?_; simp_all [inB]; omega))) rfl (fun _ => trivial)


-- impl.isLetter
theorem isLetter_ok (c : Int) : Con Try.prog 73 [.val (.int .u8 c)] true (Bv (inB c 97 122)) := by
  refine fn_ok (fn := Try.f73) (nt := 9) Try.func73 rfl rfl rfl rfl (by simp [taggedL, tagged]) fun B hB => ?_
  refine aR [] [0] [] [.val (.int .u8 c)] [] [] hB trivial ?_
  refine aw_seq ?_
  by_cases h1 : 97 ≤ c
  ·refine aw_r [(1, .dec true)] [2] [] [Bv (decide (c ≤ 122))] [] [97 ≤ c] hB ⟨h1, trivial⟩ ?_
   refine ae_then ?_
   refine aw_ret ?_
   refine ae_ret hB (Bv (decide (c ≤ 122))) (by kernel_rfl) (.inl (by first | rfl | (refine congrArg Bv ?_; simp [inB, *]; done) | (refine congrArg Bv ?_; simp [inB, *]; omega) | (refine congrArg Bv ?_; simp_all [inB]; done) | (refine congrArg Bv ?_; simp_all [inB]; omega))) rfl (fun _ => trivial)
  refine aw_r [(1, .dec false)] [2] [] [Bv false] [] [¬ (97 ≤ c)] hB ⟨h1, trivial⟩ ?_
  refine ae_then ?_
  refine aw_ret ?_
  refine ae_ret hB (Bv false) (by kernel_rfl) (.inl (by first | rfl | (refine congrArg Bv ?_; simp [inB, *]; done) | (refine congrArg Bv ?_; simp [inB, *]; omega) | (refine congrArg Bv ?_; simp_all [inB]; done) | (refine congrArg Bv ?_; simp_all [inB]; omega))) rfl (fun _ => trivial)


/-- Whether a byte occurs. -/
def hasB (s : ByteArray) (n : Int) : Bool := s.data.toList.any fun x => decide ((x.toNat : Int) = n)
theorem one_byte {t : ByteArray} (h : t.size = 1) : ∃ c, t = ⟨#[c]⟩ := by
  obtain ⟨⟨l⟩⟩ := t
  cases l with
  | nil => cases h
  | cons c l =>
    cases l with
    | nil => exact ⟨c, rfl⟩
    | cons d l => simp [ByteArray.size] at h
theorem has_index (l : List UInt8) (c : UInt8) : decide (0 ≤ Lib.indexByte l c) = l.any fun x => decide ((x.toNat : Int) = bAt ⟨#[c]⟩ 0) := by
  rw [← Lib.contains_iff_indexByte, Bool.eq_iff_iff]
  simp [bAt, List.contains_iff_mem]
  constructor
  · intro h; exact ⟨c, h, rfl⟩
  · rintro ⟨x, hx, e⟩
    have : x = c := UInt8.toNat_inj.1 (by omega)
    exact this ▸ hx

-- strings.Contains
theorem contains_ok (s t : ByteArray) (h : t.size = 1) : Con Try.prog 74 [Sv s, Sv t] true (Bv (hasB s (bAt t 0))) := by
  obtain ⟨c, rfl⟩ := one_byte h
  refine con_of_calls (vals := [.string s, .string ⟨#[c]⟩]) fun w _ => ?_
  refine (Try.strings_Contains_one s c w).mono ?_
  rintro e w' ⟨rfl, rfl⟩
  refine ⟨?_, Below.refl _ _⟩
  simp only [has_index, hasB]


-- impl.IsLabel
theorem implIsLabel_ok (s : ByteArray) (ok : s.size ≤ 9223372036854775807) : Con Try.prog 63 [Sv s] true (Bv (okLabel s)) := by
  refine fn_ok (fn := Try.f63) (nt := 15) Try.func63 rfl rfl rfl rfl (by simp [taggedL, tagged]) fun B hB => ?_
  refine aR [] [0] [] [Sv s] [] [] hB trivial ?_
  refine aw_seq ?_
  by_cases h1 : (s.size : Int) = 1
  ·rcases Bool.eq_false_or_eq_true (inB (bAt s 0) 97 122) with h2 | h2
   ·refine aw_r [(2, .dec true), (6, .call [(true, .any)] true (Bv true))] [2] [] [Bv true] [] [(s.size : Int) = 1, (0 : Int) ≤ 0 ∧ 0 < (s.size : Int), Con Try.prog 73 [.val (.int .u8 (bAt s 0))] true (Bv true) ∧ True] hB ⟨h1, ⟨(by omega), (by omega)⟩, ⟨(con_bool h2 (isLetter_ok (bAt s 0))), trivial⟩, trivial⟩ ?_
    refine ae_then ?_
    refine aw_ret ?_
    refine ae_ret hB (Bv true) (by kernel_rfl) (.inl (by first | (refine congrArg Bv ?_; simp_all [okLabel, labB, inB]; done) | (refine congrArg Bv ?_; have hbd := bAt_bd s 0; rw [Bool.eq_iff_iff]; simp_all [okLabel, hasB, labB, inB]; omega))) rfl (fun _ => trivial)
   refine aw_r [(2, .dec true), (6, .call [(true, .any)] true (Bv false)), (9, .call [(true, .any), (true, .any)] true (Bv (hasB (⟨#[48, 49, 50, 51, 52, 53, 54, 55, 56, 57, 43, 45, 42, 47, 61, 40, 41, 46, 44]⟩ : ByteArray) (bAt s 0))))] [2] [] [Bv (hasB (⟨#[48, 49, 50, 51, 52, 53, 54, 55, 56, 57, 43, 45, 42, 47, 61, 40, 41, 46, 44]⟩ : ByteArray) (bAt s 0))] [] [(s.size : Int) = 1, (0 : Int) ≤ 0 ∧ 0 < (s.size : Int), Con Try.prog 73 [.val (.int .u8 (bAt s 0))] true (Bv false) ∧ True, Con Try.prog 74 [Sv (⟨#[48, 49, 50, 51, 52, 53, 54, 55, 56, 57, 43, 45, 42, 47, 61, 40, 41, 46, 44]⟩ : ByteArray), Sv s] true (Bv (hasB (⟨#[48, 49, 50, 51, 52, 53, 54, 55, 56, 57, 43, 45, 42, 47, 61, 40, 41, 46, 44]⟩ : ByteArray) (bAt s 0))) ∧ True] hB ⟨h1, ⟨(by omega), (by omega)⟩, ⟨(con_bool h2 (isLetter_ok (bAt s 0))), trivial⟩, ⟨(contains_ok (⟨#[48, 49, 50, 51, 52, 53, 54, 55, 56, 57, 43, 45, 42, 47, 61, 40, 41, 46, 44]⟩ : ByteArray) s (by omega)), trivial⟩, trivial⟩ ?_
   refine ae_then ?_
   refine aw_ret ?_
   refine ae_ret hB (Bv (hasB (⟨#[48, 49, 50, 51, 52, 53, 54, 55, 56, 57, 43, 45, 42, 47, 61, 40, 41, 46, 44]⟩ : ByteArray) (bAt s 0))) (by kernel_rfl) (.inl (by first | (refine congrArg Bv ?_; simp_all [okLabel, labB, inB]; done) | (refine congrArg Bv ?_; have hbd := bAt_bd s 0; rw [Bool.eq_iff_iff]; simp_all [okLabel, hasB, labB, inB]; omega))) rfl (fun _ => trivial)
  refine aw_r [(2, .dec false)] [2] [] [Bv false] [] [¬ ((s.size : Int) = 1)] hB ⟨h1, trivial⟩ ?_
  refine ae_then ?_
  refine aw_ret ?_
  refine ae_ret hB (Bv false) (by kernel_rfl) (.inl (by first | (refine congrArg Bv ?_; simp_all [okLabel, labB, inB]; done) | (refine congrArg Bv ?_; have hbd := bAt_bd s 0; rw [Bool.eq_iff_iff]; simp_all [okLabel, hasB, labB, inB]; omega))) rfl (fun _ => trivial)


-- impl.ValidFeat
theorem ValidFeat_ok (f : Feat) : Con Try.prog 83 [agFeat f] true (Bv (okF f)) := by
  refine fn_ok (fn := Try.f83) (nt := 16) Try.func83 rfl rfl rfl rfl (by simp [taggedL, tagged]) fun B hB => ?_
  refine aR [(0, .new 1)] [1] [1] [.ref 1 0] [some (bxFeat f)] [] hB trivial ?_
  refine aw_seq ?_
  rcases Bool.eq_false_or_eq_true (inB f.X 0 255) with h1 | h1
  ·rcases Bool.eq_false_or_eq_true (inB f.Y 0 255) with h2 | h2
   ·refine aw_r [(2, .call [(true, .any), (true, .any), (true, .any)] true (Bv true)), (6, .call [(true, .any), (true, .any), (true, .any)] true (Bv true)), (11, .call [(true, .any), (true, .any), (true, .any)] true (Bv (inB f.D 0 7)))] [2] [] [Bv (inB f.D 0 7)] [] [Con Try.prog 42 [I f.X, I 0, I 255] true (Bv true) ∧ True, Con Try.prog 42 [I f.Y, I 0, I 255] true (Bv true) ∧ True, Con Try.prog 42 [I f.D, I 0, I 7] true (Bv (inB f.D 0 7)) ∧ True] hB ⟨⟨(con_bool h1 (within_ok f.X 0 255)), trivial⟩, ⟨(con_bool h2 (within_ok f.Y 0 255)), trivial⟩, ⟨(within_ok f.D 0 7), trivial⟩, trivial⟩ ?_
    refine ae_then ?_
    refine aw_ret ?_
    refine ae_ret hB (Bv (inB f.D 0 7)) (by kernel_rfl) (.inl (by first | rfl | (refine congrArg Bv ?_; simp [okF, *]; done) | (refine congrArg Bv ?_; simp [okF, *]; omega) | (refine congrArg Bv ?_; simp_all [okF]; done) | (refine congrArg Bv ?_; simp_all [okF]; omega))) rfl (fun _ => trivial)
   refine aw_r [(2, .call [(true, .any), (true, .any), (true, .any)] true (Bv true)), (6, .call [(true, .any), (true, .any), (true, .any)] true (Bv false))] [2] [] [Bv false] [] [Con Try.prog 42 [I f.X, I 0, I 255] true (Bv true) ∧ True, Con Try.prog 42 [I f.Y, I 0, I 255] true (Bv false) ∧ True] hB ⟨⟨(con_bool h1 (within_ok f.X 0 255)), trivial⟩, ⟨(con_bool h2 (within_ok f.Y 0 255)), trivial⟩, trivial⟩ ?_
   refine ae_then ?_
   refine aw_ret ?_
   refine ae_ret hB (Bv false) (by kernel_rfl) (.inl (by first | rfl | (refine congrArg Bv ?_; simp [okF, *]; done) | (refine congrArg Bv ?_; simp [okF, *]; omega) | (refine congrArg Bv ?_; simp_all [okF]; done) | (refine congrArg Bv ?_; simp_all [okF]; omega))) rfl (fun _ => trivial)
  refine aw_r [(2, .call [(true, .any), (true, .any), (true, .any)] true (Bv false))] [2] [] [Bv false] [] [Con Try.prog 42 [I f.X, I 0, I 255] true (Bv false) ∧ True] hB ⟨⟨(con_bool h1 (within_ok f.X 0 255)), trivial⟩, trivial⟩ ?_
  refine ae_then ?_
  refine aw_ret ?_
  refine ae_ret hB (Bv false) (by kernel_rfl) (.inl (by first | rfl | (refine congrArg Bv ?_; simp [okF, *]; done) | (refine congrArg Bv ?_; simp [okF, *]; omega) | (refine congrArg Bv ?_; simp_all [okF]; done) | (refine congrArg Bv ?_; simp_all [okF]; omega))) rfl (fun _ => trivial)


-- impl.areFeats$1
theorem areFeats1_ok (f : Feat) : Con Try.prog 82 [agFeat f] true (Bv (!(okF f))) := by
  refine fn_ok (fn := Try.f82) (nt := 6) Try.func82 rfl rfl rfl rfl (by simp [taggedL, tagged]) fun B hB => ?_
  refine aR [(0, .new 1)] [1] [1] [.ref 1 0] [some (bxFeat f)] [] hB trivial ?_
  refine aR [(1, .call [(true, .any)] true (Bv (okF f)))] [2] [] [Bv (!(okF f))] [] [Con Try.prog 83 [agFeat f] true (Bv (okF f)) ∧ True] hB ⟨⟨(ValidFeat_ok f), trivial⟩, trivial⟩ ?_
  refine aw_ret ?_
  refine ae_ret hB (Bv (!(okF f))) (by kernel_rfl) (.inl rfl) rfl (fun _ => trivial)


/-- The first number below n that p holds of, or -1. -/
def firstN (n : Nat) (p : Nat → Bool) : Int := match (List.range n).find? p with
  | some i => i
  | none => -1
theorem firstN_hit {n : Nat} {p : Nat → Bool} {k : Nat} (hk : k < n) (hp : p k = true) (hn : ∀ i, i < k → p i = false) : firstN n p = k := by
  have h : (List.range n).find? p = some k := by
    rw [List.find?_range_eq_some]
    exact ⟨hp, List.mem_range.2 hk, fun j hj => by simpa using hn j hj⟩
  simp [firstN, h]
theorem firstN_none {n : Nat} {p : Nat → Bool} (hn : ∀ i, i < n → p i = false) : firstN n p = -1 := by
  have h : (List.range n).find? p = none := by
    rw [List.find?_range_eq_none]
    intro i hi; simpa using hn i hi
  simp [firstN, h]
theorem firstN_cases (n : Nat) (p : Nat → Bool) : (firstN n p = -1 ∧ ∀ i, i < n → p i = false) ∨ ∃ k : Nat, firstN n p = k ∧ k < n ∧ p k = true ∧ ∀ i, i < k → p i = false := by
  by_cases h : ∃ k, k < n ∧ p k = true
  · right
    obtain ⟨k, hk, hp⟩ := h
    cases e : (List.range n).find? p with
    | none => rw [List.find?_range_eq_none] at e; exact absurd hp (by simpa using e k hk)
    | some i =>
      have e' := e
      rw [List.find?_range_eq_some] at e
      exact ⟨i, by simp [firstN, e'], List.mem_range.1 e.2.1, e.1, fun j hj => by simpa using e.2.2 j hj⟩
  · left
    have h' : ∀ i, i < n → p i = false := fun i hi => by rw [← Bool.not_eq_true]; exact fun hp => h ⟨i, hi, hp⟩
    exact ⟨firstN_none h', h'⟩
theorem firstN_any (n : Nat) (p : Nat → Bool) : decide (0 ≤ firstN n p) = anyN n p := by
  rcases firstN_cases n p with ⟨h1, h2⟩ | ⟨k, h1, h2, h3, _⟩
  · rw [h1, anyN_none h2]; decide
  · rw [h1, anyN_at h2 h3]; simp

-- impl.areFeats
theorem containsFeat_ok_idx (s : List Feat) : Con Try.prog 85 [slFeat false s, .fn 82 []] true (I (firstN s.length (fun j => (!(okF (at_ s j)))))) := by
  refine fn_ok (fn := Try.f85) (nt := 19) Try.func85 rfl rfl rfl rfl (by simp [taggedL, tagged, tagFeat]) fun B hB => ?_
  refine aw_lens (x := slFeat false s) 0 rfl (fun len_s => ?_)
  simp [LenOK, LenL, cFeat, fFeat, slFeat] at len_s
  refine aR [] [0, 1] [] [slFeat false s, .fn 82 []] [] [] hB trivial ?_
  refine aw_seq ?_
  refine aR [] [0, 1, 7, 8] [] [slFeat false s, .fn 82 [], I (s.length : Int), I 0] [] [] hB trivial ?_
  refine aw_block ?_
  refine aw_loop (fun gn gσ => ∃ (t8 : Int), gn = ((s.length : Int) - t8).toNat ∧ (0 ≤ t8 ∧ t8 ≤ (s.length : Int)) ∧ (∀ j : Nat, (j : Int) < t8 → (!(okF (at_ s j))) = false) ∧ gσ = mkS [(0, slFeat false s), (1, .fn 82 []), (7, I (s.length : Int)), (8, I t8)] []) (((s.length : Int) - 0).toNat) ⟨0, rfl, (by omega), (by intro j hj; omega), rfl⟩ (fun gn gσ hI => ?_)
  obtain ⟨t8, rfl, hi0, hall0, rfl⟩ := hI
  refine aw_seq ?_
  by_cases h1 : t8 < (s.length : Int)
  ·have hi : t8.toNat < s.length := by omega
   refine aw_r [(0, .dec true)] [0, 1, 7, 8, 9] [] [slFeat false s, .fn 82 [], I (s.length : Int), I t8, Bv true] [] [t8 < (s.length : Int)] hB ⟨h1, trivial⟩ ?_
   refine ae_then ?_
   refine aw_seq ?_
   refine aw_true rfl ?_
   refine aw_skip ?_
   refine ae_then ?_
   refine aw_seq ?_
   refine aw_block ?_
   refine aR [] [0, 1, 5, 7, 8] [] [slFeat false s, .fn 82 [], I t8, I (s.length : Int), I t8] [] [] hB trivial ?_
   refine aw_seq ?_
   rcases Bool.eq_false_or_eq_true (!(okF (at_ s t8.toNat))) with h2 | h2
   ·have hfin : firstN s.length (fun j => (!(okF (at_ s j)))) = t8.toNat := firstN_hit hi h2 (fun j hj => hall0 j (by omega))
    refine aw_r [(5, .call [(true, .any)] true (Bv true))] [0, 1, 5, 7, 8, 16] [] [slFeat false s, .fn 82 [], I t8, I (s.length : Int), I t8, Bv true] [] [(0 : Int) ≤ t8 ∧ t8 < (s.length : Int), Con Try.prog 82 [agFeat (at_ s t8.toNat)] true (Bv true) ∧ True] hB ⟨⟨(by omega), (by omega)⟩, ⟨(con_bool h2 (areFeats1_ok (at_ s t8.toNat))), trivial⟩, trivial⟩ ?_
    refine ae_then ?_
    refine aw_true rfl ?_
    refine aR [] [4] [] [I t8] [] [] hB trivial ?_
    refine aw_ret ?_
    refine ae_ret_block (ae_ret_then (ae_ret_then (ae_ret_block (ae_ret_then ?_))))
    refine ae_ret hB (I t8) (by kernel_rfl) (.inl (by refine congrArg I ?_; first | (rw [hfin]; done) | (rw [hfin]; omega))) rfl (fun _ => trivial)
   refine aw_r [(5, .call [(true, .any)] true (Bv false))] [0, 1, 5, 7, 8, 16] [] [slFeat false s, .fn 82 [], I t8, I (s.length : Int), I t8, Bv false] [] [(0 : Int) ≤ t8 ∧ t8 < (s.length : Int), Con Try.prog 82 [agFeat (at_ s t8.toNat)] true (Bv false) ∧ True] hB ⟨⟨(by omega), (by omega)⟩, ⟨(con_bool h2 (areFeats1_ok (at_ s t8.toNat))), trivial⟩, trivial⟩ ?_
   refine ae_then ?_
   refine aw_false rfl ?_
   refine aw_skip ?_
   refine ae_block 1 ?_
   refine ae_then ?_
   refine aw_r [] [0, 1, 7, 8] [] [slFeat false s, .fn 82 [], I (s.length : Int), I (t8 + 1)] [] [inR .i64 (t8 + 1)] hB ⟨(inR_i64 (by omega) (by omega)), trivial⟩ ?_
   exact ae_again _ (by omega) ⟨(t8 + 1), rfl, (by omega), (by intro j hj; by_cases ej : j = t8.toNat; (subst ej; first | assumption | rfl); exact hall0 j (by omega)), rfl⟩
  have hfin : firstN s.length (fun j => (!(okF (at_ s j)))) = -1 := firstN_none (fun j hj => hall0 j (by omega))
  refine aw_r [(0, .dec false)] [0, 1, 7, 8, 9] [] [slFeat false s, .fn 82 [], I (s.length : Int), I t8, Bv false] [] [¬ (t8 < (s.length : Int))] hB ⟨h1, trivial⟩ ?_
  refine ae_then ?_
  refine aw_seq ?_
  refine aw_false rfl ?_
  refine aw_exit ?_
  refine ae_exit_then ?_
  refine ae_exit_then ?_
  refine ae_exit_same ?_
  refine ae_then ?_
  refine aR [] [4] [] [I (-1)] [] [] hB trivial ?_
  refine aw_ret ?_
  refine ae_ret hB (I (-1)) (by kernel_rfl) (.inl (by refine congrArg I ?_; first | (rw [hfin]; done) | (rw [hfin]; omega))) rfl (fun _ => trivial)

theorem containsFeat_ok (s : List Feat) : Con Try.prog 81 [slFeat false s, .fn 82 []] true (Bv (anyN s.length (fun j => (!(okF (at_ s j)))))) := by
  refine fn_ok (fn := Try.f81) (nt := 9) Try.func81 rfl rfl rfl rfl (by simp [taggedL, tagged, tagFeat]) fun B hB => ?_
  refine aw_lens (x := slFeat false s) 0 rfl (fun len_s => ?_)
  simp [LenOK, LenL, cFeat, fFeat, slFeat] at len_s
  refine aR [] [0, 1] [] [slFeat false s, .fn 82 []] [] [] hB trivial ?_
  refine aR [(2, .call [(true, .any), (true, .any)] true (I (firstN s.length (fun j => (!(okF (at_ s j)))))))] [4] [] [Bv (decide (0 ≤ (firstN s.length (fun j => (!(okF (at_ s j)))))))] [] [Con Try.prog 85 [slFeat false s, .fn 82 []] true (I (firstN s.length (fun j => (!(okF (at_ s j)))))) ∧ True] hB ⟨⟨(containsFeat_ok_idx s), trivial⟩, trivial⟩ ?_
  refine aw_ret ?_
  refine ae_ret hB (Bv (decide (0 ≤ (firstN s.length (fun j => (!(okF (at_ s j)))))))) (by kernel_rfl) (.inl (by exact congrArg Bv (firstN_any _ _))) rfl (fun _ => trivial)

theorem areFeats_ok (list : List Feat) (most : Int) : Con Try.prog 75 [slFeat false list, I most] true (Bv (okFeats list most)) := by
  refine fn_ok (fn := Try.f75) (nt := 19) Try.func75 rfl rfl rfl rfl (by simp [taggedL, tagged, tagFeat]) fun B hB => ?_
  refine aw_lens (x := slFeat false list) 0 rfl (fun len_list => ?_)
  simp [LenOK, LenL, cFeat, fFeat, slFeat] at len_list
  refine aR [] [0, 1] [] [slFeat false list, I most] [] [] hB trivial ?_
  refine aw_seq ?_
  by_cases h1 : 1 ≤ (list.length : Int)
  ·by_cases h2 : (list.length : Int) ≤ most
   ·refine aw_r [(2, .dec true), (7, .dec true), (11, .call [(true, .any), (true, .any)] true (Bv (anyN list.length (fun j => (!(okF (at_ list j)))))))] [4] [] [Bv (!(anyN list.length (fun j => (!(okF (at_ list j))))))] [] [1 ≤ (list.length : Int), (list.length : Int) ≤ most, Con Try.prog 81 [slFeat false list, .fn 82 []] true (Bv (anyN list.length (fun j => (!(okF (at_ list j)))))) ∧ True] hB ⟨h1, h2, ⟨(containsFeat_ok list), trivial⟩, trivial⟩ ?_
    refine ae_then ?_
    refine aw_ret ?_
    refine ae_ret hB (Bv (!(anyN list.length (fun j => (!(okF (at_ list j))))))) (by kernel_rfl) (.inl (by first | rfl | (refine congrArg Bv ?_; simp [okFeats, anyN_not, *]; done) | (refine congrArg Bv ?_; simp [okFeats, anyN_not, *]; omega) | (refine congrArg Bv ?_; simp_all [okFeats, anyN_not]; done) | (refine congrArg Bv ?_; simp_all [okFeats, anyN_not]; omega))) rfl (fun _ => trivial)
   refine aw_r [(2, .dec true), (7, .dec false)] [4] [] [Bv false] [] [1 ≤ (list.length : Int), ¬ ((list.length : Int) ≤ most)] hB ⟨h1, h2, trivial⟩ ?_
   refine ae_then ?_
   refine aw_ret ?_
   refine ae_ret hB (Bv false) (by kernel_rfl) (.inl (by first | rfl | (refine congrArg Bv ?_; simp [okFeats, anyN_not, *]; done) | (refine congrArg Bv ?_; simp [okFeats, anyN_not, *]; omega) | (refine congrArg Bv ?_; simp_all [okFeats, anyN_not]; done) | (refine congrArg Bv ?_; simp_all [okFeats, anyN_not]; omega))) rfl (fun _ => trivial)
  refine aw_r [(2, .dec false)] [4] [] [Bv false] [] [¬ (1 ≤ (list.length : Int))] hB ⟨h1, trivial⟩ ?_
  refine ae_then ?_
  refine aw_ret ?_
  refine ae_ret hB (Bv false) (by kernel_rfl) (.inl (by first | rfl | (refine congrArg Bv ?_; simp [okFeats, anyN_not, *]; done) | (refine congrArg Bv ?_; simp [okFeats, anyN_not, *]; omega) | (refine congrArg Bv ?_; simp_all [okFeats, anyN_not]; done) | (refine congrArg Bv ?_; simp_all [okFeats, anyN_not]; omega))) rfl (fun _ => trivial)


-- impl.ValidSeq
theorem ValidSeq_ok (list : List Feat) : Con Try.prog 64 [slFeat false list] true (Bv (okFeats list 72)) := by
  refine fn_ok (fn := Try.f64) (nt := 5) Try.func64 rfl rfl rfl rfl (by simp [taggedL, tagged, tagFeat]) fun B hB => ?_
  refine aw_lens (x := slFeat false list) 0 rfl (fun len_list => ?_)
  simp [LenOK, LenL, cFeat, fFeat, slFeat] at len_list
  refine aR [] [0] [] [slFeat false list] [] [] hB trivial ?_
  refine aR [(1, .call [(true, .any), (true, .any)] true (Bv (okFeats list 72)))] [2] [] [Bv (okFeats list 72)] [] [Con Try.prog 75 [slFeat false list, I 72] true (Bv (okFeats list 72)) ∧ True] hB ⟨⟨(areFeats_ok list 72), trivial⟩, trivial⟩ ?_
  refine aw_ret ?_
  refine ae_ret hB (Bv (okFeats list 72)) (by kernel_rfl) (.inl rfl) rfl (fun _ => trivial)


-- impl.abs
theorem abs_ok (n : Int) (hn : -9223372036854775807 ≤ n ∧ n ≤ 9223372036854775807) : Con Try.prog 78 [I n] true (I (n.natAbs : Int)) := by
  refine fn_ok (fn := Try.f78) (nt := 8) Try.func78 rfl rfl rfl rfl (by simp [taggedL, tagged]) fun B hB => ?_
  refine aR [] [0] [] [I n] [] [] hB trivial ?_
  refine aw_seq ?_
  refine aw_seq ?_
  by_cases h1 : n < 0
  ·refine aw_r [(1, .dec true)] [0, 4] [] [I n, Bv true] [] [n < 0] hB ⟨h1, trivial⟩ ?_
   refine ae_then ?_
   refine aw_true rfl ?_
   refine aR [] [2] [] [I (-n)] [] [inR .i64 (-n)] hB ⟨(inR_i64 (by omega) (by omega)), trivial⟩ ?_
   refine aw_ret ?_
   refine ae_ret_then ?_
   refine ae_ret hB (I (-n)) (by kernel_rfl) (.inl (by refine congrArg I ?_; omega)) rfl (fun _ => trivial)
  refine aw_r [(1, .dec false)] [0, 4] [] [I n, Bv false] [] [¬ (n < 0)] hB ⟨h1, trivial⟩ ?_
  refine ae_then ?_
  refine aw_false rfl ?_
  refine aw_skip ?_
  refine ae_then ?_
  refine aR [] [2] [] [I n] [] [] hB trivial ?_
  refine aw_ret ?_
  refine ae_ret hB (I n) (by kernel_rfl) (.inl (by refine congrArg I ?_; omega)) rfl (fun _ => trivial)


-- impl.near
theorem near_ok (a : Feat) (b : Feat) (ha : okF a = true) (hb : okF b = true) : Con Try.prog 69 [agFeat a, agFeat b] true (Bv (nearB a b)) := by
  have ha' := okF_iff.1 ha
  have hb' := okF_iff.1 hb
  refine fn_ok (fn := Try.f69) (nt := 28) Try.func69 rfl rfl rfl rfl (by simp [taggedL, tagged]) fun B hB => ?_
  refine aR [(0, .new 2), (1, .new 3)] [2, 3] [2, 3] [.ref 2 0, .ref 3 0] [some (bxFeat a), some (bxFeat b)] [] hB trivial ?_
  refine aw_seq ?_
  by_cases h1 : a.D = b.D
  ·by_cases h2 : ((a.X - b.X).natAbs : Int) ≤ 40
   ·refine aw_r [(4, .dec true), (11, .call [(true, .any)] true (I ((a.X - b.X).natAbs : Int))), (12, .dec true), (20, .call [(true, .any)] true (I ((a.Y - b.Y).natAbs : Int)))] [4] [] [Bv (decide (((a.Y - b.Y).natAbs : Int) ≤ 40))] [] [a.D = b.D, inR .i64 (a.X - b.X), Con Try.prog 78 [I (a.X - b.X)] true (I ((a.X - b.X).natAbs : Int)) ∧ True, ((a.X - b.X).natAbs : Int) ≤ 40, inR .i64 (a.Y - b.Y), Con Try.prog 78 [I (a.Y - b.Y)] true (I ((a.Y - b.Y).natAbs : Int)) ∧ True] hB ⟨h1, (inR_i64 (by omega) (by omega)), ⟨(abs_ok (a.X - b.X) (by omega)), trivial⟩, h2, (inR_i64 (by omega) (by omega)), ⟨(abs_ok (a.Y - b.Y) (by omega)), trivial⟩, trivial⟩ ?_
    refine ae_then ?_
    refine aw_ret ?_
    refine ae_ret hB (Bv (decide (((a.Y - b.Y).natAbs : Int) ≤ 40))) (by kernel_rfl) (.inl (by first | rfl | (refine congrArg Bv ?_; simp [nearB, *]; done) | (refine congrArg Bv ?_; simp [nearB, *]; omega) | (refine congrArg Bv ?_; simp_all [nearB]; done) | (refine congrArg Bv ?_; simp_all [nearB]; omega))) rfl (fun _ => trivial)
   refine aw_r [(4, .dec true), (11, .call [(true, .any)] true (I ((a.X - b.X).natAbs : Int))), (12, .dec false)] [4] [] [Bv false] [] [a.D = b.D, inR .i64 (a.X - b.X), Con Try.prog 78 [I (a.X - b.X)] true (I ((a.X - b.X).natAbs : Int)) ∧ True, ¬ (((a.X - b.X).natAbs : Int) ≤ 40)] hB ⟨h1, (inR_i64 (by omega) (by omega)), ⟨(abs_ok (a.X - b.X) (by omega)), trivial⟩, h2, trivial⟩ ?_
   refine ae_then ?_
   refine aw_ret ?_
   refine ae_ret hB (Bv false) (by kernel_rfl) (.inl (by first | rfl | (refine congrArg Bv ?_; simp [nearB, *]; done) | (refine congrArg Bv ?_; simp [nearB, *]; omega) | (refine congrArg Bv ?_; simp_all [nearB]; done) | (refine congrArg Bv ?_; simp_all [nearB]; omega))) rfl (fun _ => trivial)
  refine aw_r [(4, .dec false)] [4] [] [Bv false] [] [¬ (a.D = b.D)] hB ⟨h1, trivial⟩ ?_
  refine ae_then ?_
  refine aw_ret ?_
  refine ae_ret hB (Bv false) (by kernel_rfl) (.inl (by first | rfl | (refine congrArg Bv ?_; simp [nearB, *]; done) | (refine congrArg Bv ?_; simp [nearB, *]; omega) | (refine congrArg Bv ?_; simp_all [nearB]; done) | (refine congrArg Bv ?_; simp_all [nearB]; omega))) rfl (fun _ => trivial)


-- impl.ValidTrained
theorem equalNear_ok (s1 : List Feat) (s2 : List Feat) (hel : ∀ j, j < s1.length → j < s2.length → okF (at_ s1 j) = true ∧ okF (at_ s2 j) = true) : Con Try.prog 68 [slFeat false s1, slFeat false s2, .fn 69 []] true (Bv (decide (s1.length = s2.length) && allN s1.length (fun j => nearB (at_ s1 j) (at_ s2 j)))) := by
  refine fn_ok (fn := Try.f68) (nt := 32) Try.func68 rfl rfl rfl rfl (by simp [taggedL, tagged, tagFeat]) fun B hB => ?_
  refine aw_lens (x := slFeat false s1) 0 rfl (fun len_s1 => ?_)
  simp [LenOK, LenL, cFeat, fFeat, slFeat] at len_s1
  refine aw_lens (x := slFeat false s2) 1 rfl (fun len_s2 => ?_)
  simp [LenOK, LenL, cFeat, fFeat, slFeat] at len_s2
  refine aR [] [0, 1, 2] [] [slFeat false s1, slFeat false s2, .fn 69 []] [] [] hB trivial ?_
  refine aw_seq ?_
  refine aw_seq ?_
  by_cases h1 : (s1.length : Int) = (s2.length : Int)
  ·have hle :  s1.length = s2.length := by omega
   refine aw_r [(4, .dec false)] [0, 1, 2, 14] [] [slFeat false s1, slFeat false s2, .fn 69 [], Bv false] [] [¬ ((s1.length : Int) ≠ (s2.length : Int))] hB ⟨(fun hq => hq h1), trivial⟩ ?_
   refine ae_then ?_
   refine aw_false rfl ?_
   refine aw_skip ?_
   refine ae_then ?_
   refine aw_seq ?_
   refine aR [] [1, 2, 15, 16, 17] [] [slFeat false s2, .fn 69 [], slFeat false s1, I (s1.length : Int), I 0] [] [] hB trivial ?_
   refine aw_block ?_
   refine aw_loop (fun gn gσ => ∃ (t17 : Int), gn = ((s1.length : Int) - t17).toNat ∧ (0 ≤ t17 ∧ t17 ≤ (s1.length : Int)) ∧ (∀ j : Nat, (j : Int) < t17 → nearB (at_ s1 j) (at_ s2 j) = true) ∧ gσ = mkS [(1, slFeat false s2), (2, .fn 69 []), (15, slFeat false s1), (16, I (s1.length : Int)), (17, I t17)] []) (((s1.length : Int) - 0).toNat) ⟨0, rfl, (by omega), (by intro j hj; omega), rfl⟩ (fun gn gσ hI => ?_)
   obtain ⟨t17, rfl, hi0, hall0, rfl⟩ := hI
   refine aw_seq ?_
   by_cases h2 : t17 < (s1.length : Int)
   ·have hi : t17.toNat < s1.length := by omega
    have hi2 : t17.toNat < s2.length := by omega
    refine aw_r [(0, .dec true)] [1, 2, 15, 16, 17, 18] [] [slFeat false s2, .fn 69 [], slFeat false s1, I (s1.length : Int), I t17, Bv true] [] [t17 < (s1.length : Int)] hB ⟨h2, trivial⟩ ?_
    refine ae_then ?_
    refine aw_seq ?_
    refine aw_true rfl ?_
    refine aw_skip ?_
    refine ae_then ?_
    refine aw_seq ?_
    refine aw_block ?_
    refine aR [(3, .new 8)] [1, 2, 7, 8, 15, 16, 17] [8] [slFeat false s2, .fn 69 [], I t17, .ref 8 0, slFeat false s1, I (s1.length : Int), I t17] [some (bxFeat (at_ s1 t17.toNat))] [(0 : Int) ≤ t17 ∧ t17 < (s1.length : Int)] hB ⟨⟨(by omega), (by omega)⟩, trivial⟩ ?_
    refine aR [(4, .new 9)] [1, 2, 8, 9, 15, 16, 17] [8, 9] [slFeat false s2, .fn 69 [], .ref 8 0, .ref 9 0, slFeat false s1, I (s1.length : Int), I t17] [some (bxFeat (at_ s1 t17.toNat)), some (bxFeat (at_ s2 t17.toNat))] [(0 : Int) ≤ t17 ∧ t17 < (s2.length : Int)] hB ⟨⟨(by omega), (by omega)⟩, trivial⟩ ?_
    refine aw_seq ?_
    rcases Bool.eq_false_or_eq_true (nearB (at_ s1 t17.toNat) (at_ s2 t17.toNat)) with h3 | h3
    ·refine aw_r [(3, .call [(true, .any), (true, .any)] true (Bv true))] [1, 2, 15, 16, 17, 30] [] [slFeat false s2, .fn 69 [], slFeat false s1, I (s1.length : Int), I t17, Bv false] [] [Con Try.prog 69 [agFeat (at_ s1 t17.toNat), agFeat (at_ s2 t17.toNat)] true (Bv true) ∧ True] hB ⟨⟨(con_bool h3 (near_ok (at_ s1 t17.toNat) (at_ s2 t17.toNat) (hel _ hi hi2).1 (hel _ hi hi2).2)), trivial⟩, trivial⟩ ?_
     refine ae_then ?_
     refine aw_false rfl ?_
     refine aw_skip ?_
     refine ae_block 1 ?_
     refine ae_then ?_
     refine aw_r [] [1, 2, 15, 16, 17] [] [slFeat false s2, .fn 69 [], slFeat false s1, I (s1.length : Int), I (t17 + 1)] [] [inR .i64 (t17 + 1)] hB ⟨(inR_i64 (by omega) (by omega)), trivial⟩ ?_
     exact ae_again _ (by omega) ⟨(t17 + 1), rfl, (by omega), (by intro j hj; by_cases ej : j = t17.toNat; (subst ej; assumption); exact hall0 j (by omega)), rfl⟩
    have hfin : allN s1.length (fun j => nearB (at_ s1 j) (at_ s2 j)) = false := allN_not hi h3
    refine aw_r [(3, .call [(true, .any), (true, .any)] true (Bv false))] [1, 2, 15, 16, 17, 30] [] [slFeat false s2, .fn 69 [], slFeat false s1, I (s1.length : Int), I t17, Bv true] [] [Con Try.prog 69 [agFeat (at_ s1 t17.toNat), agFeat (at_ s2 t17.toNat)] true (Bv false) ∧ True] hB ⟨⟨(con_bool h3 (near_ok (at_ s1 t17.toNat) (at_ s2 t17.toNat) (hel _ hi hi2).1 (hel _ hi hi2).2)), trivial⟩, trivial⟩ ?_
    refine ae_then ?_
    refine aw_true rfl ?_
    refine aR [] [6] [] [Bv false] [] [] hB trivial ?_
    refine aw_ret ?_
    refine ae_ret_block (ae_ret_then (ae_ret_then (ae_ret_block (ae_ret_then ?_))))
    refine ae_ret hB (Bv false) (by kernel_rfl) (.inl (by refine congrArg Bv ?_; first | (rw [hfin, decide_eq_true hle]; rfl) | (rw [hfin, Bool.and_false]) | (rw [decide_eq_false hle, Bool.false_and]))) rfl (fun _ => trivial)
   have hfin : allN s1.length (fun j => nearB (at_ s1 j) (at_ s2 j)) = true := allN_at (fun j hj => hall0 j (by omega))
   have hle : s1.length = s2.length := by omega
   refine aw_r [(0, .dec false)] [1, 2, 15, 16, 17, 18] [] [slFeat false s2, .fn 69 [], slFeat false s1, I (s1.length : Int), I t17, Bv false] [] [¬ (t17 < (s1.length : Int))] hB ⟨h2, trivial⟩ ?_
   refine ae_then ?_
   refine aw_seq ?_
   refine aw_false rfl ?_
   refine aw_exit ?_
   refine ae_exit_then ?_
   refine ae_exit_then ?_
   refine ae_exit_same ?_
   refine ae_then ?_
   refine aR [] [6] [] [Bv true] [] [] hB trivial ?_
   refine aw_ret ?_
   refine ae_ret hB (Bv true) (by kernel_rfl) (.inl (by refine congrArg Bv ?_; first | (rw [hfin, decide_eq_true hle]; rfl) | (rw [hfin, Bool.and_false]) | (rw [decide_eq_false hle, Bool.false_and]))) rfl (fun _ => trivial)
  have hle : ¬ s1.length = s2.length := by omega
  refine aw_r [(4, .dec true)] [0, 1, 2, 14] [] [slFeat false s1, slFeat false s2, .fn 69 [], Bv true] [] [(s1.length : Int) ≠ (s2.length : Int)] hB ⟨h1, trivial⟩ ?_
  refine ae_then ?_
  refine aw_true rfl ?_
  refine aR [] [6] [] [Bv false] [] [] hB trivial ?_
  refine aw_ret ?_
  refine ae_ret_then ?_
  refine ae_ret hB (Bv false) (by kernel_rfl) (.inl (by refine congrArg Bv ?_; first | (rw [hfin, decide_eq_true hle]; rfl) | (rw [hfin, Bool.and_false]) | (rw [decide_eq_false hle, Bool.false_and]))) rfl (fun _ => trivial)

theorem ValidTrained_ok (t : Trained) (ok : okTrained t) : Con Try.prog 57 [agTrained t] true (Bv (okTrained' t)) := by
  refine fn_ok (fn := Try.f57) (nt := 28) Try.func57 rfl rfl rfl rfl (by simp [taggedL, tagged, tagFeat]) fun B hB => ?_
  refine aw_lens (x := agTrained t) 0 rfl (fun len_t => ?_)
  simp [LenOK, LenL, cFeat, fFeat, slFeat] at len_t
  refine aR [(0, .new 1)] [1] [1] [.ref 1 0] [some (bxTrained t)] [] hB trivial ?_
  refine aw_seq ?_
  rcases Bool.eq_false_or_eq_true (okLabel t.Label) with h1 | h1
  ·rcases Bool.eq_false_or_eq_true (okFeats t.Base 72) with h2 | h2
   ·rcases Bool.eq_false_or_eq_true (okFeats t.Feats 72) with h3 | h3
    ·rcases Bool.eq_false_or_eq_true (decide (t.Base.length = t.Feats.length) && allN t.Base.length (fun j => nearB (at_ t.Base j) (at_ t.Feats j))) with h4 | h4
     ·refine aw_r [(2, .call [(true, .any)] true (Bv true)), (6, .call [(true, .any)] true (Bv true)), (11, .call [(true, .any)] true (Bv true)), (18, .call [(true, .any), (true, .any), (true, .any)] true (Bv true)), (23, .call [(true, .any), (true, .any), (true, .any)] true (Bv (inB t.Count 0 100)))] [2] [] [Bv (inB t.Count 0 100)] [] [Con Try.prog 63 [Sv t.Label] true (Bv true) ∧ True, Con Try.prog 64 [slFeat false t.Base] true (Bv true) ∧ True, Con Try.prog 64 [slFeat false t.Feats] true (Bv true) ∧ True, Con Try.prog 68 [slFeat false t.Base, slFeat false t.Feats, .fn 69 []] true (Bv true) ∧ True, Con Try.prog 42 [I t.Count, I 0, I 100] true (Bv (inB t.Count 0 100)) ∧ True] hB ⟨⟨(con_bool h1 (implIsLabel_ok t.Label ok)), trivial⟩, ⟨(con_bool h2 (ValidSeq_ok t.Base)), trivial⟩, ⟨(con_bool h3 (ValidSeq_ok t.Feats)), trivial⟩, ⟨(con_bool h4 (equalNear_ok t.Base t.Feats (fun j h1 h2 => ⟨okFeats_at (by assumption) h1, okFeats_at (by assumption) h2⟩))), trivial⟩, ⟨(within_ok t.Count 0 100), trivial⟩, trivial⟩ ?_
      refine ae_then ?_
      refine aw_ret ?_
      refine ae_ret hB (Bv (inB t.Count 0 100)) (by kernel_rfl) (.inl (by first | rfl | (refine congrArg Bv ?_; simp [okTrained', inB, *]; done) | (refine congrArg Bv ?_; simp [okTrained', inB, *]; omega) | (refine congrArg Bv ?_; simp_all [okTrained', inB]; done) | (refine congrArg Bv ?_; simp_all [okTrained', inB]; omega))) rfl (fun _ => trivial)
     refine aw_r [(2, .call [(true, .any)] true (Bv true)), (6, .call [(true, .any)] true (Bv true)), (11, .call [(true, .any)] true (Bv true)), (18, .call [(true, .any), (true, .any), (true, .any)] true (Bv false))] [2] [] [Bv false] [] [Con Try.prog 63 [Sv t.Label] true (Bv true) ∧ True, Con Try.prog 64 [slFeat false t.Base] true (Bv true) ∧ True, Con Try.prog 64 [slFeat false t.Feats] true (Bv true) ∧ True, Con Try.prog 68 [slFeat false t.Base, slFeat false t.Feats, .fn 69 []] true (Bv false) ∧ True] hB ⟨⟨(con_bool h1 (implIsLabel_ok t.Label ok)), trivial⟩, ⟨(con_bool h2 (ValidSeq_ok t.Base)), trivial⟩, ⟨(con_bool h3 (ValidSeq_ok t.Feats)), trivial⟩, ⟨(con_bool h4 (equalNear_ok t.Base t.Feats (fun j h1 h2 => ⟨okFeats_at (by assumption) h1, okFeats_at (by assumption) h2⟩))), trivial⟩, trivial⟩ ?_
     refine ae_then ?_
     refine aw_ret ?_
     refine ae_ret hB (Bv false) (by kernel_rfl) (.inl (by first | rfl | (refine congrArg Bv ?_; simp [okTrained', inB, *]; done) | (refine congrArg Bv ?_; simp [okTrained', inB, *]; omega) | (refine congrArg Bv ?_; simp_all [okTrained', inB]; done) | (refine congrArg Bv ?_; simp_all [okTrained', inB]; omega))) rfl (fun _ => trivial)
    refine aw_r [(2, .call [(true, .any)] true (Bv true)), (6, .call [(true, .any)] true (Bv true)), (11, .call [(true, .any)] true (Bv false))] [2] [] [Bv false] [] [Con Try.prog 63 [Sv t.Label] true (Bv true) ∧ True, Con Try.prog 64 [slFeat false t.Base] true (Bv true) ∧ True, Con Try.prog 64 [slFeat false t.Feats] true (Bv false) ∧ True] hB ⟨⟨(con_bool h1 (implIsLabel_ok t.Label ok)), trivial⟩, ⟨(con_bool h2 (ValidSeq_ok t.Base)), trivial⟩, ⟨(con_bool h3 (ValidSeq_ok t.Feats)), trivial⟩, trivial⟩ ?_
    refine ae_then ?_
    refine aw_ret ?_
    refine ae_ret hB (Bv false) (by kernel_rfl) (.inl (by first | rfl | (refine congrArg Bv ?_; simp [okTrained', inB, *]; done) | (refine congrArg Bv ?_; simp [okTrained', inB, *]; omega) | (refine congrArg Bv ?_; simp_all [okTrained', inB]; done) | (refine congrArg Bv ?_; simp_all [okTrained', inB]; omega))) rfl (fun _ => trivial)
   refine aw_r [(2, .call [(true, .any)] true (Bv true)), (6, .call [(true, .any)] true (Bv false))] [2] [] [Bv false] [] [Con Try.prog 63 [Sv t.Label] true (Bv true) ∧ True, Con Try.prog 64 [slFeat false t.Base] true (Bv false) ∧ True] hB ⟨⟨(con_bool h1 (implIsLabel_ok t.Label ok)), trivial⟩, ⟨(con_bool h2 (ValidSeq_ok t.Base)), trivial⟩, trivial⟩ ?_
   refine ae_then ?_
   refine aw_ret ?_
   refine ae_ret hB (Bv false) (by kernel_rfl) (.inl (by first | rfl | (refine congrArg Bv ?_; simp [okTrained', inB, *]; done) | (refine congrArg Bv ?_; simp [okTrained', inB, *]; omega) | (refine congrArg Bv ?_; simp_all [okTrained', inB]; done) | (refine congrArg Bv ?_; simp_all [okTrained', inB]; omega))) rfl (fun _ => trivial)
  refine aw_r [(2, .call [(true, .any)] true (Bv false))] [2] [] [Bv false] [] [Con Try.prog 63 [Sv t.Label] true (Bv false) ∧ True] hB ⟨⟨(con_bool h1 (implIsLabel_ok t.Label ok)), trivial⟩, trivial⟩ ?_
  refine ae_then ?_
  refine aw_ret ?_
  refine ae_ret hB (Bv false) (by kernel_rfl) (.inl (by first | rfl | (refine congrArg Bv ?_; simp [okTrained', inB, *]; done) | (refine congrArg Bv ?_; simp [okTrained', inB, *]; omega) | (refine congrArg Bv ?_; simp_all [okTrained', inB]; done) | (refine congrArg Bv ?_; simp_all [okTrained', inB]; omega))) rfl (fun _ => trivial)


-- impl.ValidWriter$1
theorem ValidWriter1_ok (t : Trained) (ok : okTrained t) : Con Try.prog 56 [agTrained t] true (Bv (!(okTrained' t))) := by
  refine fn_ok (fn := Try.f56) (nt := 6) Try.func56 rfl rfl rfl rfl (by simp [taggedL, tagged, tagFeat]) fun B hB => ?_
  refine aw_lens (x := agTrained t) 0 rfl (fun len_t => ?_)
  simp [LenOK, LenL, cFeat, fFeat, slFeat] at len_t
  refine aR [(0, .new 1)] [1] [1] [.ref 1 0] [some (bxTrained t)] [] hB trivial ?_
  refine aR [(1, .call [(true, .any)] true (Bv (okTrained' t)))] [2] [] [Bv (!(okTrained' t))] [] [Con Try.prog 57 [agTrained t] true (Bv (okTrained' t)) ∧ True] hB ⟨⟨(ValidTrained_ok t ok), trivial⟩, trivial⟩ ?_
  refine aw_ret ?_
  refine ae_ret hB (Bv (!(okTrained' t))) (by kernel_rfl) (.inl rfl) rfl (fun _ => trivial)


-- impl.ValidWriter
theorem containsTr_ok_idx (s : List Trained) (hel : ∀ j, j < s.length → okTrained (at_ s j)) : Con Try.prog 67 [slTrained false s, .fn 56 []] true (I (firstN s.length (fun j => (!(okTrained' (at_ s j)))))) := by
  refine fn_ok (fn := Try.f67) (nt := 19) Try.func67 rfl rfl rfl rfl (by simp [taggedL, tagged, tagTrained]) fun B hB => ?_
  refine aw_lens (x := slTrained false s) 0 rfl (fun len_s => ?_)
  simp [LenOK, LenL, cFeat, cTrained, fFeat, fTrained, slFeat, slTrained] at len_s
  refine aR [] [0, 1] [] [slTrained false s, .fn 56 []] [] [] hB trivial ?_
  refine aw_seq ?_
  refine aR [] [0, 1, 7, 8] [] [slTrained false s, .fn 56 [], I (s.length : Int), I 0] [] [] hB trivial ?_
  refine aw_block ?_
  refine aw_loop (fun gn gσ => ∃ (t8 : Int), gn = ((s.length : Int) - t8).toNat ∧ (0 ≤ t8 ∧ t8 ≤ (s.length : Int)) ∧ (∀ j : Nat, (j : Int) < t8 → (!(okTrained' (at_ s j))) = false) ∧ gσ = mkS [(0, slTrained false s), (1, .fn 56 []), (7, I (s.length : Int)), (8, I t8)] []) (((s.length : Int) - 0).toNat) ⟨0, rfl, (by omega), (by intro j hj; omega), rfl⟩ (fun gn gσ hI => ?_)
  obtain ⟨t8, rfl, hi0, hall0, rfl⟩ := hI
  refine aw_seq ?_
  by_cases h1 : t8 < (s.length : Int)
  ·have hi : t8.toNat < s.length := by omega
   refine aw_r [(0, .dec true)] [0, 1, 7, 8, 9] [] [slTrained false s, .fn 56 [], I (s.length : Int), I t8, Bv true] [] [t8 < (s.length : Int)] hB ⟨h1, trivial⟩ ?_
   refine ae_then ?_
   refine aw_seq ?_
   refine aw_true rfl ?_
   refine aw_skip ?_
   refine ae_then ?_
   refine aw_seq ?_
   refine aw_block ?_
   refine aR [] [0, 1, 5, 7, 8] [] [slTrained false s, .fn 56 [], I t8, I (s.length : Int), I t8] [] [] hB trivial ?_
   refine aw_seq ?_
   rcases Bool.eq_false_or_eq_true (!(okTrained' (at_ s t8.toNat))) with h2 | h2
   ·have hfin : firstN s.length (fun j => (!(okTrained' (at_ s j)))) = t8.toNat := firstN_hit hi h2 (fun j hj => hall0 j (by omega))
    refine aw_r [(5, .call [(true, .any)] true (Bv true))] [0, 1, 5, 7, 8, 16] [] [slTrained false s, .fn 56 [], I t8, I (s.length : Int), I t8, Bv true] [] [(0 : Int) ≤ t8 ∧ t8 < (s.length : Int), Con Try.prog 56 [agTrained (at_ s t8.toNat)] true (Bv true) ∧ True] hB ⟨⟨(by omega), (by omega)⟩, ⟨(con_bool h2 (ValidWriter1_ok (at_ s t8.toNat) (hel _ hi))), trivial⟩, trivial⟩ ?_
    refine ae_then ?_
    refine aw_true rfl ?_
    refine aR [] [4] [] [I t8] [] [] hB trivial ?_
    refine aw_ret ?_
    refine ae_ret_block (ae_ret_then (ae_ret_then (ae_ret_block (ae_ret_then ?_))))
    refine ae_ret hB (I t8) (by kernel_rfl) (.inl (by refine congrArg I ?_; first | (rw [hfin]; done) | (rw [hfin]; omega))) rfl (fun _ => trivial)
   refine aw_r [(5, .call [(true, .any)] true (Bv false))] [0, 1, 5, 7, 8, 16] [] [slTrained false s, .fn 56 [], I t8, I (s.length : Int), I t8, Bv false] [] [(0 : Int) ≤ t8 ∧ t8 < (s.length : Int), Con Try.prog 56 [agTrained (at_ s t8.toNat)] true (Bv false) ∧ True] hB ⟨⟨(by omega), (by omega)⟩, ⟨(con_bool h2 (ValidWriter1_ok (at_ s t8.toNat) (hel _ hi))), trivial⟩, trivial⟩ ?_
   refine ae_then ?_
   refine aw_false rfl ?_
   refine aw_skip ?_
   refine ae_block 1 ?_
   refine ae_then ?_
   refine aw_r [] [0, 1, 7, 8] [] [slTrained false s, .fn 56 [], I (s.length : Int), I (t8 + 1)] [] [inR .i64 (t8 + 1)] hB ⟨(inR_i64 (by omega) (by omega)), trivial⟩ ?_
   exact ae_again _ (by omega) ⟨(t8 + 1), rfl, (by omega), (by intro j hj; by_cases ej : j = t8.toNat; (subst ej; first | assumption | rfl); exact hall0 j (by omega)), rfl⟩
  have hfin : firstN s.length (fun j => (!(okTrained' (at_ s j)))) = -1 := firstN_none (fun j hj => hall0 j (by omega))
  refine aw_r [(0, .dec false)] [0, 1, 7, 8, 9] [] [slTrained false s, .fn 56 [], I (s.length : Int), I t8, Bv false] [] [¬ (t8 < (s.length : Int))] hB ⟨h1, trivial⟩ ?_
  refine ae_then ?_
  refine aw_seq ?_
  refine aw_false rfl ?_
  refine aw_exit ?_
  refine ae_exit_then ?_
  refine ae_exit_then ?_
  refine ae_exit_same ?_
  refine ae_then ?_
  refine aR [] [4] [] [I (-1)] [] [] hB trivial ?_
  refine aw_ret ?_
  refine ae_ret hB (I (-1)) (by kernel_rfl) (.inl (by refine congrArg I ?_; first | (rw [hfin]; done) | (rw [hfin]; omega))) rfl (fun _ => trivial)

theorem containsTr_ok (s : List Trained) (hel : ∀ j, j < s.length → okTrained (at_ s j)) : Con Try.prog 55 [slTrained false s, .fn 56 []] true (Bv (anyN s.length (fun j => (!(okTrained' (at_ s j)))))) := by
  refine fn_ok (fn := Try.f55) (nt := 9) Try.func55 rfl rfl rfl rfl (by simp [taggedL, tagged, tagTrained]) fun B hB => ?_
  refine aw_lens (x := slTrained false s) 0 rfl (fun len_s => ?_)
  simp [LenOK, LenL, cFeat, cTrained, fFeat, fTrained, slFeat, slTrained] at len_s
  refine aR [] [0, 1] [] [slTrained false s, .fn 56 []] [] [] hB trivial ?_
  refine aR [(2, .call [(true, .any), (true, .any)] true (I (firstN s.length (fun j => (!(okTrained' (at_ s j)))))))] [4] [] [Bv (decide (0 ≤ (firstN s.length (fun j => (!(okTrained' (at_ s j)))))))] [] [Con Try.prog 67 [slTrained false s, .fn 56 []] true (I (firstN s.length (fun j => (!(okTrained' (at_ s j)))))) ∧ True] hB ⟨⟨(containsTr_ok_idx s hel), trivial⟩, trivial⟩ ?_
  refine aw_ret ?_
  refine ae_ret hB (Bv (decide (0 ≤ (firstN s.length (fun j => (!(okTrained' (at_ s j)))))))) (by kernel_rfl) (.inl (by exact congrArg Bv (firstN_any _ _))) rfl (fun _ => trivial)

theorem ValidWriter_ok (w : Writer) (ok : okWriter w) : Con Try.prog 34 [agWriter w] true (Bv (okWriter' w)) := by
  refine fn_ok (fn := Try.f34) (nt := 18) Try.func34 rfl rfl rfl rfl (by simp [taggedL, tagged, tagTrained]) fun B hB => ?_
  refine aw_lens (x := agWriter w) 0 rfl (fun len_w => ?_)
  simp [LenOK, LenL, cFeat, cTrained, fFeat, fTrained, slFeat, slTrained] at len_w
  refine aR [(0, .new 1)] [1] [1] [.ref 1 0] [some (bxWriter w)] [] hB trivial ?_
  refine aw_seq ?_
  rcases Bool.eq_false_or_eq_true (inB w.Band 0 72) with h1 | h1
  ·by_cases h2 : (w.Trained.length : Int) ≤ 40
   ·refine aw_r [(2, .call [(true, .any), (true, .any), (true, .any)] true (Bv true)), (7, .dec true), (12, .call [(true, .any), (true, .any)] true (Bv (anyN w.Trained.length (fun j => (!(okTrained' (at_ w.Trained j)))))))] [2] [] [Bv (!(anyN w.Trained.length (fun j => (!(okTrained' (at_ w.Trained j))))))] [] [Con Try.prog 42 [I w.Band, I 0, I 72] true (Bv true) ∧ True, (w.Trained.length : Int) ≤ 40, Con Try.prog 55 [slTrained false w.Trained, .fn 56 []] true (Bv (anyN w.Trained.length (fun j => (!(okTrained' (at_ w.Trained j)))))) ∧ True] hB ⟨⟨(con_bool h1 (within_ok w.Band 0 72)), trivial⟩, h2, ⟨(containsTr_ok w.Trained (fun j hj => ok _ (at_mem hj))), trivial⟩, trivial⟩ ?_
    refine ae_then ?_
    refine aw_ret ?_
    refine ae_ret hB (Bv (!(anyN w.Trained.length (fun j => (!(okTrained' (at_ w.Trained j))))))) (by kernel_rfl) (.inl (by first | rfl | (refine congrArg Bv ?_; simp [okWriter', anyN_not, *]; done) | (refine congrArg Bv ?_; simp [okWriter', anyN_not, *]; omega) | (refine congrArg Bv ?_; simp_all [okWriter', anyN_not]; done) | (refine congrArg Bv ?_; simp_all [okWriter', anyN_not]; omega))) rfl (fun _ => trivial)
   refine aw_r [(2, .call [(true, .any), (true, .any), (true, .any)] true (Bv true)), (7, .dec false)] [2] [] [Bv false] [] [Con Try.prog 42 [I w.Band, I 0, I 72] true (Bv true) ∧ True, ¬ ((w.Trained.length : Int) ≤ 40)] hB ⟨⟨(con_bool h1 (within_ok w.Band 0 72)), trivial⟩, h2, trivial⟩ ?_
   refine ae_then ?_
   refine aw_ret ?_
   refine ae_ret hB (Bv false) (by kernel_rfl) (.inl (by first | rfl | (refine congrArg Bv ?_; simp [okWriter', anyN_not, *]; done) | (refine congrArg Bv ?_; simp [okWriter', anyN_not, *]; omega) | (refine congrArg Bv ?_; simp_all [okWriter', anyN_not]; done) | (refine congrArg Bv ?_; simp_all [okWriter', anyN_not]; omega))) rfl (fun _ => trivial)
  refine aw_r [(2, .call [(true, .any), (true, .any), (true, .any)] true (Bv false))] [2] [] [Bv false] [] [Con Try.prog 42 [I w.Band, I 0, I 72] true (Bv false) ∧ True] hB ⟨⟨(con_bool h1 (within_ok w.Band 0 72)), trivial⟩, trivial⟩ ?_
  refine ae_then ?_
  refine aw_ret ?_
  refine ae_ret hB (Bv false) (by kernel_rfl) (.inl (by first | rfl | (refine congrArg Bv ?_; simp [okWriter', anyN_not, *]; done) | (refine congrArg Bv ?_; simp [okWriter', anyN_not, *]; omega) | (refine congrArg Bv ?_; simp_all [okWriter', anyN_not]; done) | (refine congrArg Bv ?_; simp_all [okWriter', anyN_not]; omega))) rfl (fun _ => trivial)


-- impl.Feat]
theorem cloneF0_ok (s : List Feat) (hl : s.length ≤ 100000) : ∃ (out : List Feat), (out = s) ∧ CallOK Try.prog 35 [slFeat false s] (lookO []) false (.arr 8311) (lookO [(8311, .arr 3 out.length (fFeat out))]) := by
  refine ⟨s, rfl, ?_⟩
  refine fn_okL [] [(8311, .arr 3 s.length (fFeat s))] (fn := Try.f35) (nt := 8) Try.func35 rfl rfl (args := [slFeat false s]) rfl (allcons (.inl ⟨rfl, tagFeat false _⟩) allnil) (res := .arr 8311) (fun B hB => ?_)
  refine aw_seq ?_
  refine aw_reg [] [0] [] [slFeat false s] [] [] (by kernel_rfl) hB trivial ?_
  refine ae_then ?_
  refine aw_seq ?_
  refine aw_seq ?_
  refine aw_reg [] [0, 4] [] [slFeat false s, .nilq s.length] [] [] (by kernel_rfl) hB trivial ?_
  refine ae_then ?_
  refine aw_nilq (n := s.length) rfl (fun h1 => ?_) ?_
  · refine aw_seq ?_
    refine aw_reg [] [2] [] [nilA] [] [] (by kernel_rfl) hB trivial ?_
    refine ae_then ?_
    refine aw_ret ?_
    refine ae_ret_then ?_
    refine ae_nil hB 2 8311 3 (fun _ => []) (by kernel_rfl) ?_
    refine ae_weak hB [] (T := [(2, .arr 8311)]) (O := [(8311, .arr 3 s.length (fFeat s))]) rfl (⟨.inl rfl, trivial⟩) (⟨.inr ⟨rfl, (by omega), fun i_ hi_ => absurd hi_ (by omega)⟩, trivial⟩) ?_
    refine ae_retL hB [(8311, .arr 3 s.length (fFeat s))] (⟨.inl rfl, trivial⟩) (.arr 8311) (by kernel_rfl) (.inl rfl) (fun h => by cases h) (fun h => by cases h)
  · refine aw_skip ?_
    refine ae_then ?_
    refine aw_seq ?_
    refine aw_reg [(0, .new 5), (2, .new 7)] [2] [7] [.arr 7] [some (.arr 3 (0 + s.length) (catF 0 (litF [] 3) (fFeat s)))] [(0 + s.length) * 24 ≤ 140737488355328] (by kernel_rfl) hB ⟨(by omega), trivial⟩ ?_
    refine ae_then ?_
    refine aw_ret ?_
    refine ae_weak hB [(8311, 7)] (T := [(2, .arr 8311)]) (O := [(8311, .arr 3 s.length (fFeat s))]) rfl (⟨.inl rfl, trivial⟩) (⟨.inr ⟨rfl, (by simp), fun i_ hi_ => .inl (cat_nil i_)⟩, trivial⟩) ?_
    refine ae_retL hB [(8311, .arr 3 s.length (fFeat s))] (⟨.inl rfl, trivial⟩) (.arr 8311) (by kernel_rfl) (.inl rfl) (fun h => by cases h) (fun h => by cases h)

theorem cloneF1_ok (s : List Feat) (hl : s.length ≤ 100000) : ∃ (out : List Feat), (out = s) ∧ CallOK Try.prog 35 [slFeat false s] (lookO []) false (.arr 8312) (lookO [(8312, .arr 3 out.length (fFeat out))]) := by
  refine ⟨s, rfl, ?_⟩
  refine fn_okL [] [(8312, .arr 3 s.length (fFeat s))] (fn := Try.f35) (nt := 8) Try.func35 rfl rfl (args := [slFeat false s]) rfl (allcons (.inl ⟨rfl, tagFeat false _⟩) allnil) (res := .arr 8312) (fun B hB => ?_)
  refine aw_seq ?_
  refine aw_reg [] [0] [] [slFeat false s] [] [] (by kernel_rfl) hB trivial ?_
  refine ae_then ?_
  refine aw_seq ?_
  refine aw_seq ?_
  refine aw_reg [] [0, 4] [] [slFeat false s, .nilq s.length] [] [] (by kernel_rfl) hB trivial ?_
  refine ae_then ?_
  refine aw_nilq (n := s.length) rfl (fun h1 => ?_) ?_
  · refine aw_seq ?_
    refine aw_reg [] [2] [] [nilA] [] [] (by kernel_rfl) hB trivial ?_
    refine ae_then ?_
    refine aw_ret ?_
    refine ae_ret_then ?_
    refine ae_nil hB 2 8312 3 (fun _ => []) (by kernel_rfl) ?_
    refine ae_weak hB [] (T := [(2, .arr 8312)]) (O := [(8312, .arr 3 s.length (fFeat s))]) rfl (⟨.inl rfl, trivial⟩) (⟨.inr ⟨rfl, (by omega), fun i_ hi_ => absurd hi_ (by omega)⟩, trivial⟩) ?_
    refine ae_retL hB [(8312, .arr 3 s.length (fFeat s))] (⟨.inl rfl, trivial⟩) (.arr 8312) (by kernel_rfl) (.inl rfl) (fun h => by cases h) (fun h => by cases h)
  · refine aw_skip ?_
    refine ae_then ?_
    refine aw_seq ?_
    refine aw_reg [(0, .new 5), (2, .new 7)] [2] [7] [.arr 7] [some (.arr 3 (0 + s.length) (catF 0 (litF [] 3) (fFeat s)))] [(0 + s.length) * 24 ≤ 140737488355328] (by kernel_rfl) hB ⟨(by omega), trivial⟩ ?_
    refine ae_then ?_
    refine aw_ret ?_
    refine ae_weak hB [(8312, 7)] (T := [(2, .arr 8312)]) (O := [(8312, .arr 3 s.length (fFeat s))]) rfl (⟨.inl rfl, trivial⟩) (⟨.inr ⟨rfl, (by simp), fun i_ hi_ => .inl (cat_nil i_)⟩, trivial⟩) ?_
    refine ae_retL hB [(8312, .arr 3 s.length (fFeat s))] (⟨.inl rfl, trivial⟩) (.arr 8312) (by kernel_rfl) (.inl rfl) (fun h => by cases h) (fun h => by cases h)


def Template.withFeats (x : Template) (ys : List Feat) : Template := Template.mk x.Label ys
def oTemplatec (F : Nat) (x : Template) (i : Nat) : List AV := [Sv x.Label, .row F i]
def oTemplate (F : Nat) (xs : List Template) (i : Nat) : List AV := oTemplatec F (at_ xs i) i
def mTemplate (xs : List Template) (p : Nat) : Nat := ((at_ xs p).Feats).length
def gTemplate (xs : List Template) (p : Nat) : Nat → List AV := fFeat ((at_ xs p).Feats)
theorem oleTemplate {ob : Nat → Option Ob} {F : Nat} (fr : Bool) (xs : List Template) (h : ob F = some (.fam xs.length 3 (mTemplate xs) (gTemplate xs))) : ∀ i, i < xs.length → AV.idsL (fTemplate fr xs i) = [] ∧ leL ob true (oTemplate F xs i) (fTemplate fr xs i) :=
  fun i hi => And.intro rfl (And.intro rfl (And.intro (le_row h hi rfl (fun q _ => .inl rfl)) rfl))
theorem olecatTemplate {ob : Nat → Option Ob} {F : Nat} (fr : Bool) (xs : List Template) (x : Template) {f : Nat → List AV} (h : ob F = some (.fam xs.length 3 (mTemplate xs) (gTemplate xs))) (hx : leL ob true (f 0) (cTemplate fr x)) : ∀ i, i < (xs ++ [x]).length → AV.idsL (fTemplate fr (xs ++ [x]) i) = [] ∧ leL ob true (catF xs.length (oTemplate F xs) f i) (fTemplate fr (xs ++ [x]) i) := by
  intro i hi
  by_cases hl : i < xs.length
  · have := oleTemplate fr xs h i hl
    rw [catF_lt hl]
    have e : fTemplate fr (xs ++ [x]) i = fTemplate fr xs i := by show cTemplate fr (at_ _ _) = cTemplate fr (at_ _ _); rw [at_left hl]
    rw [e]; exact this
  · have e : i = xs.length := by simp at hi; omega
    subst e
    rw [catF_ge (Nat.le_refl _), Nat.sub_self]
    have e : fTemplate fr (xs ++ [x]) xs.length = cTemplate fr x := by show cTemplate fr (at_ _ _) = _; rw [at_right (Nat.le_refl _)]; simp [at_]
    rw [e]; exact ⟨rfl, hx⟩
theorem ocatTemplate {F j N : Nat} (hF : Nat.beq F j = false) {xs : List Template} {x : Template} {g : Nat → List AV} (hN : N = xs.length) (hx : AV.joiL j F N (g 0) = oTemplatec F x N) : ∀ i, i < (xs ++ [x]).length → AV.joiL j F N (catF xs.length (oTemplate F xs) g i) = oTemplate F (xs ++ [x]) i := by
  subst hN
  intro i hi
  by_cases h : i < xs.length
  · rw [catF_lt h]
    simp [oTemplate, oTemplatec, at_left h, AV.joiL, AV.joi, hF]
  · have e : i = xs.length := by simp at hi; omega
    subst e
    rw [catF_ge (Nat.le_refl _), Nat.sub_self, hx]
    simp [oTemplate, at_right (Nat.le_refl _), at_]
theorem fcatTemplate {xs : List Template} (x : Template) {n : Nat} {f : Nat → List AV} (hn : n = x.Feats.length) (hf : ∀ i, i < n → f i = fFeat x.Feats i) : xs.length + 1 = (xs ++ [x]).length ∧ 3 = 3 ∧ ∀ p, p < (xs ++ [x]).length → famUp xs.length n (mTemplate xs) p = mTemplate (xs ++ [x]) p ∧ ∀ i, i < mTemplate (xs ++ [x]) p → famUpF xs.length f (gTemplate xs) p i = gTemplate (xs ++ [x]) p i ∨ (AV.idsL (gTemplate (xs ++ [x]) p i) = [] ∧ leL (fun _ => none) false (famUpF xs.length f (gTemplate xs) p i) (gTemplate (xs ++ [x]) p i)) := by
  refine ⟨by simp, rfl, fun p hp => ?_⟩
  by_cases h : p < xs.length
  · have e : Nat.beq p xs.length = false := Bool.eq_false_iff.2 fun e => by have := Nat.eq_of_beq_eq_true e; omega
    simp [famUp, famUpF, e, mTemplate, gTemplate, at_left h]
  · have e : p = xs.length := by simp at hp; omega
    subst e
    have e2 : at_ (xs ++ [x]) xs.length = x := by simp [at_right (Nat.le_refl _), at_]
    simp only [famUp, famUpF, Nat.beq_refl, cond_true, mTemplate, gTemplate, e2]
    exact ⟨hn, fun i hi => .inl (hf i (by omega))⟩
theorem osetTemplate (F P : Nat) (xs : List Template) (ys : List Feat) (i : Nat) : oTemplate F xs i = oTemplate F (xs.set P (Template.withFeats (at_ xs P) ys)) i := by
  unfold oTemplate
  by_cases h : P = i
  · subst h
    by_cases hl : P < xs.length
    · simp [at_, hl, oTemplatec, Template.withFeats]
    · rw [List.set_eq_of_length_le (by omega)]
  · simp [at_, h]
theorem fsameTemplate {xs : List Template} {P : Nat} {x' : Template} (hx : x'.Feats = (at_ xs P).Feats) : xs.length = (xs.set P x').length ∧ 3 = 3 ∧ ∀ p, p < (xs.set P x').length → mTemplate xs p = mTemplate (xs.set P x') p ∧ ∀ i, i < mTemplate (xs.set P x') p → gTemplate xs p i = gTemplate (xs.set P x') p i ∨ (AV.idsL (gTemplate (xs.set P x') p i) = [] ∧ leL (fun _ => none) false (gTemplate xs p i) (gTemplate (xs.set P x') p i)) := by
  refine ⟨by simp, rfl, fun p hp => ?_⟩
  have e : (at_ (xs.set P x') p).Feats = (at_ xs p).Feats := by
    by_cases h : p = P
    · subst h; rw [at_set_eq (by simpa using hp)]; exact hx
    · rw [at_set_ne h]
  simp only [mTemplate, gTemplate, e]
  first | exact ⟨trivial, fun i hi => .inl rfl⟩ | exact ⟨trivial, fun i hi => .inl trivial⟩
theorem fputTemplate {xs : List Template} {P m1 : Nat} {ys : List Feat} {f1 : Nat → List AV} (hP : P < xs.length) (hm : m1 = ys.length) (hf : ∀ i, i < m1 → f1 i = fFeat ys i) : xs.length = (xs.set P (Template.withFeats (at_ xs P) ys)).length ∧ 3 = 3 ∧ ∀ p, p < (xs.set P (Template.withFeats (at_ xs P) ys)).length → famUp P m1 (mTemplate xs) p = mTemplate (xs.set P (Template.withFeats (at_ xs P) ys)) p ∧ ∀ i, i < mTemplate (xs.set P (Template.withFeats (at_ xs P) ys)) p → famUpF P f1 (gTemplate xs) p i = gTemplate (xs.set P (Template.withFeats (at_ xs P) ys)) p i ∨ (AV.idsL (gTemplate (xs.set P (Template.withFeats (at_ xs P) ys)) p i) = [] ∧ leL (fun _ => none) false (famUpF P f1 (gTemplate xs) p i) (gTemplate (xs.set P (Template.withFeats (at_ xs P) ys)) p i)) := by
  refine ⟨by simp, rfl, fun p hp => ?_⟩
  by_cases h : p = P
  · subst h
    have e : (at_ (xs.set p (Template.withFeats (at_ xs p) ys)) p).Feats = ys := by rw [at_set_eq hP]; rfl
    simp only [mTemplate, gTemplate, famUp_at, famUpF_at, e]
    exact ⟨hm, fun i hi => .inl (hf i (by omega))⟩
  · have e : at_ (xs.set P (Template.withFeats (at_ xs P) ys)) p = at_ xs p := at_set_ne h
    simp only [mTemplate, gTemplate, famUp_ne _ _ h, famUpF_ne _ _ h, e]
    first | exact ⟨trivial, fun i hi => .inl rfl⟩ | exact ⟨trivial, fun i hi => .inl trivial⟩
theorem oputTemplate (F0 P : Nat) {xs : List Template} {x' : Template} (i : Nat) (hi : i < (xs.set P x').length) : (bif Nat.beq i P then oTemplatec F0 x' P else oTemplate F0 xs i) = oTemplate F0 (xs.set P x') i := by
  by_cases h : i = P
  · subst h
    have hl : i < xs.length := by simpa using hi
    simp only [Nat.beq_refl, cond_true, oTemplate, at_set_eq hl]
  · simp only [beq_ne h, cond_false, oTemplate, at_set_ne h]
theorem opreTemplate {F0 j0 P : Nat} (h00 : Nat.beq F0 j0 = false)  {xs : List Template} {x : Template} (hP : P = xs.length) (i : Nat) : (AV.joiL j0 F0 xs.length (bif Nat.beq i P then spl (catF xs.length (oTemplate F0 xs) (fun _ => [Sv (⟨#[]⟩ : ByteArray), nilA]) P) 0 [Sv x.Label, .arr j0] else catF xs.length (oTemplate F0 xs) (fun _ => [Sv (⟨#[]⟩ : ByteArray), nilA]) i)) = catF (xs ++ [x]).length (oTemplate F0 (xs ++ [x])) (fun _ => [Sv (⟨#[]⟩ : ByteArray), nilA]) i := by
  subst hP
  have e0 : spl (catF xs.length (oTemplate F0 xs) (fun _ => [Sv (⟨#[]⟩ : ByteArray), nilA]) xs.length) 0 [Sv x.Label, .arr j0] = [Sv x.Label, .arr j0] := by rw [catF_ge (Nat.le_refl _)]; rfl
  have eR : ∀ i, i < xs.length + 1 → catF (xs ++ [x]).length (oTemplate F0 (xs ++ [x])) (fun _ => [Sv (⟨#[]⟩ : ByteArray), nilA]) i = oTemplate F0 (xs ++ [x]) i := fun i h => catF_lt (by simpa using h)
  by_cases h : i < xs.length
  · have eL : catF xs.length (oTemplate F0 xs) (fun _ => [Sv (⟨#[]⟩ : ByteArray), nilA]) i = oTemplate F0 xs i := catF_lt h
    rw [beq_ne (by omega), cond_false, eL, eR i (by omega)]
    simp [oTemplate, oTemplatec, at_left h, AV.joiL, AV.joi, *]
  · by_cases e : i = xs.length
    · subst e
      rw [Nat.beq_refl, cond_true, e0, eR _ (by omega)]
      simp [oTemplate, oTemplatec, at_right (Nat.le_refl _), at_, AV.joiL, AV.joi, *]
    · have eL : catF xs.length (oTemplate F0 xs) (fun _ => [Sv (⟨#[]⟩ : ByteArray), nilA]) i = [Sv (⟨#[]⟩ : ByteArray), nilA] := catF_ge (by omega)
      have eT : catF (xs ++ [x]).length (oTemplate F0 (xs ++ [x])) (fun _ => [Sv (⟨#[]⟩ : ByteArray), nilA]) i = [Sv (⟨#[]⟩ : ByteArray), nilA] := catF_ge (by simp; omega)
      rw [beq_ne e, cond_false, eL, eT]
      rfl
theorem fsetTemplate {xs : List Template} {P k : Nat} {c : Feat} {g' : Nat → Nat → List AV} (hP : P < xs.length) (hk : k < ((at_ xs P).Feats).length) (h1 : g' P k = cFeat c) (h2 : ∀ i, i ≠ k → g' P i = gTemplate xs P i) (h3 : ∀ p, p ≠ P → g' p = gTemplate xs p) : xs.length = (xs.set P (Template.withFeats (at_ xs P) (((at_ xs P).Feats).set k c))).length ∧ 3 = 3 ∧ ∀ p, p < (xs.set P (Template.withFeats (at_ xs P) (((at_ xs P).Feats).set k c))).length → mTemplate xs p = mTemplate (xs.set P (Template.withFeats (at_ xs P) (((at_ xs P).Feats).set k c))) p ∧ ∀ i, i < mTemplate (xs.set P (Template.withFeats (at_ xs P) (((at_ xs P).Feats).set k c))) p → g' p i = gTemplate (xs.set P (Template.withFeats (at_ xs P) (((at_ xs P).Feats).set k c))) p i ∨ (AV.idsL (gTemplate (xs.set P (Template.withFeats (at_ xs P) (((at_ xs P).Feats).set k c))) p i) = [] ∧ leL (fun _ => none) false (g' p i) (gTemplate (xs.set P (Template.withFeats (at_ xs P) (((at_ xs P).Feats).set k c))) p i)) := by
  refine ⟨by simp, rfl, fun p hp => ?_⟩
  by_cases h : p = P
  · subst h
    have e2 : at_ (xs.set p (Template.withFeats (at_ xs p) (((at_ xs p).Feats).set k c))) p = (Template.withFeats (at_ xs p) (((at_ xs p).Feats).set k c)) := at_set_eq hP
    have e3 : (Template.withFeats (at_ xs p) (((at_ xs p).Feats).set k c)).Feats = ((at_ xs p).Feats).set k c := rfl
    simp only [mTemplate, gTemplate, e2, e3]
    refine ⟨by simp, fun i hi => .inl ?_⟩
    by_cases hi2 : i = k
    · subst hi2
      rw [h1]
      show _ = cFeat (at_ _ _)
      rw [at_set_eq hk]
    · rw [h2 i hi2]
      show cFeat (at_ _ _) = cFeat (at_ _ _)
      rw [at_set_ne hi2]
  · have e : at_ (xs.set P (Template.withFeats (at_ xs P) (((at_ xs P).Feats).set k c))) p = at_ xs p := at_set_ne h
    simp only [mTemplate, gTemplate, e]
    refine ⟨trivial, fun i hi => .inl ?_⟩
    rw [h3 p h]; rfl

-- impl.StoreOfWriter
theorem implStoreOfWriter_ok (w : Writer) (ok : okWriter w) : ∃ (ts : List Template), (ts = (swR w).1.Templates) ∧ CallOK Try.prog 17 [agWriter w] (lookO []) false (.tup [.agg [I ((swR w).1.Band), .arr 7400], I ((swR w).2)]) (lookO [(7400, .oar [7410] 2 ts.length (oTemplate 7410 ts)), (7410, .fam ts.length 3 (mTemplate ts) (gTemplate ts))]) := by
  have hh : ∃ r : (List Template), ((r = (swR w).1.Templates) ∧ (True)) ∧ CallOK Try.prog 17 [agWriter w] (lookO []) false (.tup [.agg [I ((swR w).1.Band), .arr 7400], I ((swR w).2)]) (lookO [(7400, .oar [7410] 2 r.length (oTemplate 7410 r)), (7410, .fam r.length 3 (mTemplate r) (gTemplate r))]) := by
    refine fn_okX (Φ := fun r : (List Template) => (r = (swR w).1.Templates) ∧ (True)) [] (fun r => [(7400, .oar [7410] 2 r.length (oTemplate 7410 r)), (7410, .fam r.length 3 (mTemplate r) (gTemplate r))]) (fn := Try.f17) (nt := 34) Try.func17 rfl rfl (args := [agWriter w]) rfl (allcons (.inl ⟨rfl, by simp [tagged, taggedL, tagTrained]⟩) allnil) (res := fun r => .tup [.agg [I ((swR w).1.Band), .arr 7400], I ((swR w).2)]) ?_
    refine xR [(0, .new 1), (1, .new 2)] [1, 2] [1, 2] [.ref 1 0, .ref 2 0] [some (bxWriter w), some (.box [I 0, nilA])] [] trivial ?_
    refine x_seq ?_
    refine x_seq ?_
    rcases Bool.eq_false_or_eq_true (okWriter' w) with h1 | h1
    ·have hst := swR_yes h1
     have hok := okWr_len h1
     refine x_r [(1, .call [(true, .any)] true (Bv true))] [1, 2, 9] [1, 2] [.ref 1 0, .ref 2 0, Bv false] [some (bxWriter w), some (.box [I 0, nilA])] [Con Try.prog 34 [agWriter w] true (Bv true) ∧ True] ⟨⟨(con_bool h1 (ValidWriter_ok w ok)), trivial⟩, trivial⟩ ?_
     refine xe_then ?_
     refine x_false rfl ?_
     refine x_skip ?_
     refine xe_then ?_
     refine xR [(3, .new 4)] [1, 2, 4] [1, 2, 4] [.ref 1 0, .ref 2 0, .ref 4 0] [some (bxWriter w), some (.box [I 0, nilA]), some (.box [I w.Band, nilA])] [] trivial ?_
     refine x_seq ?_
     refine xR [] [2, 4, 15, 16, 17] [2, 4] [.ref 2 0, .ref 4 0, slTrained false w.Trained, I (w.Trained.length : Int), I 0] [some (.box [I 0, nilA]), some (.box [I w.Band, nilA])] [] trivial ?_
     refine x_block ?_
     refine x_nilC 4 1 741 2 (fun _ => []) rfl (by kernel_rfl) ?_
     refine x_fam 7410 3 (fun _ => 0) (fun _ _ => []) (by kernel_rfl) ?_
     refine x_weak [] (T := [(2, .ref 2 0), (4, .ref 4 0), (15, slTrained false w.Trained), (16, I (w.Trained.length : Int)), (17, I 0)]) (O := [(2, .box [I 0, nilA]), (4, .box [I w.Band, .arr 741]), (741, .oar [7410] 2 (([] : List Template).length) (oTemplate 7410 ([] : List Template))), (7410, .fam ([] : List Template).length 3 (mTemplate ([] : List Template)) (gTemplate ([] : List Template)))]) rfl (⟨.inl rfl, .inl rfl, .inl rfl, .inl rfl, .inl rfl, trivial⟩) (⟨.inl rfl, .inl rfl, .inr ⟨rfl, rfl, fun i hi => absurd hi (Nat.not_lt_zero _)⟩, .inr ⟨rfl, rfl, fun p hp => absurd hp (Nat.not_lt_zero _)⟩, trivial⟩) ?_
     refine x_loop (X := Int × (List Template)) (fun x => mkS [(2, .ref 2 0), (4, .ref 4 0), (15, slTrained false w.Trained), (16, I (w.Trained.length : Int)), (17, I x.1)] [(2, .box [I 0, nilA]), (4, .box [I w.Band, .arr 741]), (741, .oar [7410] 2 x.2.length (oTemplate 7410 x.2)), (7410, .fam x.2.length 3 (mTemplate x.2) (gTemplate x.2))]) (fun x => (0 ≤ x.1 ∧ x.1 ≤ (w.Trained.length : Int)) ∧ (x.2 = (w.Trained.take x.1.toNat).map tmT) ∧ True) (fun x => ((w.Trained.length : Int) - x.1).toNat) (0, ([] : List Template)) rfl (show (0 ≤ (0 : Int) ∧ (0 : Int) ≤ (w.Trained.length : Int)) ∧ (([] : List Template) = (w.Trained.take (0 : Int).toNat).map tmT) ∧ True from ⟨(by omega), (by rfl), trivial⟩) (fun x hI => ?_)
     obtain ⟨i, us⟩ := x
     obtain ⟨hi0, hy0, _⟩ : (0 ≤ i ∧ i ≤ (w.Trained.length : Int)) ∧ (us = (w.Trained.take i.toNat).map tmT) ∧ True := hI
     show XW _ _ _ _ (mkS [(2, .ref 2 0), (4, .ref 4 0), (15, slTrained false w.Trained), (16, I (w.Trained.length : Int)), (17, I i)] [(2, .box [I 0, nilA]), (4, .box [I w.Band, .arr 741]), (741, .oar [7410] 2 us.length (oTemplate 7410 us)), (7410, .fam us.length 3 (mTemplate us) (gTemplate us))]) _ _
     refine x_seq ?_
     by_cases h2 : i < (w.Trained.length : Int)
     ·have hi : i.toNat < w.Trained.length := by omega
      have hlen := hok.2 _ hi
      have htl : us.length = i.toNat := by rw [hy0, List.length_map, List.length_take]; omega
      refine x_r [(0, .dec true)] [2, 4, 15, 16, 17, 18] [2, 4, 741, 7410] [.ref 2 0, .ref 4 0, slTrained false w.Trained, I (w.Trained.length : Int), I i, Bv true] [some (.box [I 0, nilA]), some (.box [I w.Band, .arr 741]), some (.oar [7410] 2 us.length (oTemplate 7410 us)), some (.fam us.length 3 (mTemplate us) (gTemplate us))] [i < (w.Trained.length : Int)] ⟨h2, trivial⟩ ?_
      refine xe_then ?_
      refine x_seq ?_
      refine x_true rfl ?_
      refine x_skip ?_
      refine xe_then ?_
      refine x_seq ?_
      refine x_block ?_
      refine xR [(2, .new 6)] [2, 4, 6, 15, 16, 17] [2, 4, 6, 741, 7410] [.ref 2 0, .ref 4 0, .ref 6 0, slTrained false w.Trained, I (w.Trained.length : Int), I i] [some (.box [I 0, nilA]), some (.box [I w.Band, .arr 741]), some (bxTrained (at_ w.Trained i.toNat)), some (.oar [7410] 2 us.length (oTemplate 7410 us)), some (.fam us.length 3 (mTemplate us) (gTemplate us))] [(0 : Int) ≤ i ∧ i < (w.Trained.length : Int)] ⟨⟨(by first | omega | (rw [hst]; exact rfl) | (simp [hst])), (by first | omega | (rw [hst]; exact rfl) | (simp [hst]))⟩, trivial⟩ ?_
      obtain ⟨out_1, hx1_0, hc1⟩ := cloneF0_ok ((at_ w.Trained i.toNat).Feats) (by omega)
      refine x_r [(6, .lend [] [(8311, .arr 3 out_1.length (fFeat out_1))] [(true, .any)] false (.arr 8311)), (8, .new 29), (9, .new 30)] [2, 4, 15, 16, 17] [2, 4, 30, 7410, 8311] [.ref 2 0, .ref 4 0, slTrained false w.Trained, I (w.Trained.length : Int), I i] [some (.box [I 0, nilA]), some (.box [I w.Band, .arr 30]), some (.oar [7410, 8311] 2 (us.length + 1) (catF us.length (oTemplate 7410 us) (litF [Sv ((at_ w.Trained i.toNat).Label), .arr 8311] 2))), some (.fam us.length 3 (mTemplate us) (gTemplate us)), some (.arr 3 out_1.length (fFeat out_1))] [CallOK Try.prog 35 [slFeat false ((at_ w.Trained i.toNat).Feats)] (lookO []) false (.arr 8311) (lookO [(8311, .arr 3 out_1.length (fFeat out_1))]) ∧ True, (us.length + 1) * 40 ≤ 140737488355328] ⟨⟨hc1, trivial⟩, (by first | omega | (rw [hst]; exact rfl) | (simp [hst])), trivial⟩ ?_
      refine xe_block 1 ?_
      refine xe_then ?_
      refine x_r [] [2, 4, 15, 16, 17] [2, 4, 30, 7410, 8311] [.ref 2 0, .ref 4 0, slTrained false w.Trained, I (w.Trained.length : Int), I (i + 1)] [some (.box [I 0, nilA]), some (.box [I w.Band, .arr 30]), some (.oar [7410, 8311] 2 (us.length + 1) (catF us.length (oTemplate 7410 us) (litF [Sv ((at_ w.Trained i.toNat).Label), .arr 8311] 2))), some (.fam us.length 3 (mTemplate us) (gTemplate us)), some (.arr 3 out_1.length (fFeat out_1))] [inR .i64 (i + 1)] ⟨(inR_i64 (by first | omega | (rw [hst]; exact rfl) | (simp [hst])) (by first | omega | (rw [hst]; exact rfl) | (simp [hst]))), trivial⟩ ?_
      refine xe_join 8311 7410 rfl rfl rfl ?_
      refine xe_weak [(741, 30)] (T := [(2, .ref 2 0), (4, .ref 4 0), (15, slTrained false w.Trained), (16, I (w.Trained.length : Int)), (17, I (i + 1))]) (O := [(2, .box [I 0, nilA]), (4, .box [I w.Band, .arr 741]), (741, .oar [7410] 2 ((us ++ [(Template.mk ((at_ w.Trained i.toNat).Label) out_1)]).length) (oTemplate 7410 (us ++ [(Template.mk ((at_ w.Trained i.toNat).Label) out_1)]))), (7410, .fam (us ++ [(Template.mk ((at_ w.Trained i.toNat).Label) out_1)]).length 3 (mTemplate (us ++ [(Template.mk ((at_ w.Trained i.toNat).Label) out_1)])) (gTemplate (us ++ [(Template.mk ((at_ w.Trained i.toNat).Label) out_1)])))]) rfl (⟨.inl rfl, .inl rfl, .inl rfl, .inl rfl, .inl rfl, trivial⟩) (⟨.inl rfl, .inl rfl, .inr ⟨rfl, rfl, (by simp), fun i hi => .inl (ocatTemplate rfl rfl rfl i hi)⟩, .inr (fcatTemplate (Template.mk ((at_ w.Trained i.toNat).Label) out_1) (by first | rfl | (simp; done)) (fun i_ hi_ => (by first | rfl | fail))), trivial⟩) (xe_again ((i + 1), (us ++ [(Template.mk ((at_ w.Trained i.toNat).Label) out_1)])) rfl (show (0 ≤ (i + 1) ∧ (i + 1) ≤ (w.Trained.length : Int)) ∧ ((us ++ [(Template.mk ((at_ w.Trained i.toNat).Label) out_1)]) = (w.Trained.take (i + 1).toNat).map tmT) ∧ True from ⟨(by omega), (by rw [show (i + 1).toNat = i.toNat + 1 from by omega, map_take tmT hi, ← hy0, hx1_0]; rfl), trivial⟩) (by first | (show (((w.Trained.length : Int) - (i + 1)).toNat : Nat) < ((w.Trained.length : Int) - i).toNat; omega) | (dsimp only; omega)))
     have hie : i.toNat = w.Trained.length := by omega
     rw [hie, List.take_length] at hy0
     refine x_r [(0, .dec false)] [2, 4, 15, 16, 17, 18] [2, 4, 741, 7410] [.ref 2 0, .ref 4 0, slTrained false w.Trained, I (w.Trained.length : Int), I i, Bv false] [some (.box [I 0, nilA]), some (.box [I w.Band, .arr 741]), some (.oar [7410] 2 us.length (oTemplate 7410 us)), some (.fam us.length 3 (mTemplate us) (gTemplate us))] [¬ (i < (w.Trained.length : Int))] ⟨h2, trivial⟩ ?_
     refine xe_then ?_
     refine x_seq ?_
     refine x_false rfl ?_
     refine x_exit ?_
     refine xe_exit_then ?_
     refine xe_loop_exit ?_
     refine xe_exit_same ?_
     refine xe_then ?_
     refine xR [] [2, 3] [2, 741, 7410] [.ref 2 0, I 0] [some (.box [I w.Band, .arr 741]), some (.oar [7410] 2 us.length (oTemplate 7410 us)), some (.fam us.length 3 (mTemplate us) (gTemplate us))] [] trivial ?_
     refine x_ret ?_
     refine xe_weak [(7400, 741)] (T := [(2, .ref 2 0), (3, I 0)]) (O := [(2, .box [I ((swR w).1.Band), .arr 7400]), (7400, .oar [7410] 2 us.length (oTemplate 7410 us)), (7410, .fam us.length 3 (mTemplate us) (gTemplate us))]) rfl (⟨.inl rfl, .inl rfl, trivial⟩) (⟨.inr ⟨(by first | rfl | (simp [valOf]; done) | (simp [valOf]; first | omega | (rw [hst]; exact rfl) | (simp [hst]))), ⟨rfl, rfl⟩⟩, .inl rfl, .inl rfl, trivial⟩) ?_
     refine xe_end us (show (us = (swR w).1.Templates) ∧ (True) from ⟨(by first | (rw [hst]; done) | (rw [hst]; exact hy0) | (rw [hst]; rfl) | (rw [hst]; assumption)), trivial⟩) (⟨.inl rfl, .inl rfl, trivial⟩) (.tup [.agg [I ((swR w).1.Band), .arr 7400], I 0]) (by kernel_rfl) (.inr ⟨⟨rfl, ⟨rfl, rfl⟩⟩, ⟨(by first | rfl | (simp [valOf]; done) | (simp [valOf]; first | omega | (rw [hst]; exact rfl) | (simp [hst]))), rfl⟩⟩) (fun h => by cases h) (fun h => by cases h)
    have hst := swR_no h1
    refine x_r [(1, .call [(true, .any)] true (Bv false))] [1, 2, 9] [1, 2] [.ref 1 0, .ref 2 0, Bv true] [some (bxWriter w), some (.box [I 0, nilA])] [Con Try.prog 34 [agWriter w] true (Bv false) ∧ True] ⟨⟨(con_bool h1 (ValidWriter_ok w ok)), trivial⟩, trivial⟩ ?_
    refine xe_then ?_
    refine x_true rfl ?_
    refine xR [] [2, 3] [2] [.ref 2 0, I 1] [some (.box [I 0, nilA])] [] trivial ?_
    refine x_ret ?_
    refine xe_ret_then ?_
    refine xe_nilC 2 1 7400 2 (fun _ => []) rfl (by kernel_rfl) ?_
    refine xe_fam 7410 3 (fun _ => 0) (fun _ _ => []) (by kernel_rfl) ?_
    refine xe_weak [] (T := [(2, .ref 2 0), (3, I 1)]) (O := [(2, .box [I ((swR w).1.Band), .arr 7400]), (7400, .oar [7410] 2 (([] : List Template).length) (oTemplate 7410 ([] : List Template))), (7410, .fam ([] : List Template).length 3 (mTemplate ([] : List Template)) (gTemplate ([] : List Template)))]) rfl (⟨.inl rfl, .inl rfl, trivial⟩) (⟨.inr ⟨(by first | rfl | (simp [valOf]; done) | (simp [valOf]; first | omega | (rw [hst]; exact rfl) | (simp [hst]))), ⟨rfl, rfl⟩⟩, .inr ⟨rfl, rfl, fun i hi => absurd hi (Nat.not_lt_zero _)⟩, .inr ⟨rfl, rfl, fun p hp => absurd hp (Nat.not_lt_zero _)⟩, trivial⟩) ?_
    refine xe_end ([] : List Template) (show (([] : List Template) = (swR w).1.Templates) ∧ (True) from ⟨(by first | (rw [hst]; done) | (rw [hst]; exact hy0) | (rw [hst]; rfl) | (rw [hst]; assumption)), trivial⟩) (⟨.inl rfl, .inl rfl, trivial⟩) (.tup [.agg [I ((swR w).1.Band), .arr 7400], I 1]) (by kernel_rfl) (.inr ⟨⟨rfl, ⟨rfl, rfl⟩⟩, ⟨(by first | rfl | (simp [valOf]; done) | (simp [valOf]; first | omega | (rw [hst]; exact rfl) | (simp [hst]))), rfl⟩⟩) (fun h => by cases h) (fun h => by cases h)
  obtain ⟨ts, ⟨hh0, _⟩, hc⟩ := hh
  exact ⟨ts, hh0, hc⟩


-- laws.eqFeat
theorem eqFeat_ok (a : Feat) (b : Feat) : Con Try.prog 76 [agFeat a, agFeat b] true (Bv (same a b)) := by
  refine fn_ok (fn := Try.f76) (nt := 20) Try.func76 rfl rfl rfl rfl (by simp [taggedL, tagged]) fun B hB => ?_
  refine aR [(0, .new 2), (1, .new 3)] [2, 3] [2, 3] [.ref 2 0, .ref 3 0] [some (bxFeat a), some (bxFeat b)] [] hB trivial ?_
  refine aw_seq ?_
  refine aw_seq ?_
  by_cases h1 : a.X = b.X
  ·refine aw_r [(4, .dec false)] [2, 3, 9] [2, 3] [.ref 2 0, .ref 3 0, Bv false] [some (bxFeat a), some (bxFeat b)] [¬ (a.X ≠ b.X)] hB ⟨(fun hq => hq h1), trivial⟩ ?_
   refine ae_then ?_
   refine aw_false rfl ?_
   refine aw_skip ?_
   refine ae_then ?_
   refine aw_seq ?_
   refine aw_seq ?_
   by_cases h2 : a.Y = b.Y
   ·refine aw_r [(4, .dec false)] [2, 3, 14] [2, 3] [.ref 2 0, .ref 3 0, Bv false] [some (bxFeat a), some (bxFeat b)] [¬ (a.Y ≠ b.Y)] hB ⟨(fun hq => hq h2), trivial⟩ ?_
    refine ae_then ?_
    refine aw_false rfl ?_
    refine aw_skip ?_
    refine ae_then ?_
    refine aw_seq ?_
    refine aw_seq ?_
    by_cases h3 : a.D = b.D
    ·refine aw_r [(4, .dec false)] [19] [] [Bv false] [] [¬ (a.D ≠ b.D)] hB ⟨(fun hq => hq h3), trivial⟩ ?_
     refine ae_then ?_
     refine aw_false rfl ?_
     refine aw_skip ?_
     refine ae_then ?_
     refine aR [] [4] [] [Bv true] [] [] hB trivial ?_
     refine aw_ret ?_
     refine ae_ret hB (Bv true) (by kernel_rfl) (.inl (by first | (cases a; cases b; simp_all [same]; done) | (cases a; cases b; simp_all [same]; omega))) rfl (fun _ => trivial)
    refine aw_r [(4, .dec true)] [19] [] [Bv true] [] [a.D ≠ b.D] hB ⟨h3, trivial⟩ ?_
    refine ae_then ?_
    refine aw_true rfl ?_
    refine aR [] [4] [] [Bv false] [] [] hB trivial ?_
    refine aw_ret ?_
    refine ae_ret_then ?_
    refine ae_ret hB (Bv false) (by kernel_rfl) (.inl (by first | (cases a; cases b; simp_all [same]; done) | (cases a; cases b; simp_all [same]; omega))) rfl (fun _ => trivial)
   refine aw_r [(4, .dec true)] [2, 3, 14] [2, 3] [.ref 2 0, .ref 3 0, Bv true] [some (bxFeat a), some (bxFeat b)] [a.Y ≠ b.Y] hB ⟨h2, trivial⟩ ?_
   refine ae_then ?_
   refine aw_true rfl ?_
   refine aR [] [4] [] [Bv false] [] [] hB trivial ?_
   refine aw_ret ?_
   refine ae_ret_then ?_
   refine ae_ret hB (Bv false) (by kernel_rfl) (.inl (by first | (cases a; cases b; simp_all [same]; done) | (cases a; cases b; simp_all [same]; omega))) rfl (fun _ => trivial)
  refine aw_r [(4, .dec true)] [2, 3, 9] [2, 3] [.ref 2 0, .ref 3 0, Bv true] [some (bxFeat a), some (bxFeat b)] [a.X ≠ b.X] hB ⟨h1, trivial⟩ ?_
  refine ae_then ?_
  refine aw_true rfl ?_
  refine aR [] [4] [] [Bv false] [] [] hB trivial ?_
  refine aw_ret ?_
  refine ae_ret_then ?_
  refine ae_ret hB (Bv false) (by kernel_rfl) (.inl (by first | (cases a; cases b; simp_all [same]; done) | (cases a; cases b; simp_all [same]; omega))) rfl (fun _ => trivial)


-- laws.eqFeatS
theorem eqFeatS_ok (a : List Feat) (b : List Feat) : Con Try.prog 65 [slFeat false a, slFeat false b] true (Bv (same a b)) := by
  refine fn_ok (fn := Try.f65) (nt := 27) Try.func65 rfl rfl rfl rfl (by simp [taggedL, tagged, tagFeat]) fun B hB => ?_
  refine aw_lens (x := slFeat false a) 0 rfl (fun len_a => ?_)
  simp [LenOK, LenL, cFeat, fFeat, slFeat] at len_a
  refine aw_lens (x := slFeat false b) 1 rfl (fun len_b => ?_)
  simp [LenOK, LenL, cFeat, fFeat, slFeat] at len_b
  refine aR [] [0, 1] [] [slFeat false a, slFeat false b] [] [] hB trivial ?_
  refine aw_seq ?_
  refine aw_seq ?_
  by_cases h1 : (a.length : Int) = (b.length : Int)
  ·refine aw_r [(4, .dec false)] [0, 1, 10] [] [slFeat false a, slFeat false b, Bv false] [] [¬ ((a.length : Int) ≠ (b.length : Int))] hB ⟨(fun hq => hq h1), trivial⟩ ?_
   refine ae_then ?_
   refine aw_false rfl ?_
   refine aw_skip ?_
   refine ae_then ?_
   refine aw_seq ?_
   refine aR [] [0, 1, 5] [] [slFeat false a, slFeat false b, I 0] [] [] hB trivial ?_
   refine aw_block ?_
   refine aw_loop (fun gn gσ => ∃ (i : Int), gn = ((a.length : Int) - i).toNat ∧ (0 ≤ i ∧ i ≤ (a.length : Int)) ∧ (∀ j : Nat, (j : Int) < i → at_ a j = at_ b j) ∧ gσ = mkS [(0, slFeat false a), (1, slFeat false b), (5, I i)] []) (((a.length : Int) - 0).toNat) ⟨0, rfl, (by omega), (by intro j hj; omega), rfl⟩ (fun gn gσ hI => ?_)
   obtain ⟨i, rfl, hi0, he0, rfl⟩ := hI
   refine aw_seq ?_
   refine aw_seq ?_
   by_cases h2 : i < (a.length : Int)
   ·have hi : i.toNat < a.length := by omega
    have hib : i.toNat < b.length := by omega
    refine aw_r [(3, .dec true)] [0, 1, 5, 14] [] [slFeat false a, slFeat false b, I i, Bv true] [] [i < (a.length : Int)] hB ⟨h2, trivial⟩ ?_
    refine ae_then ?_
    refine aw_true rfl ?_
    refine aw_skip ?_
    refine ae_then ?_
    refine aw_seq ?_
    refine aw_block ?_
    refine aw_seq ?_
    rcases Bool.eq_false_or_eq_true (same (at_ a i.toNat) (at_ b i.toNat)) with h3 | h3
    ·have HEQ := h3
     refine aw_r [(8, .call [(true, .any), (true, .any)] true (Bv true))] [0, 1, 5, 26] [] [slFeat false a, slFeat false b, I i, Bv false] [] [(0 : Int) ≤ i ∧ i < (a.length : Int), (0 : Int) ≤ i ∧ i < (b.length : Int), Con Try.prog 76 [agFeat (at_ a i.toNat), agFeat (at_ b i.toNat)] true (Bv true) ∧ True] hB ⟨⟨(by omega), (by omega)⟩, ⟨(by omega), (by omega)⟩, ⟨(con_bool h3 (eqFeat_ok (at_ a i.toNat) (at_ b i.toNat))), trivial⟩, trivial⟩ ?_
     refine ae_then ?_
     refine aw_false rfl ?_
     refine aw_skip ?_
     refine ae_block 1 ?_
     refine ae_then ?_
     refine aw_r [] [0, 1, 5] [] [slFeat false a, slFeat false b, I (i + 1)] [] [inR .i64 (i + 1)] hB ⟨(inR_i64 (by omega) (by omega)), trivial⟩ ?_
     exact ae_again _ (by omega) ⟨(i + 1), rfl, (by omega), (by intro j hj; by_cases ej : j = i.toNat; (subst ej; simpa [same] using HEQ); exact he0 j (by omega)), rfl⟩
    refine aw_r [(8, .call [(true, .any), (true, .any)] true (Bv false))] [0, 1, 5, 26] [] [slFeat false a, slFeat false b, I i, Bv true] [] [(0 : Int) ≤ i ∧ i < (a.length : Int), (0 : Int) ≤ i ∧ i < (b.length : Int), Con Try.prog 76 [agFeat (at_ a i.toNat), agFeat (at_ b i.toNat)] true (Bv false) ∧ True] hB ⟨⟨(by omega), (by omega)⟩, ⟨(by omega), (by omega)⟩, ⟨(con_bool h3 (eqFeat_ok (at_ a i.toNat) (at_ b i.toNat))), trivial⟩, trivial⟩ ?_
    refine ae_then ?_
    refine aw_true rfl ?_
    refine aR [] [4] [] [Bv false] [] [] hB trivial ?_
    refine aw_ret ?_
    refine ae_ret_block (ae_ret_then (ae_ret_then (ae_ret_block (ae_ret_then ?_))))
    refine ae_ret hB (Bv false) (by kernel_rfl) (.inl (by first | (refine congrArg Bv (Eq.symm (decide_eq_false ?_)); intro e; subst e; simp_all [same]; done) | (exact congrArg Bv (Eq.symm (decide_eq_true hfin))))) rfl (fun _ => trivial)
   have hfin : a = b := ext_at (by omega) (fun j hj => he0 j (by omega))
   refine aw_r [(3, .dec false)] [0, 1, 5, 14] [] [slFeat false a, slFeat false b, I i, Bv false] [] [¬ (i < (a.length : Int))] hB ⟨h2, trivial⟩ ?_
   refine ae_then ?_
   refine aw_false rfl ?_
   refine aw_exit ?_
   refine ae_exit_then ?_
   refine ae_exit_then ?_
   refine ae_exit_same ?_
   refine ae_then ?_
   refine aR [] [4] [] [Bv true] [] [] hB trivial ?_
   refine aw_ret ?_
   refine ae_ret hB (Bv true) (by kernel_rfl) (.inl (by first | (refine congrArg Bv (Eq.symm (decide_eq_false ?_)); intro e; subst e; simp_all [same]; done) | (exact congrArg Bv (Eq.symm (decide_eq_true hfin))))) rfl (fun _ => trivial)
  refine aw_r [(4, .dec true)] [0, 1, 10] [] [slFeat false a, slFeat false b, Bv true] [] [(a.length : Int) ≠ (b.length : Int)] hB ⟨h1, trivial⟩ ?_
  refine ae_then ?_
  refine aw_true rfl ?_
  refine aR [] [4] [] [Bv false] [] [] hB trivial ?_
  refine aw_ret ?_
  refine ae_ret_then ?_
  refine ae_ret hB (Bv false) (by kernel_rfl) (.inl (by first | (refine congrArg Bv (Eq.symm (decide_eq_false ?_)); intro e; subst e; simp_all [same]; done) | (exact congrArg Bv (Eq.symm (decide_eq_true hfin))))) rfl (fun _ => trivial)


-- laws.eqTemplate
theorem eqTemplate_ok (a : Template) (b : Template) : Con Try.prog 47 [agTemplate a, agTemplate b] true (Bv (same a b)) := by
  refine fn_ok (fn := Try.f47) (nt := 16) Try.func47 rfl rfl rfl rfl (by simp [taggedL, tagged, tagFeat]) fun B hB => ?_
  refine aw_lens (x := agTemplate a) 0 rfl (fun len_a => ?_)
  simp [LenOK, LenL, cFeat, fFeat, slFeat] at len_a
  refine aw_lens (x := agTemplate b) 1 rfl (fun len_b => ?_)
  simp [LenOK, LenL, cFeat, fFeat, slFeat] at len_b
  refine aR [(0, .new 2), (1, .new 3)] [2, 3] [2, 3] [.ref 2 0, .ref 3 0] [some (bxTemplate a), some (bxTemplate b)] [] hB trivial ?_
  refine aw_seq ?_
  refine aw_seq ?_
  by_cases h1 : a.Label = b.Label
  ·refine aw_r [(4, .dec false)] [2, 3, 9] [2, 3] [.ref 2 0, .ref 3 0, Bv false] [some (bxTemplate a), some (bxTemplate b)] [¬ (a.Label ≠ b.Label)] hB ⟨(fun hq => hq h1), trivial⟩ ?_
   refine ae_then ?_
   refine aw_false rfl ?_
   refine aw_skip ?_
   refine ae_then ?_
   refine aw_seq ?_
   refine aw_seq ?_
   rcases Bool.eq_false_or_eq_true (same a.Feats b.Feats) with h2 | h2
   ·refine aw_r [(4, .call [(true, .any), (true, .any)] true (Bv true))] [15] [] [Bv false] [] [Con Try.prog 65 [slFeat false a.Feats, slFeat false b.Feats] true (Bv true) ∧ True] hB ⟨⟨(con_bool h2 (eqFeatS_ok a.Feats b.Feats)), trivial⟩, trivial⟩ ?_
    refine ae_then ?_
    refine aw_false rfl ?_
    refine aw_skip ?_
    refine ae_then ?_
    refine aR [] [4] [] [Bv true] [] [] hB trivial ?_
    refine aw_ret ?_
    refine ae_ret hB (Bv true) (by kernel_rfl) (.inl (by first | (cases a; cases b; simp_all [same]; done) | (cases a; cases b; simp_all [same]; omega))) rfl (fun _ => trivial)
   refine aw_r [(4, .call [(true, .any), (true, .any)] true (Bv false))] [15] [] [Bv true] [] [Con Try.prog 65 [slFeat false a.Feats, slFeat false b.Feats] true (Bv false) ∧ True] hB ⟨⟨(con_bool h2 (eqFeatS_ok a.Feats b.Feats)), trivial⟩, trivial⟩ ?_
   refine ae_then ?_
   refine aw_true rfl ?_
   refine aR [] [4] [] [Bv false] [] [] hB trivial ?_
   refine aw_ret ?_
   refine ae_ret_then ?_
   refine ae_ret hB (Bv false) (by kernel_rfl) (.inl (by first | (cases a; cases b; simp_all [same]; done) | (cases a; cases b; simp_all [same]; omega))) rfl (fun _ => trivial)
  refine aw_r [(4, .dec true)] [2, 3, 9] [2, 3] [.ref 2 0, .ref 3 0, Bv true] [some (bxTemplate a), some (bxTemplate b)] [a.Label ≠ b.Label] hB ⟨h1, trivial⟩ ?_
  refine ae_then ?_
  refine aw_true rfl ?_
  refine aR [] [4] [] [Bv false] [] [] hB trivial ?_
  refine aw_ret ?_
  refine ae_ret_then ?_
  refine ae_ret hB (Bv false) (by kernel_rfl) (.inl (by first | (cases a; cases b; simp_all [same]; done) | (cases a; cases b; simp_all [same]; omega))) rfl (fun _ => trivial)


-- laws.eqTemplateS
theorem eqTemplateS_ok (a : List Template) (b : List Template) : Con Try.prog 26 [slTemplate false a, slTemplate false b] true (Bv (same a b)) := by
  refine fn_ok (fn := Try.f26) (nt := 27) Try.func26 rfl rfl rfl rfl (by simp [taggedL, tagged, tagTemplate]) fun B hB => ?_
  refine aw_lens (x := slTemplate false a) 0 rfl (fun len_a => ?_)
  simp [LenOK, LenL, cFeat, cTemplate, fFeat, fTemplate, slFeat, slTemplate] at len_a
  refine aw_lens (x := slTemplate false b) 1 rfl (fun len_b => ?_)
  simp [LenOK, LenL, cFeat, cTemplate, fFeat, fTemplate, slFeat, slTemplate] at len_b
  refine aR [] [0, 1] [] [slTemplate false a, slTemplate false b] [] [] hB trivial ?_
  refine aw_seq ?_
  refine aw_seq ?_
  by_cases h1 : (a.length : Int) = (b.length : Int)
  ·refine aw_r [(4, .dec false)] [0, 1, 10] [] [slTemplate false a, slTemplate false b, Bv false] [] [¬ ((a.length : Int) ≠ (b.length : Int))] hB ⟨(fun hq => hq h1), trivial⟩ ?_
   refine ae_then ?_
   refine aw_false rfl ?_
   refine aw_skip ?_
   refine ae_then ?_
   refine aw_seq ?_
   refine aR [] [0, 1, 5] [] [slTemplate false a, slTemplate false b, I 0] [] [] hB trivial ?_
   refine aw_block ?_
   refine aw_loop (fun gn gσ => ∃ (i : Int), gn = ((a.length : Int) - i).toNat ∧ (0 ≤ i ∧ i ≤ (a.length : Int)) ∧ (∀ j : Nat, (j : Int) < i → at_ a j = at_ b j) ∧ gσ = mkS [(0, slTemplate false a), (1, slTemplate false b), (5, I i)] []) (((a.length : Int) - 0).toNat) ⟨0, rfl, (by omega), (by intro j hj; omega), rfl⟩ (fun gn gσ hI => ?_)
   obtain ⟨i, rfl, hi0, he0, rfl⟩ := hI
   refine aw_seq ?_
   refine aw_seq ?_
   by_cases h2 : i < (a.length : Int)
   ·have hi : i.toNat < a.length := by omega
    have hib : i.toNat < b.length := by omega
    refine aw_r [(3, .dec true)] [0, 1, 5, 14] [] [slTemplate false a, slTemplate false b, I i, Bv true] [] [i < (a.length : Int)] hB ⟨h2, trivial⟩ ?_
    refine ae_then ?_
    refine aw_true rfl ?_
    refine aw_skip ?_
    refine ae_then ?_
    refine aw_seq ?_
    refine aw_block ?_
    refine aw_seq ?_
    rcases Bool.eq_false_or_eq_true (same (at_ a i.toNat) (at_ b i.toNat)) with h3 | h3
    ·have HEQ := h3
     refine aw_r [(8, .call [(true, .any), (true, .any)] true (Bv true))] [0, 1, 5, 26] [] [slTemplate false a, slTemplate false b, I i, Bv false] [] [(0 : Int) ≤ i ∧ i < (a.length : Int), (0 : Int) ≤ i ∧ i < (b.length : Int), Con Try.prog 47 [agTemplate (at_ a i.toNat), agTemplate (at_ b i.toNat)] true (Bv true) ∧ True] hB ⟨⟨(by omega), (by omega)⟩, ⟨(by omega), (by omega)⟩, ⟨(con_bool h3 (eqTemplate_ok (at_ a i.toNat) (at_ b i.toNat))), trivial⟩, trivial⟩ ?_
     refine ae_then ?_
     refine aw_false rfl ?_
     refine aw_skip ?_
     refine ae_block 1 ?_
     refine ae_then ?_
     refine aw_r [] [0, 1, 5] [] [slTemplate false a, slTemplate false b, I (i + 1)] [] [inR .i64 (i + 1)] hB ⟨(inR_i64 (by omega) (by omega)), trivial⟩ ?_
     exact ae_again _ (by omega) ⟨(i + 1), rfl, (by omega), (by intro j hj; by_cases ej : j = i.toNat; (subst ej; simpa [same] using HEQ); exact he0 j (by omega)), rfl⟩
    refine aw_r [(8, .call [(true, .any), (true, .any)] true (Bv false))] [0, 1, 5, 26] [] [slTemplate false a, slTemplate false b, I i, Bv true] [] [(0 : Int) ≤ i ∧ i < (a.length : Int), (0 : Int) ≤ i ∧ i < (b.length : Int), Con Try.prog 47 [agTemplate (at_ a i.toNat), agTemplate (at_ b i.toNat)] true (Bv false) ∧ True] hB ⟨⟨(by omega), (by omega)⟩, ⟨(by omega), (by omega)⟩, ⟨(con_bool h3 (eqTemplate_ok (at_ a i.toNat) (at_ b i.toNat))), trivial⟩, trivial⟩ ?_
    refine ae_then ?_
    refine aw_true rfl ?_
    refine aR [] [4] [] [Bv false] [] [] hB trivial ?_
    refine aw_ret ?_
    refine ae_ret_block (ae_ret_then (ae_ret_then (ae_ret_block (ae_ret_then ?_))))
    refine ae_ret hB (Bv false) (by kernel_rfl) (.inl (by first | (refine congrArg Bv (Eq.symm (decide_eq_false ?_)); intro e; subst e; simp_all [same]; done) | (exact congrArg Bv (Eq.symm (decide_eq_true hfin))))) rfl (fun _ => trivial)
   have hfin : a = b := ext_at (by omega) (fun j hj => he0 j (by omega))
   refine aw_r [(3, .dec false)] [0, 1, 5, 14] [] [slTemplate false a, slTemplate false b, I i, Bv false] [] [¬ (i < (a.length : Int))] hB ⟨h2, trivial⟩ ?_
   refine ae_then ?_
   refine aw_false rfl ?_
   refine aw_exit ?_
   refine ae_exit_then ?_
   refine ae_exit_then ?_
   refine ae_exit_same ?_
   refine ae_then ?_
   refine aR [] [4] [] [Bv true] [] [] hB trivial ?_
   refine aw_ret ?_
   refine ae_ret hB (Bv true) (by kernel_rfl) (.inl (by first | (refine congrArg Bv (Eq.symm (decide_eq_false ?_)); intro e; subst e; simp_all [same]; done) | (exact congrArg Bv (Eq.symm (decide_eq_true hfin))))) rfl (fun _ => trivial)
  refine aw_r [(4, .dec true)] [0, 1, 10] [] [slTemplate false a, slTemplate false b, Bv true] [] [(a.length : Int) ≠ (b.length : Int)] hB ⟨h1, trivial⟩ ?_
  refine ae_then ?_
  refine aw_true rfl ?_
  refine aR [] [4] [] [Bv false] [] [] hB trivial ?_
  refine aw_ret ?_
  refine ae_ret_then ?_
  refine ae_ret hB (Bv false) (by kernel_rfl) (.inl (by first | (refine congrArg Bv (Eq.symm (decide_eq_false ?_)); intro e; subst e; simp_all [same]; done) | (exact congrArg Bv (Eq.symm (decide_eq_true hfin))))) rfl (fun _ => trivial)

end Go.Proofs.Ytjiflhglbephbaa.Ax
