/- Contracts that the statement FnExactWriterOfStore reaches, part 1. No conditions. -/
import Derived.Test.YtjiflhglbephbaaAxO
import Derived.Test.YtjiflhglbephbaaShelf
import Derived.Test.YtjiflhglbephbaaAxR
import Derived.Test.YtjiflhglbephbaaAxS
namespace Go.Proofs.Ytjiflhglbephbaa.Ax
open Go.RowKit Go.ChangeShapes Go.WideShapes
set_option linter.unusedVariables false
set_option linter.unusedSimpArgs false


def cI (x : Int) : List AV := [I x]
def fI (xs : List Int) (i : Nat) : List AV := cI (at_ xs i)
def slI (fr : Bool) (xs : List Int) : AV := .sl fr 1 xs.length (fI xs)
theorem tagcI (t : Bool) (x : Int) : taggedL t (cI x) := by simp [cI, taggedL, tagged]
theorem tagI (t : Bool) (xs : List Int) : tagged t (slI t xs) := by simp only [slI, tagged]; exact ⟨trivial, fun i _ => tagcI t _⟩
theorem lenI (fr : Bool) (xs : List Int) : lenA noOb (slI fr xs) = some xs.length := rfl
def cS (x : ByteArray) : List AV := [Sv x]
def fS (xs : List ByteArray) (i : Nat) : List AV := cS (at_ xs i)
def slS (fr : Bool) (xs : List ByteArray) : AV := .sl fr 1 xs.length (fS xs)
theorem tagcS (t : Bool) (x : ByteArray) : taggedL t (cS x) := by simp [cS, taggedL, tagged]
theorem tagS (t : Bool) (xs : List ByteArray) : tagged t (slS t xs) := by simp only [slS, tagged]; exact ⟨trivial, fun i _ => tagcS t _⟩
theorem lenS (fr : Bool) (xs : List ByteArray) : lenA noOb (slS fr xs) = some xs.length := rfl
structure Feat where
  X : Int
  Y : Int
  D : Int
deriving DecidableEq, Inhabited
def cFeat (x : Feat) : List AV := [I x.X, I x.Y, I x.D]
def fFeat (xs : List Feat) (i : Nat) : List AV := cFeat (at_ xs i)
def slFeat (fr : Bool) (xs : List Feat) : AV := .sl fr 3 xs.length (fFeat xs)
theorem tagcFeat (t : Bool) (x : Feat) : taggedL t (cFeat x) := by simp [cFeat, taggedL, tagged]
theorem tagFeat (t : Bool) (xs : List Feat) : tagged t (slFeat t xs) := by simp only [slFeat, tagged]; exact ⟨trivial, fun i _ => tagcFeat t _⟩
theorem lenFeat (fr : Bool) (xs : List Feat) : lenA noOb (slFeat fr xs) = some xs.length := rfl
abbrev bxFeat (x : Feat) : Ob := .box [I x.X, I x.Y, I x.D]
abbrev agFeat (x : Feat) : AV := .agg [I x.X, I x.Y, I x.D]
def cLFeat (fr : Bool) (x : List Feat) : List AV := [slFeat fr x]
def fLFeat (fr : Bool) (xs : List (List Feat)) (i : Nat) : List AV := cLFeat fr (at_ xs i)
def slLFeat (fr : Bool) (xs : List (List Feat)) : AV := .sl fr 1 xs.length (fLFeat fr xs)
theorem tagcLFeat (t : Bool) (x : List Feat) : taggedL t (cLFeat t x) := by simp [cLFeat, taggedL, tagged, tagFeat]
theorem tagLFeat (t : Bool) (xs : List (List Feat)) : tagged t (slLFeat t xs) := by simp only [slLFeat, tagged]; exact ⟨trivial, fun i _ => tagcLFeat t _⟩
theorem lenLFeat (fr : Bool) (xs : List (List Feat)) : lenA noOb (slLFeat fr xs) = some xs.length := rfl
theorem idsLFeat (fr : Bool) (x : List Feat) : AV.idsL (cLFeat fr x) = [] := rfl
theorem leLFeat (fr : Bool) (x : List Feat) (ob : Nat → Option Ob) : leL ob false (cLFeat fr x) (cLFeat false x) := (And.intro (And.intro (fun h => by cases h) (And.intro rfl (And.intro rfl (fun i _ => .inl rfl)))) rfl)
structure Template where
  Label : ByteArray
  Feats : List Feat
deriving DecidableEq, Inhabited
def cTemplate (fr : Bool) (x : Template) : List AV := [Sv x.Label, slFeat fr x.Feats]
def fTemplate (fr : Bool) (xs : List Template) (i : Nat) : List AV := cTemplate fr (at_ xs i)
def slTemplate (fr : Bool) (xs : List Template) : AV := .sl fr 2 xs.length (fTemplate fr xs)
theorem tagcTemplate (t : Bool) (x : Template) : taggedL t (cTemplate t x) := by simp [cTemplate, taggedL, tagged, tagFeat]
theorem tagTemplate (t : Bool) (xs : List Template) : tagged t (slTemplate t xs) := by simp only [slTemplate, tagged]; exact ⟨trivial, fun i _ => tagcTemplate t _⟩
theorem lenTemplate (fr : Bool) (xs : List Template) : lenA noOb (slTemplate fr xs) = some xs.length := rfl
theorem idsTemplate (fr : Bool) (x : Template) : AV.idsL (cTemplate fr x) = [] := rfl
theorem leTemplate (fr : Bool) (x : Template) (ob : Nat → Option Ob) : leL ob false (cTemplate fr x) (cTemplate false x) := (And.intro rfl (And.intro (And.intro (fun h => by cases h) (And.intro rfl (And.intro rfl (fun i _ => .inl rfl)))) rfl))
abbrev bxTemplate (x : Template) : Ob := .box [Sv x.Label, slFeat false x.Feats]
abbrev agTemplate (x : Template) : AV := .agg [Sv x.Label, slFeat false x.Feats]
abbrev bxTemplateT (x : Template) : Ob := .box [Sv x.Label, slFeat true x.Feats]
abbrev agTemplateT (x : Template) : AV := .agg [Sv x.Label, slFeat true x.Feats]
def cLTemplate (fr : Bool) (x : List Template) : List AV := [slTemplate fr x]
def fLTemplate (fr : Bool) (xs : List (List Template)) (i : Nat) : List AV := cLTemplate fr (at_ xs i)
def slLTemplate (fr : Bool) (xs : List (List Template)) : AV := .sl fr 1 xs.length (fLTemplate fr xs)
theorem tagcLTemplate (t : Bool) (x : List Template) : taggedL t (cLTemplate t x) := by simp [cLTemplate, taggedL, tagged, tagTemplate]
theorem tagLTemplate (t : Bool) (xs : List (List Template)) : tagged t (slLTemplate t xs) := by simp only [slLTemplate, tagged]; exact ⟨trivial, fun i _ => tagcLTemplate t _⟩
theorem lenLTemplate (fr : Bool) (xs : List (List Template)) : lenA noOb (slLTemplate fr xs) = some xs.length := rfl
theorem idsLTemplate (fr : Bool) (x : List Template) : AV.idsL (cLTemplate fr x) = [] := rfl
theorem leLTemplate (fr : Bool) (x : List Template) (ob : Nat → Option Ob) : leL ob false (cLTemplate fr x) (cLTemplate false x) := (And.intro (And.intro (fun h => by cases h) (And.intro rfl (And.intro rfl (fun i _ => .inr ⟨idsTemplate _ _, leTemplate _ _ _⟩)))) rfl)
structure Store where
  Band : Int
  Templates : List Template
deriving DecidableEq, Inhabited
def cStore (fr : Bool) (x : Store) : List AV := [I x.Band, slTemplate fr x.Templates]
def fStore (fr : Bool) (xs : List Store) (i : Nat) : List AV := cStore fr (at_ xs i)
def slStore (fr : Bool) (xs : List Store) : AV := .sl fr 2 xs.length (fStore fr xs)
theorem tagcStore (t : Bool) (x : Store) : taggedL t (cStore t x) := by simp [cStore, taggedL, tagged, tagTemplate]
theorem tagStore (t : Bool) (xs : List Store) : tagged t (slStore t xs) := by simp only [slStore, tagged]; exact ⟨trivial, fun i _ => tagcStore t _⟩
theorem lenStore (fr : Bool) (xs : List Store) : lenA noOb (slStore fr xs) = some xs.length := rfl
theorem idsStore (fr : Bool) (x : Store) : AV.idsL (cStore fr x) = [] := rfl
theorem leStore (fr : Bool) (x : Store) (ob : Nat → Option Ob) : leL ob false (cStore fr x) (cStore false x) := (And.intro rfl (And.intro (And.intro (fun h => by cases h) (And.intro rfl (And.intro rfl (fun i _ => .inr ⟨idsTemplate _ _, leTemplate _ _ _⟩)))) rfl))
abbrev bxStore (x : Store) : Ob := .box [I x.Band, slTemplate false x.Templates]
abbrev agStore (x : Store) : AV := .agg [I x.Band, slTemplate false x.Templates]
abbrev bxStoreT (x : Store) : Ob := .box [I x.Band, slTemplate true x.Templates]
abbrev agStoreT (x : Store) : AV := .agg [I x.Band, slTemplate true x.Templates]
structure Trained where
  Label : ByteArray
  Base : List Feat
  Feats : List Feat
  Count : Int
deriving DecidableEq, Inhabited
def cTrained (fr : Bool) (x : Trained) : List AV := [Sv x.Label, slFeat fr x.Base, slFeat fr x.Feats, I x.Count]
def fTrained (fr : Bool) (xs : List Trained) (i : Nat) : List AV := cTrained fr (at_ xs i)
def slTrained (fr : Bool) (xs : List Trained) : AV := .sl fr 4 xs.length (fTrained fr xs)
theorem tagcTrained (t : Bool) (x : Trained) : taggedL t (cTrained t x) := by simp [cTrained, taggedL, tagged, tagFeat]
theorem tagTrained (t : Bool) (xs : List Trained) : tagged t (slTrained t xs) := by simp only [slTrained, tagged]; exact ⟨trivial, fun i _ => tagcTrained t _⟩
theorem lenTrained (fr : Bool) (xs : List Trained) : lenA noOb (slTrained fr xs) = some xs.length := rfl
theorem idsTrained (fr : Bool) (x : Trained) : AV.idsL (cTrained fr x) = [] := rfl
theorem leTrained (fr : Bool) (x : Trained) (ob : Nat → Option Ob) : leL ob false (cTrained fr x) (cTrained false x) := (And.intro rfl (And.intro (And.intro (fun h => by cases h) (And.intro rfl (And.intro rfl (fun i _ => .inl rfl)))) (And.intro (And.intro (fun h => by cases h) (And.intro rfl (And.intro rfl (fun i _ => .inl rfl)))) (And.intro rfl rfl))))
abbrev bxTrained (x : Trained) : Ob := .box [Sv x.Label, slFeat false x.Base, slFeat false x.Feats, I x.Count]
abbrev agTrained (x : Trained) : AV := .agg [Sv x.Label, slFeat false x.Base, slFeat false x.Feats, I x.Count]
abbrev bxTrainedT (x : Trained) : Ob := .box [Sv x.Label, slFeat true x.Base, slFeat true x.Feats, I x.Count]
abbrev agTrainedT (x : Trained) : AV := .agg [Sv x.Label, slFeat true x.Base, slFeat true x.Feats, I x.Count]
def cLTrained (fr : Bool) (x : List Trained) : List AV := [slTrained fr x]
def fLTrained (fr : Bool) (xs : List (List Trained)) (i : Nat) : List AV := cLTrained fr (at_ xs i)
def slLTrained (fr : Bool) (xs : List (List Trained)) : AV := .sl fr 1 xs.length (fLTrained fr xs)
theorem tagcLTrained (t : Bool) (x : List Trained) : taggedL t (cLTrained t x) := by simp [cLTrained, taggedL, tagged, tagTrained]
theorem tagLTrained (t : Bool) (xs : List (List Trained)) : tagged t (slLTrained t xs) := by simp only [slLTrained, tagged]; exact ⟨trivial, fun i _ => tagcLTrained t _⟩
theorem lenLTrained (fr : Bool) (xs : List (List Trained)) : lenA noOb (slLTrained fr xs) = some xs.length := rfl
theorem idsLTrained (fr : Bool) (x : List Trained) : AV.idsL (cLTrained fr x) = [] := rfl
theorem leLTrained (fr : Bool) (x : List Trained) (ob : Nat → Option Ob) : leL ob false (cLTrained fr x) (cLTrained false x) := (And.intro (And.intro (fun h => by cases h) (And.intro rfl (And.intro rfl (fun i _ => .inr ⟨idsTrained _ _, leTrained _ _ _⟩)))) rfl)
structure Writer where
  Band : Int
  Trained : List Trained
deriving DecidableEq, Inhabited
def cWriter (fr : Bool) (x : Writer) : List AV := [I x.Band, slTrained fr x.Trained]
def fWriter (fr : Bool) (xs : List Writer) (i : Nat) : List AV := cWriter fr (at_ xs i)
def slWriter (fr : Bool) (xs : List Writer) : AV := .sl fr 2 xs.length (fWriter fr xs)
theorem tagcWriter (t : Bool) (x : Writer) : taggedL t (cWriter t x) := by simp [cWriter, taggedL, tagged, tagTrained]
theorem tagWriter (t : Bool) (xs : List Writer) : tagged t (slWriter t xs) := by simp only [slWriter, tagged]; exact ⟨trivial, fun i _ => tagcWriter t _⟩
theorem lenWriter (fr : Bool) (xs : List Writer) : lenA noOb (slWriter fr xs) = some xs.length := rfl
theorem idsWriter (fr : Bool) (x : Writer) : AV.idsL (cWriter fr x) = [] := rfl
theorem leWriter (fr : Bool) (x : Writer) (ob : Nat → Option Ob) : leL ob false (cWriter fr x) (cWriter false x) := (And.intro rfl (And.intro (And.intro (fun h => by cases h) (And.intro rfl (And.intro rfl (fun i _ => .inr ⟨idsTrained _ _, leTrained _ _ _⟩)))) rfl))
abbrev bxWriter (x : Writer) : Ob := .box [I x.Band, slTrained false x.Trained]
abbrev agWriter (x : Writer) : AV := .agg [I x.Band, slTrained false x.Trained]
abbrev bxWriterT (x : Writer) : Ob := .box [I x.Band, slTrained true x.Trained]
abbrev agWriterT (x : Writer) : AV := .agg [I x.Band, slTrained true x.Trained]
def cU8 (x : Int) : List AV := [.val (.int .u8 x)]
def fU8 (xs : List Int) (i : Nat) : List AV := cU8 (at_ xs i)
def slU8 (fr : Bool) (xs : List Int) : AV := .sl fr 1 xs.length (fU8 xs)
theorem tagcU8 (t : Bool) (x : Int) : taggedL t (cU8 x) := by simp [cU8, taggedL, tagged]
theorem tagU8 (t : Bool) (xs : List Int) : tagged t (slU8 t xs) := by simp only [slU8, tagged]; exact ⟨trivial, fun i _ => tagcU8 t _⟩
theorem lenU8 (fr : Bool) (xs : List Int) : lenA noOb (slU8 fr xs) = some xs.length := rfl

/-- What is left of l behind b. -/
def szTake (l : Int) (b : Nat) : Int := if l < b then -1 else l - b
theorem szTake_nn {l : Int} {b : Nat} (h : ¬ szTake l b < 0) : szTake l b = l - b ∧ (b : Int) ≤ l := by
  unfold szTake at *; split at h <;> simp_all <;> omega
theorem szTake_ng {l : Int} {b : Nat} (h : szTake l b < 0) (h0 : 0 ≤ l) : szTake l b = -1 ∧ l < b := by
  unfold szTake at *; split at h <;> simp_all <;> omega
theorem szTake_of {l : Int} {b : Nat} (h : (b : Int) ≤ l) : szTake l b = l - b := by unfold szTake; rw [if_neg (by omega)]
theorem szTake_neg {l : Int} {b : Nat} (h : l < b) : szTake l b = -1 := by unfold szTake; rw [if_pos h]
theorem take_snoc' {α : Type} [Inhabited α] {l : List α} {k : Nat} (h : k < l.length) : l.take (k + 1) = l.take k ++ [at_ l k] := by
  rw [List.take_succ_eq_append_getElem h, at_eq h]

def bulkFeatS (xs : List Feat) : Nat := xs.length
theorem bulkFeatS_len (xs : List Feat) : xs.length ≤ bulkFeatS xs := Nat.le_refl _

-- laws.szFeatS
theorem szFeatS_ok (a : List Feat) (left : Int) (h0 : 0 ≤ left ∧ left ≤ 1048576) : Con Try.prog 58 [slFeat false a, I left] true (I (szTake left (bulkFeatS a))) := by
  refine fn_ok (fn := Try.f58) (nt := 12) Try.func58 rfl rfl rfl rfl (by simp [taggedL, tagged, tagFeat]) fun B hB => ?_
  refine aw_lens (x := slFeat false a) 0 rfl (fun len_a => ?_)
  simp [LenOK, LenL, cFeat, fFeat, slFeat] at len_a
  refine aR [] [0, 1] [] [slFeat false a, I left] [] [] hB trivial ?_
  refine aR [] [1] [] [I (left - (a.length : Int))] [] [inR .i64 (left - (a.length : Int))] hB ⟨(inR_i64 (by omega) (by omega)), trivial⟩ ?_
  refine aw_seq ?_
  refine aw_seq ?_
  by_cases h1 : (left - (a.length : Int)) < 0
  ·refine aw_r [(1, .dec true)] [1, 10] [] [I (left - (a.length : Int)), Bv true] [] [(left - (a.length : Int)) < 0] hB ⟨h1, trivial⟩ ?_
   refine ae_then ?_
   refine aw_true rfl ?_
   refine aR [] [4] [] [I (-1)] [] [] hB trivial ?_
   refine aw_ret ?_
   refine ae_ret_then ?_
   refine ae_ret hB (I (-1)) (by kernel_rfl) (.inl (by refine congrArg I ?_; unfold szTake bulkFeatS; split <;> omega)) rfl (fun _ => trivial)
  refine aw_r [(1, .dec false)] [1, 10] [] [I (left - (a.length : Int)), Bv false] [] [¬ ((left - (a.length : Int)) < 0)] hB ⟨h1, trivial⟩ ?_
  refine ae_then ?_
  refine aw_false rfl ?_
  refine aw_skip ?_
  refine ae_then ?_
  refine aR [] [4] [] [I (left - (a.length : Int))] [] [] hB trivial ?_
  refine aw_ret ?_
  refine ae_ret hB (I (left - (a.length : Int))) (by kernel_rfl) (.inl (by refine congrArg I ?_; unfold szTake bulkFeatS; split <;> omega)) rfl (fun _ => trivial)


def okTemplate (x : Template) : Prop := (x.Label.size ≤ 9223372036854775807)

def bulkTemplate (x : Template) : Nat := x.Label.size + (bulkFeatS x.Feats)
def bulkTemplateS : List Template → Nat
  | [] => 0
  | x :: r => 1 + (bulkTemplate x) + bulkTemplateS r
theorem bulkTemplateS_app (xs ys : List Template) : bulkTemplateS (xs ++ ys) = bulkTemplateS xs + bulkTemplateS ys := by
  induction xs with
  | nil => simp [bulkTemplateS]
  | cons x r ih => simp [bulkTemplateS, ih]; omega
theorem bulkTemplateS_len (xs : List Template) : xs.length ≤ bulkTemplateS xs := by
  induction xs with
  | nil => simp
  | cons x r ih => simp [bulkTemplateS]; omega
theorem bulkTemplateS_take {xs : List Template} {i : Nat} (h : i < xs.length) : bulkTemplateS (xs.take (i + 1)) = bulkTemplateS (xs.take i) + 1 + (bulkTemplate (at_ xs i)) := by
  rw [take_snoc' h, bulkTemplateS_app]; simp [bulkTemplateS]; omega
theorem bulkTemplateS_le (xs : List Template) (i : Nat) : bulkTemplateS (xs.take i) + (xs.length - i) ≤ bulkTemplateS xs := by
  have e := bulkTemplateS_app (xs.take i) (xs.drop i)
  rw [List.take_append_drop] at e
  have := bulkTemplateS_len (xs.drop i)
  simp at this
  omega
theorem bulkTemplateS_at {xs : List Template} {i : Nat} (h : i < xs.length) : 1 + (bulkTemplate (at_ xs i)) ≤ bulkTemplateS xs := by
  have h1 := bulkTemplateS_take h
  have h2 := bulkTemplateS_le xs (i + 1)
  omega

-- laws.szTemplate
theorem szTemplate_ok (a : Template) (left : Int) (h0 : 0 ≤ left ∧ left ≤ 1048576) (ok0 : okTemplate a) : Con Try.prog 37 [agTemplate a, I left] true (I (szTake left (bulkTemplate a))) := by
  have ok := ok0
  unfold okTemplate at ok
  have ok_Label := ok
  refine fn_ok (fn := Try.f37) (nt := 19) Try.func37 rfl rfl rfl rfl (by simp [taggedL, tagged, tagFeat]) fun B hB => ?_
  refine aw_lens (x := agTemplate a) 0 rfl (fun len_a => ?_)
  simp [LenOK, LenL, cFeat, fFeat, slFeat] at len_a
  refine aR [(0, .new 2)] [1, 2] [2] [I left, .ref 2 0] [some (bxTemplate a)] [] hB trivial ?_
  refine aR [] [1, 2] [2] [I (left - (a.Label.size : Int)), .ref 2 0] [some (bxTemplate a)] [inR .i64 (left - (a.Label.size : Int))] hB ⟨(inR_i64 (by omega) (by omega)), trivial⟩ ?_
  refine aw_seq ?_
  refine aw_seq ?_
  by_cases h1 : (left - (a.Label.size : Int)) < 0
  ·refine aw_r [(1, .dec true)] [1, 2, 11] [2] [I (left - (a.Label.size : Int)), .ref 2 0, Bv true] [some (bxTemplate a)] [(left - (a.Label.size : Int)) < 0] hB ⟨h1, trivial⟩ ?_
   refine ae_then ?_
   refine aw_true rfl ?_
   refine aR [] [4] [] [I (-1)] [] [] hB trivial ?_
   refine aw_ret ?_
   refine ae_ret_then ?_
   refine ae_ret hB (I (-1)) (by kernel_rfl) (.inl (by refine congrArg I ?_; unfold szTake bulkTemplate; split <;> omega)) rfl (fun _ => trivial)
  refine aw_r [(1, .dec false)] [1, 2, 11] [2] [I (left - (a.Label.size : Int)), .ref 2 0, Bv false] [some (bxTemplate a)] [¬ ((left - (a.Label.size : Int)) < 0)] hB ⟨h1, trivial⟩ ?_
  refine ae_then ?_
  refine aw_false rfl ?_
  refine aw_skip ?_
  refine ae_then ?_
  refine aR [(3, .call [(true, .any), (true, .any)] true (I (szTake (left - (a.Label.size : Int)) (bulkFeatS a.Feats))))] [1] [] [I (szTake (left - (a.Label.size : Int)) (bulkFeatS a.Feats))] [] [Con Try.prog 58 [slFeat false a.Feats, I (left - (a.Label.size : Int))] true (I (szTake (left - (a.Label.size : Int)) (bulkFeatS a.Feats))) ∧ True] hB ⟨⟨(szFeatS_ok a.Feats (left - (a.Label.size : Int)) (by omega)), trivial⟩, trivial⟩ ?_
  refine aw_seq ?_
  refine aw_seq ?_
  by_cases h2 : (szTake (left - (a.Label.size : Int)) (bulkFeatS a.Feats)) < 0
  ·have eh2 := szTake_ng h2 (by omega)
   refine aw_r [(1, .dec true)] [1, 17] [] [I (szTake (left - (a.Label.size : Int)) (bulkFeatS a.Feats)), Bv true] [] [(szTake (left - (a.Label.size : Int)) (bulkFeatS a.Feats)) < 0] hB ⟨h2, trivial⟩ ?_
   refine ae_then ?_
   refine aw_true rfl ?_
   refine aR [] [4] [] [I (-1)] [] [] hB trivial ?_
   refine aw_ret ?_
   refine ae_ret_then ?_
   refine ae_ret hB (I (-1)) (by kernel_rfl) (.inl (by refine congrArg I ?_; unfold szTake bulkTemplate; split <;> omega)) rfl (fun _ => trivial)
  have eh2 := szTake_nn h2
  refine aw_r [(1, .dec false)] [1, 17] [] [I (szTake (left - (a.Label.size : Int)) (bulkFeatS a.Feats)), Bv false] [] [¬ ((szTake (left - (a.Label.size : Int)) (bulkFeatS a.Feats)) < 0)] hB ⟨h2, trivial⟩ ?_
  refine ae_then ?_
  refine aw_false rfl ?_
  refine aw_skip ?_
  refine ae_then ?_
  refine aR [] [4] [] [I (szTake (left - (a.Label.size : Int)) (bulkFeatS a.Feats))] [] [] hB trivial ?_
  refine aw_ret ?_
  refine ae_ret hB (I (szTake (left - (a.Label.size : Int)) (bulkFeatS a.Feats))) (by kernel_rfl) (.inl (by refine congrArg I ?_; unfold szTake bulkTemplate; split <;> omega)) rfl (fun _ => trivial)


theorem at_mem {α : Type} [Inhabited α] {xs : List α} {i : Nat} (h : i < xs.length) : at_ xs i ∈ xs := by rw [at_eq h]; exact List.getElem_mem h

-- laws.szTemplateS
theorem szTemplateS_ok (a : List Template) (left : Int) (h0 : 0 ≤ left ∧ left ≤ 1048576) (ok0 : ∀ y ∈ a, okTemplate y) : Con Try.prog 19 [slTemplate false a, I left] true (I (szTake left (bulkTemplateS a))) := by
  have hb0 := bulkTemplateS_len a
  refine fn_ok (fn := Try.f19) (nt := 27) Try.func19 rfl rfl rfl rfl (by simp [taggedL, tagged, tagTemplate]) fun B hB => ?_
  refine aw_lens (x := slTemplate false a) 0 rfl (fun len_a => ?_)
  simp [LenOK, LenL, cFeat, cTemplate, fFeat, fTemplate, slFeat, slTemplate] at len_a
  refine aR [] [0, 1] [] [slTemplate false a, I left] [] [] hB trivial ?_
  refine aR [] [0, 1] [] [slTemplate false a, I (left - (a.length : Int))] [] [inR .i64 (left - (a.length : Int))] hB ⟨(inR_i64 (by omega) (by omega)), trivial⟩ ?_
  refine aw_seq ?_
  refine aw_seq ?_
  by_cases h1 : (left - (a.length : Int)) < 0
  ·refine aw_r [(1, .dec true)] [0, 1, 11] [] [slTemplate false a, I (left - (a.length : Int)), Bv true] [] [(left - (a.length : Int)) < 0] hB ⟨h1, trivial⟩ ?_
   refine ae_then ?_
   refine aw_true rfl ?_
   refine aR [] [4] [] [I (-1)] [] [] hB trivial ?_
   refine aw_ret ?_
   refine ae_ret_then ?_
   refine ae_ret hB (I (-1)) (by kernel_rfl) (.inl (by refine congrArg I ?_; unfold szTake; split <;> omega)) rfl (fun _ => trivial)
  refine aw_r [(1, .dec false)] [0, 1, 11] [] [slTemplate false a, I (left - (a.length : Int)), Bv false] [] [¬ ((left - (a.length : Int)) < 0)] hB ⟨h1, trivial⟩ ?_
  refine ae_then ?_
  refine aw_false rfl ?_
  refine aw_skip ?_
  refine ae_then ?_
  refine aw_seq ?_
  refine aR [] [0, 1, 5] [] [slTemplate false a, I (left - (a.length : Int)), I 0] [] [] hB trivial ?_
  refine aw_block ?_
  refine aw_loop (fun gn gσ => ∃ (left' : Int) (i : Int), gn = ((a.length : Int) - i).toNat ∧ (0 ≤ i ∧ i ≤ (a.length : Int)) ∧ (0 ≤ left' ∧ left' ≤ 1048576) ∧ (left' + (a.length : Int) - i + (bulkTemplateS (a.take i.toNat) : Int) = left) ∧ gσ = mkS [(0, slTemplate false a), (1, I left'), (5, I i)] []) (((a.length : Int) - 0).toNat) ⟨(left - (a.length : Int)), 0, rfl, (by omega), (by omega), (by simp [bulkTemplateS]), rfl⟩ (fun gn gσ hI => ?_)
  obtain ⟨left', i, rfl, hi0, hl0, hs0, rfl⟩ := hI
  refine aw_seq ?_
  refine aw_seq ?_
  by_cases h2 : i < (a.length : Int)
  ·have hi : i.toNat < a.length := by omega
   have hle := bulkTemplateS_le a (i.toNat + 1)
   have htk := bulkTemplateS_take hi
   refine aw_r [(3, .dec true)] [0, 1, 5, 15] [] [slTemplate false a, I left', I i, Bv true] [] [i < (a.length : Int)] hB ⟨h2, trivial⟩ ?_
   refine ae_then ?_
   refine aw_true rfl ?_
   refine aw_skip ?_
   refine ae_then ?_
   refine aw_seq ?_
   refine aw_block ?_
   refine aR [(5, .call [(true, .any), (true, .any)] true (I (szTake left' (bulkTemplate (at_ a i.toNat)))))] [0, 1, 5] [] [slTemplate false a, I (szTake left' (bulkTemplate (at_ a i.toNat))), I i] [] [(0 : Int) ≤ i ∧ i < (a.length : Int), Con Try.prog 37 [agTemplate (at_ a i.toNat), I left'] true (I (szTake left' (bulkTemplate (at_ a i.toNat)))) ∧ True] hB ⟨⟨(by omega), (by omega)⟩, ⟨(szTemplate_ok (at_ a i.toNat) left' (by omega) (ok0 _ (at_mem hi))), trivial⟩, trivial⟩ ?_
   refine aw_seq ?_
   by_cases h3 : (szTake left' (bulkTemplate (at_ a i.toNat))) < 0
   ·have eh3 := szTake_ng h3 (by omega)
    refine aw_r [(1, .dec true)] [0, 1, 5, 25] [] [slTemplate false a, I (szTake left' (bulkTemplate (at_ a i.toNat))), I i, Bv true] [] [(szTake left' (bulkTemplate (at_ a i.toNat))) < 0] hB ⟨h3, trivial⟩ ?_
    refine ae_then ?_
    refine aw_true rfl ?_
    refine aR [] [4] [] [I (-1)] [] [] hB trivial ?_
    refine aw_ret ?_
    refine ae_ret_block (ae_ret_then (ae_ret_then (ae_ret_block (ae_ret_then ?_))))
    refine ae_ret hB (I (-1)) (by kernel_rfl) (.inl (by refine congrArg I ?_; unfold szTake; split <;> omega)) rfl (fun _ => trivial)
   have eh3 := szTake_nn h3
   refine aw_r [(1, .dec false)] [0, 1, 5, 25] [] [slTemplate false a, I (szTake left' (bulkTemplate (at_ a i.toNat))), I i, Bv false] [] [¬ ((szTake left' (bulkTemplate (at_ a i.toNat))) < 0)] hB ⟨h3, trivial⟩ ?_
   refine ae_then ?_
   refine aw_false rfl ?_
   refine aw_skip ?_
   refine ae_block 1 ?_
   refine ae_then ?_
   refine aw_r [] [0, 1, 5] [] [slTemplate false a, I (szTake left' (bulkTemplate (at_ a i.toNat))), I (i + 1)] [] [inR .i64 (i + 1)] hB ⟨(inR_i64 (by omega) (by omega)), trivial⟩ ?_
   exact ae_again _ (by omega) ⟨(szTake left' (bulkTemplate (at_ a i.toNat))), (i + 1), rfl, (by omega), (by omega), (by (have e2 : (i + 1).toNat = i.toNat + 1 := by omega); rw [e2, htk]; push_cast; omega), rfl⟩
  have hie : i.toNat = a.length := by omega
  rw [hie, List.take_length] at hs0
  refine aw_r [(3, .dec false)] [0, 1, 5, 15] [] [slTemplate false a, I left', I i, Bv false] [] [¬ (i < (a.length : Int))] hB ⟨h2, trivial⟩ ?_
  refine ae_then ?_
  refine aw_false rfl ?_
  refine aw_exit ?_
  refine ae_exit_then ?_
  refine ae_exit_then ?_
  refine ae_exit_same ?_
  refine ae_then ?_
  refine aR [] [4] [] [I left'] [] [] hB trivial ?_
  refine aw_ret ?_
  refine ae_ret hB (I left') (by kernel_rfl) (.inl (by refine congrArg I ?_; unfold szTake; split <;> omega)) rfl (fun _ => trivial)


def okStore (x : Store) : Prop := (∀ y ∈ x.Templates, okTemplate y)

def bulkStore (x : Store) : Nat := (bulkTemplateS x.Templates)
def bulkStoreS : List Store → Nat
  | [] => 0
  | x :: r => 1 + (bulkStore x) + bulkStoreS r
theorem bulkStoreS_app (xs ys : List Store) : bulkStoreS (xs ++ ys) = bulkStoreS xs + bulkStoreS ys := by
  induction xs with
  | nil => simp [bulkStoreS]
  | cons x r ih => simp [bulkStoreS, ih]; omega
theorem bulkStoreS_len (xs : List Store) : xs.length ≤ bulkStoreS xs := by
  induction xs with
  | nil => simp
  | cons x r ih => simp [bulkStoreS]; omega
theorem bulkStoreS_take {xs : List Store} {i : Nat} (h : i < xs.length) : bulkStoreS (xs.take (i + 1)) = bulkStoreS (xs.take i) + 1 + (bulkStore (at_ xs i)) := by
  rw [take_snoc' h, bulkStoreS_app]; simp [bulkStoreS]; omega
theorem bulkStoreS_le (xs : List Store) (i : Nat) : bulkStoreS (xs.take i) + (xs.length - i) ≤ bulkStoreS xs := by
  have e := bulkStoreS_app (xs.take i) (xs.drop i)
  rw [List.take_append_drop] at e
  have := bulkStoreS_len (xs.drop i)
  simp at this
  omega
theorem bulkStoreS_at {xs : List Store} {i : Nat} (h : i < xs.length) : 1 + (bulkStore (at_ xs i)) ≤ bulkStoreS xs := by
  have h1 := bulkStoreS_take h
  have h2 := bulkStoreS_le xs (i + 1)
  omega

-- laws.szStore
theorem szStore_ok (a : Store) (left : Int) (h0 : 0 ≤ left ∧ left ≤ 1048576) (ok0 : okStore a) : Con Try.prog 5 [agStore a, I left] true (I (szTake left (bulkStore a))) := by
  have ok := ok0
  unfold okStore at ok
  have ok_Templates := ok
  refine fn_ok (fn := Try.f5) (nt := 12) Try.func5 rfl rfl rfl rfl (by simp [taggedL, tagged, tagTemplate]) fun B hB => ?_
  refine aw_lens (x := agStore a) 0 rfl (fun len_a => ?_)
  simp [LenOK, LenL, cFeat, cTemplate, fFeat, fTemplate, slFeat, slTemplate] at len_a
  refine aR [(0, .new 2)] [1, 2] [2] [I left, .ref 2 0] [some (bxStore a)] [] hB trivial ?_
  refine aR [(3, .call [(true, .any), (true, .any)] true (I (szTake left (bulkTemplateS a.Templates))))] [1] [] [I (szTake left (bulkTemplateS a.Templates))] [] [Con Try.prog 19 [slTemplate false a.Templates, I left] true (I (szTake left (bulkTemplateS a.Templates))) ∧ True] hB ⟨⟨(szTemplateS_ok a.Templates left (by omega) ok_Templates), trivial⟩, trivial⟩ ?_
  refine aw_seq ?_
  refine aw_seq ?_
  by_cases h1 : (szTake left (bulkTemplateS a.Templates)) < 0
  ·have eh1 := szTake_ng h1 (by omega)
   refine aw_r [(1, .dec true)] [1, 10] [] [I (szTake left (bulkTemplateS a.Templates)), Bv true] [] [(szTake left (bulkTemplateS a.Templates)) < 0] hB ⟨h1, trivial⟩ ?_
   refine ae_then ?_
   refine aw_true rfl ?_
   refine aR [] [4] [] [I (-1)] [] [] hB trivial ?_
   refine aw_ret ?_
   refine ae_ret_then ?_
   refine ae_ret hB (I (-1)) (by kernel_rfl) (.inl (by refine congrArg I ?_; unfold szTake bulkStore; split <;> omega)) rfl (fun _ => trivial)
  have eh1 := szTake_nn h1
  refine aw_r [(1, .dec false)] [1, 10] [] [I (szTake left (bulkTemplateS a.Templates)), Bv false] [] [¬ ((szTake left (bulkTemplateS a.Templates)) < 0)] hB ⟨h1, trivial⟩ ?_
  refine ae_then ?_
  refine aw_false rfl ?_
  refine aw_skip ?_
  refine ae_then ?_
  refine aR [] [4] [] [I (szTake left (bulkTemplateS a.Templates))] [] [] hB trivial ?_
  refine aw_ret ?_
  refine ae_ret hB (I (szTake left (bulkTemplateS a.Templates))) (by kernel_rfl) (.inl (by refine congrArg I ?_; unfold szTake bulkStore; split <;> omega)) rfl (fun _ => trivial)


-- laws.toFeat
theorem toFeat_ok (a : Feat) : Con Try.prog 72 [agFeat a] true (agFeat a) := by
  refine fn_ok (fn := Try.f72) (nt := 14) Try.func72 rfl rfl rfl rfl (by simp [taggedL, tagged]) fun B hB => ?_
  refine aR [(0, .new 1), (1, .new 2)] [1, 2] [1, 2] [.ref 1 0, .ref 2 0] [some (bxFeat a), some (.box [I 0, I 0, I 0])] [] hB trivial ?_
  refine aR [(0, .new 3)] [1, 2, 3] [1, 2, 3] [.ref 1 0, .ref 2 0, .ref 3 0] [some (bxFeat a), some (.box [I 0, I 0, I 0]), some (.box [I 0, I 0, I 0])] [] hB trivial ?_
  refine aR [] [1, 2, 3] [1, 2, 3] [.ref 1 0, .ref 2 0, .ref 3 0] [some (bxFeat a), some (.box [I 0, I 0, I 0]), some (.box [I a.X, I 0, I 0])] [] hB trivial ?_
  refine aR [] [1, 2, 3] [1, 2, 3] [.ref 1 0, .ref 2 0, .ref 3 0] [some (bxFeat a), some (.box [I 0, I 0, I 0]), some (.box [I a.X, I a.Y, I 0])] [] hB trivial ?_
  refine aR [] [2, 3] [2, 3] [.ref 2 0, .ref 3 0] [some (.box [I 0, I 0, I 0]), some (bxFeat a)] [] hB trivial ?_
  refine aR [] [2] [2] [.ref 2 0] [some (bxFeat a)] [] hB trivial ?_
  refine aw_ret ?_
  refine ae_ret hB (agFeat a) (by kernel_rfl) (.inl rfl) rfl (fun _ => (by simp [tagged, taggedL]))


theorem set_at {α : Type} [Inhabited α] {ys xs : List α} {i : Int} (hl : ys.length = xs.length) (hi : i.toNat < xs.length) (h : ∀ j : Nat, (j : Int) < i → at_ ys j = at_ xs j) (j : Nat) (hj : j ≤ i.toNat) : at_ (ys.set i.toNat (at_ xs i.toNat)) j = at_ xs j := by
  by_cases e : i.toNat = j
  · subst e; simp [at_, hl, hi]
  · have := h j (by omega)
    simp only [at_] at this ⊢
    rw [← this]
    simp [e]
/-- Whether two things are the same. -/
def same {α : Type} [DecidableEq α] (x y : α) : Bool := decide (x = y)
theorem same_iff {α : Type} [DecidableEq α] {x y : α} : same x y = true ↔ x = y := by simp [same]
theorem ext_at {α : Type} [Inhabited α] {xs ys : List α} (hl : xs.length = ys.length) (h : ∀ j : Nat, j < xs.length → at_ xs j = at_ ys j) : xs = ys := by
  apply List.ext_getElem hl
  intro i h1 h2
  rw [← at_eq h1, ← at_eq h2]
  exact h i h1

/-- Whether p holds of all numbers below n. -/
def allN (n : Nat) (p : Nat → Bool) : Bool := (List.range n).all p
def anyN (n : Nat) (p : Nat → Bool) : Bool := !(allN n fun j => !(p j))
theorem allN_iff {n : Nat} {p : Nat → Bool} : allN n p = true ↔ ∀ j, j < n → p j = true := by simp [allN, List.all_eq_true]
theorem allN_at {n : Nat} {p : Nat → Bool} (h : ∀ j, j < n → p j = true) : allN n p = true := allN_iff.2 h
theorem allN_get {n : Nat} {p : Nat → Bool} (h : allN n p = true) {k : Nat} (hk : k < n) : p k = true := allN_iff.1 h k hk
theorem allN_not {n : Nat} {p : Nat → Bool} {k : Nat} (hk : k < n) (h : p k = false) : allN n p = false := by
  rw [← Bool.not_eq_true, allN_iff]; intro h'; rw [h' k hk] at h; cases h
theorem anyN_not (n : Nat) (p : Nat → Bool) : anyN n (fun j => !(p j)) = !(allN n p) := by simp [anyN]
theorem anyN_at {n : Nat} {p : Nat → Bool} {k : Nat} (hk : k < n) (h : p k = true) : anyN n p = true := by
  unfold anyN; rw [allN_not hk (by simp [h])]; rfl
theorem anyN_none {n : Nat} {p : Nat → Bool} (h : ∀ j, j < n → p j = false) : anyN n p = false := by
  unfold anyN; rw [allN_at (fun j hj => by simp [h j hj])]; rfl
theorem anyN_iff {n : Nat} {p : Nat → Bool} : anyN n p = true ↔ ∃ j, j < n ∧ p j = true := by
  constructor
  · intro h
    apply Classical.byContradiction
    intro hn
    rw [anyN_none (fun j hj => by rw [← Bool.not_eq_true]; exact fun hp => hn ⟨j, hj, hp⟩)] at h
    cases h
  · rintro ⟨j, hj, hp⟩; exact anyN_at hj hp
theorem up_to {n : Int} {p : Nat → Prop} {i : Int} (hi : 0 ≤ i) (h : ∀ j : Nat, (j : Int) < i → p j) (hp : p i.toNat) : ∀ j : Nat, (j : Int) < i + 1 → p j := fun j hj => by
  by_cases e : j = i.toNat
  · subst e; exact hp
  · exact h j (by omega)

def inB (a l h : Int) : Bool := decide (l ≤ a ∧ a ≤ h)
theorem inB_iff {a l h : Int} : inB a l h = true ↔ l ≤ a ∧ a ≤ h := by simp [inB]
theorem bAt_bd (s : ByteArray) (i : Nat) : 0 ≤ bAt s i ∧ bAt s i ≤ 255 := by
  unfold bAt
  have := (s.data.toList.getD i 0).toNat_lt
  omega

/-- Whether a byte is a label's. -/
def labB (n : Int) : Bool := decide ((97 ≤ n ∧ n ≤ 122) ∨ (48 ≤ n ∧ n ≤ 57) ∨ n = 43 ∨ n = 45 ∨ n = 42 ∨ n = 47 ∨ n = 61 ∨ n = 40 ∨ n = 41 ∨ n = 46 ∨ n = 44)
/-- Whether a string is a label. -/
def okLabel (s : ByteArray) : Bool := decide (s.size = 1) && labB (bAt s 0)

def okF (p : Feat) : Bool := inB p.X 0 255 && (inB p.Y 0 255 && inB p.D 0 7)
theorem okF_iff {p : Feat} : okF p = true ↔ (0 ≤ p.X ∧ p.X ≤ 255) ∧ (0 ≤ p.Y ∧ p.Y ≤ 255) ∧ (0 ≤ p.D ∧ p.D ≤ 7) := by simp [okF, inB, and_assoc]
/-- Whether all are features, and they are 1 to m. -/
def okFeats (xs : List Feat) (m : Int) : Bool := decide (1 ≤ (xs.length : Int) ∧ (xs.length : Int) ≤ m) && allN xs.length (fun j => okF (at_ xs j))
theorem okFeats_n {xs : List Feat} {m : Int} (h : okFeats xs m = true) : 1 ≤ xs.length ∧ (xs.length : Int) ≤ m := by
  simp only [okFeats, Bool.and_eq_true, decide_eq_true_eq] at h; omega
theorem okFeats_at {xs : List Feat} {m : Int} (h : okFeats xs m = true) {j : Nat} (hj : j < xs.length) : okF (at_ xs j) = true := by
  simp only [okFeats, Bool.and_eq_true] at h
  exact allN_get h.2 hj

theorem at_setQ {α : Type} [Inhabited α] {xs : List α} {i : Nat} {y : α} (h : i < xs.length) : at_ (xs.set i y) i = y := by simp [at_, h]
def okTm (t : Template) : Bool := okLabel t.Label && okFeats t.Feats 72
theorem okTm_len {t : Template} (h : okTm t = true) : t.Feats.length ≤ 72 := by
  simp only [okTm, okFeats, Bool.and_eq_true, decide_eq_true_eq] at h
  omega

/-- Whether a feature is one that another one may have become. -/
def nearB (a b : Feat) : Bool := decide (a.D = b.D) && (decide (((a.X - b.X).natAbs : Int) ≤ 40) && decide (((a.Y - b.Y).natAbs : Int) ≤ 40))
/-- Whether a trained template is valid. -/
def okTrained' (t : Trained) : Bool := okLabel t.Label && (okFeats t.Base 72 && (okFeats t.Feats 72 && ((decide (t.Base.length = t.Feats.length) && allN t.Base.length (fun j => nearB (at_ t.Base j) (at_ t.Feats j))) && inB t.Count 0 100)))
theorem okTr_iff {t : Trained} : okTrained' t = true ↔ okLabel t.Label = true ∧ okFeats t.Base 72 = true ∧ okFeats t.Feats 72 = true ∧ (t.Base.length = t.Feats.length ∧ allN t.Base.length (fun j => nearB (at_ t.Base j) (at_ t.Feats j)) = true) ∧ inB t.Count 0 100 = true := by
  simp [okTrained']



def stR (t : Template) : Trained × Int := if okTm t = true then (⟨t.Label, t.Feats, t.Feats, 0⟩, 0) else (⟨⟨#[]⟩, [], [], 0⟩, 1)
theorem stR_yes {t : Template} (h : okTm t = true) : stR t = (⟨t.Label, t.Feats, t.Feats, 0⟩, 0) := if_pos h
theorem stR_no {t : Template} (h : okTm t = false) : stR t = (⟨⟨#[]⟩, [], [], 0⟩, 1) := by simp [stR, h]
/-- Marks. -/
def mkL (k : Int) (n : Nat) : List Feat := (List.range n).map fun j : Nat => ⟨k + 3 * (j : Int), k + 3 * (j : Int) + 1, k + 3 * (j : Int) + 2⟩
theorem mkL_len (k : Int) (n : Nat) : (mkL k n).length = n := by simp [mkL]
theorem mkL_at {k : Int} {n j : Nat} (h : j < n) : at_ (mkL k n) j = ⟨k + 3 * (j : Int), k + 3 * (j : Int) + 1, k + 3 * (j : Int) + 2⟩ := by simp [at_, mkL, h]
theorem mk_next {ys : List Feat} {k : Int} {i : Int} {y : Feat} (h0 : 0 ≤ i) (hi : i.toNat < ys.length) (h : ∀ j : Nat, (j : Int) < i → at_ ys j = ⟨k + 3 * (j : Int), k + 3 * (j : Int) + 1, k + 3 * (j : Int) + 2⟩) (hy : y = ⟨k + 3 * i, k + 3 * i + 1, k + 3 * i + 2⟩) : ∀ j : Nat, (j : Int) < i + 1 → at_ (ys.set i.toNat y) j = ⟨k + 3 * (j : Int), k + 3 * (j : Int) + 1, k + 3 * (j : Int) + 2⟩ := fun j hj => by
  by_cases e : j = i.toNat
  · subst e
    have e2 : ((i.toNat : Nat) : Int) = i := by omega
    rw [e2]
    simp [at_, hi, hy]
  · have h' : ¬ i.toNat = j := fun q => e q.symm
    have : at_ (ys.set i.toNat y) j = at_ ys j := by simp [at_, List.getElem?_set, h']
    rw [this]; exact h j (by omega)

-- laws.toFeatS
theorem toFeatS_own (al : List Feat) (hb : bulkFeatS al ≤ 1048576) : ∃ (ys : List Feat), (ys = al) ∧ CallOK Try.prog 61 [slFeat false al] (lookO []) false (.arr 8301) (lookO [(8301, .arr 3 ys.length (fFeat ys))]) := by
  have hb0 := bulkFeatS_len al
  have hh : ∃ r : (List Feat), ((r = al) ∧ (True)) ∧ CallOK Try.prog 61 [slFeat false al] (lookO []) false (.arr 8301) (lookO [(8301, .arr 3 r.length (fFeat r))]) := by
    refine fn_okX (Φ := fun r : (List Feat) => (r = al) ∧ (True)) [] (fun r => [(8301, .arr 3 r.length (fFeat r))]) (fn := Try.f61) (nt := 23) Try.func61 rfl rfl (args := [slFeat false al]) rfl (allcons (.inl ⟨rfl, tagFeat false _⟩) allnil) (res := fun r => .arr 8301) ?_
    refine xR [] [0] [] [slFeat false al] [] [] trivial ?_
    refine xR [(2, .new 7)] [0, 3] [7] [slFeat false al, .arr 7] [some (.arr 3 ((al.length : Int).toNat) (fun _ => [I 0, I 0, I 0]))] [(0 : Int) ≤ (al.length : Int) ∧ ((al.length : Int) : Int) ≤ (al.length : Int) ∧ (24 : Int) * (al.length : Int) ≤ 281474976710656 ∧ (al.length : Int) ≤ 9223372036854775807] ⟨⟨(by omega), (by omega), (by omega), (by omega)⟩, trivial⟩ ?_
    refine x_seq ?_
    refine xR [] [0, 3, 4] [7] [slFeat false al, .arr 7, I 0] [some (.arr 3 ((al.length : Int).toNat) (fun _ => [I 0, I 0, I 0]))] [] trivial ?_
    refine x_block ?_
    refine x_weak [] (T := [(0, slFeat false al), (3, .arr 7), (4, I 0)]) (O := [(7, .arr 3 ((List.replicate ((al.length : Int).toNat) (Feat.mk 0 0 0)).length) (fFeat (List.replicate ((al.length : Int).toNat) (Feat.mk 0 0 0))))]) rfl (⟨.inl rfl, .inl rfl, .inl rfl, trivial⟩) (⟨.inr ⟨rfl, (by first | rfl | (simp; done) | (simp; omega) | omega), fun i_ hi_ => .inl (const_enc (enc := cFeat) rfl i_ hi_)⟩, trivial⟩) ?_
    refine x_loop (X := Int × (List Feat)) (fun x => mkS [(0, slFeat false al), (3, .arr 7), (4, I x.1)] [(7, .arr 3 x.2.length (fFeat x.2))]) (fun x => (0 ≤ x.1 ∧ x.1 ≤ (al.length : Int)) ∧ (x.2.length = al.length) ∧ (∀ j : Nat, (j : Int) < x.1 → at_ x.2 j = at_ al j) ∧ True) (fun x => ((al.length : Int) - x.1).toNat) (0, (List.replicate ((al.length : Int).toNat) (Feat.mk 0 0 0))) rfl (show (0 ≤ (0 : Int) ∧ (0 : Int) ≤ (al.length : Int)) ∧ ((List.replicate ((al.length : Int).toNat) (Feat.mk 0 0 0)).length = al.length) ∧ (∀ j : Nat, (j : Int) < (0 : Int) → at_ (List.replicate ((al.length : Int).toNat) (Feat.mk 0 0 0)) j = at_ al j) ∧ True from ⟨(by omega), (by simp), (by intro j hj; omega), trivial⟩) (fun x hI => ?_)
    obtain ⟨i, zs⟩ := x
    obtain ⟨hi0, hy0, hy1, _⟩ : (0 ≤ i ∧ i ≤ (al.length : Int)) ∧ (zs.length = al.length) ∧ (∀ j : Nat, (j : Int) < i → at_ zs j = at_ al j) ∧ True := hI
    show XW _ _ _ _ (mkS [(0, slFeat false al), (3, .arr 7), (4, I i)] [(7, .arr 3 zs.length (fFeat zs))]) _ _
    refine x_seq ?_
    refine x_seq ?_
    by_cases h1 : i < (al.length : Int)
    ·have hi : i.toNat < al.length := by omega
     have hiy : i.toNat < zs.length := by omega
     refine x_r [(3, .dec true)] [0, 3, 4, 11] [7] [slFeat false al, .arr 7, I i, Bv true] [some (.arr 3 zs.length (fFeat zs))] [i < (al.length : Int)] ⟨h1, trivial⟩ ?_
     refine xe_then ?_
     refine x_true rfl ?_
     refine x_skip ?_
     refine xe_then ?_
     refine x_seq ?_
     refine x_block ?_
     refine x_r [(6, .call [(true, .any)] true (agFeat (at_ al i.toNat)))] [0, 3, 4] [7] [slFeat false al, .arr 7, I i] [some (.arr 3 zs.length (fun q => bif Nat.beq q i.toNat then [I ((at_ al i.toNat).X), I ((at_ al i.toNat).Y), I ((at_ al i.toNat).D)] else (fFeat zs) q))] [(0 : Int) ≤ i ∧ i < (al.length : Int), Con Try.prog 72 [agFeat (at_ al i.toNat)] true (agFeat (at_ al i.toNat)) ∧ True, (0 : Int) ≤ i ∧ i < (zs.length : Int), i.toNat < zs.length] ⟨⟨(by omega), (by omega)⟩, ⟨(toFeat_ok (at_ al i.toNat)), trivial⟩, ⟨(by omega), (by omega)⟩, (by omega), trivial⟩ ?_
     refine xe_block 1 ?_
     refine xe_then ?_
     refine x_r [] [0, 3, 4] [7] [slFeat false al, .arr 7, I (i + 1)] [some (.arr 3 zs.length (fun q => bif Nat.beq q i.toNat then [I ((at_ al i.toNat).X), I ((at_ al i.toNat).Y), I ((at_ al i.toNat).D)] else (fFeat zs) q))] [inR .i64 (i + 1)] ⟨(inR_i64 (by omega) (by omega)), trivial⟩ ?_
     refine xe_weak [] (T := [(0, slFeat false al), (3, .arr 7), (4, I (i + 1))]) (O := [(7, .arr 3 ((zs.set i.toNat (at_ al i.toNat)).length) (fFeat (zs.set i.toNat (at_ al i.toNat))))]) rfl (⟨.inl rfl, .inl rfl, .inl rfl, trivial⟩) (⟨.inr ⟨rfl, (by first | rfl | (simp; done) | (simp; omega) | omega), fun i_ hi_ => .inl (upd_enc (enc := cFeat) rfl i_ hi_)⟩, trivial⟩) (xe_again ((i + 1), (zs.set i.toNat (at_ al i.toNat))) rfl (show (0 ≤ (i + 1) ∧ (i + 1) ≤ (al.length : Int)) ∧ ((zs.set i.toNat (at_ al i.toNat)).length = al.length) ∧ (∀ j : Nat, (j : Int) < (i + 1) → at_ (zs.set i.toNat (at_ al i.toNat)) j = at_ al j) ∧ True from ⟨(by omega), (by simp [hy0]), (by intro j hj; exact set_at hy0 hi hy1 j (by omega)), trivial⟩) (by first | (show (((al.length : Int) - (i + 1)).toNat : Nat) < ((al.length : Int) - i).toNat; omega) | (dsimp only; omega)))
    refine x_r [(3, .dec false)] [0, 3, 4, 11] [7] [slFeat false al, .arr 7, I i, Bv false] [some (.arr 3 zs.length (fFeat zs))] [¬ (i < (al.length : Int))] ⟨h1, trivial⟩ ?_
    refine xe_then ?_
    refine x_false rfl ?_
    refine x_exit ?_
    refine xe_exit_then ?_
    refine xe_loop_exit ?_
    refine xe_exit_same ?_
    refine xe_then ?_
    refine xR [] [2] [7] [.arr 7] [some (.arr 3 zs.length (fFeat zs))] [] trivial ?_
    refine x_ret ?_
    refine xe_weak [(8301, 7)] (T := [(2, .arr 8301)]) (O := [(8301, .arr 3 zs.length (fFeat zs))]) rfl (⟨.inl rfl, trivial⟩) (⟨.inl rfl, trivial⟩) ?_
    refine xe_end zs (show (zs = al) ∧ (True) from ⟨(by exact ext_at hy0 (fun j hj => hy1 j (by omega))), trivial⟩) (⟨.inl rfl, trivial⟩) (.arr 8301) (by kernel_rfl) (.inl rfl) (fun h => by cases h) (fun h => by cases h)
  obtain ⟨ys, ⟨hh0, _⟩, hc⟩ := hh
  exact ⟨ys, hh0, hc⟩


-- laws.toTemplate
theorem toTemplate_own (t : Template) (hb : bulkFeatS t.Feats ≤ 1048576) : ∃ (fs : List Feat), (fs = t.Feats) ∧ CallOK Try.prog 41 [agTemplate t] (lookO []) false (.agg [Sv t.Label, .arr 8303]) (lookO [(8303, .arr 3 fs.length (fFeat fs))]) := by
  have hh : ∃ r : (List Feat), ((r = t.Feats) ∧ (True)) ∧ CallOK Try.prog 41 [agTemplate t] (lookO []) false (.agg [Sv t.Label, .arr 8303]) (lookO [(8303, .arr 3 r.length (fFeat r))]) := by
    refine fn_okX (Φ := fun r : (List Feat) => (r = t.Feats) ∧ (True)) [] (fun r => [(8303, .arr 3 r.length (fFeat r))]) (fn := Try.f41) (nt := 12) Try.func41 rfl rfl (args := [agTemplate t]) rfl (allcons (.inl ⟨rfl, by simp [tagged, taggedL, tagFeat]⟩) allnil) (res := fun r => .agg [Sv t.Label, .arr 8303]) ?_
    refine xR [(0, .new 1), (1, .new 2)] [1, 2] [1, 2] [.ref 1 0, .ref 2 0] [some (bxTemplate t), some (.box [Sv (⟨#[]⟩ : ByteArray), nilA])] [] trivial ?_
    refine xR [(0, .new 3)] [1, 2, 3] [1, 2, 3] [.ref 1 0, .ref 2 0, .ref 3 0] [some (bxTemplate t), some (.box [Sv (⟨#[]⟩ : ByteArray), nilA]), some (.box [Sv (⟨#[]⟩ : ByteArray), nilA])] [] trivial ?_
    refine xR [] [1, 2, 3] [1, 2, 3] [.ref 1 0, .ref 2 0, .ref 3 0] [some (bxTemplate t), some (.box [Sv (⟨#[]⟩ : ByteArray), nilA]), some (.box [Sv t.Label, nilA])] [] trivial ?_
    refine x_seq ?_
    obtain ⟨ys_1, hx1_0, hc1⟩ := toFeatS_own t.Feats hb
    refine x_r [(2, .lend [] [(8301, .arr 3 ys_1.length (fFeat ys_1))] [(true, .any)] false (.arr 8301))] [2, 3] [2, 3, 8301] [.ref 2 0, .ref 3 0] [some (.box [Sv (⟨#[]⟩ : ByteArray), nilA]), some (.box [Sv t.Label, .arr 8301]), some (.arr 3 ys_1.length (fFeat ys_1))] [CallOK Try.prog 61 [slFeat false t.Feats] (lookO []) false (.arr 8301) (lookO [(8301, .arr 3 ys_1.length (fFeat ys_1))]) ∧ True] ⟨⟨hc1, trivial⟩, trivial⟩ ?_
    refine xe_then ?_
    refine xR [] [2] [2, 8301] [.ref 2 0] [some (.box [Sv t.Label, .arr 8301]), some (.arr 3 ys_1.length (fFeat ys_1))] [] trivial ?_
    refine x_ret ?_
    refine xe_weak [(8303, 8301)] (T := [(2, .ref 2 0)]) (O := [(2, .box [Sv t.Label, .arr 8303]), (8303, .arr 3 ys_1.length (fFeat ys_1))]) rfl (⟨.inl rfl, trivial⟩) (⟨.inl rfl, .inl rfl, trivial⟩) ?_
    refine xe_end ys_1 (show (ys_1 = t.Feats) ∧ (True) from ⟨(by assumption), trivial⟩) (⟨.inl rfl, trivial⟩) (.agg [Sv t.Label, .arr 8303]) (by kernel_rfl) (.inl rfl) (fun h => by cases h) (fun h => by cases h)
  obtain ⟨fs, ⟨hh0, _⟩, hc⟩ := hh
  exact ⟨fs, hh0, hc⟩


theorem beq_ne {i k : Nat} (h : i ≠ k) : Nat.beq i k = false := Bool.eq_false_iff.2 fun e => h (Nat.eq_of_beq_eq_true e)
theorem at_set_eq {α : Type} [Inhabited α] {xs : List α} {k : Nat} {c : α} (h : k < xs.length) : at_ (xs.set k c) k = c := by simp [at_, h]
theorem at_set_ne {α : Type} [Inhabited α] {xs : List α} {k i : Nat} {c : α} (h : i ≠ k) : at_ (xs.set k c) i = at_ xs i := by
  have : ¬ k = i := fun e => h e.symm
  simp [at_, this]
theorem le_row {ob : Nat → Option Ob} {F N sz p n : Nat} {m : Nat → Nat} {g : Nat → Nat → List AV} {fr : Bool} {f : Nat → List AV} (h : ob F = some (.fam N sz m g)) (hp : p < N) (hn : m p = n)
    (hf : ∀ i, i < n → g p i = f i ∨ (AV.idsL (f i) = [] ∧ leL (fun _ => none) false (g p i) (f i))) : le ob true (.row F p) (.sl fr sz n f) := by
  simp only [le, h]
  exact ⟨fun _ => trivial, hp, trivial, hn, hf⟩

def Template.withFeats (x : Template) (ys : List Feat) : Template := Template.mk x.Label ys
def oTemplatec (F : Nat) (x : Template) (i : Nat) : List AV := [Sv x.Label, .row F i]
def oTemplate (F : Nat) (xs : List Template) (i : Nat) : List AV := oTemplatec F (at_ xs i) i
def mTemplate (xs : List Template) (p : Nat) : Nat := ((at_ xs p).Feats).length
def gTemplate (xs : List Template) (p : Nat) : Nat → List AV := fFeat ((at_ xs p).Feats)
theorem oleTemplate {ob : Nat → Option Ob} {F : Nat} (fr : Bool) (xs : List Template) (h : ob F = some (.fam xs.length 3 (mTemplate xs) (gTemplate xs))) : ∀ i, i < xs.length → AV.idsL (fTemplate fr xs i) = [] ∧ leL ob true (oTemplate F xs i) (fTemplate fr xs i) :=
  fun i hi => And.intro rfl (And.intro rfl (And.intro (le_row h hi rfl (fun q _ => .inl rfl)) rfl))
theorem olecatTemplate {ob : Nat → Option Ob} {F : Nat} (fr : Bool) (xs : List Template) (x : Template) {f : Nat → List AV} (h : ob F = some (.fam xs.length 3 (mTemplate xs) (gTemplate xs))) (hx : leL ob true (f 0) (cTemplate fr x)) : ∀ i, i < (xs ++ [x]).length → AV.idsL (fTemplate fr (xs ++ [x]) i) = [] ∧ leL ob true (catF xs.length (oTemplate F xs) f i) (fTemplate fr (xs ++ [x]) i) := by
  intro i hi
  by_cases hl : i < xs.length
  · have := oleTemplate fr xs h i hl
    rw [catF_lt hl]
    have e : fTemplate fr (xs ++ [x]) i = fTemplate fr xs i := by show cTemplate fr (at_ _ _) = cTemplate fr (at_ _ _); rw [at_left hl]
    rw [e]; exact this
  · have e : i = xs.length := by simp at hi; omega
    subst e
    rw [catF_ge (Nat.le_refl _), Nat.sub_self]
    have e : fTemplate fr (xs ++ [x]) xs.length = cTemplate fr x := by show cTemplate fr (at_ _ _) = _; rw [at_right (Nat.le_refl _)]; simp [at_]
    rw [e]; exact ⟨rfl, hx⟩
theorem ocatTemplate {F j N : Nat} (hF : Nat.beq F j = false) {xs : List Template} {x : Template} {g : Nat → List AV} (hN : N = xs.length) (hx : AV.joiL j F N (g 0) = oTemplatec F x N) : ∀ i, i < (xs ++ [x]).length → AV.joiL j F N (catF xs.length (oTemplate F xs) g i) = oTemplate F (xs ++ [x]) i := by
  subst hN
  intro i hi
  by_cases h : i < xs.length
  · rw [catF_lt h]
    simp [oTemplate, oTemplatec, at_left h, AV.joiL, AV.joi, hF]
  · have e : i = xs.length := by simp at hi; omega
    subst e
    rw [catF_ge (Nat.le_refl _), Nat.sub_self, hx]
    simp [oTemplate, at_right (Nat.le_refl _), at_]
theorem fcatTemplate {xs : List Template} (x : Template) {n : Nat} {f : Nat → List AV} (hn : n = x.Feats.length) (hf : ∀ i, i < n → f i = fFeat x.Feats i) : xs.length + 1 = (xs ++ [x]).length ∧ 3 = 3 ∧ ∀ p, p < (xs ++ [x]).length → famUp xs.length n (mTemplate xs) p = mTemplate (xs ++ [x]) p ∧ ∀ i, i < mTemplate (xs ++ [x]) p → famUpF xs.length f (gTemplate xs) p i = gTemplate (xs ++ [x]) p i ∨ (AV.idsL (gTemplate (xs ++ [x]) p i) = [] ∧ leL (fun _ => none) false (famUpF xs.length f (gTemplate xs) p i) (gTemplate (xs ++ [x]) p i)) := by
  refine ⟨by simp, rfl, fun p hp => ?_⟩
  by_cases h : p < xs.length
  · have e : Nat.beq p xs.length = false := Bool.eq_false_iff.2 fun e => by have := Nat.eq_of_beq_eq_true e; omega
    simp [famUp, famUpF, e, mTemplate, gTemplate, at_left h]
  · have e : p = xs.length := by simp at hp; omega
    subst e
    have e2 : at_ (xs ++ [x]) xs.length = x := by simp [at_right (Nat.le_refl _), at_]
    simp only [famUp, famUpF, Nat.beq_refl, cond_true, mTemplate, gTemplate, e2]
    exact ⟨hn, fun i hi => .inl (hf i (by omega))⟩
theorem osetTemplate (F P : Nat) (xs : List Template) (ys : List Feat) (i : Nat) : oTemplate F xs i = oTemplate F (xs.set P (Template.withFeats (at_ xs P) ys)) i := by
  unfold oTemplate
  by_cases h : P = i
  · subst h
    by_cases hl : P < xs.length
    · simp [at_, hl, oTemplatec, Template.withFeats]
    · rw [List.set_eq_of_length_le (by omega)]
  · simp [at_, h]
theorem fsameTemplate {xs : List Template} {P : Nat} {x' : Template} (hx : x'.Feats = (at_ xs P).Feats) : xs.length = (xs.set P x').length ∧ 3 = 3 ∧ ∀ p, p < (xs.set P x').length → mTemplate xs p = mTemplate (xs.set P x') p ∧ ∀ i, i < mTemplate (xs.set P x') p → gTemplate xs p i = gTemplate (xs.set P x') p i ∨ (AV.idsL (gTemplate (xs.set P x') p i) = [] ∧ leL (fun _ => none) false (gTemplate xs p i) (gTemplate (xs.set P x') p i)) := by
  refine ⟨by simp, rfl, fun p hp => ?_⟩
  have e : (at_ (xs.set P x') p).Feats = (at_ xs p).Feats := by
    by_cases h : p = P
    · subst h; rw [at_set_eq (by simpa using hp)]; exact hx
    · rw [at_set_ne h]
  simp only [mTemplate, gTemplate, e]
  first | exact ⟨trivial, fun i hi => .inl rfl⟩ | exact ⟨trivial, fun i hi => .inl trivial⟩
theorem fputTemplate {xs : List Template} {P m1 : Nat} {ys : List Feat} {f1 : Nat → List AV} (hP : P < xs.length) (hm : m1 = ys.length) (hf : ∀ i, i < m1 → f1 i = fFeat ys i) : xs.length = (xs.set P (Template.withFeats (at_ xs P) ys)).length ∧ 3 = 3 ∧ ∀ p, p < (xs.set P (Template.withFeats (at_ xs P) ys)).length → famUp P m1 (mTemplate xs) p = mTemplate (xs.set P (Template.withFeats (at_ xs P) ys)) p ∧ ∀ i, i < mTemplate (xs.set P (Template.withFeats (at_ xs P) ys)) p → famUpF P f1 (gTemplate xs) p i = gTemplate (xs.set P (Template.withFeats (at_ xs P) ys)) p i ∨ (AV.idsL (gTemplate (xs.set P (Template.withFeats (at_ xs P) ys)) p i) = [] ∧ leL (fun _ => none) false (famUpF P f1 (gTemplate xs) p i) (gTemplate (xs.set P (Template.withFeats (at_ xs P) ys)) p i)) := by
  refine ⟨by simp, rfl, fun p hp => ?_⟩
  by_cases h : p = P
  · subst h
    have e : (at_ (xs.set p (Template.withFeats (at_ xs p) ys)) p).Feats = ys := by rw [at_set_eq hP]; rfl
    simp only [mTemplate, gTemplate, famUp_at, famUpF_at, e]
    exact ⟨hm, fun i hi => .inl (hf i (by omega))⟩
  · have e : at_ (xs.set P (Template.withFeats (at_ xs P) ys)) p = at_ xs p := at_set_ne h
    simp only [mTemplate, gTemplate, famUp_ne _ _ h, famUpF_ne _ _ h, e]
    first | exact ⟨trivial, fun i hi => .inl rfl⟩ | exact ⟨trivial, fun i hi => .inl trivial⟩
theorem oputTemplate (F0 P : Nat) {xs : List Template} {x' : Template} (i : Nat) (hi : i < (xs.set P x').length) : (bif Nat.beq i P then oTemplatec F0 x' P else oTemplate F0 xs i) = oTemplate F0 (xs.set P x') i := by
  by_cases h : i = P
  · subst h
    have hl : i < xs.length := by simpa using hi
    simp only [Nat.beq_refl, cond_true, oTemplate, at_set_eq hl]
  · simp only [beq_ne h, cond_false, oTemplate, at_set_ne h]
theorem opreTemplate {F0 j0 P : Nat} (h00 : Nat.beq F0 j0 = false)  {xs : List Template} {x : Template} (hP : P = xs.length) (i : Nat) : (AV.joiL j0 F0 xs.length (bif Nat.beq i P then spl (catF xs.length (oTemplate F0 xs) (fun _ => [Sv (⟨#[]⟩ : ByteArray), nilA]) P) 0 [Sv x.Label, .arr j0] else catF xs.length (oTemplate F0 xs) (fun _ => [Sv (⟨#[]⟩ : ByteArray), nilA]) i)) = catF (xs ++ [x]).length (oTemplate F0 (xs ++ [x])) (fun _ => [Sv (⟨#[]⟩ : ByteArray), nilA]) i := by
  subst hP
  have e0 : spl (catF xs.length (oTemplate F0 xs) (fun _ => [Sv (⟨#[]⟩ : ByteArray), nilA]) xs.length) 0 [Sv x.Label, .arr j0] = [Sv x.Label, .arr j0] := by rw [catF_ge (Nat.le_refl _)]; rfl
  have eR : ∀ i, i < xs.length + 1 → catF (xs ++ [x]).length (oTemplate F0 (xs ++ [x])) (fun _ => [Sv (⟨#[]⟩ : ByteArray), nilA]) i = oTemplate F0 (xs ++ [x]) i := fun i h => catF_lt (by simpa using h)
  by_cases h : i < xs.length
  · have eL : catF xs.length (oTemplate F0 xs) (fun _ => [Sv (⟨#[]⟩ : ByteArray), nilA]) i = oTemplate F0 xs i := catF_lt h
    rw [beq_ne (by omega), cond_false, eL, eR i (by omega)]
    simp [oTemplate, oTemplatec, at_left h, AV.joiL, AV.joi, *]
  · by_cases e : i = xs.length
    · subst e
      rw [Nat.beq_refl, cond_true, e0, eR _ (by omega)]
      simp [oTemplate, oTemplatec, at_right (Nat.le_refl _), at_, AV.joiL, AV.joi, *]
    · have eL : catF xs.length (oTemplate F0 xs) (fun _ => [Sv (⟨#[]⟩ : ByteArray), nilA]) i = [Sv (⟨#[]⟩ : ByteArray), nilA] := catF_ge (by omega)
      have eT : catF (xs ++ [x]).length (oTemplate F0 (xs ++ [x])) (fun _ => [Sv (⟨#[]⟩ : ByteArray), nilA]) i = [Sv (⟨#[]⟩ : ByteArray), nilA] := catF_ge (by simp; omega)
      rw [beq_ne e, cond_false, eL, eT]
      rfl
theorem fsetTemplate {xs : List Template} {P k : Nat} {c : Feat} {g' : Nat → Nat → List AV} (hP : P < xs.length) (hk : k < ((at_ xs P).Feats).length) (h1 : g' P k = cFeat c) (h2 : ∀ i, i ≠ k → g' P i = gTemplate xs P i) (h3 : ∀ p, p ≠ P → g' p = gTemplate xs p) : xs.length = (xs.set P (Template.withFeats (at_ xs P) (((at_ xs P).Feats).set k c))).length ∧ 3 = 3 ∧ ∀ p, p < (xs.set P (Template.withFeats (at_ xs P) (((at_ xs P).Feats).set k c))).length → mTemplate xs p = mTemplate (xs.set P (Template.withFeats (at_ xs P) (((at_ xs P).Feats).set k c))) p ∧ ∀ i, i < mTemplate (xs.set P (Template.withFeats (at_ xs P) (((at_ xs P).Feats).set k c))) p → g' p i = gTemplate (xs.set P (Template.withFeats (at_ xs P) (((at_ xs P).Feats).set k c))) p i ∨ (AV.idsL (gTemplate (xs.set P (Template.withFeats (at_ xs P) (((at_ xs P).Feats).set k c))) p i) = [] ∧ leL (fun _ => none) false (g' p i) (gTemplate (xs.set P (Template.withFeats (at_ xs P) (((at_ xs P).Feats).set k c))) p i)) := by
  refine ⟨by simp, rfl, fun p hp => ?_⟩
  by_cases h : p = P
  · subst h
    have e2 : at_ (xs.set p (Template.withFeats (at_ xs p) (((at_ xs p).Feats).set k c))) p = (Template.withFeats (at_ xs p) (((at_ xs p).Feats).set k c)) := at_set_eq hP
    have e3 : (Template.withFeats (at_ xs p) (((at_ xs p).Feats).set k c)).Feats = ((at_ xs p).Feats).set k c := rfl
    simp only [mTemplate, gTemplate, e2, e3]
    refine ⟨by simp, fun i hi => .inl ?_⟩
    by_cases hi2 : i = k
    · subst hi2
      rw [h1]
      show _ = cFeat (at_ _ _)
      rw [at_set_eq hk]
    · rw [h2 i hi2]
      show cFeat (at_ _ _) = cFeat (at_ _ _)
      rw [at_set_ne hi2]
  · have e : at_ (xs.set P (Template.withFeats (at_ xs P) (((at_ xs P).Feats).set k c))) p = at_ xs p := at_set_ne h
    simp only [mTemplate, gTemplate, e]
    refine ⟨trivial, fun i hi => .inl ?_⟩
    rw [h3 p h]; rfl

theorem fgsetFeat {ob : Nat → Option Ob} {N p k j : Nat} {m : Nat → Nat} {g : Nat → Nat → List AV} {ys : List Feat} {c : Feat} {cs : List AV} (hk : k < ys.length) (h : spl (fFeat ys k) j cs = cFeat c) :
    obLe ob true (.fam N 3 (famUp p ys.length m) (fun q => bif Nat.beq q p then (fun q => bif Nat.beq q k then spl (famUpF p (fFeat ys) g p k) j cs else famUpF p (fFeat ys) g p q) else famUpF p (fFeat ys) g q)) (.fam N 3 (famUp p (ys.set k c).length m) (famUpF p (fFeat (ys.set k c)) g)) :=
  fg_set (by simp) (h.trans (by show _ = cFeat (at_ _ _); rw [at_set_eq hk])) (fun i hi => by show cFeat (at_ _ _) = cFeat (at_ (ys.set k c) i); rw [at_set_ne hi])

-- laws.toTemplateS
theorem toTemplateS_own (al : List Template) (hb : bulkTemplateS al ≤ 1048576) : ∃ (ys : List Template), (ys = al) ∧ CallOK Try.prog 22 [slTemplate false al] (lookO []) false (.arr 7400) (lookO [(7400, .oar [7410] 2 ys.length (oTemplate 7410 ys)), (7410, .fam ys.length 3 (mTemplate ys) (gTemplate ys))]) := by
  have hb0 := bulkTemplateS_len al
  have hh : ∃ r : (List Template), ((r = al) ∧ (True)) ∧ CallOK Try.prog 22 [slTemplate false al] (lookO []) false (.arr 7400) (lookO [(7400, .oar [7410] 2 r.length (oTemplate 7410 r)), (7410, .fam r.length 3 (mTemplate r) (gTemplate r))]) := by
    refine fn_okX (Φ := fun r : (List Template) => (r = al) ∧ (True)) [] (fun r => [(7400, .oar [7410] 2 r.length (oTemplate 7410 r)), (7410, .fam r.length 3 (mTemplate r) (gTemplate r))]) (fn := Try.f22) (nt := 23) Try.func22 rfl rfl (args := [slTemplate false al]) rfl (allcons (.inl ⟨rfl, tagTemplate false _⟩) allnil) (res := fun r => .arr 7400) ?_
    refine xR [] [0] [] [slTemplate false al] [] [] trivial ?_
    refine xR [(2, .new 7)] [0, 3] [7] [slTemplate false al, .arr 7] [some (.arr 2 ((al.length : Int).toNat) (fun _ => [Sv (⟨#[]⟩ : ByteArray), nilA]))] [(0 : Int) ≤ (al.length : Int) ∧ ((al.length : Int) : Int) ≤ (al.length : Int) ∧ (40 : Int) * (al.length : Int) ≤ 281474976710656 ∧ (al.length : Int) ≤ 9223372036854775807] ⟨⟨(by omega), (by omega), (by omega), (by omega)⟩, trivial⟩ ?_
    refine x_seq ?_
    refine xR [] [0, 3, 4] [7] [slTemplate false al, .arr 7, I 0] [some (.arr 2 ((al.length : Int).toNat) (fun _ => [Sv (⟨#[]⟩ : ByteArray), nilA]))] [] trivial ?_
    refine x_block ?_
    refine x_fam 7410 3 (fun _ => 0) (fun _ _ => []) (by kernel_rfl) ?_
    refine x_weak [] (T := [(0, slTemplate false al), (3, .arr 7), (4, I 0)]) (O := [(7, .oar [7410] 2 ((al.length : Int).toNat) (catF (([] : List Template).length) (oTemplate 7410 ([] : List Template)) (fun _ => [Sv (⟨#[]⟩ : ByteArray), nilA]))), (7410, .fam ([] : List Template).length 3 (mTemplate ([] : List Template)) (gTemplate ([] : List Template)))]) rfl (⟨.inl rfl, .inl rfl, .inl rfl, trivial⟩) (⟨.inr ⟨rfl, rfl, fun i_ hi_ => rfl⟩, .inr ⟨rfl, rfl, fun p hp => absurd hp (Nat.not_lt_zero _)⟩, trivial⟩) ?_
    refine x_loop (X := Int × (List Template)) (fun x => mkS [(0, slTemplate false al), (3, .arr 7), (4, I x.1)] [(7, .oar [7410] 2 ((al.length : Int).toNat) (catF x.2.length (oTemplate 7410 x.2) (fun _ => [Sv (⟨#[]⟩ : ByteArray), nilA]))), (7410, .fam x.2.length 3 (mTemplate x.2) (gTemplate x.2))]) (fun x => (0 ≤ x.1 ∧ x.1 ≤ (al.length : Int)) ∧ (x.2.length = x.1.toNat) ∧ (x.2 = al.take x.1.toNat) ∧ True) (fun x => ((al.length : Int) - x.1).toNat) (0, ([] : List Template)) rfl (show (0 ≤ (0 : Int) ∧ (0 : Int) ≤ (al.length : Int)) ∧ (([] : List Template).length = (0 : Int).toNat) ∧ (([] : List Template) = al.take (0 : Int).toNat) ∧ True from ⟨(by omega), (by rfl), (by rfl), trivial⟩) (fun x hI => ?_)
    obtain ⟨i, zs⟩ := x
    obtain ⟨hi0, hy0, hy1, _⟩ : (0 ≤ i ∧ i ≤ (al.length : Int)) ∧ (zs.length = i.toNat) ∧ (zs = al.take i.toNat) ∧ True := hI
    show XW _ _ _ _ (mkS [(0, slTemplate false al), (3, .arr 7), (4, I i)] [(7, .oar [7410] 2 ((al.length : Int).toNat) (catF zs.length (oTemplate 7410 zs) (fun _ => [Sv (⟨#[]⟩ : ByteArray), nilA]))), (7410, .fam zs.length 3 (mTemplate zs) (gTemplate zs))]) _ _
    refine x_seq ?_
    refine x_seq ?_
    by_cases h1 : i < (al.length : Int)
    ·have hi : i.toNat < al.length := by omega
     refine x_r [(3, .dec true)] [0, 3, 4, 11] [7, 7410] [slTemplate false al, .arr 7, I i, Bv true] [some (.oar [7410] 2 ((al.length : Int).toNat) (catF zs.length (oTemplate 7410 zs) (fun _ => [Sv (⟨#[]⟩ : ByteArray), nilA]))), some (.fam zs.length 3 (mTemplate zs) (gTemplate zs))] [i < (al.length : Int)] ⟨h1, trivial⟩ ?_
     refine xe_then ?_
     refine x_true rfl ?_
     refine x_skip ?_
     refine xe_then ?_
     refine x_seq ?_
     refine x_block ?_
     obtain ⟨fs_1, hx1_0, hc1⟩ := toTemplate_own (at_ al i.toNat) (by have := bulkTemplateS_at hi; unfold bulkTemplate at this; omega)
     refine x_r [(6, .lend [] [(8303, .arr 3 fs_1.length (fFeat fs_1))] [(true, .any)] false (.agg [Sv ((at_ al i.toNat).Label), .arr 8303]))] [0, 3, 4] [7, 7410, 8303] [slTemplate false al, .arr 7, I i] [some (.oar [7410, 8303] 2 ((al.length : Int).toNat) (fun q => bif Nat.beq q i.toNat then spl ((catF zs.length (oTemplate 7410 zs) (fun _ => [Sv (⟨#[]⟩ : ByteArray), nilA])) i.toNat) 0 [Sv ((at_ al i.toNat).Label), .arr 8303] else (catF zs.length (oTemplate 7410 zs) (fun _ => [Sv (⟨#[]⟩ : ByteArray), nilA])) q)), some (.fam zs.length 3 (mTemplate zs) (gTemplate zs)), some (.arr 3 fs_1.length (fFeat fs_1))] [(0 : Int) ≤ i ∧ i < (al.length : Int), CallOK Try.prog 41 [agTemplate (at_ al i.toNat)] (lookO []) false (.agg [Sv ((at_ al i.toNat).Label), .arr 8303]) (lookO [(8303, .arr 3 fs_1.length (fFeat fs_1))]) ∧ True, (0 : Int) ≤ i ∧ i < (((al.length : Int).toNat) : Int), i.toNat < (al.length : Int).toNat] ⟨⟨(by omega), (by omega)⟩, ⟨hc1, trivial⟩, ⟨(by omega), (by omega)⟩, (by omega), trivial⟩ ?_
     refine xe_block 1 ?_
     refine xe_then ?_
     refine x_join 8303 7410 rfl rfl rfl ?_
     refine x_weak [] (T := [(0, slTemplate false al), (3, .arr 7), (4, I i)]) (O := [(7, .oar [7410] 2 ((al.length : Int).toNat) (catF ((zs ++ [(Template.mk ((at_ al i.toNat).Label) fs_1)]).length) (oTemplate 7410 (zs ++ [(Template.mk ((at_ al i.toNat).Label) fs_1)])) (fun _ => [Sv (⟨#[]⟩ : ByteArray), nilA]))), (7410, .fam (zs ++ [(Template.mk ((at_ al i.toNat).Label) fs_1)]).length 3 (mTemplate (zs ++ [(Template.mk ((at_ al i.toNat).Label) fs_1)])) (gTemplate (zs ++ [(Template.mk ((at_ al i.toNat).Label) fs_1)])))]) rfl (⟨.inl rfl, .inl rfl, .inl rfl, trivial⟩) (⟨.inr ⟨rfl, rfl, rfl, fun i_ hi_ => .inl ((opreTemplate (P := i.toNat) (xs := zs) (x := (Template.mk ((at_ al i.toNat).Label) fs_1)) rfl (by omega) i_).trans (AV.renL_nil _).symm)⟩, .inr (fcatTemplate (Template.mk ((at_ al i.toNat).Label) fs_1) (by first | rfl | (simp; done)) (fun i_ hi_ => (by first | rfl | fail))), trivial⟩) ?_
     refine x_r [] [0, 3, 4] [7, 7410] [slTemplate false al, .arr 7, I (i + 1)] [some (.oar [7410] 2 ((al.length : Int).toNat) (catF ((zs ++ [(Template.mk ((at_ al i.toNat).Label) fs_1)]).length) (oTemplate 7410 (zs ++ [(Template.mk ((at_ al i.toNat).Label) fs_1)])) (fun _ => [Sv (⟨#[]⟩ : ByteArray), nilA]))), some (.fam (zs ++ [(Template.mk ((at_ al i.toNat).Label) fs_1)]).length 3 (mTemplate (zs ++ [(Template.mk ((at_ al i.toNat).Label) fs_1)])) (gTemplate (zs ++ [(Template.mk ((at_ al i.toNat).Label) fs_1)])))] [inR .i64 (i + 1)] ⟨(inR_i64 (by omega) (by omega)), trivial⟩ ?_
     exact xe_again ((i + 1), (zs ++ [(Template.mk ((at_ al i.toNat).Label) fs_1)])) rfl (show (0 ≤ (i + 1) ∧ (i + 1) ≤ (al.length : Int)) ∧ ((zs ++ [(Template.mk ((at_ al i.toNat).Label) fs_1)]).length = (i + 1).toNat) ∧ ((zs ++ [(Template.mk ((at_ al i.toNat).Label) fs_1)]) = al.take (i + 1).toNat) ∧ True from ⟨(by omega), (by simp; omega), (by rw [show (i + 1).toNat = i.toNat + 1 from by omega, take_snoc' hi, ← hy1, hx1_0]), trivial⟩) (by first | (show (((al.length : Int) - (i + 1)).toNat : Nat) < ((al.length : Int) - i).toNat; omega) | (dsimp only; omega))
    refine x_r [(3, .dec false)] [0, 3, 4, 11] [7, 7410] [slTemplate false al, .arr 7, I i, Bv false] [some (.oar [7410] 2 ((al.length : Int).toNat) (catF zs.length (oTemplate 7410 zs) (fun _ => [Sv (⟨#[]⟩ : ByteArray), nilA]))), some (.fam zs.length 3 (mTemplate zs) (gTemplate zs))] [¬ (i < (al.length : Int))] ⟨h1, trivial⟩ ?_
    refine xe_then ?_
    refine x_false rfl ?_
    refine x_exit ?_
    refine xe_exit_then ?_
    refine xe_loop_exit ?_
    refine xe_exit_same ?_
    refine xe_then ?_
    refine xR [] [2] [7, 7410] [.arr 7] [some (.oar [7410] 2 ((al.length : Int).toNat) (catF zs.length (oTemplate 7410 zs) (fun _ => [Sv (⟨#[]⟩ : ByteArray), nilA]))), some (.fam zs.length 3 (mTemplate zs) (gTemplate zs))] [] trivial ?_
    refine x_ret ?_
    refine xe_weak [(7400, 7)] (T := [(2, .arr 7400)]) (O := [(7400, .oar [7410] 2 zs.length (oTemplate 7410 zs)), (7410, .fam zs.length 3 (mTemplate zs) (gTemplate zs))]) rfl (⟨.inl rfl, trivial⟩) (⟨.inr ⟨rfl, rfl, (by omega), fun i_ hi_ => .inl (catF_lt hi_)⟩, .inl rfl, trivial⟩) ?_
    refine xe_end zs (show (zs = al) ∧ (True) from ⟨(by rw [hy1, List.take_of_length_le (by omega)]), trivial⟩) (⟨.inl rfl, .inl rfl, trivial⟩) (.arr 7400) (by kernel_rfl) (.inl rfl) (fun h => by cases h) (fun h => by cases h)
  obtain ⟨ys, ⟨hh0, _⟩, hc⟩ := hh
  exact ⟨ys, hh0, hc⟩


-- laws.toStore
theorem toStore_own (s : Store) (hb : bulkTemplateS s.Templates ≤ 1048576) : ∃ (ts : List Template), (ts = s.Templates) ∧ CallOK Try.prog 7 [agStore s] (lookO []) false (.agg [I s.Band, .arr 7400]) (lookO [(7400, .oar [7410] 2 ts.length (oTemplate 7410 ts)), (7410, .fam ts.length 3 (mTemplate ts) (gTemplate ts))]) := by
  have hh : ∃ r : (List Template), ((r = s.Templates) ∧ (True)) ∧ CallOK Try.prog 7 [agStore s] (lookO []) false (.agg [I s.Band, .arr 7400]) (lookO [(7400, .oar [7410] 2 r.length (oTemplate 7410 r)), (7410, .fam r.length 3 (mTemplate r) (gTemplate r))]) := by
    refine fn_okX (Φ := fun r : (List Template) => (r = s.Templates) ∧ (True)) [] (fun r => [(7400, .oar [7410] 2 r.length (oTemplate 7410 r)), (7410, .fam r.length 3 (mTemplate r) (gTemplate r))]) (fn := Try.f7) (nt := 12) Try.func7 rfl rfl (args := [agStore s]) rfl (allcons (.inl ⟨rfl, by simp [tagged, taggedL, tagTemplate]⟩) allnil) (res := fun r => .agg [I s.Band, .arr 7400]) ?_
    refine xR [(0, .new 1), (1, .new 2)] [1, 2] [1, 2] [.ref 1 0, .ref 2 0] [some (bxStore s), some (.box [I 0, nilA])] [] trivial ?_
    refine xR [(0, .new 3)] [1, 2, 3] [1, 2, 3] [.ref 1 0, .ref 2 0, .ref 3 0] [some (bxStore s), some (.box [I 0, nilA]), some (.box [I 0, nilA])] [] trivial ?_
    refine xR [] [1, 2, 3] [1, 2, 3] [.ref 1 0, .ref 2 0, .ref 3 0] [some (bxStore s), some (.box [I 0, nilA]), some (.box [I s.Band, nilA])] [] trivial ?_
    refine x_seq ?_
    obtain ⟨ys_1, hx1_0, hc1⟩ := toTemplateS_own s.Templates hb
    refine x_r [(2, .lend [] [(7400, .oar [7410] 2 ys_1.length (oTemplate 7410 ys_1)), (7410, .fam ys_1.length 3 (mTemplate ys_1) (gTemplate ys_1))] [(true, .any)] false (.arr 7400))] [2, 3] [2, 3, 7400, 7410] [.ref 2 0, .ref 3 0] [some (.box [I 0, nilA]), some (.box [I s.Band, .arr 7400]), some (.oar [7410] 2 ys_1.length (oTemplate 7410 ys_1)), some (.fam ys_1.length 3 (mTemplate ys_1) (gTemplate ys_1))] [CallOK Try.prog 22 [slTemplate false s.Templates] (lookO []) false (.arr 7400) (lookO [(7400, .oar [7410] 2 ys_1.length (oTemplate 7410 ys_1)), (7410, .fam ys_1.length 3 (mTemplate ys_1) (gTemplate ys_1))]) ∧ True] ⟨⟨hc1, trivial⟩, trivial⟩ ?_
    refine xe_then ?_
    refine xR [] [2] [2, 7400, 7410] [.ref 2 0] [some (.box [I s.Band, .arr 7400]), some (.oar [7410] 2 ys_1.length (oTemplate 7410 ys_1)), some (.fam ys_1.length 3 (mTemplate ys_1) (gTemplate ys_1))] [] trivial ?_
    refine x_ret ?_
    refine xe_end ys_1 (show (ys_1 = s.Templates) ∧ (True) from ⟨(by assumption), trivial⟩) (⟨.inl rfl, .inl rfl, trivial⟩) (.agg [I s.Band, .arr 7400]) (by kernel_rfl) (.inl rfl) (fun h => by cases h) (fun h => by cases h)
  obtain ⟨ts, ⟨hh0, _⟩, hc⟩ := hh
  exact ⟨ts, hh0, hc⟩


-- spec.l01Small
theorem l01Small_ok (c : Int) : Con Try.prog 79 [.val (.int .u8 c)] true (Bv (inB c 97 122)) := by
  refine fn_ok (fn := Try.f79) (nt := 9) Try.func79 rfl rfl rfl rfl (by simp [taggedL, tagged]) fun B hB => ?_
  refine aR [] [0] [] [.val (.int .u8 c)] [] [] hB trivial ?_
  refine aw_seq ?_
  by_cases h1 : 97 ≤ c
  ·refine aw_r [(1, .dec true)] [2] [] [Bv (decide (c ≤ 122))] [] [97 ≤ c] hB ⟨h1, trivial⟩ ?_
   refine ae_then ?_
   refine aw_ret ?_
   refine ae_ret hB (Bv (decide (c ≤ 122))) (by kernel_rfl) (.inl (by first | rfl | (refine congrArg Bv ?_; simp [inB, *]; done) | (refine congrArg Bv ?_; simp [inB, *]; omega) | (refine congrArg Bv ?_; simp_all [inB]; done) | (refine congrArg Bv ?_; simp_all [inB]; omega))) rfl (fun _ => trivial)
  refine aw_r [(1, .dec false)] [2] [] [Bv false] [] [¬ (97 ≤ c)] hB ⟨h1, trivial⟩ ?_
  refine ae_then ?_
  refine aw_ret ?_
  refine ae_ret hB (Bv false) (by kernel_rfl) (.inl (by first | rfl | (refine congrArg Bv ?_; simp [inB, *]; done) | (refine congrArg Bv ?_; simp [inB, *]; omega) | (refine congrArg Bv ?_; simp_all [inB]; done) | (refine congrArg Bv ?_; simp_all [inB]; omega))) rfl (fun _ => trivial)


-- spec.l11Label
theorem l11Label_ok (c : Int) : Con Try.prog 70 [.val (.int .u8 c)] true (Bv (labB c)) := by
  refine fn_ok (fn := Try.f70) (nt := 24) Try.func70 rfl rfl rfl rfl (by simp [taggedL, tagged]) fun B hB => ?_
  refine aR [] [0] [] [.val (.int .u8 c)] [] [] hB trivial ?_
  refine aw_seq ?_
  refine aR [] [0, 3] [] [.val (.int .u8 c), .val (.int .u8 c)] [] [] hB trivial ?_
  refine aw_block ?_
  refine aw_seq ?_
  refine aw_seq ?_
  by_cases h1 : c = 43
  ·refine aw_r [(0, .dec true)] [0, 3, 4] [] [.val (.int .u8 c), .val (.int .u8 c), Bv true] [] [c = 43] hB ⟨h1, trivial⟩ ?_
   refine ae_then ?_
   refine aw_true rfl ?_
   refine aw_skip ?_
   refine ae_then ?_
   refine aw_true rfl ?_
   refine aR [] [2] [] [Bv true] [] [] hB trivial ?_
   refine aw_ret ?_
   refine ae_ret_block (ae_ret_then ?_)
   refine ae_ret hB (Bv true) (by kernel_rfl) (.inl (by first | rfl | (refine congrArg Bv ?_; simp [labB, inB, *]; done) | (refine congrArg Bv ?_; simp [labB, inB, *]; omega) | (refine congrArg Bv ?_; simp_all [labB, inB]; done) | (refine congrArg Bv ?_; simp_all [labB, inB]; omega))) rfl (fun _ => trivial)
  refine aw_r [(0, .dec false)] [0, 3, 4] [] [.val (.int .u8 c), .val (.int .u8 c), Bv false] [] [¬ (c = 43)] hB ⟨h1, trivial⟩ ?_
  refine ae_then ?_
  refine aw_false rfl ?_
  refine aw_seq ?_
  by_cases h2 : c = 45
  ·refine aw_r [(0, .dec true)] [0, 3, 4] [] [.val (.int .u8 c), .val (.int .u8 c), Bv true] [] [c = 45] hB ⟨h2, trivial⟩ ?_
   refine ae_then ?_
   refine aw_true rfl ?_
   refine aw_skip ?_
   refine ae_then ?_
   refine aw_true rfl ?_
   refine aR [] [2] [] [Bv true] [] [] hB trivial ?_
   refine aw_ret ?_
   refine ae_ret_block (ae_ret_then ?_)
   refine ae_ret hB (Bv true) (by kernel_rfl) (.inl (by first | rfl | (refine congrArg Bv ?_; simp [labB, inB, *]; done) | (refine congrArg Bv ?_; simp [labB, inB, *]; omega) | (refine congrArg Bv ?_; simp_all [labB, inB]; done) | (refine congrArg Bv ?_; simp_all [labB, inB]; omega))) rfl (fun _ => trivial)
  refine aw_r [(0, .dec false)] [0, 3, 4] [] [.val (.int .u8 c), .val (.int .u8 c), Bv false] [] [¬ (c = 45)] hB ⟨h2, trivial⟩ ?_
  refine ae_then ?_
  refine aw_false rfl ?_
  refine aw_seq ?_
  by_cases h3 : c = 42
  ·refine aw_r [(0, .dec true)] [0, 3, 4] [] [.val (.int .u8 c), .val (.int .u8 c), Bv true] [] [c = 42] hB ⟨h3, trivial⟩ ?_
   refine ae_then ?_
   refine aw_true rfl ?_
   refine aw_skip ?_
   refine ae_then ?_
   refine aw_true rfl ?_
   refine aR [] [2] [] [Bv true] [] [] hB trivial ?_
   refine aw_ret ?_
   refine ae_ret_block (ae_ret_then ?_)
   refine ae_ret hB (Bv true) (by kernel_rfl) (.inl (by first | rfl | (refine congrArg Bv ?_; simp [labB, inB, *]; done) | (refine congrArg Bv ?_; simp [labB, inB, *]; omega) | (refine congrArg Bv ?_; simp_all [labB, inB]; done) | (refine congrArg Bv ?_; simp_all [labB, inB]; omega))) rfl (fun _ => trivial)
  refine aw_r [(0, .dec false)] [0, 3, 4] [] [.val (.int .u8 c), .val (.int .u8 c), Bv false] [] [¬ (c = 42)] hB ⟨h3, trivial⟩ ?_
  refine ae_then ?_
  refine aw_false rfl ?_
  refine aw_seq ?_
  by_cases h4 : c = 47
  ·refine aw_r [(0, .dec true)] [0, 3, 4] [] [.val (.int .u8 c), .val (.int .u8 c), Bv true] [] [c = 47] hB ⟨h4, trivial⟩ ?_
   refine ae_then ?_
   refine aw_true rfl ?_
   refine aw_skip ?_
   refine ae_then ?_
   refine aw_true rfl ?_
   refine aR [] [2] [] [Bv true] [] [] hB trivial ?_
   refine aw_ret ?_
   refine ae_ret_block (ae_ret_then ?_)
   refine ae_ret hB (Bv true) (by kernel_rfl) (.inl (by first | rfl | (refine congrArg Bv ?_; simp [labB, inB, *]; done) | (refine congrArg Bv ?_; simp [labB, inB, *]; omega) | (refine congrArg Bv ?_; simp_all [labB, inB]; done) | (refine congrArg Bv ?_; simp_all [labB, inB]; omega))) rfl (fun _ => trivial)
  refine aw_r [(0, .dec false)] [0, 3, 4] [] [.val (.int .u8 c), .val (.int .u8 c), Bv false] [] [¬ (c = 47)] hB ⟨h4, trivial⟩ ?_
  refine ae_then ?_
  refine aw_false rfl ?_
  refine aw_seq ?_
  by_cases h5 : c = 61
  ·refine aw_r [(0, .dec true)] [0, 3, 4] [] [.val (.int .u8 c), .val (.int .u8 c), Bv true] [] [c = 61] hB ⟨h5, trivial⟩ ?_
   refine ae_then ?_
   refine aw_true rfl ?_
   refine aw_skip ?_
   refine ae_then ?_
   refine aw_true rfl ?_
   refine aR [] [2] [] [Bv true] [] [] hB trivial ?_
   refine aw_ret ?_
   refine ae_ret_block (ae_ret_then ?_)
   refine ae_ret hB (Bv true) (by kernel_rfl) (.inl (by first | rfl | (refine congrArg Bv ?_; simp [labB, inB, *]; done) | (refine congrArg Bv ?_; simp [labB, inB, *]; omega) | (refine congrArg Bv ?_; simp_all [labB, inB]; done) | (refine congrArg Bv ?_; simp_all [labB, inB]; omega))) rfl (fun _ => trivial)
  refine aw_r [(0, .dec false)] [0, 3, 4] [] [.val (.int .u8 c), .val (.int .u8 c), Bv false] [] [¬ (c = 61)] hB ⟨h5, trivial⟩ ?_
  refine ae_then ?_
  refine aw_false rfl ?_
  refine aw_seq ?_
  by_cases h6 : c = 40
  ·refine aw_r [(0, .dec true)] [0, 3, 4] [] [.val (.int .u8 c), .val (.int .u8 c), Bv true] [] [c = 40] hB ⟨h6, trivial⟩ ?_
   refine ae_then ?_
   refine aw_true rfl ?_
   refine aw_skip ?_
   refine ae_then ?_
   refine aw_true rfl ?_
   refine aR [] [2] [] [Bv true] [] [] hB trivial ?_
   refine aw_ret ?_
   refine ae_ret_block (ae_ret_then ?_)
   refine ae_ret hB (Bv true) (by kernel_rfl) (.inl (by first | rfl | (refine congrArg Bv ?_; simp [labB, inB, *]; done) | (refine congrArg Bv ?_; simp [labB, inB, *]; omega) | (refine congrArg Bv ?_; simp_all [labB, inB]; done) | (refine congrArg Bv ?_; simp_all [labB, inB]; omega))) rfl (fun _ => trivial)
  refine aw_r [(0, .dec false)] [0, 3, 4] [] [.val (.int .u8 c), .val (.int .u8 c), Bv false] [] [¬ (c = 40)] hB ⟨h6, trivial⟩ ?_
  refine ae_then ?_
  refine aw_false rfl ?_
  refine aw_seq ?_
  by_cases h7 : c = 41
  ·refine aw_r [(0, .dec true)] [0, 3, 4] [] [.val (.int .u8 c), .val (.int .u8 c), Bv true] [] [c = 41] hB ⟨h7, trivial⟩ ?_
   refine ae_then ?_
   refine aw_true rfl ?_
   refine aw_skip ?_
   refine ae_then ?_
   refine aw_true rfl ?_
   refine aR [] [2] [] [Bv true] [] [] hB trivial ?_
   refine aw_ret ?_
   refine ae_ret_block (ae_ret_then ?_)
   refine ae_ret hB (Bv true) (by kernel_rfl) (.inl (by first | rfl | (refine congrArg Bv ?_; simp [labB, inB, *]; done) | (refine congrArg Bv ?_; simp [labB, inB, *]; omega) | (refine congrArg Bv ?_; simp_all [labB, inB]; done) | (refine congrArg Bv ?_; simp_all [labB, inB]; omega))) rfl (fun _ => trivial)
  refine aw_r [(0, .dec false)] [0, 3, 4] [] [.val (.int .u8 c), .val (.int .u8 c), Bv false] [] [¬ (c = 41)] hB ⟨h7, trivial⟩ ?_
  refine ae_then ?_
  refine aw_false rfl ?_
  refine aw_seq ?_
  by_cases h8 : c = 46
  ·refine aw_r [(0, .dec true)] [0, 3, 4] [] [.val (.int .u8 c), .val (.int .u8 c), Bv true] [] [c = 46] hB ⟨h8, trivial⟩ ?_
   refine ae_then ?_
   refine aw_true rfl ?_
   refine aw_skip ?_
   refine ae_then ?_
   refine aw_true rfl ?_
   refine aR [] [2] [] [Bv true] [] [] hB trivial ?_
   refine aw_ret ?_
   refine ae_ret_block (ae_ret_then ?_)
   refine ae_ret hB (Bv true) (by kernel_rfl) (.inl (by first | rfl | (refine congrArg Bv ?_; simp [labB, inB, *]; done) | (refine congrArg Bv ?_; simp [labB, inB, *]; omega) | (refine congrArg Bv ?_; simp_all [labB, inB]; done) | (refine congrArg Bv ?_; simp_all [labB, inB]; omega))) rfl (fun _ => trivial)
  refine aw_r [(0, .dec false)] [0, 3, 4] [] [.val (.int .u8 c), .val (.int .u8 c), Bv false] [] [¬ (c = 46)] hB ⟨h8, trivial⟩ ?_
  refine ae_then ?_
  refine aw_false rfl ?_
  by_cases h9 : c = 44
  ·refine aw_r [(0, .dec true)] [0, 4] [] [.val (.int .u8 c), Bv true] [] [c = 44] hB ⟨h9, trivial⟩ ?_
   refine ae_then ?_
   refine aw_true rfl ?_
   refine aR [] [2] [] [Bv true] [] [] hB trivial ?_
   refine aw_ret ?_
   refine ae_ret_block (ae_ret_then ?_)
   refine ae_ret hB (Bv true) (by kernel_rfl) (.inl (by first | rfl | (refine congrArg Bv ?_; simp [labB, inB, *]; done) | (refine congrArg Bv ?_; simp [labB, inB, *]; omega) | (refine congrArg Bv ?_; simp_all [labB, inB]; done) | (refine congrArg Bv ?_; simp_all [labB, inB]; omega))) rfl (fun _ => trivial)
  refine aw_r [(0, .dec false)] [0, 4] [] [.val (.int .u8 c), Bv false] [] [¬ (c = 44)] hB ⟨h9, trivial⟩ ?_
  refine ae_then ?_
  refine aw_false rfl ?_
  refine aw_skip ?_
  refine ae_block 0 ?_
  refine ae_then ?_
  refine aw_seq ?_
  rcases Bool.eq_false_or_eq_true (inB c 97 122) with h10 | h10
  ·refine aw_r [(1, .call [(true, .any)] true (Bv true))] [2] [] [Bv true] [] [Con Try.prog 79 [.val (.int .u8 c)] true (Bv true) ∧ True] hB ⟨⟨(con_bool h10 (l01Small_ok c)), trivial⟩, trivial⟩ ?_
   refine ae_then ?_
   refine aw_ret ?_
   refine ae_ret hB (Bv true) (by kernel_rfl) (.inl (by first | rfl | (refine congrArg Bv ?_; simp [labB, inB, *]; done) | (refine congrArg Bv ?_; simp [labB, inB, *]; omega) | (refine congrArg Bv ?_; simp_all [labB, inB]; done) | (refine congrArg Bv ?_; simp_all [labB, inB]; omega))) rfl (fun _ => trivial)
  by_cases h11 : 48 ≤ c
  ·refine aw_r [(1, .call [(true, .any)] true (Bv false)), (4, .dec true)] [2] [] [Bv (decide (c ≤ 57))] [] [Con Try.prog 79 [.val (.int .u8 c)] true (Bv false) ∧ True, 48 ≤ c] hB ⟨⟨(con_bool h10 (l01Small_ok c)), trivial⟩, h11, trivial⟩ ?_
   refine ae_then ?_
   refine aw_ret ?_
   refine ae_ret hB (Bv (decide (c ≤ 57))) (by kernel_rfl) (.inl (by first | rfl | (refine congrArg Bv ?_; simp [labB, inB, *]; done) | (refine congrArg Bv ?_; simp [labB, inB, *]; omega) | (refine congrArg Bv ?_; simp_all [labB, inB]; done) | (refine congrArg Bv ?_; simp_all [labB, inB]; omega))) rfl (fun _ => trivial)
  refine aw_r [(1, .call [(true, .any)] true (Bv false)), (4, .dec false)] [2] [] [Bv false] [] [Con Try.prog 79 [.val (.int .u8 c)] true (Bv false) ∧ True, ¬ (48 ≤ c)] hB ⟨⟨(con_bool h10 (l01Small_ok c)), trivial⟩, h11, trivial⟩ ?_
  refine ae_then ?_
  refine aw_ret ?_
  refine ae_ret hB (Bv false) (by kernel_rfl) (.inl (by first | rfl | (refine congrArg Bv ?_; simp [labB, inB, *]; done) | (refine congrArg Bv ?_; simp [labB, inB, *]; omega) | (refine congrArg Bv ?_; simp_all [labB, inB]; done) | (refine congrArg Bv ?_; simp_all [labB, inB]; omega))) rfl (fun _ => trivial)


-- spec.IsLabel
theorem specIsLabel_ok (s : ByteArray) (ok : s.size ≤ 9223372036854775807) : Con Try.prog 59 [Sv s] true (Bv (okLabel s)) := by
  refine fn_ok (fn := Try.f59) (nt := 11) Try.func59 rfl rfl rfl rfl (by simp [taggedL, tagged]) fun B hB => ?_
  refine aR [] [0] [] [Sv s] [] [] hB trivial ?_
  refine aw_seq ?_
  by_cases h1 : (s.size : Int) = 1
  ·refine aw_r [(2, .dec true), (6, .call [(true, .any)] true (Bv (labB (bAt s 0))))] [2] [] [Bv (labB (bAt s 0))] [] [(s.size : Int) = 1, (0 : Int) ≤ 0 ∧ 0 < (s.size : Int), Con Try.prog 70 [.val (.int .u8 (bAt s 0))] true (Bv (labB (bAt s 0))) ∧ True] hB ⟨h1, ⟨(by omega), (by omega)⟩, ⟨(l11Label_ok (bAt s 0)), trivial⟩, trivial⟩ ?_
   refine ae_then ?_
   refine aw_ret ?_
   refine ae_ret hB (Bv (labB (bAt s 0))) (by kernel_rfl) (.inl (by first | rfl | (refine congrArg Bv ?_; simp [okLabel, *]; done) | (refine congrArg Bv ?_; simp [okLabel, *]; omega) | (refine congrArg Bv ?_; simp_all [okLabel]; done) | (refine congrArg Bv ?_; simp_all [okLabel]; omega))) rfl (fun _ => trivial)
  refine aw_r [(2, .dec false)] [2] [] [Bv false] [] [¬ ((s.size : Int) = 1)] hB ⟨h1, trivial⟩ ?_
  refine ae_then ?_
  refine aw_ret ?_
  refine ae_ret hB (Bv false) (by kernel_rfl) (.inl (by first | rfl | (refine congrArg Bv ?_; simp [okLabel, *]; done) | (refine congrArg Bv ?_; simp [okLabel, *]; omega) | (refine congrArg Bv ?_; simp_all [okLabel]; done) | (refine congrArg Bv ?_; simp_all [okLabel]; omega))) rfl (fun _ => trivial)


-- spec.l00In
theorem l00In_ok (n : Int) (low : Int) (high : Int) : Con Try.prog 39 [I n, I low, I high] true (Bv (inB n low high)) := by
  refine fn_ok (fn := Try.f39) (nt := 15) Try.func39 rfl rfl rfl rfl (by simp [taggedL, tagged]) fun B hB => ?_
  refine aR [] [0, 1, 2] [] [I n, I low, I high] [] [] hB trivial ?_
  refine aw_seq ?_
  by_cases h1 : low ≤ n
  ·refine aw_r [(2, .dec true)] [6] [] [Bv (decide (n ≤ high))] [] [low ≤ n] hB ⟨h1, trivial⟩ ?_
   refine ae_then ?_
   refine aw_ret ?_
   refine ae_ret hB (Bv (decide (n ≤ high))) (by kernel_rfl) (.inl (by first | rfl | (refine congrArg Bv ?_; simp [inB, *]; done) | (refine congrArg Bv ?_; simp [inB, *]; omega) | (refine congrArg Bv ?_; simp_all [inB]; done) | (refine congrArg Bv ?_; simp_all [inB]; omega))) rfl (fun _ => trivial)
  refine aw_r [(2, .dec false)] [6] [] [Bv false] [] [¬ (low ≤ n)] hB ⟨h1, trivial⟩ ?_
  refine ae_then ?_
  refine aw_ret ?_
  refine ae_ret hB (Bv false) (by kernel_rfl) (.inl (by first | rfl | (refine congrArg Bv ?_; simp [inB, *]; done) | (refine congrArg Bv ?_; simp [inB, *]; omega) | (refine congrArg Bv ?_; simp_all [inB]; done) | (refine congrArg Bv ?_; simp_all [inB]; omega))) rfl (fun _ => trivial)


-- spec.l09Feat
theorem l09Feat_ok (f : Feat) : Con Try.prog 71 [agFeat f] true (Bv (okF f)) := by
  refine fn_ok (fn := Try.f71) (nt := 16) Try.func71 rfl rfl rfl rfl (by simp [taggedL, tagged]) fun B hB => ?_
  refine aR [(0, .new 1)] [1] [1] [.ref 1 0] [some (bxFeat f)] [] hB trivial ?_
  refine aw_seq ?_
  rcases Bool.eq_false_or_eq_true (inB f.X 0 255) with h1 | h1
  ·rcases Bool.eq_false_or_eq_true (inB f.Y 0 255) with h2 | h2
   ·refine aw_r [(2, .call [(true, .any), (true, .any), (true, .any)] true (Bv true)), (6, .call [(true, .any), (true, .any), (true, .any)] true (Bv true)), (11, .call [(true, .any), (true, .any), (true, .any)] true (Bv (inB f.D 0 7)))] [2] [] [Bv (inB f.D 0 7)] [] [Con Try.prog 39 [I f.X, I 0, I 255] true (Bv true) ∧ True, Con Try.prog 39 [I f.Y, I 0, I 255] true (Bv true) ∧ True, Con Try.prog 39 [I f.D, I 0, I 7] true (Bv (inB f.D 0 7)) ∧ True] hB ⟨⟨(con_bool h1 (l00In_ok f.X 0 255)), trivial⟩, ⟨(con_bool h2 (l00In_ok f.Y 0 255)), trivial⟩, ⟨(l00In_ok f.D 0 7), trivial⟩, trivial⟩ ?_
    refine ae_then ?_
    refine aw_ret ?_
    refine ae_ret hB (Bv (inB f.D 0 7)) (by kernel_rfl) (.inl (by first | rfl | (refine congrArg Bv ?_; simp [okF, *]; done) | (refine congrArg Bv ?_; simp [okF, *]; omega) | (refine congrArg Bv ?_; simp_all [okF]; done) | (refine congrArg Bv ?_; simp_all [okF]; omega))) rfl (fun _ => trivial)
   refine aw_r [(2, .call [(true, .any), (true, .any), (true, .any)] true (Bv true)), (6, .call [(true, .any), (true, .any), (true, .any)] true (Bv false))] [2] [] [Bv false] [] [Con Try.prog 39 [I f.X, I 0, I 255] true (Bv true) ∧ True, Con Try.prog 39 [I f.Y, I 0, I 255] true (Bv false) ∧ True] hB ⟨⟨(con_bool h1 (l00In_ok f.X 0 255)), trivial⟩, ⟨(con_bool h2 (l00In_ok f.Y 0 255)), trivial⟩, trivial⟩ ?_
   refine ae_then ?_
   refine aw_ret ?_
   refine ae_ret hB (Bv false) (by kernel_rfl) (.inl (by first | rfl | (refine congrArg Bv ?_; simp [okF, *]; done) | (refine congrArg Bv ?_; simp [okF, *]; omega) | (refine congrArg Bv ?_; simp_all [okF]; done) | (refine congrArg Bv ?_; simp_all [okF]; omega))) rfl (fun _ => trivial)
  refine aw_r [(2, .call [(true, .any), (true, .any), (true, .any)] true (Bv false))] [2] [] [Bv false] [] [Con Try.prog 39 [I f.X, I 0, I 255] true (Bv false) ∧ True] hB ⟨⟨(con_bool h1 (l00In_ok f.X 0 255)), trivial⟩, trivial⟩ ?_
  refine ae_then ?_
  refine aw_ret ?_
  refine ae_ret hB (Bv false) (by kernel_rfl) (.inl (by first | rfl | (refine congrArg Bv ?_; simp [okF, *]; done) | (refine congrArg Bv ?_; simp [okF, *]; omega) | (refine congrArg Bv ?_; simp_all [okF]; done) | (refine congrArg Bv ?_; simp_all [okF]; omega))) rfl (fun _ => trivial)


-- spec.l09Ok
theorem l09Ok_ok (list : List Feat) : Con Try.prog 60 [slFeat false list] true (Bv (okFeats list 72)) := by
  refine fn_ok (fn := Try.f60) (nt := 19) Try.func60 rfl rfl rfl rfl (by simp [taggedL, tagged, tagFeat]) fun B hB => ?_
  refine aw_lens (x := slFeat false list) 0 rfl (fun len_list => ?_)
  simp [LenOK, LenL, cFeat, fFeat, slFeat] at len_list
  refine aR [] [0] [] [slFeat false list] [] [] hB trivial ?_
  refine aw_seq ?_
  refine aR [] [0, 3] [] [slFeat false list, I 0] [] [] hB trivial ?_
  refine aw_block ?_
  refine aw_loop (fun gn gσ => ∃ (i : Int), gn = ((list.length : Int) - i).toNat ∧ (0 ≤ i ∧ i ≤ (list.length : Int)) ∧ (∀ j : Nat, (j : Int) < i → okF (at_ list j) = true) ∧ gσ = mkS [(0, slFeat false list), (3, I i)] []) (((list.length : Int) - 0).toNat) ⟨0, rfl, (by omega), (by intro j hj; omega), rfl⟩ (fun gn gσ hI => ?_)
  obtain ⟨i, rfl, hi0, hall0, rfl⟩ := hI
  refine aw_seq ?_
  refine aw_seq ?_
  by_cases h1 : i < (list.length : Int)
  ·have hi : i.toNat < list.length := by omega
   refine aw_r [(3, .dec true)] [0, 3, 7] [] [slFeat false list, I i, Bv true] [] [i < (list.length : Int)] hB ⟨h1, trivial⟩ ?_
   refine ae_then ?_
   refine aw_true rfl ?_
   refine aw_skip ?_
   refine ae_then ?_
   refine aw_seq ?_
   refine aw_block ?_
   refine aw_seq ?_
   rcases Bool.eq_false_or_eq_true (okF (at_ list i.toNat)) with h2 | h2
   ·refine aw_r [(4, .call [(true, .any)] true (Bv true))] [0, 3, 15] [] [slFeat false list, I i, Bv false] [] [(0 : Int) ≤ i ∧ i < (list.length : Int), Con Try.prog 71 [agFeat (at_ list i.toNat)] true (Bv true) ∧ True] hB ⟨⟨(by omega), (by omega)⟩, ⟨(con_bool h2 (l09Feat_ok (at_ list i.toNat))), trivial⟩, trivial⟩ ?_
    refine ae_then ?_
    refine aw_false rfl ?_
    refine aw_skip ?_
    refine ae_block 1 ?_
    refine ae_then ?_
    refine aw_r [] [0, 3] [] [slFeat false list, I (i + 1)] [] [inR .i64 (i + 1)] hB ⟨(inR_i64 (by omega) (by omega)), trivial⟩ ?_
    exact ae_again _ (by omega) ⟨(i + 1), rfl, (by omega), (by intro j hj; by_cases ej : j = i.toNat; (subst ej; first | assumption | exact hok); exact hall0 j (by omega)), rfl⟩
   have hall : allN list.length (fun j => okF (at_ list j)) = false := allN_not hi h2
   refine aw_r [(4, .call [(true, .any)] true (Bv false))] [0, 3, 15] [] [slFeat false list, I i, Bv true] [] [(0 : Int) ≤ i ∧ i < (list.length : Int), Con Try.prog 71 [agFeat (at_ list i.toNat)] true (Bv false) ∧ True] hB ⟨⟨(by omega), (by omega)⟩, ⟨(con_bool h2 (l09Feat_ok (at_ list i.toNat))), trivial⟩, trivial⟩ ?_
   refine ae_then ?_
   refine aw_true rfl ?_
   refine aR [] [2] [] [Bv false] [] [] hB trivial ?_
   refine aw_ret ?_
   refine ae_ret_block (ae_ret_then (ae_ret_then (ae_ret_block (ae_ret_then ?_))))
   refine ae_ret hB (Bv false) (by kernel_rfl) (.inl (by first | rfl | (refine congrArg Bv ?_; simp [okFeats, inB, *]; done) | (refine congrArg Bv ?_; simp [okFeats, inB, *]; omega) | (refine congrArg Bv ?_; simp_all [okFeats, inB]; done) | (refine congrArg Bv ?_; simp_all [okFeats, inB]; omega))) rfl (fun _ => trivial)
  have hall : allN list.length (fun j => okF (at_ list j)) = true := allN_at (fun j hj => hall0 j (by omega))
  refine aw_r [(3, .dec false)] [0, 3, 7] [] [slFeat false list, I i, Bv false] [] [¬ (i < (list.length : Int))] hB ⟨h1, trivial⟩ ?_
  refine ae_then ?_
  refine aw_false rfl ?_
  refine aw_exit ?_
  refine ae_exit_then ?_
  refine ae_exit_then ?_
  refine ae_exit_same ?_
  refine ae_then ?_
  refine aR [(2, .call [(true, .any), (true, .any), (true, .any)] true (Bv (inB (list.length : Int) 1 72)))] [2] [] [Bv (inB (list.length : Int) 1 72)] [] [Con Try.prog 39 [I (list.length : Int), I 1, I 72] true (Bv (inB (list.length : Int) 1 72)) ∧ True] hB ⟨⟨(l00In_ok (list.length : Int) 1 72), trivial⟩, trivial⟩ ?_
  refine aw_ret ?_
  refine ae_ret hB (Bv (inB (list.length : Int) 1 72)) (by kernel_rfl) (.inl (by first | rfl | (refine congrArg Bv ?_; simp [okFeats, inB, *]; done) | (refine congrArg Bv ?_; simp [okFeats, inB, *]; omega) | (refine congrArg Bv ?_; simp_all [okFeats, inB]; done) | (refine congrArg Bv ?_; simp_all [okFeats, inB]; omega))) rfl (fun _ => trivial)


-- spec.l11Template
theorem l11Template_ok (t : Template) (ok : t.Label.size ≤ 9223372036854775807) : Con Try.prog 38 [.ptr false [Sv t.Label, slFeat false t.Feats]] true (Bv (okTm t)) := by
  refine fn_ok (fn := Try.f38) (nt := 15) Try.func38 rfl rfl rfl rfl (by simp [taggedL, tagged, tagFeat]) fun B hB => ?_
  refine aw_lens (x := .ptr false [Sv t.Label, slFeat false t.Feats]) 0 rfl (fun len_t => ?_)
  simp [LenOK, LenL, cFeat, fFeat, slFeat] at len_t
  refine aR [] [0] [] [.ptr false [Sv t.Label, slFeat false t.Feats]] [] [] hB trivial ?_
  refine aw_seq ?_
  rcases Bool.eq_false_or_eq_true (okLabel t.Label) with h1 | h1
  ·refine aw_r [(4, .call [(true, .any)] true (Bv true)), (10, .call [(true, .any)] true (Bv (okFeats t.Feats 72)))] [2] [] [Bv (okFeats t.Feats 72)] [] [Con Try.prog 59 [Sv t.Label] true (Bv true) ∧ True, Con Try.prog 60 [slFeat false t.Feats] true (Bv (okFeats t.Feats 72)) ∧ True] hB ⟨⟨(con_bool h1 (specIsLabel_ok t.Label ok)), trivial⟩, ⟨(l09Ok_ok t.Feats), trivial⟩, trivial⟩ ?_
   refine ae_then ?_
   refine aw_ret ?_
   refine ae_ret hB (Bv (okFeats t.Feats 72)) (by kernel_rfl) (.inl (by first | rfl | (refine congrArg Bv ?_; simp [okTm, *]; done) | (refine congrArg Bv ?_; simp [okTm, *]; omega) | (refine congrArg Bv ?_; simp_all [okTm]; done) | (refine congrArg Bv ?_; simp_all [okTm]; omega))) rfl (fun _ => trivial)
  refine aw_r [(4, .call [(true, .any)] true (Bv false))] [2] [] [Bv false] [] [Con Try.prog 59 [Sv t.Label] true (Bv false) ∧ True] hB ⟨⟨(con_bool h1 (specIsLabel_ok t.Label ok)), trivial⟩, trivial⟩ ?_
  refine ae_then ?_
  refine aw_ret ?_
  refine ae_ret hB (Bv false) (by kernel_rfl) (.inl (by first | rfl | (refine congrArg Bv ?_; simp [okTm, *]; done) | (refine congrArg Bv ?_; simp [okTm, *]; omega) | (refine congrArg Bv ?_; simp_all [okTm]; done) | (refine congrArg Bv ?_; simp_all [okTm]; omega))) rfl (fun _ => trivial)


def okStore' (s : Store) : Bool := inB s.Band 0 72 && (decide ((s.Templates.length : Int) ≤ 40) && allN s.Templates.length (fun j => okTm (at_ s.Templates j)))
theorem okStore_iff {s : Store} : okStore' s = true ↔ (0 ≤ s.Band ∧ s.Band ≤ 72) ∧ s.Templates.length ≤ 40 ∧ ∀ j, j < s.Templates.length → okTm (at_ s.Templates j) = true := by
  simp only [okStore', Bool.and_eq_true, decide_eq_true_eq, inB, allN_iff]
  constructor
  · rintro ⟨a, b, c⟩; exact ⟨a, by omega, c⟩
  · rintro ⟨a, b, c⟩; exact ⟨a, by omega, c⟩

-- spec.l11Ok
theorem l11Ok_ok (s : Store) (ok : okStore s) : Con Try.prog 20 [.ptr false [I s.Band, slTemplate false s.Templates]] true (Bv (okStore' s)) := by
  refine fn_ok (fn := Try.f20) (nt := 34) Try.func20 rfl rfl rfl rfl (by simp [taggedL, tagged, tagTemplate]) fun B hB => ?_
  refine aw_lens (x := .ptr false [I s.Band, slTemplate false s.Templates]) 0 rfl (fun len_s => ?_)
  simp [LenOK, LenL, cFeat, cTemplate, fFeat, fTemplate, slFeat, slTemplate] at len_s
  refine aR [] [0] [] [.ptr false [I s.Band, slTemplate false s.Templates]] [] [] hB trivial ?_
  refine aw_seq ?_
  refine aR [] [0, 3] [] [.ptr false [I s.Band, slTemplate false s.Templates], I 0] [] [] hB trivial ?_
  refine aw_block ?_
  refine aw_loop (fun gn gσ => ∃ (i : Int), gn = ((s.Templates.length : Int) - i).toNat ∧ (0 ≤ i ∧ i ≤ (s.Templates.length : Int)) ∧ (∀ j : Nat, (j : Int) < i → okTm (at_ s.Templates j) = true) ∧ gσ = mkS [(0, .ptr false [I s.Band, slTemplate false s.Templates]), (3, I i)] []) (((s.Templates.length : Int) - 0).toNat) ⟨0, rfl, (by omega), (by intro j hj; omega), rfl⟩ (fun gn gσ hI => ?_)
  obtain ⟨i, rfl, hi0, hall0, rfl⟩ := hI
  refine aw_seq ?_
  refine aw_seq ?_
  by_cases h1 : i < (s.Templates.length : Int)
  ·have hi : i.toNat < s.Templates.length := by omega
   refine aw_r [(6, .dec true)] [0, 3, 10] [] [.ptr false [I s.Band, slTemplate false s.Templates], I i, Bv true] [] [i < (s.Templates.length : Int)] hB ⟨h1, trivial⟩ ?_
   refine ae_then ?_
   refine aw_true rfl ?_
   refine aw_skip ?_
   refine ae_then ?_
   refine aw_seq ?_
   refine aw_block ?_
   refine aw_seq ?_
   rcases Bool.eq_false_or_eq_true (okTm (at_ s.Templates i.toNat)) with h2 | h2
   ·refine aw_r [(6, .call [(true, .any)] true (Bv true))] [0, 3, 20] [] [.ptr false [I s.Band, slTemplate false s.Templates], I i, Bv false] [] [(0 : Int) ≤ i ∧ i < (s.Templates.length : Int), Con Try.prog 38 [.ptr false [Sv ((at_ s.Templates i.toNat).Label), slFeat false ((at_ s.Templates i.toNat).Feats)]] true (Bv true) ∧ True] hB ⟨⟨(by omega), (by omega)⟩, ⟨(con_bool h2 (l11Template_ok (at_ s.Templates i.toNat) (ok _ (at_mem hi)))), trivial⟩, trivial⟩ ?_
    refine ae_then ?_
    refine aw_false rfl ?_
    refine aw_skip ?_
    refine ae_block 1 ?_
    refine ae_then ?_
    refine aw_r [] [0, 3] [] [.ptr false [I s.Band, slTemplate false s.Templates], I (i + 1)] [] [inR .i64 (i + 1)] hB ⟨(inR_i64 (by omega) (by omega)), trivial⟩ ?_
    exact ae_again _ (by omega) ⟨(i + 1), rfl, (by omega), (by intro j hj; by_cases ej : j = i.toNat; (subst ej; first | assumption | exact hok); exact hall0 j (by omega)), rfl⟩
   have hall : allN s.Templates.length (fun j => okTm (at_ s.Templates j)) = false := allN_not hi h2
   refine aw_r [(6, .call [(true, .any)] true (Bv false))] [0, 3, 20] [] [.ptr false [I s.Band, slTemplate false s.Templates], I i, Bv true] [] [(0 : Int) ≤ i ∧ i < (s.Templates.length : Int), Con Try.prog 38 [.ptr false [Sv ((at_ s.Templates i.toNat).Label), slFeat false ((at_ s.Templates i.toNat).Feats)]] true (Bv false) ∧ True] hB ⟨⟨(by omega), (by omega)⟩, ⟨(con_bool h2 (l11Template_ok (at_ s.Templates i.toNat) (ok _ (at_mem hi)))), trivial⟩, trivial⟩ ?_
   refine ae_then ?_
   refine aw_true rfl ?_
   refine aR [] [2] [] [Bv false] [] [] hB trivial ?_
   refine aw_ret ?_
   refine ae_ret_block (ae_ret_then (ae_ret_then (ae_ret_block (ae_ret_then ?_))))
   refine ae_ret hB (Bv false) (by kernel_rfl) (.inl (by first | rfl | (refine congrArg Bv ?_; simp [okStore', inB, *]; done) | (refine congrArg Bv ?_; simp [okStore', inB, *]; omega) | (refine congrArg Bv ?_; simp_all [okStore', inB]; done) | (refine congrArg Bv ?_; simp_all [okStore', inB]; omega))) rfl (fun _ => trivial)
  have hall : allN s.Templates.length (fun j => okTm (at_ s.Templates j)) = true := allN_at (fun j hj => hall0 j (by omega))
  refine aw_r [(6, .dec false)] [0, 3, 10] [] [.ptr false [I s.Band, slTemplate false s.Templates], I i, Bv false] [] [¬ (i < (s.Templates.length : Int))] hB ⟨h1, trivial⟩ ?_
  refine ae_then ?_
  refine aw_false rfl ?_
  refine aw_exit ?_
  refine ae_exit_then ?_
  refine ae_exit_then ?_
  refine ae_exit_same ?_
  refine ae_then ?_
  refine aw_seq ?_
  rcases Bool.eq_false_or_eq_true (inB s.Band 0 72) with h3 | h3
  ·refine aw_r [(4, .call [(true, .any), (true, .any), (true, .any)] true (Bv true))] [2] [] [Bv (decide ((s.Templates.length : Int) ≤ 40))] [] [Con Try.prog 39 [I s.Band, I 0, I 72] true (Bv true) ∧ True] hB ⟨⟨(con_bool h3 (l00In_ok s.Band 0 72)), trivial⟩, trivial⟩ ?_
   refine ae_then ?_
   refine aw_ret ?_
   refine ae_ret hB (Bv (decide ((s.Templates.length : Int) ≤ 40))) (by kernel_rfl) (.inl (by first | rfl | (refine congrArg Bv ?_; simp [okStore', inB, *]; done) | (refine congrArg Bv ?_; simp [okStore', inB, *]; omega) | (refine congrArg Bv ?_; simp_all [okStore', inB]; done) | (refine congrArg Bv ?_; simp_all [okStore', inB]; omega))) rfl (fun _ => trivial)
  refine aw_r [(4, .call [(true, .any), (true, .any), (true, .any)] true (Bv false))] [2] [] [Bv false] [] [Con Try.prog 39 [I s.Band, I 0, I 72] true (Bv false) ∧ True] hB ⟨⟨(con_bool h3 (l00In_ok s.Band 0 72)), trivial⟩, trivial⟩ ?_
  refine ae_then ?_
  refine aw_ret ?_
  refine ae_ret hB (Bv false) (by kernel_rfl) (.inl (by first | rfl | (refine congrArg Bv ?_; simp [okStore', inB, *]; done) | (refine congrArg Bv ?_; simp [okStore', inB, *]; omega) | (refine congrArg Bv ?_; simp_all [okStore', inB]; done) | (refine congrArg Bv ?_; simp_all [okStore', inB]; omega))) rfl (fun _ => trivial)


-- spec.l24Copy
theorem l24Copy_ok (list : List Feat) (hl : list.length ≤ 72) : Con Try.prog 53 [slFeat false list] true (slFeat true list) := by
  refine fn_ok (fn := Try.f53) (nt := 6) Try.func53 rfl rfl rfl rfl (by simp [taggedL, tagged, tagFeat]) fun B hB => ?_
  refine aw_lens (x := slFeat false list) 0 rfl (fun len_list => ?_)
  simp [LenOK, LenL, cFeat, fFeat, slFeat] at len_list
  refine aR [] [0] [] [slFeat false list] [] [] hB trivial ?_
  refine aR [(0, .new 3), (2, .new 5)] [2] [5] [.arr 5] [some (.arr 3 (0 + list.length) (catF 0 (litF [] 3) (fFeat list)))] [(0 + list.length) * 24 ≤ 140737488355328] hB ⟨(by omega), trivial⟩ ?_
  refine aw_ret ?_
  refine ae_ret hB (.arr 5) (by kernel_rfl) (.inr ⟨(fun _ => rfl), rfl, (by first | rfl | (simp; done) | (simp; omega) | omega), fun i_ hi_ => .inl (cat_nil i_)⟩) rfl (fun _ => (tagFeat true _))


-- spec.l24Start
theorem l24Start_ok (label : ByteArray) (feats : List Feat) (hl : feats.length ≤ 72) : Con Try.prog 40 [Sv label, slFeat false feats] true (agTrainedT (Trained.mk label feats feats 0)) := by
  refine fn_ok (fn := Try.f40) (nt := 11) Try.func40 rfl rfl rfl rfl (by simp [taggedL, tagged, tagFeat]) fun B hB => ?_
  refine aw_lens (x := slFeat false feats) 1 rfl (fun len_feats => ?_)
  simp [LenOK, LenL, cFeat, fFeat, slFeat] at len_feats
  refine aR [(0, .new 4)] [0, 1, 4] [4] [Sv label, slFeat false feats, .ref 4 0] [some (.box [Sv (⟨#[]⟩ : ByteArray), nilA, nilA, I 0])] [] hB trivial ?_
  refine aR [(2, .call [(true, .any)] true (slFeat true feats)), (4, .call [(true, .any)] true (slFeat true feats))] [4] [4] [.ref 4 0] [some (.box [Sv label, slFeat true feats, slFeat true feats, I 0])] [Con Try.prog 53 [slFeat false feats] true (slFeat true feats) ∧ True, Con Try.prog 53 [slFeat false feats] true (slFeat true feats) ∧ True] hB ⟨⟨(l24Copy_ok feats hl), trivial⟩, ⟨(l24Copy_ok feats hl), trivial⟩, trivial⟩ ?_
  refine aw_ret ?_
  refine ae_ret hB (.agg [Sv label, slFeat true feats, slFeat true feats, I 0]) (by kernel_rfl) (.inr ⟨(by first | rfl | (simp [valOf]; done) | (simp [valOf]; omega)), ⟨⟨(fun _ => rfl), rfl, (by first | rfl | (simp; done) | (simp; omega) | omega), fun i_ hi_ => .inl (by first | rfl | fail)⟩, ⟨⟨(fun _ => rfl), rfl, (by first | rfl | (simp; done) | (simp; omega) | omega), fun i_ hi_ => .inl (by first | rfl | fail)⟩, ⟨(by first | rfl | (simp [valOf]; done) | (simp [valOf]; omega)), rfl⟩⟩⟩⟩) rfl (fun _ => (by simp [tagged, taggedL, tagFeat]))


def stT (t : Template) : Trained := ⟨t.Label, t.Feats, t.Feats, 0⟩
def wsR (s : Store) : Writer × Int := if okStore' s = true then (⟨s.Band, s.Templates.map stT⟩, 0) else (⟨0, []⟩, 1)
theorem wsR_yes {s : Store} (h : okStore' s = true) : wsR s = (⟨s.Band, s.Templates.map stT⟩, 0) := if_pos h
theorem wsR_no {s : Store} (h : okStore' s = false) : wsR s = (⟨0, []⟩, 1) := by simp [wsR, h]
theorem map_take {α β : Type} [Inhabited α] (f : α → β) {l : List α} {i : Nat} (hi : i < l.length) : (l.take (i + 1)).map f = (l.take i).map f ++ [f (at_ l i)] := by rw [take_snoc' hi, List.map_append]; rfl

-- spec.l24OfStore
theorem l24OfStore_ok (s : Store) (hok : (0 ≤ s.Band ∧ s.Band ≤ 72) ∧ s.Templates.length ≤ 40 ∧ ∀ j, j < s.Templates.length → okTm (at_ s.Templates j) = true) : ∃ (v : Writer), (v = Writer.mk s.Band (s.Templates.map stT)) ∧ Con Try.prog 21 [.ptr false [I s.Band, slTemplate false s.Templates]] true (agWriterT v) := by
  have hh : ∃ r : Writer, ((r = Writer.mk s.Band (s.Templates.map stT)) ∧ (True)) ∧ CallOK Try.prog 21 [.ptr false [I s.Band, slTemplate false s.Templates]] (lookO []) true (agWriterT r) (lookO []) := by
    refine fn_okX (Φ := fun r : Writer => (r = Writer.mk s.Band (s.Templates.map stT)) ∧ (True)) [] (fun r => []) (fn := Try.f21) (nt := 42) Try.func21 rfl rfl (args := [.ptr false [I s.Band, slTemplate false s.Templates]]) rfl (allcons (.inl ⟨rfl, by simp [tagged, taggedL, tagTemplate]⟩) allnil) (res := fun r => agWriterT r) ?_
    refine xR [(0, .new 2)] [0, 2] [2] [.ptr false [I s.Band, slTemplate false s.Templates], .ref 2 0] [some (.box [I 0, nilA])] [] trivial ?_
    refine xR [(5, .new 3)] [0, 2, 3] [2, 3] [.ptr false [I s.Band, slTemplate false s.Templates], .ref 2 0, .ref 3 0] [some (.box [I 0, nilA]), some (.box [I s.Band, nilA])] [] trivial ?_
    refine x_seq ?_
    refine xR [] [0, 2, 3, 4] [2, 3] [.ptr false [I s.Band, slTemplate false s.Templates], .ref 2 0, .ref 3 0, I 0] [some (.box [I 0, nilA]), some (.box [I s.Band, nilA])] [] trivial ?_
    refine x_block ?_
    refine x_nilC 3 1 731 4 (fun _ => []) rfl (by kernel_rfl) ?_
    refine x_weak [] (T := [(0, .ptr false [I s.Band, slTemplate false s.Templates]), (2, .ref 2 0), (3, .ref 3 0), (4, I 0)]) (O := [(2, .box [I 0, nilA]), (3, .box [I s.Band, .arr 731]), (731, .arr 4 (([] : List Trained).length) (fTrained true ([] : List Trained)))]) rfl (⟨.inl rfl, .inl rfl, .inl rfl, .inl rfl, trivial⟩) (⟨.inl rfl, .inl rfl, .inr ⟨rfl, (by first | rfl | (simp; done) | (simp; omega) | omega), fun i_ hi_ => absurd hi_ (Nat.not_lt_zero _)⟩, trivial⟩) ?_
    refine x_loop (X := Int × (List Trained)) (fun x => mkS [(0, .ptr false [I s.Band, slTemplate false s.Templates]), (2, .ref 2 0), (3, .ref 3 0), (4, I x.1)] [(2, .box [I 0, nilA]), (3, .box [I s.Band, .arr 731]), (731, .arr 4 x.2.length (fTrained true x.2))]) (fun x => (0 ≤ x.1 ∧ x.1 ≤ (s.Templates.length : Int)) ∧ (x.2 = (s.Templates.take x.1.toNat).map stT) ∧ True) (fun x => ((s.Templates.length : Int) - x.1).toNat) (0, ([] : List Trained)) rfl (show (0 ≤ (0 : Int) ∧ (0 : Int) ≤ (s.Templates.length : Int)) ∧ (([] : List Trained) = (s.Templates.take (0 : Int).toNat).map stT) ∧ True from ⟨(by omega), (by rfl), trivial⟩) (fun x hI => ?_)
    obtain ⟨i, ts⟩ := x
    obtain ⟨hi0, hy0, _⟩ : (0 ≤ i ∧ i ≤ (s.Templates.length : Int)) ∧ (ts = (s.Templates.take i.toNat).map stT) ∧ True := hI
    show XW _ _ _ _ (mkS [(0, .ptr false [I s.Band, slTemplate false s.Templates]), (2, .ref 2 0), (3, .ref 3 0), (4, I i)] [(2, .box [I 0, nilA]), (3, .box [I s.Band, .arr 731]), (731, .arr 4 ts.length (fTrained true ts))]) _ _
    refine x_seq ?_
    refine x_seq ?_
    by_cases h1 : i < (s.Templates.length : Int)
    ·have hi : i.toNat < s.Templates.length := by omega
     have hlen := okTm_len (hok.2.2 _ hi)
     have htl : ts.length = i.toNat := by rw [hy0, List.length_map, List.length_take]; omega
     refine x_r [(6, .dec true)] [0, 2, 3, 4, 16] [2, 3, 731] [.ptr false [I s.Band, slTemplate false s.Templates], .ref 2 0, .ref 3 0, I i, Bv true] [some (.box [I 0, nilA]), some (.box [I s.Band, .arr 731]), some (.arr 4 ts.length (fTrained true ts))] [i < (s.Templates.length : Int)] ⟨h1, trivial⟩ ?_
     refine xe_then ?_
     refine x_true rfl ?_
     refine x_skip ?_
     refine xe_then ?_
     refine x_seq ?_
     refine x_block ?_
     refine x_r [(18, .call [(true, .any), (true, .any)] true (agTrainedT (Trained.mk ((at_ s.Templates i.toNat).Label) ((at_ s.Templates i.toNat).Feats) ((at_ s.Templates i.toNat).Feats) 0))), (19, .new 38), (20, .new 39)] [0, 2, 3, 4] [2, 3, 39] [.ptr false [I s.Band, slTemplate false s.Templates], .ref 2 0, .ref 3 0, I i] [some (.box [I 0, nilA]), some (.box [I s.Band, .arr 39]), some (.arr 4 (ts.length + 1) (catF ts.length (fTrained true ts) (litF [Sv ((Trained.mk ((at_ s.Templates i.toNat).Label) ((at_ s.Templates i.toNat).Feats) ((at_ s.Templates i.toNat).Feats) 0).Label), slFeat true ((Trained.mk ((at_ s.Templates i.toNat).Label) ((at_ s.Templates i.toNat).Feats) ((at_ s.Templates i.toNat).Feats) 0).Base), slFeat true ((Trained.mk ((at_ s.Templates i.toNat).Label) ((at_ s.Templates i.toNat).Feats) ((at_ s.Templates i.toNat).Feats) 0).Feats), I ((Trained.mk ((at_ s.Templates i.toNat).Label) ((at_ s.Templates i.toNat).Feats) ((at_ s.Templates i.toNat).Feats) 0).Count)] 4)))] [(0 : Int) ≤ i ∧ i < (s.Templates.length : Int), (0 : Int) ≤ i ∧ i < (s.Templates.length : Int), Con Try.prog 40 [Sv ((at_ s.Templates i.toNat).Label), slFeat false ((at_ s.Templates i.toNat).Feats)] true (agTrainedT (Trained.mk ((at_ s.Templates i.toNat).Label) ((at_ s.Templates i.toNat).Feats) ((at_ s.Templates i.toNat).Feats) 0)) ∧ True, (ts.length + 1) * 72 ≤ 140737488355328] ⟨⟨(by omega), (by omega)⟩, ⟨(by omega), (by omega)⟩, ⟨(l24Start_ok ((at_ s.Templates i.toNat).Label) ((at_ s.Templates i.toNat).Feats) hlen), trivial⟩, (by omega), trivial⟩ ?_
     refine xe_block 1 ?_
     refine xe_then ?_
     refine x_r [] [0, 2, 3, 4] [2, 3, 39] [.ptr false [I s.Band, slTemplate false s.Templates], .ref 2 0, .ref 3 0, I (i + 1)] [some (.box [I 0, nilA]), some (.box [I s.Band, .arr 39]), some (.arr 4 (ts.length + 1) (catF ts.length (fTrained true ts) (litF [Sv ((Trained.mk ((at_ s.Templates i.toNat).Label) ((at_ s.Templates i.toNat).Feats) ((at_ s.Templates i.toNat).Feats) 0).Label), slFeat true ((Trained.mk ((at_ s.Templates i.toNat).Label) ((at_ s.Templates i.toNat).Feats) ((at_ s.Templates i.toNat).Feats) 0).Base), slFeat true ((Trained.mk ((at_ s.Templates i.toNat).Label) ((at_ s.Templates i.toNat).Feats) ((at_ s.Templates i.toNat).Feats) 0).Feats), I ((Trained.mk ((at_ s.Templates i.toNat).Label) ((at_ s.Templates i.toNat).Feats) ((at_ s.Templates i.toNat).Feats) 0).Count)] 4)))] [inR .i64 (i + 1)] ⟨(inR_i64 (by omega) (by omega)), trivial⟩ ?_
     refine xe_weak [(731, 39)] (T := [(0, .ptr false [I s.Band, slTemplate false s.Templates]), (2, .ref 2 0), (3, .ref 3 0), (4, I (i + 1))]) (O := [(2, .box [I 0, nilA]), (3, .box [I s.Band, .arr 731]), (731, .arr 4 ((ts ++ [(Trained.mk ((at_ s.Templates i.toNat).Label) ((at_ s.Templates i.toNat).Feats) ((at_ s.Templates i.toNat).Feats) 0)]).length) (fTrained true (ts ++ [(Trained.mk ((at_ s.Templates i.toNat).Label) ((at_ s.Templates i.toNat).Feats) ((at_ s.Templates i.toNat).Feats) 0)])))]) rfl (⟨.inl rfl, .inl rfl, .inl rfl, .inl rfl, trivial⟩) (⟨.inl rfl, .inl rfl, .inr ⟨rfl, (by first | rfl | (simp; done) | (simp; omega) | omega), fun i_ hi_ => .inl (cat_snoc (enc := (cTrained true)) (xs := ts) rfl i_ hi_)⟩, trivial⟩) (xe_again ((i + 1), (ts ++ [(Trained.mk ((at_ s.Templates i.toNat).Label) ((at_ s.Templates i.toNat).Feats) ((at_ s.Templates i.toNat).Feats) 0)])) rfl (show (0 ≤ (i + 1) ∧ (i + 1) ≤ (s.Templates.length : Int)) ∧ ((ts ++ [(Trained.mk ((at_ s.Templates i.toNat).Label) ((at_ s.Templates i.toNat).Feats) ((at_ s.Templates i.toNat).Feats) 0)]) = (s.Templates.take (i + 1).toNat).map stT) ∧ True from ⟨(by omega), (by rw [show (i + 1).toNat = i.toNat + 1 from by omega, map_take stT hi, ← hy0]; rfl), trivial⟩) (by first | (show (((s.Templates.length : Int) - (i + 1)).toNat : Nat) < ((s.Templates.length : Int) - i).toNat; omega) | (dsimp only; omega)))
    have hie : i.toNat = s.Templates.length := by omega
    rw [hie, List.take_length] at hy0
    refine x_r [(6, .dec false)] [0, 2, 3, 4, 16] [2, 3, 731] [.ptr false [I s.Band, slTemplate false s.Templates], .ref 2 0, .ref 3 0, I i, Bv false] [some (.box [I 0, nilA]), some (.box [I s.Band, .arr 731]), some (.arr 4 ts.length (fTrained true ts))] [¬ (i < (s.Templates.length : Int))] ⟨h1, trivial⟩ ?_
    refine xe_then ?_
    refine x_false rfl ?_
    refine x_exit ?_
    refine xe_exit_then ?_
    refine xe_loop_exit ?_
    refine xe_exit_same ?_
    refine xe_then ?_
    refine xR [] [2] [2, 731] [.ref 2 0] [some (.box [I s.Band, .arr 731]), some (.arr 4 ts.length (fTrained true ts))] [] trivial ?_
    refine x_ret ?_
    refine xe_end (Writer.mk s.Band ts) (show ((Writer.mk s.Band ts) = Writer.mk s.Band (s.Templates.map stT)) ∧ (True) from ⟨(by rw [hy0]), trivial⟩) (trivial) (.agg [I s.Band, .arr 731]) (by kernel_rfl) (.inr ⟨rfl, ⟨⟨(fun _ => rfl), rfl, rfl, fun i _ => .inl rfl⟩, rfl⟩⟩) (fun _ => rfl) (fun _ => (by simp [tagged, taggedL, tagTrained]))
  obtain ⟨v, ⟨hh0, _⟩, hc⟩ := hh
  exact ⟨v, hh0, hc⟩


-- spec.WriterOfStore
theorem specWriterOfStore_ok (s : Store) (ok : okStore s) : ∃ (v : Writer) (c : Int), (v = (wsR s).1) ∧ (c = (wsR s).2) ∧ Con Try.prog 6 [agStore s] true (.tup [agWriterT v, I c]) := by
  have hh : ∃ r : Writer × Int, ((r.1 = (wsR s).1) ∧ (r.2 = (wsR s).2) ∧ (True)) ∧ CallOK Try.prog 6 [agStore s] (lookO []) true (.tup [agWriterT r.1, I r.2]) (lookO []) := by
    refine fn_okX (Φ := fun r : Writer × Int => (r.1 = (wsR s).1) ∧ (r.2 = (wsR s).2) ∧ (True)) [] (fun r => []) (fn := Try.f6) (nt := 8) Try.func6 rfl rfl (args := [agStore s]) rfl (allcons (.inl ⟨rfl, by simp [tagged, taggedL, tagTemplate]⟩) allnil) (res := fun r => .tup [agWriterT r.1, I r.2]) ?_
    refine xR [(0, .new 1), (1, .new 2)] [1, 2] [1, 2] [.ref 1 0, .ref 2 0] [some (bxStore s), some (.box [I 0, nilA])] [] trivial ?_
    refine x_seq ?_
    refine x_seq ?_
    rcases Bool.eq_false_or_eq_true (okStore' s) with h1 | h1
    ·have hst := wsR_yes h1
     have hok := okStore_iff.1 h1
     refine x_r [(0, .call [(false, .ptr false [I s.Band, slTemplate false s.Templates])] true (Bv true))] [1, 2, 5] [1, 2] [.ref 1 0, .ref 2 0, Bv false] [some (bxStore s), some (.box [I 0, nilA])] [Con Try.prog 20 [.ptr false [I s.Band, slTemplate false s.Templates]] true (Bv true) ∧ ((false = true → true = true) ∧ AV.idsL [I s.Band, slTemplate false s.Templates] = [] ∧ (valOf (I s.Band) = valOf (I s.Band)) ∧ ((false = true → false = true) ∧ 2 = 2 ∧ s.Templates.length = s.Templates.length ∧ ∀ i_, i_ < s.Templates.length → (fTemplate false s.Templates) i_ = (fTemplate false s.Templates) i_ ∨ (AV.idsL ((fTemplate false s.Templates) i_) = [] ∧ leL (fun _ => none) false ((fTemplate false s.Templates) i_) ((fTemplate false s.Templates) i_))) ∧ ([] : List AV) = []) ∧ True] ⟨⟨(con_bool h1 (l11Ok_ok s ok)), ⟨(fun h => by cases h), rfl, ⟨rfl, ⟨⟨(fun h => by cases h), rfl, rfl, fun i _ => .inl rfl⟩, rfl⟩⟩⟩, trivial⟩, trivial⟩ ?_
     refine xe_then ?_
     refine x_false rfl ?_
     refine x_skip ?_
     refine xe_then ?_
     refine x_seq ?_
     obtain ⟨v_1, hx1_0, hc1⟩ := l24OfStore_ok s hok
     refine x_r [(0, .call [(false, .ptr false [I s.Band, slTemplate false s.Templates])] true (agWriterT v_1))] [2, 3] [2] [.ref 2 0, I 0] [some (bxWriterT v_1)] [Con Try.prog 21 [.ptr false [I s.Band, slTemplate false s.Templates]] true (agWriterT v_1) ∧ ((false = true → true = true) ∧ AV.idsL [I s.Band, slTemplate false s.Templates] = [] ∧ (valOf (I s.Band) = valOf (I s.Band)) ∧ ((false = true → false = true) ∧ 2 = 2 ∧ s.Templates.length = s.Templates.length ∧ ∀ i_, i_ < s.Templates.length → (fTemplate false s.Templates) i_ = (fTemplate false s.Templates) i_ ∨ (AV.idsL ((fTemplate false s.Templates) i_) = [] ∧ leL (fun _ => none) false ((fTemplate false s.Templates) i_) ((fTemplate false s.Templates) i_))) ∧ ([] : List AV) = []) ∧ True] ⟨⟨hc1, ⟨(fun h => by cases h), rfl, ⟨rfl, ⟨⟨(fun h => by cases h), rfl, rfl, fun i _ => .inl rfl⟩, rfl⟩⟩⟩, trivial⟩, trivial⟩ ?_
     refine xe_then ?_
     refine x_ret ?_
     refine xe_end (v_1, 0) (show (v_1 = (wsR s).1) ∧ (0 = (wsR s).2) ∧ (True) from ⟨(by first | (rw [hst]; done) | (rw [hst]; assumption) | (rw [hst]; rfl)), (by first | (rw [hst]; done) | (rw [hst]; assumption) | (rw [hst]; rfl)), trivial⟩) (trivial) (.tup [agWriterT v_1, I 0]) (by kernel_rfl) (.inl rfl) (fun _ => rfl) (fun _ => (by simp [tagged, taggedL, tagTrained]))
    have hst := wsR_no h1
    refine x_r [(0, .call [(false, .ptr false [I s.Band, slTemplate false s.Templates])] true (Bv false))] [1, 2, 5] [1, 2] [.ref 1 0, .ref 2 0, Bv true] [some (bxStore s), some (.box [I 0, nilA])] [Con Try.prog 20 [.ptr false [I s.Band, slTemplate false s.Templates]] true (Bv false) ∧ ((false = true → true = true) ∧ AV.idsL [I s.Band, slTemplate false s.Templates] = [] ∧ (valOf (I s.Band) = valOf (I s.Band)) ∧ ((false = true → false = true) ∧ 2 = 2 ∧ s.Templates.length = s.Templates.length ∧ ∀ i_, i_ < s.Templates.length → (fTemplate false s.Templates) i_ = (fTemplate false s.Templates) i_ ∨ (AV.idsL ((fTemplate false s.Templates) i_) = [] ∧ leL (fun _ => none) false ((fTemplate false s.Templates) i_) ((fTemplate false s.Templates) i_))) ∧ ([] : List AV) = []) ∧ True] ⟨⟨(con_bool h1 (l11Ok_ok s ok)), ⟨(fun h => by cases h), rfl, ⟨rfl, ⟨⟨(fun h => by cases h), rfl, rfl, fun i _ => .inl rfl⟩, rfl⟩⟩⟩, trivial⟩, trivial⟩ ?_
    refine xe_then ?_
    refine x_true rfl ?_
    refine xR [] [2, 3] [2] [.ref 2 0, I 1] [some (.box [I 0, nilA])] [] trivial ?_
    refine x_ret ?_
    refine xe_ret_then ?_
    refine xe_end ((Writer.mk 0 ([] : List Trained)), 1) (show ((Writer.mk 0 ([] : List Trained)) = (wsR s).1) ∧ (1 = (wsR s).2) ∧ (True) from ⟨(by first | (rw [hst]; done) | (rw [hst]; assumption) | (rw [hst]; rfl)), (by first | (rw [hst]; done) | (rw [hst]; assumption) | (rw [hst]; rfl)), trivial⟩) (trivial) (.tup [.agg [I 0, nilA], I 1]) (by kernel_rfl) (.inr ⟨⟨rfl, ⟨⟨rfl, rfl⟩, rfl⟩⟩, ⟨rfl, rfl⟩⟩) (fun _ => rfl) (fun _ => (by simp [tagged, taggedL, tagTrained]))
  obtain ⟨⟨v, c⟩, ⟨hh0, hh1, _⟩, hc⟩ := hh
  exact ⟨v, c, hh0, hh1, hc⟩


-- impl.within
theorem within_ok (n : Int) (low : Int) (high : Int) : Con Try.prog 42 [I n, I low, I high] true (Bv (inB n low high)) := by
  refine fn_ok (fn := Try.f42) (nt := 15) Try.func42 rfl rfl rfl rfl (by simp [taggedL, tagged]) fun B hB => ?_
  refine aR [] [0, 1, 2] [] [I n, I low, I high] [] [] hB trivial ?_
  refine aw_seq ?_
  by_cases h1 : low ≤ n
  ·refine aw_r [(2, .dec true)] [6] [] [Bv (decide (n ≤ high))] [] [low ≤ n] hB ⟨h1, trivial⟩ ?_
   refine ae_then ?_
   refine aw_ret ?_
   refine ae_ret hB (Bv (decide (n ≤ high))) (by kernel_rfl) (.inl (by first | rfl | (refine congrArg Bv ?_; simp [inB, *]; done) | (refine congrArg Bv ?_; simp [inB, *]; omega) | (refine congrArg Bv ?_; simp_all [inB]; done) | (refine congrArg Bv ?_; simp_all [inB]; omega))) rfl (fun _ => trivial)
  refine aw_r [(2, .dec false)] [6] [] [Bv false] [] [¬ (low ≤ n)] hB ⟨h1, trivial⟩ ?_
  refine ae_then ?_
  refine aw_ret ?_
  refine ae_ret hB (Bv false) (by kernel_rfl) (.inl (by first | rfl | (refine congrArg Bv ?_; simp [inB, *]; done) | (refine congrArg Bv ?_; simp [inB, *]; omega) | (refine congrArg Bv ?_; simp_all [inB]; done) | (refine congrArg Bv ?_; simp_all [inB]; omega))) rfl (fun _ => trivial)


-- impl.isLetter
theorem isLetter_ok (c : Int) : Con Try.prog 73 [.val (.int .u8 c)] true (Bv (inB c 97 122)) := by
  refine fn_ok (fn := Try.f73) (nt := 9) Try.func73 rfl rfl rfl rfl (by simp [taggedL, tagged]) fun B hB => ?_
  refine aR [] [0] [] [.val (.int .u8 c)] [] [] hB trivial ?_
  refine aw_seq ?_
  by_cases h1 : 97 ≤ c
  ·refine aw_r [(1, .dec true)] [2] [] [Bv (decide (c ≤ 122))] [] [97 ≤ c] hB ⟨h1, trivial⟩ ?_
   refine ae_then ?_
   refine aw_ret ?_
   refine ae_ret hB (Bv (decide (c ≤ 122))) (by kernel_rfl) (.inl (by first | rfl | (refine congrArg Bv ?_; simp [inB, *]; done) | (refine congrArg Bv ?_; simp [inB, *]; omega) | (refine congrArg Bv ?_; simp_all [inB]; done) | (refine congrArg Bv ?_; simp_all [inB]; omega))) rfl (fun _ => trivial)
  refine aw_r [(1, .dec false)] [2] [] [Bv false] [] [¬ (97 ≤ c)] hB ⟨h1, trivial⟩ ?_
  refine ae_then ?_
  refine aw_ret ?_
  refine ae_ret hB (Bv false) (by kernel_rfl) (.inl (by first | rfl | (refine congrArg Bv ?_; simp [inB, *]; done) | (refine congrArg Bv ?_; simp [inB, *]; omega) | (refine congrArg Bv ?_; simp_all [inB]; done) | (refine congrArg Bv ?_; simp_all [inB]; omega))) rfl (fun _ => trivial)


/-- Whether a byte occurs. -/
def hasB (s : ByteArray) (n : Int) : Bool := s.data.toList.any fun x => decide ((x.toNat : Int) = n)
theorem one_byte {t : ByteArray} (h : t.size = 1) : ∃ c, t = ⟨#[c]⟩ := by
  obtain ⟨⟨l⟩⟩ := t
  cases l with
  | nil => cases h
  | cons c l =>
    cases l with
    | nil => exact ⟨c, rfl⟩
    | cons d l => simp [ByteArray.size] at h
theorem has_index (l : List UInt8) (c : UInt8) : decide (0 ≤ Lib.indexByte l c) = l.any fun x => decide ((x.toNat : Int) = bAt ⟨#[c]⟩ 0) := by
  rw [← Lib.contains_iff_indexByte, Bool.eq_iff_iff]
  simp [bAt, List.contains_iff_mem]
  constructor
  · intro h; exact ⟨c, h, rfl⟩
  · rintro ⟨x, hx, e⟩
    have : x = c := UInt8.toNat_inj.1 (by omega)
    exact this ▸ hx

-- strings.Contains
theorem contains_ok (s t : ByteArray) (h : t.size = 1) : Con Try.prog 74 [Sv s, Sv t] true (Bv (hasB s (bAt t 0))) := by
  obtain ⟨c, rfl⟩ := one_byte h
  refine con_of_calls (vals := [.string s, .string ⟨#[c]⟩]) fun w _ => ?_
  refine (Try.strings_Contains_one s c w).mono ?_
  rintro e w' ⟨rfl, rfl⟩
  refine ⟨?_, Below.refl _ _⟩
  simp only [has_index, hasB]


-- impl.IsLabel
theorem implIsLabel_ok (s : ByteArray) (ok : s.size ≤ 9223372036854775807) : Con Try.prog 63 [Sv s] true (Bv (okLabel s)) := by
  refine fn_ok (fn := Try.f63) (nt := 15) Try.func63 rfl rfl rfl rfl (by simp [taggedL, tagged]) fun B hB => ?_
  refine aR [] [0] [] [Sv s] [] [] hB trivial ?_
  refine aw_seq ?_
  by_cases h1 : (s.size : Int) = 1
  ·rcases Bool.eq_false_or_eq_true (inB (bAt s 0) 97 122) with h2 | h2
   ·refine aw_r [(2, .dec true), (6, .call [(true, .any)] true (Bv true))] [2] [] [Bv true] [] [(s.size : Int) = 1, (0 : Int) ≤ 0 ∧ 0 < (s.size : Int), Con Try.prog 73 [.val (.int .u8 (bAt s 0))] true (Bv true) ∧ True] hB ⟨h1, ⟨(by omega), (by omega)⟩, ⟨(con_bool h2 (isLetter_ok (bAt s 0))), trivial⟩, trivial⟩ ?_
    refine ae_then ?_
    refine aw_ret ?_
    refine ae_ret hB (Bv true) (by kernel_rfl) (.inl (by first | (refine congrArg Bv ?_; simp_all [okLabel, labB, inB]; done) | (refine congrArg Bv ?_; have hbd := bAt_bd s 0; rw [Bool.eq_iff_iff]; simp_all [okLabel, hasB, labB, inB]; omega))) rfl (fun _ => trivial)
   refine aw_r [(2, .dec true), (6, .call [(true, .any)] true (Bv false)), (9, .call [(true, .any), (true, .any)] true (Bv (hasB (⟨#[48, 49, 50, 51, 52, 53, 54, 55, 56, 57, 43, 45, 42, 47, 61, 40, 41, 46, 44]⟩ : ByteArray) (bAt s 0))))] [2] [] [Bv (hasB (⟨#[48, 49, 50, 51, 52, 53, 54, 55, 56, 57, 43, 45, 42, 47, 61, 40, 41, 46, 44]⟩ : ByteArray) (bAt s 0))] [] [(s.size : Int) = 1, (0 : Int) ≤ 0 ∧ 0 < (s.size : Int), Con Try.prog 73 [.val (.int .u8 (bAt s 0))] true (Bv false) ∧ True, Con Try.prog 74 [Sv (⟨#[48, 49, 50, 51, 52, 53, 54, 55, 56, 57, 43, 45, 42, 47, 61, 40, 41, 46, 44]⟩ : ByteArray), Sv s] true (Bv (hasB (⟨#[48, 49, 50, 51, 52, 53, 54, 55, 56, 57, 43, 45, 42, 47, 61, 40, 41, 46, 44]⟩ : ByteArray) (bAt s 0))) ∧ True] hB ⟨h1, ⟨(by omega), (by omega)⟩, ⟨(con_bool h2 (isLetter_ok (bAt s 0))), trivial⟩, ⟨(contains_ok (⟨#[48, 49, 50, 51, 52, 53, 54, 55, 56, 57, 43, 45, 42, 47, 61, 40, 41, 46, 44]⟩ : ByteArray) s (by omega)), trivial⟩, trivial⟩ ?_
   refine ae_then ?_
   refine aw_ret ?_
   refine ae_ret hB (Bv (hasB (⟨#[48, 49, 50, 51, 52, 53, 54, 55, 56, 57, 43, 45, 42, 47, 61, 40, 41, 46, 44]⟩ : ByteArray) (bAt s 0))) (by kernel_rfl) (.inl (by first | (refine congrArg Bv ?_; simp_all [okLabel, labB, inB]; done) | (refine congrArg Bv ?_; have hbd := bAt_bd s 0; rw [Bool.eq_iff_iff]; simp_all [okLabel, hasB, labB, inB]; omega))) rfl (fun _ => trivial)
  refine aw_r [(2, .dec false)] [2] [] [Bv false] [] [¬ ((s.size : Int) = 1)] hB ⟨h1, trivial⟩ ?_
  refine ae_then ?_
  refine aw_ret ?_
  refine ae_ret hB (Bv false) (by kernel_rfl) (.inl (by first | (refine congrArg Bv ?_; simp_all [okLabel, labB, inB]; done) | (refine congrArg Bv ?_; have hbd := bAt_bd s 0; rw [Bool.eq_iff_iff]; simp_all [okLabel, hasB, labB, inB]; omega))) rfl (fun _ => trivial)


-- impl.ValidFeat
theorem ValidFeat_ok (f : Feat) : Con Try.prog 83 [agFeat f] true (Bv (okF f)) := by
  refine fn_ok (fn := Try.f83) (nt := 16) Try.func83 rfl rfl rfl rfl (by simp [taggedL, tagged]) fun B hB => ?_
  refine aR [(0, .new 1)] [1] [1] [.ref 1 0] [some (bxFeat f)] [] hB trivial ?_
  refine aw_seq ?_
  rcases Bool.eq_false_or_eq_true (inB f.X 0 255) with h1 | h1
  ·rcases Bool.eq_false_or_eq_true (inB f.Y 0 255) with h2 | h2
   ·refine aw_r [(2, .call [(true, .any), (true, .any), (true, .any)] true (Bv true)), (6, .call [(true, .any), (true, .any), (true, .any)] true (Bv true)), (11, .call [(true, .any), (true, .any), (true, .any)] true (Bv (inB f.D 0 7)))] [2] [] [Bv (inB f.D 0 7)] [] [Con Try.prog 42 [I f.X, I 0, I 255] true (Bv true) ∧ True, Con Try.prog 42 [I f.Y, I 0, I 255] true (Bv true) ∧ True, Con Try.prog 42 [I f.D, I 0, I 7] true (Bv (inB f.D 0 7)) ∧ True] hB ⟨⟨(con_bool h1 (within_ok f.X 0 255)), trivial⟩, ⟨(con_bool h2 (within_ok f.Y 0 255)), trivial⟩, ⟨(within_ok f.D 0 7), trivial⟩, trivial⟩ ?_
    refine ae_then ?_
    refine aw_ret ?_
    refine ae_ret hB (Bv (inB f.D 0 7)) (by kernel_rfl) (.inl (by first | rfl | (refine congrArg Bv ?_; simp [okF, *]; done) | (refine congrArg Bv ?_; simp [okF, *]; omega) | (refine congrArg Bv ?_; simp_all [okF]; done) | (refine congrArg Bv ?_; simp_all [okF]; omega))) rfl (fun _ => trivial)
   refine aw_r [(2, .call [(true, .any), (true, .any), (true, .any)] true (Bv true)), (6, .call [(true, .any), (true, .any), (true, .any)] true (Bv false))] [2] [] [Bv false] [] [Con Try.prog 42 [I f.X, I 0, I 255] true (Bv true) ∧ True, Con Try.prog 42 [I f.Y, I 0, I 255] true (Bv false) ∧ True] hB ⟨⟨(con_bool h1 (within_ok f.X 0 255)), trivial⟩, ⟨(con_bool h2 (within_ok f.Y 0 255)), trivial⟩, trivial⟩ ?_
   refine ae_then ?_
   refine aw_ret ?_
   refine ae_ret hB (Bv false) (by kernel_rfl) (.inl (by first | rfl | (refine congrArg Bv ?_; simp [okF, *]; done) | (refine congrArg Bv ?_; simp [okF, *]; omega) | (refine congrArg Bv ?_; simp_all [okF]; done) | (refine congrArg Bv ?_; simp_all [okF]; omega))) rfl (fun _ => trivial)
  refine aw_r [(2, .call [(true, .any), (true, .any), (true, .any)] true (Bv false))] [2] [] [Bv false] [] [Con Try.prog 42 [I f.X, I 0, I 255] true (Bv false) ∧ True] hB ⟨⟨(con_bool h1 (within_ok f.X 0 255)), trivial⟩, trivial⟩ ?_
  refine ae_then ?_
  refine aw_ret ?_
  refine ae_ret hB (Bv false) (by kernel_rfl) (.inl (by first | rfl | (refine congrArg Bv ?_; simp [okF, *]; done) | (refine congrArg Bv ?_; simp [okF, *]; omega) | (refine congrArg Bv ?_; simp_all [okF]; done) | (refine congrArg Bv ?_; simp_all [okF]; omega))) rfl (fun _ => trivial)


-- impl.areFeats$1
theorem areFeats1_ok (f : Feat) : Con Try.prog 82 [agFeat f] true (Bv (!(okF f))) := by
  refine fn_ok (fn := Try.f82) (nt := 6) Try.func82 rfl rfl rfl rfl (by simp [taggedL, tagged]) fun B hB => ?_
  refine aR [(0, .new 1)] [1] [1] [.ref 1 0] [some (bxFeat f)] [] hB trivial ?_
  refine aR [(1, .call [(true, .any)] true (Bv (okF f)))] [2] [] [Bv (!(okF f))] [] [Con Try.prog 83 [agFeat f] true (Bv (okF f)) ∧ True] hB ⟨⟨(ValidFeat_ok f), trivial⟩, trivial⟩ ?_
  refine aw_ret ?_
  refine ae_ret hB (Bv (!(okF f))) (by kernel_rfl) (.inl rfl) rfl (fun _ => trivial)


/-- The first number below n that p holds of, or -1. -/
def firstN (n : Nat) (p : Nat → Bool) : Int := match (List.range n).find? p with
  | some i => i
  | none => -1
theorem firstN_hit {n : Nat} {p : Nat → Bool} {k : Nat} (hk : k < n) (hp : p k = true) (hn : ∀ i, i < k → p i = false) : firstN n p = k := by
  have h : (List.range n).find? p = some k := by
    rw [List.find?_range_eq_some]
    exact ⟨hp, List.mem_range.2 hk, fun j hj => by simpa using hn j hj⟩
  simp [firstN, h]
theorem firstN_none {n : Nat} {p : Nat → Bool} (hn : ∀ i, i < n → p i = false) : firstN n p = -1 := by
  have h : (List.range n).find? p = none := by
    rw [List.find?_range_eq_none]
    intro i hi; simpa using hn i hi
  simp [firstN, h]
theorem firstN_cases (n : Nat) (p : Nat → Bool) : (firstN n p = -1 ∧ ∀ i, i < n → p i = false) ∨ ∃ k : Nat, firstN n p = k ∧ k < n ∧ p k = true ∧ ∀ i, i < k → p i = false := by
  by_cases h : ∃ k, k < n ∧ p k = true
  · right
    obtain ⟨k, hk, hp⟩ := h
    cases e : (List.range n).find? p with
    | none => rw [List.find?_range_eq_none] at e; exact absurd hp (by simpa using e k hk)
    | some i =>
      have e' := e
      rw [List.find?_range_eq_some] at e
      exact ⟨i, by simp [firstN, e'], List.mem_range.1 e.2.1, e.1, fun j hj => by simpa using e.2.2 j hj⟩
  · left
    have h' : ∀ i, i < n → p i = false := fun i hi => by rw [← Bool.not_eq_true]; exact fun hp => h ⟨i, hi, hp⟩
    exact ⟨firstN_none h', h'⟩
theorem firstN_any (n : Nat) (p : Nat → Bool) : decide (0 ≤ firstN n p) = anyN n p := by
  rcases firstN_cases n p with ⟨h1, h2⟩ | ⟨k, h1, h2, h3, _⟩
  · rw [h1, anyN_none h2]; decide
  · rw [h1, anyN_at h2 h3]; simp

-- impl.areFeats
theorem containsFeat_ok_idx (s : List Feat) : Con Try.prog 85 [slFeat false s, .fn 82 []] true (I (firstN s.length (fun j => (!(okF (at_ s j)))))) := by
  refine fn_ok (fn := Try.f85) (nt := 19) Try.func85 rfl rfl rfl rfl (by simp [taggedL, tagged, tagFeat]) fun B hB => ?_
  refine aw_lens (x := slFeat false s) 0 rfl (fun len_s => ?_)
  simp [LenOK, LenL, cFeat, fFeat, slFeat] at len_s
  refine aR [] [0, 1] [] [slFeat false s, .fn 82 []] [] [] hB trivial ?_
  refine aw_seq ?_
  refine aR [] [0, 1, 7, 8] [] [slFeat false s, .fn 82 [], I (s.length : Int), I 0] [] [] hB trivial ?_
  refine aw_block ?_
  refine aw_loop (fun gn gσ => ∃ (t8 : Int), gn = ((s.length : Int) - t8).toNat ∧ (0 ≤ t8 ∧ t8 ≤ (s.length : Int)) ∧ (∀ j : Nat, (j : Int) < t8 → (!(okF (at_ s j))) = false) ∧ gσ = mkS [(0, slFeat false s), (1, .fn 82 []), (7, I (s.length : Int)), (8, I t8)] []) (((s.length : Int) - 0).toNat) ⟨0, rfl, (by omega), (by intro j hj; omega), rfl⟩ (fun gn gσ hI => ?_)
  obtain ⟨t8, rfl, hi0, hall0, rfl⟩ := hI
  refine aw_seq ?_
  by_cases h1 : t8 < (s.length : Int)
  ·have hi : t8.toNat < s.length := by omega
   refine aw_r [(0, .dec true)] [0, 1, 7, 8, 9] [] [slFeat false s, .fn 82 [], I (s.length : Int), I t8, Bv true] [] [t8 < (s.length : Int)] hB ⟨h1, trivial⟩ ?_
   refine ae_then ?_
   refine aw_seq ?_
   refine aw_true rfl ?_
   refine aw_skip ?_
   refine ae_then ?_
   refine aw_seq ?_
   refine aw_block ?_
   refine aR [] [0, 1, 5, 7, 8] [] [slFeat false s, .fn 82 [], I t8, I (s.length : Int), I t8] [] [] hB trivial ?_
   refine aw_seq ?_
   rcases Bool.eq_false_or_eq_true (!(okF (at_ s t8.toNat))) with h2 | h2
   ·have hfin : firstN s.length (fun j => (!(okF (at_ s j)))) = t8.toNat := firstN_hit hi h2 (fun j hj => hall0 j (by omega))
    refine aw_r [(5, .call [(true, .any)] true (Bv true))] [0, 1, 5, 7, 8, 16] [] [slFeat false s, .fn 82 [], I t8, I (s.length : Int), I t8, Bv true] [] [(0 : Int) ≤ t8 ∧ t8 < (s.length : Int), Con Try.prog 82 [agFeat (at_ s t8.toNat)] true (Bv true) ∧ True] hB ⟨⟨(by omega), (by omega)⟩, ⟨(con_bool h2 (areFeats1_ok (at_ s t8.toNat))), trivial⟩, trivial⟩ ?_
    refine ae_then ?_
    refine aw_true rfl ?_
    refine aR [] [4] [] [I t8] [] [] hB trivial ?_
    refine aw_ret ?_
    refine ae_ret_block (ae_ret_then (ae_ret_then (ae_ret_block (ae_ret_then ?_))))
    refine ae_ret hB (I t8) (by kernel_rfl) (.inl (by refine congrArg I ?_; first | (rw [hfin]; done) | (rw [hfin]; omega))) rfl (fun _ => trivial)
   refine aw_r [(5, .call [(true, .any)] true (Bv false))] [0, 1, 5, 7, 8, 16] [] [slFeat false s, .fn 82 [], I t8, I (s.length : Int), I t8, Bv false] [] [(0 : Int) ≤ t8 ∧ t8 < (s.length : Int), Con Try.prog 82 [agFeat (at_ s t8.toNat)] true (Bv false) ∧ True] hB ⟨⟨(by omega), (by omega)⟩, ⟨(con_bool h2 (areFeats1_ok (at_ s t8.toNat))), trivial⟩, trivial⟩ ?_
   refine ae_then ?_
   refine aw_false rfl ?_
   refine aw_skip ?_
   refine ae_block 1 ?_
   refine ae_then ?_
   refine aw_r [] [0, 1, 7, 8] [] [slFeat false s, .fn 82 [], I (s.length : Int), I (t8 + 1)] [] [inR .i64 (t8 + 1)] hB ⟨(inR_i64 (by omega) (by omega)), trivial⟩ ?_
   exact ae_again _ (by omega) ⟨(t8 + 1), rfl, (by omega), (by intro j hj; by_cases ej : j = t8.toNat; (subst ej; first | assumption | rfl); exact hall0 j (by omega)), rfl⟩
  have hfin : firstN s.length (fun j => (!(okF (at_ s j)))) = -1 := firstN_none (fun j hj => hall0 j (by omega))
  refine aw_r [(0, .dec false)] [0, 1, 7, 8, 9] [] [slFeat false s, .fn 82 [], I (s.length : Int), I t8, Bv false] [] [¬ (t8 < (s.length : Int))] hB ⟨h1, trivial⟩ ?_
  refine ae_then ?_
  refine aw_seq ?_
  refine aw_false rfl ?_
  refine aw_exit ?_
  refine ae_exit_then ?_
  refine ae_exit_then ?_
  refine ae_exit_same ?_
  refine ae_then ?_
  refine aR [] [4] [] [I (-1)] [] [] hB trivial ?_
  refine aw_ret ?_
  refine ae_ret hB (I (-1)) (by kernel_rfl) (.inl (by refine congrArg I ?_; first | (rw [hfin]; done) | (rw [hfin]; omega))) rfl (fun _ => trivial)

theorem containsFeat_ok (s : List Feat) : Con Try.prog 81 [slFeat false s, .fn 82 []] true (Bv (anyN s.length (fun j => (!(okF (at_ s j)))))) := by
  refine fn_ok (fn := Try.f81) (nt := 9) Try.func81 rfl rfl rfl rfl (by simp [taggedL, tagged, tagFeat]) fun B hB => ?_
  refine aw_lens (x := slFeat false s) 0 rfl (fun len_s => ?_)
  simp [LenOK, LenL, cFeat, fFeat, slFeat] at len_s
  refine aR [] [0, 1] [] [slFeat false s, .fn 82 []] [] [] hB trivial ?_
  refine aR [(2, .call [(true, .any), (true, .any)] true (I (firstN s.length (fun j => (!(okF (at_ s j)))))))] [4] [] [Bv (decide (0 ≤ (firstN s.length (fun j => (!(okF (at_ s j)))))))] [] [Con Try.prog 85 [slFeat false s, .fn 82 []] true (I (firstN s.length (fun j => (!(okF (at_ s j)))))) ∧ True] hB ⟨⟨(containsFeat_ok_idx s), trivial⟩, trivial⟩ ?_
  refine aw_ret ?_
  refine ae_ret hB (Bv (decide (0 ≤ (firstN s.length (fun j => (!(okF (at_ s j)))))))) (by kernel_rfl) (.inl (by exact congrArg Bv (firstN_any _ _))) rfl (fun _ => trivial)

theorem areFeats_ok (list : List Feat) (most : Int) : Con Try.prog 75 [slFeat false list, I most] true (Bv (okFeats list most)) := by
  refine fn_ok (fn := Try.f75) (nt := 19) Try.func75 rfl rfl rfl rfl (by simp [taggedL, tagged, tagFeat]) fun B hB => ?_
  refine aw_lens (x := slFeat false list) 0 rfl (fun len_list => ?_)
  simp [LenOK, LenL, cFeat, fFeat, slFeat] at len_list
  refine aR [] [0, 1] [] [slFeat false list, I most] [] [] hB trivial ?_
  refine aw_seq ?_
  by_cases h1 : 1 ≤ (list.length : Int)
  ·by_cases h2 : (list.length : Int) ≤ most
   ·refine aw_r [(2, .dec true), (7, .dec true), (11, .call [(true, .any), (true, .any)] true (Bv (anyN list.length (fun j => (!(okF (at_ list j)))))))] [4] [] [Bv (!(anyN list.length (fun j => (!(okF (at_ list j))))))] [] [1 ≤ (list.length : Int), (list.length : Int) ≤ most, Con Try.prog 81 [slFeat false list, .fn 82 []] true (Bv (anyN list.length (fun j => (!(okF (at_ list j)))))) ∧ True] hB ⟨h1, h2, ⟨(containsFeat_ok list), trivial⟩, trivial⟩ ?_
    refine ae_then ?_
    refine aw_ret ?_
    refine ae_ret hB (Bv (!(anyN list.length (fun j => (!(okF (at_ list j))))))) (by kernel_rfl) (.inl (by first | rfl | (refine congrArg Bv ?_; simp [okFeats, anyN_not, *]; done) | (refine congrArg Bv ?_; simp [okFeats, anyN_not, *]; omega) | (refine congrArg Bv ?_; simp_all [okFeats, anyN_not]; done) | (refine congrArg Bv ?_; simp_all [okFeats, anyN_not]; omega))) rfl (fun _ => trivial)
   refine aw_r [(2, .dec true), (7, .dec false)] [4] [] [Bv false] [] [1 ≤ (list.length : Int), ¬ ((list.length : Int) ≤ most)] hB ⟨h1, h2, trivial⟩ ?_
   refine ae_then ?_
   refine aw_ret ?_
   refine ae_ret hB (Bv false) (by kernel_rfl) (.inl (by first | rfl | (refine congrArg Bv ?_; simp [okFeats, anyN_not, *]; done) | (refine congrArg Bv ?_; simp [okFeats, anyN_not, *]; omega) | (refine congrArg Bv ?_; simp_all [okFeats, anyN_not]; done) | (refine congrArg Bv ?_; simp_all [okFeats, anyN_not]; omega))) rfl (fun _ => trivial)
  refine aw_r [(2, .dec false)] [4] [] [Bv false] [] [¬ (1 ≤ (list.length : Int))] hB ⟨h1, trivial⟩ ?_
  refine ae_then ?_
  refine aw_ret ?_
  refine ae_ret hB (Bv false) (by kernel_rfl) (.inl (by first | rfl | (refine congrArg Bv ?_; simp [okFeats, anyN_not, *]; done) | (refine congrArg Bv ?_; simp [okFeats, anyN_not, *]; omega) | (refine congrArg Bv ?_; simp_all [okFeats, anyN_not]; done) | (refine congrArg Bv ?_; simp_all [okFeats, anyN_not]; omega))) rfl (fun _ => trivial)


-- impl.ValidSeq
theorem ValidSeq_ok (list : List Feat) : Con Try.prog 64 [slFeat false list] true (Bv (okFeats list 72)) := by
  refine fn_ok (fn := Try.f64) (nt := 5) Try.func64 rfl rfl rfl rfl (by simp [taggedL, tagged, tagFeat]) fun B hB => ?_
  refine aw_lens (x := slFeat false list) 0 rfl (fun len_list => ?_)
  simp [LenOK, LenL, cFeat, fFeat, slFeat] at len_list
  refine aR [] [0] [] [slFeat false list] [] [] hB trivial ?_
  refine aR [(1, .call [(true, .any), (true, .any)] true (Bv (okFeats list 72)))] [2] [] [Bv (okFeats list 72)] [] [Con Try.prog 75 [slFeat false list, I 72] true (Bv (okFeats list 72)) ∧ True] hB ⟨⟨(areFeats_ok list 72), trivial⟩, trivial⟩ ?_
  refine aw_ret ?_
  refine ae_ret hB (Bv (okFeats list 72)) (by kernel_rfl) (.inl rfl) rfl (fun _ => trivial)


-- impl.validTemplate
theorem validTemplate_ok (t : Template) (ok : t.Label.size ≤ 9223372036854775807) : Con Try.prog 45 [agTemplate t] true (Bv (okTm t)) := by
  refine fn_ok (fn := Try.f45) (nt := 11) Try.func45 rfl rfl rfl rfl (by simp [taggedL, tagged, tagFeat]) fun B hB => ?_
  refine aw_lens (x := agTemplate t) 0 rfl (fun len_t => ?_)
  simp [LenOK, LenL, cFeat, fFeat, slFeat] at len_t
  refine aR [(0, .new 1)] [1] [1] [.ref 1 0] [some (bxTemplate t)] [] hB trivial ?_
  refine aw_seq ?_
  rcases Bool.eq_false_or_eq_true (okLabel t.Label) with h1 | h1
  ·refine aw_r [(2, .call [(true, .any)] true (Bv true)), (6, .call [(true, .any)] true (Bv (okFeats t.Feats 72)))] [2] [] [Bv (okFeats t.Feats 72)] [] [Con Try.prog 63 [Sv t.Label] true (Bv true) ∧ True, Con Try.prog 64 [slFeat false t.Feats] true (Bv (okFeats t.Feats 72)) ∧ True] hB ⟨⟨(con_bool h1 (implIsLabel_ok t.Label ok)), trivial⟩, ⟨(ValidSeq_ok t.Feats), trivial⟩, trivial⟩ ?_
   refine ae_then ?_
   refine aw_ret ?_
   refine ae_ret hB (Bv (okFeats t.Feats 72)) (by kernel_rfl) (.inl (by first | rfl | (refine congrArg Bv ?_; simp [okTm, *]; done) | (refine congrArg Bv ?_; simp [okTm, *]; omega) | (refine congrArg Bv ?_; simp_all [okTm]; done) | (refine congrArg Bv ?_; simp_all [okTm]; omega))) rfl (fun _ => trivial)
  refine aw_r [(2, .call [(true, .any)] true (Bv false))] [2] [] [Bv false] [] [Con Try.prog 63 [Sv t.Label] true (Bv false) ∧ True] hB ⟨⟨(con_bool h1 (implIsLabel_ok t.Label ok)), trivial⟩, trivial⟩ ?_
  refine ae_then ?_
  refine aw_ret ?_
  refine ae_ret hB (Bv false) (by kernel_rfl) (.inl (by first | rfl | (refine congrArg Bv ?_; simp [okTm, *]; done) | (refine congrArg Bv ?_; simp [okTm, *]; omega) | (refine congrArg Bv ?_; simp_all [okTm]; done) | (refine congrArg Bv ?_; simp_all [okTm]; omega))) rfl (fun _ => trivial)


-- impl.ValidStore$1
theorem ValidStore1_ok (t : Template) (ok : okTemplate t) : Con Try.prog 44 [agTemplate t] true (Bv (!(okTm t))) := by
  refine fn_ok (fn := Try.f44) (nt := 6) Try.func44 rfl rfl rfl rfl (by simp [taggedL, tagged, tagFeat]) fun B hB => ?_
  refine aw_lens (x := agTemplate t) 0 rfl (fun len_t => ?_)
  simp [LenOK, LenL, cFeat, fFeat, slFeat] at len_t
  refine aR [(0, .new 1)] [1] [1] [.ref 1 0] [some (bxTemplate t)] [] hB trivial ?_
  refine aR [(1, .call [(true, .any)] true (Bv (okTm t)))] [2] [] [Bv (!(okTm t))] [] [Con Try.prog 45 [agTemplate t] true (Bv (okTm t)) ∧ True] hB ⟨⟨(validTemplate_ok t ok), trivial⟩, trivial⟩ ?_
  refine aw_ret ?_
  refine ae_ret hB (Bv (!(okTm t))) (by kernel_rfl) (.inl rfl) rfl (fun _ => trivial)


-- impl.ValidStore
theorem containsTm_ok_idx (s : List Template) (hel : ∀ j, j < s.length → okTemplate (at_ s j)) : Con Try.prog 62 [slTemplate false s, .fn 44 []] true (I (firstN s.length (fun j => (!(okTm (at_ s j)))))) := by
  refine fn_ok (fn := Try.f62) (nt := 19) Try.func62 rfl rfl rfl rfl (by simp [taggedL, tagged, tagTemplate]) fun B hB => ?_
  refine aw_lens (x := slTemplate false s) 0 rfl (fun len_s => ?_)
  simp [LenOK, LenL, cFeat, cTemplate, fFeat, fTemplate, slFeat, slTemplate] at len_s
  refine aR [] [0, 1] [] [slTemplate false s, .fn 44 []] [] [] hB trivial ?_
  refine aw_seq ?_
  refine aR [] [0, 1, 7, 8] [] [slTemplate false s, .fn 44 [], I (s.length : Int), I 0] [] [] hB trivial ?_
  refine aw_block ?_
  refine aw_loop (fun gn gσ => ∃ (t8 : Int), gn = ((s.length : Int) - t8).toNat ∧ (0 ≤ t8 ∧ t8 ≤ (s.length : Int)) ∧ (∀ j : Nat, (j : Int) < t8 → (!(okTm (at_ s j))) = false) ∧ gσ = mkS [(0, slTemplate false s), (1, .fn 44 []), (7, I (s.length : Int)), (8, I t8)] []) (((s.length : Int) - 0).toNat) ⟨0, rfl, (by omega), (by intro j hj; omega), rfl⟩ (fun gn gσ hI => ?_)
  obtain ⟨t8, rfl, hi0, hall0, rfl⟩ := hI
  refine aw_seq ?_
  by_cases h1 : t8 < (s.length : Int)
  ·have hi : t8.toNat < s.length := by omega
   refine aw_r [(0, .dec true)] [0, 1, 7, 8, 9] [] [slTemplate false s, .fn 44 [], I (s.length : Int), I t8, Bv true] [] [t8 < (s.length : Int)] hB ⟨h1, trivial⟩ ?_
   refine ae_then ?_
   refine aw_seq ?_
   refine aw_true rfl ?_
   refine aw_skip ?_
   refine ae_then ?_
   refine aw_seq ?_
   refine aw_block ?_
   refine aR [] [0, 1, 5, 7, 8] [] [slTemplate false s, .fn 44 [], I t8, I (s.length : Int), I t8] [] [] hB trivial ?_
   refine aw_seq ?_
   rcases Bool.eq_false_or_eq_true (!(okTm (at_ s t8.toNat))) with h2 | h2
   ·have hfin : firstN s.length (fun j => (!(okTm (at_ s j)))) = t8.toNat := firstN_hit hi h2 (fun j hj => hall0 j (by omega))
    refine aw_r [(5, .call [(true, .any)] true (Bv true))] [0, 1, 5, 7, 8, 16] [] [slTemplate false s, .fn 44 [], I t8, I (s.length : Int), I t8, Bv true] [] [(0 : Int) ≤ t8 ∧ t8 < (s.length : Int), Con Try.prog 44 [agTemplate (at_ s t8.toNat)] true (Bv true) ∧ True] hB ⟨⟨(by omega), (by omega)⟩, ⟨(con_bool h2 (ValidStore1_ok (at_ s t8.toNat) (hel _ hi))), trivial⟩, trivial⟩ ?_
    refine ae_then ?_
    refine aw_true rfl ?_
    refine aR [] [4] [] [I t8] [] [] hB trivial ?_
    refine aw_ret ?_
    refine ae_ret_block (ae_ret_then (ae_ret_then (ae_ret_block (ae_ret_then ?_))))
    refine ae_ret hB (I t8) (by kernel_rfl) (.inl (by refine congrArg I ?_; first | (rw [hfin]; done) | (rw [hfin]; omega))) rfl (fun _ => trivial)
   refine aw_r [(5, .call [(true, .any)] true (Bv false))] [0, 1, 5, 7, 8, 16] [] [slTemplate false s, .fn 44 [], I t8, I (s.length : Int), I t8, Bv false] [] [(0 : Int) ≤ t8 ∧ t8 < (s.length : Int), Con Try.prog 44 [agTemplate (at_ s t8.toNat)] true (Bv false) ∧ True] hB ⟨⟨(by omega), (by omega)⟩, ⟨(con_bool h2 (ValidStore1_ok (at_ s t8.toNat) (hel _ hi))), trivial⟩, trivial⟩ ?_
   refine ae_then ?_
   refine aw_false rfl ?_
   refine aw_skip ?_
   refine ae_block 1 ?_
   refine ae_then ?_
   refine aw_r [] [0, 1, 7, 8] [] [slTemplate false s, .fn 44 [], I (s.length : Int), I (t8 + 1)] [] [inR .i64 (t8 + 1)] hB ⟨(inR_i64 (by omega) (by omega)), trivial⟩ ?_
   exact ae_again _ (by omega) ⟨(t8 + 1), rfl, (by omega), (by intro j hj; by_cases ej : j = t8.toNat; (subst ej; first | assumption | rfl); exact hall0 j (by omega)), rfl⟩
  have hfin : firstN s.length (fun j => (!(okTm (at_ s j)))) = -1 := firstN_none (fun j hj => hall0 j (by omega))
  refine aw_r [(0, .dec false)] [0, 1, 7, 8, 9] [] [slTemplate false s, .fn 44 [], I (s.length : Int), I t8, Bv false] [] [¬ (t8 < (s.length : Int))] hB ⟨h1, trivial⟩ ?_
  refine ae_then ?_
  refine aw_seq ?_
  refine aw_false rfl ?_
  refine aw_exit ?_
  refine ae_exit_then ?_
  refine ae_exit_then ?_
  refine ae_exit_same ?_
  refine ae_then ?_
  refine aR [] [4] [] [I (-1)] [] [] hB trivial ?_
  refine aw_ret ?_
  refine ae_ret hB (I (-1)) (by kernel_rfl) (.inl (by refine congrArg I ?_; first | (rw [hfin]; done) | (rw [hfin]; omega))) rfl (fun _ => trivial)

theorem containsTm_ok (s : List Template) (hel : ∀ j, j < s.length → okTemplate (at_ s j)) : Con Try.prog 43 [slTemplate false s, .fn 44 []] true (Bv (anyN s.length (fun j => (!(okTm (at_ s j)))))) := by
  refine fn_ok (fn := Try.f43) (nt := 9) Try.func43 rfl rfl rfl rfl (by simp [taggedL, tagged, tagTemplate]) fun B hB => ?_
  refine aw_lens (x := slTemplate false s) 0 rfl (fun len_s => ?_)
  simp [LenOK, LenL, cFeat, cTemplate, fFeat, fTemplate, slFeat, slTemplate] at len_s
  refine aR [] [0, 1] [] [slTemplate false s, .fn 44 []] [] [] hB trivial ?_
  refine aR [(2, .call [(true, .any), (true, .any)] true (I (firstN s.length (fun j => (!(okTm (at_ s j)))))))] [4] [] [Bv (decide (0 ≤ (firstN s.length (fun j => (!(okTm (at_ s j)))))))] [] [Con Try.prog 62 [slTemplate false s, .fn 44 []] true (I (firstN s.length (fun j => (!(okTm (at_ s j)))))) ∧ True] hB ⟨⟨(containsTm_ok_idx s hel), trivial⟩, trivial⟩ ?_
  refine aw_ret ?_
  refine ae_ret hB (Bv (decide (0 ≤ (firstN s.length (fun j => (!(okTm (at_ s j)))))))) (by kernel_rfl) (.inl (by exact congrArg Bv (firstN_any _ _))) rfl (fun _ => trivial)

theorem ValidStore_ok (s : Store) (ok : okStore s) : Con Try.prog 23 [agStore s] true (Bv (okStore' s)) := by
  refine fn_ok (fn := Try.f23) (nt := 18) Try.func23 rfl rfl rfl rfl (by simp [taggedL, tagged, tagTemplate]) fun B hB => ?_
  refine aw_lens (x := agStore s) 0 rfl (fun len_s => ?_)
  simp [LenOK, LenL, cFeat, cTemplate, fFeat, fTemplate, slFeat, slTemplate] at len_s
  refine aR [(0, .new 1)] [1] [1] [.ref 1 0] [some (bxStore s)] [] hB trivial ?_
  refine aw_seq ?_
  rcases Bool.eq_false_or_eq_true (inB s.Band 0 72) with h1 | h1
  ·by_cases h2 : (s.Templates.length : Int) ≤ 40
   ·refine aw_r [(2, .call [(true, .any), (true, .any), (true, .any)] true (Bv true)), (7, .dec true), (12, .call [(true, .any), (true, .any)] true (Bv (anyN s.Templates.length (fun j => (!(okTm (at_ s.Templates j)))))))] [2] [] [Bv (!(anyN s.Templates.length (fun j => (!(okTm (at_ s.Templates j))))))] [] [Con Try.prog 42 [I s.Band, I 0, I 72] true (Bv true) ∧ True, (s.Templates.length : Int) ≤ 40, Con Try.prog 43 [slTemplate false s.Templates, .fn 44 []] true (Bv (anyN s.Templates.length (fun j => (!(okTm (at_ s.Templates j)))))) ∧ True] hB ⟨⟨(con_bool h1 (within_ok s.Band 0 72)), trivial⟩, h2, ⟨(containsTm_ok s.Templates (fun j hj => ok _ (at_mem hj))), trivial⟩, trivial⟩ ?_
    refine ae_then ?_
    refine aw_ret ?_
    refine ae_ret hB (Bv (!(anyN s.Templates.length (fun j => (!(okTm (at_ s.Templates j))))))) (by kernel_rfl) (.inl (by first | rfl | (refine congrArg Bv ?_; simp [okStore', anyN_not, *]; done) | (refine congrArg Bv ?_; simp [okStore', anyN_not, *]; omega) | (refine congrArg Bv ?_; simp_all [okStore', anyN_not]; done) | (refine congrArg Bv ?_; simp_all [okStore', anyN_not]; omega))) rfl (fun _ => trivial)
   refine aw_r [(2, .call [(true, .any), (true, .any), (true, .any)] true (Bv true)), (7, .dec false)] [2] [] [Bv false] [] [Con Try.prog 42 [I s.Band, I 0, I 72] true (Bv true) ∧ True, ¬ ((s.Templates.length : Int) ≤ 40)] hB ⟨⟨(con_bool h1 (within_ok s.Band 0 72)), trivial⟩, h2, trivial⟩ ?_
   refine ae_then ?_
   refine aw_ret ?_
   refine ae_ret hB (Bv false) (by kernel_rfl) (.inl (by first | rfl | (refine congrArg Bv ?_; simp [okStore', anyN_not, *]; done) | (refine congrArg Bv ?_; simp [okStore', anyN_not, *]; omega) | (refine congrArg Bv ?_; simp_all [okStore', anyN_not]; done) | (refine congrArg Bv ?_; simp_all [okStore', anyN_not]; omega))) rfl (fun _ => trivial)
  refine aw_r [(2, .call [(true, .any), (true, .any), (true, .any)] true (Bv false))] [2] [] [Bv false] [] [Con Try.prog 42 [I s.Band, I 0, I 72] true (Bv false) ∧ True] hB ⟨⟨(con_bool h1 (within_ok s.Band 0 72)), trivial⟩, trivial⟩ ?_
  refine ae_then ?_
  refine aw_ret ?_
  refine ae_ret hB (Bv false) (by kernel_rfl) (.inl (by first | rfl | (refine congrArg Bv ?_; simp [okStore', anyN_not, *]; done) | (refine congrArg Bv ?_; simp [okStore', anyN_not, *]; omega) | (refine congrArg Bv ?_; simp_all [okStore', anyN_not]; done) | (refine congrArg Bv ?_; simp_all [okStore', anyN_not]; omega))) rfl (fun _ => trivial)


-- impl.Feat]
theorem cloneF0_ok (s : List Feat) (hl : s.length ≤ 100000) : ∃ (out : List Feat), (out = s) ∧ CallOK Try.prog 35 [slFeat false s] (lookO []) false (.arr 8311) (lookO [(8311, .arr 3 out.length (fFeat out))]) := by
  refine ⟨s, rfl, ?_⟩
  refine fn_okL [] [(8311, .arr 3 s.length (fFeat s))] (fn := Try.f35) (nt := 8) Try.func35 rfl rfl (args := [slFeat false s]) rfl (allcons (.inl ⟨rfl, tagFeat false _⟩) allnil) (res := .arr 8311) (fun B hB => ?_)
  refine aw_seq ?_
  refine aw_reg [] [0] [] [slFeat false s] [] [] (by kernel_rfl) hB trivial ?_
  refine ae_then ?_
  refine aw_seq ?_
  refine aw_seq ?_
  refine aw_reg [] [0, 4] [] [slFeat false s, .nilq s.length] [] [] (by kernel_rfl) hB trivial ?_
  refine ae_then ?_
  refine aw_nilq (n := s.length) rfl (fun h1 => ?_) ?_
  · refine aw_seq ?_
    refine aw_reg [] [2] [] [nilA] [] [] (by kernel_rfl) hB trivial ?_
    refine ae_then ?_
    refine aw_ret ?_
    refine ae_ret_then ?_
    refine ae_nil hB 2 8311 3 (fun _ => []) (by kernel_rfl) ?_
    refine ae_weak hB [] (T := [(2, .arr 8311)]) (O := [(8311, .arr 3 s.length (fFeat s))]) rfl (⟨.inl rfl, trivial⟩) (⟨.inr ⟨rfl, (by omega), fun i_ hi_ => absurd hi_ (by omega)⟩, trivial⟩) ?_
    refine ae_retL hB [(8311, .arr 3 s.length (fFeat s))] (⟨.inl rfl, trivial⟩) (.arr 8311) (by kernel_rfl) (.inl rfl) (fun h => by cases h) (fun h => by cases h)
  · refine aw_skip ?_
    refine ae_then ?_
    refine aw_seq ?_
    refine aw_reg [(0, .new 5), (2, .new 7)] [2] [7] [.arr 7] [some (.arr 3 (0 + s.length) (catF 0 (litF [] 3) (fFeat s)))] [(0 + s.length) * 24 ≤ 140737488355328] (by kernel_rfl) hB ⟨(by omega), trivial⟩ ?_
    refine ae_then ?_
    refine aw_ret ?_
    refine ae_weak hB [(8311, 7)] (T := [(2, .arr 8311)]) (O := [(8311, .arr 3 s.length (fFeat s))]) rfl (⟨.inl rfl, trivial⟩) (⟨.inr ⟨rfl, (by simp), fun i_ hi_ => .inl (cat_nil i_)⟩, trivial⟩) ?_
    refine ae_retL hB [(8311, .arr 3 s.length (fFeat s))] (⟨.inl rfl, trivial⟩) (.arr 8311) (by kernel_rfl) (.inl rfl) (fun h => by cases h) (fun h => by cases h)

theorem cloneF1_ok (s : List Feat) (hl : s.length ≤ 100000) : ∃ (out : List Feat), (out = s) ∧ CallOK Try.prog 35 [slFeat false s] (lookO []) false (.arr 8312) (lookO [(8312, .arr 3 out.length (fFeat out))]) := by
  refine ⟨s, rfl, ?_⟩
  refine fn_okL [] [(8312, .arr 3 s.length (fFeat s))] (fn := Try.f35) (nt := 8) Try.func35 rfl rfl (args := [slFeat false s]) rfl (allcons (.inl ⟨rfl, tagFeat false _⟩) allnil) (res := .arr 8312) (fun B hB => ?_)
  refine aw_seq ?_
  refine aw_reg [] [0] [] [slFeat false s] [] [] (by kernel_rfl) hB trivial ?_
  refine ae_then ?_
  refine aw_seq ?_
  refine aw_seq ?_
  refine aw_reg [] [0, 4] [] [slFeat false s, .nilq s.length] [] [] (by kernel_rfl) hB trivial ?_
  refine ae_then ?_
  refine aw_nilq (n := s.length) rfl (fun h1 => ?_) ?_
  · refine aw_seq ?_
    refine aw_reg [] [2] [] [nilA] [] [] (by kernel_rfl) hB trivial ?_
    refine ae_then ?_
    refine aw_ret ?_
    refine ae_ret_then ?_
    refine ae_nil hB 2 8312 3 (fun _ => []) (by kernel_rfl) ?_
    refine ae_weak hB [] (T := [(2, .arr 8312)]) (O := [(8312, .arr 3 s.length (fFeat s))]) rfl (⟨.inl rfl, trivial⟩) (⟨.inr ⟨rfl, (by omega), fun i_ hi_ => absurd hi_ (by omega)⟩, trivial⟩) ?_
    refine ae_retL hB [(8312, .arr 3 s.length (fFeat s))] (⟨.inl rfl, trivial⟩) (.arr 8312) (by kernel_rfl) (.inl rfl) (fun h => by cases h) (fun h => by cases h)
  · refine aw_skip ?_
    refine ae_then ?_
    refine aw_seq ?_
    refine aw_reg [(0, .new 5), (2, .new 7)] [2] [7] [.arr 7] [some (.arr 3 (0 + s.length) (catF 0 (litF [] 3) (fFeat s)))] [(0 + s.length) * 24 ≤ 140737488355328] (by kernel_rfl) hB ⟨(by omega), trivial⟩ ?_
    refine ae_then ?_
    refine aw_ret ?_
    refine ae_weak hB [(8312, 7)] (T := [(2, .arr 8312)]) (O := [(8312, .arr 3 s.length (fFeat s))]) rfl (⟨.inl rfl, trivial⟩) (⟨.inr ⟨rfl, (by simp), fun i_ hi_ => .inl (cat_nil i_)⟩, trivial⟩) ?_
    refine ae_retL hB [(8312, .arr 3 s.length (fFeat s))] (⟨.inl rfl, trivial⟩) (.arr 8312) (by kernel_rfl) (.inl rfl) (fun h => by cases h) (fun h => by cases h)


-- impl.startTrained
theorem startTrained_ok (t : Template) (hl : t.Feats.length ≤ 72) : ∃ (bs : List Feat) (fs : List Feat), (bs = t.Feats) ∧ (fs = t.Feats) ∧ CallOK Try.prog 24 [agTemplate t] (lookO []) false (.agg [Sv t.Label, .arr 8311, .arr 8312, I 0]) (lookO [(8311, .arr 3 bs.length (fFeat bs)), (8312, .arr 3 fs.length (fFeat fs))]) := by
  have hh : ∃ r : (List Feat) × (List Feat), ((r.1 = t.Feats) ∧ (r.2 = t.Feats) ∧ (True)) ∧ CallOK Try.prog 24 [agTemplate t] (lookO []) false (.agg [Sv t.Label, .arr 8311, .arr 8312, I 0]) (lookO [(8311, .arr 3 r.1.length (fFeat r.1)), (8312, .arr 3 r.2.length (fFeat r.2))]) := by
    refine fn_okX (Φ := fun r : (List Feat) × (List Feat) => (r.1 = t.Feats) ∧ (r.2 = t.Feats) ∧ (True)) [] (fun r => [(8311, .arr 3 r.1.length (fFeat r.1)), (8312, .arr 3 r.2.length (fFeat r.2))]) (fn := Try.f24) (nt := 12) Try.func24 rfl rfl (args := [agTemplate t]) rfl (allcons (.inl ⟨rfl, by simp [tagged, taggedL, tagFeat]⟩) allnil) (res := fun r => .agg [Sv t.Label, .arr 8311, .arr 8312, I 0]) ?_
    refine xR [(0, .new 1), (1, .new 2)] [1, 2] [1, 2] [.ref 1 0, .ref 2 0] [some (bxTemplate t), some (.box [Sv (⟨#[]⟩ : ByteArray), nilA, nilA, I 0])] [] trivial ?_
    refine x_seq ?_
    obtain ⟨out_1, hx1_0, hc1⟩ := cloneF0_ok t.Feats (by omega)
    obtain ⟨out_2, hx2_0, hc2⟩ := cloneF1_ok t.Feats (by omega)
    refine x_r [(4, .lend [] [(8311, .arr 3 out_1.length (fFeat out_1))] [(true, .any)] false (.arr 8311)), (7, .lend [] [(8312, .arr 3 out_2.length (fFeat out_2))] [(true, .any)] false (.arr 8312))] [2] [2, 8311, 8312] [.ref 2 0] [some (.box [Sv t.Label, .arr 8311, .arr 8312, I 0]), some (.arr 3 out_1.length (fFeat out_1)), some (.arr 3 out_2.length (fFeat out_2))] [CallOK Try.prog 35 [slFeat false t.Feats] (lookO []) false (.arr 8311) (lookO [(8311, .arr 3 out_1.length (fFeat out_1))]) ∧ True, CallOK Try.prog 35 [slFeat false t.Feats] (lookO []) false (.arr 8312) (lookO [(8312, .arr 3 out_2.length (fFeat out_2))]) ∧ True] ⟨⟨hc1, trivial⟩, ⟨hc2, trivial⟩, trivial⟩ ?_
    refine xe_then ?_
    refine x_ret ?_
    refine xe_end (out_1, out_2) (show (out_1 = t.Feats) ∧ (out_2 = t.Feats) ∧ (True) from ⟨(by assumption), (by assumption), trivial⟩) (⟨.inl rfl, .inl rfl, trivial⟩) (.agg [Sv t.Label, .arr 8311, .arr 8312, I 0]) (by kernel_rfl) (.inl rfl) (fun h => by cases h) (fun h => by cases h)
  obtain ⟨⟨bs, fs⟩, ⟨hh0, hh1, _⟩, hc⟩ := hh
  exact ⟨bs, fs, hh0, hh1, hc⟩


def Trained.withBase (x : Trained) (ys : List Feat) : Trained := Trained.mk x.Label ys x.Feats x.Count
def Trained.withFeats (x : Trained) (ys : List Feat) : Trained := Trained.mk x.Label x.Base ys x.Count
def oTrainedc (F0 F1 : Nat) (x : Trained) (i : Nat) : List AV := [Sv x.Label, .row F0 i, .row F1 i, I x.Count]
def oTrained (F0 F1 : Nat) (xs : List Trained) (i : Nat) : List AV := oTrainedc F0 F1 (at_ xs i) i
def mTrainedBase (xs : List Trained) (p : Nat) : Nat := (at_ xs p).Base.length
def gTrainedBase (xs : List Trained) (p : Nat) : Nat → List AV := fFeat (at_ xs p).Base
theorem fcatTrainedBase {xs : List Trained} (x : Trained) {n : Nat} {f : Nat → List AV} (hn : n = x.Base.length) (hf : ∀ i, i < n → f i = fFeat x.Base i) : xs.length + 1 = (xs ++ [x]).length ∧ 3 = 3 ∧ ∀ p, p < (xs ++ [x]).length → famUp xs.length n (mTrainedBase xs) p = mTrainedBase (xs ++ [x]) p ∧ ∀ i, i < mTrainedBase (xs ++ [x]) p → famUpF xs.length f (gTrainedBase xs) p i = gTrainedBase (xs ++ [x]) p i ∨ (AV.idsL (gTrainedBase (xs ++ [x]) p i) = [] ∧ leL (fun _ => none) false (famUpF xs.length f (gTrainedBase xs) p i) (gTrainedBase (xs ++ [x]) p i)) := by
  refine ⟨by simp, rfl, fun p hp => ?_⟩
  by_cases h : p < xs.length
  · have e : Nat.beq p xs.length = false := Bool.eq_false_iff.2 fun e => by have := Nat.eq_of_beq_eq_true e; omega
    simp [famUp, famUpF, e, mTrainedBase, gTrainedBase, at_left h]
  · have e : p = xs.length := by simp at hp; omega
    subst e
    have e2 : at_ (xs ++ [x]) xs.length = x := by simp [at_right (Nat.le_refl _), at_]
    simp only [famUp, famUpF, Nat.beq_refl, cond_true, mTrainedBase, gTrainedBase, e2]
    exact ⟨hn, fun i hi => .inl (hf i (by omega))⟩
theorem osetTrainedBase (F0 F1 P : Nat) (xs : List Trained) (ys : List Feat) (i : Nat) : oTrained F0 F1 xs i = oTrained F0 F1 (xs.set P (Trained.withBase (at_ xs P) ys)) i := by
  unfold oTrained
  by_cases h : P = i
  · subst h
    by_cases hl : P < xs.length
    · simp [at_, hl, oTrainedc, Trained.withBase]
    · rw [List.set_eq_of_length_le (by omega)]
  · simp [at_, h]
def mTrainedFeats (xs : List Trained) (p : Nat) : Nat := (at_ xs p).Feats.length
def gTrainedFeats (xs : List Trained) (p : Nat) : Nat → List AV := fFeat (at_ xs p).Feats
theorem fcatTrainedFeats {xs : List Trained} (x : Trained) {n : Nat} {f : Nat → List AV} (hn : n = x.Feats.length) (hf : ∀ i, i < n → f i = fFeat x.Feats i) : xs.length + 1 = (xs ++ [x]).length ∧ 3 = 3 ∧ ∀ p, p < (xs ++ [x]).length → famUp xs.length n (mTrainedFeats xs) p = mTrainedFeats (xs ++ [x]) p ∧ ∀ i, i < mTrainedFeats (xs ++ [x]) p → famUpF xs.length f (gTrainedFeats xs) p i = gTrainedFeats (xs ++ [x]) p i ∨ (AV.idsL (gTrainedFeats (xs ++ [x]) p i) = [] ∧ leL (fun _ => none) false (famUpF xs.length f (gTrainedFeats xs) p i) (gTrainedFeats (xs ++ [x]) p i)) := by
  refine ⟨by simp, rfl, fun p hp => ?_⟩
  by_cases h : p < xs.length
  · have e : Nat.beq p xs.length = false := Bool.eq_false_iff.2 fun e => by have := Nat.eq_of_beq_eq_true e; omega
    simp [famUp, famUpF, e, mTrainedFeats, gTrainedFeats, at_left h]
  · have e : p = xs.length := by simp at hp; omega
    subst e
    have e2 : at_ (xs ++ [x]) xs.length = x := by simp [at_right (Nat.le_refl _), at_]
    simp only [famUp, famUpF, Nat.beq_refl, cond_true, mTrainedFeats, gTrainedFeats, e2]
    exact ⟨hn, fun i hi => .inl (hf i (by omega))⟩
theorem osetTrainedFeats (F0 F1 P : Nat) (xs : List Trained) (ys : List Feat) (i : Nat) : oTrained F0 F1 xs i = oTrained F0 F1 (xs.set P (Trained.withFeats (at_ xs P) ys)) i := by
  unfold oTrained
  by_cases h : P = i
  · subst h
    by_cases hl : P < xs.length
    · simp [at_, hl, oTrainedc, Trained.withFeats]
    · rw [List.set_eq_of_length_le (by omega)]
  · simp [at_, h]
theorem oleTrained {ob : Nat → Option Ob} {F0 F1 : Nat} (fr : Bool) (xs : List Trained) (h0 : ob F0 = some (.fam xs.length 3 (mTrainedBase xs) (gTrainedBase xs))) (h1 : ob F1 = some (.fam xs.length 3 (mTrainedFeats xs) (gTrainedFeats xs))) : ∀ i, i < xs.length → AV.idsL (fTrained fr xs i) = [] ∧ leL ob true (oTrained F0 F1 xs i) (fTrained fr xs i) :=
  fun i hi => And.intro rfl (And.intro rfl (And.intro (le_row h0 hi rfl (fun q _ => .inl rfl)) (And.intro (le_row h1 hi rfl (fun q _ => .inl rfl)) (And.intro rfl rfl))))
theorem ocatTrained {F0 F1 j0 j1 N : Nat} (h00 : Nat.beq F0 j0 = false) (h01 : Nat.beq F0 j1 = false) (h10 : Nat.beq F1 j0 = false) (h11 : Nat.beq F1 j1 = false) {xs : List Trained} {x : Trained} {g : Nat → List AV} (hN : N = xs.length) (hx : (AV.joiL j1 F1 N (AV.joiL j0 F0 N (g 0))) = oTrainedc F0 F1 x N) : ∀ i, i < (xs ++ [x]).length → (AV.joiL j1 F1 N (AV.joiL j0 F0 N (catF xs.length (oTrained F0 F1 xs) g i))) = oTrained F0 F1 (xs ++ [x]) i := by
  subst hN
  intro i hi
  by_cases h : i < xs.length
  · rw [catF_lt h]
    simp [oTrained, oTrainedc, at_left h, AV.joiL, AV.joi, *]
  · have e : i = xs.length := by simp at hi; omega
    subst e
    rw [catF_ge (Nat.le_refl _), Nat.sub_self, hx]
    simp [oTrained, at_right (Nat.le_refl _), at_]
theorem fsameTrainedBase {xs : List Trained} {P : Nat} {x' : Trained} (hx : x'.Base = (at_ xs P).Base) : xs.length = (xs.set P x').length ∧ 3 = 3 ∧ ∀ p, p < (xs.set P x').length → mTrainedBase xs p = mTrainedBase (xs.set P x') p ∧ ∀ i, i < mTrainedBase (xs.set P x') p → gTrainedBase xs p i = gTrainedBase (xs.set P x') p i ∨ (AV.idsL (gTrainedBase (xs.set P x') p i) = [] ∧ leL (fun _ => none) false (gTrainedBase xs p i) (gTrainedBase (xs.set P x') p i)) := by
  refine ⟨by simp, rfl, fun p hp => ?_⟩
  have e : (at_ (xs.set P x') p).Base = (at_ xs p).Base := by
    by_cases h : p = P
    · subst h; rw [at_set_eq (by simpa using hp)]; exact hx
    · rw [at_set_ne h]
  simp only [mTrainedBase, gTrainedBase, e]
  first | exact ⟨trivial, fun i hi => .inl rfl⟩ | exact ⟨trivial, fun i hi => .inl trivial⟩
theorem fputTrainedBase {xs : List Trained} {P m1 : Nat} {ys : List Feat} {f1 : Nat → List AV} (hP : P < xs.length) (hm : m1 = ys.length) (hf : ∀ i, i < m1 → f1 i = fFeat ys i) : xs.length = (xs.set P (Trained.withBase (at_ xs P) ys)).length ∧ 3 = 3 ∧ ∀ p, p < (xs.set P (Trained.withBase (at_ xs P) ys)).length → famUp P m1 (mTrainedBase xs) p = mTrainedBase (xs.set P (Trained.withBase (at_ xs P) ys)) p ∧ ∀ i, i < mTrainedBase (xs.set P (Trained.withBase (at_ xs P) ys)) p → famUpF P f1 (gTrainedBase xs) p i = gTrainedBase (xs.set P (Trained.withBase (at_ xs P) ys)) p i ∨ (AV.idsL (gTrainedBase (xs.set P (Trained.withBase (at_ xs P) ys)) p i) = [] ∧ leL (fun _ => none) false (famUpF P f1 (gTrainedBase xs) p i) (gTrainedBase (xs.set P (Trained.withBase (at_ xs P) ys)) p i)) := by
  refine ⟨by simp, rfl, fun p hp => ?_⟩
  by_cases h : p = P
  · subst h
    have e : (at_ (xs.set p (Trained.withBase (at_ xs p) ys)) p).Base = ys := by rw [at_set_eq hP]; rfl
    simp only [mTrainedBase, gTrainedBase, famUp_at, famUpF_at, e]
    exact ⟨hm, fun i hi => .inl (hf i (by omega))⟩
  · have e : at_ (xs.set P (Trained.withBase (at_ xs P) ys)) p = at_ xs p := at_set_ne h
    simp only [mTrainedBase, gTrainedBase, famUp_ne _ _ h, famUpF_ne _ _ h, e]
    first | exact ⟨trivial, fun i hi => .inl rfl⟩ | exact ⟨trivial, fun i hi => .inl trivial⟩
theorem fsameTrainedFeats {xs : List Trained} {P : Nat} {x' : Trained} (hx : x'.Feats = (at_ xs P).Feats) : xs.length = (xs.set P x').length ∧ 3 = 3 ∧ ∀ p, p < (xs.set P x').length → mTrainedFeats xs p = mTrainedFeats (xs.set P x') p ∧ ∀ i, i < mTrainedFeats (xs.set P x') p → gTrainedFeats xs p i = gTrainedFeats (xs.set P x') p i ∨ (AV.idsL (gTrainedFeats (xs.set P x') p i) = [] ∧ leL (fun _ => none) false (gTrainedFeats xs p i) (gTrainedFeats (xs.set P x') p i)) := by
  refine ⟨by simp, rfl, fun p hp => ?_⟩
  have e : (at_ (xs.set P x') p).Feats = (at_ xs p).Feats := by
    by_cases h : p = P
    · subst h; rw [at_set_eq (by simpa using hp)]; exact hx
    · rw [at_set_ne h]
  simp only [mTrainedFeats, gTrainedFeats, e]
  first | exact ⟨trivial, fun i hi => .inl rfl⟩ | exact ⟨trivial, fun i hi => .inl trivial⟩
theorem fputTrainedFeats {xs : List Trained} {P m1 : Nat} {ys : List Feat} {f1 : Nat → List AV} (hP : P < xs.length) (hm : m1 = ys.length) (hf : ∀ i, i < m1 → f1 i = fFeat ys i) : xs.length = (xs.set P (Trained.withFeats (at_ xs P) ys)).length ∧ 3 = 3 ∧ ∀ p, p < (xs.set P (Trained.withFeats (at_ xs P) ys)).length → famUp P m1 (mTrainedFeats xs) p = mTrainedFeats (xs.set P (Trained.withFeats (at_ xs P) ys)) p ∧ ∀ i, i < mTrainedFeats (xs.set P (Trained.withFeats (at_ xs P) ys)) p → famUpF P f1 (gTrainedFeats xs) p i = gTrainedFeats (xs.set P (Trained.withFeats (at_ xs P) ys)) p i ∨ (AV.idsL (gTrainedFeats (xs.set P (Trained.withFeats (at_ xs P) ys)) p i) = [] ∧ leL (fun _ => none) false (famUpF P f1 (gTrainedFeats xs) p i) (gTrainedFeats (xs.set P (Trained.withFeats (at_ xs P) ys)) p i)) := by
  refine ⟨by simp, rfl, fun p hp => ?_⟩
  by_cases h : p = P
  · subst h
    have e : (at_ (xs.set p (Trained.withFeats (at_ xs p) ys)) p).Feats = ys := by rw [at_set_eq hP]; rfl
    simp only [mTrainedFeats, gTrainedFeats, famUp_at, famUpF_at, e]
    exact ⟨hm, fun i hi => .inl (hf i (by omega))⟩
  · have e : at_ (xs.set P (Trained.withFeats (at_ xs P) ys)) p = at_ xs p := at_set_ne h
    simp only [mTrainedFeats, gTrainedFeats, famUp_ne _ _ h, famUpF_ne _ _ h, e]
    first | exact ⟨trivial, fun i hi => .inl rfl⟩ | exact ⟨trivial, fun i hi => .inl trivial⟩
theorem oputTrained (F0 F1 P : Nat) {xs : List Trained} {x' : Trained} (i : Nat) (hi : i < (xs.set P x').length) : (bif Nat.beq i P then oTrainedc F0 F1 x' P else oTrained F0 F1 xs i) = oTrained F0 F1 (xs.set P x') i := by
  by_cases h : i = P
  · subst h
    have hl : i < xs.length := by simpa using hi
    simp only [Nat.beq_refl, cond_true, oTrained, at_set_eq hl]
  · simp only [beq_ne h, cond_false, oTrained, at_set_ne h]
theorem opreTrained {F0 F1 j0 j1 P : Nat} (h00 : Nat.beq F0 j0 = false) (h01 : Nat.beq F0 j1 = false) (h10 : Nat.beq F1 j0 = false) (h11 : Nat.beq F1 j1 = false) (i01 : Nat.beq j0 j1 = false) (i10 : Nat.beq j1 j0 = false) {xs : List Trained} {x : Trained} (hP : P = xs.length) (i : Nat) : (AV.joiL j1 F1 xs.length (AV.joiL j0 F0 xs.length (bif Nat.beq i P then spl (catF xs.length (oTrained F0 F1 xs) (fun _ => [Sv (⟨#[]⟩ : ByteArray), nilA, nilA, I 0]) P) 0 [Sv x.Label, .arr j0, .arr j1, I x.Count] else catF xs.length (oTrained F0 F1 xs) (fun _ => [Sv (⟨#[]⟩ : ByteArray), nilA, nilA, I 0]) i))) = catF (xs ++ [x]).length (oTrained F0 F1 (xs ++ [x])) (fun _ => [Sv (⟨#[]⟩ : ByteArray), nilA, nilA, I 0]) i := by
  subst hP
  have e0 : spl (catF xs.length (oTrained F0 F1 xs) (fun _ => [Sv (⟨#[]⟩ : ByteArray), nilA, nilA, I 0]) xs.length) 0 [Sv x.Label, .arr j0, .arr j1, I x.Count] = [Sv x.Label, .arr j0, .arr j1, I x.Count] := by rw [catF_ge (Nat.le_refl _)]; rfl
  have eR : ∀ i, i < xs.length + 1 → catF (xs ++ [x]).length (oTrained F0 F1 (xs ++ [x])) (fun _ => [Sv (⟨#[]⟩ : ByteArray), nilA, nilA, I 0]) i = oTrained F0 F1 (xs ++ [x]) i := fun i h => catF_lt (by simpa using h)
  by_cases h : i < xs.length
  · have eL : catF xs.length (oTrained F0 F1 xs) (fun _ => [Sv (⟨#[]⟩ : ByteArray), nilA, nilA, I 0]) i = oTrained F0 F1 xs i := catF_lt h
    rw [beq_ne (by omega), cond_false, eL, eR i (by omega)]
    simp [oTrained, oTrainedc, at_left h, AV.joiL, AV.joi, *]
  · by_cases e : i = xs.length
    · subst e
      rw [Nat.beq_refl, cond_true, e0, eR _ (by omega)]
      simp [oTrained, oTrainedc, at_right (Nat.le_refl _), at_, AV.joiL, AV.joi, *]
    · have eL : catF xs.length (oTrained F0 F1 xs) (fun _ => [Sv (⟨#[]⟩ : ByteArray), nilA, nilA, I 0]) i = [Sv (⟨#[]⟩ : ByteArray), nilA, nilA, I 0] := catF_ge (by omega)
      have eT : catF (xs ++ [x]).length (oTrained F0 F1 (xs ++ [x])) (fun _ => [Sv (⟨#[]⟩ : ByteArray), nilA, nilA, I 0]) i = [Sv (⟨#[]⟩ : ByteArray), nilA, nilA, I 0] := catF_ge (by simp; omega)
      rw [beq_ne e, cond_false, eL, eT]
      rfl

-- impl.WriterOfStore
theorem implWriterOfStore_ok (s : Store) (ok : okStore s) : ∃ (ts : List Trained), (ts = (wsR s).1.Trained) ∧ CallOK Try.prog 8 [agStore s] (lookO []) false (.tup [.agg [I ((wsR s).1.Band), .arr 7401], I ((wsR s).2)]) (lookO [(7401, .oar [7411, 7412] 4 ts.length (oTrained 7411 7412 ts)), (7411, .fam ts.length 3 (mTrainedBase ts) (gTrainedBase ts)), (7412, .fam ts.length 3 (mTrainedFeats ts) (gTrainedFeats ts))]) := by
  have hh : ∃ r : (List Trained), ((r = (wsR s).1.Trained) ∧ (True)) ∧ CallOK Try.prog 8 [agStore s] (lookO []) false (.tup [.agg [I ((wsR s).1.Band), .arr 7401], I ((wsR s).2)]) (lookO [(7401, .oar [7411, 7412] 4 r.length (oTrained 7411 7412 r)), (7411, .fam r.length 3 (mTrainedBase r) (gTrainedBase r)), (7412, .fam r.length 3 (mTrainedFeats r) (gTrainedFeats r))]) := by
    refine fn_okX (Φ := fun r : (List Trained) => (r = (wsR s).1.Trained) ∧ (True)) [] (fun r => [(7401, .oar [7411, 7412] 4 r.length (oTrained 7411 7412 r)), (7411, .fam r.length 3 (mTrainedBase r) (gTrainedBase r)), (7412, .fam r.length 3 (mTrainedFeats r) (gTrainedFeats r))]) (fn := Try.f8) (nt := 30) Try.func8 rfl rfl (args := [agStore s]) rfl (allcons (.inl ⟨rfl, by simp [tagged, taggedL, tagTemplate]⟩) allnil) (res := fun r => .tup [.agg [I ((wsR s).1.Band), .arr 7401], I ((wsR s).2)]) ?_
    refine xR [(0, .new 1), (1, .new 2)] [1, 2] [1, 2] [.ref 1 0, .ref 2 0] [some (bxStore s), some (.box [I 0, nilA])] [] trivial ?_
    refine x_seq ?_
    refine x_seq ?_
    rcases Bool.eq_false_or_eq_true (okStore' s) with h1 | h1
    ·have hst := wsR_yes h1
     have hok := okStore_iff.1 h1
     refine x_r [(1, .call [(true, .any)] true (Bv true))] [1, 2, 9] [1, 2] [.ref 1 0, .ref 2 0, Bv false] [some (bxStore s), some (.box [I 0, nilA])] [Con Try.prog 23 [agStore s] true (Bv true) ∧ True] ⟨⟨(con_bool h1 (ValidStore_ok s ok)), trivial⟩, trivial⟩ ?_
     refine xe_then ?_
     refine x_false rfl ?_
     refine x_skip ?_
     refine xe_then ?_
     refine xR [(3, .new 4)] [1, 2, 4] [1, 2, 4] [.ref 1 0, .ref 2 0, .ref 4 0] [some (bxStore s), some (.box [I 0, nilA]), some (.box [I s.Band, nilA])] [] trivial ?_
     refine x_seq ?_
     refine xR [] [2, 4, 15, 16, 17] [2, 4] [.ref 2 0, .ref 4 0, slTemplate false s.Templates, I (s.Templates.length : Int), I 0] [some (.box [I 0, nilA]), some (.box [I s.Band, nilA])] [] trivial ?_
     refine x_block ?_
     refine x_nilC 4 1 741 4 (fun _ => []) rfl (by kernel_rfl) ?_
     refine x_fam 7411 3 (fun _ => 0) (fun _ _ => []) (by kernel_rfl) ?_
     refine x_fam 7412 3 (fun _ => 0) (fun _ _ => []) (by kernel_rfl) ?_
     refine x_weak [] (T := [(2, .ref 2 0), (4, .ref 4 0), (15, slTemplate false s.Templates), (16, I (s.Templates.length : Int)), (17, I 0)]) (O := [(2, .box [I 0, nilA]), (4, .box [I s.Band, .arr 741]), (741, .oar [7411, 7412] 4 (([] : List Trained).length) (oTrained 7411 7412 ([] : List Trained))), (7411, .fam ([] : List Trained).length 3 (mTrainedBase ([] : List Trained)) (gTrainedBase ([] : List Trained))), (7412, .fam ([] : List Trained).length 3 (mTrainedFeats ([] : List Trained)) (gTrainedFeats ([] : List Trained)))]) rfl (⟨.inl rfl, .inl rfl, .inl rfl, .inl rfl, .inl rfl, trivial⟩) (⟨.inl rfl, .inl rfl, .inr ⟨rfl, rfl, fun i hi => absurd hi (Nat.not_lt_zero _)⟩, .inr ⟨rfl, rfl, fun p hp => absurd hp (Nat.not_lt_zero _)⟩, .inr ⟨rfl, rfl, fun p hp => absurd hp (Nat.not_lt_zero _)⟩, trivial⟩) ?_
     refine x_loop (X := Int × (List Trained)) (fun x => mkS [(2, .ref 2 0), (4, .ref 4 0), (15, slTemplate false s.Templates), (16, I (s.Templates.length : Int)), (17, I x.1)] [(2, .box [I 0, nilA]), (4, .box [I s.Band, .arr 741]), (741, .oar [7411, 7412] 4 x.2.length (oTrained 7411 7412 x.2)), (7411, .fam x.2.length 3 (mTrainedBase x.2) (gTrainedBase x.2)), (7412, .fam x.2.length 3 (mTrainedFeats x.2) (gTrainedFeats x.2))]) (fun x => (0 ≤ x.1 ∧ x.1 ≤ (s.Templates.length : Int)) ∧ (x.2 = (s.Templates.take x.1.toNat).map stT) ∧ True) (fun x => ((s.Templates.length : Int) - x.1).toNat) (0, ([] : List Trained)) rfl (show (0 ≤ (0 : Int) ∧ (0 : Int) ≤ (s.Templates.length : Int)) ∧ (([] : List Trained) = (s.Templates.take (0 : Int).toNat).map stT) ∧ True from ⟨(by omega), (by rfl), trivial⟩) (fun x hI => ?_)
     obtain ⟨i, us⟩ := x
     obtain ⟨hi0, hy0, _⟩ : (0 ≤ i ∧ i ≤ (s.Templates.length : Int)) ∧ (us = (s.Templates.take i.toNat).map stT) ∧ True := hI
     show XW _ _ _ _ (mkS [(2, .ref 2 0), (4, .ref 4 0), (15, slTemplate false s.Templates), (16, I (s.Templates.length : Int)), (17, I i)] [(2, .box [I 0, nilA]), (4, .box [I s.Band, .arr 741]), (741, .oar [7411, 7412] 4 us.length (oTrained 7411 7412 us)), (7411, .fam us.length 3 (mTrainedBase us) (gTrainedBase us)), (7412, .fam us.length 3 (mTrainedFeats us) (gTrainedFeats us))]) _ _
     refine x_seq ?_
     by_cases h2 : i < (s.Templates.length : Int)
     ·have hi : i.toNat < s.Templates.length := by omega
      have hlen := okTm_len (hok.2.2 _ hi)
      have htl : us.length = i.toNat := by rw [hy0, List.length_map, List.length_take]; omega
      refine x_r [(0, .dec true)] [2, 4, 15, 16, 17, 18] [2, 4, 741, 7411, 7412] [.ref 2 0, .ref 4 0, slTemplate false s.Templates, I (s.Templates.length : Int), I i, Bv true] [some (.box [I 0, nilA]), some (.box [I s.Band, .arr 741]), some (.oar [7411, 7412] 4 us.length (oTrained 7411 7412 us)), some (.fam us.length 3 (mTrainedBase us) (gTrainedBase us)), some (.fam us.length 3 (mTrainedFeats us) (gTrainedFeats us))] [i < (s.Templates.length : Int)] ⟨h2, trivial⟩ ?_
      refine xe_then ?_
      refine x_seq ?_
      refine x_true rfl ?_
      refine x_skip ?_
      refine xe_then ?_
      refine x_seq ?_
      refine x_block ?_
      refine xR [(2, .new 6)] [2, 4, 6, 15, 16, 17] [2, 4, 6, 741, 7411, 7412] [.ref 2 0, .ref 4 0, .ref 6 0, slTemplate false s.Templates, I (s.Templates.length : Int), I i] [some (.box [I 0, nilA]), some (.box [I s.Band, .arr 741]), some (bxTemplate (at_ s.Templates i.toNat)), some (.oar [7411, 7412] 4 us.length (oTrained 7411 7412 us)), some (.fam us.length 3 (mTrainedBase us) (gTrainedBase us)), some (.fam us.length 3 (mTrainedFeats us) (gTrainedFeats us))] [(0 : Int) ≤ i ∧ i < (s.Templates.length : Int)] ⟨⟨(by first | omega | (rw [hst]; exact rfl) | (simp [hst])), (by first | omega | (rw [hst]; exact rfl) | (simp [hst]))⟩, trivial⟩ ?_
      obtain ⟨bs_1, fs_1, hx1_0, hx1_1, hc1⟩ := startTrained_ok (at_ s.Templates i.toNat) hlen
      refine x_r [(3, .lend [] [(8311, .arr 3 bs_1.length (fFeat bs_1)), (8312, .arr 3 fs_1.length (fFeat fs_1))] [(true, .any)] false (.agg [Sv ((at_ s.Templates i.toNat).Label), .arr 8311, .arr 8312, I 0])), (4, .new 25), (5, .new 26)] [2, 4, 15, 16, 17] [2, 4, 26, 7411, 7412, 8311, 8312] [.ref 2 0, .ref 4 0, slTemplate false s.Templates, I (s.Templates.length : Int), I i] [some (.box [I 0, nilA]), some (.box [I s.Band, .arr 26]), some (.oar [7411, 7412, 8311, 8312] 4 (us.length + 1) (catF us.length (oTrained 7411 7412 us) (litF [Sv ((at_ s.Templates i.toNat).Label), .arr 8311, .arr 8312, I 0] 4))), some (.fam us.length 3 (mTrainedBase us) (gTrainedBase us)), some (.fam us.length 3 (mTrainedFeats us) (gTrainedFeats us)), some (.arr 3 bs_1.length (fFeat bs_1)), some (.arr 3 fs_1.length (fFeat fs_1))] [CallOK Try.prog 24 [agTemplate (at_ s.Templates i.toNat)] (lookO []) false (.agg [Sv ((at_ s.Templates i.toNat).Label), .arr 8311, .arr 8312, I 0]) (lookO [(8311, .arr 3 bs_1.length (fFeat bs_1)), (8312, .arr 3 fs_1.length (fFeat fs_1))]) ∧ True, (us.length + 1) * 72 ≤ 140737488355328] ⟨⟨hc1, trivial⟩, (by first | omega | (rw [hst]; exact rfl) | (simp [hst])), trivial⟩ ?_
      refine xe_block 1 ?_
      refine xe_then ?_
      refine x_r [] [2, 4, 15, 16, 17] [2, 4, 26, 7411, 7412, 8311, 8312] [.ref 2 0, .ref 4 0, slTemplate false s.Templates, I (s.Templates.length : Int), I (i + 1)] [some (.box [I 0, nilA]), some (.box [I s.Band, .arr 26]), some (.oar [7411, 7412, 8311, 8312] 4 (us.length + 1) (catF us.length (oTrained 7411 7412 us) (litF [Sv ((at_ s.Templates i.toNat).Label), .arr 8311, .arr 8312, I 0] 4))), some (.fam us.length 3 (mTrainedBase us) (gTrainedBase us)), some (.fam us.length 3 (mTrainedFeats us) (gTrainedFeats us)), some (.arr 3 bs_1.length (fFeat bs_1)), some (.arr 3 fs_1.length (fFeat fs_1))] [inR .i64 (i + 1)] ⟨(inR_i64 (by first | omega | (rw [hst]; exact rfl) | (simp [hst])) (by first | omega | (rw [hst]; exact rfl) | (simp [hst]))), trivial⟩ ?_
      refine xe_join 8311 7411 rfl rfl rfl ?_
      refine xe_join 8312 7412 rfl rfl rfl ?_
      refine xe_weak [(741, 26)] (T := [(2, .ref 2 0), (4, .ref 4 0), (15, slTemplate false s.Templates), (16, I (s.Templates.length : Int)), (17, I (i + 1))]) (O := [(2, .box [I 0, nilA]), (4, .box [I s.Band, .arr 741]), (741, .oar [7411, 7412] 4 ((us ++ [(Trained.mk ((at_ s.Templates i.toNat).Label) bs_1 fs_1 0)]).length) (oTrained 7411 7412 (us ++ [(Trained.mk ((at_ s.Templates i.toNat).Label) bs_1 fs_1 0)]))), (7411, .fam (us ++ [(Trained.mk ((at_ s.Templates i.toNat).Label) bs_1 fs_1 0)]).length 3 (mTrainedBase (us ++ [(Trained.mk ((at_ s.Templates i.toNat).Label) bs_1 fs_1 0)])) (gTrainedBase (us ++ [(Trained.mk ((at_ s.Templates i.toNat).Label) bs_1 fs_1 0)]))), (7412, .fam (us ++ [(Trained.mk ((at_ s.Templates i.toNat).Label) bs_1 fs_1 0)]).length 3 (mTrainedFeats (us ++ [(Trained.mk ((at_ s.Templates i.toNat).Label) bs_1 fs_1 0)])) (gTrainedFeats (us ++ [(Trained.mk ((at_ s.Templates i.toNat).Label) bs_1 fs_1 0)])))]) rfl (⟨.inl rfl, .inl rfl, .inl rfl, .inl rfl, .inl rfl, trivial⟩) (⟨.inl rfl, .inl rfl, .inr ⟨rfl, rfl, (by simp), fun i hi => .inl (ocatTrained rfl rfl rfl rfl rfl rfl i hi)⟩, .inr (fcatTrainedBase (Trained.mk ((at_ s.Templates i.toNat).Label) bs_1 fs_1 0) (by first | rfl | (simp; done)) (fun i_ hi_ => (by first | rfl | fail))), .inr (fcatTrainedFeats (Trained.mk ((at_ s.Templates i.toNat).Label) bs_1 fs_1 0) (by first | rfl | (simp; done)) (fun i_ hi_ => (by first | rfl | fail))), trivial⟩) (xe_again ((i + 1), (us ++ [(Trained.mk ((at_ s.Templates i.toNat).Label) bs_1 fs_1 0)])) rfl (show (0 ≤ (i + 1) ∧ (i + 1) ≤ (s.Templates.length : Int)) ∧ ((us ++ [(Trained.mk ((at_ s.Templates i.toNat).Label) bs_1 fs_1 0)]) = (s.Templates.take (i + 1).toNat).map stT) ∧ True from ⟨(by omega), (by rw [show (i + 1).toNat = i.toNat + 1 from by omega, map_take stT hi, ← hy0, hx1_0, hx1_1]; rfl), trivial⟩) (by first | (show (((s.Templates.length : Int) - (i + 1)).toNat : Nat) < ((s.Templates.length : Int) - i).toNat; omega) | (dsimp only; omega)))
     have hie : i.toNat = s.Templates.length := by omega
     rw [hie, List.take_length] at hy0
     refine x_r [(0, .dec false)] [2, 4, 15, 16, 17, 18] [2, 4, 741, 7411, 7412] [.ref 2 0, .ref 4 0, slTemplate false s.Templates, I (s.Templates.length : Int), I i, Bv false] [some (.box [I 0, nilA]), some (.box [I s.Band, .arr 741]), some (.oar [7411, 7412] 4 us.length (oTrained 7411 7412 us)), some (.fam us.length 3 (mTrainedBase us) (gTrainedBase us)), some (.fam us.length 3 (mTrainedFeats us) (gTrainedFeats us))] [¬ (i < (s.Templates.length : Int))] ⟨h2, trivial⟩ ?_
     refine xe_then ?_
     refine x_seq ?_
     refine x_false rfl ?_
     refine x_exit ?_
     refine xe_exit_then ?_
     refine xe_loop_exit ?_
     refine xe_exit_same ?_
     refine xe_then ?_
     refine xR [] [2, 3] [2, 741, 7411, 7412] [.ref 2 0, I 0] [some (.box [I s.Band, .arr 741]), some (.oar [7411, 7412] 4 us.length (oTrained 7411 7412 us)), some (.fam us.length 3 (mTrainedBase us) (gTrainedBase us)), some (.fam us.length 3 (mTrainedFeats us) (gTrainedFeats us))] [] trivial ?_
     refine x_ret ?_
     refine xe_weak [(7401, 741)] (T := [(2, .ref 2 0), (3, I 0)]) (O := [(2, .box [I ((wsR s).1.Band), .arr 7401]), (7401, .oar [7411, 7412] 4 us.length (oTrained 7411 7412 us)), (7411, .fam us.length 3 (mTrainedBase us) (gTrainedBase us)), (7412, .fam us.length 3 (mTrainedFeats us) (gTrainedFeats us))]) rfl (⟨.inl rfl, .inl rfl, trivial⟩) (⟨.inr ⟨(by first | rfl | (simp [valOf]; done) | (simp [valOf]; first | omega | (rw [hst]; exact rfl) | (simp [hst]))), ⟨rfl, rfl⟩⟩, .inl rfl, .inl rfl, .inl rfl, trivial⟩) ?_
     refine xe_end us (show (us = (wsR s).1.Trained) ∧ (True) from ⟨(by first | (rw [hst]; done) | (rw [hst]; exact hy0) | (rw [hst]; rfl) | (rw [hst]; assumption)), trivial⟩) (⟨.inl rfl, .inl rfl, .inl rfl, trivial⟩) (.tup [.agg [I ((wsR s).1.Band), .arr 7401], I 0]) (by kernel_rfl) (.inr ⟨⟨rfl, ⟨rfl, rfl⟩⟩, ⟨(by first | rfl | (simp [valOf]; done) | (simp [valOf]; first | omega | (rw [hst]; exact rfl) | (simp [hst]))), rfl⟩⟩) (fun h => by cases h) (fun h => by cases h)
    have hst := wsR_no h1
    refine x_r [(1, .call [(true, .any)] true (Bv false))] [1, 2, 9] [1, 2] [.ref 1 0, .ref 2 0, Bv true] [some (bxStore s), some (.box [I 0, nilA])] [Con Try.prog 23 [agStore s] true (Bv false) ∧ True] ⟨⟨(con_bool h1 (ValidStore_ok s ok)), trivial⟩, trivial⟩ ?_
    refine xe_then ?_
    refine x_true rfl ?_
    refine xR [] [2, 3] [2] [.ref 2 0, I 1] [some (.box [I 0, nilA])] [] trivial ?_
    refine x_ret ?_
    refine xe_ret_then ?_
    refine xe_nilC 2 1 7401 4 (fun _ => []) rfl (by kernel_rfl) ?_
    refine xe_fam 7411 3 (fun _ => 0) (fun _ _ => []) (by kernel_rfl) ?_
    refine xe_fam 7412 3 (fun _ => 0) (fun _ _ => []) (by kernel_rfl) ?_
    refine xe_weak [] (T := [(2, .ref 2 0), (3, I 1)]) (O := [(2, .box [I ((wsR s).1.Band), .arr 7401]), (7401, .oar [7411, 7412] 4 (([] : List Trained).length) (oTrained 7411 7412 ([] : List Trained))), (7411, .fam ([] : List Trained).length 3 (mTrainedBase ([] : List Trained)) (gTrainedBase ([] : List Trained))), (7412, .fam ([] : List Trained).length 3 (mTrainedFeats ([] : List Trained)) (gTrainedFeats ([] : List Trained)))]) rfl (⟨.inl rfl, .inl rfl, trivial⟩) (⟨.inr ⟨(by first | rfl | (simp [valOf]; done) | (simp [valOf]; first | omega | (rw [hst]; exact rfl) | (simp [hst]))), ⟨rfl, rfl⟩⟩, .inr ⟨rfl, rfl, fun i hi => absurd hi (Nat.not_lt_zero _)⟩, .inr ⟨rfl, rfl, fun p hp => absurd hp (Nat.not_lt_zero _)⟩, .inr ⟨rfl, rfl, fun p hp => absurd hp (Nat.not_lt_zero _)⟩, trivial⟩) ?_
    refine xe_end ([] : List Trained) (show (([] : List Trained) = (wsR s).1.Trained) ∧ (True) from ⟨(by first | (rw [hst]; done) | (rw [hst]; exact hy0) | (rw [hst]; rfl) | (rw [hst]; assumption)), trivial⟩) (⟨.inl rfl, .inl rfl, .inl rfl, trivial⟩) (.tup [.agg [I ((wsR s).1.Band), .arr 7401], I 1]) (by kernel_rfl) (.inr ⟨⟨rfl, ⟨rfl, rfl⟩⟩, ⟨(by first | rfl | (simp [valOf]; done) | (simp [valOf]; first | omega | (rw [hst]; exact rfl) | (simp [hst]))), rfl⟩⟩) (fun h => by cases h) (fun h => by cases h)
  obtain ⟨ts, ⟨hh0, _⟩, hc⟩ := hh
  exact ⟨ts, hh0, hc⟩


-- laws.eqFeat
theorem eqFeat_ok (a : Feat) (b : Feat) : Con Try.prog 76 [agFeat a, agFeat b] true (Bv (same a b)) := by
  refine fn_ok (fn := Try.f76) (nt := 20) Try.func76 rfl rfl rfl rfl (by simp [taggedL, tagged]) fun B hB => ?_
  refine aR [(0, .new 2), (1, .new 3)] [2, 3] [2, 3] [.ref 2 0, .ref 3 0] [some (bxFeat a), some (bxFeat b)] [] hB trivial ?_
  refine aw_seq ?_
  refine aw_seq ?_
  by_cases h1 : a.X = b.X
  ·refine aw_r [(4, .dec false)] [2, 3, 9] [2, 3] [.ref 2 0, .ref 3 0, Bv false] [some (bxFeat a), some (bxFeat b)] [¬ (a.X ≠ b.X)] hB ⟨(fun hq => hq h1), trivial⟩ ?_
   refine ae_then ?_
   refine aw_false rfl ?_
   refine aw_skip ?_
   refine ae_then ?_
   refine aw_seq ?_
   refine aw_seq ?_
   by_cases h2 : a.Y = b.Y
   ·refine aw_r [(4, .dec false)] [2, 3, 14] [2, 3] [.ref 2 0, .ref 3 0, Bv false] [some (bxFeat a), some (bxFeat b)] [¬ (a.Y ≠ b.Y)] hB ⟨(fun hq => hq h2), trivial⟩ ?_
    refine ae_then ?_
    refine aw_false rfl ?_
    refine aw_skip ?_
    refine ae_then ?_
    refine aw_seq ?_
    refine aw_seq ?_
    by_cases h3 : a.D = b.D
    ·refine aw_r [(4, .dec false)] [19] [] [Bv false] [] [¬ (a.D ≠ b.D)] hB ⟨(fun hq => hq h3), trivial⟩ ?_
     refine ae_then ?_
     refine aw_false rfl ?_
     refine aw_skip ?_
     refine ae_then ?_
     refine aR [] [4] [] [Bv true] [] [] hB trivial ?_
     refine aw_ret ?_
     refine ae_ret hB (Bv true) (by kernel_rfl) (.inl (by first | (cases a; cases b; simp_all [same]; done) | (cases a; cases b; simp_all [same]; omega))) rfl (fun _ => trivial)
    refine aw_r [(4, .dec true)] [19] [] [Bv true] [] [a.D ≠ b.D] hB ⟨h3, trivial⟩ ?_
    refine ae_then ?_
    refine aw_true rfl ?_
    refine aR [] [4] [] [Bv false] [] [] hB trivial ?_
    refine aw_ret ?_
    refine ae_ret_then ?_
    refine ae_ret hB (Bv false) (by kernel_rfl) (.inl (by first | (cases a; cases b; simp_all [same]; done) | (cases a; cases b; simp_all [same]; omega))) rfl (fun _ => trivial)
   refine aw_r [(4, .dec true)] [2, 3, 14] [2, 3] [.ref 2 0, .ref 3 0, Bv true] [some (bxFeat a), some (bxFeat b)] [a.Y ≠ b.Y] hB ⟨h2, trivial⟩ ?_
   refine ae_then ?_
   refine aw_true rfl ?_
   refine aR [] [4] [] [Bv false] [] [] hB trivial ?_
   refine aw_ret ?_
   refine ae_ret_then ?_
   refine ae_ret hB (Bv false) (by kernel_rfl) (.inl (by first | (cases a; cases b; simp_all [same]; done) | (cases a; cases b; simp_all [same]; omega))) rfl (fun _ => trivial)
  refine aw_r [(4, .dec true)] [2, 3, 9] [2, 3] [.ref 2 0, .ref 3 0, Bv true] [some (bxFeat a), some (bxFeat b)] [a.X ≠ b.X] hB ⟨h1, trivial⟩ ?_
  refine ae_then ?_
  refine aw_true rfl ?_
  refine aR [] [4] [] [Bv false] [] [] hB trivial ?_
  refine aw_ret ?_
  refine ae_ret_then ?_
  refine ae_ret hB (Bv false) (by kernel_rfl) (.inl (by first | (cases a; cases b; simp_all [same]; done) | (cases a; cases b; simp_all [same]; omega))) rfl (fun _ => trivial)


-- laws.eqFeatS
theorem eqFeatS_ok (a : List Feat) (b : List Feat) : Con Try.prog 65 [slFeat false a, slFeat false b] true (Bv (same a b)) := by
  refine fn_ok (fn := Try.f65) (nt := 27) Try.func65 rfl rfl rfl rfl (by simp [taggedL, tagged, tagFeat]) fun B hB => ?_
  refine aw_lens (x := slFeat false a) 0 rfl (fun len_a => ?_)
  simp [LenOK, LenL, cFeat, fFeat, slFeat] at len_a
  refine aw_lens (x := slFeat false b) 1 rfl (fun len_b => ?_)
  simp [LenOK, LenL, cFeat, fFeat, slFeat] at len_b
  refine aR [] [0, 1] [] [slFeat false a, slFeat false b] [] [] hB trivial ?_
  refine aw_seq ?_
  refine aw_seq ?_
  by_cases h1 : (a.length : Int) = (b.length : Int)
  ·refine aw_r [(4, .dec false)] [0, 1, 10] [] [slFeat false a, slFeat false b, Bv false] [] [¬ ((a.length : Int) ≠ (b.length : Int))] hB ⟨(fun hq => hq h1), trivial⟩ ?_
   refine ae_then ?_
   refine aw_false rfl ?_
   refine aw_skip ?_
   refine ae_then ?_
   refine aw_seq ?_
   refine aR [] [0, 1, 5] [] [slFeat false a, slFeat false b, I 0] [] [] hB trivial ?_
   refine aw_block ?_
   refine aw_loop (fun gn gσ => ∃ (i : Int), gn = ((a.length : Int) - i).toNat ∧ (0 ≤ i ∧ i ≤ (a.length : Int)) ∧ (∀ j : Nat, (j : Int) < i → at_ a j = at_ b j) ∧ gσ = mkS [(0, slFeat false a), (1, slFeat false b), (5, I i)] []) (((a.length : Int) - 0).toNat) ⟨0, rfl, (by omega), (by intro j hj; omega), rfl⟩ (fun gn gσ hI => ?_)
   obtain ⟨i, rfl, hi0, he0, rfl⟩ := hI
   refine aw_seq ?_
   refine aw_seq ?_
   by_cases h2 : i < (a.length : Int)
   ·have hi : i.toNat < a.length := by omega
    have hib : i.toNat < b.length := by omega
    refine aw_r [(3, .dec true)] [0, 1, 5, 14] [] [slFeat false a, slFeat false b, I i, Bv true] [] [i < (a.length : Int)] hB ⟨h2, trivial⟩ ?_
    refine ae_then ?_
    refine aw_true rfl ?_
    refine aw_skip ?_
    refine ae_then ?_
    refine aw_seq ?_
    refine aw_block ?_
    refine aw_seq ?_
    rcases Bool.eq_false_or_eq_true (same (at_ a i.toNat) (at_ b i.toNat)) with h3 | h3
    ·have HEQ := h3
     refine aw_r [(8, .call [(true, .any), (true, .any)] true (Bv true))] [0, 1, 5, 26] [] [slFeat false a, slFeat false b, I i, Bv false] [] [(0 : Int) ≤ i ∧ i < (a.length : Int), (0 : Int) ≤ i ∧ i < (b.length : Int), Con Try.prog 76 [agFeat (at_ a i.toNat), agFeat (at_ b i.toNat)] true (Bv true) ∧ True] hB ⟨⟨(by omega), (by omega)⟩, ⟨(by omega), (by omega)⟩, ⟨(con_bool h3 (eqFeat_ok (at_ a i.toNat) (at_ b i.toNat))), trivial⟩, trivial⟩ ?_
     refine ae_then ?_
     refine aw_false rfl ?_
     refine aw_skip ?_
     refine ae_block 1 ?_
     refine ae_then ?_
     refine aw_r [] [0, 1, 5] [] [slFeat false a, slFeat false b, I (i + 1)] [] [inR .i64 (i + 1)] hB ⟨(inR_i64 (by omega) (by omega)), trivial⟩ ?_
     exact ae_again _ (by omega) ⟨(i + 1), rfl, (by omega), (by intro j hj; by_cases ej : j = i.toNat; (subst ej; simpa [same] using HEQ); exact he0 j (by omega)), rfl⟩
    refine aw_r [(8, .call [(true, .any), (true, .any)] true (Bv false))] [0, 1, 5, 26] [] [slFeat false a, slFeat false b, I i, Bv true] [] [(0 : Int) ≤ i ∧ i < (a.length : Int), (0 : Int) ≤ i ∧ i < (b.length : Int), Con Try.prog 76 [agFeat (at_ a i.toNat), agFeat (at_ b i.toNat)] true (Bv false) ∧ True] hB ⟨⟨(by omega), (by omega)⟩, ⟨(by omega), (by omega)⟩, ⟨(con_bool h3 (eqFeat_ok (at_ a i.toNat) (at_ b i.toNat))), trivial⟩, trivial⟩ ?_
    refine ae_then ?_
    refine aw_true rfl ?_
    refine aR [] [4] [] [Bv false] [] [] hB trivial ?_
    refine aw_ret ?_
    refine ae_ret_block (ae_ret_then (ae_ret_then (ae_ret_block (ae_ret_then ?_))))
    refine ae_ret hB (Bv false) (by kernel_rfl) (.inl (by first | (refine congrArg Bv (Eq.symm (decide_eq_false ?_)); intro e; subst e; simp_all [same]; done) | (exact congrArg Bv (Eq.symm (decide_eq_true hfin))))) rfl (fun _ => trivial)
   have hfin : a = b := ext_at (by omega) (fun j hj => he0 j (by omega))
   refine aw_r [(3, .dec false)] [0, 1, 5, 14] [] [slFeat false a, slFeat false b, I i, Bv false] [] [¬ (i < (a.length : Int))] hB ⟨h2, trivial⟩ ?_
   refine ae_then ?_
   refine aw_false rfl ?_
   refine aw_exit ?_
   refine ae_exit_then ?_
   refine ae_exit_then ?_
   refine ae_exit_same ?_
   refine ae_then ?_
   refine aR [] [4] [] [Bv true] [] [] hB trivial ?_
   refine aw_ret ?_
   refine ae_ret hB (Bv true) (by kernel_rfl) (.inl (by first | (refine congrArg Bv (Eq.symm (decide_eq_false ?_)); intro e; subst e; simp_all [same]; done) | (exact congrArg Bv (Eq.symm (decide_eq_true hfin))))) rfl (fun _ => trivial)
  refine aw_r [(4, .dec true)] [0, 1, 10] [] [slFeat false a, slFeat false b, Bv true] [] [(a.length : Int) ≠ (b.length : Int)] hB ⟨h1, trivial⟩ ?_
  refine ae_then ?_
  refine aw_true rfl ?_
  refine aR [] [4] [] [Bv false] [] [] hB trivial ?_
  refine aw_ret ?_
  refine ae_ret_then ?_
  refine ae_ret hB (Bv false) (by kernel_rfl) (.inl (by first | (refine congrArg Bv (Eq.symm (decide_eq_false ?_)); intro e; subst e; simp_all [same]; done) | (exact congrArg Bv (Eq.symm (decide_eq_true hfin))))) rfl (fun _ => trivial)


-- laws.eqTrained
theorem eqTrained_ok (a : Trained) (b : Trained) : Con Try.prog 46 [agTrained a, agTrained b] true (Bv (same a b)) := by
  refine fn_ok (fn := Try.f46) (nt := 27) Try.func46 rfl rfl rfl rfl (by simp [taggedL, tagged, tagFeat]) fun B hB => ?_
  refine aw_lens (x := agTrained a) 0 rfl (fun len_a => ?_)
  simp [LenOK, LenL, cFeat, fFeat, slFeat] at len_a
  refine aw_lens (x := agTrained b) 1 rfl (fun len_b => ?_)
  simp [LenOK, LenL, cFeat, fFeat, slFeat] at len_b
  refine aR [(0, .new 2), (1, .new 3)] [2, 3] [2, 3] [.ref 2 0, .ref 3 0] [some (bxTrained a), some (bxTrained b)] [] hB trivial ?_
  refine aw_seq ?_
  refine aw_seq ?_
  by_cases h1 : a.Label = b.Label
  ·refine aw_r [(4, .dec false)] [2, 3, 9] [2, 3] [.ref 2 0, .ref 3 0, Bv false] [some (bxTrained a), some (bxTrained b)] [¬ (a.Label ≠ b.Label)] hB ⟨(fun hq => hq h1), trivial⟩ ?_
   refine ae_then ?_
   refine aw_false rfl ?_
   refine aw_skip ?_
   refine ae_then ?_
   refine aw_seq ?_
   refine aw_seq ?_
   rcases Bool.eq_false_or_eq_true (same a.Base b.Base) with h2 | h2
   ·refine aw_r [(4, .call [(true, .any), (true, .any)] true (Bv true))] [2, 3, 15] [2, 3] [.ref 2 0, .ref 3 0, Bv false] [some (bxTrained a), some (bxTrained b)] [Con Try.prog 65 [slFeat false a.Base, slFeat false b.Base] true (Bv true) ∧ True] hB ⟨⟨(con_bool h2 (eqFeatS_ok a.Base b.Base)), trivial⟩, trivial⟩ ?_
    refine ae_then ?_
    refine aw_false rfl ?_
    refine aw_skip ?_
    refine ae_then ?_
    refine aw_seq ?_
    refine aw_seq ?_
    rcases Bool.eq_false_or_eq_true (same a.Feats b.Feats) with h3 | h3
    ·refine aw_r [(4, .call [(true, .any), (true, .any)] true (Bv true))] [2, 3, 21] [2, 3] [.ref 2 0, .ref 3 0, Bv false] [some (bxTrained a), some (bxTrained b)] [Con Try.prog 65 [slFeat false a.Feats, slFeat false b.Feats] true (Bv true) ∧ True] hB ⟨⟨(con_bool h3 (eqFeatS_ok a.Feats b.Feats)), trivial⟩, trivial⟩ ?_
     refine ae_then ?_
     refine aw_false rfl ?_
     refine aw_skip ?_
     refine ae_then ?_
     refine aw_seq ?_
     refine aw_seq ?_
     by_cases h4 : a.Count = b.Count
     ·refine aw_r [(4, .dec false)] [26] [] [Bv false] [] [¬ (a.Count ≠ b.Count)] hB ⟨(fun hq => hq h4), trivial⟩ ?_
      refine ae_then ?_
      refine aw_false rfl ?_
      refine aw_skip ?_
      refine ae_then ?_
      refine aR [] [4] [] [Bv true] [] [] hB trivial ?_
      refine aw_ret ?_
      refine ae_ret hB (Bv true) (by kernel_rfl) (.inl (by first | (cases a; cases b; simp_all [same]; done) | (cases a; cases b; simp_all [same]; omega))) rfl (fun _ => trivial)
     refine aw_r [(4, .dec true)] [26] [] [Bv true] [] [a.Count ≠ b.Count] hB ⟨h4, trivial⟩ ?_
     refine ae_then ?_
     refine aw_true rfl ?_
     refine aR [] [4] [] [Bv false] [] [] hB trivial ?_
     refine aw_ret ?_
     refine ae_ret_then ?_
     refine ae_ret hB (Bv false) (by kernel_rfl) (.inl (by first | (cases a; cases b; simp_all [same]; done) | (cases a; cases b; simp_all [same]; omega))) rfl (fun _ => trivial)
    refine aw_r [(4, .call [(true, .any), (true, .any)] true (Bv false))] [2, 3, 21] [2, 3] [.ref 2 0, .ref 3 0, Bv true] [some (bxTrained a), some (bxTrained b)] [Con Try.prog 65 [slFeat false a.Feats, slFeat false b.Feats] true (Bv false) ∧ True] hB ⟨⟨(con_bool h3 (eqFeatS_ok a.Feats b.Feats)), trivial⟩, trivial⟩ ?_
    refine ae_then ?_
    refine aw_true rfl ?_
    refine aR [] [4] [] [Bv false] [] [] hB trivial ?_
    refine aw_ret ?_
    refine ae_ret_then ?_
    refine ae_ret hB (Bv false) (by kernel_rfl) (.inl (by first | (cases a; cases b; simp_all [same]; done) | (cases a; cases b; simp_all [same]; omega))) rfl (fun _ => trivial)
   refine aw_r [(4, .call [(true, .any), (true, .any)] true (Bv false))] [2, 3, 15] [2, 3] [.ref 2 0, .ref 3 0, Bv true] [some (bxTrained a), some (bxTrained b)] [Con Try.prog 65 [slFeat false a.Base, slFeat false b.Base] true (Bv false) ∧ True] hB ⟨⟨(con_bool h2 (eqFeatS_ok a.Base b.Base)), trivial⟩, trivial⟩ ?_
   refine ae_then ?_
   refine aw_true rfl ?_
   refine aR [] [4] [] [Bv false] [] [] hB trivial ?_
   refine aw_ret ?_
   refine ae_ret_then ?_
   refine ae_ret hB (Bv false) (by kernel_rfl) (.inl (by first | (cases a; cases b; simp_all [same]; done) | (cases a; cases b; simp_all [same]; omega))) rfl (fun _ => trivial)
  refine aw_r [(4, .dec true)] [2, 3, 9] [2, 3] [.ref 2 0, .ref 3 0, Bv true] [some (bxTrained a), some (bxTrained b)] [a.Label ≠ b.Label] hB ⟨h1, trivial⟩ ?_
  refine ae_then ?_
  refine aw_true rfl ?_
  refine aR [] [4] [] [Bv false] [] [] hB trivial ?_
  refine aw_ret ?_
  refine ae_ret_then ?_
  refine ae_ret hB (Bv false) (by kernel_rfl) (.inl (by first | (cases a; cases b; simp_all [same]; done) | (cases a; cases b; simp_all [same]; omega))) rfl (fun _ => trivial)


-- laws.eqTrainedS
theorem eqTrainedS_ok (a : List Trained) (b : List Trained) : Con Try.prog 25 [slTrained false a, slTrained false b] true (Bv (same a b)) := by
  refine fn_ok (fn := Try.f25) (nt := 27) Try.func25 rfl rfl rfl rfl (by simp [taggedL, tagged, tagTrained]) fun B hB => ?_
  refine aw_lens (x := slTrained false a) 0 rfl (fun len_a => ?_)
  simp [LenOK, LenL, cFeat, cTrained, fFeat, fTrained, slFeat, slTrained] at len_a
  refine aw_lens (x := slTrained false b) 1 rfl (fun len_b => ?_)
  simp [LenOK, LenL, cFeat, cTrained, fFeat, fTrained, slFeat, slTrained] at len_b
  refine aR [] [0, 1] [] [slTrained false a, slTrained false b] [] [] hB trivial ?_
  refine aw_seq ?_
  refine aw_seq ?_
  by_cases h1 : (a.length : Int) = (b.length : Int)
  ·refine aw_r [(4, .dec false)] [0, 1, 10] [] [slTrained false a, slTrained false b, Bv false] [] [¬ ((a.length : Int) ≠ (b.length : Int))] hB ⟨(fun hq => hq h1), trivial⟩ ?_
   refine ae_then ?_
   refine aw_false rfl ?_
   refine aw_skip ?_
   refine ae_then ?_
   refine aw_seq ?_
   refine aR [] [0, 1, 5] [] [slTrained false a, slTrained false b, I 0] [] [] hB trivial ?_
   refine aw_block ?_
   refine aw_loop (fun gn gσ => ∃ (i : Int), gn = ((a.length : Int) - i).toNat ∧ (0 ≤ i ∧ i ≤ (a.length : Int)) ∧ (∀ j : Nat, (j : Int) < i → at_ a j = at_ b j) ∧ gσ = mkS [(0, slTrained false a), (1, slTrained false b), (5, I i)] []) (((a.length : Int) - 0).toNat) ⟨0, rfl, (by omega), (by intro j hj; omega), rfl⟩ (fun gn gσ hI => ?_)
   obtain ⟨i, rfl, hi0, he0, rfl⟩ := hI
   refine aw_seq ?_
   refine aw_seq ?_
   by_cases h2 : i < (a.length : Int)
   ·have hi : i.toNat < a.length := by omega
    have hib : i.toNat < b.length := by omega
    refine aw_r [(3, .dec true)] [0, 1, 5, 14] [] [slTrained false a, slTrained false b, I i, Bv true] [] [i < (a.length : Int)] hB ⟨h2, trivial⟩ ?_
    refine ae_then ?_
    refine aw_true rfl ?_
    refine aw_skip ?_
    refine ae_then ?_
    refine aw_seq ?_
    refine aw_block ?_
    refine aw_seq ?_
    rcases Bool.eq_false_or_eq_true (same (at_ a i.toNat) (at_ b i.toNat)) with h3 | h3
    ·have HEQ := h3
     refine aw_r [(8, .call [(true, .any), (true, .any)] true (Bv true))] [0, 1, 5, 26] [] [slTrained false a, slTrained false b, I i, Bv false] [] [(0 : Int) ≤ i ∧ i < (a.length : Int), (0 : Int) ≤ i ∧ i < (b.length : Int), Con Try.prog 46 [agTrained (at_ a i.toNat), agTrained (at_ b i.toNat)] true (Bv true) ∧ True] hB ⟨⟨(by omega), (by omega)⟩, ⟨(by omega), (by omega)⟩, ⟨(con_bool h3 (eqTrained_ok (at_ a i.toNat) (at_ b i.toNat))), trivial⟩, trivial⟩ ?_
     refine ae_then ?_
     refine aw_false rfl ?_
     refine aw_skip ?_
     refine ae_block 1 ?_
     refine ae_then ?_
     refine aw_r [] [0, 1, 5] [] [slTrained false a, slTrained false b, I (i + 1)] [] [inR .i64 (i + 1)] hB ⟨(inR_i64 (by omega) (by omega)), trivial⟩ ?_
     exact ae_again _ (by omega) ⟨(i + 1), rfl, (by omega), (by intro j hj; by_cases ej : j = i.toNat; (subst ej; simpa [same] using HEQ); exact he0 j (by omega)), rfl⟩
    refine aw_r [(8, .call [(true, .any), (true, .any)] true (Bv false))] [0, 1, 5, 26] [] [slTrained false a, slTrained false b, I i, Bv true] [] [(0 : Int) ≤ i ∧ i < (a.length : Int), (0 : Int) ≤ i ∧ i < (b.length : Int), Con Try.prog 46 [agTrained (at_ a i.toNat), agTrained (at_ b i.toNat)] true (Bv false) ∧ True] hB ⟨⟨(by omega), (by omega)⟩, ⟨(by omega), (by omega)⟩, ⟨(con_bool h3 (eqTrained_ok (at_ a i.toNat) (at_ b i.toNat))), trivial⟩, trivial⟩ ?_
    refine ae_then ?_
    refine aw_true rfl ?_
    refine aR [] [4] [] [Bv false] [] [] hB trivial ?_
    refine aw_ret ?_
    refine ae_ret_block (ae_ret_then (ae_ret_then (ae_ret_block (ae_ret_then ?_))))
    refine ae_ret hB (Bv false) (by kernel_rfl) (.inl (by first | (refine congrArg Bv (Eq.symm (decide_eq_false ?_)); intro e; subst e; simp_all [same]; done) | (exact congrArg Bv (Eq.symm (decide_eq_true hfin))))) rfl (fun _ => trivial)
   have hfin : a = b := ext_at (by omega) (fun j hj => he0 j (by omega))
   refine aw_r [(3, .dec false)] [0, 1, 5, 14] [] [slTrained false a, slTrained false b, I i, Bv false] [] [¬ (i < (a.length : Int))] hB ⟨h2, trivial⟩ ?_
   refine ae_then ?_
   refine aw_false rfl ?_
   refine aw_exit ?_
   refine ae_exit_then ?_
   refine ae_exit_then ?_
   refine ae_exit_same ?_
   refine ae_then ?_
   refine aR [] [4] [] [Bv true] [] [] hB trivial ?_
   refine aw_ret ?_
   refine ae_ret hB (Bv true) (by kernel_rfl) (.inl (by first | (refine congrArg Bv (Eq.symm (decide_eq_false ?_)); intro e; subst e; simp_all [same]; done) | (exact congrArg Bv (Eq.symm (decide_eq_true hfin))))) rfl (fun _ => trivial)
  refine aw_r [(4, .dec true)] [0, 1, 10] [] [slTrained false a, slTrained false b, Bv true] [] [(a.length : Int) ≠ (b.length : Int)] hB ⟨h1, trivial⟩ ?_
  refine ae_then ?_
  refine aw_true rfl ?_
  refine aR [] [4] [] [Bv false] [] [] hB trivial ?_
  refine aw_ret ?_
  refine ae_ret_then ?_
  refine ae_ret hB (Bv false) (by kernel_rfl) (.inl (by first | (refine congrArg Bv (Eq.symm (decide_eq_false ?_)); intro e; subst e; simp_all [same]; done) | (exact congrArg Bv (Eq.symm (decide_eq_true hfin))))) rfl (fun _ => trivial)


-- laws.eqWriter
theorem eqWriter_ok (a : Writer) (b : Writer) : Con Try.prog 9 [agWriter a, agWriter b] true (Bv (same a b)) := by
  refine fn_ok (fn := Try.f9) (nt := 16) Try.func9 rfl rfl rfl rfl (by simp [taggedL, tagged, tagTrained]) fun B hB => ?_
  refine aw_lens (x := agWriter a) 0 rfl (fun len_a => ?_)
  simp [LenOK, LenL, cFeat, cTrained, fFeat, fTrained, slFeat, slTrained] at len_a
  refine aw_lens (x := agWriter b) 1 rfl (fun len_b => ?_)
  simp [LenOK, LenL, cFeat, cTrained, fFeat, fTrained, slFeat, slTrained] at len_b
  refine aR [(0, .new 2), (1, .new 3)] [2, 3] [2, 3] [.ref 2 0, .ref 3 0] [some (bxWriter a), some (bxWriter b)] [] hB trivial ?_
  refine aw_seq ?_
  refine aw_seq ?_
  by_cases h1 : a.Band = b.Band
  ·refine aw_r [(4, .dec false)] [2, 3, 9] [2, 3] [.ref 2 0, .ref 3 0, Bv false] [some (bxWriter a), some (bxWriter b)] [¬ (a.Band ≠ b.Band)] hB ⟨(fun hq => hq h1), trivial⟩ ?_
   refine ae_then ?_
   refine aw_false rfl ?_
   refine aw_skip ?_
   refine ae_then ?_
   refine aw_seq ?_
   refine aw_seq ?_
   rcases Bool.eq_false_or_eq_true (same a.Trained b.Trained) with h2 | h2
   ·refine aw_r [(4, .call [(true, .any), (true, .any)] true (Bv true))] [15] [] [Bv false] [] [Con Try.prog 25 [slTrained false a.Trained, slTrained false b.Trained] true (Bv true) ∧ True] hB ⟨⟨(con_bool h2 (eqTrainedS_ok a.Trained b.Trained)), trivial⟩, trivial⟩ ?_
    refine ae_then ?_
    refine aw_false rfl ?_
    refine aw_skip ?_
    refine ae_then ?_
    refine aR [] [4] [] [Bv true] [] [] hB trivial ?_
    refine aw_ret ?_
    refine ae_ret hB (Bv true) (by kernel_rfl) (.inl (by first | (cases a; cases b; simp_all [same]; done) | (cases a; cases b; simp_all [same]; omega))) rfl (fun _ => trivial)
   refine aw_r [(4, .call [(true, .any), (true, .any)] true (Bv false))] [15] [] [Bv true] [] [Con Try.prog 25 [slTrained false a.Trained, slTrained false b.Trained] true (Bv false) ∧ True] hB ⟨⟨(con_bool h2 (eqTrainedS_ok a.Trained b.Trained)), trivial⟩, trivial⟩ ?_
   refine ae_then ?_
   refine aw_true rfl ?_
   refine aR [] [4] [] [Bv false] [] [] hB trivial ?_
   refine aw_ret ?_
   refine ae_ret_then ?_
   refine ae_ret hB (Bv false) (by kernel_rfl) (.inl (by first | (cases a; cases b; simp_all [same]; done) | (cases a; cases b; simp_all [same]; omega))) rfl (fun _ => trivial)
  refine aw_r [(4, .dec true)] [2, 3, 9] [2, 3] [.ref 2 0, .ref 3 0, Bv true] [some (bxWriter a), some (bxWriter b)] [a.Band ≠ b.Band] hB ⟨h1, trivial⟩ ?_
  refine ae_then ?_
  refine aw_true rfl ?_
  refine aR [] [4] [] [Bv false] [] [] hB trivial ?_
  refine aw_ret ?_
  refine ae_ret_then ?_
  refine ae_ret hB (Bv false) (by kernel_rfl) (.inl (by first | (cases a; cases b; simp_all [same]; done) | (cases a; cases b; simp_all [same]; omega))) rfl (fun _ => trivial)


-- laws.eqTemplate
theorem eqTemplate_ok (a : Template) (b : Template) : Con Try.prog 47 [agTemplate a, agTemplate b] true (Bv (same a b)) := by
  refine fn_ok (fn := Try.f47) (nt := 16) Try.func47 rfl rfl rfl rfl (by simp [taggedL, tagged, tagFeat]) fun B hB => ?_
  refine aw_lens (x := agTemplate a) 0 rfl (fun len_a => ?_)
  simp [LenOK, LenL, cFeat, fFeat, slFeat] at len_a
  refine aw_lens (x := agTemplate b) 1 rfl (fun len_b => ?_)
  simp [LenOK, LenL, cFeat, fFeat, slFeat] at len_b
  refine aR [(0, .new 2), (1, .new 3)] [2, 3] [2, 3] [.ref 2 0, .ref 3 0] [some (bxTemplate a), some (bxTemplate b)] [] hB trivial ?_
  refine aw_seq ?_
  refine aw_seq ?_
  by_cases h1 : a.Label = b.Label
  ·refine aw_r [(4, .dec false)] [2, 3, 9] [2, 3] [.ref 2 0, .ref 3 0, Bv false] [some (bxTemplate a), some (bxTemplate b)] [¬ (a.Label ≠ b.Label)] hB ⟨(fun hq => hq h1), trivial⟩ ?_
   refine ae_then ?_
   refine aw_false rfl ?_
   refine aw_skip ?_
   refine ae_then ?_
   refine aw_seq ?_
   refine aw_seq ?_
   rcases Bool.eq_false_or_eq_true (same a.Feats b.Feats) with h2 | h2
   ·refine aw_r [(4, .call [(true, .any), (true, .any)] true (Bv true))] [15] [] [Bv false] [] [Con Try.prog 65 [slFeat false a.Feats, slFeat false b.Feats] true (Bv true) ∧ True] hB ⟨⟨(con_bool h2 (eqFeatS_ok a.Feats b.Feats)), trivial⟩, trivial⟩ ?_
    refine ae_then ?_
    refine aw_false rfl ?_
    refine aw_skip ?_
    refine ae_then ?_
    refine aR [] [4] [] [Bv true] [] [] hB trivial ?_
    refine aw_ret ?_
    refine ae_ret hB (Bv true) (by kernel_rfl) (.inl (by first | (cases a; cases b; simp_all [same]; done) | (cases a; cases b; simp_all [same]; omega))) rfl (fun _ => trivial)
   refine aw_r [(4, .call [(true, .any), (true, .any)] true (Bv false))] [15] [] [Bv true] [] [Con Try.prog 65 [slFeat false a.Feats, slFeat false b.Feats] true (Bv false) ∧ True] hB ⟨⟨(con_bool h2 (eqFeatS_ok a.Feats b.Feats)), trivial⟩, trivial⟩ ?_
   refine ae_then ?_
   refine aw_true rfl ?_
   refine aR [] [4] [] [Bv false] [] [] hB trivial ?_
   refine aw_ret ?_
   refine ae_ret_then ?_
   refine ae_ret hB (Bv false) (by kernel_rfl) (.inl (by first | (cases a; cases b; simp_all [same]; done) | (cases a; cases b; simp_all [same]; omega))) rfl (fun _ => trivial)
  refine aw_r [(4, .dec true)] [2, 3, 9] [2, 3] [.ref 2 0, .ref 3 0, Bv true] [some (bxTemplate a), some (bxTemplate b)] [a.Label ≠ b.Label] hB ⟨h1, trivial⟩ ?_
  refine ae_then ?_
  refine aw_true rfl ?_
  refine aR [] [4] [] [Bv false] [] [] hB trivial ?_
  refine aw_ret ?_
  refine ae_ret_then ?_
  refine ae_ret hB (Bv false) (by kernel_rfl) (.inl (by first | (cases a; cases b; simp_all [same]; done) | (cases a; cases b; simp_all [same]; omega))) rfl (fun _ => trivial)


-- laws.eqTemplateS
theorem eqTemplateS_ok (a : List Template) (b : List Template) : Con Try.prog 26 [slTemplate false a, slTemplate false b] true (Bv (same a b)) := by
  refine fn_ok (fn := Try.f26) (nt := 27) Try.func26 rfl rfl rfl rfl (by simp [taggedL, tagged, tagTemplate]) fun B hB => ?_
  refine aw_lens (x := slTemplate false a) 0 rfl (fun len_a => ?_)
  simp [LenOK, LenL, cFeat, cTemplate, fFeat, fTemplate, slFeat, slTemplate] at len_a
  refine aw_lens (x := slTemplate false b) 1 rfl (fun len_b => ?_)
  simp [LenOK, LenL, cFeat, cTemplate, fFeat, fTemplate, slFeat, slTemplate] at len_b
  refine aR [] [0, 1] [] [slTemplate false a, slTemplate false b] [] [] hB trivial ?_
  refine aw_seq ?_
  refine aw_seq ?_
  by_cases h1 : (a.length : Int) = (b.length : Int)
  ·refine aw_r [(4, .dec false)] [0, 1, 10] [] [slTemplate false a, slTemplate false b, Bv false] [] [¬ ((a.length : Int) ≠ (b.length : Int))] hB ⟨(fun hq => hq h1), trivial⟩ ?_
   refine ae_then ?_
   refine aw_false rfl ?_
   refine aw_skip ?_
   refine ae_then ?_
   refine aw_seq ?_
   refine aR [] [0, 1, 5] [] [slTemplate false a, slTemplate false b, I 0] [] [] hB trivial ?_
   refine aw_block ?_
   refine aw_loop (fun gn gσ => ∃ (i : Int), gn = ((a.length : Int) - i).toNat ∧ (0 ≤ i ∧ i ≤ (a.length : Int)) ∧ (∀ j : Nat, (j : Int) < i → at_ a j = at_ b j) ∧ gσ = mkS [(0, slTemplate false a), (1, slTemplate false b), (5, I i)] []) (((a.length : Int) - 0).toNat) ⟨0, rfl, (by omega), (by intro j hj; omega), rfl⟩ (fun gn gσ hI => ?_)
   obtain ⟨i, rfl, hi0, he0, rfl⟩ := hI
   refine aw_seq ?_
   refine aw_seq ?_
   by_cases h2 : i < (a.length : Int)
   ·have hi : i.toNat < a.length := by omega
    have hib : i.toNat < b.length := by omega
    refine aw_r [(3, .dec true)] [0, 1, 5, 14] [] [slTemplate false a, slTemplate false b, I i, Bv true] [] [i < (a.length : Int)] hB ⟨h2, trivial⟩ ?_
    refine ae_then ?_
    refine aw_true rfl ?_
    refine aw_skip ?_
    refine ae_then ?_
    refine aw_seq ?_
    refine aw_block ?_
    refine aw_seq ?_
    rcases Bool.eq_false_or_eq_true (same (at_ a i.toNat) (at_ b i.toNat)) with h3 | h3
    ·have HEQ := h3
     refine aw_r [(8, .call [(true, .any), (true, .any)] true (Bv true))] [0, 1, 5, 26] [] [slTemplate false a, slTemplate false b, I i, Bv false] [] [(0 : Int) ≤ i ∧ i < (a.length : Int), (0 : Int) ≤ i ∧ i < (b.length : Int), Con Try.prog 47 [agTemplate (at_ a i.toNat), agTemplate (at_ b i.toNat)] true (Bv true) ∧ True] hB ⟨⟨(by omega), (by omega)⟩, ⟨(by omega), (by omega)⟩, ⟨(con_bool h3 (eqTemplate_ok (at_ a i.toNat) (at_ b i.toNat))), trivial⟩, trivial⟩ ?_
     refine ae_then ?_
     refine aw_false rfl ?_
     refine aw_skip ?_
     refine ae_block 1 ?_
     refine ae_then ?_
     refine aw_r [] [0, 1, 5] [] [slTemplate false a, slTemplate false b, I (i + 1)] [] [inR .i64 (i + 1)] hB ⟨(inR_i64 (by omega) (by omega)), trivial⟩ ?_
     exact ae_again _ (by omega) ⟨(i + 1), rfl, (by omega), (by intro j hj; by_cases ej : j = i.toNat; (subst ej; simpa [same] using HEQ); exact he0 j (by omega)), rfl⟩
    refine aw_r [(8, .call [(true, .any), (true, .any)] true (Bv false))] [0, 1, 5, 26] [] [slTemplate false a, slTemplate false b, I i, Bv true] [] [(0 : Int) ≤ i ∧ i < (a.length : Int), (0 : Int) ≤ i ∧ i < (b.length : Int), Con Try.prog 47 [agTemplate (at_ a i.toNat), agTemplate (at_ b i.toNat)] true (Bv false) ∧ True] hB ⟨⟨(by omega), (by omega)⟩, ⟨(by omega), (by omega)⟩, ⟨(con_bool h3 (eqTemplate_ok (at_ a i.toNat) (at_ b i.toNat))), trivial⟩, trivial⟩ ?_
    refine ae_then ?_
    refine aw_true rfl ?_
    refine aR [] [4] [] [Bv false] [] [] hB trivial ?_
    refine aw_ret ?_
    refine ae_ret_block (ae_ret_then (ae_ret_then (ae_ret_block (ae_ret_then ?_))))
    refine ae_ret hB (Bv false) (by kernel_rfl) (.inl (by first | (refine congrArg Bv (Eq.symm (decide_eq_false ?_)); intro e; subst e; simp_all [same]; done) | (exact congrArg Bv (Eq.symm (decide_eq_true hfin))))) rfl (fun _ => trivial)
   have hfin : a = b := ext_at (by omega) (fun j hj => he0 j (by omega))
   refine aw_r [(3, .dec false)] [0, 1, 5, 14] [] [slTemplate false a, slTemplate false b, I i, Bv false] [] [¬ (i < (a.length : Int))] hB ⟨h2, trivial⟩ ?_
   refine ae_then ?_
   refine aw_false rfl ?_
   refine aw_exit ?_
   refine ae_exit_then ?_
   refine ae_exit_then ?_
   refine ae_exit_same ?_
   refine ae_then ?_
   refine aR [] [4] [] [Bv true] [] [] hB trivial ?_
   refine aw_ret ?_
   refine ae_ret hB (Bv true) (by kernel_rfl) (.inl (by first | (refine congrArg Bv (Eq.symm (decide_eq_false ?_)); intro e; subst e; simp_all [same]; done) | (exact congrArg Bv (Eq.symm (decide_eq_true hfin))))) rfl (fun _ => trivial)
  refine aw_r [(4, .dec true)] [0, 1, 10] [] [slTemplate false a, slTemplate false b, Bv true] [] [(a.length : Int) ≠ (b.length : Int)] hB ⟨h1, trivial⟩ ?_
  refine ae_then ?_
  refine aw_true rfl ?_
  refine aR [] [4] [] [Bv false] [] [] hB trivial ?_
  refine aw_ret ?_
  refine ae_ret_then ?_
  refine ae_ret hB (Bv false) (by kernel_rfl) (.inl (by first | (refine congrArg Bv (Eq.symm (decide_eq_false ?_)); intro e; subst e; simp_all [same]; done) | (exact congrArg Bv (Eq.symm (decide_eq_true hfin))))) rfl (fun _ => trivial)


-- laws.eqStore
theorem eqStore_ok (a : Store) (b : Store) : Con Try.prog 10 [agStore a, agStore b] true (Bv (same a b)) := by
  refine fn_ok (fn := Try.f10) (nt := 16) Try.func10 rfl rfl rfl rfl (by simp [taggedL, tagged, tagTemplate]) fun B hB => ?_
  refine aw_lens (x := agStore a) 0 rfl (fun len_a => ?_)
  simp [LenOK, LenL, cFeat, cTemplate, fFeat, fTemplate, slFeat, slTemplate] at len_a
  refine aw_lens (x := agStore b) 1 rfl (fun len_b => ?_)
  simp [LenOK, LenL, cFeat, cTemplate, fFeat, fTemplate, slFeat, slTemplate] at len_b
  refine aR [(0, .new 2), (1, .new 3)] [2, 3] [2, 3] [.ref 2 0, .ref 3 0] [some (bxStore a), some (bxStore b)] [] hB trivial ?_
  refine aw_seq ?_
  refine aw_seq ?_
  by_cases h1 : a.Band = b.Band
  ·refine aw_r [(4, .dec false)] [2, 3, 9] [2, 3] [.ref 2 0, .ref 3 0, Bv false] [some (bxStore a), some (bxStore b)] [¬ (a.Band ≠ b.Band)] hB ⟨(fun hq => hq h1), trivial⟩ ?_
   refine ae_then ?_
   refine aw_false rfl ?_
   refine aw_skip ?_
   refine ae_then ?_
   refine aw_seq ?_
   refine aw_seq ?_
   rcases Bool.eq_false_or_eq_true (same a.Templates b.Templates) with h2 | h2
   ·refine aw_r [(4, .call [(true, .any), (true, .any)] true (Bv true))] [15] [] [Bv false] [] [Con Try.prog 26 [slTemplate false a.Templates, slTemplate false b.Templates] true (Bv true) ∧ True] hB ⟨⟨(con_bool h2 (eqTemplateS_ok a.Templates b.Templates)), trivial⟩, trivial⟩ ?_
    refine ae_then ?_
    refine aw_false rfl ?_
    refine aw_skip ?_
    refine ae_then ?_
    refine aR [] [4] [] [Bv true] [] [] hB trivial ?_
    refine aw_ret ?_
    refine ae_ret hB (Bv true) (by kernel_rfl) (.inl (by first | (cases a; cases b; simp_all [same]; done) | (cases a; cases b; simp_all [same]; omega))) rfl (fun _ => trivial)
   refine aw_r [(4, .call [(true, .any), (true, .any)] true (Bv false))] [15] [] [Bv true] [] [Con Try.prog 26 [slTemplate false a.Templates, slTemplate false b.Templates] true (Bv false) ∧ True] hB ⟨⟨(con_bool h2 (eqTemplateS_ok a.Templates b.Templates)), trivial⟩, trivial⟩ ?_
   refine ae_then ?_
   refine aw_true rfl ?_
   refine aR [] [4] [] [Bv false] [] [] hB trivial ?_
   refine aw_ret ?_
   refine ae_ret_then ?_
   refine ae_ret hB (Bv false) (by kernel_rfl) (.inl (by first | (cases a; cases b; simp_all [same]; done) | (cases a; cases b; simp_all [same]; omega))) rfl (fun _ => trivial)
  refine aw_r [(4, .dec true)] [2, 3, 9] [2, 3] [.ref 2 0, .ref 3 0, Bv true] [some (bxStore a), some (bxStore b)] [a.Band ≠ b.Band] hB ⟨h1, trivial⟩ ?_
  refine ae_then ?_
  refine aw_true rfl ?_
  refine aR [] [4] [] [Bv false] [] [] hB trivial ?_
  refine aw_ret ?_
  refine ae_ret_then ?_
  refine ae_ret hB (Bv false) (by kernel_rfl) (.inl (by first | (cases a; cases b; simp_all [same]; done) | (cases a; cases b; simp_all [same]; omega))) rfl (fun _ => trivial)


theorem cat_one {α : Type} [Inhabited α] {enc : α → List AV} {x : α} {xs : List α} {g : Nat → List AV} (hx : g 0 = enc x) (i : Nat) (hi : i < ([x] ++ xs).length) : catF 1 g (fun i => enc (at_ xs i)) i = enc (at_ ([x] ++ xs) i) := by
  cases i with
  | zero => rw [catF_lt (by decide), hx]; rfl
  | succ i => rw [catF_ge (by omega), at_right (by simp)]; simp

/-- The string with these bytes. -/
def strB (xs : List Int) : ByteArray := ⟨(xs.map fun n => UInt8.ofNat n.toNat).toArray⟩
theorem strB_size (xs : List Int) : (strB xs).size = xs.length := by simp [strB, ByteArray.size]
theorem strB_at {xs : List Int} {i : Nat} (h : i < xs.length) (hb : 0 ≤ at_ xs i ∧ at_ xs i ≤ 255) : bAt (strB xs) i = at_ xs i := by
  have e : (strB xs).data.toList[i]? = some (UInt8.ofNat (at_ xs i).toNat) := by simp [strB, at_, List.getElem?_eq_getElem h]
  rw [bAt, List.getD_eq_getElem?_getD, e]
  simp
  omega
theorem strB_ok' {xs : List Int} (h : ∀ x ∈ xs, 0 ≤ x ∧ x ≤ 255) {n : Nat} {f : Nat → List AV} (hn : n = xs.length) (hf : ∀ i, i < xs.length → f i = fU8 xs i ∨ False) : (strB xs).size = n ∧ ∀ i, i < n → f i = byteF (strB xs) i := by
  subst hn
  refine ⟨strB_size xs, fun i hi => ?_⟩
  rw [(hf i hi).resolve_right id]
  unfold byteF
  rw [strB_at hi (h _ (at_mem hi))]
  rfl
theorem strB_ok {xs : List Int} (h : ∀ x ∈ xs, 0 ≤ x ∧ x ≤ 255) : (strB xs).size = xs.length ∧ ∀ i, i < xs.length → fU8 xs i = byteF (strB xs) i := strB_ok' h rfl fun i _ => .inl rfl
/-- A string's bytes. -/
def bytesL (s : ByteArray) : List Int := s.data.toList.map fun b => (b.toNat : Int)
theorem bytesL_len (s : ByteArray) : (bytesL s).length = s.size := by unfold bytesL; rw [List.length_map, Array.length_toList]; rfl
theorem bytesL_at {s : ByteArray} (i : Nat) (h : i < (bytesL s).length) : byteF s i = fU8 (bytesL s) i := by
  unfold byteF fU8 cU8
  have h' : i < s.data.toList.length := by simpa [bytesL] using h
  congr 3
  simp only [bAt, at_, bytesL, List.getD_eq_getElem?_getD, List.getElem?_map, List.getElem?_eq_getElem h', Option.map_some, Option.getD_some]

/-- The text that marks a place. -/
def mkD : Nat → Int → ByteArray → ByteArray
  | 0, _, out => out
  | n + 1, k, out => if 0 < k then mkD n (k / 10) (strB [48 + k % 10] ++ out) else out
theorem mkD_neg (n : Nat) {k : Int} (h : ¬ 0 < k) (out : ByteArray) : mkD n k out = out := by cases n with | zero => rfl | succ n => exact if_neg h
theorem mkD_any : ∀ (n m : Nat) (k : Int) (out : ByteArray), k.toNat ≤ n → k.toNat ≤ m → mkD n k out = mkD m k out
  | 0, m, k, out, h1, h2 => (mkD_neg 0 (by omega) _).trans (mkD_neg m (by omega) _).symm
  | n + 1, 0, k, out, h1, h2 => (mkD_neg (n + 1) (by omega) _).trans (mkD_neg 0 (by omega) _).symm
  | n + 1, m + 1, k, out, h1, h2 => by
    by_cases h : 0 < k
    · simp only [mkD, if_pos h]; exact mkD_any n m _ _ (by omega) (by omega)
    · rw [mkD_neg _ h, mkD_neg _ h]
theorem mkD_step {k : Int} (h : 0 < k) (out : ByteArray) : mkD k.toNat k out = mkD (k / 10).toNat (k / 10) (strB [48 + k % 10] ++ out) := by
  obtain ⟨n, hn⟩ : ∃ n, k.toNat = n + 1 := ⟨k.toNat - 1, by omega⟩
  rw [hn, mkD, if_pos h]
  exact mkD_any _ _ _ _ (by omega) (Nat.le_refl _)
def mkTx (k : Int) : ByteArray := if k ≤ 0 then ⟨#[109, 48]⟩ else ⟨#[109]⟩ ++ mkD k.toNat k ⟨#[]⟩
theorem mkTx_nn {k : Int} (h : k ≤ 0) : mkTx k = ⟨#[109, 48]⟩ := if_pos h
theorem mkTx_ps {k : Int} (h : ¬ k ≤ 0) : mkTx k = ⟨#[109]⟩ ++ mkD k.toNat k ⟨#[]⟩ := if_neg h

-- laws.markText
theorem markText_ok (k : Int) (hk : 0 ≤ k ∧ k ≤ 1000000000) : Con Try.prog 48 [I k] true (Sv (mkTx k)) := by
  refine fn_ok (fn := Try.f48) (nt := 20) Try.func48 rfl rfl rfl rfl (by simp [taggedL, tagged]) fun B hB => ?_
  refine aR [] [0] [] [I k] [] [] hB trivial ?_
  refine aw_seq ?_
  refine aw_seq ?_
  by_cases h1 : k ≤ 0
  ·have e0 := mkTx_nn h1
   refine aw_r [(1, .dec true)] [0, 5] [] [I k, Bv true] [] [k ≤ 0] hB ⟨h1, trivial⟩ ?_
   refine ae_then ?_
   refine aw_true rfl ?_
   refine aR [] [2] [] [Sv (⟨#[109, 48]⟩ : ByteArray)] [] [] hB trivial ?_
   refine aw_ret ?_
   refine ae_ret_then ?_
   refine ae_ret hB (Sv (⟨#[109, 48]⟩ : ByteArray)) (by kernel_rfl) (.inl (by first | (rw [e0]; done) | (rw [e0, ← hm1, mkD_neg _ (by omega)]; done) | (rw [e0, ← hm1, mkD_neg _ (by omega)]; rfl))) rfl (fun _ => trivial)
  have e0 := mkTx_ps h1
  refine aw_r [(1, .dec false)] [0, 5] [] [I k, Bv false] [] [¬ (k ≤ 0)] hB ⟨h1, trivial⟩ ?_
  refine ae_then ?_
  refine aw_false rfl ?_
  refine aw_skip ?_
  refine ae_then ?_
  refine aR [] [0, 3] [] [I k, Sv (⟨#[]⟩ : ByteArray)] [] [] hB trivial ?_
  refine aw_seq ?_
  refine aw_block ?_
  refine aw_loop (fun gn gσ => ∃ (k' : Int) (out : ByteArray), gn = k'.toNat ∧ (0 ≤ k' ∧ k' ≤ 1000000000) ∧ ((out.size : Int) + k' ≤ k) ∧ (mkD k'.toNat k' out = mkD k.toNat k ⟨#[]⟩) ∧ gσ = mkS [(0, I k'), (3, Sv out)] []) (k.toNat) ⟨k, (⟨#[]⟩ : ByteArray), rfl, (by omega), (by first | omega | (show (0 : Int) + k ≤ k; omega)), (by rfl), rfl⟩ (fun gn gσ hI => ?_)
  obtain ⟨k', out, rfl, hk1, hs1, hm1, rfl⟩ := hI
  refine aw_seq ?_
  refine aw_seq ?_
  by_cases h2 : 0 < k'
  ·refine aw_r [(1, .dec true)] [0, 3, 7] [] [I k', Sv out, Bv true] [] [0 < k'] hB ⟨h2, trivial⟩ ?_
   refine ae_then ?_
   refine aw_true rfl ?_
   refine aw_skip ?_
   refine ae_then ?_
   refine aw_block ?_
   refine aR [(1, .nn), (4, .new 12), (5, .as (Sv (strB ([(48 + (k' % 10))]))))] [0, 3] [] [I k', Sv ((strB ([(48 + (k' % 10))])) ++ out)] [] [(0 : Int) ≤ k' ∧ (0 : Int) < 10, inR .i64 (48 + (k' % 10)), inR .u8 (48 + (k' % 10)), (strB ([(48 + (k' % 10))])).size = 1 ∧ ∀ i_, i_ < 1 → (litF [.val (.int .u8 (48 + (k' % 10)))] 1) i_ = byteF (strB ([(48 + (k' % 10))])) i_, (strB ([(48 + (k' % 10))])).size + out.size ≤ 9223372036854775807] hB ⟨⟨(by first | omega | (show (1 : Nat) + out.size ≤ 9223372036854775807; omega) | (simp only [ByteArray.size_append, strB_size, List.length_singleton]; omega)), (by first | omega | (show (1 : Nat) + out.size ≤ 9223372036854775807; omega) | (simp only [ByteArray.size_append, strB_size, List.length_singleton]; omega))⟩, (inR_i64 (by first | omega | (show (1 : Nat) + out.size ≤ 9223372036854775807; omega) | (simp only [ByteArray.size_append, strB_size, List.length_singleton]; omega)) (by first | omega | (show (1 : Nat) + out.size ≤ 9223372036854775807; omega) | (simp only [ByteArray.size_append, strB_size, List.length_singleton]; omega))), (inR_u8 (by first | omega | (show (1 : Nat) + out.size ≤ 9223372036854775807; omega) | (simp only [ByteArray.size_append, strB_size, List.length_singleton]; omega)) (by first | omega | (show (1 : Nat) + out.size ≤ 9223372036854775807; omega) | (simp only [ByteArray.size_append, strB_size, List.length_singleton]; omega))), (strB_ok' (fun x hx => by simp only [List.mem_singleton] at hx; omega) (by first | rfl | (simp; done) | (simp; omega) | omega) (fun i_ hi_ => .inl (match i_, hi_ with | 0, _ => rfl | (i + 1), h => absurd h (by simp)))), (by first | omega | (show (1 : Nat) + out.size ≤ 9223372036854775807; omega) | (simp only [ByteArray.size_append, strB_size, List.length_singleton]; omega)), trivial⟩ ?_
   refine aw_r [(1, .nn)] [0, 3] [] [I (k' / 10), Sv ((strB ([(48 + (k' % 10))])) ++ out)] [] [(0 : Int) ≤ k' ∧ (0 : Int) < 10 ∧ inR .i64 k'] hB ⟨⟨(by first | omega | (show (1 : Nat) + out.size ≤ 9223372036854775807; omega) | (simp only [ByteArray.size_append, strB_size, List.length_singleton]; omega)), (by first | omega | (show (1 : Nat) + out.size ≤ 9223372036854775807; omega) | (simp only [ByteArray.size_append, strB_size, List.length_singleton]; omega)), (inR_i64 (by first | omega | (show (1 : Nat) + out.size ≤ 9223372036854775807; omega) | (simp only [ByteArray.size_append, strB_size, List.length_singleton]; omega)) (by first | omega | (show (1 : Nat) + out.size ≤ 9223372036854775807; omega) | (simp only [ByteArray.size_append, strB_size, List.length_singleton]; omega)))⟩, trivial⟩ ?_
   refine ae_block 1 ?_
   exact ae_again _ (by omega) ⟨(k' / 10), ((strB ([(48 + (k' % 10))])) ++ out), rfl, (by omega), (by rw [ByteArray.size_append, strB_size]; simp; omega), (by rw [← hm1]; exact (mkD_step (by omega) out).symm), rfl⟩
  refine aw_r [(1, .dec false)] [0, 3, 7] [] [I k', Sv out, Bv false] [] [¬ (0 < k')] hB ⟨h2, trivial⟩ ?_
  refine ae_then ?_
  refine aw_false rfl ?_
  refine aw_exit ?_
  refine ae_exit_then ?_
  refine ae_exit_then ?_
  refine ae_exit_same ?_
  refine ae_then ?_
  refine aR [] [2] [] [Sv ((⟨#[109]⟩ : ByteArray) ++ out)] [] [(⟨#[109]⟩ : ByteArray).size + out.size ≤ 9223372036854775807] hB ⟨(by first | omega | (show (1 : Nat) + out.size ≤ 9223372036854775807; omega) | (simp only [ByteArray.size_append, strB_size, List.length_singleton]; omega)), trivial⟩ ?_
  refine aw_ret ?_
  refine ae_ret hB (Sv ((⟨#[109]⟩ : ByteArray) ++ out)) (by kernel_rfl) (.inl (by first | (rw [e0]; done) | (rw [e0, ← hm1, mkD_neg _ (by omega)]; done) | (rw [e0, ← hm1, mkD_neg _ (by omega)]; rfl))) rfl (fun _ => trivial)

end Go.Proofs.Ytjiflhglbephbaa.Ax
