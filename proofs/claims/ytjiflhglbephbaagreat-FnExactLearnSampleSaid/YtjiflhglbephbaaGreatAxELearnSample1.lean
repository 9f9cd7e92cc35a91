/- Contracts that the statement FnExactLearnSample reaches, part 1. No conditions. -/
import Derived.Test.YtjiflhglbephbaaGreatAxO
import Derived.Test.YtjiflhglbephbaaGreatShelf
import Derived.Test.YtjiflhglbephbaaGreatAxR
import Derived.Test.YtjiflhglbephbaaGreatAxS
import Derived.Test.YtjiflhglbephbaaGreatAxY
import Derived.Test.YtjiflhglbephbaaGreatSortShelf
namespace Go.Proofs.YtjiflhglbephbaaGreat.Ax
open Go.RowKit Go.ChangeShapes Go.WideShapes
set_option linter.unusedVariables false
set_option linter.unusedSimpArgs false


def cI (x : Int) : List AV := [I x]
def fI (xs : List Int) (i : Nat) : List AV := cI (at_ xs i)
def slI (fr : Bool) (xs : List Int) : AV := .sl fr 1 xs.length (fI xs)
theorem tagcI (t : Bool) (x : Int) : taggedL t (cI x) := by simp [cI, taggedL, tagged]
theorem tagI (t : Bool) (xs : List Int) : tagged t (slI t xs) := by simp only [slI, tagged]; exact ⟨trivial, fun i _ => tagcI t _⟩
theorem lenI (fr : Bool) (xs : List Int) : lenA noOb (slI fr xs) = some xs.length := rfl
abbrev tAI (xs : List Int) : Ob := .arr 1 xs.length (fI xs)
def cS (x : ByteArray) : List AV := [Sv x]
def fS (xs : List ByteArray) (i : Nat) : List AV := cS (at_ xs i)
def slS (fr : Bool) (xs : List ByteArray) : AV := .sl fr 1 xs.length (fS xs)
theorem tagcS (t : Bool) (x : ByteArray) : taggedL t (cS x) := by simp [cS, taggedL, tagged]
theorem tagS (t : Bool) (xs : List ByteArray) : tagged t (slS t xs) := by simp only [slS, tagged]; exact ⟨trivial, fun i _ => tagcS t _⟩
theorem lenS (fr : Bool) (xs : List ByteArray) : lenA noOb (slS fr xs) = some xs.length := rfl
abbrev tAS (xs : List ByteArray) : Ob := .arr 1 xs.length (fS xs)
structure Feat where
  X : Int
  Y : Int
  D : Int
deriving DecidableEq, Inhabited
def cFeat (x : Feat) : List AV := [I x.X, I x.Y, I x.D]
def fFeat (xs : List Feat) (i : Nat) : List AV := cFeat (at_ xs i)
def slFeat (fr : Bool) (xs : List Feat) : AV := .sl fr 3 xs.length (fFeat xs)
theorem tagcFeat (t : Bool) (x : Feat) : taggedL t (cFeat x) := by simp [cFeat, taggedL, tagged]
theorem tagFeat (t : Bool) (xs : List Feat) : tagged t (slFeat t xs) := by simp only [slFeat, tagged]; exact ⟨trivial, fun i _ => tagcFeat t _⟩
theorem lenFeat (fr : Bool) (xs : List Feat) : lenA noOb (slFeat fr xs) = some xs.length := rfl
abbrev bxFeat (x : Feat) : Ob := .box [I x.X, I x.Y, I x.D]
abbrev agFeat (x : Feat) : AV := .agg [I x.X, I x.Y, I x.D]
abbrev tAFeat (xs : List Feat) : Ob := .arr 3 xs.length (fFeat xs)
def cLFeat (fr : Bool) (x : List Feat) : List AV := [slFeat fr x]
def fLFeat (fr : Bool) (xs : List (List Feat)) (i : Nat) : List AV := cLFeat fr (at_ xs i)
def slLFeat (fr : Bool) (xs : List (List Feat)) : AV := .sl fr 1 xs.length (fLFeat fr xs)
theorem tagcLFeat (t : Bool) (x : List Feat) : taggedL t (cLFeat t x) := by simp [cLFeat, taggedL, tagged, tagFeat]
theorem tagLFeat (t : Bool) (xs : List (List Feat)) : tagged t (slLFeat t xs) := by simp only [slLFeat, tagged]; exact ⟨trivial, fun i _ => tagcLFeat t _⟩
theorem lenLFeat (fr : Bool) (xs : List (List Feat)) : lenA noOb (slLFeat fr xs) = some xs.length := rfl
theorem idsLFeat (fr : Bool) (x : List Feat) : AV.idsL (cLFeat fr x) = [] := rfl
theorem leLFeat (fr : Bool) (x : List Feat) (ob : Nat → Option Ob) : leL ob false (cLFeat fr x) (cLFeat false x) := (And.intro (And.intro (fun h => by cases h) (And.intro rfl (And.intro rfl (fun i _ => .inl rfl)))) rfl)
abbrev tALFeat (fr : Bool) (xs : List (List Feat)) : Ob := .arr 1 xs.length (fLFeat fr xs)
structure Trained where
  Label : ByteArray
  Base : List Feat
  Feats : List Feat
  Count : Int
deriving DecidableEq, Inhabited
def cTrained (fr : Bool) (x : Trained) : List AV := [Sv x.Label, slFeat fr x.Base, slFeat fr x.Feats, I x.Count]
def fTrained (fr : Bool) (xs : List Trained) (i : Nat) : List AV := cTrained fr (at_ xs i)
def slTrained (fr : Bool) (xs : List Trained) : AV := .sl fr 4 xs.length (fTrained fr xs)
theorem tagcTrained (t : Bool) (x : Trained) : taggedL t (cTrained t x) := by simp [cTrained, taggedL, tagged, tagFeat]
theorem tagTrained (t : Bool) (xs : List Trained) : tagged t (slTrained t xs) := by simp only [slTrained, tagged]; exact ⟨trivial, fun i _ => tagcTrained t _⟩
theorem lenTrained (fr : Bool) (xs : List Trained) : lenA noOb (slTrained fr xs) = some xs.length := rfl
theorem idsTrained (fr : Bool) (x : Trained) : AV.idsL (cTrained fr x) = [] := rfl
theorem leTrained (fr : Bool) (x : Trained) (ob : Nat → Option Ob) : leL ob false (cTrained fr x) (cTrained false x) := (And.intro rfl (And.intro (And.intro (fun h => by cases h) (And.intro rfl (And.intro rfl (fun i _ => .inl rfl)))) (And.intro (And.intro (fun h => by cases h) (And.intro rfl (And.intro rfl (fun i _ => .inl rfl)))) (And.intro rfl rfl))))
abbrev bxTrained (x : Trained) : Ob := .box [Sv x.Label, slFeat false x.Base, slFeat false x.Feats, I x.Count]
abbrev agTrained (x : Trained) : AV := .agg [Sv x.Label, slFeat false x.Base, slFeat false x.Feats, I x.Count]
abbrev bxTrainedT (x : Trained) : Ob := .box [Sv x.Label, slFeat true x.Base, slFeat true x.Feats, I x.Count]
abbrev agTrainedT (x : Trained) : AV := .agg [Sv x.Label, slFeat true x.Base, slFeat true x.Feats, I x.Count]
abbrev tATrained (fr : Bool) (xs : List Trained) : Ob := .arr 4 xs.length (fTrained fr xs)
def cLTrained (fr : Bool) (x : List Trained) : List AV := [slTrained fr x]
def fLTrained (fr : Bool) (xs : List (List Trained)) (i : Nat) : List AV := cLTrained fr (at_ xs i)
def slLTrained (fr : Bool) (xs : List (List Trained)) : AV := .sl fr 1 xs.length (fLTrained fr xs)
theorem tagcLTrained (t : Bool) (x : List Trained) : taggedL t (cLTrained t x) := by simp [cLTrained, taggedL, tagged, tagTrained]
theorem tagLTrained (t : Bool) (xs : List (List Trained)) : tagged t (slLTrained t xs) := by simp only [slLTrained, tagged]; exact ⟨trivial, fun i _ => tagcLTrained t _⟩
theorem lenLTrained (fr : Bool) (xs : List (List Trained)) : lenA noOb (slLTrained fr xs) = some xs.length := rfl
theorem idsLTrained (fr : Bool) (x : List Trained) : AV.idsL (cLTrained fr x) = [] := rfl
theorem leLTrained (fr : Bool) (x : List Trained) (ob : Nat → Option Ob) : leL ob false (cLTrained fr x) (cLTrained false x) := (And.intro (And.intro (fun h => by cases h) (And.intro rfl (And.intro rfl (fun i _ => .inr ⟨idsTrained _ _, leTrained _ _ _⟩)))) rfl)
abbrev tALTrained (fr : Bool) (xs : List (List Trained)) : Ob := .arr 1 xs.length (fLTrained fr xs)
structure Writer where
  Band : Int
  Trained : List Trained
deriving DecidableEq, Inhabited
def cWriter (fr : Bool) (x : Writer) : List AV := [I x.Band, slTrained fr x.Trained]
def fWriter (fr : Bool) (xs : List Writer) (i : Nat) : List AV := cWriter fr (at_ xs i)
def slWriter (fr : Bool) (xs : List Writer) : AV := .sl fr 2 xs.length (fWriter fr xs)
theorem tagcWriter (t : Bool) (x : Writer) : taggedL t (cWriter t x) := by simp [cWriter, taggedL, tagged, tagTrained]
theorem tagWriter (t : Bool) (xs : List Writer) : tagged t (slWriter t xs) := by simp only [slWriter, tagged]; exact ⟨trivial, fun i _ => tagcWriter t _⟩
theorem lenWriter (fr : Bool) (xs : List Writer) : lenA noOb (slWriter fr xs) = some xs.length := rfl
theorem idsWriter (fr : Bool) (x : Writer) : AV.idsL (cWriter fr x) = [] := rfl
theorem leWriter (fr : Bool) (x : Writer) (ob : Nat → Option Ob) : leL ob false (cWriter fr x) (cWriter false x) := (And.intro rfl (And.intro (And.intro (fun h => by cases h) (And.intro rfl (And.intro rfl (fun i _ => .inr ⟨idsTrained _ _, leTrained _ _ _⟩)))) rfl))
abbrev bxWriter (x : Writer) : Ob := .box [I x.Band, slTrained false x.Trained]
abbrev agWriter (x : Writer) : AV := .agg [I x.Band, slTrained false x.Trained]
abbrev bxWriterT (x : Writer) : Ob := .box [I x.Band, slTrained true x.Trained]
abbrev agWriterT (x : Writer) : AV := .agg [I x.Band, slTrained true x.Trained]
abbrev tAWriter (fr : Bool) (xs : List Writer) : Ob := .arr 2 xs.length (fWriter fr xs)
structure Template where
  Label : ByteArray
  Feats : List Feat
deriving DecidableEq, Inhabited
def cTemplate (fr : Bool) (x : Template) : List AV := [Sv x.Label, slFeat fr x.Feats]
def fTemplate (fr : Bool) (xs : List Template) (i : Nat) : List AV := cTemplate fr (at_ xs i)
def slTemplate (fr : Bool) (xs : List Template) : AV := .sl fr 2 xs.length (fTemplate fr xs)
theorem tagcTemplate (t : Bool) (x : Template) : taggedL t (cTemplate t x) := by simp [cTemplate, taggedL, tagged, tagFeat]
theorem tagTemplate (t : Bool) (xs : List Template) : tagged t (slTemplate t xs) := by simp only [slTemplate, tagged]; exact ⟨trivial, fun i _ => tagcTemplate t _⟩
theorem lenTemplate (fr : Bool) (xs : List Template) : lenA noOb (slTemplate fr xs) = some xs.length := rfl
theorem idsTemplate (fr : Bool) (x : Template) : AV.idsL (cTemplate fr x) = [] := rfl
theorem leTemplate (fr : Bool) (x : Template) (ob : Nat → Option Ob) : leL ob false (cTemplate fr x) (cTemplate false x) := (And.intro rfl (And.intro (And.intro (fun h => by cases h) (And.intro rfl (And.intro rfl (fun i _ => .inl rfl)))) rfl))
abbrev bxTemplate (x : Template) : Ob := .box [Sv x.Label, slFeat false x.Feats]
abbrev agTemplate (x : Template) : AV := .agg [Sv x.Label, slFeat false x.Feats]
abbrev bxTemplateT (x : Template) : Ob := .box [Sv x.Label, slFeat true x.Feats]
abbrev agTemplateT (x : Template) : AV := .agg [Sv x.Label, slFeat true x.Feats]
abbrev tATemplate (fr : Bool) (xs : List Template) : Ob := .arr 2 xs.length (fTemplate fr xs)
def cLTemplate (fr : Bool) (x : List Template) : List AV := [slTemplate fr x]
def fLTemplate (fr : Bool) (xs : List (List Template)) (i : Nat) : List AV := cLTemplate fr (at_ xs i)
def slLTemplate (fr : Bool) (xs : List (List Template)) : AV := .sl fr 1 xs.length (fLTemplate fr xs)
theorem tagcLTemplate (t : Bool) (x : List Template) : taggedL t (cLTemplate t x) := by simp [cLTemplate, taggedL, tagged, tagTemplate]
theorem tagLTemplate (t : Bool) (xs : List (List Template)) : tagged t (slLTemplate t xs) := by simp only [slLTemplate, tagged]; exact ⟨trivial, fun i _ => tagcLTemplate t _⟩
theorem lenLTemplate (fr : Bool) (xs : List (List Template)) : lenA noOb (slLTemplate fr xs) = some xs.length := rfl
theorem idsLTemplate (fr : Bool) (x : List Template) : AV.idsL (cLTemplate fr x) = [] := rfl
theorem leLTemplate (fr : Bool) (x : List Template) (ob : Nat → Option Ob) : leL ob false (cLTemplate fr x) (cLTemplate false x) := (And.intro (And.intro (fun h => by cases h) (And.intro rfl (And.intro rfl (fun i _ => .inr ⟨idsTemplate _ _, leTemplate _ _ _⟩)))) rfl)
abbrev tALTemplate (fr : Bool) (xs : List (List Template)) : Ob := .arr 1 xs.length (fLTemplate fr xs)
structure Store where
  Band : Int
  Templates : List Template
deriving DecidableEq, Inhabited
def cStore (fr : Bool) (x : Store) : List AV := [I x.Band, slTemplate fr x.Templates]
def fStore (fr : Bool) (xs : List Store) (i : Nat) : List AV := cStore fr (at_ xs i)
def slStore (fr : Bool) (xs : List Store) : AV := .sl fr 2 xs.length (fStore fr xs)
theorem tagcStore (t : Bool) (x : Store) : taggedL t (cStore t x) := by simp [cStore, taggedL, tagged, tagTemplate]
theorem tagStore (t : Bool) (xs : List Store) : tagged t (slStore t xs) := by simp only [slStore, tagged]; exact ⟨trivial, fun i _ => tagcStore t _⟩
theorem lenStore (fr : Bool) (xs : List Store) : lenA noOb (slStore fr xs) = some xs.length := rfl
theorem idsStore (fr : Bool) (x : Store) : AV.idsL (cStore fr x) = [] := rfl
theorem leStore (fr : Bool) (x : Store) (ob : Nat → Option Ob) : leL ob false (cStore fr x) (cStore false x) := (And.intro rfl (And.intro (And.intro (fun h => by cases h) (And.intro rfl (And.intro rfl (fun i _ => .inr ⟨idsTemplate _ _, leTemplate _ _ _⟩)))) rfl))
abbrev bxStore (x : Store) : Ob := .box [I x.Band, slTemplate false x.Templates]
abbrev agStore (x : Store) : AV := .agg [I x.Band, slTemplate false x.Templates]
abbrev bxStoreT (x : Store) : Ob := .box [I x.Band, slTemplate true x.Templates]
abbrev agStoreT (x : Store) : AV := .agg [I x.Band, slTemplate true x.Templates]
abbrev tAStore (fr : Bool) (xs : List Store) : Ob := .arr 2 xs.length (fStore fr xs)
structure Pair where
  I : Int
  J : Int
deriving DecidableEq, Inhabited
def cPair (x : Pair) : List AV := [I x.I, I x.J]
def fPair (xs : List Pair) (i : Nat) : List AV := cPair (at_ xs i)
def slPair (fr : Bool) (xs : List Pair) : AV := .sl fr 2 xs.length (fPair xs)
theorem tagcPair (t : Bool) (x : Pair) : taggedL t (cPair x) := by simp [cPair, taggedL, tagged]
theorem tagPair (t : Bool) (xs : List Pair) : tagged t (slPair t xs) := by simp only [slPair, tagged]; exact ⟨trivial, fun i _ => tagcPair t _⟩
theorem lenPair (fr : Bool) (xs : List Pair) : lenA noOb (slPair fr xs) = some xs.length := rfl
abbrev bxPair (x : Pair) : Ob := .box [I x.I, I x.J]
abbrev agPair (x : Pair) : AV := .agg [I x.I, I x.J]
abbrev tAPair (xs : List Pair) : Ob := .arr 2 xs.length (fPair xs)
def cU8 (x : Int) : List AV := [.val (.int .u8 x)]
def fU8 (xs : List Int) (i : Nat) : List AV := cU8 (at_ xs i)
def slU8 (fr : Bool) (xs : List Int) : AV := .sl fr 1 xs.length (fU8 xs)
theorem tagcU8 (t : Bool) (x : Int) : taggedL t (cU8 x) := by simp [cU8, taggedL, tagged]
theorem tagU8 (t : Bool) (xs : List Int) : tagged t (slU8 t xs) := by simp only [slU8, tagged]; exact ⟨trivial, fun i _ => tagcU8 t _⟩
theorem lenU8 (fr : Bool) (xs : List Int) : lenA noOb (slU8 fr xs) = some xs.length := rfl
abbrev tAU8 (xs : List Int) : Ob := .arr 1 xs.length (fU8 xs)
def cLI (fr : Bool) (x : List Int) : List AV := [slI fr x]
def fLI (fr : Bool) (xs : List (List Int)) (i : Nat) : List AV := cLI fr (at_ xs i)
def slLI (fr : Bool) (xs : List (List Int)) : AV := .sl fr 1 xs.length (fLI fr xs)
theorem tagcLI (t : Bool) (x : List Int) : taggedL t (cLI t x) := by simp [cLI, taggedL, tagged, tagI]
theorem tagLI (t : Bool) (xs : List (List Int)) : tagged t (slLI t xs) := by simp only [slLI, tagged]; exact ⟨trivial, fun i _ => tagcLI t _⟩
theorem lenLI (fr : Bool) (xs : List (List Int)) : lenA noOb (slLI fr xs) = some xs.length := rfl
theorem idsLI (fr : Bool) (x : List Int) : AV.idsL (cLI fr x) = [] := rfl
theorem leLI (fr : Bool) (x : List Int) (ob : Nat → Option Ob) : leL ob false (cLI fr x) (cLI false x) := (And.intro (And.intro (fun h => by cases h) (And.intro rfl (And.intro rfl (fun i _ => .inl rfl)))) rfl)
abbrev tALI (fr : Bool) (xs : List (List Int)) : Ob := .arr 1 xs.length (fLI fr xs)
structure Arr2I where
  a0 : Int
  a1 : Int
deriving DecidableEq, Inhabited
def cArr2I (x : Arr2I) : List AV := [I x.a0, I x.a1]
def fArr2I (xs : List Arr2I) (i : Nat) : List AV := cArr2I (at_ xs i)
def slArr2I (fr : Bool) (xs : List Arr2I) : AV := .sl fr 2 xs.length (fArr2I xs)
theorem tagcArr2I (t : Bool) (x : Arr2I) : taggedL t (cArr2I x) := by simp [cArr2I, taggedL, tagged]
theorem tagArr2I (t : Bool) (xs : List Arr2I) : tagged t (slArr2I t xs) := by simp only [slArr2I, tagged]; exact ⟨trivial, fun i _ => tagcArr2I t _⟩
theorem lenArr2I (fr : Bool) (xs : List Arr2I) : lenA noOb (slArr2I fr xs) = some xs.length := rfl
abbrev bxArr2I (x : Arr2I) : Ob := .box [I x.a0, I x.a1]
abbrev agArr2I (x : Arr2I) : AV := .agg [I x.a0, I x.a1]
abbrev tAArr2I (xs : List Arr2I) : Ob := .arr 2 xs.length (fArr2I xs)
structure Arr3Arr2I where
  a0 : Arr2I
  a1 : Arr2I
  a2 : Arr2I
deriving DecidableEq, Inhabited
def cArr3Arr2I (x : Arr3Arr2I) : List AV := [I x.a0.a0, I x.a0.a1, I x.a1.a0, I x.a1.a1, I x.a2.a0, I x.a2.a1]
def fArr3Arr2I (xs : List Arr3Arr2I) (i : Nat) : List AV := cArr3Arr2I (at_ xs i)
def slArr3Arr2I (fr : Bool) (xs : List Arr3Arr2I) : AV := .sl fr 6 xs.length (fArr3Arr2I xs)
theorem tagcArr3Arr2I (t : Bool) (x : Arr3Arr2I) : taggedL t (cArr3Arr2I x) := by simp [cArr3Arr2I, taggedL, tagged]
theorem tagArr3Arr2I (t : Bool) (xs : List Arr3Arr2I) : tagged t (slArr3Arr2I t xs) := by simp only [slArr3Arr2I, tagged]; exact ⟨trivial, fun i _ => tagcArr3Arr2I t _⟩
theorem lenArr3Arr2I (fr : Bool) (xs : List Arr3Arr2I) : lenA noOb (slArr3Arr2I fr xs) = some xs.length := rfl
abbrev bxArr3Arr2I (x : Arr3Arr2I) : Ob := .box [I x.a0.a0, I x.a0.a1, I x.a1.a0, I x.a1.a1, I x.a2.a0, I x.a2.a1]
abbrev agArr3Arr2I (x : Arr3Arr2I) : AV := .agg [I x.a0.a0, I x.a0.a1, I x.a1.a0, I x.a1.a1, I x.a2.a0, I x.a2.a1]
abbrev tAArr3Arr2I (xs : List Arr3Arr2I) : Ob := .arr 6 xs.length (fArr3Arr2I xs)

/-- What is left of l behind b. -/
def szTake (l : Int) (b : Nat) : Int := if l < b then -1 else l - b
theorem szTake_nn {l : Int} {b : Nat} (h : ¬ szTake l b < 0) : szTake l b = l - b ∧ (b : Int) ≤ l := by
  unfold szTake at *; split at h <;> simp_all <;> omega
theorem szTake_ng {l : Int} {b : Nat} (h : szTake l b < 0) (h0 : 0 ≤ l) : szTake l b = -1 ∧ l < b := by
  unfold szTake at *; split at h <;> simp_all <;> omega
theorem szTake_of {l : Int} {b : Nat} (h : (b : Int) ≤ l) : szTake l b = l - b := by unfold szTake; rw [if_neg (by omega)]
theorem szTake_neg {l : Int} {b : Nat} (h : l < b) : szTake l b = -1 := by unfold szTake; rw [if_pos h]
theorem take_snoc' {α : Type} [Inhabited α] {l : List α} {k : Nat} (h : k < l.length) : l.take (k + 1) = l.take k ++ [at_ l k] := by
  rw [List.take_succ_eq_append_getElem h, at_eq h]

def bulkFeatS (xs : List Feat) : Nat := xs.length
theorem bulkFeatS_len (xs : List Feat) : xs.length ≤ bulkFeatS xs := Nat.le_refl _

-- laws.szFeatS
theorem szFeatS_ok (a : List Feat) (left : Int) (h0 : 0 ≤ left ∧ left ≤ 1048576) : Con Tryz.prog 17 [slFeat false a, I left] true (I (szTake left (bulkFeatS a))) := by
  refine fn_ok (fn := Tryz.f17) (nt := 12) Tryz.func17 rfl rfl rfl rfl (by simp [taggedL, tagged, tagFeat]) fun B hB => ?_
  refine aw_lens (x := slFeat false a) 0 rfl (fun len_a => ?_)
  simp [LenOK, LenL, cFeat, fFeat, slFeat] at len_a
  refine aR [] [0, 1] [] [slFeat false a, I left] [] [] hB trivial ?_
  refine aR [] [1] [] [I (left - (a.length : Int))] [] [inR .i64 (left - (a.length : Int))] hB ⟨(inR_i64 (by omega) (by omega)), trivial⟩ ?_
  refine aw_seq ?_
  refine aw_seq ?_
  by_cases h1 : (left - (a.length : Int)) < 0
  ·refine aw_r [(1, .dec true)] [1, 10] [] [I (left - (a.length : Int)), Bv true] [] [(left - (a.length : Int)) < 0] hB ⟨h1, trivial⟩ ?_
   refine ae_then ?_
   refine aw_true rfl ?_
   refine aR [] [4] [] [I (-1)] [] [] hB trivial ?_
   refine aw_ret ?_
   refine ae_ret_then ?_
   refine ae_ret hB (I (-1)) (by kernel_rfl) (.inl (by refine congrArg I ?_; unfold szTake bulkFeatS; split <;> omega)) rfl (fun _ => trivial)
  refine aw_r [(1, .dec false)] [1, 10] [] [I (left - (a.length : Int)), Bv false] [] [¬ ((left - (a.length : Int)) < 0)] hB ⟨h1, trivial⟩ ?_
  refine ae_then ?_
  refine aw_false rfl ?_
  refine aw_skip ?_
  refine ae_then ?_
  refine aR [] [4] [] [I (left - (a.length : Int))] [] [] hB trivial ?_
  refine aw_ret ?_
  refine ae_ret hB (I (left - (a.length : Int))) (by kernel_rfl) (.inl (by refine congrArg I ?_; unfold szTake bulkFeatS; split <;> omega)) rfl (fun _ => trivial)


def okTrained (x : Trained) : Prop := (x.Label.size ≤ 9223372036854775807)

def bulkTrained (x : Trained) : Nat := x.Label.size + (bulkFeatS x.Base) + (bulkFeatS x.Feats)
def bulkTrainedS : List Trained → Nat
  | [] => 0
  | x :: r => 1 + (bulkTrained x) + bulkTrainedS r
theorem bulkTrainedS_app (xs ys : List Trained) : bulkTrainedS (xs ++ ys) = bulkTrainedS xs + bulkTrainedS ys := by
  induction xs with
  | nil => simp [bulkTrainedS]
  | cons x r ih => simp [bulkTrainedS, ih]; omega
theorem bulkTrainedS_len (xs : List Trained) : xs.length ≤ bulkTrainedS xs := by
  induction xs with
  | nil => simp
  | cons x r ih => simp [bulkTrainedS]; omega
theorem bulkTrainedS_take {xs : List Trained} {i : Nat} (h : i < xs.length) : bulkTrainedS (xs.take (i + 1)) = bulkTrainedS (xs.take i) + 1 + (bulkTrained (at_ xs i)) := by
  rw [take_snoc' h, bulkTrainedS_app]; simp [bulkTrainedS]; omega
theorem bulkTrainedS_le (xs : List Trained) (i : Nat) : bulkTrainedS (xs.take i) + (xs.length - i) ≤ bulkTrainedS xs := by
  have e := bulkTrainedS_app (xs.take i) (xs.drop i)
  rw [List.take_append_drop] at e
  have := bulkTrainedS_len (xs.drop i)
  simp at this
  omega
theorem bulkTrainedS_at {xs : List Trained} {i : Nat} (h : i < xs.length) : 1 + (bulkTrained (at_ xs i)) ≤ bulkTrainedS xs := by
  have h1 := bulkTrainedS_take h
  have h2 := bulkTrainedS_le xs (i + 1)
  omega

-- laws.szTrained
theorem szTrained_ok (a : Trained) (left : Int) (h0 : 0 ≤ left ∧ left ≤ 1048576) (ok0 : okTrained a) : Con Tryz.prog 82 [agTrained a, I left] true (I (szTake left (bulkTrained a))) := by
  have ok := ok0
  unfold okTrained at ok
  have ok_Label := ok
  refine fn_ok (fn := Tryz.f82) (nt := 25) Tryz.func82 rfl rfl rfl rfl (by simp [taggedL, tagged, tagFeat]) fun B hB => ?_
  refine aw_lens (x := agTrained a) 0 rfl (fun len_a => ?_)
  simp [LenOK, LenL, cFeat, fFeat, slFeat] at len_a
  refine aR [(0, .new 2)] [1, 2] [2] [I left, .ref 2 0] [some (bxTrained a)] [] hB trivial ?_
  refine aR [] [1, 2] [2] [I (left - (a.Label.size : Int)), .ref 2 0] [some (bxTrained a)] [inR .i64 (left - (a.Label.size : Int))] hB ⟨(inR_i64 (by omega) (by omega)), trivial⟩ ?_
  refine aw_seq ?_
  refine aw_seq ?_
  by_cases h1 : (left - (a.Label.size : Int)) < 0
  ·refine aw_r [(1, .dec true)] [1, 2, 11] [2] [I (left - (a.Label.size : Int)), .ref 2 0, Bv true] [some (bxTrained a)] [(left - (a.Label.size : Int)) < 0] hB ⟨h1, trivial⟩ ?_
   refine ae_then ?_
   refine aw_true rfl ?_
   refine aR [] [4] [] [I (-1)] [] [] hB trivial ?_
   refine aw_ret ?_
   refine ae_ret_then ?_
   refine ae_ret hB (I (-1)) (by kernel_rfl) (.inl (by refine congrArg I ?_; unfold szTake bulkTrained; split <;> omega)) rfl (fun _ => trivial)
  refine aw_r [(1, .dec false)] [1, 2, 11] [2] [I (left - (a.Label.size : Int)), .ref 2 0, Bv false] [some (bxTrained a)] [¬ ((left - (a.Label.size : Int)) < 0)] hB ⟨h1, trivial⟩ ?_
  refine ae_then ?_
  refine aw_false rfl ?_
  refine aw_skip ?_
  refine ae_then ?_
  refine aR [(3, .call [(true, .any), (true, .any)] true (I (szTake (left - (a.Label.size : Int)) (bulkFeatS a.Base))))] [1, 2] [2] [I (szTake (left - (a.Label.size : Int)) (bulkFeatS a.Base)), .ref 2 0] [some (bxTrained a)] [Con Tryz.prog 17 [slFeat false a.Base, I (left - (a.Label.size : Int))] true (I (szTake (left - (a.Label.size : Int)) (bulkFeatS a.Base))) ∧ True] hB ⟨⟨(szFeatS_ok a.Base (left - (a.Label.size : Int)) (by omega)), trivial⟩, trivial⟩ ?_
  refine aw_seq ?_
  refine aw_seq ?_
  by_cases h2 : (szTake (left - (a.Label.size : Int)) (bulkFeatS a.Base)) < 0
  ·have eh2 := szTake_ng h2 (by omega)
   refine aw_r [(1, .dec true)] [1, 2, 17] [2] [I (szTake (left - (a.Label.size : Int)) (bulkFeatS a.Base)), .ref 2 0, Bv true] [some (bxTrained a)] [(szTake (left - (a.Label.size : Int)) (bulkFeatS a.Base)) < 0] hB ⟨h2, trivial⟩ ?_
   refine ae_then ?_
   refine aw_true rfl ?_
   refine aR [] [4] [] [I (-1)] [] [] hB trivial ?_
   refine aw_ret ?_
   refine ae_ret_then ?_
   refine ae_ret hB (I (-1)) (by kernel_rfl) (.inl (by refine congrArg I ?_; unfold szTake bulkTrained; split <;> omega)) rfl (fun _ => trivial)
  have eh2 := szTake_nn h2
  refine aw_r [(1, .dec false)] [1, 2, 17] [2] [I (szTake (left - (a.Label.size : Int)) (bulkFeatS a.Base)), .ref 2 0, Bv false] [some (bxTrained a)] [¬ ((szTake (left - (a.Label.size : Int)) (bulkFeatS a.Base)) < 0)] hB ⟨h2, trivial⟩ ?_
  refine ae_then ?_
  refine aw_false rfl ?_
  refine aw_skip ?_
  refine ae_then ?_
  refine aR [(3, .call [(true, .any), (true, .any)] true (I (szTake (szTake (left - (a.Label.size : Int)) (bulkFeatS a.Base)) (bulkFeatS a.Feats))))] [1] [] [I (szTake (szTake (left - (a.Label.size : Int)) (bulkFeatS a.Base)) (bulkFeatS a.Feats))] [] [Con Tryz.prog 17 [slFeat false a.Feats, I (szTake (left - (a.Label.size : Int)) (bulkFeatS a.Base))] true (I (szTake (szTake (left - (a.Label.size : Int)) (bulkFeatS a.Base)) (bulkFeatS a.Feats))) ∧ True] hB ⟨⟨(szFeatS_ok a.Feats (szTake (left - (a.Label.size : Int)) (bulkFeatS a.Base)) (by omega)), trivial⟩, trivial⟩ ?_
  refine aw_seq ?_
  refine aw_seq ?_
  by_cases h3 : (szTake (szTake (left - (a.Label.size : Int)) (bulkFeatS a.Base)) (bulkFeatS a.Feats)) < 0
  ·have eh3 := szTake_ng h3 (by omega)
   refine aw_r [(1, .dec true)] [1, 23] [] [I (szTake (szTake (left - (a.Label.size : Int)) (bulkFeatS a.Base)) (bulkFeatS a.Feats)), Bv true] [] [(szTake (szTake (left - (a.Label.size : Int)) (bulkFeatS a.Base)) (bulkFeatS a.Feats)) < 0] hB ⟨h3, trivial⟩ ?_
   refine ae_then ?_
   refine aw_true rfl ?_
   refine aR [] [4] [] [I (-1)] [] [] hB trivial ?_
   refine aw_ret ?_
   refine ae_ret_then ?_
   refine ae_ret hB (I (-1)) (by kernel_rfl) (.inl (by refine congrArg I ?_; unfold szTake bulkTrained; split <;> omega)) rfl (fun _ => trivial)
  have eh3 := szTake_nn h3
  refine aw_r [(1, .dec false)] [1, 23] [] [I (szTake (szTake (left - (a.Label.size : Int)) (bulkFeatS a.Base)) (bulkFeatS a.Feats)), Bv false] [] [¬ ((szTake (szTake (left - (a.Label.size : Int)) (bulkFeatS a.Base)) (bulkFeatS a.Feats)) < 0)] hB ⟨h3, trivial⟩ ?_
  refine ae_then ?_
  refine aw_false rfl ?_
  refine aw_skip ?_
  refine ae_then ?_
  refine aR [] [4] [] [I (szTake (szTake (left - (a.Label.size : Int)) (bulkFeatS a.Base)) (bulkFeatS a.Feats))] [] [] hB trivial ?_
  refine aw_ret ?_
  refine ae_ret hB (I (szTake (szTake (left - (a.Label.size : Int)) (bulkFeatS a.Base)) (bulkFeatS a.Feats))) (by kernel_rfl) (.inl (by refine congrArg I ?_; unfold szTake bulkTrained; split <;> omega)) rfl (fun _ => trivial)


theorem at_mem {α : Type} [Inhabited α] {xs : List α} {i : Nat} (h : i < xs.length) : at_ xs i ∈ xs := by rw [at_eq h]; exact List.getElem_mem h

-- laws.szTrainedS
theorem szTrainedS_ok (a : List Trained) (left : Int) (h0 : 0 ≤ left ∧ left ≤ 1048576) (ok0 : ∀ y ∈ a, okTrained y) : Con Tryz.prog 45 [slTrained false a, I left] true (I (szTake left (bulkTrainedS a))) := by
  have hb0 := bulkTrainedS_len a
  refine fn_ok (fn := Tryz.f45) (nt := 27) Tryz.func45 rfl rfl rfl rfl (by simp [taggedL, tagged, tagTrained]) fun B hB => ?_
  refine aw_lens (x := slTrained false a) 0 rfl (fun len_a => ?_)
  simp [LenOK, LenL, cFeat, cTrained, fFeat, fTrained, slFeat, slTrained] at len_a
  refine aR [] [0, 1] [] [slTrained false a, I left] [] [] hB trivial ?_
  refine aR [] [0, 1] [] [slTrained false a, I (left - (a.length : Int))] [] [inR .i64 (left - (a.length : Int))] hB ⟨(inR_i64 (by omega) (by omega)), trivial⟩ ?_
  refine aw_seq ?_
  refine aw_seq ?_
  by_cases h1 : (left - (a.length : Int)) < 0
  ·refine aw_r [(1, .dec true)] [0, 1, 11] [] [slTrained false a, I (left - (a.length : Int)), Bv true] [] [(left - (a.length : Int)) < 0] hB ⟨h1, trivial⟩ ?_
   refine ae_then ?_
   refine aw_true rfl ?_
   refine aR [] [4] [] [I (-1)] [] [] hB trivial ?_
   refine aw_ret ?_
   refine ae_ret_then ?_
   refine ae_ret hB (I (-1)) (by kernel_rfl) (.inl (by refine congrArg I ?_; unfold szTake; split <;> omega)) rfl (fun _ => trivial)
  refine aw_r [(1, .dec false)] [0, 1, 11] [] [slTrained false a, I (left - (a.length : Int)), Bv false] [] [¬ ((left - (a.length : Int)) < 0)] hB ⟨h1, trivial⟩ ?_
  refine ae_then ?_
  refine aw_false rfl ?_
  refine aw_skip ?_
  refine ae_then ?_
  refine aw_seq ?_
  refine aR [] [0, 1, 5] [] [slTrained false a, I (left - (a.length : Int)), I 0] [] [] hB trivial ?_
  refine aw_block ?_
  refine aw_loop (fun gn gσ => ∃ (left' : Int) (i : Int), gn = ((a.length : Int) - i).toNat ∧ (0 ≤ i ∧ i ≤ (a.length : Int)) ∧ (0 ≤ left' ∧ left' ≤ 1048576) ∧ (left' + (a.length : Int) - i + (bulkTrainedS (a.take i.toNat) : Int) = left) ∧ gσ = mkS [(0, slTrained false a), (1, I left'), (5, I i)] []) (((a.length : Int) - 0).toNat) ⟨(left - (a.length : Int)), 0, rfl, (by omega), (by omega), (by simp [bulkTrainedS]), rfl⟩ (fun gn gσ hI => ?_)
  obtain ⟨left', i, rfl, hi0, hl0, hs0, rfl⟩ := hI
  refine aw_seq ?_
  refine aw_seq ?_
  by_cases h2 : i < (a.length : Int)
  ·have hi : i.toNat < a.length := by omega
   have hle := bulkTrainedS_le a (i.toNat + 1)
   have htk := bulkTrainedS_take hi
   refine aw_r [(3, .dec true)] [0, 1, 5, 15] [] [slTrained false a, I left', I i, Bv true] [] [i < (a.length : Int)] hB ⟨h2, trivial⟩ ?_
   refine ae_then ?_
   refine aw_true rfl ?_
   refine aw_skip ?_
   refine ae_then ?_
   refine aw_seq ?_
   refine aw_block ?_
   refine aR [(5, .call [(true, .any), (true, .any)] true (I (szTake left' (bulkTrained (at_ a i.toNat)))))] [0, 1, 5] [] [slTrained false a, I (szTake left' (bulkTrained (at_ a i.toNat))), I i] [] [(0 : Int) ≤ i ∧ i < (a.length : Int), Con Tryz.prog 82 [agTrained (at_ a i.toNat), I left'] true (I (szTake left' (bulkTrained (at_ a i.toNat)))) ∧ True] hB ⟨⟨(by omega), (by omega)⟩, ⟨(szTrained_ok (at_ a i.toNat) left' (by omega) (ok0 _ (at_mem hi))), trivial⟩, trivial⟩ ?_
   refine aw_seq ?_
   by_cases h3 : (szTake left' (bulkTrained (at_ a i.toNat))) < 0
   ·have eh3 := szTake_ng h3 (by omega)
    refine aw_r [(1, .dec true)] [0, 1, 5, 25] [] [slTrained false a, I (szTake left' (bulkTrained (at_ a i.toNat))), I i, Bv true] [] [(szTake left' (bulkTrained (at_ a i.toNat))) < 0] hB ⟨h3, trivial⟩ ?_
    refine ae_then ?_
    refine aw_true rfl ?_
    refine aR [] [4] [] [I (-1)] [] [] hB trivial ?_
    refine aw_ret ?_
    refine ae_ret_block (ae_ret_then (ae_ret_then (ae_ret_block (ae_ret_then ?_))))
    refine ae_ret hB (I (-1)) (by kernel_rfl) (.inl (by refine congrArg I ?_; unfold szTake; split <;> omega)) rfl (fun _ => trivial)
   have eh3 := szTake_nn h3
   refine aw_r [(1, .dec false)] [0, 1, 5, 25] [] [slTrained false a, I (szTake left' (bulkTrained (at_ a i.toNat))), I i, Bv false] [] [¬ ((szTake left' (bulkTrained (at_ a i.toNat))) < 0)] hB ⟨h3, trivial⟩ ?_
   refine ae_then ?_
   refine aw_false rfl ?_
   refine aw_skip ?_
   refine ae_block 1 ?_
   refine ae_then ?_
   refine aw_r [] [0, 1, 5] [] [slTrained false a, I (szTake left' (bulkTrained (at_ a i.toNat))), I (i + 1)] [] [inR .i64 (i + 1)] hB ⟨(inR_i64 (by omega) (by omega)), trivial⟩ ?_
   exact ae_again _ (by omega) ⟨(szTake left' (bulkTrained (at_ a i.toNat))), (i + 1), rfl, (by omega), (by omega), (by (have e2 : (i + 1).toNat = i.toNat + 1 := by omega); rw [e2, htk]; push_cast; omega), rfl⟩
  have hie : i.toNat = a.length := by omega
  rw [hie, List.take_length] at hs0
  refine aw_r [(3, .dec false)] [0, 1, 5, 15] [] [slTrained false a, I left', I i, Bv false] [] [¬ (i < (a.length : Int))] hB ⟨h2, trivial⟩ ?_
  refine ae_then ?_
  refine aw_false rfl ?_
  refine aw_exit ?_
  refine ae_exit_then ?_
  refine ae_exit_then ?_
  refine ae_exit_same ?_
  refine ae_then ?_
  refine aR [] [4] [] [I left'] [] [] hB trivial ?_
  refine aw_ret ?_
  refine ae_ret hB (I left') (by kernel_rfl) (.inl (by refine congrArg I ?_; unfold szTake; split <;> omega)) rfl (fun _ => trivial)


def okWriter (x : Writer) : Prop := (∀ y ∈ x.Trained, okTrained y)

def bulkWriter (x : Writer) : Nat := (bulkTrainedS x.Trained)
def bulkWriterS : List Writer → Nat
  | [] => 0
  | x :: r => 1 + (bulkWriter x) + bulkWriterS r
theorem bulkWriterS_app (xs ys : List Writer) : bulkWriterS (xs ++ ys) = bulkWriterS xs + bulkWriterS ys := by
  induction xs with
  | nil => simp [bulkWriterS]
  | cons x r ih => simp [bulkWriterS, ih]; omega
theorem bulkWriterS_len (xs : List Writer) : xs.length ≤ bulkWriterS xs := by
  induction xs with
  | nil => simp
  | cons x r ih => simp [bulkWriterS]; omega
theorem bulkWriterS_take {xs : List Writer} {i : Nat} (h : i < xs.length) : bulkWriterS (xs.take (i + 1)) = bulkWriterS (xs.take i) + 1 + (bulkWriter (at_ xs i)) := by
  rw [take_snoc' h, bulkWriterS_app]; simp [bulkWriterS]; omega
theorem bulkWriterS_le (xs : List Writer) (i : Nat) : bulkWriterS (xs.take i) + (xs.length - i) ≤ bulkWriterS xs := by
  have e := bulkWriterS_app (xs.take i) (xs.drop i)
  rw [List.take_append_drop] at e
  have := bulkWriterS_len (xs.drop i)
  simp at this
  omega
theorem bulkWriterS_at {xs : List Writer} {i : Nat} (h : i < xs.length) : 1 + (bulkWriter (at_ xs i)) ≤ bulkWriterS xs := by
  have h1 := bulkWriterS_take h
  have h2 := bulkWriterS_le xs (i + 1)
  omega

-- laws.szWriter
theorem szWriter_ok (a : Writer) (left : Int) (h0 : 0 ≤ left ∧ left ≤ 1048576) (ok0 : okWriter a) : Con Tryz.prog 16 [agWriter a, I left] true (I (szTake left (bulkWriter a))) := by
  have ok := ok0
  unfold okWriter at ok
  have ok_Trained := ok
  refine fn_ok (fn := Tryz.f16) (nt := 12) Tryz.func16 rfl rfl rfl rfl (by simp [taggedL, tagged, tagTrained]) fun B hB => ?_
  refine aw_lens (x := agWriter a) 0 rfl (fun len_a => ?_)
  simp [LenOK, LenL, cFeat, cTrained, fFeat, fTrained, slFeat, slTrained] at len_a
  refine aR [(0, .new 2)] [1, 2] [2] [I left, .ref 2 0] [some (bxWriter a)] [] hB trivial ?_
  refine aR [(3, .call [(true, .any), (true, .any)] true (I (szTake left (bulkTrainedS a.Trained))))] [1] [] [I (szTake left (bulkTrainedS a.Trained))] [] [Con Tryz.prog 45 [slTrained false a.Trained, I left] true (I (szTake left (bulkTrainedS a.Trained))) ∧ True] hB ⟨⟨(szTrainedS_ok a.Trained left (by omega) ok_Trained), trivial⟩, trivial⟩ ?_
  refine aw_seq ?_
  refine aw_seq ?_
  by_cases h1 : (szTake left (bulkTrainedS a.Trained)) < 0
  ·have eh1 := szTake_ng h1 (by omega)
   refine aw_r [(1, .dec true)] [1, 10] [] [I (szTake left (bulkTrainedS a.Trained)), Bv true] [] [(szTake left (bulkTrainedS a.Trained)) < 0] hB ⟨h1, trivial⟩ ?_
   refine ae_then ?_
   refine aw_true rfl ?_
   refine aR [] [4] [] [I (-1)] [] [] hB trivial ?_
   refine aw_ret ?_
   refine ae_ret_then ?_
   refine ae_ret hB (I (-1)) (by kernel_rfl) (.inl (by refine congrArg I ?_; unfold szTake bulkWriter; split <;> omega)) rfl (fun _ => trivial)
  have eh1 := szTake_nn h1
  refine aw_r [(1, .dec false)] [1, 10] [] [I (szTake left (bulkTrainedS a.Trained)), Bv false] [] [¬ ((szTake left (bulkTrainedS a.Trained)) < 0)] hB ⟨h1, trivial⟩ ?_
  refine ae_then ?_
  refine aw_false rfl ?_
  refine aw_skip ?_
  refine ae_then ?_
  refine aR [] [4] [] [I (szTake left (bulkTrainedS a.Trained))] [] [] hB trivial ?_
  refine aw_ret ?_
  refine ae_ret hB (I (szTake left (bulkTrainedS a.Trained))) (by kernel_rfl) (.inl (by refine congrArg I ?_; unfold szTake bulkWriter; split <;> omega)) rfl (fun _ => trivial)


-- laws.toFeat
theorem toFeat_ok (a : Feat) : Con Tryz.prog 54 [agFeat a] true (agFeat a) := by
  refine fn_ok (fn := Tryz.f54) (nt := 14) Tryz.func54 rfl rfl rfl rfl (by simp [taggedL, tagged]) fun B hB => ?_
  refine aR [(0, .new 1), (1, .new 2)] [1, 2] [1, 2] [.ref 1 0, .ref 2 0] [some (bxFeat a), some (.box [I 0, I 0, I 0])] [] hB trivial ?_
  refine aR [(0, .new 3)] [1, 2, 3] [1, 2, 3] [.ref 1 0, .ref 2 0, .ref 3 0] [some (bxFeat a), some (.box [I 0, I 0, I 0]), some (.box [I 0, I 0, I 0])] [] hB trivial ?_
  refine aR [] [1, 2, 3] [1, 2, 3] [.ref 1 0, .ref 2 0, .ref 3 0] [some (bxFeat a), some (.box [I 0, I 0, I 0]), some (.box [I a.X, I 0, I 0])] [] hB trivial ?_
  refine aR [] [1, 2, 3] [1, 2, 3] [.ref 1 0, .ref 2 0, .ref 3 0] [some (bxFeat a), some (.box [I 0, I 0, I 0]), some (.box [I a.X, I a.Y, I 0])] [] hB trivial ?_
  refine aR [] [2, 3] [2, 3] [.ref 2 0, .ref 3 0] [some (.box [I 0, I 0, I 0]), some (bxFeat a)] [] hB trivial ?_
  refine aR [] [2] [2] [.ref 2 0] [some (bxFeat a)] [] hB trivial ?_
  refine aw_ret ?_
  refine ae_ret hB (agFeat a) (by kernel_rfl) (.inl rfl) rfl (fun _ => (by simp [tagged, taggedL]))


theorem set_at {α : Type} [Inhabited α] {ys xs : List α} {i : Int} (hl : ys.length = xs.length) (hi : i.toNat < xs.length) (h : ∀ j : Nat, (j : Int) < i → at_ ys j = at_ xs j) (j : Nat) (hj : j ≤ i.toNat) : at_ (ys.set i.toNat (at_ xs i.toNat)) j = at_ xs j := by
  by_cases e : i.toNat = j
  · subst e; simp [at_, hl, hi]
  · have := h j (by omega)
    simp only [at_] at this ⊢
    rw [← this]
    simp [e]
/-- Whether two things are the same. -/
def same {α : Type} [DecidableEq α] (x y : α) : Bool := decide (x = y)
theorem same_iff {α : Type} [DecidableEq α] {x y : α} : same x y = true ↔ x = y := by simp [same]
theorem ext_at {α : Type} [Inhabited α] {xs ys : List α} (hl : xs.length = ys.length) (h : ∀ j : Nat, j < xs.length → at_ xs j = at_ ys j) : xs = ys := by
  apply List.ext_getElem hl
  intro i h1 h2
  rw [← at_eq h1, ← at_eq h2]
  exact h i h1

/-- Whether p holds of all numbers below n. -/
def allN (n : Nat) (p : Nat → Bool) : Bool := (List.range n).all p
def anyN (n : Nat) (p : Nat → Bool) : Bool := !(allN n fun j => !(p j))
theorem allN_iff {n : Nat} {p : Nat → Bool} : allN n p = true ↔ ∀ j, j < n → p j = true := by simp [allN, List.all_eq_true]
theorem allN_at {n : Nat} {p : Nat → Bool} (h : ∀ j, j < n → p j = true) : allN n p = true := allN_iff.2 h
theorem allN_get {n : Nat} {p : Nat → Bool} (h : allN n p = true) {k : Nat} (hk : k < n) : p k = true := allN_iff.1 h k hk
theorem allN_not {n : Nat} {p : Nat → Bool} {k : Nat} (hk : k < n) (h : p k = false) : allN n p = false := by
  rw [← Bool.not_eq_true, allN_iff]; intro h'; rw [h' k hk] at h; cases h
theorem anyN_not (n : Nat) (p : Nat → Bool) : anyN n (fun j => !(p j)) = !(allN n p) := by simp [anyN]
theorem anyN_at {n : Nat} {p : Nat → Bool} {k : Nat} (hk : k < n) (h : p k = true) : anyN n p = true := by
  unfold anyN; rw [allN_not hk (by simp [h])]; rfl
theorem anyN_none {n : Nat} {p : Nat → Bool} (h : ∀ j, j < n → p j = false) : anyN n p = false := by
  unfold anyN; rw [allN_at (fun j hj => by simp [h j hj])]; rfl
theorem anyN_iff {n : Nat} {p : Nat → Bool} : anyN n p = true ↔ ∃ j, j < n ∧ p j = true := by
  constructor
  · intro h
    apply Classical.byContradiction
    intro hn
    rw [anyN_none (fun j hj => by rw [← Bool.not_eq_true]; exact fun hp => hn ⟨j, hj, hp⟩)] at h
    cases h
  · rintro ⟨j, hj, hp⟩; exact anyN_at hj hp
theorem up_to {n : Int} {p : Nat → Prop} {i : Int} (hi : 0 ≤ i) (h : ∀ j : Nat, (j : Int) < i → p j) (hp : p i.toNat) : ∀ j : Nat, (j : Int) < i + 1 → p j := fun j hj => by
  by_cases e : j = i.toNat
  · subst e; exact hp
  · exact h j (by omega)

def inB (a l h : Int) : Bool := decide (l ≤ a ∧ a ≤ h)
theorem inB_iff {a l h : Int} : inB a l h = true ↔ l ≤ a ∧ a ≤ h := by simp [inB]
theorem bAt_bd (s : ByteArray) (i : Nat) : 0 ≤ bAt s i ∧ bAt s i ≤ 255 := by
  unfold bAt
  have := (s.data.toList.getD i 0).toNat_lt
  omega

/-- Whether a byte is a label's. -/
def labB (n : Int) : Bool := decide ((97 ≤ n ∧ n ≤ 122) ∨ (48 ≤ n ∧ n ≤ 57) ∨ n = 43 ∨ n = 45 ∨ n = 42 ∨ n = 47 ∨ n = 61 ∨ n = 40 ∨ n = 41 ∨ n = 46 ∨ n = 44)
/-- Whether a string is a label. -/
def okLabel (s : ByteArray) : Bool := decide (s.size = 1) && labB (bAt s 0)

def okF (p : Feat) : Bool := inB p.X 0 255 && (inB p.Y 0 255 && inB p.D 0 7)
theorem okF_iff {p : Feat} : okF p = true ↔ (0 ≤ p.X ∧ p.X ≤ 255) ∧ (0 ≤ p.Y ∧ p.Y ≤ 255) ∧ (0 ≤ p.D ∧ p.D ≤ 7) := by simp [okF, inB, and_assoc]
/-- Whether all are features, and they are 1 to m. -/
def okFeats (xs : List Feat) (m : Int) : Bool := decide (1 ≤ (xs.length : Int) ∧ (xs.length : Int) ≤ m) && allN xs.length (fun j => okF (at_ xs j))
theorem okFeats_n {xs : List Feat} {m : Int} (h : okFeats xs m = true) : 1 ≤ xs.length ∧ (xs.length : Int) ≤ m := by
  simp only [okFeats, Bool.and_eq_true, decide_eq_true_eq] at h; omega
theorem okFeats_at {xs : List Feat} {m : Int} (h : okFeats xs m = true) {j : Nat} (hj : j < xs.length) : okF (at_ xs j) = true := by
  simp only [okFeats, Bool.and_eq_true] at h
  exact allN_get h.2 hj

theorem at_setQ {α : Type} [Inhabited α] {xs : List α} {i : Nat} {y : α} (h : i < xs.length) : at_ (xs.set i y) i = y := by simp [at_, h]
def okTm (t : Template) : Bool := okLabel t.Label && okFeats t.Feats 72
theorem okTm_len {t : Template} (h : okTm t = true) : t.Feats.length ≤ 72 := by
  simp only [okTm, okFeats, Bool.and_eq_true, decide_eq_true_eq] at h
  omega

/-- Whether a feature is one that another one may have become. -/
def nearB (a b : Feat) : Bool := decide (a.D = b.D) && (decide (((a.X - b.X).natAbs : Int) ≤ 40) && decide (((a.Y - b.Y).natAbs : Int) ≤ 40))
/-- Whether a trained template is valid. -/
def okTrained' (t : Trained) : Bool := okLabel t.Label && (okFeats t.Base 72 && (okFeats t.Feats 72 && ((decide (t.Base.length = t.Feats.length) && allN t.Base.length (fun j => nearB (at_ t.Base j) (at_ t.Feats j))) && inB t.Count 0 100)))
theorem okTr_iff {t : Trained} : okTrained' t = true ↔ okLabel t.Label = true ∧ okFeats t.Base 72 = true ∧ okFeats t.Feats 72 = true ∧ (t.Base.length = t.Feats.length ∧ allN t.Base.length (fun j => nearB (at_ t.Base j) (at_ t.Feats j)) = true) ∧ inB t.Count 0 100 = true := by
  simp [okTrained']



def stR (t : Template) : Trained × Int := if okTm t = true then (⟨t.Label, t.Feats, t.Feats, 0⟩, 0) else (⟨⟨#[]⟩, [], [], 0⟩, 1)
theorem stR_yes {t : Template} (h : okTm t = true) : stR t = (⟨t.Label, t.Feats, t.Feats, 0⟩, 0) := if_pos h
theorem stR_no {t : Template} (h : okTm t = false) : stR t = (⟨⟨#[]⟩, [], [], 0⟩, 1) := by simp [stR, h]
/-- Marks. -/
def mkL (k : Int) (n : Nat) : List Feat := (List.range n).map fun j : Nat => ⟨k + 3 * (j : Int), k + 3 * (j : Int) + 1, k + 3 * (j : Int) + 2⟩
theorem mkL_len (k : Int) (n : Nat) : (mkL k n).length = n := by simp [mkL]
theorem mkL_at {k : Int} {n j : Nat} (h : j < n) : at_ (mkL k n) j = ⟨k + 3 * (j : Int), k + 3 * (j : Int) + 1, k + 3 * (j : Int) + 2⟩ := by simp [at_, mkL, h]
theorem mk_next {ys : List Feat} {k : Int} {i : Int} {y : Feat} (h0 : 0 ≤ i) (hi : i.toNat < ys.length) (h : ∀ j : Nat, (j : Int) < i → at_ ys j = ⟨k + 3 * (j : Int), k + 3 * (j : Int) + 1, k + 3 * (j : Int) + 2⟩) (hy : y = ⟨k + 3 * i, k + 3 * i + 1, k + 3 * i + 2⟩) : ∀ j : Nat, (j : Int) < i + 1 → at_ (ys.set i.toNat y) j = ⟨k + 3 * (j : Int), k + 3 * (j : Int) + 1, k + 3 * (j : Int) + 2⟩ := fun j hj => by
  by_cases e : j = i.toNat
  · subst e
    have e2 : ((i.toNat : Nat) : Int) = i := by omega
    rw [e2]
    simp [at_, hi, hy]
  · have h' : ¬ i.toNat = j := fun q => e q.symm
    have : at_ (ys.set i.toNat y) j = at_ ys j := by simp [at_, List.getElem?_set, h']
    rw [this]; exact h j (by omega)

-- laws.toFeatS
theorem toFeatS_own (al : List Feat) (hb : bulkFeatS al ≤ 1048576) : ∃ (ys : List Feat), (ys = al) ∧ CallOK Tryz.prog 20 [slFeat false al] (lookO []) false (.arr 8301) (lookO [(8301, tAFeat ys)]) := by
  have hb0 := bulkFeatS_len al
  have hh : ∃ r : (List Feat), ((r = al) ∧ (True)) ∧ CallOK Tryz.prog 20 [slFeat false al] (lookO []) false (.arr 8301) (lookO [(8301, tAFeat r)]) := by
    refine fn_okX (Φ := fun r : (List Feat) => (r = al) ∧ (True)) [] (fun r => [(8301, tAFeat r)]) (fn := Tryz.f20) (nt := 23) Tryz.func20 rfl rfl (args := [slFeat false al]) rfl (allcons (.inl ⟨rfl, tagFeat false _⟩) allnil) (res := fun r => .arr 8301) ?_
    refine xR [] [0] [] [slFeat false al] [] [] trivial ?_
    refine xR [(2, .new 7)] [0, 3] [7] [slFeat false al, .arr 7] [some (.arr 3 ((al.length : Int).toNat) (fun _ => [I 0, I 0, I 0]))] [(0 : Int) ≤ (al.length : Int) ∧ ((al.length : Int) : Int) ≤ (al.length : Int) ∧ (24 : Int) * (al.length : Int) ≤ 281474976710656 ∧ (al.length : Int) ≤ 9223372036854775807] ⟨⟨(by omega), (by omega), (by omega), (by omega)⟩, trivial⟩ ?_
    refine x_seq ?_
    refine xR [] [0, 3, 4] [7] [slFeat false al, .arr 7, I 0] [some (.arr 3 ((al.length : Int).toNat) (fun _ => [I 0, I 0, I 0]))] [] trivial ?_
    refine x_block ?_
    refine x_weak [] (T := [(0, slFeat false al), (3, .arr 7), (4, I 0)]) (O := [(7, tAFeat (List.replicate ((al.length : Int).toNat) (Feat.mk 0 0 0)))]) rfl (⟨.inl rfl, .inl rfl, .inl rfl, trivial⟩) (⟨.inr ⟨rfl, (by first | rfl | (simp; done) | (simp; omega) | omega), fun i_ hi_ => .inl (const_enc (enc := cFeat) rfl i_ hi_)⟩, trivial⟩) ?_
    refine x_loop (X := Int × (List Feat)) (fun x => mkS [(0, slFeat false al), (3, .arr 7), (4, I x.1)] [(7, tAFeat x.2)]) (fun x => (0 ≤ x.1 ∧ x.1 ≤ (al.length : Int)) ∧ (x.2.length = al.length) ∧ (∀ j : Nat, (j : Int) < x.1 → at_ x.2 j = at_ al j) ∧ True) (fun x => ((al.length : Int) - x.1).toNat) (0, (List.replicate ((al.length : Int).toNat) (Feat.mk 0 0 0))) rfl (show (0 ≤ (0 : Int) ∧ (0 : Int) ≤ (al.length : Int)) ∧ ((List.replicate ((al.length : Int).toNat) (Feat.mk 0 0 0)).length = al.length) ∧ (∀ j : Nat, (j : Int) < (0 : Int) → at_ (List.replicate ((al.length : Int).toNat) (Feat.mk 0 0 0)) j = at_ al j) ∧ True from ⟨(by omega), (by simp), (by intro j hj; omega), trivial⟩) (fun x hI => ?_)
    obtain ⟨i, zs⟩ := x
    obtain ⟨hi0, hy0, hy1, _⟩ : (0 ≤ i ∧ i ≤ (al.length : Int)) ∧ (zs.length = al.length) ∧ (∀ j : Nat, (j : Int) < i → at_ zs j = at_ al j) ∧ True := hI
    show XW _ _ _ _ (mkS [(0, slFeat false al), (3, .arr 7), (4, I i)] [(7, tAFeat zs)]) _ _
    refine x_seq ?_
    refine x_seq ?_
    by_cases h1 : i < (al.length : Int)
    ·have hi : i.toNat < al.length := by omega
     have hiy : i.toNat < zs.length := by omega
     refine x_r [(3, .dec true)] [0, 3, 4, 11] [7] [slFeat false al, .arr 7, I i, Bv true] [some (tAFeat zs)] [i < (al.length : Int)] ⟨h1, trivial⟩ ?_
     refine xe_then ?_
     refine x_true rfl ?_
     refine x_skip ?_
     refine xe_then ?_
     refine x_seq ?_
     refine x_block ?_
     refine x_r [(6, .call [(true, .any)] true (agFeat (at_ al i.toNat)))] [0, 3, 4] [7] [slFeat false al, .arr 7, I i] [some (.arr 3 zs.length (fun q => bif Nat.beq q i.toNat then [I ((at_ al i.toNat).X), I ((at_ al i.toNat).Y), I ((at_ al i.toNat).D)] else (fFeat zs) q))] [(0 : Int) ≤ i ∧ i < (al.length : Int), Con Tryz.prog 54 [agFeat (at_ al i.toNat)] true (agFeat (at_ al i.toNat)) ∧ True, (0 : Int) ≤ i ∧ i < (zs.length : Int), i.toNat < zs.length] ⟨⟨(by omega), (by omega)⟩, ⟨(toFeat_ok (at_ al i.toNat)), trivial⟩, ⟨(by omega), (by omega)⟩, (by omega), trivial⟩ ?_
     refine xe_block 1 ?_
     refine xe_then ?_
     refine x_r [] [0, 3, 4] [7] [slFeat false al, .arr 7, I (i + 1)] [some (.arr 3 zs.length (fun q => bif Nat.beq q i.toNat then [I ((at_ al i.toNat).X), I ((at_ al i.toNat).Y), I ((at_ al i.toNat).D)] else (fFeat zs) q))] [inR .i64 (i + 1)] ⟨(inR_i64 (by omega) (by omega)), trivial⟩ ?_
     refine xe_weak [] (T := [(0, slFeat false al), (3, .arr 7), (4, I (i + 1))]) (O := [(7, tAFeat (zs.set i.toNat (at_ al i.toNat)))]) rfl (⟨.inl rfl, .inl rfl, .inl rfl, trivial⟩) (⟨.inr ⟨rfl, (by first | rfl | (simp; done) | (simp; omega) | omega), fun i_ hi_ => .inl (upd_enc (enc := cFeat) rfl i_ hi_)⟩, trivial⟩) (xe_again ((i + 1), (zs.set i.toNat (at_ al i.toNat))) rfl (show (0 ≤ (i + 1) ∧ (i + 1) ≤ (al.length : Int)) ∧ ((zs.set i.toNat (at_ al i.toNat)).length = al.length) ∧ (∀ j : Nat, (j : Int) < (i + 1) → at_ (zs.set i.toNat (at_ al i.toNat)) j = at_ al j) ∧ True from ⟨(by omega), (by simp [hy0]), (by intro j hj; exact set_at hy0 hi hy1 j (by omega)), trivial⟩) (by first | (show (((al.length : Int) - (i + 1)).toNat : Nat) < ((al.length : Int) - i).toNat; omega) | (dsimp only; omega)))
    refine x_r [(3, .dec false)] [0, 3, 4, 11] [7] [slFeat false al, .arr 7, I i, Bv false] [some (tAFeat zs)] [¬ (i < (al.length : Int))] ⟨h1, trivial⟩ ?_
    refine xe_then ?_
    refine x_false rfl ?_
    refine x_exit ?_
    refine xe_exit_then ?_
    refine xe_loop_exit ?_
    refine xe_exit_same ?_
    refine xe_then ?_
    refine xR [] [2] [7] [.arr 7] [some (tAFeat zs)] [] trivial ?_
    refine x_ret ?_
    refine xe_weak [(8301, 7)] (T := [(2, .arr 8301)]) (O := [(8301, tAFeat zs)]) rfl (⟨.inl rfl, trivial⟩) (⟨.inl rfl, trivial⟩) ?_
    refine xe_end zs (show (zs = al) ∧ (True) from ⟨(by exact ext_at hy0 (fun j hj => hy1 j (by omega))), trivial⟩) (⟨.inl rfl, trivial⟩) (.arr 8301) (by kernel_rfl) (.inl rfl) (fun h => by cases h) (fun h => by cases h)
  obtain ⟨ys, ⟨hh0, _⟩, hc⟩ := hh
  exact ⟨ys, hh0, hc⟩


-- laws.toTrained
theorem toTrained_own (t : Trained) (hb : bulkFeatS t.Base ≤ 1048576 ∧ bulkFeatS t.Feats ≤ 1048576) : ∃ (bs : List Feat) (fs : List Feat), (bs = t.Base) ∧ (fs = t.Feats) ∧ CallOK Tryz.prog 90 [agTrained t] (lookO []) false (.agg [Sv t.Label, .arr 8303, .arr 8304, I t.Count]) (lookO [(8303, tAFeat bs), (8304, tAFeat fs)]) := by
  have hh : ∃ r : (List Feat) × (List Feat), ((r.1 = t.Base) ∧ (r.2 = t.Feats) ∧ (True)) ∧ CallOK Tryz.prog 90 [agTrained t] (lookO []) false (.agg [Sv t.Label, .arr 8303, .arr 8304, I t.Count]) (lookO [(8303, tAFeat r.1), (8304, tAFeat r.2)]) := by
    refine fn_okX (Φ := fun r : (List Feat) × (List Feat) => (r.1 = t.Base) ∧ (r.2 = t.Feats) ∧ (True)) [] (fun r => [(8303, tAFeat r.1), (8304, tAFeat r.2)]) (fn := Tryz.f90) (nt := 19) Tryz.func90 rfl rfl (args := [agTrained t]) rfl (allcons (.inl ⟨rfl, by simp [tagged, taggedL, tagFeat]⟩) allnil) (res := fun r => .agg [Sv t.Label, .arr 8303, .arr 8304, I t.Count]) ?_
    refine xR [(0, .new 1), (1, .new 2)] [1, 2] [1, 2] [.ref 1 0, .ref 2 0] [some (bxTrained t), some (.box [Sv (⟨#[]⟩ : ByteArray), nilA, nilA, I 0])] [] trivial ?_
    refine xR [(0, .new 3)] [1, 2, 3] [1, 2, 3] [.ref 1 0, .ref 2 0, .ref 3 0] [some (bxTrained t), some (.box [Sv (⟨#[]⟩ : ByteArray), nilA, nilA, I 0]), some (.box [Sv (⟨#[]⟩ : ByteArray), nilA, nilA, I 0])] [] trivial ?_
    refine xR [] [1, 2, 3] [1, 2, 3] [.ref 1 0, .ref 2 0, .ref 3 0] [some (bxTrained t), some (.box [Sv (⟨#[]⟩ : ByteArray), nilA, nilA, I 0]), some (.box [Sv t.Label, nilA, nilA, I 0])] [] trivial ?_
    refine x_seq ?_
    obtain ⟨ys_1, hx1_0, hc1⟩ := toFeatS_own t.Base hb.1
    refine x_r [(2, .lend [] [(8301, tAFeat ys_1)] [(true, .any)] false (.arr 8301))] [1, 2, 3] [1, 2, 3, 8301] [.ref 1 0, .ref 2 0, .ref 3 0] [some (bxTrained t), some (.box [Sv (⟨#[]⟩ : ByteArray), nilA, nilA, I 0]), some (.box [Sv t.Label, .arr 8301, nilA, I 0]), some (tAFeat ys_1)] [CallOK Tryz.prog 20 [slFeat false t.Base] (lookO []) false (.arr 8301) (lookO [(8301, tAFeat ys_1)]) ∧ True] ⟨⟨hc1, trivial⟩, trivial⟩ ?_
    refine xe_then ?_
    refine x_seq ?_
    refine x_weak [(7901, 8301)] (T := [(1, .ref 1 0), (2, .ref 2 0), (3, .ref 3 0)]) (O := [(1, bxTrained t), (2, .box [Sv (⟨#[]⟩ : ByteArray), nilA, nilA, I 0]), (3, .box [Sv t.Label, .arr 7901, nilA, I 0]), (7901, tAFeat ys_1)]) rfl (⟨.inl rfl, .inl rfl, .inl rfl, trivial⟩) (⟨.inl rfl, .inl rfl, .inl rfl, .inl rfl, trivial⟩) ?_
    obtain ⟨ys_2, hx2_0, hc2⟩ := toFeatS_own t.Feats hb.2
    refine x_r [(2, .lend [] [(8301, tAFeat ys_2)] [(true, .any)] false (.arr 8301))] [1, 2, 3] [1, 2, 3, 7901, 8301] [.ref 1 0, .ref 2 0, .ref 3 0] [some (bxTrained t), some (.box [Sv (⟨#[]⟩ : ByteArray), nilA, nilA, I 0]), some (.box [Sv t.Label, .arr 7901, .arr 8301, I 0]), some (tAFeat ys_1), some (tAFeat ys_2)] [CallOK Tryz.prog 20 [slFeat false t.Feats] (lookO []) false (.arr 8301) (lookO [(8301, tAFeat ys_2)]) ∧ True] ⟨⟨hc2, trivial⟩, trivial⟩ ?_
    refine xe_then ?_
    refine xR [] [2, 3] [2, 3, 7901, 8301] [.ref 2 0, .ref 3 0] [some (.box [Sv (⟨#[]⟩ : ByteArray), nilA, nilA, I 0]), some (.box [Sv t.Label, .arr 7901, .arr 8301, I t.Count]), some (tAFeat ys_1), some (tAFeat ys_2)] [] trivial ?_
    refine xR [] [2] [2, 7901, 8301] [.ref 2 0] [some (.box [Sv t.Label, .arr 7901, .arr 8301, I t.Count]), some (tAFeat ys_1), some (tAFeat ys_2)] [] trivial ?_
    refine x_ret ?_
    refine xe_weak [(8303, 7901), (8304, 8301)] (T := [(2, .ref 2 0)]) (O := [(2, .box [Sv t.Label, .arr 8303, .arr 8304, I t.Count]), (8303, tAFeat ys_1), (8304, tAFeat ys_2)]) rfl (⟨.inl rfl, trivial⟩) (⟨.inl rfl, .inl rfl, .inl rfl, trivial⟩) ?_
    refine xe_end (ys_1, ys_2) (show (ys_1 = t.Base) ∧ (ys_2 = t.Feats) ∧ (True) from ⟨(by assumption), (by assumption), trivial⟩) (⟨.inl rfl, .inl rfl, trivial⟩) (.agg [Sv t.Label, .arr 8303, .arr 8304, I t.Count]) (by kernel_rfl) (.inl rfl) (fun h => by cases h) (fun h => by cases h)
  obtain ⟨⟨bs, fs⟩, ⟨hh0, hh1, _⟩, hc⟩ := hh
  exact ⟨bs, fs, hh0, hh1, hc⟩


theorem beq_ne {i k : Nat} (h : i ≠ k) : Nat.beq i k = false := Bool.eq_false_iff.2 fun e => h (Nat.eq_of_beq_eq_true e)
theorem at_set_eq {α : Type} [Inhabited α] {xs : List α} {k : Nat} {c : α} (h : k < xs.length) : at_ (xs.set k c) k = c := by simp [at_, h]
theorem at_set_ne {α : Type} [Inhabited α] {xs : List α} {k i : Nat} {c : α} (h : i ≠ k) : at_ (xs.set k c) i = at_ xs i := by
  have : ¬ k = i := fun e => h e.symm
  simp [at_, this]
theorem le_row {ob : Nat → Option Ob} {F N sz p n : Nat} {m : Nat → Nat} {g : Nat → Nat → List AV} {fr : Bool} {f : Nat → List AV} (h : ob F = some (.fam N sz m g)) (hp : p < N) (hn : m p = n)
    (hf : ∀ i, i < n → g p i = f i ∨ (AV.idsL (f i) = [] ∧ leL (fun _ => none) false (g p i) (f i))) : le ob true (.row F p) (.sl fr sz n f) := by
  simp only [le, h]
  exact ⟨fun _ => trivial, hp, trivial, hn, hf⟩

def Trained.withBase (x : Trained) (ys : List Feat) : Trained := Trained.mk x.Label ys x.Feats x.Count
def Trained.withFeats (x : Trained) (ys : List Feat) : Trained := Trained.mk x.Label x.Base ys x.Count
def oTrainedc (F0 F1 : Nat) (x : Trained) (i : Nat) : List AV := [Sv x.Label, .row F0 i, .row F1 i, I x.Count]
def oTrained (F0 F1 : Nat) (xs : List Trained) (i : Nat) : List AV := oTrainedc F0 F1 (at_ xs i) i
def mTrainedBase (xs : List Trained) (p : Nat) : Nat := (at_ xs p).Base.length
def gTrainedBase (xs : List Trained) (p : Nat) : Nat → List AV := fFeat (at_ xs p).Base
theorem fcatTrainedBase {xs : List Trained} (x : Trained) {n : Nat} {f : Nat → List AV} (hn : n = x.Base.length) (hf : ∀ i, i < n → f i = fFeat x.Base i) : xs.length + 1 = (xs ++ [x]).length ∧ 3 = 3 ∧ ∀ p, p < (xs ++ [x]).length → famUp xs.length n (mTrainedBase xs) p = mTrainedBase (xs ++ [x]) p ∧ ∀ i, i < mTrainedBase (xs ++ [x]) p → famUpF xs.length f (gTrainedBase xs) p i = gTrainedBase (xs ++ [x]) p i ∨ (AV.idsL (gTrainedBase (xs ++ [x]) p i) = [] ∧ leL (fun _ => none) false (famUpF xs.length f (gTrainedBase xs) p i) (gTrainedBase (xs ++ [x]) p i)) := by
  refine ⟨by simp, rfl, fun p hp => ?_⟩
  by_cases h : p < xs.length
  · have e : Nat.beq p xs.length = false := Bool.eq_false_iff.2 fun e => by have := Nat.eq_of_beq_eq_true e; omega
    simp [famUp, famUpF, e, mTrainedBase, gTrainedBase, at_left h]
  · have e : p = xs.length := by simp at hp; omega
    subst e
    have e2 : at_ (xs ++ [x]) xs.length = x := by simp [at_right (Nat.le_refl _), at_]
    simp only [famUp, famUpF, Nat.beq_refl, cond_true, mTrainedBase, gTrainedBase, e2]
    exact ⟨hn, fun i hi => .inl (hf i (by omega))⟩
theorem osetTrainedBase (F0 F1 P : Nat) (xs : List Trained) (ys : List Feat) (i : Nat) : oTrained F0 F1 xs i = oTrained F0 F1 (xs.set P (Trained.withBase (at_ xs P) ys)) i := by
  unfold oTrained
  by_cases h : P = i
  · subst h
    by_cases hl : P < xs.length
    · simp [at_, hl, oTrainedc, Trained.withBase]
    · rw [List.set_eq_of_length_le (by omega)]
  · simp [at_, h]
def mTrainedFeats (xs : List Trained) (p : Nat) : Nat := (at_ xs p).Feats.length
def gTrainedFeats (xs : List Trained) (p : Nat) : Nat → List AV := fFeat (at_ xs p).Feats
theorem fcatTrainedFeats {xs : List Trained} (x : Trained) {n : Nat} {f : Nat → List AV} (hn : n = x.Feats.length) (hf : ∀ i, i < n → f i = fFeat x.Feats i) : xs.length + 1 = (xs ++ [x]).length ∧ 3 = 3 ∧ ∀ p, p < (xs ++ [x]).length → famUp xs.length n (mTrainedFeats xs) p = mTrainedFeats (xs ++ [x]) p ∧ ∀ i, i < mTrainedFeats (xs ++ [x]) p → famUpF xs.length f (gTrainedFeats xs) p i = gTrainedFeats (xs ++ [x]) p i ∨ (AV.idsL (gTrainedFeats (xs ++ [x]) p i) = [] ∧ leL (fun _ => none) false (famUpF xs.length f (gTrainedFeats xs) p i) (gTrainedFeats (xs ++ [x]) p i)) := by
  refine ⟨by simp, rfl, fun p hp => ?_⟩
  by_cases h : p < xs.length
  · have e : Nat.beq p xs.length = false := Bool.eq_false_iff.2 fun e => by have := Nat.eq_of_beq_eq_true e; omega
    simp [famUp, famUpF, e, mTrainedFeats, gTrainedFeats, at_left h]
  · have e : p = xs.length := by simp at hp; omega
    subst e
    have e2 : at_ (xs ++ [x]) xs.length = x := by simp [at_right (Nat.le_refl _), at_]
    simp only [famUp, famUpF, Nat.beq_refl, cond_true, mTrainedFeats, gTrainedFeats, e2]
    exact ⟨hn, fun i hi => .inl (hf i (by omega))⟩
theorem osetTrainedFeats (F0 F1 P : Nat) (xs : List Trained) (ys : List Feat) (i : Nat) : oTrained F0 F1 xs i = oTrained F0 F1 (xs.set P (Trained.withFeats (at_ xs P) ys)) i := by
  unfold oTrained
  by_cases h : P = i
  · subst h
    by_cases hl : P < xs.length
    · simp [at_, hl, oTrainedc, Trained.withFeats]
    · rw [List.set_eq_of_length_le (by omega)]
  · simp [at_, h]
abbrev tOTrained (F0 F1 : Nat) (xs : List Trained) : Ob := .oar [F0, F1] 4 xs.length (oTrained F0 F1 xs)
abbrev tFTrainedBase (xs : List Trained) : Ob := .fam xs.length 3 (mTrainedBase xs) (gTrainedBase xs)
abbrev tFTrainedFeats (xs : List Trained) : Ob := .fam xs.length 3 (mTrainedFeats xs) (gTrainedFeats xs)
theorem oleTrained {ob : Nat → Option Ob} {F0 F1 : Nat} (fr : Bool) (xs : List Trained) (h0 : ob F0 = some (.fam xs.length 3 (mTrainedBase xs) (gTrainedBase xs))) (h1 : ob F1 = some (.fam xs.length 3 (mTrainedFeats xs) (gTrainedFeats xs))) : ∀ i, i < xs.length → AV.idsL (fTrained fr xs i) = [] ∧ leL ob true (oTrained F0 F1 xs i) (fTrained fr xs i) :=
  fun i hi => And.intro rfl (And.intro rfl (And.intro (le_row h0 hi rfl (fun q _ => .inl rfl)) (And.intro (le_row h1 hi rfl (fun q _ => .inl rfl)) (And.intro rfl rfl))))
theorem ocatTrained {F0 F1 j0 j1 N : Nat} (h00 : Nat.beq F0 j0 = false) (h01 : Nat.beq F0 j1 = false) (h10 : Nat.beq F1 j0 = false) (h11 : Nat.beq F1 j1 = false) {xs : List Trained} {x : Trained} {g : Nat → List AV} (hN : N = xs.length) (hx : (AV.joiL j1 F1 N (AV.joiL j0 F0 N (g 0))) = oTrainedc F0 F1 x N) : ∀ i, i < (xs ++ [x]).length → (AV.joiL j1 F1 N (AV.joiL j0 F0 N (catF xs.length (oTrained F0 F1 xs) g i))) = oTrained F0 F1 (xs ++ [x]) i := by
  subst hN
  intro i hi
  by_cases h : i < xs.length
  · rw [catF_lt h]
    simp [oTrained, oTrainedc, at_left h, AV.joiL, AV.joi, *]
  · have e : i = xs.length := by simp at hi; omega
    subst e
    rw [catF_ge (Nat.le_refl _), Nat.sub_self, hx]
    simp [oTrained, at_right (Nat.le_refl _), at_]
theorem fsameTrainedBase {xs : List Trained} {P : Nat} {x' : Trained} (hx : x'.Base = (at_ xs P).Base) : xs.length = (xs.set P x').length ∧ 3 = 3 ∧ ∀ p, p < (xs.set P x').length → mTrainedBase xs p = mTrainedBase (xs.set P x') p ∧ ∀ i, i < mTrainedBase (xs.set P x') p → gTrainedBase xs p i = gTrainedBase (xs.set P x') p i ∨ (AV.idsL (gTrainedBase (xs.set P x') p i) = [] ∧ leL (fun _ => none) false (gTrainedBase xs p i) (gTrainedBase (xs.set P x') p i)) := by
  refine ⟨by simp, rfl, fun p hp => ?_⟩
  have e : (at_ (xs.set P x') p).Base = (at_ xs p).Base := by
    by_cases h : p = P
    · subst h; rw [at_set_eq (by simpa using hp)]; exact hx
    · rw [at_set_ne h]
  simp only [mTrainedBase, gTrainedBase, e]
  first | exact ⟨trivial, fun i hi => .inl rfl⟩ | exact ⟨trivial, fun i hi => .inl trivial⟩
theorem fputTrainedBase {xs : List Trained} {P m1 : Nat} {ys : List Feat} {f1 : Nat → List AV} (hP : P < xs.length) (hm : m1 = ys.length) (hf : ∀ i, i < m1 → f1 i = fFeat ys i) : xs.length = (xs.set P (Trained.withBase (at_ xs P) ys)).length ∧ 3 = 3 ∧ ∀ p, p < (xs.set P (Trained.withBase (at_ xs P) ys)).length → famUp P m1 (mTrainedBase xs) p = mTrainedBase (xs.set P (Trained.withBase (at_ xs P) ys)) p ∧ ∀ i, i < mTrainedBase (xs.set P (Trained.withBase (at_ xs P) ys)) p → famUpF P f1 (gTrainedBase xs) p i = gTrainedBase (xs.set P (Trained.withBase (at_ xs P) ys)) p i ∨ (AV.idsL (gTrainedBase (xs.set P (Trained.withBase (at_ xs P) ys)) p i) = [] ∧ leL (fun _ => none) false (famUpF P f1 (gTrainedBase xs) p i) (gTrainedBase (xs.set P (Trained.withBase (at_ xs P) ys)) p i)) := by
  refine ⟨by simp, rfl, fun p hp => ?_⟩
  by_cases h : p = P
  · subst h
    have e : (at_ (xs.set p (Trained.withBase (at_ xs p) ys)) p).Base = ys := by rw [at_set_eq hP]; rfl
    simp only [mTrainedBase, gTrainedBase, famUp_at, famUpF_at, e]
    exact ⟨hm, fun i hi => .inl (hf i (by omega))⟩
  · have e : at_ (xs.set P (Trained.withBase (at_ xs P) ys)) p = at_ xs p := at_set_ne h
    simp only [mTrainedBase, gTrainedBase, famUp_ne _ _ h, famUpF_ne _ _ h, e]
    first | exact ⟨trivial, fun i hi => .inl rfl⟩ | exact ⟨trivial, fun i hi => .inl trivial⟩
theorem fsameTrainedFeats {xs : List Trained} {P : Nat} {x' : Trained} (hx : x'.Feats = (at_ xs P).Feats) : xs.length = (xs.set P x').length ∧ 3 = 3 ∧ ∀ p, p < (xs.set P x').length → mTrainedFeats xs p = mTrainedFeats (xs.set P x') p ∧ ∀ i, i < mTrainedFeats (xs.set P x') p → gTrainedFeats xs p i = gTrainedFeats (xs.set P x') p i ∨ (AV.idsL (gTrainedFeats (xs.set P x') p i) = [] ∧ leL (fun _ => none) false (gTrainedFeats xs p i) (gTrainedFeats (xs.set P x') p i)) := by
  refine ⟨by simp, rfl, fun p hp => ?_⟩
  have e : (at_ (xs.set P x') p).Feats = (at_ xs p).Feats := by
    by_cases h : p = P
    · subst h; rw [at_set_eq (by simpa using hp)]; exact hx
    · rw [at_set_ne h]
  simp only [mTrainedFeats, gTrainedFeats, e]
  first | exact ⟨trivial, fun i hi => .inl rfl⟩ | exact ⟨trivial, fun i hi => .inl trivial⟩
theorem fputTrainedFeats {xs : List Trained} {P m1 : Nat} {ys : List Feat} {f1 : Nat → List AV} (hP : P < xs.length) (hm : m1 = ys.length) (hf : ∀ i, i < m1 → f1 i = fFeat ys i) : xs.length = (xs.set P (Trained.withFeats (at_ xs P) ys)).length ∧ 3 = 3 ∧ ∀ p, p < (xs.set P (Trained.withFeats (at_ xs P) ys)).length → famUp P m1 (mTrainedFeats xs) p = mTrainedFeats (xs.set P (Trained.withFeats (at_ xs P) ys)) p ∧ ∀ i, i < mTrainedFeats (xs.set P (Trained.withFeats (at_ xs P) ys)) p → famUpF P f1 (gTrainedFeats xs) p i = gTrainedFeats (xs.set P (Trained.withFeats (at_ xs P) ys)) p i ∨ (AV.idsL (gTrainedFeats (xs.set P (Trained.withFeats (at_ xs P) ys)) p i) = [] ∧ leL (fun _ => none) false (famUpF P f1 (gTrainedFeats xs) p i) (gTrainedFeats (xs.set P (Trained.withFeats (at_ xs P) ys)) p i)) := by
  refine ⟨by simp, rfl, fun p hp => ?_⟩
  by_cases h : p = P
  · subst h
    have e : (at_ (xs.set p (Trained.withFeats (at_ xs p) ys)) p).Feats = ys := by rw [at_set_eq hP]; rfl
    simp only [mTrainedFeats, gTrainedFeats, famUp_at, famUpF_at, e]
    exact ⟨hm, fun i hi => .inl (hf i (by omega))⟩
  · have e : at_ (xs.set P (Trained.withFeats (at_ xs P) ys)) p = at_ xs p := at_set_ne h
    simp only [mTrainedFeats, gTrainedFeats, famUp_ne _ _ h, famUpF_ne _ _ h, e]
    first | exact ⟨trivial, fun i hi => .inl rfl⟩ | exact ⟨trivial, fun i hi => .inl trivial⟩
theorem oputTrained (F0 F1 P : Nat) {xs : List Trained} {x' : Trained} (i : Nat) (hi : i < (xs.set P x').length) : (bif Nat.beq i P then oTrainedc F0 F1 x' P else oTrained F0 F1 xs i) = oTrained F0 F1 (xs.set P x') i := by
  by_cases h : i = P
  · subst h
    have hl : i < xs.length := by simpa using hi
    simp only [Nat.beq_refl, cond_true, oTrained, at_set_eq hl]
  · simp only [beq_ne h, cond_false, oTrained, at_set_ne h]
theorem opreTrained {F0 F1 j0 j1 P : Nat} (h00 : Nat.beq F0 j0 = false) (h01 : Nat.beq F0 j1 = false) (h10 : Nat.beq F1 j0 = false) (h11 : Nat.beq F1 j1 = false) (i01 : Nat.beq j0 j1 = false) (i10 : Nat.beq j1 j0 = false) {xs : List Trained} {x : Trained} (hP : P = xs.length) (i : Nat) : (AV.joiL j1 F1 xs.length (AV.joiL j0 F0 xs.length (bif Nat.beq i P then spl (catF xs.length (oTrained F0 F1 xs) (fun _ => [Sv (⟨#[]⟩ : ByteArray), nilA, nilA, I 0]) P) 0 [Sv x.Label, .arr j0, .arr j1, I x.Count] else catF xs.length (oTrained F0 F1 xs) (fun _ => [Sv (⟨#[]⟩ : ByteArray), nilA, nilA, I 0]) i))) = catF (xs ++ [x]).length (oTrained F0 F1 (xs ++ [x])) (fun _ => [Sv (⟨#[]⟩ : ByteArray), nilA, nilA, I 0]) i := by
  subst hP
  have e0 : spl (catF xs.length (oTrained F0 F1 xs) (fun _ => [Sv (⟨#[]⟩ : ByteArray), nilA, nilA, I 0]) xs.length) 0 [Sv x.Label, .arr j0, .arr j1, I x.Count] = [Sv x.Label, .arr j0, .arr j1, I x.Count] := by rw [catF_ge (Nat.le_refl _)]; rfl
  have eR : ∀ i, i < xs.length + 1 → catF (xs ++ [x]).length (oTrained F0 F1 (xs ++ [x])) (fun _ => [Sv (⟨#[]⟩ : ByteArray), nilA, nilA, I 0]) i = oTrained F0 F1 (xs ++ [x]) i := fun i h => catF_lt (by simpa using h)
  by_cases h : i < xs.length
  · have eL : catF xs.length (oTrained F0 F1 xs) (fun _ => [Sv (⟨#[]⟩ : ByteArray), nilA, nilA, I 0]) i = oTrained F0 F1 xs i := catF_lt h
    rw [beq_ne (by omega), cond_false, eL, eR i (by omega)]
    simp [oTrained, oTrainedc, at_left h, AV.joiL, AV.joi, *]
  · by_cases e : i = xs.length
    · subst e
      rw [Nat.beq_refl, cond_true, e0, eR _ (by omega)]
      simp [oTrained, oTrainedc, at_right (Nat.le_refl _), at_, AV.joiL, AV.joi, *]
    · have eL : catF xs.length (oTrained F0 F1 xs) (fun _ => [Sv (⟨#[]⟩ : ByteArray), nilA, nilA, I 0]) i = [Sv (⟨#[]⟩ : ByteArray), nilA, nilA, I 0] := catF_ge (by omega)
      have eT : catF (xs ++ [x]).length (oTrained F0 F1 (xs ++ [x])) (fun _ => [Sv (⟨#[]⟩ : ByteArray), nilA, nilA, I 0]) i = [Sv (⟨#[]⟩ : ByteArray), nilA, nilA, I 0] := catF_ge (by simp; omega)
      rw [beq_ne e, cond_false, eL, eT]
      rfl

theorem fgsetFeat {ob : Nat → Option Ob} {N p k j : Nat} {m : Nat → Nat} {g : Nat → Nat → List AV} {ys : List Feat} {c : Feat} {cs : List AV} (hk : k < ys.length) (h : spl (fFeat ys k) j cs = cFeat c) :
    obLe ob true (.fam N 3 (famUp p ys.length m) (fun q => bif Nat.beq q p then (fun q => bif Nat.beq q k then spl (famUpF p (fFeat ys) g p k) j cs else famUpF p (fFeat ys) g p q) else famUpF p (fFeat ys) g q)) (.fam N 3 (famUp p (ys.set k c).length m) (famUpF p (fFeat (ys.set k c)) g)) :=
  fg_set (by simp) (h.trans (by show _ = cFeat (at_ _ _); rw [at_set_eq hk])) (fun i hi => by show cFeat (at_ _ _) = cFeat (at_ (ys.set k c) i); rw [at_set_ne hi])

-- laws.toTrainedS
theorem toTrainedS_own (al : List Trained) (hb : bulkTrainedS al ≤ 1048576) : ∃ (ys : List Trained), (ys = al) ∧ CallOK Tryz.prog 53 [slTrained false al] (lookO []) false (.arr 7401) (lookO [(7401, tOTrained 7411 7412 ys), (7411, tFTrainedBase ys), (7412, tFTrainedFeats ys)]) := by
  have hb0 := bulkTrainedS_len al
  have hh : ∃ r : (List Trained), ((r = al) ∧ (True)) ∧ CallOK Tryz.prog 53 [slTrained false al] (lookO []) false (.arr 7401) (lookO [(7401, tOTrained 7411 7412 r), (7411, tFTrainedBase r), (7412, tFTrainedFeats r)]) := by
    refine fn_okX (Φ := fun r : (List Trained) => (r = al) ∧ (True)) [] (fun r => [(7401, tOTrained 7411 7412 r), (7411, tFTrainedBase r), (7412, tFTrainedFeats r)]) (fn := Tryz.f53) (nt := 23) Tryz.func53 rfl rfl (args := [slTrained false al]) rfl (allcons (.inl ⟨rfl, tagTrained false _⟩) allnil) (res := fun r => .arr 7401) ?_
    refine xR [] [0] [] [slTrained false al] [] [] trivial ?_
    refine xR [(2, .new 7)] [0, 3] [7] [slTrained false al, .arr 7] [some (.arr 4 ((al.length : Int).toNat) (fun _ => [Sv (⟨#[]⟩ : ByteArray), nilA, nilA, I 0]))] [(0 : Int) ≤ (al.length : Int) ∧ ((al.length : Int) : Int) ≤ (al.length : Int) ∧ (72 : Int) * (al.length : Int) ≤ 281474976710656 ∧ (al.length : Int) ≤ 9223372036854775807] ⟨⟨(by omega), (by omega), (by omega), (by omega)⟩, trivial⟩ ?_
    refine x_seq ?_
    refine xR [] [0, 3, 4] [7] [slTrained false al, .arr 7, I 0] [some (.arr 4 ((al.length : Int).toNat) (fun _ => [Sv (⟨#[]⟩ : ByteArray), nilA, nilA, I 0]))] [] trivial ?_
    refine x_block ?_
    refine x_fam 7411 3 (fun _ => 0) (fun _ _ => []) (by kernel_rfl) ?_
    refine x_fam 7412 3 (fun _ => 0) (fun _ _ => []) (by kernel_rfl) ?_
    refine x_weak [] (T := [(0, slTrained false al), (3, .arr 7), (4, I 0)]) (O := [(7, .oar [7411, 7412] 4 ((al.length : Int).toNat) (catF (([] : List Trained).length) (oTrained 7411 7412 ([] : List Trained)) (fun _ => [Sv (⟨#[]⟩ : ByteArray), nilA, nilA, I 0]))), (7411, tFTrainedBase ([] : List Trained)), (7412, tFTrainedFeats ([] : List Trained))]) rfl (⟨.inl rfl, .inl rfl, .inl rfl, trivial⟩) (⟨.inr ⟨rfl, rfl, fun i_ hi_ => rfl⟩, .inr ⟨rfl, rfl, fun p hp => absurd hp (Nat.not_lt_zero _)⟩, .inr ⟨rfl, rfl, fun p hp => absurd hp (Nat.not_lt_zero _)⟩, trivial⟩) ?_
    refine x_loop (X := Int × (List Trained)) (fun x => mkS [(0, slTrained false al), (3, .arr 7), (4, I x.1)] [(7, .oar [7411, 7412] 4 ((al.length : Int).toNat) (catF x.2.length (oTrained 7411 7412 x.2) (fun _ => [Sv (⟨#[]⟩ : ByteArray), nilA, nilA, I 0]))), (7411, tFTrainedBase x.2), (7412, tFTrainedFeats x.2)]) (fun x => (0 ≤ x.1 ∧ x.1 ≤ (al.length : Int)) ∧ (x.2.length = x.1.toNat) ∧ (x.2 = al.take x.1.toNat) ∧ True) (fun x => ((al.length : Int) - x.1).toNat) (0, ([] : List Trained)) rfl (show (0 ≤ (0 : Int) ∧ (0 : Int) ≤ (al.length : Int)) ∧ (([] : List Trained).length = (0 : Int).toNat) ∧ (([] : List Trained) = al.take (0 : Int).toNat) ∧ True from ⟨(by omega), (by rfl), (by rfl), trivial⟩) (fun x hI => ?_)
    obtain ⟨i, zs⟩ := x
    obtain ⟨hi0, hy0, hy1, _⟩ : (0 ≤ i ∧ i ≤ (al.length : Int)) ∧ (zs.length = i.toNat) ∧ (zs = al.take i.toNat) ∧ True := hI
    show XW _ _ _ _ (mkS [(0, slTrained false al), (3, .arr 7), (4, I i)] [(7, .oar [7411, 7412] 4 ((al.length : Int).toNat) (catF zs.length (oTrained 7411 7412 zs) (fun _ => [Sv (⟨#[]⟩ : ByteArray), nilA, nilA, I 0]))), (7411, tFTrainedBase zs), (7412, tFTrainedFeats zs)]) _ _
    refine x_seq ?_
    refine x_seq ?_
    by_cases h1 : i < (al.length : Int)
    ·have hi : i.toNat < al.length := by omega
     refine x_r [(3, .dec true)] [0, 3, 4, 11] [7, 7411, 7412] [slTrained false al, .arr 7, I i, Bv true] [some (.oar [7411, 7412] 4 ((al.length : Int).toNat) (catF zs.length (oTrained 7411 7412 zs) (fun _ => [Sv (⟨#[]⟩ : ByteArray), nilA, nilA, I 0]))), some (tFTrainedBase zs), some (tFTrainedFeats zs)] [i < (al.length : Int)] ⟨h1, trivial⟩ ?_
     refine xe_then ?_
     refine x_true rfl ?_
     refine x_skip ?_
     refine xe_then ?_
     refine x_seq ?_
     refine x_block ?_
     obtain ⟨bs_1, fs_1, hx1_0, hx1_1, hc1⟩ := toTrained_own (at_ al i.toNat) (by have := bulkTrainedS_at hi; unfold bulkTrained at this; omega)
     refine x_r [(6, .lend [] [(8303, tAFeat bs_1), (8304, tAFeat fs_1)] [(true, .any)] false (.agg [Sv ((at_ al i.toNat).Label), .arr 8303, .arr 8304, I ((at_ al i.toNat).Count)]))] [0, 3, 4] [7, 7411, 7412, 8303, 8304] [slTrained false al, .arr 7, I i] [some (.oar [7411, 7412, 8303, 8304] 4 ((al.length : Int).toNat) (fun q => bif Nat.beq q i.toNat then spl ((catF zs.length (oTrained 7411 7412 zs) (fun _ => [Sv (⟨#[]⟩ : ByteArray), nilA, nilA, I 0])) i.toNat) 0 [Sv ((at_ al i.toNat).Label), .arr 8303, .arr 8304, I ((at_ al i.toNat).Count)] else (catF zs.length (oTrained 7411 7412 zs) (fun _ => [Sv (⟨#[]⟩ : ByteArray), nilA, nilA, I 0])) q)), some (tFTrainedBase zs), some (tFTrainedFeats zs), some (tAFeat bs_1), some (tAFeat fs_1)] [(0 : Int) ≤ i ∧ i < (al.length : Int), CallOK Tryz.prog 90 [agTrained (at_ al i.toNat)] (lookO []) false (.agg [Sv ((at_ al i.toNat).Label), .arr 8303, .arr 8304, I ((at_ al i.toNat).Count)]) (lookO [(8303, tAFeat bs_1), (8304, tAFeat fs_1)]) ∧ True, (0 : Int) ≤ i ∧ i < (((al.length : Int).toNat) : Int), i.toNat < (al.length : Int).toNat] ⟨⟨(by omega), (by omega)⟩, ⟨hc1, trivial⟩, ⟨(by omega), (by omega)⟩, (by omega), trivial⟩ ?_
     refine xe_block 1 ?_
     refine xe_then ?_
     refine x_join 8303 7411 rfl rfl rfl ?_
     refine x_join 8304 7412 rfl rfl rfl ?_
     refine x_weak [] (T := [(0, slTrained false al), (3, .arr 7), (4, I i)]) (O := [(7, .oar [7411, 7412] 4 ((al.length : Int).toNat) (catF ((zs ++ [(Trained.mk ((at_ al i.toNat).Label) bs_1 fs_1 ((at_ al i.toNat).Count))]).length) (oTrained 7411 7412 (zs ++ [(Trained.mk ((at_ al i.toNat).Label) bs_1 fs_1 ((at_ al i.toNat).Count))])) (fun _ => [Sv (⟨#[]⟩ : ByteArray), nilA, nilA, I 0]))), (7411, tFTrainedBase (zs ++ [(Trained.mk ((at_ al i.toNat).Label) bs_1 fs_1 ((at_ al i.toNat).Count))])), (7412, tFTrainedFeats (zs ++ [(Trained.mk ((at_ al i.toNat).Label) bs_1 fs_1 ((at_ al i.toNat).Count))]))]) rfl (⟨.inl rfl, .inl rfl, .inl rfl, trivial⟩) (⟨.inr ⟨rfl, rfl, rfl, fun i_ hi_ => .inl ((opreTrained (P := i.toNat) (xs := zs) (x := (Trained.mk ((at_ al i.toNat).Label) bs_1 fs_1 ((at_ al i.toNat).Count))) rfl rfl rfl rfl rfl rfl (by omega) i_).trans (AV.renL_nil _).symm)⟩, .inr (fcatTrainedBase (Trained.mk ((at_ al i.toNat).Label) bs_1 fs_1 ((at_ al i.toNat).Count)) (by first | rfl | (simp; done)) (fun i_ hi_ => (by first | rfl | fail))), .inr (fcatTrainedFeats (Trained.mk ((at_ al i.toNat).Label) bs_1 fs_1 ((at_ al i.toNat).Count)) (by first | rfl | (simp; done)) (fun i_ hi_ => (by first | rfl | fail))), trivial⟩) ?_
     refine x_r [] [0, 3, 4] [7, 7411, 7412] [slTrained false al, .arr 7, I (i + 1)] [some (.oar [7411, 7412] 4 ((al.length : Int).toNat) (catF ((zs ++ [(Trained.mk ((at_ al i.toNat).Label) bs_1 fs_1 ((at_ al i.toNat).Count))]).length) (oTrained 7411 7412 (zs ++ [(Trained.mk ((at_ al i.toNat).Label) bs_1 fs_1 ((at_ al i.toNat).Count))])) (fun _ => [Sv (⟨#[]⟩ : ByteArray), nilA, nilA, I 0]))), some (tFTrainedBase (zs ++ [(Trained.mk ((at_ al i.toNat).Label) bs_1 fs_1 ((at_ al i.toNat).Count))])), some (tFTrainedFeats (zs ++ [(Trained.mk ((at_ al i.toNat).Label) bs_1 fs_1 ((at_ al i.toNat).Count))]))] [inR .i64 (i + 1)] ⟨(inR_i64 (by omega) (by omega)), trivial⟩ ?_
     exact xe_again ((i + 1), (zs ++ [(Trained.mk ((at_ al i.toNat).Label) bs_1 fs_1 ((at_ al i.toNat).Count))])) rfl (show (0 ≤ (i + 1) ∧ (i + 1) ≤ (al.length : Int)) ∧ ((zs ++ [(Trained.mk ((at_ al i.toNat).Label) bs_1 fs_1 ((at_ al i.toNat).Count))]).length = (i + 1).toNat) ∧ ((zs ++ [(Trained.mk ((at_ al i.toNat).Label) bs_1 fs_1 ((at_ al i.toNat).Count))]) = al.take (i + 1).toNat) ∧ True from ⟨(by omega), (by simp; omega), (by rw [show (i + 1).toNat = i.toNat + 1 from by omega, take_snoc' hi, ← hy1, hx1_0, hx1_1]), trivial⟩) (by first | (show (((al.length : Int) - (i + 1)).toNat : Nat) < ((al.length : Int) - i).toNat; omega) | (dsimp only; omega))
    refine x_r [(3, .dec false)] [0, 3, 4, 11] [7, 7411, 7412] [slTrained false al, .arr 7, I i, Bv false] [some (.oar [7411, 7412] 4 ((al.length : Int).toNat) (catF zs.length (oTrained 7411 7412 zs) (fun _ => [Sv (⟨#[]⟩ : ByteArray), nilA, nilA, I 0]))), some (tFTrainedBase zs), some (tFTrainedFeats zs)] [¬ (i < (al.length : Int))] ⟨h1, trivial⟩ ?_
    refine xe_then ?_
    refine x_false rfl ?_
    refine x_exit ?_
    refine xe_exit_then ?_
    refine xe_loop_exit ?_
    refine xe_exit_same ?_
    refine xe_then ?_
    refine xR [] [2] [7, 7411, 7412] [.arr 7] [some (.oar [7411, 7412] 4 ((al.length : Int).toNat) (catF zs.length (oTrained 7411 7412 zs) (fun _ => [Sv (⟨#[]⟩ : ByteArray), nilA, nilA, I 0]))), some (tFTrainedBase zs), some (tFTrainedFeats zs)] [] trivial ?_
    refine x_ret ?_
    refine xe_weak [(7401, 7)] (T := [(2, .arr 7401)]) (O := [(7401, tOTrained 7411 7412 zs), (7411, tFTrainedBase zs), (7412, tFTrainedFeats zs)]) rfl (⟨.inl rfl, trivial⟩) (⟨.inr ⟨rfl, rfl, (by omega), fun i_ hi_ => .inl (catF_lt hi_)⟩, .inl rfl, .inl rfl, trivial⟩) ?_
    refine xe_end zs (show (zs = al) ∧ (True) from ⟨(by rw [hy1, List.take_of_length_le (by omega)]), trivial⟩) (⟨.inl rfl, .inl rfl, .inl rfl, trivial⟩) (.arr 7401) (by kernel_rfl) (.inl rfl) (fun h => by cases h) (fun h => by cases h)
  obtain ⟨ys, ⟨hh0, _⟩, hc⟩ := hh
  exact ⟨ys, hh0, hc⟩


-- laws.toWriter
theorem toWriter_own (w : Writer) (hb : bulkTrainedS w.Trained ≤ 1048576) : ∃ (ts : List Trained), (ts = w.Trained) ∧ CallOK Tryz.prog 19 [agWriter w] (lookO []) false (.agg [I w.Band, .arr 7401]) (lookO [(7401, tOTrained 7411 7412 ts), (7411, tFTrainedBase ts), (7412, tFTrainedFeats ts)]) := by
  have hh : ∃ r : (List Trained), ((r = w.Trained) ∧ (True)) ∧ CallOK Tryz.prog 19 [agWriter w] (lookO []) false (.agg [I w.Band, .arr 7401]) (lookO [(7401, tOTrained 7411 7412 r), (7411, tFTrainedBase r), (7412, tFTrainedFeats r)]) := by
    refine fn_okX (Φ := fun r : (List Trained) => (r = w.Trained) ∧ (True)) [] (fun r => [(7401, tOTrained 7411 7412 r), (7411, tFTrainedBase r), (7412, tFTrainedFeats r)]) (fn := Tryz.f19) (nt := 12) Tryz.func19 rfl rfl (args := [agWriter w]) rfl (allcons (.inl ⟨rfl, by simp [tagged, taggedL, tagTrained]⟩) allnil) (res := fun r => .agg [I w.Band, .arr 7401]) ?_
    refine xR [(0, .new 1), (1, .new 2)] [1, 2] [1, 2] [.ref 1 0, .ref 2 0] [some (bxWriter w), some (.box [I 0, nilA])] [] trivial ?_
    refine xR [(0, .new 3)] [1, 2, 3] [1, 2, 3] [.ref 1 0, .ref 2 0, .ref 3 0] [some (bxWriter w), some (.box [I 0, nilA]), some (.box [I 0, nilA])] [] trivial ?_
    refine xR [] [1, 2, 3] [1, 2, 3] [.ref 1 0, .ref 2 0, .ref 3 0] [some (bxWriter w), some (.box [I 0, nilA]), some (.box [I w.Band, nilA])] [] trivial ?_
    refine x_seq ?_
    obtain ⟨ys_1, hx1_0, hc1⟩ := toTrainedS_own w.Trained hb
    refine x_r [(2, .lend [] [(7401, tOTrained 7411 7412 ys_1), (7411, tFTrainedBase ys_1), (7412, tFTrainedFeats ys_1)] [(true, .any)] false (.arr 7401))] [2, 3] [2, 3, 7401, 7411, 7412] [.ref 2 0, .ref 3 0] [some (.box [I 0, nilA]), some (.box [I w.Band, .arr 7401]), some (tOTrained 7411 7412 ys_1), some (tFTrainedBase ys_1), some (tFTrainedFeats ys_1)] [CallOK Tryz.prog 53 [slTrained false w.Trained] (lookO []) false (.arr 7401) (lookO [(7401, tOTrained 7411 7412 ys_1), (7411, tFTrainedBase ys_1), (7412, tFTrainedFeats ys_1)]) ∧ True] ⟨⟨hc1, trivial⟩, trivial⟩ ?_
    refine xe_then ?_
    refine xR [] [2] [2, 7401, 7411, 7412] [.ref 2 0] [some (.box [I w.Band, .arr 7401]), some (tOTrained 7411 7412 ys_1), some (tFTrainedBase ys_1), some (tFTrainedFeats ys_1)] [] trivial ?_
    refine x_ret ?_
    refine xe_end ys_1 (show (ys_1 = w.Trained) ∧ (True) from ⟨(by assumption), trivial⟩) (⟨.inl rfl, .inl rfl, .inl rfl, trivial⟩) (.agg [I w.Band, .arr 7401]) (by kernel_rfl) (.inl rfl) (fun h => by cases h) (fun h => by cases h)
  obtain ⟨ts, ⟨hh0, _⟩, hc⟩ := hh
  exact ⟨ts, hh0, hc⟩


-- spec.l01Small
theorem l01Small_ok (c : Int) : Con Tryz.prog 110 [.val (.int .u8 c)] true (Bv (inB c 97 122)) := by
  refine fn_ok (fn := Tryz.f110) (nt := 9) Tryz.func110 rfl rfl rfl rfl (by simp [taggedL, tagged]) fun B hB => ?_
  refine aR [] [0] [] [.val (.int .u8 c)] [] [] hB trivial ?_
  refine aw_seq ?_
  by_cases h1 : 97 ≤ c
  ·refine aw_r [(1, .dec true)] [2] [] [Bv (decide (c ≤ 122))] [] [97 ≤ c] hB ⟨h1, trivial⟩ ?_
   refine ae_then ?_
   refine aw_ret ?_
   refine ae_ret hB (Bv (decide (c ≤ 122))) (by kernel_rfl) (.inl (by first | rfl | (refine congrArg Bv ?_; simp [inB, *]; done) | (refine congrArg Bv ?_; simp [inB, *]; omega) | (refine congrArg Bv ?_; simp_all [inB]; done) | (refine congrArg Bv ?_; simp_all [inB]; omega))) rfl (fun _ => trivial)
  refine aw_r [(1, .dec false)] [2] [] [Bv false] [] [¬ (97 ≤ c)] hB ⟨h1, trivial⟩ ?_
  refine ae_then ?_
  refine aw_ret ?_
  refine ae_ret hB (Bv false) (by kernel_rfl) (.inl (by first | rfl | (refine congrArg Bv ?_; simp [inB, *]; done) | (refine congrArg Bv ?_; simp [inB, *]; omega) | (refine congrArg Bv ?_; simp_all [inB]; done) | (refine congrArg Bv ?_; simp_all [inB]; omega))) rfl (fun _ => trivial)


-- spec.l11Label
theorem l11Label_ok (c : Int) : Con Tryz.prog 84 [.val (.int .u8 c)] true (Bv (labB c)) := by
  refine fn_ok (fn := Tryz.f84) (nt := 24) Tryz.func84 rfl rfl rfl rfl (by simp [taggedL, tagged]) fun B hB => ?_
  refine aR [] [0] [] [.val (.int .u8 c)] [] [] hB trivial ?_
  refine aw_seq ?_
  refine aR [] [0, 3] [] [.val (.int .u8 c), .val (.int .u8 c)] [] [] hB trivial ?_
  refine aw_block ?_
  refine aw_seq ?_
  refine aw_seq ?_
  by_cases h1 : c = 43
  ·refine aw_r [(0, .dec true)] [0, 3, 4] [] [.val (.int .u8 c), .val (.int .u8 c), Bv true] [] [c = 43] hB ⟨h1, trivial⟩ ?_
   refine ae_then ?_
   refine aw_true rfl ?_
   refine aw_skip ?_
   refine ae_then ?_
   refine aw_true rfl ?_
   refine aR [] [2] [] [Bv true] [] [] hB trivial ?_
   refine aw_ret ?_
   refine ae_ret_block (ae_ret_then ?_)
   refine ae_ret hB (Bv true) (by kernel_rfl) (.inl (by first | rfl | (refine congrArg Bv ?_; simp [labB, inB, *]; done) | (refine congrArg Bv ?_; simp [labB, inB, *]; omega) | (refine congrArg Bv ?_; simp_all [labB, inB]; done) | (refine congrArg Bv ?_; simp_all [labB, inB]; omega))) rfl (fun _ => trivial)
  refine aw_r [(0, .dec false)] [0, 3, 4] [] [.val (.int .u8 c), .val (.int .u8 c), Bv false] [] [¬ (c = 43)] hB ⟨h1, trivial⟩ ?_
  refine ae_then ?_
  refine aw_false rfl ?_
  refine aw_seq ?_
  by_cases h2 : c = 45
  ·refine aw_r [(0, .dec true)] [0, 3, 4] [] [.val (.int .u8 c), .val (.int .u8 c), Bv true] [] [c = 45] hB ⟨h2, trivial⟩ ?_
   refine ae_then ?_
   refine aw_true rfl ?_
   refine aw_skip ?_
   refine ae_then ?_
   refine aw_true rfl ?_
   refine aR [] [2] [] [Bv true] [] [] hB trivial ?_
   refine aw_ret ?_
   refine ae_ret_block (ae_ret_then ?_)
   refine ae_ret hB (Bv true) (by kernel_rfl) (.inl (by first | rfl | (refine congrArg Bv ?_; simp [labB, inB, *]; done) | (refine congrArg Bv ?_; simp [labB, inB, *]; omega) | (refine congrArg Bv ?_; simp_all [labB, inB]; done) | (refine congrArg Bv ?_; simp_all [labB, inB]; omega))) rfl (fun _ => trivial)
  refine aw_r [(0, .dec false)] [0, 3, 4] [] [.val (.int .u8 c), .val (.int .u8 c), Bv false] [] [¬ (c = 45)] hB ⟨h2, trivial⟩ ?_
  refine ae_then ?_
  refine aw_false rfl ?_
  refine aw_seq ?_
  by_cases h3 : c = 42
  ·refine aw_r [(0, .dec true)] [0, 3, 4] [] [.val (.int .u8 c), .val (.int .u8 c), Bv true] [] [c = 42] hB ⟨h3, trivial⟩ ?_
   refine ae_then ?_
   refine aw_true rfl ?_
   refine aw_skip ?_
   refine ae_then ?_
   refine aw_true rfl ?_
   refine aR [] [2] [] [Bv true] [] [] hB trivial ?_
   refine aw_ret ?_
   refine ae_ret_block (ae_ret_then ?_)
   refine ae_ret hB (Bv true) (by kernel_rfl) (.inl (by first | rfl | (refine congrArg Bv ?_; simp [labB, inB, *]; done) | (refine congrArg Bv ?_; simp [labB, inB, *]; omega) | (refine congrArg Bv ?_; simp_all [labB, inB]; done) | (refine congrArg Bv ?_; simp_all [labB, inB]; omega))) rfl (fun _ => trivial)
  refine aw_r [(0, .dec false)] [0, 3, 4] [] [.val (.int .u8 c), .val (.int .u8 c), Bv false] [] [¬ (c = 42)] hB ⟨h3, trivial⟩ ?_
  refine ae_then ?_
  refine aw_false rfl ?_
  refine aw_seq ?_
  by_cases h4 : c = 47
  ·refine aw_r [(0, .dec true)] [0, 3, 4] [] [.val (.int .u8 c), .val (.int .u8 c), Bv true] [] [c = 47] hB ⟨h4, trivial⟩ ?_
   refine ae_then ?_
   refine aw_true rfl ?_
   refine aw_skip ?_
   refine ae_then ?_
   refine aw_true rfl ?_
   refine aR [] [2] [] [Bv true] [] [] hB trivial ?_
   refine aw_ret ?_
   refine ae_ret_block (ae_ret_then ?_)
   refine ae_ret hB (Bv true) (by kernel_rfl) (.inl (by first | rfl | (refine congrArg Bv ?_; simp [labB, inB, *]; done) | (refine congrArg Bv ?_; simp [labB, inB, *]; omega) | (refine congrArg Bv ?_; simp_all [labB, inB]; done) | (refine congrArg Bv ?_; simp_all [labB, inB]; omega))) rfl (fun _ => trivial)
  refine aw_r [(0, .dec false)] [0, 3, 4] [] [.val (.int .u8 c), .val (.int .u8 c), Bv false] [] [¬ (c = 47)] hB ⟨h4, trivial⟩ ?_
  refine ae_then ?_
  refine aw_false rfl ?_
  refine aw_seq ?_
  by_cases h5 : c = 61
  ·refine aw_r [(0, .dec true)] [0, 3, 4] [] [.val (.int .u8 c), .val (.int .u8 c), Bv true] [] [c = 61] hB ⟨h5, trivial⟩ ?_
   refine ae_then ?_
   refine aw_true rfl ?_
   refine aw_skip ?_
   refine ae_then ?_
   refine aw_true rfl ?_
   refine aR [] [2] [] [Bv true] [] [] hB trivial ?_
   refine aw_ret ?_
   refine ae_ret_block (ae_ret_then ?_)
   refine ae_ret hB (Bv true) (by kernel_rfl) (.inl (by first | rfl | (refine congrArg Bv ?_; simp [labB, inB, *]; done) | (refine congrArg Bv ?_; simp [labB, inB, *]; omega) | (refine congrArg Bv ?_; simp_all [labB, inB]; done) | (refine congrArg Bv ?_; simp_all [labB, inB]; omega))) rfl (fun _ => trivial)
  refine aw_r [(0, .dec false)] [0, 3, 4] [] [.val (.int .u8 c), .val (.int .u8 c), Bv false] [] [¬ (c = 61)] hB ⟨h5, trivial⟩ ?_
  refine ae_then ?_
  refine aw_false rfl ?_
  refine aw_seq ?_
  by_cases h6 : c = 40
  ·refine aw_r [(0, .dec true)] [0, 3, 4] [] [.val (.int .u8 c), .val (.int .u8 c), Bv true] [] [c = 40] hB ⟨h6, trivial⟩ ?_
   refine ae_then ?_
   refine aw_true rfl ?_
   refine aw_skip ?_
   refine ae_then ?_
   refine aw_true rfl ?_
   refine aR [] [2] [] [Bv true] [] [] hB trivial ?_
   refine aw_ret ?_
   refine ae_ret_block (ae_ret_then ?_)
   refine ae_ret hB (Bv true) (by kernel_rfl) (.inl (by first | rfl | (refine congrArg Bv ?_; simp [labB, inB, *]; done) | (refine congrArg Bv ?_; simp [labB, inB, *]; omega) | (refine congrArg Bv ?_; simp_all [labB, inB]; done) | (refine congrArg Bv ?_; simp_all [labB, inB]; omega))) rfl (fun _ => trivial)
  refine aw_r [(0, .dec false)] [0, 3, 4] [] [.val (.int .u8 c), .val (.int .u8 c), Bv false] [] [¬ (c = 40)] hB ⟨h6, trivial⟩ ?_
  refine ae_then ?_
  refine aw_false rfl ?_
  refine aw_seq ?_
  by_cases h7 : c = 41
  ·refine aw_r [(0, .dec true)] [0, 3, 4] [] [.val (.int .u8 c), .val (.int .u8 c), Bv true] [] [c = 41] hB ⟨h7, trivial⟩ ?_
   refine ae_then ?_
   refine aw_true rfl ?_
   refine aw_skip ?_
   refine ae_then ?_
   refine aw_true rfl ?_
   refine aR [] [2] [] [Bv true] [] [] hB trivial ?_
   refine aw_ret ?_
   refine ae_ret_block (ae_ret_then ?_)
   refine ae_ret hB (Bv true) (by kernel_rfl) (.inl (by first | rfl | (refine congrArg Bv ?_; simp [labB, inB, *]; done) | (refine congrArg Bv ?_; simp [labB, inB, *]; omega) | (refine congrArg Bv ?_; simp_all [labB, inB]; done) | (refine congrArg Bv ?_; simp_all [labB, inB]; omega))) rfl (fun _ => trivial)
  refine aw_r [(0, .dec false)] [0, 3, 4] [] [.val (.int .u8 c), .val (.int .u8 c), Bv false] [] [¬ (c = 41)] hB ⟨h7, trivial⟩ ?_
  refine ae_then ?_
  refine aw_false rfl ?_
  refine aw_seq ?_
  by_cases h8 : c = 46
  ·refine aw_r [(0, .dec true)] [0, 3, 4] [] [.val (.int .u8 c), .val (.int .u8 c), Bv true] [] [c = 46] hB ⟨h8, trivial⟩ ?_
   refine ae_then ?_
   refine aw_true rfl ?_
   refine aw_skip ?_
   refine ae_then ?_
   refine aw_true rfl ?_
   refine aR [] [2] [] [Bv true] [] [] hB trivial ?_
   refine aw_ret ?_
   refine ae_ret_block (ae_ret_then ?_)
   refine ae_ret hB (Bv true) (by kernel_rfl) (.inl (by first | rfl | (refine congrArg Bv ?_; simp [labB, inB, *]; done) | (refine congrArg Bv ?_; simp [labB, inB, *]; omega) | (refine congrArg Bv ?_; simp_all [labB, inB]; done) | (refine congrArg Bv ?_; simp_all [labB, inB]; omega))) rfl (fun _ => trivial)
  refine aw_r [(0, .dec false)] [0, 3, 4] [] [.val (.int .u8 c), .val (.int .u8 c), Bv false] [] [¬ (c = 46)] hB ⟨h8, trivial⟩ ?_
  refine ae_then ?_
  refine aw_false rfl ?_
  by_cases h9 : c = 44
  ·refine aw_r [(0, .dec true)] [0, 4] [] [.val (.int .u8 c), Bv true] [] [c = 44] hB ⟨h9, trivial⟩ ?_
   refine ae_then ?_
   refine aw_true rfl ?_
   refine aR [] [2] [] [Bv true] [] [] hB trivial ?_
   refine aw_ret ?_
   refine ae_ret_block (ae_ret_then ?_)
   refine ae_ret hB (Bv true) (by kernel_rfl) (.inl (by first | rfl | (refine congrArg Bv ?_; simp [labB, inB, *]; done) | (refine congrArg Bv ?_; simp [labB, inB, *]; omega) | (refine congrArg Bv ?_; simp_all [labB, inB]; done) | (refine congrArg Bv ?_; simp_all [labB, inB]; omega))) rfl (fun _ => trivial)
  refine aw_r [(0, .dec false)] [0, 4] [] [.val (.int .u8 c), Bv false] [] [¬ (c = 44)] hB ⟨h9, trivial⟩ ?_
  refine ae_then ?_
  refine aw_false rfl ?_
  refine aw_skip ?_
  refine ae_block 0 ?_
  refine ae_then ?_
  refine aw_seq ?_
  rcases Bool.eq_false_or_eq_true (inB c 97 122) with h10 | h10
  ·refine aw_r [(1, .call [(true, .any)] true (Bv true))] [2] [] [Bv true] [] [Con Tryz.prog 110 [.val (.int .u8 c)] true (Bv true) ∧ True] hB ⟨⟨(con_bool h10 (l01Small_ok c)), trivial⟩, trivial⟩ ?_
   refine ae_then ?_
   refine aw_ret ?_
   refine ae_ret hB (Bv true) (by kernel_rfl) (.inl (by first | rfl | (refine congrArg Bv ?_; simp [labB, inB, *]; done) | (refine congrArg Bv ?_; simp [labB, inB, *]; omega) | (refine congrArg Bv ?_; simp_all [labB, inB]; done) | (refine congrArg Bv ?_; simp_all [labB, inB]; omega))) rfl (fun _ => trivial)
  by_cases h11 : 48 ≤ c
  ·refine aw_r [(1, .call [(true, .any)] true (Bv false)), (4, .dec true)] [2] [] [Bv (decide (c ≤ 57))] [] [Con Tryz.prog 110 [.val (.int .u8 c)] true (Bv false) ∧ True, 48 ≤ c] hB ⟨⟨(con_bool h10 (l01Small_ok c)), trivial⟩, h11, trivial⟩ ?_
   refine ae_then ?_
   refine aw_ret ?_
   refine ae_ret hB (Bv (decide (c ≤ 57))) (by kernel_rfl) (.inl (by first | rfl | (refine congrArg Bv ?_; simp [labB, inB, *]; done) | (refine congrArg Bv ?_; simp [labB, inB, *]; omega) | (refine congrArg Bv ?_; simp_all [labB, inB]; done) | (refine congrArg Bv ?_; simp_all [labB, inB]; omega))) rfl (fun _ => trivial)
  refine aw_r [(1, .call [(true, .any)] true (Bv false)), (4, .dec false)] [2] [] [Bv false] [] [Con Tryz.prog 110 [.val (.int .u8 c)] true (Bv false) ∧ True, ¬ (48 ≤ c)] hB ⟨⟨(con_bool h10 (l01Small_ok c)), trivial⟩, h11, trivial⟩ ?_
  refine ae_then ?_
  refine aw_ret ?_
  refine ae_ret hB (Bv false) (by kernel_rfl) (.inl (by first | rfl | (refine congrArg Bv ?_; simp [labB, inB, *]; done) | (refine congrArg Bv ?_; simp [labB, inB, *]; omega) | (refine congrArg Bv ?_; simp_all [labB, inB]; done) | (refine congrArg Bv ?_; simp_all [labB, inB]; omega))) rfl (fun _ => trivial)


-- spec.IsLabel
theorem specIsLabel_ok (s : ByteArray) (ok : s.size ≤ 9223372036854775807) : Con Tryz.prog 47 [Sv s] true (Bv (okLabel s)) := by
  refine fn_ok (fn := Tryz.f47) (nt := 11) Tryz.func47 rfl rfl rfl rfl (by simp [taggedL, tagged]) fun B hB => ?_
  refine aR [] [0] [] [Sv s] [] [] hB trivial ?_
  refine aw_seq ?_
  by_cases h1 : (s.size : Int) = 1
  ·refine aw_r [(2, .dec true), (6, .call [(true, .any)] true (Bv (labB (bAt s 0))))] [2] [] [Bv (labB (bAt s 0))] [] [(s.size : Int) = 1, (0 : Int) ≤ 0 ∧ 0 < (s.size : Int), Con Tryz.prog 84 [.val (.int .u8 (bAt s 0))] true (Bv (labB (bAt s 0))) ∧ True] hB ⟨h1, ⟨(by omega), (by omega)⟩, ⟨(l11Label_ok (bAt s 0)), trivial⟩, trivial⟩ ?_
   refine ae_then ?_
   refine aw_ret ?_
   refine ae_ret hB (Bv (labB (bAt s 0))) (by kernel_rfl) (.inl (by first | rfl | (refine congrArg Bv ?_; simp [okLabel, *]; done) | (refine congrArg Bv ?_; simp [okLabel, *]; omega) | (refine congrArg Bv ?_; simp_all [okLabel]; done) | (refine congrArg Bv ?_; simp_all [okLabel]; omega))) rfl (fun _ => trivial)
  refine aw_r [(2, .dec false)] [2] [] [Bv false] [] [¬ ((s.size : Int) = 1)] hB ⟨h1, trivial⟩ ?_
  refine ae_then ?_
  refine aw_ret ?_
  refine ae_ret hB (Bv false) (by kernel_rfl) (.inl (by first | rfl | (refine congrArg Bv ?_; simp [okLabel, *]; done) | (refine congrArg Bv ?_; simp [okLabel, *]; omega) | (refine congrArg Bv ?_; simp_all [okLabel]; done) | (refine congrArg Bv ?_; simp_all [okLabel]; omega))) rfl (fun _ => trivial)


-- spec.l00In
theorem l00In_ok (n : Int) (low : Int) (high : Int) : Con Tryz.prog 48 [I n, I low, I high] true (Bv (inB n low high)) := by
  refine fn_ok (fn := Tryz.f48) (nt := 15) Tryz.func48 rfl rfl rfl rfl (by simp [taggedL, tagged]) fun B hB => ?_
  refine aR [] [0, 1, 2] [] [I n, I low, I high] [] [] hB trivial ?_
  refine aw_seq ?_
  by_cases h1 : low ≤ n
  ·refine aw_r [(2, .dec true)] [6] [] [Bv (decide (n ≤ high))] [] [low ≤ n] hB ⟨h1, trivial⟩ ?_
   refine ae_then ?_
   refine aw_ret ?_
   refine ae_ret hB (Bv (decide (n ≤ high))) (by kernel_rfl) (.inl (by first | rfl | (refine congrArg Bv ?_; simp [inB, *]; done) | (refine congrArg Bv ?_; simp [inB, *]; omega) | (refine congrArg Bv ?_; simp_all [inB]; done) | (refine congrArg Bv ?_; simp_all [inB]; omega))) rfl (fun _ => trivial)
  refine aw_r [(2, .dec false)] [6] [] [Bv false] [] [¬ (low ≤ n)] hB ⟨h1, trivial⟩ ?_
  refine ae_then ?_
  refine aw_ret ?_
  refine ae_ret hB (Bv false) (by kernel_rfl) (.inl (by first | rfl | (refine congrArg Bv ?_; simp [inB, *]; done) | (refine congrArg Bv ?_; simp [inB, *]; omega) | (refine congrArg Bv ?_; simp_all [inB]; done) | (refine congrArg Bv ?_; simp_all [inB]; omega))) rfl (fun _ => trivial)


-- spec.l09Feat
theorem l09Feat_ok (f : Feat) : Con Tryz.prog 83 [agFeat f] true (Bv (okF f)) := by
  refine fn_ok (fn := Tryz.f83) (nt := 16) Tryz.func83 rfl rfl rfl rfl (by simp [taggedL, tagged]) fun B hB => ?_
  refine aR [(0, .new 1)] [1] [1] [.ref 1 0] [some (bxFeat f)] [] hB trivial ?_
  refine aw_seq ?_
  rcases Bool.eq_false_or_eq_true (inB f.X 0 255) with h1 | h1
  ·rcases Bool.eq_false_or_eq_true (inB f.Y 0 255) with h2 | h2
   ·refine aw_r [(2, .call [(true, .any), (true, .any), (true, .any)] true (Bv true)), (6, .call [(true, .any), (true, .any), (true, .any)] true (Bv true)), (11, .call [(true, .any), (true, .any), (true, .any)] true (Bv (inB f.D 0 7)))] [2] [] [Bv (inB f.D 0 7)] [] [Con Tryz.prog 48 [I f.X, I 0, I 255] true (Bv true) ∧ True, Con Tryz.prog 48 [I f.Y, I 0, I 255] true (Bv true) ∧ True, Con Tryz.prog 48 [I f.D, I 0, I 7] true (Bv (inB f.D 0 7)) ∧ True] hB ⟨⟨(con_bool h1 (l00In_ok f.X 0 255)), trivial⟩, ⟨(con_bool h2 (l00In_ok f.Y 0 255)), trivial⟩, ⟨(l00In_ok f.D 0 7), trivial⟩, trivial⟩ ?_
    refine ae_then ?_
    refine aw_ret ?_
    refine ae_ret hB (Bv (inB f.D 0 7)) (by kernel_rfl) (.inl (by first | rfl | (refine congrArg Bv ?_; simp [okF, *]; done) | (refine congrArg Bv ?_; simp [okF, *]; omega) | (refine congrArg Bv ?_; simp_all [okF]; done) | (refine congrArg Bv ?_; simp_all [okF]; omega))) rfl (fun _ => trivial)
   refine aw_r [(2, .call [(true, .any), (true, .any), (true, .any)] true (Bv true)), (6, .call [(true, .any), (true, .any), (true, .any)] true (Bv false))] [2] [] [Bv false] [] [Con Tryz.prog 48 [I f.X, I 0, I 255] true (Bv true) ∧ True, Con Tryz.prog 48 [I f.Y, I 0, I 255] true (Bv false) ∧ True] hB ⟨⟨(con_bool h1 (l00In_ok f.X 0 255)), trivial⟩, ⟨(con_bool h2 (l00In_ok f.Y 0 255)), trivial⟩, trivial⟩ ?_
   refine ae_then ?_
   refine aw_ret ?_
   refine ae_ret hB (Bv false) (by kernel_rfl) (.inl (by first | rfl | (refine congrArg Bv ?_; simp [okF, *]; done) | (refine congrArg Bv ?_; simp [okF, *]; omega) | (refine congrArg Bv ?_; simp_all [okF]; done) | (refine congrArg Bv ?_; simp_all [okF]; omega))) rfl (fun _ => trivial)
  refine aw_r [(2, .call [(true, .any), (true, .any), (true, .any)] true (Bv false))] [2] [] [Bv false] [] [Con Tryz.prog 48 [I f.X, I 0, I 255] true (Bv false) ∧ True] hB ⟨⟨(con_bool h1 (l00In_ok f.X 0 255)), trivial⟩, trivial⟩ ?_
  refine ae_then ?_
  refine aw_ret ?_
  refine ae_ret hB (Bv false) (by kernel_rfl) (.inl (by first | rfl | (refine congrArg Bv ?_; simp [okF, *]; done) | (refine congrArg Bv ?_; simp [okF, *]; omega) | (refine congrArg Bv ?_; simp_all [okF]; done) | (refine congrArg Bv ?_; simp_all [okF]; omega))) rfl (fun _ => trivial)


-- spec.l09Ok
theorem l09Ok_ok (list : List Feat) : Con Tryz.prog 46 [slFeat false list] true (Bv (okFeats list 72)) := by
  refine fn_ok (fn := Tryz.f46) (nt := 19) Tryz.func46 rfl rfl rfl rfl (by simp [taggedL, tagged, tagFeat]) fun B hB => ?_
  refine aw_lens (x := slFeat false list) 0 rfl (fun len_list => ?_)
  simp [LenOK, LenL, cFeat, fFeat, slFeat] at len_list
  refine aR [] [0] [] [slFeat false list] [] [] hB trivial ?_
  refine aw_seq ?_
  refine aR [] [0, 3] [] [slFeat false list, I 0] [] [] hB trivial ?_
  refine aw_block ?_
  refine aw_loop (fun gn gσ => ∃ (i : Int), gn = ((list.length : Int) - i).toNat ∧ (0 ≤ i ∧ i ≤ (list.length : Int)) ∧ (∀ j : Nat, (j : Int) < i → okF (at_ list j) = true) ∧ gσ = mkS [(0, slFeat false list), (3, I i)] []) (((list.length : Int) - 0).toNat) ⟨0, rfl, (by omega), (by intro j hj; omega), rfl⟩ (fun gn gσ hI => ?_)
  obtain ⟨i, rfl, hi0, hall0, rfl⟩ := hI
  refine aw_seq ?_
  refine aw_seq ?_
  by_cases h1 : i < (list.length : Int)
  ·have hi : i.toNat < list.length := by omega
   refine aw_r [(3, .dec true)] [0, 3, 7] [] [slFeat false list, I i, Bv true] [] [i < (list.length : Int)] hB ⟨h1, trivial⟩ ?_
   refine ae_then ?_
   refine aw_true rfl ?_
   refine aw_skip ?_
   refine ae_then ?_
   refine aw_seq ?_
   refine aw_block ?_
   refine aw_seq ?_
   rcases Bool.eq_false_or_eq_true (okF (at_ list i.toNat)) with h2 | h2
   ·refine aw_r [(4, .call [(true, .any)] true (Bv true))] [0, 3, 15] [] [slFeat false list, I i, Bv false] [] [(0 : Int) ≤ i ∧ i < (list.length : Int), Con Tryz.prog 83 [agFeat (at_ list i.toNat)] true (Bv true) ∧ True] hB ⟨⟨(by omega), (by omega)⟩, ⟨(con_bool h2 (l09Feat_ok (at_ list i.toNat))), trivial⟩, trivial⟩ ?_
    refine ae_then ?_
    refine aw_false rfl ?_
    refine aw_skip ?_
    refine ae_block 1 ?_
    refine ae_then ?_
    refine aw_r [] [0, 3] [] [slFeat false list, I (i + 1)] [] [inR .i64 (i + 1)] hB ⟨(inR_i64 (by omega) (by omega)), trivial⟩ ?_
    exact ae_again _ (by omega) ⟨(i + 1), rfl, (by omega), (by intro j hj; by_cases ej : j = i.toNat; (subst ej; first | assumption | exact hok); exact hall0 j (by omega)), rfl⟩
   have hall : allN list.length (fun j => okF (at_ list j)) = false := allN_not hi h2
   refine aw_r [(4, .call [(true, .any)] true (Bv false))] [0, 3, 15] [] [slFeat false list, I i, Bv true] [] [(0 : Int) ≤ i ∧ i < (list.length : Int), Con Tryz.prog 83 [agFeat (at_ list i.toNat)] true (Bv false) ∧ True] hB ⟨⟨(by omega), (by omega)⟩, ⟨(con_bool h2 (l09Feat_ok (at_ list i.toNat))), trivial⟩, trivial⟩ ?_
   refine ae_then ?_
   refine aw_true rfl ?_
   refine aR [] [2] [] [Bv false] [] [] hB trivial ?_
   refine aw_ret ?_
   refine ae_ret_block (ae_ret_then (ae_ret_then (ae_ret_block (ae_ret_then ?_))))
   refine ae_ret hB (Bv false) (by kernel_rfl) (.inl (by first | rfl | (refine congrArg Bv ?_; simp [okFeats, inB, *]; done) | (refine congrArg Bv ?_; simp [okFeats, inB, *]; omega) | (refine congrArg Bv ?_; simp_all [okFeats, inB]; done) | (refine congrArg Bv ?_; simp_all [okFeats, inB]; omega))) rfl (fun _ => trivial)
  have hall : allN list.length (fun j => okF (at_ list j)) = true := allN_at (fun j hj => hall0 j (by omega))
  refine aw_r [(3, .dec false)] [0, 3, 7] [] [slFeat false list, I i, Bv false] [] [¬ (i < (list.length : Int))] hB ⟨h1, trivial⟩ ?_
  refine ae_then ?_
  refine aw_false rfl ?_
  refine aw_exit ?_
  refine ae_exit_then ?_
  refine ae_exit_then ?_
  refine ae_exit_same ?_
  refine ae_then ?_
  refine aR [(2, .call [(true, .any), (true, .any), (true, .any)] true (Bv (inB (list.length : Int) 1 72)))] [2] [] [Bv (inB (list.length : Int) 1 72)] [] [Con Tryz.prog 48 [I (list.length : Int), I 1, I 72] true (Bv (inB (list.length : Int) 1 72)) ∧ True] hB ⟨⟨(l00In_ok (list.length : Int) 1 72), trivial⟩, trivial⟩ ?_
  refine aw_ret ?_
  refine ae_ret hB (Bv (inB (list.length : Int) 1 72)) (by kernel_rfl) (.inl (by first | rfl | (refine congrArg Bv ?_; simp [okFeats, inB, *]; done) | (refine congrArg Bv ?_; simp [okFeats, inB, *]; omega) | (refine congrArg Bv ?_; simp_all [okFeats, inB]; done) | (refine congrArg Bv ?_; simp_all [okFeats, inB]; omega))) rfl (fun _ => trivial)


-- spec.l09Size
theorem l09Size_ok (n : Int) (hn : -9223372036854775807 ≤ n ∧ n ≤ 9223372036854775807) : Con Tryz.prog 80 [I n] true (I (n.natAbs : Int)) := by
  refine fn_ok (fn := Tryz.f80) (nt := 8) Tryz.func80 rfl rfl rfl rfl (by simp [taggedL, tagged]) fun B hB => ?_
  refine aR [] [0] [] [I n] [] [] hB trivial ?_
  refine aw_seq ?_
  refine aw_seq ?_
  by_cases h1 : n < 0
  ·refine aw_r [(1, .dec true)] [0, 4] [] [I n, Bv true] [] [n < 0] hB ⟨h1, trivial⟩ ?_
   refine ae_then ?_
   refine aw_true rfl ?_
   refine aR [] [2] [] [I (-n)] [] [inR .i64 (-n)] hB ⟨(inR_i64 (by omega) (by omega)), trivial⟩ ?_
   refine aw_ret ?_
   refine ae_ret_then ?_
   refine ae_ret hB (I (-n)) (by kernel_rfl) (.inl (by refine congrArg I ?_; omega)) rfl (fun _ => trivial)
  refine aw_r [(1, .dec false)] [0, 4] [] [I n, Bv false] [] [¬ (n < 0)] hB ⟨h1, trivial⟩ ?_
  refine ae_then ?_
  refine aw_false rfl ?_
  refine aw_skip ?_
  refine ae_then ?_
  refine aR [] [2] [] [I n] [] [] hB trivial ?_
  refine aw_ret ?_
  refine ae_ret hB (I n) (by kernel_rfl) (.inl (by refine congrArg I ?_; omega)) rfl (fun _ => trivial)


-- spec.l24Near
theorem l24Near_ok (a : Feat) (b : Feat) (ha : okF a = true) (hb : okF b = true) : Con Tryz.prog 107 [agFeat a, agFeat b] true (Bv (nearB a b)) := by
  have ha' := okF_iff.1 ha
  have hb' := okF_iff.1 hb
  refine fn_ok (fn := Tryz.f107) (nt := 28) Tryz.func107 rfl rfl rfl rfl (by simp [taggedL, tagged]) fun B hB => ?_
  refine aR [(0, .new 2), (1, .new 3)] [2, 3] [2, 3] [.ref 2 0, .ref 3 0] [some (bxFeat a), some (bxFeat b)] [] hB trivial ?_
  refine aw_seq ?_
  by_cases h1 : a.D = b.D
  ·by_cases h2 : ((a.X - b.X).natAbs : Int) ≤ 40
   ·refine aw_r [(4, .dec true), (11, .call [(true, .any)] true (I ((a.X - b.X).natAbs : Int))), (12, .dec true), (20, .call [(true, .any)] true (I ((a.Y - b.Y).natAbs : Int)))] [4] [] [Bv (decide (((a.Y - b.Y).natAbs : Int) ≤ 40))] [] [a.D = b.D, inR .i64 (a.X - b.X), Con Tryz.prog 80 [I (a.X - b.X)] true (I ((a.X - b.X).natAbs : Int)) ∧ True, ((a.X - b.X).natAbs : Int) ≤ 40, inR .i64 (a.Y - b.Y), Con Tryz.prog 80 [I (a.Y - b.Y)] true (I ((a.Y - b.Y).natAbs : Int)) ∧ True] hB ⟨h1, (inR_i64 (by omega) (by omega)), ⟨(l09Size_ok (a.X - b.X) (by omega)), trivial⟩, h2, (inR_i64 (by omega) (by omega)), ⟨(l09Size_ok (a.Y - b.Y) (by omega)), trivial⟩, trivial⟩ ?_
    refine ae_then ?_
    refine aw_ret ?_
    refine ae_ret hB (Bv (decide (((a.Y - b.Y).natAbs : Int) ≤ 40))) (by kernel_rfl) (.inl (by first | rfl | (refine congrArg Bv ?_; simp [nearB, *]; done) | (refine congrArg Bv ?_; simp [nearB, *]; omega) | (refine congrArg Bv ?_; simp_all [nearB]; done) | (refine congrArg Bv ?_; simp_all [nearB]; omega))) rfl (fun _ => trivial)
   refine aw_r [(4, .dec true), (11, .call [(true, .any)] true (I ((a.X - b.X).natAbs : Int))), (12, .dec false)] [4] [] [Bv false] [] [a.D = b.D, inR .i64 (a.X - b.X), Con Tryz.prog 80 [I (a.X - b.X)] true (I ((a.X - b.X).natAbs : Int)) ∧ True, ¬ (((a.X - b.X).natAbs : Int) ≤ 40)] hB ⟨h1, (inR_i64 (by omega) (by omega)), ⟨(l09Size_ok (a.X - b.X) (by omega)), trivial⟩, h2, trivial⟩ ?_
   refine ae_then ?_
   refine aw_ret ?_
   refine ae_ret hB (Bv false) (by kernel_rfl) (.inl (by first | rfl | (refine congrArg Bv ?_; simp [nearB, *]; done) | (refine congrArg Bv ?_; simp [nearB, *]; omega) | (refine congrArg Bv ?_; simp_all [nearB]; done) | (refine congrArg Bv ?_; simp_all [nearB]; omega))) rfl (fun _ => trivial)
  refine aw_r [(4, .dec false)] [4] [] [Bv false] [] [¬ (a.D = b.D)] hB ⟨h1, trivial⟩ ?_
  refine ae_then ?_
  refine aw_ret ?_
  refine ae_ret hB (Bv false) (by kernel_rfl) (.inl (by first | rfl | (refine congrArg Bv ?_; simp [nearB, *]; done) | (refine congrArg Bv ?_; simp [nearB, *]; omega) | (refine congrArg Bv ?_; simp_all [nearB]; done) | (refine congrArg Bv ?_; simp_all [nearB]; omega))) rfl (fun _ => trivial)


-- spec.l24Ok
theorem l24Ok_ok (t : Trained) (ok : okTrained t) : Con Tryz.prog 74 [.ptr false [Sv t.Label, slFeat false t.Base, slFeat false t.Feats, I t.Count]] true (Bv (okTrained' t)) := by
  refine fn_ok (fn := Tryz.f74) (nt := 69) Tryz.func74 rfl rfl rfl rfl (by simp [taggedL, tagged, tagFeat]) fun B hB => ?_
  refine aw_lens (x := .ptr false [Sv t.Label, slFeat false t.Base, slFeat false t.Feats, I t.Count]) 0 rfl (fun len_t => ?_)
  simp [LenOK, LenL, cFeat, fFeat, slFeat] at len_t
  refine aR [] [0] [] [.ptr false [Sv t.Label, slFeat false t.Base, slFeat false t.Feats, I t.Count]] [] [] hB trivial ?_
  refine aw_seq ?_
  refine aw_seq ?_
  rcases Bool.eq_false_or_eq_true (okLabel t.Label) with h1 | h1
  ·rcases Bool.eq_false_or_eq_true (okFeats t.Base 72) with h2 | h2
   ·rcases Bool.eq_false_or_eq_true (okFeats t.Feats 72) with h3 | h3
    ·by_cases h4 : (t.Base.length : Int) = (t.Feats.length : Int)
     ·refine aw_r [(4, .call [(true, .any)] true (Bv true)), (11, .call [(true, .any)] true (Bv true)), (19, .call [(true, .any)] true (Bv true)), (33, .dec false)] [0, 38] [] [.ptr false [Sv t.Label, slFeat false t.Base, slFeat false t.Feats, I t.Count], Bv false] [] [Con Tryz.prog 47 [Sv t.Label] true (Bv true) ∧ True, Con Tryz.prog 46 [slFeat false t.Base] true (Bv true) ∧ True, Con Tryz.prog 46 [slFeat false t.Feats] true (Bv true) ∧ True, ¬ ((t.Base.length : Int) ≠ (t.Feats.length : Int))] hB ⟨⟨(con_bool h1 (specIsLabel_ok t.Label ok)), trivial⟩, ⟨(con_bool h2 (l09Ok_ok t.Base)), trivial⟩, ⟨(con_bool h3 (l09Ok_ok t.Feats)), trivial⟩, (fun hq => hq h4), trivial⟩ ?_
      refine ae_then ?_
      refine aw_false rfl ?_
      refine aw_skip ?_
      refine ae_then ?_
      refine aw_seq ?_
      refine aR [] [0, 3] [] [.ptr false [Sv t.Label, slFeat false t.Base, slFeat false t.Feats, I t.Count], I 0] [] [] hB trivial ?_
      refine aw_block ?_
      refine aw_loop (fun gn gσ => ∃ (i : Int), gn = ((t.Base.length : Int) - i).toNat ∧ (0 ≤ i ∧ i ≤ (t.Base.length : Int)) ∧ (∀ j : Nat, (j : Int) < i → nearB (at_ t.Base j) (at_ t.Feats j) = true) ∧ gσ = mkS [(0, .ptr false [Sv t.Label, slFeat false t.Base, slFeat false t.Feats, I t.Count]), (3, I i)] []) (((t.Base.length : Int) - 0).toNat) ⟨0, rfl, (by omega), (by intro j hj; omega), rfl⟩ (fun gn gσ hI => ?_)
      obtain ⟨i, rfl, hir, hall0, rfl⟩ := hI
      refine aw_seq ?_
      refine aw_seq ?_
      by_cases h5 : i < (t.Base.length : Int)
      ·have hi : i.toNat < t.Base.length := by omega
       have hi0 : i.toNat < t.Feats.length := by omega
       refine aw_r [(6, .dec true)] [0, 3, 45] [] [.ptr false [Sv t.Label, slFeat false t.Base, slFeat false t.Feats, I t.Count], I i, Bv true] [] [i < (t.Base.length : Int)] hB ⟨h5, trivial⟩ ?_
       refine ae_then ?_
       refine aw_true rfl ?_
       refine aw_skip ?_
       refine ae_then ?_
       refine aw_seq ?_
       refine aw_block ?_
       refine aw_seq ?_
       rcases Bool.eq_false_or_eq_true (nearB (at_ t.Base i.toNat) (at_ t.Feats i.toNat)) with h6 | h6
       ·refine aw_r [(14, .call [(true, .any), (true, .any)] true (Bv true))] [0, 3, 63] [] [.ptr false [Sv t.Label, slFeat false t.Base, slFeat false t.Feats, I t.Count], I i, Bv false] [] [(0 : Int) ≤ i ∧ i < (t.Base.length : Int), (0 : Int) ≤ i ∧ i < (t.Feats.length : Int), Con Tryz.prog 107 [agFeat (at_ t.Base i.toNat), agFeat (at_ t.Feats i.toNat)] true (Bv true) ∧ True] hB ⟨⟨(by omega), (by omega)⟩, ⟨(by omega), (by omega)⟩, ⟨(con_bool h6 (l24Near_ok (at_ t.Base i.toNat) (at_ t.Feats i.toNat) (okFeats_at (by assumption) hi) (okFeats_at (by assumption) hi0))), trivial⟩, trivial⟩ ?_
        refine ae_then ?_
        refine aw_false rfl ?_
        refine aw_skip ?_
        refine ae_block 1 ?_
        refine ae_then ?_
        refine aw_r [] [0, 3] [] [.ptr false [Sv t.Label, slFeat false t.Base, slFeat false t.Feats, I t.Count], I (i + 1)] [] [inR .i64 (i + 1)] hB ⟨(inR_i64 (by omega) (by omega)), trivial⟩ ?_
        exact ae_again _ (by omega) ⟨(i + 1), rfl, (by omega), (by intro j hj; by_cases ej : j = i.toNat; (subst ej; first | assumption | exact hok); exact hall0 j (by omega)), rfl⟩
       have hall : allN t.Base.length (fun j => nearB (at_ t.Base j) (at_ t.Feats j)) = false := allN_not hi h6
       refine aw_r [(14, .call [(true, .any), (true, .any)] true (Bv false))] [0, 3, 63] [] [.ptr false [Sv t.Label, slFeat false t.Base, slFeat false t.Feats, I t.Count], I i, Bv true] [] [(0 : Int) ≤ i ∧ i < (t.Base.length : Int), (0 : Int) ≤ i ∧ i < (t.Feats.length : Int), Con Tryz.prog 107 [agFeat (at_ t.Base i.toNat), agFeat (at_ t.Feats i.toNat)] true (Bv false) ∧ True] hB ⟨⟨(by omega), (by omega)⟩, ⟨(by omega), (by omega)⟩, ⟨(con_bool h6 (l24Near_ok (at_ t.Base i.toNat) (at_ t.Feats i.toNat) (okFeats_at (by assumption) hi) (okFeats_at (by assumption) hi0))), trivial⟩, trivial⟩ ?_
       refine ae_then ?_
       refine aw_true rfl ?_
       refine aR [] [2] [] [Bv false] [] [] hB trivial ?_
       refine aw_ret ?_
       refine ae_ret_block (ae_ret_then (ae_ret_then (ae_ret_block (ae_ret_then ?_))))
       refine ae_ret hB (Bv false) (by kernel_rfl) (.inl (by first | rfl | (refine congrArg Bv ?_; simp [okTrained', inB, *]; done) | (refine congrArg Bv ?_; simp [okTrained', inB, *]; omega) | (refine congrArg Bv ?_; simp_all [okTrained', inB]; done) | (refine congrArg Bv ?_; simp_all [okTrained', inB]; omega))) rfl (fun _ => trivial)
      have hall : allN t.Base.length (fun j => nearB (at_ t.Base j) (at_ t.Feats j)) = true := allN_at (fun j hj => hall0 j (by omega))
      refine aw_r [(6, .dec false)] [0, 3, 45] [] [.ptr false [Sv t.Label, slFeat false t.Base, slFeat false t.Feats, I t.Count], I i, Bv false] [] [¬ (i < (t.Base.length : Int))] hB ⟨h5, trivial⟩ ?_
      refine ae_then ?_
      refine aw_false rfl ?_
      refine aw_exit ?_
      refine ae_exit_then ?_
      refine ae_exit_then ?_
      refine ae_exit_same ?_
      refine ae_then ?_
      refine aR [(4, .call [(true, .any), (true, .any), (true, .any)] true (Bv (inB t.Count 0 100)))] [2] [] [Bv (inB t.Count 0 100)] [] [Con Tryz.prog 48 [I t.Count, I 0, I 100] true (Bv (inB t.Count 0 100)) ∧ True] hB ⟨⟨(l00In_ok t.Count 0 100), trivial⟩, trivial⟩ ?_
      refine aw_ret ?_
      refine ae_ret hB (Bv (inB t.Count 0 100)) (by kernel_rfl) (.inl (by first | rfl | (refine congrArg Bv ?_; simp [okTrained', inB, *]; done) | (refine congrArg Bv ?_; simp [okTrained', inB, *]; omega) | (refine congrArg Bv ?_; simp_all [okTrained', inB]; done) | (refine congrArg Bv ?_; simp_all [okTrained', inB]; omega))) rfl (fun _ => trivial)
     refine aw_r [(4, .call [(true, .any)] true (Bv true)), (11, .call [(true, .any)] true (Bv true)), (19, .call [(true, .any)] true (Bv true)), (33, .dec true)] [0, 38] [] [.ptr false [Sv t.Label, slFeat false t.Base, slFeat false t.Feats, I t.Count], Bv true] [] [Con Tryz.prog 47 [Sv t.Label] true (Bv true) ∧ True, Con Tryz.prog 46 [slFeat false t.Base] true (Bv true) ∧ True, Con Tryz.prog 46 [slFeat false t.Feats] true (Bv true) ∧ True, (t.Base.length : Int) ≠ (t.Feats.length : Int)] hB ⟨⟨(con_bool h1 (specIsLabel_ok t.Label ok)), trivial⟩, ⟨(con_bool h2 (l09Ok_ok t.Base)), trivial⟩, ⟨(con_bool h3 (l09Ok_ok t.Feats)), trivial⟩, h4, trivial⟩ ?_
     refine ae_then ?_
     refine aw_true rfl ?_
     refine aR [] [2] [] [Bv false] [] [] hB trivial ?_
     refine aw_ret ?_
     refine ae_ret_then ?_
     refine ae_ret hB (Bv false) (by kernel_rfl) (.inl (by first | rfl | (refine congrArg Bv ?_; simp [okTrained', inB, *]; done) | (refine congrArg Bv ?_; simp [okTrained', inB, *]; omega) | (refine congrArg Bv ?_; simp_all [okTrained', inB]; done) | (refine congrArg Bv ?_; simp_all [okTrained', inB]; omega))) rfl (fun _ => trivial)
    refine aw_r [(4, .call [(true, .any)] true (Bv true)), (11, .call [(true, .any)] true (Bv true)), (19, .call [(true, .any)] true (Bv false))] [0, 38] [] [.ptr false [Sv t.Label, slFeat false t.Base, slFeat false t.Feats, I t.Count], Bv true] [] [Con Tryz.prog 47 [Sv t.Label] true (Bv true) ∧ True, Con Tryz.prog 46 [slFeat false t.Base] true (Bv true) ∧ True, Con Tryz.prog 46 [slFeat false t.Feats] true (Bv false) ∧ True] hB ⟨⟨(con_bool h1 (specIsLabel_ok t.Label ok)), trivial⟩, ⟨(con_bool h2 (l09Ok_ok t.Base)), trivial⟩, ⟨(con_bool h3 (l09Ok_ok t.Feats)), trivial⟩, trivial⟩ ?_
    refine ae_then ?_
    refine aw_true rfl ?_
    refine aR [] [2] [] [Bv false] [] [] hB trivial ?_
    refine aw_ret ?_
    refine ae_ret_then ?_
    refine ae_ret hB (Bv false) (by kernel_rfl) (.inl (by first | rfl | (refine congrArg Bv ?_; simp [okTrained', inB, *]; done) | (refine congrArg Bv ?_; simp [okTrained', inB, *]; omega) | (refine congrArg Bv ?_; simp_all [okTrained', inB]; done) | (refine congrArg Bv ?_; simp_all [okTrained', inB]; omega))) rfl (fun _ => trivial)
   refine aw_r [(4, .call [(true, .any)] true (Bv true)), (11, .call [(true, .any)] true (Bv false))] [0, 38] [] [.ptr false [Sv t.Label, slFeat false t.Base, slFeat false t.Feats, I t.Count], Bv true] [] [Con Tryz.prog 47 [Sv t.Label] true (Bv true) ∧ True, Con Tryz.prog 46 [slFeat false t.Base] true (Bv false) ∧ True] hB ⟨⟨(con_bool h1 (specIsLabel_ok t.Label ok)), trivial⟩, ⟨(con_bool h2 (l09Ok_ok t.Base)), trivial⟩, trivial⟩ ?_
   refine ae_then ?_
   refine aw_true rfl ?_
   refine aR [] [2] [] [Bv false] [] [] hB trivial ?_
   refine aw_ret ?_
   refine ae_ret_then ?_
   refine ae_ret hB (Bv false) (by kernel_rfl) (.inl (by first | rfl | (refine congrArg Bv ?_; simp [okTrained', inB, *]; done) | (refine congrArg Bv ?_; simp [okTrained', inB, *]; omega) | (refine congrArg Bv ?_; simp_all [okTrained', inB]; done) | (refine congrArg Bv ?_; simp_all [okTrained', inB]; omega))) rfl (fun _ => trivial)
  refine aw_r [(4, .call [(true, .any)] true (Bv false))] [0, 38] [] [.ptr false [Sv t.Label, slFeat false t.Base, slFeat false t.Feats, I t.Count], Bv true] [] [Con Tryz.prog 47 [Sv t.Label] true (Bv false) ∧ True] hB ⟨⟨(con_bool h1 (specIsLabel_ok t.Label ok)), trivial⟩, trivial⟩ ?_
  refine ae_then ?_
  refine aw_true rfl ?_
  refine aR [] [2] [] [Bv false] [] [] hB trivial ?_
  refine aw_ret ?_
  refine ae_ret_then ?_
  refine ae_ret hB (Bv false) (by kernel_rfl) (.inl (by first | rfl | (refine congrArg Bv ?_; simp [okTrained', inB, *]; done) | (refine congrArg Bv ?_; simp [okTrained', inB, *]; omega) | (refine congrArg Bv ?_; simp_all [okTrained', inB]; done) | (refine congrArg Bv ?_; simp_all [okTrained', inB]; omega))) rfl (fun _ => trivial)


def okWriter' (w : Writer) : Bool := inB w.Band 0 72 && (decide ((w.Trained.length : Int) ≤ 40) && allN w.Trained.length (fun j => okTrained' (at_ w.Trained j)))

-- spec.l24Writer
theorem l24Writer_ok (w : Writer) (ok : okWriter w) : Con Tryz.prog 38 [.ptr false [I w.Band, slTrained false w.Trained]] true (Bv (okWriter' w)) := by
  refine fn_ok (fn := Tryz.f38) (nt := 34) Tryz.func38 rfl rfl rfl rfl (by simp [taggedL, tagged, tagTrained]) fun B hB => ?_
  refine aw_lens (x := .ptr false [I w.Band, slTrained false w.Trained]) 0 rfl (fun len_w => ?_)
  simp [LenOK, LenL, cFeat, cTrained, fFeat, fTrained, slFeat, slTrained] at len_w
  refine aR [] [0] [] [.ptr false [I w.Band, slTrained false w.Trained]] [] [] hB trivial ?_
  refine aw_seq ?_
  refine aR [] [0, 3] [] [.ptr false [I w.Band, slTrained false w.Trained], I 0] [] [] hB trivial ?_
  refine aw_block ?_
  refine aw_loop (fun gn gσ => ∃ (i : Int), gn = ((w.Trained.length : Int) - i).toNat ∧ (0 ≤ i ∧ i ≤ (w.Trained.length : Int)) ∧ (∀ j : Nat, (j : Int) < i → okTrained' (at_ w.Trained j) = true) ∧ gσ = mkS [(0, .ptr false [I w.Band, slTrained false w.Trained]), (3, I i)] []) (((w.Trained.length : Int) - 0).toNat) ⟨0, rfl, (by omega), (by intro j hj; omega), rfl⟩ (fun gn gσ hI => ?_)
  obtain ⟨i, rfl, hi0, hall0, rfl⟩ := hI
  refine aw_seq ?_
  refine aw_seq ?_
  by_cases h1 : i < (w.Trained.length : Int)
  ·have hi : i.toNat < w.Trained.length := by omega
   refine aw_r [(6, .dec true)] [0, 3, 10] [] [.ptr false [I w.Band, slTrained false w.Trained], I i, Bv true] [] [i < (w.Trained.length : Int)] hB ⟨h1, trivial⟩ ?_
   refine ae_then ?_
   refine aw_true rfl ?_
   refine aw_skip ?_
   refine ae_then ?_
   refine aw_seq ?_
   refine aw_block ?_
   refine aw_seq ?_
   rcases Bool.eq_false_or_eq_true (okTrained' (at_ w.Trained i.toNat)) with h2 | h2
   ·refine aw_r [(6, .call [(true, .any)] true (Bv true))] [0, 3, 20] [] [.ptr false [I w.Band, slTrained false w.Trained], I i, Bv false] [] [(0 : Int) ≤ i ∧ i < (w.Trained.length : Int), Con Tryz.prog 74 [.ptr false [Sv ((at_ w.Trained i.toNat).Label), slFeat false ((at_ w.Trained i.toNat).Base), slFeat false ((at_ w.Trained i.toNat).Feats), I ((at_ w.Trained i.toNat).Count)]] true (Bv true) ∧ True] hB ⟨⟨(by omega), (by omega)⟩, ⟨(con_bool h2 (l24Ok_ok (at_ w.Trained i.toNat) (ok _ (at_mem hi)))), trivial⟩, trivial⟩ ?_
    refine ae_then ?_
    refine aw_false rfl ?_
    refine aw_skip ?_
    refine ae_block 1 ?_
    refine ae_then ?_
    refine aw_r [] [0, 3] [] [.ptr false [I w.Band, slTrained false w.Trained], I (i + 1)] [] [inR .i64 (i + 1)] hB ⟨(inR_i64 (by omega) (by omega)), trivial⟩ ?_
    exact ae_again _ (by omega) ⟨(i + 1), rfl, (by omega), (by intro j hj; by_cases ej : j = i.toNat; (subst ej; first | assumption | exact hok); exact hall0 j (by omega)), rfl⟩
   have hall : allN w.Trained.length (fun j => okTrained' (at_ w.Trained j)) = false := allN_not hi h2
   refine aw_r [(6, .call [(true, .any)] true (Bv false))] [0, 3, 20] [] [.ptr false [I w.Band, slTrained false w.Trained], I i, Bv true] [] [(0 : Int) ≤ i ∧ i < (w.Trained.length : Int), Con Tryz.prog 74 [.ptr false [Sv ((at_ w.Trained i.toNat).Label), slFeat false ((at_ w.Trained i.toNat).Base), slFeat false ((at_ w.Trained i.toNat).Feats), I ((at_ w.Trained i.toNat).Count)]] true (Bv false) ∧ True] hB ⟨⟨(by omega), (by omega)⟩, ⟨(con_bool h2 (l24Ok_ok (at_ w.Trained i.toNat) (ok _ (at_mem hi)))), trivial⟩, trivial⟩ ?_
   refine ae_then ?_
   refine aw_true rfl ?_
   refine aR [] [2] [] [Bv false] [] [] hB trivial ?_
   refine aw_ret ?_
   refine ae_ret_block (ae_ret_then (ae_ret_then (ae_ret_block (ae_ret_then ?_))))
   refine ae_ret hB (Bv false) (by kernel_rfl) (.inl (by first | rfl | (refine congrArg Bv ?_; simp [okWriter', inB, *]; done) | (refine congrArg Bv ?_; simp [okWriter', inB, *]; omega) | (refine congrArg Bv ?_; simp_all [okWriter', inB]; done) | (refine congrArg Bv ?_; simp_all [okWriter', inB]; omega))) rfl (fun _ => trivial)
  have hall : allN w.Trained.length (fun j => okTrained' (at_ w.Trained j)) = true := allN_at (fun j hj => hall0 j (by omega))
  refine aw_r [(6, .dec false)] [0, 3, 10] [] [.ptr false [I w.Band, slTrained false w.Trained], I i, Bv false] [] [¬ (i < (w.Trained.length : Int))] hB ⟨h1, trivial⟩ ?_
  refine ae_then ?_
  refine aw_false rfl ?_
  refine aw_exit ?_
  refine ae_exit_then ?_
  refine ae_exit_then ?_
  refine ae_exit_same ?_
  refine ae_then ?_
  refine aw_seq ?_
  rcases Bool.eq_false_or_eq_true (inB w.Band 0 72) with h3 | h3
  ·refine aw_r [(4, .call [(true, .any), (true, .any), (true, .any)] true (Bv true))] [2] [] [Bv (decide ((w.Trained.length : Int) ≤ 40))] [] [Con Tryz.prog 48 [I w.Band, I 0, I 72] true (Bv true) ∧ True] hB ⟨⟨(con_bool h3 (l00In_ok w.Band 0 72)), trivial⟩, trivial⟩ ?_
   refine ae_then ?_
   refine aw_ret ?_
   refine ae_ret hB (Bv (decide ((w.Trained.length : Int) ≤ 40))) (by kernel_rfl) (.inl (by first | rfl | (refine congrArg Bv ?_; simp [okWriter', inB, *]; done) | (refine congrArg Bv ?_; simp [okWriter', inB, *]; omega) | (refine congrArg Bv ?_; simp_all [okWriter', inB]; done) | (refine congrArg Bv ?_; simp_all [okWriter', inB]; omega))) rfl (fun _ => trivial)
  refine aw_r [(4, .call [(true, .any), (true, .any), (true, .any)] true (Bv false))] [2] [] [Bv false] [] [Con Tryz.prog 48 [I w.Band, I 0, I 72] true (Bv false) ∧ True] hB ⟨⟨(con_bool h3 (l00In_ok w.Band 0 72)), trivial⟩, trivial⟩ ?_
  refine ae_then ?_
  refine aw_ret ?_
  refine ae_ret hB (Bv false) (by kernel_rfl) (.inl (by first | rfl | (refine congrArg Bv ?_; simp [okWriter', inB, *]; done) | (refine congrArg Bv ?_; simp [okWriter', inB, *]; omega) | (refine congrArg Bv ?_; simp_all [okWriter', inB]; done) | (refine congrArg Bv ?_; simp_all [okWriter', inB]; omega))) rfl (fun _ => trivial)


-- spec.l24Copy
theorem l24Copy_ok (list : List Feat) (hl : list.length ≤ 72) : Con Tryz.prog 85 [slFeat false list] true (slFeat true list) := by
  refine fn_ok (fn := Tryz.f85) (nt := 6) Tryz.func85 rfl rfl rfl rfl (by simp [taggedL, tagged, tagFeat]) fun B hB => ?_
  refine aw_lens (x := slFeat false list) 0 rfl (fun len_list => ?_)
  simp [LenOK, LenL, cFeat, fFeat, slFeat] at len_list
  refine aR [] [0] [] [slFeat false list] [] [] hB trivial ?_
  refine aR [(0, .new 3), (2, .new 5)] [2] [5] [.arr 5] [some (.arr 3 (0 + list.length) (catF 0 (litF [] 3) (fFeat list)))] [(0 + list.length) * 24 ≤ 140737488355328] hB ⟨(by omega), trivial⟩ ?_
  refine aw_ret ?_
  refine ae_ret hB (.arr 5) (by kernel_rfl) (.inr ⟨(fun _ => rfl), rfl, (by first | rfl | (simp; done) | (simp; omega) | omega), fun i_ hi_ => .inl (cat_nil i_)⟩) rfl (fun _ => (tagFeat true _))


def okStore' (s : Store) : Bool := inB s.Band 0 72 && (decide ((s.Templates.length : Int) ≤ 40) && allN s.Templates.length (fun j => okTm (at_ s.Templates j)))
theorem okStore_iff {s : Store} : okStore' s = true ↔ (0 ≤ s.Band ∧ s.Band ≤ 72) ∧ s.Templates.length ≤ 40 ∧ ∀ j, j < s.Templates.length → okTm (at_ s.Templates j) = true := by
  simp only [okStore', Bool.and_eq_true, decide_eq_true_eq, inB, allN_iff]
  constructor
  · rintro ⟨a, b, c⟩; exact ⟨a, by omega, c⟩
  · rintro ⟨a, b, c⟩; exact ⟨a, by omega, c⟩

def stT (t : Template) : Trained := ⟨t.Label, t.Feats, t.Feats, 0⟩
def wsR (s : Store) : Writer × Int := if okStore' s = true then (⟨s.Band, s.Templates.map stT⟩, 0) else (⟨0, []⟩, 1)
theorem wsR_yes {s : Store} (h : okStore' s = true) : wsR s = (⟨s.Band, s.Templates.map stT⟩, 0) := if_pos h
theorem wsR_no {s : Store} (h : okStore' s = false) : wsR s = (⟨0, []⟩, 1) := by simp [wsR, h]
theorem map_take {α β : Type} [Inhabited α] (f : α → β) {l : List α} {i : Nat} (hi : i < l.length) : (l.take (i + 1)).map f = (l.take i).map f ++ [f (at_ l i)] := by rw [take_snoc' hi, List.map_append]; rfl

-- spec.l24Own
theorem l24Own_ok (w : Writer) (hok : w.Trained.length ≤ 40 ∧ ∀ j, j < w.Trained.length → (at_ w.Trained j).Base.length ≤ 72 ∧ (at_ w.Trained j).Feats.length ≤ 72) : ∃ (us : List Trained), (us = w.Trained) ∧ CallOK Tryz.prog 49 [.ptr false [I w.Band, slTrained false w.Trained]] (lookO []) false (.agg [I w.Band, .arr 7921]) (lookO [(7921, tATrained true us)]) := by
  have hh : ∃ r : (List Trained), ((r = w.Trained) ∧ (True)) ∧ CallOK Tryz.prog 49 [.ptr false [I w.Band, slTrained false w.Trained]] (lookO []) false (.agg [I w.Band, .arr 7921]) (lookO [(7921, tATrained true r)]) := by
    refine fn_okX (Φ := fun r : (List Trained) => (r = w.Trained) ∧ (True)) [] (fun r => [(7921, tATrained true r)]) (fn := Tryz.f49) (nt := 51) Tryz.func49 rfl rfl (args := [.ptr false [I w.Band, slTrained false w.Trained]]) rfl (allcons (.inl ⟨rfl, by simp [tagged, taggedL, tagTrained]⟩) allnil) (res := fun r => .agg [I w.Band, .arr 7921]) ?_
    refine xR [(0, .new 2)] [0, 2] [2] [.ptr false [I w.Band, slTrained false w.Trained], .ref 2 0] [some (.box [I 0, nilA])] [] trivial ?_
    refine xR [(5, .new 3)] [0, 2, 3] [2, 3] [.ptr false [I w.Band, slTrained false w.Trained], .ref 2 0, .ref 3 0] [some (.box [I 0, nilA]), some (.box [I w.Band, nilA])] [] trivial ?_
    refine x_seq ?_
    refine xR [] [0, 2, 3, 4] [2, 3] [.ptr false [I w.Band, slTrained false w.Trained], .ref 2 0, .ref 3 0, I 0] [some (.box [I 0, nilA]), some (.box [I w.Band, nilA])] [] trivial ?_
    refine x_block ?_
    refine x_nilC 3 1 731 4 (fun _ => []) rfl (by kernel_rfl) ?_
    refine x_weak [] (T := [(0, .ptr false [I w.Band, slTrained false w.Trained]), (2, .ref 2 0), (3, .ref 3 0), (4, I 0)]) (O := [(2, .box [I 0, nilA]), (3, .box [I w.Band, .arr 731]), (731, tATrained true ([] : List Trained))]) rfl (⟨.inl rfl, .inl rfl, .inl rfl, .inl rfl, trivial⟩) (⟨.inl rfl, .inl rfl, .inr ⟨rfl, (by first | rfl | (simp; done) | (simp; omega) | omega), fun i_ hi_ => absurd hi_ (Nat.not_lt_zero _)⟩, trivial⟩) ?_
    refine x_loop (X := Int × (List Trained)) (fun x => mkS [(0, .ptr false [I w.Band, slTrained false w.Trained]), (2, .ref 2 0), (3, .ref 3 0), (4, I x.1)] [(2, .box [I 0, nilA]), (3, .box [I w.Band, .arr 731]), (731, tATrained true x.2)]) (fun x => (0 ≤ x.1 ∧ x.1 ≤ (w.Trained.length : Int)) ∧ (x.2 = w.Trained.take x.1.toNat) ∧ True) (fun x => ((w.Trained.length : Int) - x.1).toNat) (0, ([] : List Trained)) rfl (show (0 ≤ (0 : Int) ∧ (0 : Int) ≤ (w.Trained.length : Int)) ∧ (([] : List Trained) = w.Trained.take (0 : Int).toNat) ∧ True from ⟨(by omega), (by rfl), trivial⟩) (fun x hI => ?_)
    obtain ⟨i, ts⟩ := x
    obtain ⟨hi0, hy0, _⟩ : (0 ≤ i ∧ i ≤ (w.Trained.length : Int)) ∧ (ts = w.Trained.take i.toNat) ∧ True := hI
    show XW _ _ _ _ (mkS [(0, .ptr false [I w.Band, slTrained false w.Trained]), (2, .ref 2 0), (3, .ref 3 0), (4, I i)] [(2, .box [I 0, nilA]), (3, .box [I w.Band, .arr 731]), (731, tATrained true ts)]) _ _
    refine x_seq ?_
    refine x_seq ?_
    by_cases h1 : i < (w.Trained.length : Int)
    ·have hi : i.toNat < w.Trained.length := by omega
     have hlen := hok.2 _ hi
     have htl : ts.length = i.toNat := by rw [hy0, List.length_take]; omega
     refine x_r [(6, .dec true)] [0, 2, 3, 4, 17] [2, 3, 731] [.ptr false [I w.Band, slTrained false w.Trained], .ref 2 0, .ref 3 0, I i, Bv true] [some (.box [I 0, nilA]), some (.box [I w.Band, .arr 731]), some (tATrained true ts)] [i < (w.Trained.length : Int)] ⟨h1, trivial⟩ ?_
     refine xe_then ?_
     refine x_true rfl ?_
     refine x_skip ?_
     refine xe_then ?_
     refine x_seq ?_
     refine x_block ?_
     refine xR [] [0, 2, 3, 4, 5] [2, 3, 731] [.ptr false [I w.Band, slTrained false w.Trained], .ref 2 0, .ref 3 0, I i, .ptr false [Sv ((at_ w.Trained i.toNat).Label), slFeat false ((at_ w.Trained i.toNat).Base), slFeat false ((at_ w.Trained i.toNat).Feats), I ((at_ w.Trained i.toNat).Count)]] [some (.box [I 0, nilA]), some (.box [I w.Band, .arr 731]), some (tATrained true ts)] [(0 : Int) ≤ i ∧ i < (w.Trained.length : Int)] ⟨⟨(by omega), (by omega)⟩, trivial⟩ ?_
     refine x_r [(10, .call [(true, .any)] true (slFeat true ((at_ w.Trained i.toNat).Base))), (15, .call [(true, .any)] true (slFeat true ((at_ w.Trained i.toNat).Feats))), (21, .new 47), (22, .new 48)] [0, 2, 3, 4] [2, 3, 48] [.ptr false [I w.Band, slTrained false w.Trained], .ref 2 0, .ref 3 0, I i] [some (.box [I 0, nilA]), some (.box [I w.Band, .arr 48]), some (.arr 4 (ts.length + 1) (catF ts.length (fTrained true ts) (litF [Sv ((at_ w.Trained i.toNat).Label), slFeat true ((at_ w.Trained i.toNat).Base), slFeat true ((at_ w.Trained i.toNat).Feats), I ((at_ w.Trained i.toNat).Count)] 4)))] [Con Tryz.prog 85 [slFeat false ((at_ w.Trained i.toNat).Base)] true (slFeat true ((at_ w.Trained i.toNat).Base)) ∧ True, Con Tryz.prog 85 [slFeat false ((at_ w.Trained i.toNat).Feats)] true (slFeat true ((at_ w.Trained i.toNat).Feats)) ∧ True, (ts.length + 1) * 72 ≤ 140737488355328] ⟨⟨(l24Copy_ok ((at_ w.Trained i.toNat).Base) hlen.1), trivial⟩, ⟨(l24Copy_ok ((at_ w.Trained i.toNat).Feats) hlen.2), trivial⟩, (by omega), trivial⟩ ?_
     refine xe_block 1 ?_
     refine xe_then ?_
     refine x_r [] [0, 2, 3, 4] [2, 3, 48] [.ptr false [I w.Band, slTrained false w.Trained], .ref 2 0, .ref 3 0, I (i + 1)] [some (.box [I 0, nilA]), some (.box [I w.Band, .arr 48]), some (.arr 4 (ts.length + 1) (catF ts.length (fTrained true ts) (litF [Sv ((at_ w.Trained i.toNat).Label), slFeat true ((at_ w.Trained i.toNat).Base), slFeat true ((at_ w.Trained i.toNat).Feats), I ((at_ w.Trained i.toNat).Count)] 4)))] [inR .i64 (i + 1)] ⟨(inR_i64 (by omega) (by omega)), trivial⟩ ?_
     refine xe_weak [(731, 48)] (T := [(0, .ptr false [I w.Band, slTrained false w.Trained]), (2, .ref 2 0), (3, .ref 3 0), (4, I (i + 1))]) (O := [(2, .box [I 0, nilA]), (3, .box [I w.Band, .arr 731]), (731, tATrained true (ts ++ [(at_ w.Trained i.toNat)]))]) rfl (⟨.inl rfl, .inl rfl, .inl rfl, .inl rfl, trivial⟩) (⟨.inl rfl, .inl rfl, .inr ⟨rfl, (by first | rfl | (simp; done) | (simp; omega) | omega), fun i_ hi_ => .inl (cat_snoc (enc := (cTrained true)) (xs := ts) rfl i_ hi_)⟩, trivial⟩) (xe_again ((i + 1), (ts ++ [(at_ w.Trained i.toNat)])) rfl (show (0 ≤ (i + 1) ∧ (i + 1) ≤ (w.Trained.length : Int)) ∧ ((ts ++ [(at_ w.Trained i.toNat)]) = w.Trained.take (i + 1).toNat) ∧ True from ⟨(by omega), (by rw [show (i + 1).toNat = i.toNat + 1 from by omega, take_snoc' hi, ← hy0]), trivial⟩) (by first | (show (((w.Trained.length : Int) - (i + 1)).toNat : Nat) < ((w.Trained.length : Int) - i).toNat; omega) | (dsimp only; omega)))
    have hie : i.toNat = w.Trained.length := by omega
    rw [hie, List.take_length] at hy0
    refine x_r [(6, .dec false)] [0, 2, 3, 4, 17] [2, 3, 731] [.ptr false [I w.Band, slTrained false w.Trained], .ref 2 0, .ref 3 0, I i, Bv false] [some (.box [I 0, nilA]), some (.box [I w.Band, .arr 731]), some (tATrained true ts)] [¬ (i < (w.Trained.length : Int))] ⟨h1, trivial⟩ ?_
    refine xe_then ?_
    refine x_false rfl ?_
    refine x_exit ?_
    refine xe_exit_then ?_
    refine xe_loop_exit ?_
    refine xe_exit_same ?_
    refine xe_then ?_
    refine xR [] [2] [2, 731] [.ref 2 0] [some (.box [I w.Band, .arr 731]), some (tATrained true ts)] [] trivial ?_
    refine x_ret ?_
    refine xe_weak [(7921, 731)] (T := [(2, .ref 2 0)]) (O := [(2, .box [I w.Band, .arr 7921]), (7921, tATrained true ts)]) rfl (⟨.inl rfl, trivial⟩) (⟨.inl rfl, .inl rfl, trivial⟩) ?_
    refine xe_end ts (show (ts = w.Trained) ∧ (True) from ⟨(by exact hy0), trivial⟩) (⟨.inl rfl, trivial⟩) (.agg [I w.Band, .arr 7921]) (by kernel_rfl) (.inl rfl) (fun h => by cases h) (fun h => by cases h)
  obtain ⟨us, ⟨hh0, _⟩, hc⟩ := hh
  exact ⟨us, hh0, hc⟩


-- spec.l10Band
theorem l10Band_ok (n : Int) (m : Int) (band : Int) (hn : 0 ≤ n ∧ n ≤ 4611686018427387904) (hm : 0 ≤ m ∧ m ≤ 4611686018427387904) : Con Tryz.prog 111 [I n, I m, I band] true (Bv (inB band 0 72 && decide (((n - m).natAbs : Int) ≤ band))) := by
  refine fn_ok (fn := Tryz.f111) (nt := 17) Tryz.func111 rfl rfl rfl rfl (by simp [taggedL, tagged]) fun B hB => ?_
  refine aR [] [0, 1, 2] [] [I n, I m, I band] [] [] hB trivial ?_
  refine aw_seq ?_
  rcases Bool.eq_false_or_eq_true (inB band 0 72) with h1 | h1
  ·refine aw_r [(1, .call [(true, .any), (true, .any), (true, .any)] true (Bv true)), (6, .call [(true, .any)] true (I ((n - m).natAbs : Int)))] [6] [] [Bv (decide (((n - m).natAbs : Int) ≤ band))] [] [Con Tryz.prog 48 [I band, I 0, I 72] true (Bv true) ∧ True, inR .i64 (n - m), Con Tryz.prog 80 [I (n - m)] true (I ((n - m).natAbs : Int)) ∧ True] hB ⟨⟨(con_bool h1 (l00In_ok band 0 72)), trivial⟩, (inR_i64 (by omega) (by omega)), ⟨(l09Size_ok (n - m) (by omega)), trivial⟩, trivial⟩ ?_
   refine ae_then ?_
   refine aw_ret ?_
   refine ae_ret hB (Bv (decide (((n - m).natAbs : Int) ≤ band))) (by kernel_rfl) (.inl (by refine congrArg Bv ?_; first | (simp [*]; done) | (simp [inB] at *; omega))) rfl (fun _ => trivial)
  refine aw_r [(1, .call [(true, .any), (true, .any), (true, .any)] true (Bv false))] [6] [] [Bv false] [] [Con Tryz.prog 48 [I band, I 0, I 72] true (Bv false) ∧ True] hB ⟨⟨(con_bool h1 (l00In_ok band 0 72)), trivial⟩, trivial⟩ ?_
  refine ae_then ?_
  refine aw_ret ?_
  refine ae_ret hB (Bv false) (by kernel_rfl) (.inl (by refine congrArg Bv ?_; first | (simp [*]; done) | (simp [inB] at *; omega))) rfl (fun _ => trivial)


-- spec.l10In
theorem l10In_ok (a : List Feat) (b : List Feat) (band : Int) (ha : a.length ≤ 100000) (hb : b.length ≤ 100000) : Con Tryz.prog 86 [slFeat false a, slFeat false b, I band] true (Bv (inB band 0 72 && decide (((((b.length : Int) - (a.length : Int)).natAbs : Int) ≤ band)))) := by
  refine fn_ok (fn := Tryz.f86) (nt := 13) Tryz.func86 rfl rfl rfl rfl (by simp [taggedL, tagged, tagFeat]) fun B hB => ?_
  refine aw_lens (x := slFeat false a) 0 rfl (fun len_a => ?_)
  simp [LenOK, LenL, cFeat, fFeat, slFeat] at len_a
  refine aw_lens (x := slFeat false b) 1 rfl (fun len_b => ?_)
  simp [LenOK, LenL, cFeat, fFeat, slFeat] at len_b
  refine aR [] [0, 1, 2] [] [slFeat false a, slFeat false b, I band] [] [] hB trivial ?_
  refine aR [(5, .call [(true, .any), (true, .any), (true, .any)] true (Bv (inB band 0 72 && decide ((((a.length : Int) - (b.length : Int)).natAbs : Int) ≤ band))))] [6] [] [Bv (inB band 0 72 && decide ((((a.length : Int) - (b.length : Int)).natAbs : Int) ≤ band))] [] [Con Tryz.prog 111 [I (a.length : Int), I (b.length : Int), I band] true (Bv (inB band 0 72 && decide ((((a.length : Int) - (b.length : Int)).natAbs : Int) ≤ band))) ∧ True] hB ⟨⟨(l10Band_ok (a.length : Int) (b.length : Int) band (by omega) (by omega)), trivial⟩, trivial⟩ ?_
  refine aw_ret ?_
  refine ae_ret hB (Bv (inB band 0 72 && decide ((((a.length : Int) - (b.length : Int)).natAbs : Int) ≤ band))) (by kernel_rfl) (.inl (by rw [show ((a.length : Int) - (b.length : Int)).natAbs = ((b.length : Int) - (a.length : Int)).natAbs from by omega])) rfl (fun _ => trivial)


-- spec.l00Min
theorem l00Min_ok (a : Int) (b : Int) : Con Tryz.prog 62 [I a, I b] true (I (min a b)) := by
  refine fn_ok (fn := Tryz.f62) (nt := 10) Tryz.func62 rfl rfl rfl rfl (by simp [taggedL, tagged]) fun B hB => ?_
  refine aR [] [0, 1] [] [I a, I b] [] [] hB trivial ?_
  refine aw_seq ?_
  refine aw_seq ?_
  by_cases h1 : a < b
  ·refine aw_r [(2, .dec true)] [0, 1, 7] [] [I a, I b, Bv true] [] [a < b] hB ⟨h1, trivial⟩ ?_
   refine ae_then ?_
   refine aw_true rfl ?_
   refine aR [] [4] [] [I a] [] [] hB trivial ?_
   refine aw_ret ?_
   refine ae_ret_then ?_
   refine ae_ret hB (I a) (by kernel_rfl) (.inl (by refine congrArg I ?_; omega)) rfl (fun _ => trivial)
  refine aw_r [(2, .dec false)] [0, 1, 7] [] [I a, I b, Bv false] [] [¬ (a < b)] hB ⟨h1, trivial⟩ ?_
  refine ae_then ?_
  refine aw_false rfl ?_
  refine aw_skip ?_
  refine ae_then ?_
  refine aR [] [4] [] [I b] [] [] hB trivial ?_
  refine aw_ret ?_
  refine ae_ret hB (I b) (by kernel_rfl) (.inl (by refine congrArg I ?_; omega)) rfl (fun _ => trivial)


/-- The cost of matching two features. -/
def costF (a b : Feat) : Int := ((a.X - b.X).natAbs : Int) + ((a.Y - b.Y).natAbs : Int) + 16 * min ((a.D - b.D).natAbs : Int) (8 - ((a.D - b.D).natAbs : Int))
theorem costF_bd {a b : Feat} (ha : okF a = true) (hb : okF b = true) : 0 ≤ costF a b ∧ costF a b ≤ 600 := by
  have h1 := okF_iff.1 ha
  have h2 := okF_iff.1 hb
  unfold costF
  omega
/-- A cell of the table, from the least cost ahead of it. -/
def stp (far band : Int) (i j : Nat) (before c : Int) : Int := if band < (((i : Int) - (j : Int)).natAbs : Int) ∨ far ≤ before then far else before + c
/-- The least cost of all paths to a pair, or 'far'. -/
def cv (far : Int) (a b : List Feat) (band : Int) : Nat → Nat → Int
  | 0, 0 => stp far band 0 0 0 (costF (at_ a 0) (at_ b 0))
  | 0, j + 1 => stp far band 0 (j + 1) (min far (cv far a b band 0 j)) (costF (at_ a 0) (at_ b (j + 1)))
  | i + 1, 0 => stp far band (i + 1) 0 (min far (cv far a b band i 0)) (costF (at_ a (i + 1)) (at_ b 0))
  | i + 1, j + 1 => stp far band (i + 1) (j + 1) (min (min (min far (cv far a b band i j)) (cv far a b band i (j + 1))) (cv far a b band (i + 1) j)) (costF (at_ a (i + 1)) (at_ b (j + 1)))
termination_by i j => (i, j)
/-- Lists of features that may be matched. -/
def okAB (a b : List Feat) : Prop := (∀ i, i < a.length → okF (at_ a i) = true) ∧ (∀ j, j < b.length → okF (at_ b j) = true) ∧ a.length ≤ 72 ∧ b.length ≤ 72
theorem stp_far {far band : Int} {i j : Nat} {before c : Int} (h : band < (((i : Int) - (j : Int)).natAbs : Int) ∨ far ≤ before) : stp far band i j before c = far := if_pos h
theorem stp_add {far band : Int} {i j : Nat} {before c : Int} (h1 : ¬ band < (((i : Int) - (j : Int)).natAbs : Int)) (h2 : ¬ far ≤ before) : stp far band i j before c = before + c := if_neg (by omega)
theorem cv_out {far band : Int} {a b : List Feat} {i j : Nat} (h : band < (((i : Int) - (j : Int)).natAbs : Int)) : cv far a b band i j = far := by
  rcases i with _ | i <;> rcases j with _ | j <;> rw [cv] <;> exact stp_far (.inl h)
/-- Within the band the costs are few, and the same however far 'far' is. -/
theorem cv_in {band : Int} {a b : List Feat} (hab : okAB a b) {f1 f2 : Int} (h1 : 1000000000 ≤ f1) (h2 : 1000000000 ≤ f2) : ∀ (s i j : Nat), i + j = s → i < a.length → j < b.length → (((i : Int) - (j : Int)).natAbs : Int) ≤ band → cv f1 a b band i j = cv f2 a b band i j ∧ 0 ≤ cv f1 a b band i j ∧ cv f1 a b band i j ≤ 600 * ((i : Int) + j + 1)
  | s, 0, 0, hs, hi, hj, hb => by
    have hc := costF_bd (hab.1 0 hi) (hab.2.1 0 hj)
    rw [cv, cv, stp_add (by omega) (by omega), stp_add (by omega) (by omega)]
    omega
  | s, 0, j + 1, hs, hi, hj, hb => by
    have hc := costF_bd (hab.1 0 hi) (hab.2.1 (j + 1) hj)
    obtain ⟨e, p0, p1⟩ := cv_in (band := band) hab h1 h2 (0 + j) 0 j rfl hi (by omega) (by omega)
    have hl := hab.2.2
    rw [cv, cv, ← e, stp_add (by omega) (by omega), stp_add (by omega) (by omega)]
    omega
  | s, i + 1, 0, hs, hi, hj, hb => by
    have hc := costF_bd (hab.1 (i + 1) hi) (hab.2.1 0 hj)
    obtain ⟨e, p0, p1⟩ := cv_in (band := band) hab h1 h2 (i + 0) i 0 rfl (by omega) hj (by omega)
    have hl := hab.2.2
    rw [cv, cv, ← e, stp_add (by omega) (by omega), stp_add (by omega) (by omega)]
    omega
  | s, i + 1, j + 1, hs, hi, hj, hb => by
    have hc := costF_bd (hab.1 (i + 1) hi) (hab.2.1 (j + 1) hj)
    have hl := hab.2.2
    obtain ⟨e, p0, p1⟩ := cv_in (band := band) hab h1 h2 (i + j) i j rfl (by omega) (by omega) (by omega)
    have q1 : (cv f1 a b band i (j + 1) = f1 ∧ cv f2 a b band i (j + 1) = f2) ∨ (cv f1 a b band i (j + 1) = cv f2 a b band i (j + 1) ∧ 0 ≤ cv f1 a b band i (j + 1) ∧ cv f1 a b band i (j + 1) ≤ 600 * ((i : Int) + (j + 1 : Nat) + 1)) := by
      by_cases q : band < (((i : Int) - ((j + 1 : Nat) : Int)).natAbs : Int)
      · exact .inl ⟨cv_out q, cv_out q⟩
      · exact .inr (cv_in (band := band) hab h1 h2 (i + (j + 1)) i (j + 1) rfl (by omega) hj (by omega))
    have q2 : (cv f1 a b band (i + 1) j = f1 ∧ cv f2 a b band (i + 1) j = f2) ∨ (cv f1 a b band (i + 1) j = cv f2 a b band (i + 1) j ∧ 0 ≤ cv f1 a b band (i + 1) j ∧ cv f1 a b band (i + 1) j ≤ 600 * (((i + 1 : Nat) : Int) + j + 1)) := by
      by_cases q : band < ((((i + 1 : Nat) : Int) - (j : Int)).natAbs : Int)
      · exact .inl ⟨cv_out q, cv_out q⟩
      · exact .inr (cv_in (band := band) hab h1 h2 ((i + 1) + j) (i + 1) j rfl hi (by omega) (by omega))
    rw [cv, cv, ← e, stp_add (by omega) (by omega), stp_add (by omega) (by omega)]
    omega
termination_by s i j => i + j

-- spec.l09Cost
theorem l09Cost_ok (a : Feat) (b : Feat) (ha : okF a = true) (hb : okF b = true) : Con Tryz.prog 109 [agFeat a, agFeat b] true (I (costF a b)) := by
  have ha' := okF_iff.1 ha
  have hb' := okF_iff.1 hb
  refine fn_ok (fn := Tryz.f109) (nt := 31) Tryz.func109 rfl rfl rfl rfl (by simp [taggedL, tagged]) fun B hB => ?_
  refine aR [(0, .new 2), (1, .new 3)] [2, 3] [2, 3] [.ref 2 0, .ref 3 0] [some (bxFeat a), some (bxFeat b)] [] hB trivial ?_
  refine aR [(5, .call [(true, .any)] true (I ((a.D - b.D).natAbs : Int)))] [2, 3, 5] [2, 3] [.ref 2 0, .ref 3 0, I ((a.D - b.D).natAbs : Int)] [some (bxFeat a), some (bxFeat b)] [inR .i64 (a.D - b.D), Con Tryz.prog 80 [I (a.D - b.D)] true (I ((a.D - b.D).natAbs : Int)) ∧ True] hB ⟨(inR_i64 (by omega) (by omega)), ⟨(l09Size_ok (a.D - b.D) (by omega)), trivial⟩, trivial⟩ ?_
  refine aR [(5, .call [(true, .any)] true (I ((a.X - b.X).natAbs : Int))), (11, .call [(true, .any)] true (I ((a.Y - b.Y).natAbs : Int))), (16, .call [(true, .any), (true, .any)] true (I (min ((a.D - b.D).natAbs : Int) (8 - ((a.D - b.D).natAbs : Int)))))] [4] [] [I ((((a.X - b.X).natAbs : Int) + ((a.Y - b.Y).natAbs : Int)) + (16 * (min ((a.D - b.D).natAbs : Int) (8 - ((a.D - b.D).natAbs : Int)))))] [] [inR .i64 (a.X - b.X), Con Tryz.prog 80 [I (a.X - b.X)] true (I ((a.X - b.X).natAbs : Int)) ∧ True, inR .i64 (a.Y - b.Y), Con Tryz.prog 80 [I (a.Y - b.Y)] true (I ((a.Y - b.Y).natAbs : Int)) ∧ True, inR .i64 (((a.X - b.X).natAbs : Int) + ((a.Y - b.Y).natAbs : Int)), inR .i64 (8 - ((a.D - b.D).natAbs : Int)), Con Tryz.prog 62 [I ((a.D - b.D).natAbs : Int), I (8 - ((a.D - b.D).natAbs : Int))] true (I (min ((a.D - b.D).natAbs : Int) (8 - ((a.D - b.D).natAbs : Int)))) ∧ True, inR .i64 (16 * (min ((a.D - b.D).natAbs : Int) (8 - ((a.D - b.D).natAbs : Int)))), inR .i64 ((((a.X - b.X).natAbs : Int) + ((a.Y - b.Y).natAbs : Int)) + (16 * (min ((a.D - b.D).natAbs : Int) (8 - ((a.D - b.D).natAbs : Int)))))] hB ⟨(inR_i64 (by omega) (by omega)), ⟨(l09Size_ok (a.X - b.X) (by omega)), trivial⟩, (inR_i64 (by omega) (by omega)), ⟨(l09Size_ok (a.Y - b.Y) (by omega)), trivial⟩, (inR_i64 (by omega) (by omega)), (inR_i64 (by omega) (by omega)), ⟨(l00Min_ok ((a.D - b.D).natAbs : Int) (8 - ((a.D - b.D).natAbs : Int))), trivial⟩, (inR_i64 (by omega) (by omega)), (inR_i64 (by omega) (by omega)), trivial⟩ ?_
  refine aw_ret ?_
  refine ae_ret hB (I ((((a.X - b.X).natAbs : Int) + ((a.Y - b.Y).natAbs : Int)) + (16 * (min ((a.D - b.D).natAbs : Int) (8 - ((a.D - b.D).natAbs : Int)))))) (by kernel_rfl) (.inl (by refine congrArg I ?_; first | rfl | (unfold costF; omega))) rfl (fun _ => trivial)


theorem at_set_same {α : Type} [Inhabited α] {xs : List α} {i : Nat} {x : α} (h : i < xs.length) : at_ (xs.set i x) i = x := by simp [at_, h]
theorem at_set_oth {α : Type} [Inhabited α] {xs : List α} {i j : Nat} {x : α} (h : i ≠ j) : at_ (xs.set j x) i = at_ xs i := by
  have h' : ¬ j = i := fun e => h e.symm
  simp [at_, List.getElem?_set, h']

/-- The least cost of the pairs ahead of a pair, after k of three. -/
def lb1 (tb : List (List Int)) (i j : Int) : Int := if 1 ≤ i ∧ 1 ≤ j then min 1099511627776 (at_ (at_ tb (i - 1).toNat) (j - 1).toNat) else 1099511627776
def lb2 (tb : List (List Int)) (i j : Int) : Int := if 1 ≤ i then min (lb1 tb i j) (at_ (at_ tb (i - 1).toNat) (j - 0).toNat) else lb1 tb i j
def lb3 (tb : List (List Int)) (i j : Int) : Int := if 1 ≤ j then min (lb2 tb i j) (at_ (at_ tb (i - 0).toNat) (j - 1).toNat) else lb2 tb i j
def lbk (tb : List (List Int)) (i j : Int) : Nat → Int
  | 0 => 1099511627776
  | 1 => lb1 tb i j
  | 2 => lb2 tb i j
  | _ => lb3 tb i j

theorem set_next {xs : List Int} {i : Int} {f : Nat → Int} {y : Int} (h0 : 0 ≤ i) (hi : i.toNat < xs.length) (h : ∀ j : Nat, (j : Int) < i → at_ xs j = f j) (hy : y = f i.toNat) : ∀ j : Nat, (j : Int) < i + 1 → at_ (xs.set i.toNat y) j = f j := fun j hj => by
  by_cases e : j = i.toNat
  · subst e; simp [at_, hi, hy]
  · have h' : ¬ i.toNat = j := fun q => e q.symm
    have : at_ (xs.set i.toNat y) j = at_ xs j := by simp [at_, List.getElem?_set, h']
    rw [this]; exact h j (by omega)

abbrev farI : Int := 1099511627776
/-- The first n cells of a row of the table. -/
def rowOk (a b : List Feat) (band : Int) (r : List Int) (p n : Nat) : Prop := r.length = b.length ∧ ∀ q, q < n → at_ r q = cv farI a b band p q
/-- The first i rows of the table. -/
def tbOk (a b : List Feat) (band : Int) (tb : List (List Int)) (i : Nat) : Prop := tb.length = a.length ∧ ∀ p, p < i → rowOk a b band (at_ tb p) p b.length
theorem cv_nn {far : Int} (hf : 0 ≤ far) {a b : List Feat} (band : Int) (hab : okAB a b) : ∀ (i j : Nat), i < a.length → j < b.length → 0 ≤ cv far a b band i j
  | 0, 0, hi, hj => by
    have hc := costF_bd (hab.1 0 hi) (hab.2.1 0 hj)
    rw [cv]; unfold stp; split <;> omega
  | 0, j + 1, hi, hj => by
    have hc := costF_bd (hab.1 0 hi) (hab.2.1 (j + 1) hj)
    have := cv_nn hf band hab 0 j hi (by omega)
    rw [cv]; unfold stp; split <;> omega
  | i + 1, 0, hi, hj => by
    have hc := costF_bd (hab.1 (i + 1) hi) (hab.2.1 0 hj)
    have := cv_nn hf band hab i 0 (by omega) hj
    rw [cv]; unfold stp; split <;> omega
  | i + 1, j + 1, hi, hj => by
    have hc := costF_bd (hab.1 (i + 1) hi) (hab.2.1 (j + 1) hj)
    have := cv_nn hf band hab i j (by omega) (by omega)
    have := cv_nn hf band hab i (j + 1) (by omega) (by omega)
    have := cv_nn hf band hab (i + 1) j (by omega) (by omega)
    rw [cv]; unfold stp; split <;> omega
termination_by i j => i + j
/-- What the pairs ahead cost. -/
theorem lb_at {a b : List Feat} {band : Int} {tb : List (List Int)} {i j : Nat} (hab : okAB a b) (h : tbOk a b band tb i) (hr : rowOk a b band (at_ tb i) i j) (hi : i < a.length) (hj : j < b.length) :
    (0 ≤ lb3 tb i j ∧ lb3 tb i j ≤ farI) ∧ cv farI a b band i j = stp farI band i j (if i = 0 ∧ j = 0 then 0 else lb3 tb i j) (costF (at_ a i) (at_ b j)) := by
  have hF : farI = 1099511627776 := rfl
  have e1 : ∀ p q : Nat, p < i → q < b.length → at_ (at_ tb p) q = cv farI a b band p q ∧ 0 ≤ cv farI a b band p q := fun p q hp hq => ⟨(h.2 p hp).2 q hq, cv_nn (by decide) band hab p q (by omega) hq⟩
  have e2 : ∀ q : Nat, q < j → at_ (at_ tb i) q = cv farI a b band i q ∧ 0 ≤ cv farI a b band i q := fun q hq => ⟨hr.2 q hq, cv_nn (by decide) band hab i q hi (by omega)⟩
  rcases i with _ | i <;> rcases j with _ | j
  · refine ⟨?_, by rw [cv]; simp⟩
    simp [lb3, lb2, lb1]
  · have q := e2 j (by omega)
    have e : lb3 tb (0 : Nat) ((j + 1 : Nat) : Int) = min farI (cv farI a b band 0 j) := by
      unfold lb3 lb2 lb1
      rw [if_pos (by omega), if_neg (by omega), if_neg (by omega), show (((j + 1 : Nat) : Int) - 1).toNat = j from by omega, show (((0 : Nat) : Int) - 0).toNat = 0 from rfl, q.1]
    rw [e]
    refine ⟨by omega, ?_⟩
    rw [cv, if_neg (by omega)]
  · have q := e1 i 0 (by omega) hj
    have e : lb3 tb ((i + 1 : Nat) : Int) (0 : Nat) = min farI (cv farI a b band i 0) := by
      unfold lb3 lb2 lb1
      rw [if_neg (by omega), if_pos (by omega), if_neg (by omega), show (((i + 1 : Nat) : Int) - 1).toNat = i from by omega, show (((0 : Nat) : Int) - 0).toNat = 0 from rfl, q.1]
    rw [e]
    refine ⟨by omega, ?_⟩
    rw [cv, if_neg (by omega)]
  · have q1 := e1 i j (by omega) (by omega)
    have q2 := e1 i (j + 1) (by omega) hj
    have q3 := e2 j (by omega)
    have e : lb3 tb ((i + 1 : Nat) : Int) ((j + 1 : Nat) : Int) = min (min (min farI (cv farI a b band i j)) (cv farI a b band i (j + 1))) (cv farI a b band (i + 1) j) := by
      unfold lb3 lb2 lb1
      rw [if_pos (by omega), if_pos (by omega), if_pos (by omega), show (((i + 1 : Nat) : Int) - 1).toNat = i from by omega, show (((j + 1 : Nat) : Int) - 1).toNat = j from by omega, show (((j + 1 : Nat) : Int) - 0).toNat = j + 1 from by omega, show (((i + 1 : Nat) : Int) - 0).toNat = i + 1 from by omega, q1.1, q2.1, q3.1]
    rw [e]
    refine ⟨by omega, ?_⟩
    rw [cv, if_neg (by omega)]
theorem tb_row {a b : List Feat} {band : Int} {tb : List (List Int)} {i m : Nat} (h : tbOk a b band tb i) (hi : i < a.length) (hm : m = b.length) : tbOk a b band (tb.set i (List.replicate m 0)) i ∧ rowOk a b band (at_ (tb.set i (List.replicate m 0)) i) i 0 := by
  refine ⟨⟨by rw [List.length_set]; exact h.1, fun p hp => ?_⟩, ?_, fun q hq => by omega⟩
  · rw [at_set_oth (by omega)]; exact h.2 p hp
  · rw [at_set_same (by rw [h.1]; exact hi)]; simp [hm]
theorem tb_step {a b : List Feat} {band v : Int} {tb : List (List Int)} {i j : Nat} (h : tbOk a b band tb i) (hr : rowOk a b band (at_ tb i) i j) (hi : i < a.length) (hj : j < b.length) (hv : v = cv farI a b band i j) : tbOk a b band (tb.set i ((at_ tb i).set j v)) i ∧ rowOk a b band (at_ (tb.set i ((at_ tb i).set j v)) i) i (j + 1) := by
  refine ⟨⟨by rw [List.length_set]; exact h.1, fun p hp => ?_⟩, ?_, fun q hq => ?_⟩
  · rw [at_set_oth (by omega)]; exact h.2 p hp
  · rw [at_set_same (by rw [h.1]; exact hi), List.length_set]; exact hr.1
  · rw [at_set_same (by rw [h.1]; exact hi)]
    by_cases e : q = j
    · subst e; rw [at_set_same (by rw [hr.1]; exact hj)]; exact hv
    · rw [at_set_oth e]; exact hr.2 q (by omega)
theorem tb_done {a b : List Feat} {band : Int} {tb : List (List Int)} {i n : Nat} (h : tbOk a b band tb i) (hr : rowOk a b band (at_ tb i) i n) (hn : n = b.length) : tbOk a b band tb (i + 1) := by
  subst hn
  refine ⟨h.1, fun p hp => ?_⟩
  by_cases e : p = i
  · subst e; exact hr
  · exact h.2 p (by omega)
theorem tb_nil (a b : List Feat) (band : Int) {n : Nat} (hn : n = a.length) : tbOk a b band (List.replicate n []) 0 := ⟨by simp [hn], fun p hp => by omega⟩

abbrev farS : Int := 1000000000
/-- The first k cells of the table in one list. -/
def flOk (a b : List Feat) (band : Int) (out : List Int) (k : Nat) : Prop := out.length = a.length * b.length ∧ ∀ p q, p < a.length → q < b.length → p * b.length + q < k → at_ out (p * b.length + q) = cv farS a b band p q
def sb0 (i j : Int) : Int := if i = 0 ∧ j = 0 then 0 else 1000000000
def sb1 (out : List Int) (m i j : Int) : Int := if 0 < i ∧ 0 < j then min (sb0 i j) (at_ out ((i - 1) * m + j - 1).toNat) else sb0 i j
def sb2 (out : List Int) (m i j : Int) : Int := if 0 < i then min (sb1 out m i j) (at_ out ((i - 1) * m + j).toNat) else sb1 out m i j
def sb3 (out : List Int) (m i j : Int) : Int := if 0 < j then min (sb2 out m i j) (at_ out (i * m + j - 1).toNat) else sb2 out m i j
theorem fl_lt {p q i j m : Nat} (h : p < i) (hq : q < m) : p * m + q < i * m + j := by
  have : (p + 1) * m ≤ i * m := Nat.mul_le_mul_right _ h
  rw [Nat.succ_mul] at this
  omega
theorem ix_up {i j : Nat} {m : Nat} : (((i + 1 : Nat) : Int) - 1) * (m : Int) = ((i * m : Nat) : Int) := by
  rw [show ((i + 1 : Nat) : Int) - 1 = (i : Int) from by omega, Int.natCast_mul]
theorem cv_le {far : Int} (hf : 1000000000 ≤ far) {a b : List Feat} (band : Int) (hab : okAB a b) {i j : Nat} (hi : i < a.length) (hj : j < b.length) : cv far a b band i j = far ∨ cv far a b band i j ≤ 87000 := by
  by_cases h : band < (((i : Int) - (j : Int)).natAbs : Int)
  · exact .inl (cv_out h)
  · have := (cv_in (band := band) hab hf hf (i + j) i j rfl hi hj (by omega)).2.2
    have hl := hab.2.2
    right; omega
/-- What the pairs ahead cost. -/
theorem sb_at {a b : List Feat} {band : Int} {out : List Int} {i j : Nat} (hab : okAB a b) (h : flOk a b band out (i * b.length + j)) (hi : i < a.length) (hj : j < b.length) :
    (0 ≤ sb3 out b.length i j ∧ (sb3 out b.length i j ≤ 87000 ∨ sb3 out b.length i j = 1000000000)) ∧ cv farS a b band i j = (if sb3 out b.length i j = 1000000000 ∨ band < (((i : Int) - (j : Int)).natAbs : Int) then 1000000000 else sb3 out b.length i j + costF (at_ a i) (at_ b j)) := by
  have hF : farS = 1000000000 := rfl
  have e1 : ∀ p q : Nat, p < i → q < b.length → at_ out (p * b.length + q) = cv farS a b band p q ∧ 0 ≤ cv farS a b band p q ∧ (cv farS a b band p q = farS ∨ cv farS a b band p q ≤ 87000) := fun p q hp hq => ⟨h.2 p q (by omega) hq (fl_lt hp hq), cv_nn (by decide) band hab p q (by omega) hq, cv_le (by decide) band hab (by omega) hq⟩
  have e2 : ∀ q : Nat, q < j → at_ out (i * b.length + q) = cv farS a b band i q ∧ 0 ≤ cv farS a b band i q ∧ (cv farS a b band i q = farS ∨ cv farS a b band i q ≤ 87000) := fun q hq => ⟨h.2 i q hi (by omega) (by omega), cv_nn (by decide) band hab i q hi (by omega), cv_le (by decide) band hab hi (by omega)⟩
  have hst : ∀ x c : Int, x ≤ farS → stp farS band i j x c = (if x = 1000000000 ∨ band < (((i : Int) - (j : Int)).natAbs : Int) then 1000000000 else x + c) := fun x c hx => by
    unfold stp; split <;> split <;> omega
  rcases i with _ | i <;> rcases j with _ | j
  · have e : sb3 out b.length (0 : Nat) (0 : Nat) = 0 := by simp [sb3, sb2, sb1, sb0]
    rw [e]
    refine ⟨by omega, ?_⟩
    rw [cv, hst _ _ (by omega)]
  · have q := e2 j (by omega)
    have e : sb3 out b.length (0 : Nat) ((j + 1 : Nat) : Int) = min farS (cv farS a b band 0 j) := by
      unfold sb3 sb2 sb1 sb0
      rw [if_pos (by omega), if_neg (by omega), if_neg (by omega), if_neg (by omega), show (((0 : Nat) : Int) * (b.length : Int) + ((j + 1 : Nat) : Int) - 1).toNat = 0 * b.length + j from by rw [show ((0 : Nat) : Int) * (b.length : Int) = 0 from Int.zero_mul _, Nat.zero_mul]; omega, q.1]
    rw [e]
    refine ⟨by omega, ?_⟩
    rw [cv, hst _ _ (by omega)]
  · have q := e1 i 0 (by omega) hj
    have e : sb3 out b.length ((i + 1 : Nat) : Int) (0 : Nat) = min farS (cv farS a b band i 0) := by
      unfold sb3 sb2 sb1 sb0
      rw [if_neg (by omega), if_pos (by omega), if_neg (by omega), if_neg (by omega), ix_up (j := 0), show (((i * b.length : Nat) : Int) + ((0 : Nat) : Int)).toNat = i * b.length + 0 from by omega, q.1]
    rw [e]
    refine ⟨by omega, ?_⟩
    rw [cv, hst _ _ (by omega)]
  · have q1 := e1 i j (by omega) (by omega)
    have q2 := e1 i (j + 1) (by omega) hj
    have q3 := e2 j (by omega)
    have e : sb3 out b.length ((i + 1 : Nat) : Int) ((j + 1 : Nat) : Int) = min (min (min farS (cv farS a b band i j)) (cv farS a b band i (j + 1))) (cv farS a b band (i + 1) j) := by
      unfold sb3 sb2 sb1 sb0
      rw [if_pos (by omega), if_pos (by omega), if_pos (by omega), if_neg (by omega), ix_up (j := 0), show (((i * b.length : Nat) : Int) + ((j + 1 : Nat) : Int) - 1).toNat = i * b.length + j from by omega, show (((i * b.length : Nat) : Int) + ((j + 1 : Nat) : Int)).toNat = i * b.length + (j + 1) from by omega, show (((i + 1 : Nat) : Int) * (b.length : Int) + ((j + 1 : Nat) : Int) - 1).toNat = (i + 1) * b.length + j from by rw [← Int.natCast_mul]; omega, q1.1, q2.1, q3.1]
    rw [e]
    refine ⟨by omega, ?_⟩
    rw [cv, hst _ _ (by omega)]
theorem fl_nn {a b : List Feat} {band : Int} {out : List Int} {k0 k : Nat} (hab : okAB a b) (h : flOk a b band out k0) (hM : 0 < b.length) (hk : k < k0) (hk2 : k < a.length * b.length) : 0 ≤ at_ out k := by
  have h1 := Nat.div_add_mod k b.length
  have h2 := Nat.mod_lt k hM
  have h3 : k / b.length < a.length := (Nat.div_lt_iff_lt_mul hM).2 hk2
  rw [Nat.mul_comm] at h1
  rw [← h1, h.2 _ _ h3 h2 (by omega)]
  exact cv_nn (by decide) band hab _ _ h3 h2
theorem fl_uniq {p q i j m : Nat} (hq : q < m) (hj : j < m) (h : p * m + q = i * m + j) : p = i ∧ q = j := by
  have hp : p = i := by
    rcases Nat.lt_trichotomy p i with e | e | e
    · have := fl_lt (j := j) e hq; omega
    · exact e
    · have := fl_lt (j := q) e hj; omega
  subst hp
  exact ⟨rfl, by omega⟩
theorem fl_step {a b : List Feat} {band v : Int} {out : List Int} {i j : Nat} {k : Nat} (h : flOk a b band out (i * b.length + j)) (hi : i < a.length) (hj : j < b.length) (hk : k = i * b.length + j) (hv : v = cv farS a b band i j) : flOk a b band (out.set k v) (i * b.length + (j + 1)) := by
  subst hk
  refine ⟨by rw [List.length_set]; exact h.1, fun p q hp hq hk => ?_⟩
  by_cases e : p * b.length + q = i * b.length + j
  · obtain ⟨rfl, rfl⟩ := fl_uniq hq hj e
    have : p * b.length + q < a.length * b.length + 0 := fl_lt hi hj
    rw [at_set_same (by rw [h.1]; omega)]; exact hv
  · rw [at_set_oth e]; exact h.2 p q hp hq (by omega)
theorem fl_done {a b : List Feat} {band : Int} {out : List Int} {i n : Nat} (h : flOk a b band out (i * b.length + n)) (hn : n = b.length) : flOk a b band out ((i + 1) * b.length) := by
  subst hn; rw [Nat.succ_mul]; exact h
theorem fl_all {a b : List Feat} {band : Int} {out : List Int} {i j : Nat} (h : flOk a b band out (a.length * b.length)) (hi : i < a.length) (hj : j < b.length) : at_ out (i * b.length + j) = cv farS a b band i j := h.2 i j hi hj (by have := fl_lt (j := 0) hi hj; omega)

-- spec.l09Table
set_option maxHeartbeats 4000000 in
theorem l09Table_ok (a : List Feat) (b : List Feat) (band : Int) (hab : okAB a b) (hbd : 0 ≤ band ∧ band ≤ 1000) : ∃ (out : List Int), (flOk a b band out (a.length * b.length)) ∧ Con Tryz.prog 81 [slFeat false a, slFeat false b, I band] true (slI true out) := by
  have hla := hab.2.2
  have hnm : (a.length : Int) * (b.length : Int) = ((a.length * b.length : Nat) : Int) := (Int.natCast_mul _ _).symm
  have hnl := Nat.mul_le_mul hla.1 hla.2
  have hh : ∃ r : (List Int), ((flOk a b band r (a.length * b.length)) ∧ (True)) ∧ CallOK Tryz.prog 81 [slFeat false a, slFeat false b, I band] (lookO []) true (slI true r) (lookO []) := by
    refine fn_okX (Φ := fun r : (List Int) => (flOk a b band r (a.length * b.length)) ∧ (True)) [] (fun r => []) (fn := Tryz.f81) (nt := 117) Tryz.func81 rfl rfl (args := [slFeat false a, slFeat false b, I band]) rfl (allcons (.inl ⟨rfl, tagFeat false _⟩) (allcons (.inl ⟨rfl, tagFeat false _⟩) (allcons (.inl ⟨rfl, trivial⟩) allnil))) (res := fun r => slI true r) ?_
    refine xR [] [0, 1, 2] [] [slFeat false a, slFeat false b, I band] [] [] trivial ?_
    refine xR [] [0, 1, 2, 7] [] [slFeat false a, slFeat false b, I band, I (a.length : Int)] [] [] trivial ?_
    refine xR [] [0, 1, 2, 7, 8] [] [slFeat false a, slFeat false b, I band, I (a.length : Int), I (b.length : Int)] [] [] trivial ?_
    refine xR [(3, .new 20)] [0, 1, 2, 7, 8, 9] [20] [slFeat false a, slFeat false b, I band, I (a.length : Int), I (b.length : Int), .arr 20] [some (.arr 1 (((a.length : Int) * (b.length : Int)).toNat) (fun _ => [I 0]))] [inR .i64 ((a.length : Int) * (b.length : Int)), (0 : Int) ≤ ((a.length : Int) * (b.length : Int)) ∧ (((a.length : Int) * (b.length : Int)) : Int) ≤ ((a.length : Int) * (b.length : Int)) ∧ (8 : Int) * ((a.length : Int) * (b.length : Int)) ≤ 281474976710656 ∧ ((a.length : Int) * (b.length : Int)) ≤ 9223372036854775807] ⟨(inR_i64 (by omega) (by omega)), ⟨(by omega), (by omega), (by omega), (by omega)⟩, trivial⟩ ?_
    refine x_seq ?_
    refine xR [] [0, 1, 2, 7, 8, 9, 10] [20] [slFeat false a, slFeat false b, I band, I (a.length : Int), I (b.length : Int), .arr 20, I 0] [some (.arr 1 (((a.length : Int) * (b.length : Int)).toNat) (fun _ => [I 0]))] [] trivial ?_
    refine x_block ?_
    refine x_weak [] (T := [(0, slFeat false a), (1, slFeat false b), (2, I band), (7, I (a.length : Int)), (8, I (b.length : Int)), (9, .arr 20), (10, I 0)]) (O := [(20, tAI (List.replicate (((a.length : Int) * (b.length : Int)).toNat) (0 : Int)))]) rfl (⟨.inl rfl, .inl rfl, .inl rfl, .inl rfl, .inl rfl, .inl rfl, .inl rfl, trivial⟩) (⟨.inr ⟨rfl, (by first | rfl | (simp; done) | (simp; omega) | omega), fun i_ hi_ => .inl (const_enc (enc := cI) rfl i_ hi_)⟩, trivial⟩) ?_
    refine x_loop (X := Int × (List Int)) (fun x => mkS [(0, slFeat false a), (1, slFeat false b), (2, I band), (7, I (a.length : Int)), (8, I (b.length : Int)), (9, .arr 20), (10, I x.1)] [(20, tAI x.2)]) (fun x => (0 ≤ x.1 ∧ x.1 ≤ (a.length : Int)) ∧ (flOk a b band x.2 (x.1.toNat * b.length)) ∧ True) (fun x => ((a.length : Int) - x.1).toNat) (0, (List.replicate (((a.length : Int) * (b.length : Int)).toNat) (0 : Int))) rfl (show (0 ≤ (0 : Int) ∧ (0 : Int) ≤ (a.length : Int)) ∧ (flOk a b band (List.replicate (((a.length : Int) * (b.length : Int)).toNat) (0 : Int)) ((0 : Int).toNat * b.length)) ∧ True from ⟨(by omega), (by exact ⟨by simp; omega, fun p q _ _ hk => by rw [show (0 : Int).toNat = 0 from rfl, Nat.zero_mul] at hk; omega⟩), trivial⟩) (fun x hI => ?_)
    obtain ⟨i, fl⟩ := x
    obtain ⟨hi0, hfl, _⟩ : (0 ≤ i ∧ i ≤ (a.length : Int)) ∧ (flOk a b band fl (i.toNat * b.length)) ∧ True := hI
    show XW _ _ _ _ (mkS [(0, slFeat false a), (1, slFeat false b), (2, I band), (7, I (a.length : Int)), (8, I (b.length : Int)), (9, .arr 20), (10, I i)] [(20, tAI fl)]) _ _
    refine x_seq ?_
    refine x_seq ?_
    by_cases h1 : i < (a.length : Int)
    ·have hi : i.toNat < a.length := by omega
     have hix : ((i.toNat : Nat) : Int) = i := by omega
     refine x_r [(2, .dec true)] [0, 1, 2, 7, 8, 9, 10, 23] [20] [slFeat false a, slFeat false b, I band, I (a.length : Int), I (b.length : Int), .arr 20, I i, Bv true] [some (tAI fl)] [i < (a.length : Int)] ⟨h1, trivial⟩ ?_
     refine xe_then ?_
     refine x_true rfl ?_
     refine x_skip ?_
     refine xe_then ?_
     refine x_seq ?_
     refine x_block ?_
     refine xR [] [0, 1, 2, 7, 8, 9, 10, 11] [20] [slFeat false a, slFeat false b, I band, I (a.length : Int), I (b.length : Int), .arr 20, I i, I 0] [some (tAI fl)] [] trivial ?_
     refine x_block ?_
     refine x_loop (X := Int × (List Int)) (fun x => mkS [(0, slFeat false a), (1, slFeat false b), (2, I band), (7, I (a.length : Int)), (8, I (b.length : Int)), (9, .arr 20), (10, I i), (11, I x.1)] [(20, tAI x.2)]) (fun x => (0 ≤ x.1 ∧ x.1 ≤ (b.length : Int)) ∧ (flOk a b band x.2 (i.toNat * b.length + x.1.toNat)) ∧ True) (fun x => ((b.length : Int) - x.1).toNat) (0, fl) rfl (show (0 ≤ (0 : Int) ∧ (0 : Int) ≤ (b.length : Int)) ∧ (flOk a b band fl (i.toNat * b.length + (0 : Int).toNat)) ∧ True from ⟨(by omega), (by exact hfl), trivial⟩) (fun x hI => ?_)
     obtain ⟨j, fl'⟩ := x
     obtain ⟨hj0, hin, _⟩ : (0 ≤ j ∧ j ≤ (b.length : Int)) ∧ (flOk a b band fl' (i.toNat * b.length + j.toNat)) ∧ True := hI
     show XW _ _ _ _ (mkS [(0, slFeat false a), (1, slFeat false b), (2, I band), (7, I (a.length : Int)), (8, I (b.length : Int)), (9, .arr 20), (10, I i), (11, I j)] [(20, tAI fl')]) _ _
     refine x_seq ?_
     refine x_seq ?_
     by_cases h2 : j < (b.length : Int)
     ·have hj : j.toNat < b.length := by omega
      have hjx : ((j.toNat : Nat) : Int) = j := by omega
      have hcb := costF_bd (hab.1 _ hi) (hab.2.1 _ hj)
      have hsb := sb_at hab hin hi hj
      rw [hix, hjx] at hsb
      have hol := hin.1
      have hlt := fl_lt (j := 0) hi hj
      have hpr : i * (b.length : Int) = ((i.toNat * b.length : Nat) : Int) := by rw [Int.natCast_mul, hix]
      have hpq : (i - 1) * (b.length : Int) = ((i.toNat * b.length : Nat) : Int) - b.length := by rw [Int.sub_mul, Int.one_mul, hpr]
      have hps := Nat.mul_le_mul (show i.toNat ≤ 72 by omega) (show b.length ≤ 72 by omega)
      have hpt : 1 ≤ i → b.length ≤ i.toNat * b.length := fun q => Nat.le_mul_of_pos_left _ (by omega)
      have hka : (i * (b.length : Int) + j).toNat = i.toNat * b.length + j.toNat := by omega
      have hn1 : 0 < i → 0 < j → 0 ≤ at_ fl' ((i - 1) * (b.length : Int) + j - 1).toNat := fun q1 q2 => fl_nn hab hin (by omega) (by omega) (by omega)
      have hn2 : 0 < i → 0 ≤ at_ fl' ((i - 1) * (b.length : Int) + j).toNat := fun q1 => fl_nn hab hin (by omega) (by omega) (by omega)
      have hn3 : 0 < j → 0 ≤ at_ fl' (i * (b.length : Int) + j - 1).toNat := fun q1 => fl_nn hab hin (by omega) (by omega) (by omega)
      refine x_r [(2, .dec true)] [0, 1, 2, 7, 8, 9, 10, 11, 28] [20] [slFeat false a, slFeat false b, I band, I (a.length : Int), I (b.length : Int), .arr 20, I i, I j, Bv true] [some (tAI fl')] [j < (b.length : Int)] ⟨h2, trivial⟩ ?_
      refine xe_then ?_
      refine x_true rfl ?_
      refine x_skip ?_
      refine xe_then ?_
      refine x_seq ?_
      refine x_block ?_
      refine xR [] [0, 1, 2, 7, 8, 9, 10, 11, 12] [20] [slFeat false a, slFeat false b, I band, I (a.length : Int), I (b.length : Int), .arr 20, I i, I j, I 1000000000] [some (tAI fl')] [] trivial ?_
      refine x_cut (X := Int) (fun x => mkS [(0, slFeat false a), (1, slFeat false b), (2, I band), (7, I (a.length : Int)), (8, I (b.length : Int)), (9, .arr 20), (10, I i), (11, I j), (12, I x)] [(20, tAI fl')]) (fun x => (x = sb0 i j) ∧ True) ?_ (fun x hI => ?_)
      ·refine x_seq ?_
       by_cases h3 : i = 0
       ·by_cases h4 : j = 0
        ·refine x_r [(1, .dec true), (4, .dec true)] [0, 1, 2, 7, 8, 9, 10, 11, 12, 36] [20] [slFeat false a, slFeat false b, I band, I (a.length : Int), I (b.length : Int), .arr 20, I i, I j, I 1000000000, Bv true] [some (tAI fl')] [i = 0, j = 0] ⟨h3, h4, trivial⟩ ?_
         refine xe_then ?_
         refine x_true rfl ?_
         refine x_r [] [0, 1, 2, 7, 8, 9, 10, 11, 12] [20] [slFeat false a, slFeat false b, I band, I (a.length : Int), I (b.length : Int), .arr 20, I i, I j, I 0] [some (tAI fl')] [] trivial ?_
         exact xe_cut 0 rfl (show (0 = sb0 i j) ∧ True from ⟨(by unfold sb0; split <;> omega), trivial⟩)
        refine x_r [(1, .dec true), (4, .dec false)] [0, 1, 2, 7, 8, 9, 10, 11, 12, 36] [20] [slFeat false a, slFeat false b, I band, I (a.length : Int), I (b.length : Int), .arr 20, I i, I j, I 1000000000, Bv false] [some (tAI fl')] [i = 0, ¬ (j = 0)] ⟨h3, h4, trivial⟩ ?_
        refine xe_then ?_
        refine x_false rfl ?_
        refine x_skip ?_
        refine xe_weak [] (T := [(0, slFeat false a), (1, slFeat false b), (2, I band), (7, I (a.length : Int)), (8, I (b.length : Int)), (9, .arr 20), (10, I i), (11, I j), (12, I 1000000000)]) (O := [(20, tAI fl')]) rfl (⟨.inl rfl, .inl rfl, .inl rfl, .inl rfl, .inl rfl, .inl rfl, .inl rfl, .inl rfl, .inl rfl, trivial⟩) (⟨.inl rfl, trivial⟩) (xe_cut 1000000000 rfl (show (1000000000 = sb0 i j) ∧ True from ⟨(by unfold sb0; split <;> omega), trivial⟩))
       refine x_r [(1, .dec false)] [0, 1, 2, 7, 8, 9, 10, 11, 12, 36] [20] [slFeat false a, slFeat false b, I band, I (a.length : Int), I (b.length : Int), .arr 20, I i, I j, I 1000000000, Bv false] [some (tAI fl')] [¬ (i = 0)] ⟨h3, trivial⟩ ?_
       refine xe_then ?_
       refine x_false rfl ?_
       refine x_skip ?_
       refine xe_weak [] (T := [(0, slFeat false a), (1, slFeat false b), (2, I band), (7, I (a.length : Int)), (8, I (b.length : Int)), (9, .arr 20), (10, I i), (11, I j), (12, I 1000000000)]) (O := [(20, tAI fl')]) rfl (⟨.inl rfl, .inl rfl, .inl rfl, .inl rfl, .inl rfl, .inl rfl, .inl rfl, .inl rfl, .inl rfl, trivial⟩) (⟨.inl rfl, trivial⟩) (xe_cut 1000000000 rfl (show (1000000000 = sb0 i j) ∧ True from ⟨(by unfold sb0; split <;> omega), trivial⟩))
      obtain ⟨q0, hxx⟩ : ∃ q0 : Int, q0 = x := ⟨x, rfl⟩
      subst hxx
      obtain ⟨hq0, _⟩ : (q0 = sb0 i j) ∧ True := hI
      show XW _ _ _ _ (mkS [(0, slFeat false a), (1, slFeat false b), (2, I band), (7, I (a.length : Int)), (8, I (b.length : Int)), (9, .arr 20), (10, I i), (11, I j), (12, I q0)] [(20, tAI fl')]) _ _
      refine x_cut (X := Int) (fun x => mkS [(0, slFeat false a), (1, slFeat false b), (2, I band), (7, I (a.length : Int)), (8, I (b.length : Int)), (9, .arr 20), (10, I i), (11, I j), (12, I x)] [(20, tAI fl')]) (fun x => (x = sb1 fl' b.length i j) ∧ True) ?_ (fun x hI => ?_)
      ·refine x_seq ?_
       by_cases h5 : 0 < i
       ·by_cases h6 : 0 < j
        ·refine x_r [(1, .dec true), (4, .dec true)] [0, 1, 2, 7, 8, 9, 10, 11, 12, 42] [20] [slFeat false a, slFeat false b, I band, I (a.length : Int), I (b.length : Int), .arr 20, I i, I j, I q0, Bv true] [some (tAI fl')] [0 < i, 0 < j] ⟨h5, h6, trivial⟩ ?_
         refine xe_then ?_
         refine x_true rfl ?_
         refine x_r [(11, .call [(true, .any), (true, .any)] true (I (min q0 (at_ fl' (((((i - 1) * (b.length : Int)) + j) - 1).toNat)))))] [0, 1, 2, 7, 8, 9, 10, 11, 12] [20] [slFeat false a, slFeat false b, I band, I (a.length : Int), I (b.length : Int), .arr 20, I i, I j, I (min q0 (at_ fl' (((((i - 1) * (b.length : Int)) + j) - 1).toNat)))] [some (tAI fl')] [inR .i64 (i - 1), inR .i64 ((i - 1) * (b.length : Int)), inR .i64 (((i - 1) * (b.length : Int)) + j), inR .i64 ((((i - 1) * (b.length : Int)) + j) - 1), (0 : Int) ≤ ((((i - 1) * (b.length : Int)) + j) - 1) ∧ ((((i - 1) * (b.length : Int)) + j) - 1) < (fl'.length : Int), ((((i - 1) * (b.length : Int)) + j) - 1).toNat < fl'.length, Con Tryz.prog 62 [I q0, I (at_ fl' (((((i - 1) * (b.length : Int)) + j) - 1).toNat))] true (I (min q0 (at_ fl' (((((i - 1) * (b.length : Int)) + j) - 1).toNat)))) ∧ True] ⟨(inR_i64 (by omega) (by omega)), (inR_i64 (by omega) (by omega)), (inR_i64 (by omega) (by omega)), (inR_i64 (by omega) (by omega)), ⟨(by omega), (by omega)⟩, (by omega), ⟨(l00Min_ok q0 (at_ fl' (((((i - 1) * (b.length : Int)) + j) - 1).toNat))), trivial⟩, trivial⟩ ?_
         exact xe_cut (min q0 (at_ fl' (((((i - 1) * (b.length : Int)) + j) - 1).toNat))) rfl (show ((min q0 (at_ fl' (((((i - 1) * (b.length : Int)) + j) - 1).toNat))) = sb1 fl' b.length i j) ∧ True from ⟨(by unfold sb1; split <;> omega), trivial⟩)
        refine x_r [(1, .dec true), (4, .dec false)] [0, 1, 2, 7, 8, 9, 10, 11, 12, 42] [20] [slFeat false a, slFeat false b, I band, I (a.length : Int), I (b.length : Int), .arr 20, I i, I j, I q0, Bv false] [some (tAI fl')] [0 < i, ¬ (0 < j)] ⟨h5, h6, trivial⟩ ?_
        refine xe_then ?_
        refine x_false rfl ?_
        refine x_skip ?_
        refine xe_weak [] (T := [(0, slFeat false a), (1, slFeat false b), (2, I band), (7, I (a.length : Int)), (8, I (b.length : Int)), (9, .arr 20), (10, I i), (11, I j), (12, I q0)]) (O := [(20, tAI fl')]) rfl (⟨.inl rfl, .inl rfl, .inl rfl, .inl rfl, .inl rfl, .inl rfl, .inl rfl, .inl rfl, .inl rfl, trivial⟩) (⟨.inl rfl, trivial⟩) (xe_cut q0 rfl (show (q0 = sb1 fl' b.length i j) ∧ True from ⟨(by unfold sb1; split <;> omega), trivial⟩))
       refine x_r [(1, .dec false)] [0, 1, 2, 7, 8, 9, 10, 11, 12, 42] [20] [slFeat false a, slFeat false b, I band, I (a.length : Int), I (b.length : Int), .arr 20, I i, I j, I q0, Bv false] [some (tAI fl')] [¬ (0 < i)] ⟨h5, trivial⟩ ?_
       refine xe_then ?_
       refine x_false rfl ?_
       refine x_skip ?_
       refine xe_weak [] (T := [(0, slFeat false a), (1, slFeat false b), (2, I band), (7, I (a.length : Int)), (8, I (b.length : Int)), (9, .arr 20), (10, I i), (11, I j), (12, I q0)]) (O := [(20, tAI fl')]) rfl (⟨.inl rfl, .inl rfl, .inl rfl, .inl rfl, .inl rfl, .inl rfl, .inl rfl, .inl rfl, .inl rfl, trivial⟩) (⟨.inl rfl, trivial⟩) (xe_cut q0 rfl (show (q0 = sb1 fl' b.length i j) ∧ True from ⟨(by unfold sb1; split <;> omega), trivial⟩))
      obtain ⟨q1, hxx⟩ : ∃ q1 : Int, q1 = x := ⟨x, rfl⟩
      subst hxx
      obtain ⟨hq1, _⟩ : (q1 = sb1 fl' b.length i j) ∧ True := hI
      show XW _ _ _ _ (mkS [(0, slFeat false a), (1, slFeat false b), (2, I band), (7, I (a.length : Int)), (8, I (b.length : Int)), (9, .arr 20), (10, I i), (11, I j), (12, I q1)] [(20, tAI fl')]) _ _
      refine x_cut (X := Int) (fun x => mkS [(0, slFeat false a), (1, slFeat false b), (2, I band), (7, I (a.length : Int)), (8, I (b.length : Int)), (9, .arr 20), (10, I i), (11, I j), (12, I x)] [(20, tAI fl')]) (fun x => (x = sb2 fl' b.length i j) ∧ True) ?_ (fun x hI => ?_)
      ·refine x_seq ?_
       by_cases h7 : 0 < i
       ·refine x_r [(1, .dec true)] [0, 1, 2, 7, 8, 9, 10, 11, 12, 56] [20] [slFeat false a, slFeat false b, I band, I (a.length : Int), I (b.length : Int), .arr 20, I i, I j, I q1, Bv true] [some (tAI fl')] [0 < i] ⟨h7, trivial⟩ ?_
        refine xe_then ?_
        refine x_true rfl ?_
        refine x_r [(10, .call [(true, .any), (true, .any)] true (I (min q1 (at_ fl' ((((i - 1) * (b.length : Int)) + j).toNat)))))] [0, 1, 2, 7, 8, 9, 10, 11, 12] [20] [slFeat false a, slFeat false b, I band, I (a.length : Int), I (b.length : Int), .arr 20, I i, I j, I (min q1 (at_ fl' ((((i - 1) * (b.length : Int)) + j).toNat)))] [some (tAI fl')] [inR .i64 (i - 1), inR .i64 ((i - 1) * (b.length : Int)), inR .i64 (((i - 1) * (b.length : Int)) + j), (0 : Int) ≤ (((i - 1) * (b.length : Int)) + j) ∧ (((i - 1) * (b.length : Int)) + j) < (fl'.length : Int), (((i - 1) * (b.length : Int)) + j).toNat < fl'.length, Con Tryz.prog 62 [I q1, I (at_ fl' ((((i - 1) * (b.length : Int)) + j).toNat))] true (I (min q1 (at_ fl' ((((i - 1) * (b.length : Int)) + j).toNat)))) ∧ True] ⟨(inR_i64 (by omega) (by omega)), (inR_i64 (by omega) (by omega)), (inR_i64 (by omega) (by omega)), ⟨(by omega), (by omega)⟩, (by omega), ⟨(l00Min_ok q1 (at_ fl' ((((i - 1) * (b.length : Int)) + j).toNat))), trivial⟩, trivial⟩ ?_
        exact xe_cut (min q1 (at_ fl' ((((i - 1) * (b.length : Int)) + j).toNat))) rfl (show ((min q1 (at_ fl' ((((i - 1) * (b.length : Int)) + j).toNat))) = sb2 fl' b.length i j) ∧ True from ⟨(by unfold sb2; split <;> omega), trivial⟩)
       refine x_r [(1, .dec false)] [0, 1, 2, 7, 8, 9, 10, 11, 12, 56] [20] [slFeat false a, slFeat false b, I band, I (a.length : Int), I (b.length : Int), .arr 20, I i, I j, I q1, Bv false] [some (tAI fl')] [¬ (0 < i)] ⟨h7, trivial⟩ ?_
       refine xe_then ?_
       refine x_false rfl ?_
       refine x_skip ?_
       refine xe_weak [] (T := [(0, slFeat false a), (1, slFeat false b), (2, I band), (7, I (a.length : Int)), (8, I (b.length : Int)), (9, .arr 20), (10, I i), (11, I j), (12, I q1)]) (O := [(20, tAI fl')]) rfl (⟨.inl rfl, .inl rfl, .inl rfl, .inl rfl, .inl rfl, .inl rfl, .inl rfl, .inl rfl, .inl rfl, trivial⟩) (⟨.inl rfl, trivial⟩) (xe_cut q1 rfl (show (q1 = sb2 fl' b.length i j) ∧ True from ⟨(by unfold sb2; split <;> omega), trivial⟩))
      obtain ⟨q2, hxx⟩ : ∃ q2 : Int, q2 = x := ⟨x, rfl⟩
      subst hxx
      obtain ⟨hq2, _⟩ : (q2 = sb2 fl' b.length i j) ∧ True := hI
      show XW _ _ _ _ (mkS [(0, slFeat false a), (1, slFeat false b), (2, I band), (7, I (a.length : Int)), (8, I (b.length : Int)), (9, .arr 20), (10, I i), (11, I j), (12, I q2)] [(20, tAI fl')]) _ _
      refine x_cut (X := Int) (fun x => mkS [(0, slFeat false a), (1, slFeat false b), (2, I band), (7, I (a.length : Int)), (8, I (b.length : Int)), (9, .arr 20), (10, I i), (11, I j), (12, I x)] [(20, tAI fl')]) (fun x => (x = sb3 fl' b.length i j) ∧ True) ?_ (fun x hI => ?_)
      ·refine x_seq ?_
       by_cases h8 : 0 < j
       ·refine x_r [(1, .dec true)] [0, 1, 2, 7, 8, 9, 10, 11, 12, 69] [20] [slFeat false a, slFeat false b, I band, I (a.length : Int), I (b.length : Int), .arr 20, I i, I j, I q2, Bv true] [some (tAI fl')] [0 < j] ⟨h8, trivial⟩ ?_
        refine xe_then ?_
        refine x_true rfl ?_
        refine x_r [(10, .call [(true, .any), (true, .any)] true (I (min q2 (at_ fl' ((((i * (b.length : Int)) + j) - 1).toNat)))))] [0, 1, 2, 7, 8, 9, 10, 11, 12] [20] [slFeat false a, slFeat false b, I band, I (a.length : Int), I (b.length : Int), .arr 20, I i, I j, I (min q2 (at_ fl' ((((i * (b.length : Int)) + j) - 1).toNat)))] [some (tAI fl')] [inR .i64 (i * (b.length : Int)), inR .i64 ((i * (b.length : Int)) + j), inR .i64 (((i * (b.length : Int)) + j) - 1), (0 : Int) ≤ (((i * (b.length : Int)) + j) - 1) ∧ (((i * (b.length : Int)) + j) - 1) < (fl'.length : Int), (((i * (b.length : Int)) + j) - 1).toNat < fl'.length, Con Tryz.prog 62 [I q2, I (at_ fl' ((((i * (b.length : Int)) + j) - 1).toNat))] true (I (min q2 (at_ fl' ((((i * (b.length : Int)) + j) - 1).toNat)))) ∧ True] ⟨(inR_i64 (by omega) (by omega)), (inR_i64 (by omega) (by omega)), (inR_i64 (by omega) (by omega)), ⟨(by omega), (by omega)⟩, (by omega), ⟨(l00Min_ok q2 (at_ fl' ((((i * (b.length : Int)) + j) - 1).toNat))), trivial⟩, trivial⟩ ?_
        exact xe_cut (min q2 (at_ fl' ((((i * (b.length : Int)) + j) - 1).toNat))) rfl (show ((min q2 (at_ fl' ((((i * (b.length : Int)) + j) - 1).toNat))) = sb3 fl' b.length i j) ∧ True from ⟨(by unfold sb3; split <;> omega), trivial⟩)
       refine x_r [(1, .dec false)] [0, 1, 2, 7, 8, 9, 10, 11, 12, 69] [20] [slFeat false a, slFeat false b, I band, I (a.length : Int), I (b.length : Int), .arr 20, I i, I j, I q2, Bv false] [some (tAI fl')] [¬ (0 < j)] ⟨h8, trivial⟩ ?_
       refine xe_then ?_
       refine x_false rfl ?_
       refine x_skip ?_
       refine xe_weak [] (T := [(0, slFeat false a), (1, slFeat false b), (2, I band), (7, I (a.length : Int)), (8, I (b.length : Int)), (9, .arr 20), (10, I i), (11, I j), (12, I q2)]) (O := [(20, tAI fl')]) rfl (⟨.inl rfl, .inl rfl, .inl rfl, .inl rfl, .inl rfl, .inl rfl, .inl rfl, .inl rfl, .inl rfl, trivial⟩) (⟨.inl rfl, trivial⟩) (xe_cut q2 rfl (show (q2 = sb3 fl' b.length i j) ∧ True from ⟨(by unfold sb3; split <;> omega), trivial⟩))
      obtain ⟨q3, hxx⟩ : ∃ q3 : Int, q3 = x := ⟨x, rfl⟩
      subst hxx
      obtain ⟨hq3, _⟩ : (q3 = sb3 fl' b.length i j) ∧ True := hI
      show XW _ _ _ _ (mkS [(0, slFeat false a), (1, slFeat false b), (2, I band), (7, I (a.length : Int)), (8, I (b.length : Int)), (9, .arr 20), (10, I i), (11, I j), (12, I q3)] [(20, tAI fl')]) _ _
      refine x_seq ?_
      by_cases h9 : q3 = 1000000000
      ·refine x_r [(1, .dec true)] [0, 1, 2, 7, 8, 9, 10, 11, 12, 90] [20] [slFeat false a, slFeat false b, I band, I (a.length : Int), I (b.length : Int), .arr 20, I i, I j, I q3, Bv true] [some (tAI fl')] [q3 = 1000000000] ⟨h9, trivial⟩ ?_
       refine xe_then ?_
       refine x_true rfl ?_
       refine x_r [] [0, 1, 2, 7, 8, 9, 10, 11] [20] [slFeat false a, slFeat false b, I band, I (a.length : Int), I (b.length : Int), .arr 20, I i, I j] [some (.arr 1 fl'.length (fun q => bif Nat.beq q (((i * (b.length : Int)) + j).toNat) then [I 1000000000] else (fI fl') q))] [inR .i64 (i * (b.length : Int)), inR .i64 ((i * (b.length : Int)) + j), (0 : Int) ≤ ((i * (b.length : Int)) + j) ∧ ((i * (b.length : Int)) + j) < (fl'.length : Int), ((i * (b.length : Int)) + j).toNat < fl'.length] ⟨(inR_i64 (by omega) (by omega)), (inR_i64 (by omega) (by omega)), ⟨(by omega), (by omega)⟩, (by omega), trivial⟩ ?_
       refine xe_block 3 ?_
       refine xe_then ?_
       refine x_weak [] (T := [(0, slFeat false a), (1, slFeat false b), (2, I band), (7, I (a.length : Int)), (8, I (b.length : Int)), (9, .arr 20), (10, I i), (11, I j)]) (O := [(20, tAI (fl'.set (((i * (b.length : Int)) + j).toNat) 1000000000))]) rfl (⟨.inl rfl, .inl rfl, .inl rfl, .inl rfl, .inl rfl, .inl rfl, .inl rfl, .inl rfl, trivial⟩) (⟨.inr ⟨rfl, (by first | rfl | (simp; done) | (simp; omega) | omega), fun i_ hi_ => .inl (upd_enc (enc := cI) rfl i_ hi_)⟩, trivial⟩) ?_
       refine x_r [] [0, 1, 2, 7, 8, 9, 10, 11] [20] [slFeat false a, slFeat false b, I band, I (a.length : Int), I (b.length : Int), .arr 20, I i, I (j + 1)] [some (tAI (fl'.set (((i * (b.length : Int)) + j).toNat) 1000000000))] [inR .i64 (j + 1)] ⟨(inR_i64 (by omega) (by omega)), trivial⟩ ?_
       exact xe_again ((j + 1), (fl'.set (((i * (b.length : Int)) + j).toNat) 1000000000)) rfl (show (0 ≤ (j + 1) ∧ (j + 1) ≤ (b.length : Int)) ∧ (flOk a b band (fl'.set (((i * (b.length : Int)) + j).toNat) 1000000000) (i.toNat * b.length + (j + 1).toNat)) ∧ True from ⟨(by omega), (by rw [show (j + 1).toNat = j.toNat + 1 from by omega]; exact fl_step hin hi hj hka (by rw [hsb.2, ← hq3]; split <;> omega)), trivial⟩) (by first | (show (((b.length : Int) - (j + 1)).toNat : Nat) < ((b.length : Int) - j).toNat; omega) | (dsimp only; omega))
      by_cases h10 : band < ((i - j).natAbs : Int)
      ·refine x_r [(1, .dec false), (6, .call [(true, .any)] true (I ((i - j).natAbs : Int))), (8, .dec true)] [0, 1, 2, 7, 8, 9, 10, 11, 12, 90] [20] [slFeat false a, slFeat false b, I band, I (a.length : Int), I (b.length : Int), .arr 20, I i, I j, I q3, Bv true] [some (tAI fl')] [¬ (q3 = 1000000000), inR .i64 (i - j), Con Tryz.prog 80 [I (i - j)] true (I ((i - j).natAbs : Int)) ∧ True, band < ((i - j).natAbs : Int)] ⟨h9, (inR_i64 (by omega) (by omega)), ⟨(l09Size_ok (i - j) (by omega)), trivial⟩, h10, trivial⟩ ?_
       refine xe_then ?_
       refine x_true rfl ?_
       refine x_r [] [0, 1, 2, 7, 8, 9, 10, 11] [20] [slFeat false a, slFeat false b, I band, I (a.length : Int), I (b.length : Int), .arr 20, I i, I j] [some (.arr 1 fl'.length (fun q => bif Nat.beq q (((i * (b.length : Int)) + j).toNat) then [I 1000000000] else (fI fl') q))] [inR .i64 (i * (b.length : Int)), inR .i64 ((i * (b.length : Int)) + j), (0 : Int) ≤ ((i * (b.length : Int)) + j) ∧ ((i * (b.length : Int)) + j) < (fl'.length : Int), ((i * (b.length : Int)) + j).toNat < fl'.length] ⟨(inR_i64 (by omega) (by omega)), (inR_i64 (by omega) (by omega)), ⟨(by omega), (by omega)⟩, (by omega), trivial⟩ ?_
       refine xe_block 3 ?_
       refine xe_then ?_
       refine x_weak [] (T := [(0, slFeat false a), (1, slFeat false b), (2, I band), (7, I (a.length : Int)), (8, I (b.length : Int)), (9, .arr 20), (10, I i), (11, I j)]) (O := [(20, tAI (fl'.set (((i * (b.length : Int)) + j).toNat) 1000000000))]) rfl (⟨.inl rfl, .inl rfl, .inl rfl, .inl rfl, .inl rfl, .inl rfl, .inl rfl, .inl rfl, trivial⟩) (⟨.inr ⟨rfl, (by first | rfl | (simp; done) | (simp; omega) | omega), fun i_ hi_ => .inl (upd_enc (enc := cI) rfl i_ hi_)⟩, trivial⟩) ?_
       refine x_r [] [0, 1, 2, 7, 8, 9, 10, 11] [20] [slFeat false a, slFeat false b, I band, I (a.length : Int), I (b.length : Int), .arr 20, I i, I (j + 1)] [some (tAI (fl'.set (((i * (b.length : Int)) + j).toNat) 1000000000))] [inR .i64 (j + 1)] ⟨(inR_i64 (by omega) (by omega)), trivial⟩ ?_
       exact xe_again ((j + 1), (fl'.set (((i * (b.length : Int)) + j).toNat) 1000000000)) rfl (show (0 ≤ (j + 1) ∧ (j + 1) ≤ (b.length : Int)) ∧ (flOk a b band (fl'.set (((i * (b.length : Int)) + j).toNat) 1000000000) (i.toNat * b.length + (j + 1).toNat)) ∧ True from ⟨(by omega), (by rw [show (j + 1).toNat = j.toNat + 1 from by omega]; exact fl_step hin hi hj hka (by rw [hsb.2, ← hq3]; split <;> omega)), trivial⟩) (by first | (show (((b.length : Int) - (j + 1)).toNat : Nat) < ((b.length : Int) - j).toNat; omega) | (dsimp only; omega))
      refine x_r [(1, .dec false), (6, .call [(true, .any)] true (I ((i - j).natAbs : Int))), (8, .dec false)] [0, 1, 2, 7, 8, 9, 10, 11, 12, 90] [20] [slFeat false a, slFeat false b, I band, I (a.length : Int), I (b.length : Int), .arr 20, I i, I j, I q3, Bv false] [some (tAI fl')] [¬ (q3 = 1000000000), inR .i64 (i - j), Con Tryz.prog 80 [I (i - j)] true (I ((i - j).natAbs : Int)) ∧ True, ¬ (band < ((i - j).natAbs : Int))] ⟨h9, (inR_i64 (by omega) (by omega)), ⟨(l09Size_ok (i - j) (by omega)), trivial⟩, h10, trivial⟩ ?_
      refine xe_then ?_
      refine x_false rfl ?_
      refine x_r [(15, .call [(true, .any), (true, .any)] true (I (costF (at_ a i.toNat) (at_ b j.toNat))))] [0, 1, 2, 7, 8, 9, 10, 11] [20] [slFeat false a, slFeat false b, I band, I (a.length : Int), I (b.length : Int), .arr 20, I i, I j] [some (.arr 1 fl'.length (fun q => bif Nat.beq q (((i * (b.length : Int)) + j).toNat) then [I (q3 + (costF (at_ a i.toNat) (at_ b j.toNat)))] else (fI fl') q))] [inR .i64 (i * (b.length : Int)), inR .i64 ((i * (b.length : Int)) + j), (0 : Int) ≤ i ∧ i < (a.length : Int), (0 : Int) ≤ j ∧ j < (b.length : Int), Con Tryz.prog 109 [agFeat (at_ a i.toNat), agFeat (at_ b j.toNat)] true (I (costF (at_ a i.toNat) (at_ b j.toNat))) ∧ True, inR .i64 (q3 + (costF (at_ a i.toNat) (at_ b j.toNat))), (0 : Int) ≤ ((i * (b.length : Int)) + j) ∧ ((i * (b.length : Int)) + j) < (fl'.length : Int), ((i * (b.length : Int)) + j).toNat < fl'.length] ⟨(inR_i64 (by omega) (by omega)), (inR_i64 (by omega) (by omega)), ⟨(by omega), (by omega)⟩, ⟨(by omega), (by omega)⟩, ⟨(l09Cost_ok (at_ a i.toNat) (at_ b j.toNat) (by first | exact hab.1 _ (by omega) | exact hab.2.1 _ (by omega)) (by first | exact hab.1 _ (by omega) | exact hab.2.1 _ (by omega))), trivial⟩, (inR_i64 (by omega) (by omega)), ⟨(by omega), (by omega)⟩, (by omega), trivial⟩ ?_
      refine xe_block 3 ?_
      refine xe_then ?_
      refine x_weak [] (T := [(0, slFeat false a), (1, slFeat false b), (2, I band), (7, I (a.length : Int)), (8, I (b.length : Int)), (9, .arr 20), (10, I i), (11, I j)]) (O := [(20, tAI (fl'.set (((i * (b.length : Int)) + j).toNat) (q3 + (costF (at_ a i.toNat) (at_ b j.toNat)))))]) rfl (⟨.inl rfl, .inl rfl, .inl rfl, .inl rfl, .inl rfl, .inl rfl, .inl rfl, .inl rfl, trivial⟩) (⟨.inr ⟨rfl, (by first | rfl | (simp; done) | (simp; omega) | omega), fun i_ hi_ => .inl (upd_enc (enc := cI) rfl i_ hi_)⟩, trivial⟩) ?_
      refine x_r [] [0, 1, 2, 7, 8, 9, 10, 11] [20] [slFeat false a, slFeat false b, I band, I (a.length : Int), I (b.length : Int), .arr 20, I i, I (j + 1)] [some (tAI (fl'.set (((i * (b.length : Int)) + j).toNat) (q3 + (costF (at_ a i.toNat) (at_ b j.toNat)))))] [inR .i64 (j + 1)] ⟨(inR_i64 (by omega) (by omega)), trivial⟩ ?_
      exact xe_again ((j + 1), (fl'.set (((i * (b.length : Int)) + j).toNat) (q3 + (costF (at_ a i.toNat) (at_ b j.toNat))))) rfl (show (0 ≤ (j + 1) ∧ (j + 1) ≤ (b.length : Int)) ∧ (flOk a b band (fl'.set (((i * (b.length : Int)) + j).toNat) (q3 + (costF (at_ a i.toNat) (at_ b j.toNat)))) (i.toNat * b.length + (j + 1).toNat)) ∧ True from ⟨(by omega), (by rw [show (j + 1).toNat = j.toNat + 1 from by omega]; exact fl_step hin hi hj hka (by rw [hsb.2, ← hq3]; split <;> omega)), trivial⟩) (by first | (show (((b.length : Int) - (j + 1)).toNat : Nat) < ((b.length : Int) - j).toNat; omega) | (dsimp only; omega))
     have hje : j.toNat = b.length := by omega
     refine x_r [(2, .dec false)] [0, 1, 2, 7, 8, 9, 10, 11, 28] [20] [slFeat false a, slFeat false b, I band, I (a.length : Int), I (b.length : Int), .arr 20, I i, I j, Bv false] [some (tAI fl')] [¬ (j < (b.length : Int))] ⟨h2, trivial⟩ ?_
     refine xe_then ?_
     refine x_false rfl ?_
     refine x_exit ?_
     refine xe_exit_then ?_
     refine xe_loop_exit ?_
     refine xe_exit_same ?_
     refine xe_block 1 ?_
     refine xe_then ?_
     refine x_r [] [0, 1, 2, 7, 8, 9, 10] [20] [slFeat false a, slFeat false b, I band, I (a.length : Int), I (b.length : Int), .arr 20, I (i + 1)] [some (tAI fl')] [inR .i64 (i + 1)] ⟨(inR_i64 (by omega) (by omega)), trivial⟩ ?_
     exact xe_again ((i + 1), fl') rfl (show (0 ≤ (i + 1) ∧ (i + 1) ≤ (a.length : Int)) ∧ (flOk a b band fl' ((i + 1).toNat * b.length)) ∧ True from ⟨(by omega), (by rw [show (i + 1).toNat = i.toNat + 1 from by omega]; exact fl_done hin hje), trivial⟩) (by first | (show (((a.length : Int) - (i + 1)).toNat : Nat) < ((a.length : Int) - i).toNat; omega) | (dsimp only; omega))
    have hie : i.toNat = a.length := by omega
    rw [hie] at hfl
    refine x_r [(2, .dec false)] [0, 1, 2, 7, 8, 9, 10, 23] [20] [slFeat false a, slFeat false b, I band, I (a.length : Int), I (b.length : Int), .arr 20, I i, Bv false] [some (tAI fl)] [¬ (i < (a.length : Int))] ⟨h1, trivial⟩ ?_
    refine xe_then ?_
    refine x_false rfl ?_
    refine x_exit ?_
    refine xe_exit_then ?_
    refine xe_loop_exit ?_
    refine xe_exit_same ?_
    refine xe_then ?_
    refine xR [] [6] [20] [.arr 20] [some (tAI fl)] [] trivial ?_
    refine x_ret ?_
    refine xe_end fl (show (flOk a b band fl (a.length * b.length)) ∧ (True) from ⟨(by first | assumption | exact hfl), trivial⟩) (trivial) (.arr 20) (by kernel_rfl) (.inr ⟨(fun _ => rfl), rfl, rfl, fun i _ => .inl rfl⟩) (fun _ => rfl) (fun _ => (tagI true _))
  obtain ⟨out, ⟨hh0, _⟩, hc⟩ := hh
  exact ⟨out, hh0, hc⟩


/-- The pair ahead on a path of least cost. -/
def nx (a b : List Feat) (band : Int) (i j : Nat) : Nat × Nat :=
  if (0 < i ∧ 0 < j) ∧ cv farS a b band (i - 1) (j - 1) = cv farS a b band i j - costF (at_ a i) (at_ b j) then (i - 1, j - 1)
  else if 0 < i ∧ cv farS a b band (i - 1) j = cv farS a b band i j - costF (at_ a i) (at_ b j) then (i - 1, j) else (i, j - 1)
def inBd (band : Int) (i j : Nat) : Prop := (((i : Int) - (j : Int)).natAbs : Int) ≤ band
theorem cv_fin {a b : List Feat} {band : Int} {i j : Nat} (hab : okAB a b) (hi : i < a.length) (hj : j < b.length) : (inBd band i j ∧ cv farI a b band i j = cv farS a b band i j ∧ 0 ≤ cv farS a b band i j ∧ cv farS a b band i j ≤ 87000) ∨ (¬ inBd band i j ∧ cv farI a b band i j = 1099511627776 ∧ cv farS a b band i j = 1000000000) := by
  have hl := hab.2.2
  by_cases h : inBd band i j
  · have q := cv_in (band := band) hab (f1 := farS) (f2 := farI) (by decide) (by decide) (i + j) i j rfl hi hj h
    exact .inl ⟨h, q.1.symm, q.2.1, by omega⟩
  · unfold inBd at h
    exact .inr ⟨h, cv_out (by omega), cv_out (by omega)⟩
/-- The cost of a pair within the band is that of one ahead and its own. -/
theorem cv_add {far : Int} (hf : 1000000000 ≤ far) {a b : List Feat} {band : Int} {i j : Nat} (hab : okAB a b) (hi : i < a.length) (hj : j < b.length) (hb : inBd band i j) (h0 : ¬ (i = 0 ∧ j = 0)) :
    ∃ x, cv far a b band i j = x + costF (at_ a i) (at_ b j) ∧ x < far ∧ ((0 < i ∧ 0 < j) ∧ x = cv far a b band (i - 1) (j - 1) ∨ 0 < i ∧ x = cv far a b band (i - 1) j ∨ 0 < j ∧ x = cv far a b band i (j - 1)) ∧ (0 < i → 0 < j → x ≤ cv far a b band (i - 1) (j - 1)) ∧ (0 < i → x ≤ cv far a b band (i - 1) j) ∧ (0 < j → x ≤ cv far a b band i (j - 1)) := by
  have q := cv_in (band := band) hab hf hf (i + j) i j rfl hi hj hb
  have hl := hab.2.2
  have hc := costF_bd (hab.1 i hi) (hab.2.1 j hj)
  unfold inBd at hb
  rcases i with _ | i <;> rcases j with _ | j
  · exact absurd ⟨rfl, rfl⟩ h0
  · obtain ⟨v, e⟩ : ∃ v, v = cv far a b band 0 (j + 1) := ⟨_, rfl⟩
    rw [← e] at q ⊢
    rw [cv] at e
    unfold stp at e
    split at e
    · omega
    · refine ⟨_, e, by omega, ?_, by omega, by omega, fun _ => by simp only [Nat.add_sub_cancel]; omega⟩
      right; right; refine ⟨by omega, ?_⟩; simp only [Nat.add_sub_cancel]; omega
  · obtain ⟨v, e⟩ : ∃ v, v = cv far a b band (i + 1) 0 := ⟨_, rfl⟩
    rw [← e] at q ⊢
    rw [cv] at e
    unfold stp at e
    split at e
    · omega
    · refine ⟨_, e, by omega, ?_, by omega, fun _ => by simp only [Nat.add_sub_cancel]; omega, by omega⟩
      right; left; refine ⟨by omega, ?_⟩; simp only [Nat.add_sub_cancel]; omega
  · obtain ⟨v, e⟩ : ∃ v, v = cv far a b band (i + 1) (j + 1) := ⟨_, rfl⟩
    rw [← e] at q ⊢
    rw [cv] at e
    unfold stp at e
    split at e
    · omega
    · refine ⟨_, e, by omega, ?_, fun _ _ => by simp only [Nat.add_sub_cancel]; omega, fun _ => by simp only [Nat.add_sub_cancel]; omega, fun _ => by simp only [Nat.add_sub_cancel]; omega⟩
      simp only [Nat.add_sub_cancel]
      omega

theorem okAB_of {a b : List Feat} (ha : okFeats a 72 = true) (hb : okFeats b 72 = true) : okAB a b := ⟨fun i hi => okFeats_at ha hi, fun j hj => okFeats_at hb hj, by have := okFeats_n ha; omega, by have := okFeats_n hb; omega⟩
theorem inBd_end {band : Int} {n m : Nat} (h : inBd band n m) (hn : 1 ≤ n) (hm : 1 ≤ m) : inBd band (n - 1) (m - 1) := by unfold inBd at *; omega

def elCode (a b : List Feat) (band : Int) : Int := if okFeats a 72 = true ∧ okFeats b 72 = true then (if (inB band 0 72 && decide ((((a.length : Int) - (b.length : Int)).natAbs : Int) ≤ band)) = true then 0 else 2) else 1
def elR (a b : List Feat) (band : Int) : Int × Int := if elCode a b band = 0 then (cv farS a b band (a.length - 1) (b.length - 1), 0) else (0, elCode a b band)
theorem elCode_0 {a b : List Feat} {band : Int} (h : elCode a b band = 0) : okFeats a 72 = true ∧ okFeats b 72 = true ∧ (0 ≤ band ∧ band ≤ 72) ∧ inBd band a.length b.length := by
  unfold elCode at h
  split at h
  · rename_i g
    split at h
    · rename_i g2
      simp only [Bool.and_eq_true, decide_eq_true_eq, inB] at g2
      refine ⟨g.1, g.2, g2.1, ?_⟩
      unfold inBd; omega
    · omega
  · omega
theorem elCode_any {a b : List Feat} (ha : okFeats a 72 = true) (hb : okFeats b 72 = true) : elCode a b 72 = 0 := by
  have h1 := okFeats_n ha
  have h2 := okFeats_n hb
  unfold elCode
  rw [if_pos ⟨ha, hb⟩, if_pos (by simp only [Bool.and_eq_true, decide_eq_true_eq, inB]; omega)]
theorem elR_any {a b : List Feat} (ha : okFeats a 72 = true) (hb : okFeats b 72 = true) : elR a b 72 = (cv farS a b 72 (a.length - 1) (b.length - 1), 0) := if_pos (elCode_any ha hb)
theorem fl_last {a b : List Feat} {band : Int} {out : List Int} (h : flOk a b band out (a.length * b.length)) (ha : 1 ≤ a.length) (hb : 1 ≤ b.length) : at_ out (out.length - 1) = cv farS a b band (a.length - 1) (b.length - 1) ∧ 1 ≤ out.length := by
  have e : a.length * b.length = (a.length - 1) * b.length + b.length := by
    obtain ⟨n, hn⟩ : ∃ n, a.length = n + 1 := ⟨a.length - 1, by omega⟩
    rw [hn, Nat.add_sub_cancel, Nat.succ_mul]
  have q := h.2 (a.length - 1) (b.length - 1) (by omega) (by omega) (by omega)
  have l := h.1
  rw [← q]
  refine ⟨?_, by omega⟩
  congr 1; omega

-- spec.l09Least
theorem l09Least_ok (a : List Feat) (b : List Feat) (band : Int) (hab : okAB a b) (hbd : 0 ≤ band ∧ band ≤ 1000) (h1 : 1 ≤ a.length ∧ 1 ≤ b.length) : ∃ (v : Int), (v = cv farS a b band (a.length - 1) (b.length - 1)) ∧ Con Tryz.prog 44 [slFeat false a, slFeat false b, I band] true (I v) := by
  have hh : ∃ r : Int, ((r = cv farS a b band (a.length - 1) (b.length - 1)) ∧ (True)) ∧ CallOK Tryz.prog 44 [slFeat false a, slFeat false b, I band] (lookO []) true (I r) (lookO []) := by
    refine fn_okX (Φ := fun r : Int => (r = cv farS a b band (a.length - 1) (b.length - 1)) ∧ (True)) [] (fun r => []) (fn := Tryz.f44) (nt := 18) Tryz.func44 rfl rfl (args := [slFeat false a, slFeat false b, I band]) rfl (allcons (.inl ⟨rfl, tagFeat false _⟩) (allcons (.inl ⟨rfl, tagFeat false _⟩) (allcons (.inl ⟨rfl, trivial⟩) allnil))) (res := fun r => I r) ?_
    refine xR [] [0, 1, 2] [] [slFeat false a, slFeat false b, I band] [] [] trivial ?_
    refine x_seq ?_
    obtain ⟨out_1, hx1_0, hc1⟩ := l09Table_ok a b band hab (by omega)
    have hls := fl_last hx1_0 h1.1 h1.2
    have hlq := Nat.mul_le_mul hab.2.2.1 hab.2.2.2
    rw [← hx1_0.1] at hlq
    refine x_r [(3, .call [(true, .any), (true, .any), (true, .any)] true (slI true out_1))] [7] [] [slI true out_1] [] [Con Tryz.prog 81 [slFeat false a, slFeat false b, I band] true (slI true out_1) ∧ True] ⟨⟨hc1, trivial⟩, trivial⟩ ?_
    refine xe_then ?_
    refine xR [] [6] [] [I (at_ out_1 (((out_1.length : Int) - 1).toNat))] [] [inR .i64 ((out_1.length : Int) - 1), (0 : Int) ≤ ((out_1.length : Int) - 1) ∧ ((out_1.length : Int) - 1) < (out_1.length : Int)] ⟨(inR_i64 (by omega) (by omega)), ⟨(by omega), (by omega)⟩, trivial⟩ ?_
    refine x_ret ?_
    refine xe_end (at_ out_1 (((out_1.length : Int) - 1).toNat)) (show ((at_ out_1 (((out_1.length : Int) - 1).toNat)) = cv farS a b band (a.length - 1) (b.length - 1)) ∧ (True) from ⟨(by (rw [← hls.1]; congr 1; omega)), trivial⟩) (trivial) (I (at_ out_1 (((out_1.length : Int) - 1).toNat))) (by kernel_rfl) (.inl rfl) (fun _ => rfl) (fun _ => trivial)
  obtain ⟨v, ⟨hh0, _⟩, hc⟩ := hh
  exact ⟨v, hh0, hc⟩


theorem eq_nb {a b : List Feat} {band : Int} {i j : Nat} (hab : okAB a b) (hi : i < a.length) (hj : j < b.length) {x : Int} (hx : x ≤ 87000) : (cv farI a b band i j = x) ↔ (cv farS a b band i j = x) := by
  rcases cv_fin (band := band) hab hi hj with h | h <;> omega
theorem nx_le (a b : List Feat) (band : Int) (i j : Nat) : (nx a b band i j).1 ≤ i ∧ (nx a b band i j).2 ≤ j := by
  unfold nx; split
  · exact ⟨Nat.sub_le _ _, Nat.sub_le _ _⟩
  · split
    · exact ⟨Nat.sub_le _ _, Nat.le_refl _⟩
    · exact ⟨Nat.le_refl _, Nat.sub_le _ _⟩
theorem nx_ok {a b : List Feat} {band : Int} {i j : Nat} (hab : okAB a b) (hi : i < a.length) (hj : j < b.length) (hb : inBd band i j) (h0 : ¬ (i = 0 ∧ j = 0)) :
    inBd band (nx a b band i j).1 (nx a b band i j).2 ∧ (nx a b band i j).1 + (nx a b band i j).2 < i + j ∧ i ≤ (nx a b band i j).1 + 1 := by
  obtain ⟨x, e, hx, ho, _⟩ := cv_add (far := farS) (by decide) hab hi hj hb h0
  have hF : farS = 1000000000 := rfl
  have fin : ∀ p q, p < a.length → q < b.length → cv farS a b band p q = x → inBd band p q := fun p q hp hq h => by
    rcases cv_fin (band := band) hab hp hq with g | g
    · exact g.1
    · omega
  have ex : cv farS a b band i j - costF (at_ a i) (at_ b j) = x := by omega
  unfold nx
  rw [ex]
  by_cases h1 : (0 < i ∧ 0 < j) ∧ cv farS a b band (i - 1) (j - 1) = x
  · rw [if_pos h1]; exact ⟨fin _ _ (by omega) (by omega) h1.2, by dsimp only; omega, by dsimp only; omega⟩
  · rw [if_neg h1]
    by_cases h2 : 0 < i ∧ cv farS a b band (i - 1) j = x
    · rw [if_pos h2]; exact ⟨fin _ _ (by omega) (by omega) h2.2, by dsimp only; omega, by dsimp only; omega⟩
    · rw [if_neg h2]
      have h3 : 0 < j ∧ x = cv farS a b band i (j - 1) := by
        rcases ho with g | g | g
        · exact absurd ⟨g.1, g.2.symm⟩ h1
        · exact absurd ⟨g.1, g.2.symm⟩ h2
        · exact g
      exact ⟨fin _ _ (by omega) (by omega) h3.2.symm, by dsimp only; omega, by dsimp only; omega⟩
/-- The path of least cost, from its end. -/
def bk (a b : List Feat) (band : Int) : Nat → Nat → Nat → List Pair
  | 0, i, j => [⟨i, j⟩]
  | s + 1, i, j => if i = 0 ∧ j = 0 then [⟨i, j⟩] else ⟨i, j⟩ :: bk a b band s (nx a b band i j).1 (nx a b band i j).2
theorem bk_head (a b : List Feat) (band : Int) (s i j : Nat) : bk a b band s i j = ⟨i, j⟩ :: (bk a b band s i j).tail := by
  cases s with
  | zero => rfl
  | succ s => unfold bk; split <;> rfl
theorem bk_end (a b : List Feat) (band : Int) (s : Nat) : (bk a b band s 0 0).tail = [] := by
  cases s with
  | zero => rfl
  | succ s => rfl
theorem bk_tail {a b : List Feat} {band : Int} {s i j : Nat} (h0 : ¬ (i = 0 ∧ j = 0)) : (bk a b band (s + 1) i j).tail = ⟨(nx a b band i j).1, (nx a b band i j).2⟩ :: (bk a b band s (nx a b band i j).1 (nx a b band i j).2).tail := by
  rw [← bk_head, bk, if_neg h0, List.tail_cons]
theorem bk_len (a b : List Feat) (band : Int) : ∀ s i j : Nat, 1 ≤ (bk a b band s i j).length ∧ (bk a b band s i j).length ≤ s + 1
  | 0, i, j => by simp [bk]
  | s + 1, i, j => by
    have := bk_len a b band s (nx a b band i j).1 (nx a b band i j).2
    unfold bk; split <;> simp <;> omega
theorem bk_mem {a b : List Feat} {band : Int} : ∀ {s i j : Nat} {p : Pair}, p ∈ bk a b band s i j → (0 ≤ p.I ∧ p.I ≤ (i : Int)) ∧ 0 ≤ p.J ∧ p.J ≤ (j : Int)
  | 0, i, j, p, h => by simp [bk] at h; subst h; simp
  | s + 1, i, j, p, h => by
    unfold bk at h
    split at h
    · simp at h; subst h; simp
    · rcases List.mem_cons.1 h with e | e
      · subst e; simp
      · have q := bk_mem e
        have n := nx_le a b band i j
        omega
theorem bk_cov {a b : List Feat} {band : Int} (hab : okAB a b) : ∀ (s i j : Nat), i < a.length → j < b.length → inBd band i j → i + j ≤ s → ∀ k : Nat, k ≤ i → ∃ p ∈ bk a b band s i j, p.I = (k : Int)
  | 0, i, j, hi, hj, hb, hs, k, hk => ⟨⟨i, j⟩, by simp [bk], by dsimp only; omega⟩
  | s + 1, i, j, hi, hj, hb, hs, k, hk => by
    by_cases e : k = i
    · subst e; exact ⟨⟨k, j⟩, by rw [bk_head]; simp, rfl⟩
    · have h0 : ¬ (i = 0 ∧ j = 0) := by omega
      have n := nx_ok hab hi hj hb h0
      have l := nx_le a b band i j
      obtain ⟨p, hp, hq⟩ := bk_cov hab s _ _ (by omega) (by omega) n.1 (by omega) k (by omega)
      exact ⟨p, by unfold bk; rw [if_neg h0]; exact List.mem_cons_of_mem _ hp, hq⟩
/-- The whole path, from its end. -/
def tot (a b : List Feat) (band : Int) : List Pair := bk a b band (a.length + b.length - 1) (a.length - 1) (b.length - 1)
/-- The step that is taken. -/
def isNx (a b : List Feat) (band i j i2 j2 : Int) : Prop := (0 ≤ i2 ∧ i2 ≤ i) ∧ (0 ≤ j2 ∧ j2 ≤ j) ∧ i2.toNat = (nx a b band i.toNat j.toNat).1 ∧ j2.toNat = (nx a b band i.toNat j.toNat).2
theorem tb_at {a b : List Feat} {band : Int} {tb : List (List Int)} (h : tbOk a b band tb a.length) {p q : Nat} (hp : p < a.length) (hq : q < b.length) : at_ (at_ tb p) q = cv farI a b band p q := (h.2 p hp).2 q hq
theorem lst_eq {a b : List Feat} {band : Int} {tb : List (List Int)} {i j : Nat} (hab : okAB a b) (h : tbOk a b band tb a.length) (hi : i < a.length) (hj : j < b.length) (hb : inBd band i j) (h0 : ¬ (i = 0 ∧ j = 0)) :
    lb3 tb i j = cv farS a b band i j - costF (at_ a i) (at_ b j) ∧ lb3 tb i j ≤ 87000 := by
  have q := lb_at hab (i := i) (j := j) ⟨h.1, fun p hp => h.2 p (by omega)⟩ ⟨(h.2 i hi).1, fun q hq => (h.2 i hi).2 q (by omega)⟩ hi hj
  have hc := costF_bd (hab.1 i hi) (hab.2.1 j hj)
  have e := q.2
  have hF : farI = 1099511627776 := rfl
  have hb' := hb
  unfold inBd at hb'
  rw [if_neg h0] at e
  unfold stp at e
  rcases cv_fin (band := band) hab hi hj with g | g
  · split at e <;> omega
  · exact absurd hb g.1
theorem nx_1 {a b : List Feat} {band : Int} {tb : List (List Int)} {i j : Int} (hab : okAB a b) (h : tbOk a b band tb a.length) (hi : 0 ≤ i ∧ i < (a.length : Int)) (hj : 0 ≤ j ∧ j < (b.length : Int)) (hb : inBd band i.toNat j.toNat) (h0 : ¬ (i = 0 ∧ j = 0))
    (c1 : 1 ≤ i ∧ 1 ≤ j ∧ at_ (at_ tb (i - 1).toNat) (j - 1).toNat = lb3 tb i j) : isNx a b band i j (i - 1) (j - 1) := by
  have hl := lst_eq hab h (i := i.toNat) (j := j.toNat) (by omega) (by omega) hb (by omega)
  rw [show ((i.toNat : Nat) : Int) = i from by omega, show ((j.toNat : Nat) : Int) = j from by omega] at hl
  have e := c1.2.2
  rw [tb_at h (by omega) (by omega), eq_nb hab (by omega) (by omega) hl.2, hl.1, show (i - 1).toNat = i.toNat - 1 from by omega, show (j - 1).toNat = j.toNat - 1 from by omega] at e
  unfold isNx nx
  rw [if_pos ⟨by omega, e⟩]
  dsimp only; omega
theorem nx_2 {a b : List Feat} {band : Int} {tb : List (List Int)} {i j : Int} (hab : okAB a b) (h : tbOk a b band tb a.length) (hi : 0 ≤ i ∧ i < (a.length : Int)) (hj : 0 ≤ j ∧ j < (b.length : Int)) (hb : inBd band i.toNat j.toNat) (h0 : ¬ (i = 0 ∧ j = 0))
    (c1 : ¬ (1 ≤ i ∧ 1 ≤ j ∧ at_ (at_ tb (i - 1).toNat) (j - 1).toNat = lb3 tb i j)) (c2 : 1 ≤ i ∧ at_ (at_ tb (i - 1).toNat) (j - 0).toNat = lb3 tb i j) : isNx a b band i j (i - 1) (j - 0) := by
  have hl := lst_eq hab h (i := i.toNat) (j := j.toNat) (by omega) (by omega) hb (by omega)
  rw [show ((i.toNat : Nat) : Int) = i from by omega, show ((j.toNat : Nat) : Int) = j from by omega] at hl
  have e := c2.2
  rw [tb_at h (by omega) (by omega), eq_nb hab (by omega) (by omega) hl.2, hl.1, show (i - 1).toNat = i.toNat - 1 from by omega, show (j - 0).toNat = j.toNat from by omega] at e
  unfold isNx nx
  rw [if_neg (fun q => c1 ⟨by omega, by omega, by rw [tb_at h (by omega) (by omega), eq_nb hab (by omega) (by omega) hl.2, hl.1, show (i - 1).toNat = i.toNat - 1 from by omega, show (j - 1).toNat = j.toNat - 1 from by omega]; exact q.2⟩), if_pos ⟨by omega, e⟩]
  dsimp only; omega
theorem nx_3 {a b : List Feat} {band : Int} {tb : List (List Int)} {i j : Int} (hab : okAB a b) (h : tbOk a b band tb a.length) (hi : 0 ≤ i ∧ i < (a.length : Int)) (hj : 0 ≤ j ∧ j < (b.length : Int)) (hb : inBd band i.toNat j.toNat) (h0 : ¬ (i = 0 ∧ j = 0))
    (c1 : ¬ (1 ≤ i ∧ 1 ≤ j ∧ at_ (at_ tb (i - 1).toNat) (j - 1).toNat = lb3 tb i j)) (c2 : ¬ (1 ≤ i ∧ at_ (at_ tb (i - 1).toNat) (j - 0).toNat = lb3 tb i j)) : isNx a b band i j (i - 0) (j - 1) ∧ 1 ≤ j ∧ at_ (at_ tb (i - 0).toNat) (j - 1).toNat = lb3 tb i j := by
  have hl := lst_eq hab h (i := i.toNat) (j := j.toNat) (by omega) (by omega) hb (by omega)
  rw [show ((i.toNat : Nat) : Int) = i from by omega, show ((j.toNat : Nat) : Int) = j from by omega] at hl
  have n1 : ¬ ((0 < i.toNat ∧ 0 < j.toNat) ∧ cv farS a b band (i.toNat - 1) (j.toNat - 1) = cv farS a b band i.toNat j.toNat - costF (at_ a i.toNat) (at_ b j.toNat)) := fun q => c1 ⟨by omega, by omega, by rw [tb_at h (by omega) (by omega), eq_nb hab (by omega) (by omega) hl.2, hl.1, show (i - 1).toNat = i.toNat - 1 from by omega, show (j - 1).toNat = j.toNat - 1 from by omega]; exact q.2⟩
  have n2 : ¬ (0 < i.toNat ∧ cv farS a b band (i.toNat - 1) j.toNat = cv farS a b band i.toNat j.toNat - costF (at_ a i.toNat) (at_ b j.toNat)) := fun q => c2 ⟨by omega, by rw [tb_at h (by omega) (by omega), eq_nb hab (by omega) (by omega) hl.2, hl.1, show (i - 1).toNat = i.toNat - 1 from by omega, show (j - 0).toNat = j.toNat from by omega]; exact q.2⟩
  obtain ⟨x, e, hx, ho, _⟩ := cv_add (far := farS) (by decide) hab (i := i.toNat) (j := j.toNat) (by omega) (by omega) hb (by omega)
  have ex : cv farS a b band i.toNat j.toNat - costF (at_ a i.toNat) (at_ b j.toNat) = x := by omega
  rw [ex] at n1 n2
  have h3 : 0 < j.toNat ∧ x = cv farS a b band i.toNat (j.toNat - 1) := by
    rcases ho with g | g | g
    · exact absurd ⟨g.1, g.2.symm⟩ n1
    · exact absurd ⟨g.1, g.2.symm⟩ n2
    · exact g
  refine ⟨?_, by omega, ?_⟩
  · unfold isNx nx
    rw [ex, if_neg n1, if_neg n2]
    dsimp only; omega
  · rw [tb_at h (by omega) (by omega), eq_nb hab (by omega) (by omega) hl.2, hl.1, ex, show (i - 0).toNat = i.toNat from by omega, show (j - 1).toNat = j.toNat - 1 from by omega]
    exact h3.2.symm

/-- A step goes on. -/
theorem nx_go {a b : List Feat} {band i j i2 j2 : Int} (hab : okAB a b) (hi : 0 ≤ i ∧ i < (a.length : Int)) (hj : 0 ≤ j ∧ j < (b.length : Int)) (hb : inBd band i.toNat j.toNat) (h0 : ¬ (i = 0 ∧ j = 0)) (h : isNx a b band i j i2 j2) {s : Nat} :
    (inBd band i2.toNat j2.toNat ∧ i2 + j2 < i + j) ∧ (bk a b band (s + 1) i.toNat j.toNat).tail = ⟨i2, j2⟩ :: (bk a b band s i2.toNat j2.toNat).tail := by
  obtain ⟨h1, h2, h3, h4⟩ := h
  have n := nx_ok hab (i := i.toNat) (j := j.toNat) (by omega) (by omega) hb (by omega)
  rw [← h3, ← h4] at n
  refine ⟨⟨n.1, by omega⟩, ?_⟩
  rw [bk_tail (by omega), ← h3, ← h4, show ((i2.toNat : Nat) : Int) = i2 from by omega, show ((j2.toNat : Nat) : Int) = j2 from by omega]
theorem tot_start {a b : List Feat} {band : Int} {i j : Int} (hi : i = (a.length : Int) - 1) (hj : j = (b.length : Int) - 1) (ha : 1 ≤ a.length) (hb : 1 ≤ b.length) : [Pair.mk i j] ++ (bk a b band (a.length + b.length - [Pair.mk i j].length) i.toNat j.toNat).tail = tot a b band := by
  subst hi hj
  unfold tot
  rw [bk_head a b band (a.length + b.length - 1)]
  have e1 : ((a.length : Int) - 1).toNat = a.length - 1 := by omega
  have e2 : ((b.length : Int) - 1).toNat = b.length - 1 := by omega
  rw [e1, e2, show ((a.length : Int) - 1) = ((a.length - 1 : Nat) : Int) from by omega, show ((b.length : Int) - 1) = ((b.length - 1 : Nat) : Int) from by omega]
  rfl
theorem tot_next {a b : List Feat} {band i j i2 j2 : Int} (hab : okAB a b) (hi : 0 ≤ i ∧ i < (a.length : Int)) (hj : 0 ≤ j ∧ j < (b.length : Int)) (hb : inBd band i.toNat j.toNat) (h0 : ¬ (i = 0 ∧ j = 0)) (h : isNx a b band i j i2 j2) {bs : List Pair} (hl : i + j + (bs.length : Int) ≤ (a.length : Int) + (b.length : Int) - 1)
    (ht : bs ++ (bk a b band (a.length + b.length - bs.length) i.toNat j.toNat).tail = tot a b band) : (bs ++ [Pair.mk i2 j2]) ++ (bk a b band (a.length + b.length - (bs ++ [Pair.mk i2 j2]).length) i2.toNat j2.toNat).tail = tot a b band := by
  rw [show a.length + b.length - bs.length = (a.length + b.length - (bs ++ [Pair.mk i2 j2]).length) + 1 from by simp; omega, (nx_go hab hi hj hb h0 h).2] at ht
  rw [List.append_assoc]
  exact ht
theorem tot_pre {a b : List Feat} {band i j i2 j2 : Int} (hab : okAB a b) (hi : 0 ≤ i ∧ i < (a.length : Int)) (hj : 0 ≤ j ∧ j < (b.length : Int)) (hb : inBd band i.toNat j.toNat) (h0 : ¬ (i = 0 ∧ j = 0)) (h : isNx a b band i j i2 j2) {bs : List Pair} (hl : i + j + (bs.length : Int) ≤ (a.length : Int) + (b.length : Int) - 1)
    (ht : bs.reverse ++ (bk a b band (a.length + b.length - bs.length) i.toNat j.toNat).tail = tot a b band) : ([Pair.mk i2 j2] ++ bs).reverse ++ (bk a b band (a.length + b.length - ([Pair.mk i2 j2] ++ bs).length) i2.toNat j2.toNat).tail = tot a b band := by
  have e := tot_next hab hi hj hb h0 h (bs := bs.reverse) (by rw [List.length_reverse]; exact hl) (by rw [List.length_reverse]; exact ht)
  simp only [List.length_append, List.length_reverse, List.length_cons, List.length_nil, List.reverse_append, List.reverse_cons, List.reverse_nil, List.nil_append] at e ⊢
  rw [Nat.add_comm 0 1] at *
  rw [Nat.add_comm bs.length] at e
  exact e
theorem tot_end {a b : List Feat} {band i j : Int} {bs : List Pair} {s : Nat} (h0 : i = 0 ∧ j = 0) (ht : bs ++ (bk a b band s i.toNat j.toNat).tail = tot a b band) : bs = tot a b band := by
  obtain ⟨rfl, rfl⟩ := h0
  rw [show (0 : Int).toNat = 0 from rfl, bk_end, List.append_nil] at ht
  exact ht
theorem tot_mem {a b : List Feat} {band : Int} {p : Pair} (ha : 1 ≤ a.length) (hb : 1 ≤ b.length) (h : p ∈ tot a b band) : (0 ≤ p.I ∧ p.I < (a.length : Int)) ∧ 0 ≤ p.J ∧ p.J < (b.length : Int) := by
  have := bk_mem h
  omega
theorem tot_len (a b : List Feat) (band : Int) : 1 ≤ (tot a b band).length ∧ (tot a b band).length ≤ a.length + b.length - 1 + 1 := bk_len a b band _ _ _
theorem rev_next {bs ps : List Pair} {k : Int} (h0 : 0 ≤ k) (hk : k.toNat < bs.length) (hl : ps.length = bs.length) (h : ∀ q : Nat, (q : Int) < k → at_ ps (bs.length - 1 - q) = at_ bs q) {y : Pair} (hy : y = at_ bs k.toNat) {p : Nat} (hp : p = bs.length - 1 - k.toNat) : (ps.set p y).length = bs.length ∧ ∀ q : Nat, (q : Int) < k + 1 → at_ (ps.set p y) (bs.length - 1 - q) = at_ bs q := by
  subst hp hy
  refine ⟨by rw [List.length_set]; exact hl, fun q hq => ?_⟩
  by_cases e : q = k.toNat
  · subst e; rw [at_set_same (by omega)]
  · rw [at_set_oth (by omega)]; exact h q (by omega)
theorem rev_done {bs ps : List Pair} {k : Int} (hk : k = (bs.length : Int)) (hl : ps.length = bs.length) (h : ∀ q : Nat, (q : Int) < k → at_ ps (bs.length - 1 - q) = at_ bs q) : ps = bs.reverse := by
  subst hk
  refine List.ext_getElem (by simp [hl]) fun i h1 h2 => ?_
  rw [List.getElem_reverse, ← at_eq, ← at_eq]
  have e := h (bs.length - 1 - i) (by omega)
  rw [show bs.length - 1 - (bs.length - 1 - i) = i from by omega] at e
  exact e

/-- A coordinate that is moved towards a median. -/
def towI (x m base share : Int) : Int := min (max (x + Int.tdiv ((m - x) * share) 100) (base - 40)) (base + 40)



/-- The number in the middle, the lesser one of two. -/
def medI (xs : List Int) : Int := at_ (sortL xs) ((xs.length - 1) / 2)
theorem medI_mem {xs : List Int} (h : 1 ≤ xs.length) : medI xs ∈ xs := sortL_mem.1 (at_mem (by rw [sortL_len]; omega))

/-- The numbers that a path brings to place i. -/
def xsF (f : Feat → Int) (path : List Pair) (s : List Feat) (i : Int) : List Int := (path.filter fun p => decide (p.I = i)).map fun p => f (at_ s p.J.toNat)
theorem xsF_yes {f : Feat → Int} {path : List Pair} {s : List Feat} {i : Int} {k : Nat} (h : k < path.length) (e : (at_ path k).I = i) : xsF f (path.take (k + 1)) s i = xsF f (path.take k) s i ++ [f (at_ s (at_ path k).J.toNat)] := by
  rw [List.take_succ_eq_append_getElem h, ← at_eq h]
  simp [xsF, List.filter_append, e]
theorem xsF_no {f : Feat → Int} {path : List Pair} {s : List Feat} {i : Int} {k : Nat} (h : k < path.length) (e : ¬ (at_ path k).I = i) : xsF f (path.take (k + 1)) s i = xsF f (path.take k) s i := by
  rw [List.take_succ_eq_append_getElem h, ← at_eq h]
  simp [xsF, List.filter_append, e]
theorem xsF_le (f : Feat → Int) (path : List Pair) (s : List Feat) (i : Int) : (xsF f path s i).length ≤ path.length := by
  unfold xsF; rw [List.length_map]; exact List.length_filter_le _ _
def pathOf (a b : List Feat) (band : Int) : List Pair := (tot a b band).reverse
theorem path_len (a b : List Feat) (band : Int) : (pathOf a b band).length = (tot a b band).length := List.length_reverse
theorem path_bd {a b : List Feat} (ha : okFeats a 72 = true) (hb : okFeats b 72 = true) (band : Int) : (pathOf a b band).length ≤ 145 := by
  have h := tot_len a b band
  have h1 := okFeats_n ha
  have h2 := okFeats_n hb
  rw [path_len]; omega
theorem path_at {a b : List Feat} {band : Int} (ha : okFeats a 72 = true) (hb : okFeats b 72 = true) {k : Nat} (hk : k < (pathOf a b band).length) : (0 ≤ (at_ (pathOf a b band) k).I ∧ (at_ (pathOf a b band) k).I < (a.length : Int)) ∧ 0 ≤ (at_ (pathOf a b band) k).J ∧ (at_ (pathOf a b band) k).J < (b.length : Int) := by
  have hm := at_mem hk
  exact tot_mem (okFeats_n ha).1 (okFeats_n hb).1 (List.mem_reverse.1 hm)
theorem xs_pos {a b : List Feat} {band : Int} (ha : okFeats a 72 = true) (hb : okFeats b 72 = true) (hnm : inBd band a.length b.length) (f : Feat → Int) {i : Nat} (hi : i < a.length) : 1 ≤ (xsF f (pathOf a b band) b i).length ∧ (xsF f (pathOf a b band) b i).length ≤ 145 := by
  have h1 := okFeats_n ha
  have h2 := okFeats_n hb
  refine ⟨?_, Nat.le_trans (xsF_le _ _ _ _) (path_bd ha hb band)⟩
  obtain ⟨p, hp, e⟩ := bk_cov (okAB_of ha hb) (a.length + b.length - 1) (a.length - 1) (b.length - 1) (by omega) (by omega) (inBd_end hnm h1.1 h2.1) (by omega) i (by omega)
  unfold xsF
  rw [List.length_map]
  refine List.length_pos_of_mem (a := p) (List.mem_filter.2 ⟨List.mem_reverse.2 hp, by simp [e]⟩)
theorem xs_mem {a b : List Feat} {band : Int} (ha : okFeats a 72 = true) (hb : okFeats b 72 = true) {f : Feat → Int} (hf : ∀ x : Feat, okF x = true → 0 ≤ f x ∧ f x ≤ 255) {i x : Int} (hx : x ∈ xsF f (pathOf a b band) b i) : 0 ≤ x ∧ x ≤ 255 := by
  unfold xsF at hx
  obtain ⟨p, hp, rfl⟩ := List.mem_map.1 hx
  have hp' := (List.mem_filter.1 hp).1
  have hq := tot_mem (okFeats_n ha).1 (okFeats_n hb).1 (List.mem_reverse.1 hp')
  exact hf _ (okFeats_at hb (by omega))
theorem okF_X : ∀ x : Feat, okF x = true → 0 ≤ x.X ∧ x.X ≤ 255 := fun x h => by have := okF_iff.1 h; omega
theorem okF_Y : ∀ x : Feat, okF x = true → 0 ≤ x.Y ∧ x.Y ≤ 255 := fun x h => by have := okF_iff.1 h; omega
theorem med_bd {a b : List Feat} {band : Int} (ha : okFeats a 72 = true) (hb : okFeats b 72 = true) (hnm : inBd band a.length b.length) {f : Feat → Int} (hf : ∀ x : Feat, okF x = true → 0 ≤ f x ∧ f x ≤ 255) {i : Nat} (hi : i < a.length) : 0 ≤ medI (xsF f (pathOf a b band) b i) ∧ medI (xsF f (pathOf a b band) b i) ≤ 255 :=
  xs_mem ha hb hf (medI_mem (xs_pos ha hb hnm f hi).1)
/-- A template's feature after a sample. -/
def adpF (t : Trained) (s : List Feat) (band share : Int) (i : Nat) : Feat :=
  ⟨towI (at_ t.Feats i).X (medI (xsF Feat.X (pathOf t.Feats s band) s i)) (at_ t.Base i).X share, towI (at_ t.Feats i).Y (medI (xsF Feat.Y (pathOf t.Feats s band) s i)) (at_ t.Base i).Y share, (at_ t.Feats i).D⟩
def adpN (t : Trained) (s : List Feat) (band share : Int) (n : Nat) : List Feat := (List.range n).map (adpF t s band share)
theorem adpN_succ {t : Trained} {s : List Feat} {band share : Int} {n : Nat} {y : Feat} (h : y = adpF t s band share n) : adpN t s band share n ++ [y] = adpN t s band share (n + 1) := by
  subst h; simp [adpN, List.range_succ]
theorem adpN_len (t : Trained) (s : List Feat) (band share : Int) (n : Nat) : (adpN t s band share n).length = n := by simp [adpN]
/-- A template after a sample. -/
def adpT (t : Trained) (s : List Feat) (band share : Int) : Trained := ⟨t.Label, t.Base, adpN t s band share t.Feats.length, t.Count + 1⟩

theorem stR_len (t : Template) : (stR t).1.Base.length ≤ 72 ∧ (stR t).1.Feats.length ≤ 72 := by
  cases h : okTm t with
  | true => rw [stR_yes h]; exact ⟨okTm_len h, okTm_len h⟩
  | false => rw [stR_no h]; exact ⟨by decide, by decide⟩

/-- A table with what the first pairs of a path bring to each place. -/
def tabOk (f : Feat → Int) (V : List Pair) (s : List Feat) (k n : Nat) (tb : List (List Int)) : Prop := tb.length = n ∧ ∀ i : Nat, i < n → at_ tb i = xsF f (V.take k) s (i : Int)
theorem tab_nil (f : Feat → Int) (V : List Pair) (s : List Feat) {n m : Nat} (h : m = n) : tabOk f V s 0 n (List.replicate m []) := ⟨by simp [h], fun i hi => by subst h; simp [at_, hi, xsF]⟩
theorem tab_next {f : Feat → Int} {V : List Pair} {s : List Feat} {k n p : Nat} {tb : List (List Int)} {v : Int} (h : tabOk f V s k n tb) (hk : k < V.length) (hp : 0 ≤ (at_ V k).I ∧ (at_ V k).I < (n : Int)) (e : p = (at_ V k).I.toNat) (hv : v = f (at_ s (at_ V k).J.toNat)) :
    tabOk f V s (k + 1) n ((tb.set p []).set p (at_ tb p ++ [v])) := by
  refine ⟨by simp [h.1], fun i hi => ?_⟩
  rw [List.set_set]
  by_cases c : i = p
  · rw [c, at_set_same (by rw [h.1]; omega), h.2 p (by omega), hv]
    exact (xsF_yes hk (by omega)).symm
  · rw [at_set_oth c, h.2 i hi]
    exact (xsF_no hk (by omega)).symm
theorem tab_end {f : Feat → Int} {V : List Pair} {s : List Feat} {k n : Nat} {tb : List (List Int)} (h : tabOk f V s k n tb) (hk : k = V.length) {i : Nat} (hi : i < n) : at_ tb i = xsF f V s (i : Int) := by
  rw [h.2 i hi, hk, List.take_of_length_le (Nat.le_refl _)]
/-- The rows from k on. -/
def tabR (f : Feat → Int) (V : List Pair) (s : List Feat) (k n : Nat) (tb : List (List Int)) : Prop := tb.length = n ∧ ∀ i : Nat, k ≤ i → i < n → at_ tb i = xsF f V s (i : Int)
theorem tabR_start {f : Feat → Int} {V : List Pair} {s : List Feat} {k n : Nat} {tb : List (List Int)} (h : tabOk f V s k n tb) (hk : k = V.length) : tabR f V s 0 n tb := ⟨h.1, fun i _ hi => tab_end h hk hi⟩
theorem tabR_next {f : Feat → Int} {V : List Pair} {s : List Feat} {k n : Nat} {tb : List (List Int)} {ys : List Int} (h : tabR f V s k n tb) : tabR f V s (k + 1) n ((tb.set k []).set k ys) := by
  refine ⟨by simp [h.1], fun i hk hi => ?_⟩
  rw [List.set_set, at_set_oth (by omega)]
  exact h.2 i (by omega) hi
theorem tab_row {f : Feat → Int} {V : List Pair} {s : List Feat} {k n : Nat} {tb : List (List Int)} (h : tabOk f V s k n tb) {i : Nat} (hi : i < n) : (at_ tb i).length ≤ V.length := by
  rw [h.2 i hi]
  refine Nat.le_trans (xsF_le _ _ _ _) ?_
  rw [List.length_take]; omega

def rsR (t : Trained) : Trained × Int := if okTrained' t = true then (⟨t.Label, t.Base, t.Base, 0⟩, 0) else (⟨⟨#[]⟩, [], [], 0⟩, 1)
theorem rsR_yes {t : Trained} (h : okTrained' t = true) : rsR t = (⟨t.Label, t.Base, t.Base, 0⟩, 0) := if_pos h
theorem rsR_no {t : Trained} (h : okTrained' t = false) : rsR t = (⟨⟨#[]⟩, [], [], 0⟩, 1) := by simp [rsR, h]
theorem okTr_len {t : Trained} (h : okTrained' t = true) : t.Base.length ≤ 72 := by
  simp only [okTrained', okFeats, Bool.and_eq_true, decide_eq_true_eq] at h
  omega
theorem rsR_len (t : Trained) : (rsR t).1.Base.length ≤ 72 ∧ (rsR t).1.Feats.length ≤ 72 := by
  cases h : okTrained' t with
  | true => rw [rsR_yes h]; have := okTr_len h; exact ⟨this, this⟩
  | false => rw [rsR_no h]; exact ⟨by decide, by decide⟩

def zT : Trained := ⟨⟨#[]⟩, [], [], 0⟩
def adR (t : Trained) (s : List Feat) (band share : Int) : Trained × Int :=
  if okTrained' t = true ∧ okFeats s 72 = true then
    if inB share 0 100 = true ∧ (inB band 0 72 && decide ((((t.Feats.length : Int) - (s.length : Int)).natAbs : Int) ≤ band)) = true then
      if 100 ≤ t.Count then (zT, 5) else (adpT t s band share, 0)
    else (zT, 2)
  else (zT, 1)
theorem band_of {band n m : Int} (h : (inB band 0 72 && decide (((n - m).natAbs : Int) ≤ band)) = true) (hn : 0 ≤ n) (hm : 0 ≤ m) : (0 ≤ band ∧ band ≤ 72) ∧ inBd band n.toNat m.toNat := by
  simp only [Bool.and_eq_true, decide_eq_true_eq, inB] at h
  refine ⟨h.1, ?_⟩
  unfold inBd; omega
theorem adpT_len (t : Trained) (s : List Feat) (band share : Int) : (adpT t s band share).Feats.length = t.Feats.length := adpN_len t s band share _
theorem adR_len (t : Trained) (s : List Feat) (band share : Int) : (adR t s band share).1.Base.length ≤ 72 ∧ (adR t s band share).1.Feats.length ≤ 72 := by
  unfold adR
  split
  · rename_i h
    have h1 := okTr_len h.1
    have h2 := (okTr_iff.1 h.1).2.2.2.1.1
    split
    · split
      · exact ⟨by decide, by decide⟩
      · refine ⟨h1, ?_⟩
        rw [adpT_len]; omega
    · exact ⟨by decide, by decide⟩
  · exact ⟨by decide, by decide⟩

/-- What a path costs. -/
def pcL (a b : List Feat) : List Pair → Int
  | [] => 0
  | p :: r => costF (at_ a p.I.toNat) (at_ b p.J.toNat) + pcL a b r
theorem cv_00 {a b : List Feat} {band : Int} (hb : inBd band 0 0) : cv farS a b band 0 0 = costF (at_ a 0) (at_ b 0) := by
  have hF : farS = 1000000000 := rfl
  unfold inBd at hb
  rw [cv, stp_add (by omega) (by omega)]; omega
theorem nx_cases {a b : List Feat} {band : Int} {i j : Nat} (hab : okAB a b) (hi : i < a.length) (hj : j < b.length) (hb : inBd band i j) (h0 : ¬ (i = 0 ∧ j = 0)) :
    (0 < i ∧ 0 < j ∧ nx a b band i j = (i - 1, j - 1)) ∨ (0 < i ∧ nx a b band i j = (i - 1, j)) ∨ (0 < j ∧ nx a b band i j = (i, j - 1)) := by
  have q := nx_ok hab hi hj hb h0
  obtain ⟨y, hy⟩ : ∃ y, y = nx a b band i j := ⟨_, rfl⟩
  rw [← hy] at q ⊢
  unfold nx at hy
  split at hy
  · rename_i h; subst hy; exact .inl ⟨h.1.1, h.1.2, rfl⟩
  · split at hy
    · rename_i h; subst hy; exact .inr (.inl ⟨h.1, rfl⟩)
    · subst hy; refine .inr (.inr ⟨?_, rfl⟩); dsimp only at q; omega
theorem nx_cv {a b : List Feat} {band : Int} {i j : Nat} (hab : okAB a b) (hi : i < a.length) (hj : j < b.length) (hb : inBd band i j) (h0 : ¬ (i = 0 ∧ j = 0)) :
    cv farS a b band i j = cv farS a b band (nx a b band i j).1 (nx a b band i j).2 + costF (at_ a i) (at_ b j) := by
  obtain ⟨x, e, hx, ho, _⟩ := cv_add (far := farS) (by decide) hab hi hj hb h0
  have ex : cv farS a b band i j - costF (at_ a i) (at_ b j) = x := by omega
  suffices h : cv farS a b band (nx a b band i j).1 (nx a b band i j).2 = x by omega
  unfold nx
  rw [ex]
  by_cases h1 : (0 < i ∧ 0 < j) ∧ cv farS a b band (i - 1) (j - 1) = x
  · rw [if_pos h1]; exact h1.2
  · rw [if_neg h1]
    by_cases h2 : 0 < i ∧ cv farS a b band (i - 1) j = x
    · rw [if_pos h2]; exact h2.2
    · rw [if_neg h2]
      rcases ho with g | g | g
      · exact absurd ⟨g.1, g.2.symm⟩ h1
      · exact absurd ⟨g.1, g.2.symm⟩ h2
      · exact g.2.symm
theorem bk_cost {a b : List Feat} {band : Int} (hab : okAB a b) : ∀ (s i j : Nat), i < a.length → j < b.length → inBd band i j → i + j ≤ s → cv farS a b band i j = pcL a b (bk a b band s i j)
  | 0, i, j, hi, hj, hb, hs => by
    obtain rfl : i = 0 := by omega
    obtain rfl : j = 0 := by omega
    simp [bk, pcL, cv_00 hb]
  | s + 1, i, j, hi, hj, hb, hs => by
    unfold bk
    by_cases h0 : i = 0 ∧ j = 0
    · obtain ⟨rfl, rfl⟩ := h0
      simp [pcL, cv_00 hb]
    · have n := nx_ok hab hi hj hb h0
      have l := nx_le a b band i j
      rw [if_neg h0, nx_cv hab hi hj hb h0, bk_cost hab s _ _ (by omega) (by omega) n.1 (by omega)]
      simp only [pcL, Int.toNat_natCast]
      omega
theorem bk_least {a a' b : List Feat} {band : Int} (hab : okAB a b) (hab' : okAB a' b) (hl : a'.length = a.length) : ∀ (s i j : Nat), i < a.length → j < b.length → inBd band i j → i + j ≤ s → cv farS a' b band i j ≤ pcL a' b (bk a b band s i j)
  | 0, i, j, hi, hj, hb, hs => by
    obtain rfl : i = 0 := by omega
    obtain rfl : j = 0 := by omega
    simp [bk, pcL, cv_00 hb]
  | s + 1, i, j, hi, hj, hb, hs => by
    unfold bk
    by_cases h0 : i = 0 ∧ j = 0
    · obtain ⟨rfl, rfl⟩ := h0
      simp [pcL, cv_00 hb]
    · have n := nx_ok hab hi hj hb h0
      have l := nx_le a b band i j
      have ih := bk_least hab hab' hl s _ _ (show (nx a b band i j).1 < a.length by omega) (show (nx a b band i j).2 < b.length by omega) n.1 (by omega)
      obtain ⟨x, e, _, _, h1, h2, h3⟩ := cv_add (far := farS) (by decide) hab' (by omega) hj hb h0
      rw [if_neg h0]
      simp only [pcL, Int.toNat_natCast]
      have : x ≤ cv farS a' b band (nx a b band i j).1 (nx a b band i j).2 := by
        rcases nx_cases hab hi hj hb h0 with ⟨g1, g2, g⟩ | ⟨g1, g⟩ | ⟨g1, g⟩ <;> rw [g]
        · exact h1 g1 g2
        · exact h2 g1
        · exact h3 g1
      omega
/-- A sum over a list. -/
def smL {α : Type} (f : α → Int) : List α → Int
  | [] => 0
  | x :: r => f x + smL f r
theorem smL_app {α : Type} (f : α → Int) (xs ys : List α) : smL f (xs ++ ys) = smL f xs + smL f ys := by
  induction xs with
  | nil => simp [smL]
  | cons x r ih => simp only [List.cons_append, smL, ih]; omega
theorem smL_perm {α : Type} (f : α → Int) {xs ys : List α} (h : List.Perm xs ys) : smL f xs = smL f ys := by
  induction h with
  | nil => rfl
  | cons x _ ih => simp only [smL, ih]
  | swap x y l => simp only [smL]; omega
  | trans _ _ h1 h2 => exact h1.trans h2
theorem smL_split (g : Pair → Int) (P : List Pair) (k : Int) : smL g (P.filter fun p => decide (p.I < k + 1)) = smL g (P.filter fun p => decide (p.I < k)) + smL g (P.filter fun p => decide (p.I = k)) := by
  induction P with
  | nil => rfl
  | cons p r ih =>
    simp only [List.filter_cons]
    by_cases h1 : p.I < k
    · rw [if_pos (by simpa using (show p.I < k + 1 by omega)), if_pos (by simpa using h1), if_neg (by simpa using (show ¬ p.I = k by omega))]
      simp only [smL, ih]; omega
    · by_cases h2 : p.I = k
      · rw [if_pos (by simpa using (show p.I < k + 1 by omega)), if_neg (by simpa using h1), if_pos (by simpa using h2)]
        simp only [smL, ih]; omega
      · rw [if_neg (by simpa using (show ¬ p.I < k + 1 by omega)), if_neg (by simpa using h1), if_neg (by simpa using h2)]
        exact ih
theorem smL_none (g : Pair → Int) (P : List Pair) (h : ∀ p ∈ P, 0 ≤ p.I) : smL g (P.filter fun p => decide (p.I < (0 : Int))) = 0 := by
  rw [List.filter_eq_nil_iff.2 fun p hp => by have := h p hp; simpa using this]; rfl
theorem smL_le_all {g g' : Pair → Int} {P : List Pair} (h0 : ∀ p ∈ P, 0 ≤ p.I) (n : Nat) (h : ∀ k : Nat, k < n → smL g (P.filter fun p => decide (p.I = (k : Int))) ≤ smL g' (P.filter fun p => decide (p.I = (k : Int)))) :
    smL g (P.filter fun p => decide (p.I < (n : Int))) ≤ smL g' (P.filter fun p => decide (p.I < (n : Int))) := by
  induction n with
  | zero => show smL g (P.filter fun p => decide (p.I < (0 : Int))) ≤ smL g' (P.filter fun p => decide (p.I < (0 : Int))); rw [smL_none _ _ h0, smL_none _ _ h0]; exact Int.le_refl _
  | succ n ih =>
    have e := smL_split g P (n : Int)
    have e' := smL_split g' P (n : Int)
    have q := ih fun k hk => h k (by omega)
    have q2 := h n (by omega)
    rw [show ((n + 1 : Nat) : Int) = (n : Int) + 1 from rfl, e, e']
    omega
theorem pcL_eq (a b : List Feat) (P : List Pair) : pcL a b P = smL (fun p => costF (at_ a p.I.toNat) (at_ b p.J.toNat)) P := by
  induction P with
  | nil => rfl
  | cons p r ih => simp only [pcL, smL, ih]
end Go.Proofs.YtjiflhglbephbaaGreat.Ax
