/- Contracts that the statement FnLearn reaches, part 1. No conditions. -/
import Derived.Test.YtjiflhglbephbaaGreatAxO
import Derived.Test.YtjiflhglbephbaaGreatShelf
import Derived.Test.YtjiflhglbephbaaGreatAxR
import Derived.Test.YtjiflhglbephbaaGreatAxS
import Derived.Test.YtjiflhglbephbaaGreatSortShelf
namespace Go.Proofs.YtjiflhglbephbaaGreat.Ax
open Go.RowKit Go.ChangeShapes Go.WideShapes
set_option linter.unusedVariables false
set_option linter.unusedSimpArgs false


def cU8 (x : Int) : List AV := [.val (.int .u8 x)]
def fU8 (xs : List Int) (i : Nat) : List AV := cU8 (at_ xs i)
def slU8 (fr : Bool) (xs : List Int) : AV := .sl fr 1 xs.length (fU8 xs)
theorem tagcU8 (t : Bool) (x : Int) : taggedL t (cU8 x) := by simp [cU8, taggedL, tagged]
theorem tagU8 (t : Bool) (xs : List Int) : tagged t (slU8 t xs) := by simp only [slU8, tagged]; exact ⟨trivial, fun i _ => tagcU8 t _⟩
theorem lenU8 (fr : Bool) (xs : List Int) : lenA noOb (slU8 fr xs) = some xs.length := rfl
def cI (x : Int) : List AV := [I x]
def fI (xs : List Int) (i : Nat) : List AV := cI (at_ xs i)
def slI (fr : Bool) (xs : List Int) : AV := .sl fr 1 xs.length (fI xs)
theorem tagcI (t : Bool) (x : Int) : taggedL t (cI x) := by simp [cI, taggedL, tagged]
theorem tagI (t : Bool) (xs : List Int) : tagged t (slI t xs) := by simp only [slI, tagged]; exact ⟨trivial, fun i _ => tagcI t _⟩
theorem lenI (fr : Bool) (xs : List Int) : lenA noOb (slI fr xs) = some xs.length := rfl
def cS (x : ByteArray) : List AV := [Sv x]
def fS (xs : List ByteArray) (i : Nat) : List AV := cS (at_ xs i)
def slS (fr : Bool) (xs : List ByteArray) : AV := .sl fr 1 xs.length (fS xs)
theorem tagcS (t : Bool) (x : ByteArray) : taggedL t (cS x) := by simp [cS, taggedL, tagged]
theorem tagS (t : Bool) (xs : List ByteArray) : tagged t (slS t xs) := by simp only [slS, tagged]; exact ⟨trivial, fun i _ => tagcS t _⟩
theorem lenS (fr : Bool) (xs : List ByteArray) : lenA noOb (slS fr xs) = some xs.length := rfl
structure Feat where
  X : Int
  Y : Int
  D : Int
deriving DecidableEq, Inhabited
def cFeat (x : Feat) : List AV := [I x.X, I x.Y, I x.D]
def fFeat (xs : List Feat) (i : Nat) : List AV := cFeat (at_ xs i)
def slFeat (fr : Bool) (xs : List Feat) : AV := .sl fr 3 xs.length (fFeat xs)
theorem tagcFeat (t : Bool) (x : Feat) : taggedL t (cFeat x) := by simp [cFeat, taggedL, tagged]
theorem tagFeat (t : Bool) (xs : List Feat) : tagged t (slFeat t xs) := by simp only [slFeat, tagged]; exact ⟨trivial, fun i _ => tagcFeat t _⟩
theorem lenFeat (fr : Bool) (xs : List Feat) : lenA noOb (slFeat fr xs) = some xs.length := rfl
abbrev bxFeat (x : Feat) : Ob := .box [I x.X, I x.Y, I x.D]
abbrev agFeat (x : Feat) : AV := .agg [I x.X, I x.Y, I x.D]
def cLFeat (fr : Bool) (x : List Feat) : List AV := [slFeat fr x]
def fLFeat (fr : Bool) (xs : List (List Feat)) (i : Nat) : List AV := cLFeat fr (at_ xs i)
def slLFeat (fr : Bool) (xs : List (List Feat)) : AV := .sl fr 1 xs.length (fLFeat fr xs)
theorem tagcLFeat (t : Bool) (x : List Feat) : taggedL t (cLFeat t x) := by simp [cLFeat, taggedL, tagged, tagFeat]
theorem tagLFeat (t : Bool) (xs : List (List Feat)) : tagged t (slLFeat t xs) := by simp only [slLFeat, tagged]; exact ⟨trivial, fun i _ => tagcLFeat t _⟩
theorem lenLFeat (fr : Bool) (xs : List (List Feat)) : lenA noOb (slLFeat fr xs) = some xs.length := rfl
theorem idsLFeat (fr : Bool) (x : List Feat) : AV.idsL (cLFeat fr x) = [] := rfl
theorem leLFeat (fr : Bool) (x : List Feat) (ob : Nat → Option Ob) : leL ob false (cLFeat fr x) (cLFeat false x) := (And.intro (And.intro (fun h => by cases h) (And.intro rfl (And.intro rfl (fun i _ => .inl rfl)))) rfl)
structure Trained where
  Label : ByteArray
  Base : List Feat
  Feats : List Feat
  Count : Int
deriving DecidableEq, Inhabited
def cTrained (fr : Bool) (x : Trained) : List AV := [Sv x.Label, slFeat fr x.Base, slFeat fr x.Feats, I x.Count]
def fTrained (fr : Bool) (xs : List Trained) (i : Nat) : List AV := cTrained fr (at_ xs i)
def slTrained (fr : Bool) (xs : List Trained) : AV := .sl fr 4 xs.length (fTrained fr xs)
theorem tagcTrained (t : Bool) (x : Trained) : taggedL t (cTrained t x) := by simp [cTrained, taggedL, tagged, tagFeat]
theorem tagTrained (t : Bool) (xs : List Trained) : tagged t (slTrained t xs) := by simp only [slTrained, tagged]; exact ⟨trivial, fun i _ => tagcTrained t _⟩
theorem lenTrained (fr : Bool) (xs : List Trained) : lenA noOb (slTrained fr xs) = some xs.length := rfl
theorem idsTrained (fr : Bool) (x : Trained) : AV.idsL (cTrained fr x) = [] := rfl
theorem leTrained (fr : Bool) (x : Trained) (ob : Nat → Option Ob) : leL ob false (cTrained fr x) (cTrained false x) := (And.intro rfl (And.intro (And.intro (fun h => by cases h) (And.intro rfl (And.intro rfl (fun i _ => .inl rfl)))) (And.intro (And.intro (fun h => by cases h) (And.intro rfl (And.intro rfl (fun i _ => .inl rfl)))) (And.intro rfl rfl))))
abbrev bxTrained (x : Trained) : Ob := .box [Sv x.Label, slFeat false x.Base, slFeat false x.Feats, I x.Count]
abbrev agTrained (x : Trained) : AV := .agg [Sv x.Label, slFeat false x.Base, slFeat false x.Feats, I x.Count]
abbrev bxTrainedT (x : Trained) : Ob := .box [Sv x.Label, slFeat true x.Base, slFeat true x.Feats, I x.Count]
abbrev agTrainedT (x : Trained) : AV := .agg [Sv x.Label, slFeat true x.Base, slFeat true x.Feats, I x.Count]
def cLTrained (fr : Bool) (x : List Trained) : List AV := [slTrained fr x]
def fLTrained (fr : Bool) (xs : List (List Trained)) (i : Nat) : List AV := cLTrained fr (at_ xs i)
def slLTrained (fr : Bool) (xs : List (List Trained)) : AV := .sl fr 1 xs.length (fLTrained fr xs)
theorem tagcLTrained (t : Bool) (x : List Trained) : taggedL t (cLTrained t x) := by simp [cLTrained, taggedL, tagged, tagTrained]
theorem tagLTrained (t : Bool) (xs : List (List Trained)) : tagged t (slLTrained t xs) := by simp only [slLTrained, tagged]; exact ⟨trivial, fun i _ => tagcLTrained t _⟩
theorem lenLTrained (fr : Bool) (xs : List (List Trained)) : lenA noOb (slLTrained fr xs) = some xs.length := rfl
theorem idsLTrained (fr : Bool) (x : List Trained) : AV.idsL (cLTrained fr x) = [] := rfl
theorem leLTrained (fr : Bool) (x : List Trained) (ob : Nat → Option Ob) : leL ob false (cLTrained fr x) (cLTrained false x) := (And.intro (And.intro (fun h => by cases h) (And.intro rfl (And.intro rfl (fun i _ => .inr ⟨idsTrained _ _, leTrained _ _ _⟩)))) rfl)
structure Writer where
  Band : Int
  Trained : List Trained
deriving DecidableEq, Inhabited
def cWriter (fr : Bool) (x : Writer) : List AV := [I x.Band, slTrained fr x.Trained]
def fWriter (fr : Bool) (xs : List Writer) (i : Nat) : List AV := cWriter fr (at_ xs i)
def slWriter (fr : Bool) (xs : List Writer) : AV := .sl fr 2 xs.length (fWriter fr xs)
theorem tagcWriter (t : Bool) (x : Writer) : taggedL t (cWriter t x) := by simp [cWriter, taggedL, tagged, tagTrained]
theorem tagWriter (t : Bool) (xs : List Writer) : tagged t (slWriter t xs) := by simp only [slWriter, tagged]; exact ⟨trivial, fun i _ => tagcWriter t _⟩
theorem lenWriter (fr : Bool) (xs : List Writer) : lenA noOb (slWriter fr xs) = some xs.length := rfl
theorem idsWriter (fr : Bool) (x : Writer) : AV.idsL (cWriter fr x) = [] := rfl
theorem leWriter (fr : Bool) (x : Writer) (ob : Nat → Option Ob) : leL ob false (cWriter fr x) (cWriter false x) := (And.intro rfl (And.intro (And.intro (fun h => by cases h) (And.intro rfl (And.intro rfl (fun i _ => .inr ⟨idsTrained _ _, leTrained _ _ _⟩)))) rfl))
abbrev bxWriter (x : Writer) : Ob := .box [I x.Band, slTrained false x.Trained]
abbrev agWriter (x : Writer) : AV := .agg [I x.Band, slTrained false x.Trained]
abbrev bxWriterT (x : Writer) : Ob := .box [I x.Band, slTrained true x.Trained]
abbrev agWriterT (x : Writer) : AV := .agg [I x.Band, slTrained true x.Trained]
def cLU8 (fr : Bool) (x : List Int) : List AV := [slU8 fr x]
def fLU8 (fr : Bool) (xs : List (List Int)) (i : Nat) : List AV := cLU8 fr (at_ xs i)
def slLU8 (fr : Bool) (xs : List (List Int)) : AV := .sl fr 1 xs.length (fLU8 fr xs)
theorem tagcLU8 (t : Bool) (x : List Int) : taggedL t (cLU8 t x) := by simp [cLU8, taggedL, tagged, tagU8]
theorem tagLU8 (t : Bool) (xs : List (List Int)) : tagged t (slLU8 t xs) := by simp only [slLU8, tagged]; exact ⟨trivial, fun i _ => tagcLU8 t _⟩
theorem lenLU8 (fr : Bool) (xs : List (List Int)) : lenA noOb (slLU8 fr xs) = some xs.length := rfl
theorem idsLU8 (fr : Bool) (x : List Int) : AV.idsL (cLU8 fr x) = [] := rfl
theorem leLU8 (fr : Bool) (x : List Int) (ob : Nat → Option Ob) : leL ob false (cLU8 fr x) (cLU8 false x) := (And.intro (And.intro (fun h => by cases h) (And.intro rfl (And.intro rfl (fun i _ => .inl rfl)))) rfl)
def cU64 (x : Int) : List AV := [.val (.int .u64 x)]
def fU64 (xs : List Int) (i : Nat) : List AV := cU64 (at_ xs i)
def slU64 (fr : Bool) (xs : List Int) : AV := .sl fr 1 xs.length (fU64 xs)
theorem tagcU64 (t : Bool) (x : Int) : taggedL t (cU64 x) := by simp [cU64, taggedL, tagged]
theorem tagU64 (t : Bool) (xs : List Int) : tagged t (slU64 t xs) := by simp only [slU64, tagged]; exact ⟨trivial, fun i _ => tagcU64 t _⟩
theorem lenU64 (fr : Bool) (xs : List Int) : lenA noOb (slU64 fr xs) = some xs.length := rfl
structure l00Src where
  code : List Int
  atx : Int
  seed : Int
deriving DecidableEq, Inhabited
def cl00Src (fr : Bool) (x : l00Src) : List AV := [slU8 fr x.code, I x.atx, .val (.int .u64 x.seed)]
def fl00Src (fr : Bool) (xs : List l00Src) (i : Nat) : List AV := cl00Src fr (at_ xs i)
def sll00Src (fr : Bool) (xs : List l00Src) : AV := .sl fr 3 xs.length (fl00Src fr xs)
theorem tagcl00Src (t : Bool) (x : l00Src) : taggedL t (cl00Src t x) := by simp [cl00Src, taggedL, tagged, tagU8]
theorem tagl00Src (t : Bool) (xs : List l00Src) : tagged t (sll00Src t xs) := by simp only [sll00Src, tagged]; exact ⟨trivial, fun i _ => tagcl00Src t _⟩
theorem lenl00Src (fr : Bool) (xs : List l00Src) : lenA noOb (sll00Src fr xs) = some xs.length := rfl
theorem idsl00Src (fr : Bool) (x : l00Src) : AV.idsL (cl00Src fr x) = [] := rfl
theorem lel00Src (fr : Bool) (x : l00Src) (ob : Nat → Option Ob) : leL ob false (cl00Src fr x) (cl00Src false x) := (And.intro (And.intro (fun h => by cases h) (And.intro rfl (And.intro rfl (fun i _ => .inl rfl)))) (And.intro rfl (And.intro rfl rfl)))
abbrev bxl00Src (x : l00Src) : Ob := .box [slU8 false x.code, I x.atx, .val (.int .u64 x.seed)]
abbrev agl00Src (x : l00Src) : AV := .agg [slU8 false x.code, I x.atx, .val (.int .u64 x.seed)]
abbrev bxl00SrcT (x : l00Src) : Ob := .box [slU8 true x.code, I x.atx, .val (.int .u64 x.seed)]
abbrev agl00SrcT (x : l00Src) : AV := .agg [slU8 true x.code, I x.atx, .val (.int .u64 x.seed)]
structure Template where
  Label : ByteArray
  Feats : List Feat
deriving DecidableEq, Inhabited
def cTemplate (fr : Bool) (x : Template) : List AV := [Sv x.Label, slFeat fr x.Feats]
def fTemplate (fr : Bool) (xs : List Template) (i : Nat) : List AV := cTemplate fr (at_ xs i)
def slTemplate (fr : Bool) (xs : List Template) : AV := .sl fr 2 xs.length (fTemplate fr xs)
theorem tagcTemplate (t : Bool) (x : Template) : taggedL t (cTemplate t x) := by simp [cTemplate, taggedL, tagged, tagFeat]
theorem tagTemplate (t : Bool) (xs : List Template) : tagged t (slTemplate t xs) := by simp only [slTemplate, tagged]; exact ⟨trivial, fun i _ => tagcTemplate t _⟩
theorem lenTemplate (fr : Bool) (xs : List Template) : lenA noOb (slTemplate fr xs) = some xs.length := rfl
theorem idsTemplate (fr : Bool) (x : Template) : AV.idsL (cTemplate fr x) = [] := rfl
theorem leTemplate (fr : Bool) (x : Template) (ob : Nat → Option Ob) : leL ob false (cTemplate fr x) (cTemplate false x) := (And.intro rfl (And.intro (And.intro (fun h => by cases h) (And.intro rfl (And.intro rfl (fun i _ => .inl rfl)))) rfl))
abbrev bxTemplate (x : Template) : Ob := .box [Sv x.Label, slFeat false x.Feats]
abbrev agTemplate (x : Template) : AV := .agg [Sv x.Label, slFeat false x.Feats]
abbrev bxTemplateT (x : Template) : Ob := .box [Sv x.Label, slFeat true x.Feats]
abbrev agTemplateT (x : Template) : AV := .agg [Sv x.Label, slFeat true x.Feats]
structure Pair where
  I : Int
  J : Int
deriving DecidableEq, Inhabited
def cPair (x : Pair) : List AV := [I x.I, I x.J]
def fPair (xs : List Pair) (i : Nat) : List AV := cPair (at_ xs i)
def slPair (fr : Bool) (xs : List Pair) : AV := .sl fr 2 xs.length (fPair xs)
theorem tagcPair (t : Bool) (x : Pair) : taggedL t (cPair x) := by simp [cPair, taggedL, tagged]
theorem tagPair (t : Bool) (xs : List Pair) : tagged t (slPair t xs) := by simp only [slPair, tagged]; exact ⟨trivial, fun i _ => tagcPair t _⟩
theorem lenPair (fr : Bool) (xs : List Pair) : lenA noOb (slPair fr xs) = some xs.length := rfl
abbrev bxPair (x : Pair) : Ob := .box [I x.I, I x.J]
abbrev agPair (x : Pair) : AV := .agg [I x.I, I x.J]
def cLI (fr : Bool) (x : List Int) : List AV := [slI fr x]
def fLI (fr : Bool) (xs : List (List Int)) (i : Nat) : List AV := cLI fr (at_ xs i)
def slLI (fr : Bool) (xs : List (List Int)) : AV := .sl fr 1 xs.length (fLI fr xs)
theorem tagcLI (t : Bool) (x : List Int) : taggedL t (cLI t x) := by simp [cLI, taggedL, tagged, tagI]
theorem tagLI (t : Bool) (xs : List (List Int)) : tagged t (slLI t xs) := by simp only [slLI, tagged]; exact ⟨trivial, fun i _ => tagcLI t _⟩
theorem lenLI (fr : Bool) (xs : List (List Int)) : lenA noOb (slLI fr xs) = some xs.length := rfl
theorem idsLI (fr : Bool) (x : List Int) : AV.idsL (cLI fr x) = [] := rfl
theorem leLI (fr : Bool) (x : List Int) (ob : Nat → Option Ob) : leL ob false (cLI fr x) (cLI false x) := (And.intro (And.intro (fun h => by cases h) (And.intro rfl (And.intro rfl (fun i _ => .inl rfl)))) rfl)
structure Arr2I where
  a0 : Int
  a1 : Int
deriving DecidableEq, Inhabited
def cArr2I (x : Arr2I) : List AV := [I x.a0, I x.a1]
def fArr2I (xs : List Arr2I) (i : Nat) : List AV := cArr2I (at_ xs i)
def slArr2I (fr : Bool) (xs : List Arr2I) : AV := .sl fr 2 xs.length (fArr2I xs)
theorem tagcArr2I (t : Bool) (x : Arr2I) : taggedL t (cArr2I x) := by simp [cArr2I, taggedL, tagged]
theorem tagArr2I (t : Bool) (xs : List Arr2I) : tagged t (slArr2I t xs) := by simp only [slArr2I, tagged]; exact ⟨trivial, fun i _ => tagcArr2I t _⟩
theorem lenArr2I (fr : Bool) (xs : List Arr2I) : lenA noOb (slArr2I fr xs) = some xs.length := rfl
abbrev bxArr2I (x : Arr2I) : Ob := .box [I x.a0, I x.a1]
abbrev agArr2I (x : Arr2I) : AV := .agg [I x.a0, I x.a1]
structure Arr3Arr2I where
  a0 : Arr2I
  a1 : Arr2I
  a2 : Arr2I
deriving DecidableEq, Inhabited
def cArr3Arr2I (x : Arr3Arr2I) : List AV := [I x.a0.a0, I x.a0.a1, I x.a1.a0, I x.a1.a1, I x.a2.a0, I x.a2.a1]
def fArr3Arr2I (xs : List Arr3Arr2I) (i : Nat) : List AV := cArr3Arr2I (at_ xs i)
def slArr3Arr2I (fr : Bool) (xs : List Arr3Arr2I) : AV := .sl fr 6 xs.length (fArr3Arr2I xs)
theorem tagcArr3Arr2I (t : Bool) (x : Arr3Arr2I) : taggedL t (cArr3Arr2I x) := by simp [cArr3Arr2I, taggedL, tagged]
theorem tagArr3Arr2I (t : Bool) (xs : List Arr3Arr2I) : tagged t (slArr3Arr2I t xs) := by simp only [slArr3Arr2I, tagged]; exact ⟨trivial, fun i _ => tagcArr3Arr2I t _⟩
theorem lenArr3Arr2I (fr : Bool) (xs : List Arr3Arr2I) : lenA noOb (slArr3Arr2I fr xs) = some xs.length := rfl
abbrev bxArr3Arr2I (x : Arr3Arr2I) : Ob := .box [I x.a0.a0, I x.a0.a1, I x.a1.a0, I x.a1.a1, I x.a2.a0, I x.a2.a1]
abbrev agArr3Arr2I (x : Arr3Arr2I) : AV := .agg [I x.a0.a0, I x.a0.a1, I x.a1.a0, I x.a1.a1, I x.a2.a0, I x.a2.a1]
def cLTemplate (fr : Bool) (x : List Template) : List AV := [slTemplate fr x]
def fLTemplate (fr : Bool) (xs : List (List Template)) (i : Nat) : List AV := cLTemplate fr (at_ xs i)
def slLTemplate (fr : Bool) (xs : List (List Template)) : AV := .sl fr 1 xs.length (fLTemplate fr xs)
theorem tagcLTemplate (t : Bool) (x : List Template) : taggedL t (cLTemplate t x) := by simp [cLTemplate, taggedL, tagged, tagTemplate]
theorem tagLTemplate (t : Bool) (xs : List (List Template)) : tagged t (slLTemplate t xs) := by simp only [slLTemplate, tagged]; exact ⟨trivial, fun i _ => tagcLTemplate t _⟩
theorem lenLTemplate (fr : Bool) (xs : List (List Template)) : lenA noOb (slLTemplate fr xs) = some xs.length := rfl
theorem idsLTemplate (fr : Bool) (x : List Template) : AV.idsL (cLTemplate fr x) = [] := rfl
theorem leLTemplate (fr : Bool) (x : List Template) (ob : Nat → Option Ob) : leL ob false (cLTemplate fr x) (cLTemplate false x) := (And.intro (And.intro (fun h => by cases h) (And.intro rfl (And.intro rfl (fun i _ => .inr ⟨idsTemplate _ _, leTemplate _ _ _⟩)))) rfl)
structure Store where
  Band : Int
  Templates : List Template
deriving DecidableEq, Inhabited
def cStore (fr : Bool) (x : Store) : List AV := [I x.Band, slTemplate fr x.Templates]
def fStore (fr : Bool) (xs : List Store) (i : Nat) : List AV := cStore fr (at_ xs i)
def slStore (fr : Bool) (xs : List Store) : AV := .sl fr 2 xs.length (fStore fr xs)
theorem tagcStore (t : Bool) (x : Store) : taggedL t (cStore t x) := by simp [cStore, taggedL, tagged, tagTemplate]
theorem tagStore (t : Bool) (xs : List Store) : tagged t (slStore t xs) := by simp only [slStore, tagged]; exact ⟨trivial, fun i _ => tagcStore t _⟩
theorem lenStore (fr : Bool) (xs : List Store) : lenA noOb (slStore fr xs) = some xs.length := rfl
theorem idsStore (fr : Bool) (x : Store) : AV.idsL (cStore fr x) = [] := rfl
theorem leStore (fr : Bool) (x : Store) (ob : Nat → Option Ob) : leL ob false (cStore fr x) (cStore false x) := (And.intro rfl (And.intro (And.intro (fun h => by cases h) (And.intro rfl (And.intro rfl (fun i _ => .inr ⟨idsTemplate _ _, leTemplate _ _ _⟩)))) rfl))
abbrev bxStore (x : Store) : Ob := .box [I x.Band, slTemplate false x.Templates]
abbrev agStore (x : Store) : AV := .agg [I x.Band, slTemplate false x.Templates]
abbrev bxStoreT (x : Store) : Ob := .box [I x.Band, slTemplate true x.Templates]
abbrev agStoreT (x : Store) : AV := .agg [I x.Band, slTemplate true x.Templates]

-- laws.a2Long
theorem a2Long_ok (code : List Int) (more : List Int) : Con Tryz.prog 5 [slU8 false code, slU8 false more] true (Bv (decide (3000 < (code.length : Int) ∨ 3000 < (more.length : Int)))) := by
  refine fn_ok (fn := Tryz.f5) (nt := 13) Tryz.func5 rfl rfl rfl rfl (by simp [taggedL, tagged, tagU8]) fun B hB => ?_
  refine aw_lens (x := slU8 false code) 0 rfl (fun len_code => ?_)
  simp [LenOK, LenL, cU8, fU8, slU8] at len_code
  refine aw_lens (x := slU8 false more) 1 rfl (fun len_more => ?_)
  simp [LenOK, LenL, cU8, fU8, slU8] at len_more
  refine aR [] [0, 1] [] [slU8 false code, slU8 false more] [] [] hB trivial ?_
  refine aw_seq ?_
  by_cases h1 : 3000 < (code.length : Int)
  ·refine aw_r [(2, .dec true)] [4] [] [Bv true] [] [3000 < (code.length : Int)] hB ⟨h1, trivial⟩ ?_
   refine ae_then ?_
   refine aw_ret ?_
   refine ae_ret hB (Bv true) (by kernel_rfl) (.inl (by refine congrArg Bv ?_; simp [*])) rfl (fun _ => trivial)
  refine aw_r [(2, .dec false)] [4] [] [Bv (decide (3000 < (more.length : Int)))] [] [¬ (3000 < (code.length : Int))] hB ⟨h1, trivial⟩ ?_
  refine ae_then ?_
  refine aw_ret ?_
  refine ae_ret hB (Bv (decide (3000 < (more.length : Int)))) (by kernel_rfl) (.inl (by refine congrArg Bv ?_; simp [*])) rfl (fun _ => trivial)


theorem set_at {α : Type} [Inhabited α] {ys xs : List α} {i : Int} (hl : ys.length = xs.length) (hi : i.toNat < xs.length) (h : ∀ j : Nat, (j : Int) < i → at_ ys j = at_ xs j) (j : Nat) (hj : j ≤ i.toNat) : at_ (ys.set i.toNat (at_ xs i.toNat)) j = at_ xs j := by
  by_cases e : i.toNat = j
  · subst e; simp [at_, hl, hi]
  · have := h j (by omega)
    simp only [at_] at this ⊢
    rw [← this]
    simp [e]
/-- Whether two things are the same. -/
def same {α : Type} [DecidableEq α] (x y : α) : Bool := decide (x = y)
theorem same_iff {α : Type} [DecidableEq α] {x y : α} : same x y = true ↔ x = y := by simp [same]
theorem ext_at {α : Type} [Inhabited α] {xs ys : List α} (hl : xs.length = ys.length) (h : ∀ j : Nat, j < xs.length → at_ xs j = at_ ys j) : xs = ys := by
  apply List.ext_getElem hl
  intro i h1 h2
  rw [← at_eq h1, ← at_eq h2]
  exact h i h1

theorem at_mem {α : Type} [Inhabited α] {xs : List α} {i : Nat} (h : i < xs.length) : at_ xs i ∈ xs := by rw [at_eq h]; exact List.getElem_mem h

/-- Whether p holds of all numbers below n. -/
def allN (n : Nat) (p : Nat → Bool) : Bool := (List.range n).all p
def anyN (n : Nat) (p : Nat → Bool) : Bool := !(allN n fun j => !(p j))
theorem allN_iff {n : Nat} {p : Nat → Bool} : allN n p = true ↔ ∀ j, j < n → p j = true := by simp [allN, List.all_eq_true]
theorem allN_at {n : Nat} {p : Nat → Bool} (h : ∀ j, j < n → p j = true) : allN n p = true := allN_iff.2 h
theorem allN_get {n : Nat} {p : Nat → Bool} (h : allN n p = true) {k : Nat} (hk : k < n) : p k = true := allN_iff.1 h k hk
theorem allN_not {n : Nat} {p : Nat → Bool} {k : Nat} (hk : k < n) (h : p k = false) : allN n p = false := by
  rw [← Bool.not_eq_true, allN_iff]; intro h'; rw [h' k hk] at h; cases h
theorem anyN_not (n : Nat) (p : Nat → Bool) : anyN n (fun j => !(p j)) = !(allN n p) := by simp [anyN]
theorem anyN_at {n : Nat} {p : Nat → Bool} {k : Nat} (hk : k < n) (h : p k = true) : anyN n p = true := by
  unfold anyN; rw [allN_not hk (by simp [h])]; rfl
theorem anyN_none {n : Nat} {p : Nat → Bool} (h : ∀ j, j < n → p j = false) : anyN n p = false := by
  unfold anyN; rw [allN_at (fun j hj => by simp [h j hj])]; rfl
theorem anyN_iff {n : Nat} {p : Nat → Bool} : anyN n p = true ↔ ∃ j, j < n ∧ p j = true := by
  constructor
  · intro h
    apply Classical.byContradiction
    intro hn
    rw [anyN_none (fun j hj => by rw [← Bool.not_eq_true]; exact fun hp => hn ⟨j, hj, hp⟩)] at h
    cases h
  · rintro ⟨j, hj, hp⟩; exact anyN_at hj hp
theorem up_to {n : Int} {p : Nat → Prop} {i : Int} (hi : 0 ≤ i) (h : ∀ j : Nat, (j : Int) < i → p j) (hp : p i.toNat) : ∀ j : Nat, (j : Int) < i + 1 → p j := fun j hj => by
  by_cases e : j = i.toNat
  · subst e; exact hp
  · exact h j (by omega)

/-- The source of choices is in order: its bytes are bytes, and its place is a number. -/
def okSrc (s : l00Src) : Prop := (∀ j, j < s.code.length → 0 ≤ at_ s.code j ∧ at_ s.code j ≤ 255) ∧ 0 ≤ s.atx ∧ s.code.length ≤ 4611686018427387904
theorem u64_wrap (n : Int) : 0 ≤ IntKind.u64.wrap n ∧ IntKind.u64.wrap n ≤ 18446744073709551615 := by
  simp only [IntKind.wrap, IntKind.signed, IntKind.bits]
  simp
  omega
theorem and_255 (a : Int) : 0 ≤ bitsI .and .u64 a 255 ∧ bitsI .and .u64 a 255 ≤ 255 := by
  obtain ⟨n, hn⟩ : ∃ n : Nat, n = (BitVec.ofInt 64 a &&& BitVec.ofInt 64 255).toNat := ⟨_, rfl⟩
  have h : n ≤ 255 := by rw [hn, BitVec.toNat_and]; exact Nat.and_le_right
  have e : bitsI .and .u64 a 255 = IntKind.u64.wrap (n : Int) := by rw [hn]; rfl
  have w : IntKind.u64.wrap (n : Int) = n := wrap_in (inR_u64 (by omega) (by omega))
  rw [e, w]; omega

-- spec.l00From
theorem l00From_ok (code : List Int) : ∃ (s' : l00Src), (s'.code = code ∧ s'.atx = 0) ∧ CallOK Tryz.prog 26 [slU8 false code] (lookO []) false (.ref 7001 0) (lookO [(7001, bxl00Src s')]) := by
  have hh : ∃ r : l00Src, ((r.code = code ∧ r.atx = 0) ∧ (True)) ∧ CallOK Tryz.prog 26 [slU8 false code] (lookO []) false (.ref 7001 0) (lookO [(7001, bxl00Src r)]) := by
    refine fn_okX (Φ := fun r : l00Src => (r.code = code ∧ r.atx = 0) ∧ (True)) [] (fun r => [(7001, bxl00Src r)]) (fn := Tryz.f26) (nt := 6) Tryz.func26 rfl rfl (args := [slU8 false code]) rfl (allcons (.inl ⟨rfl, tagU8 false _⟩) allnil) (res := fun r => .ref 7001 0) ?_
    refine xR [] [0] [] [slU8 false code] [] [] trivial ?_
    refine xR [(2, .new 7001)] [2] [7001] [.ref 7001 0] [some (.box [slU8 false code, I 0, .val (.int .u64 0)])] [] trivial ?_
    refine x_ret ?_
    refine xe_end (l00Src.mk code 0 0) (show ((l00Src.mk code 0 0).code = code ∧ (l00Src.mk code 0 0).atx = 0) ∧ (True) from ⟨(by first | rfl | (exact ⟨rfl, rfl⟩)), trivial⟩) (⟨.inl rfl, trivial⟩) (.ref 7001 0) (by kernel_rfl) (.inl rfl) (fun h => by cases h) (fun h => by cases h)
  obtain ⟨s', ⟨hh0, _⟩, hc⟩ := hh
  exact ⟨s', hh0, hc⟩


-- spec.l00Src).next
theorem next_ok (s : l00Src) (hs : okSrc s) (ha : s.atx ≤ 4000000000000000000) : ∃ (v : Int) (s' : l00Src), (0 ≤ v ∧ v ≤ 255) ∧ (okSrc s') ∧ (s'.code = s.code) ∧ (s.atx + 1 ≤ s'.atx ∧ s'.atx ≤ s.atx + 1) ∧ CallOK Tryz.prog 59 [.ref 7001 0] (lookO [(7001, bxl00Src s)]) true (I v) (lookO [(7001, bxl00Src s')]) := by
  have hs0 := hs.2.1
  have hs1 := hs.2.2
  have hh : ∃ r : Int × l00Src, ((0 ≤ r.1 ∧ r.1 ≤ 255) ∧ (okSrc r.2) ∧ (r.2.code = s.code) ∧ (s.atx + 1 ≤ r.2.atx ∧ r.2.atx ≤ s.atx + 1) ∧ (True)) ∧ CallOK Tryz.prog 59 [.ref 7001 0] (lookO [(7001, bxl00Src s)]) true (I r.1) (lookO [(7001, bxl00Src r.2)]) := by
    refine fn_okX (Φ := fun r : Int × l00Src => (0 ≤ r.1 ∧ r.1 ≤ 255) ∧ (okSrc r.2) ∧ (r.2.code = s.code) ∧ (s.atx + 1 ≤ r.2.atx ∧ r.2.atx ≤ s.atx + 1) ∧ (True)) [(7001, bxl00Src s)] (fun r => [(7001, bxl00Src r.2)]) (fn := Tryz.f59) (nt := 62) Tryz.func59 rfl rfl (args := [.ref 7001 0]) rfl (allcons (.inr trivial) allnil) (res := fun r => I r.1) ?_
    refine xR [] [0] [7001] [.ref 7001 0] [some (bxl00Src s)] [] trivial ?_
    refine xR [] [0, 3] [7001] [.ref 7001 0, I 0] [some (bxl00Src s)] [] trivial ?_
    refine x_seq ?_
    refine x_seq ?_
    by_cases h1 : s.atx < (s.code.length : Int)
    ·have hbt := hs.1 s.atx.toNat (by omega)
     refine x_r [(9, .dec true)] [0, 3, 13] [7001] [.ref 7001 0, I 0, Bv true] [some (bxl00Src s)] [s.atx < (s.code.length : Int)] ⟨h1, trivial⟩ ?_
     refine xe_then ?_
     refine x_true rfl ?_
     refine x_r [] [0, 3] [7001] [.ref 7001 0, I (at_ s.code s.atx.toNat)] [some (bxl00Src s)] [(0 : Int) ≤ s.atx ∧ s.atx < (s.code.length : Int), inR .i64 (at_ s.code s.atx.toNat)] ⟨⟨(by omega), (by omega)⟩, (inR_i64 (by omega) (by omega)), trivial⟩ ?_
     refine xe_then ?_
     refine xR [] [0, 3] [7001] [.ref 7001 0, I (at_ s.code s.atx.toNat)] [some (.box [slU8 false s.code, I (s.atx + 1), .val (.int .u64 s.seed)])] [inR .i64 (s.atx + 1)] ⟨(inR_i64 (by omega) (by omega)), trivial⟩ ?_
     refine xR [(5, .wrap), (8, .wrap), (9, .wrap)] [0, 3] [7001] [.ref 7001 0, I (at_ s.code s.atx.toNat)] [some (.box [slU8 false s.code, I (s.atx + 1), .val (.int .u64 (IntKind.u64.wrap ((IntKind.u64.wrap ((IntKind.u64.wrap (s.seed * 6364136223846793005)) + (at_ s.code s.atx.toNat))) + 1442695040888963407)))])] [inR .u64 (at_ s.code s.atx.toNat)] ⟨(inR_u64 (by omega) (by omega)), trivial⟩ ?_
     refine x_seq ?_
     refine x_seq ?_
     by_cases h2 : (s.atx + 1) ≤ (s.code.length : Int)
     ·refine x_r [(9, .dec true)] [0, 3, 53] [7001] [.ref 7001 0, I (at_ s.code s.atx.toNat), Bv true] [some (.box [slU8 false s.code, I (s.atx + 1), .val (.int .u64 (IntKind.u64.wrap ((IntKind.u64.wrap ((IntKind.u64.wrap (s.seed * 6364136223846793005)) + (at_ s.code s.atx.toNat))) + 1442695040888963407)))])] [(s.atx + 1) ≤ (s.code.length : Int)] ⟨h2, trivial⟩ ?_
      refine xe_then ?_
      refine x_true rfl ?_
      refine xR [] [2] [7001] [I (at_ s.code s.atx.toNat)] [some (.box [slU8 false s.code, I (s.atx + 1), .val (.int .u64 (IntKind.u64.wrap ((IntKind.u64.wrap ((IntKind.u64.wrap (s.seed * 6364136223846793005)) + (at_ s.code s.atx.toNat))) + 1442695040888963407)))])] [] trivial ?_
      refine x_ret ?_
      refine xe_ret_then ?_
      refine xe_end ((at_ s.code s.atx.toNat), (l00Src.mk s.code (s.atx + 1) (IntKind.u64.wrap ((IntKind.u64.wrap ((IntKind.u64.wrap (s.seed * 6364136223846793005)) + (at_ s.code s.atx.toNat))) + 1442695040888963407)))) (show (0 ≤ (at_ s.code s.atx.toNat) ∧ (at_ s.code s.atx.toNat) ≤ 255) ∧ (okSrc (l00Src.mk s.code (s.atx + 1) (IntKind.u64.wrap ((IntKind.u64.wrap ((IntKind.u64.wrap (s.seed * 6364136223846793005)) + (at_ s.code s.atx.toNat))) + 1442695040888963407)))) ∧ ((l00Src.mk s.code (s.atx + 1) (IntKind.u64.wrap ((IntKind.u64.wrap ((IntKind.u64.wrap (s.seed * 6364136223846793005)) + (at_ s.code s.atx.toNat))) + 1442695040888963407))).code = s.code) ∧ (s.atx + 1 ≤ (l00Src.mk s.code (s.atx + 1) (IntKind.u64.wrap ((IntKind.u64.wrap ((IntKind.u64.wrap (s.seed * 6364136223846793005)) + (at_ s.code s.atx.toNat))) + 1442695040888963407))).atx ∧ (l00Src.mk s.code (s.atx + 1) (IntKind.u64.wrap ((IntKind.u64.wrap ((IntKind.u64.wrap (s.seed * 6364136223846793005)) + (at_ s.code s.atx.toNat))) + 1442695040888963407))).atx ≤ s.atx + 1) ∧ (True) from ⟨(by first | omega | rfl | assumption | (dsimp only; first | omega | rfl | assumption) | (simp only [*]; done) | exact ⟨hs.1, (by dsimp only; omega), hs1⟩), (by first | omega | rfl | assumption | (dsimp only; first | omega | rfl | assumption) | (simp only [*]; done) | exact ⟨hs.1, (by dsimp only; omega), hs1⟩), (by first | omega | rfl | assumption | (dsimp only; first | omega | rfl | assumption) | (simp only [*]; done) | exact ⟨hs.1, (by dsimp only; omega), hs1⟩), (by first | omega | rfl | assumption | (dsimp only; first | omega | rfl | assumption) | (simp only [*]; done) | exact ⟨hs.1, (by dsimp only; omega), hs1⟩), trivial⟩) (⟨.inl rfl, trivial⟩) (I (at_ s.code s.atx.toNat)) (by kernel_rfl) (.inl rfl) (fun _ => rfl) (fun _ => trivial)
     refine x_r [(9, .dec false)] [0, 3, 53] [7001] [.ref 7001 0, I (at_ s.code s.atx.toNat), Bv false] [some (.box [slU8 false s.code, I (s.atx + 1), .val (.int .u64 (IntKind.u64.wrap ((IntKind.u64.wrap ((IntKind.u64.wrap (s.seed * 6364136223846793005)) + (at_ s.code s.atx.toNat))) + 1442695040888963407)))])] [¬ ((s.atx + 1) ≤ (s.code.length : Int))] ⟨h2, trivial⟩ ?_
     refine xe_then ?_
     refine x_false rfl ?_
     refine x_skip ?_
     refine xe_then ?_
     refine x_seq ?_
     have hb1 := and_255 ((IntKind.u64.wrap ((IntKind.u64.wrap ((IntKind.u64.wrap (s.seed * 6364136223846793005)) + (at_ s.code s.atx.toNat))) + 1442695040888963407)) / 1099511627776)
     refine x_r [] [2] [7001] [I (bitsI .and .u64 ((IntKind.u64.wrap ((IntKind.u64.wrap ((IntKind.u64.wrap (s.seed * 6364136223846793005)) + (at_ s.code s.atx.toNat))) + 1442695040888963407)) / 1099511627776) 255)] [some (.box [slU8 false s.code, I (s.atx + 1), .val (.int .u64 (IntKind.u64.wrap ((IntKind.u64.wrap ((IntKind.u64.wrap (s.seed * 6364136223846793005)) + (at_ s.code s.atx.toNat))) + 1442695040888963407)))])] [(0 : Int) ≤ 40 ∧ (40 : Int) ≤ ((IntKind.bits .u64 : Nat) : Int), inR .i64 (bitsI .and .u64 ((IntKind.u64.wrap ((IntKind.u64.wrap ((IntKind.u64.wrap (s.seed * 6364136223846793005)) + (at_ s.code s.atx.toNat))) + 1442695040888963407)) / 1099511627776) 255)] ⟨⟨(by decide), (by decide)⟩, (inR_i64 (by omega) (by omega)), trivial⟩ ?_
     refine xe_then ?_
     refine x_ret ?_
     refine xe_end ((bitsI .and .u64 ((IntKind.u64.wrap ((IntKind.u64.wrap ((IntKind.u64.wrap (s.seed * 6364136223846793005)) + (at_ s.code s.atx.toNat))) + 1442695040888963407)) / 1099511627776) 255), (l00Src.mk s.code (s.atx + 1) (IntKind.u64.wrap ((IntKind.u64.wrap ((IntKind.u64.wrap (s.seed * 6364136223846793005)) + (at_ s.code s.atx.toNat))) + 1442695040888963407)))) (show (0 ≤ (bitsI .and .u64 ((IntKind.u64.wrap ((IntKind.u64.wrap ((IntKind.u64.wrap (s.seed * 6364136223846793005)) + (at_ s.code s.atx.toNat))) + 1442695040888963407)) / 1099511627776) 255) ∧ (bitsI .and .u64 ((IntKind.u64.wrap ((IntKind.u64.wrap ((IntKind.u64.wrap (s.seed * 6364136223846793005)) + (at_ s.code s.atx.toNat))) + 1442695040888963407)) / 1099511627776) 255) ≤ 255) ∧ (okSrc (l00Src.mk s.code (s.atx + 1) (IntKind.u64.wrap ((IntKind.u64.wrap ((IntKind.u64.wrap (s.seed * 6364136223846793005)) + (at_ s.code s.atx.toNat))) + 1442695040888963407)))) ∧ ((l00Src.mk s.code (s.atx + 1) (IntKind.u64.wrap ((IntKind.u64.wrap ((IntKind.u64.wrap (s.seed * 6364136223846793005)) + (at_ s.code s.atx.toNat))) + 1442695040888963407))).code = s.code) ∧ (s.atx + 1 ≤ (l00Src.mk s.code (s.atx + 1) (IntKind.u64.wrap ((IntKind.u64.wrap ((IntKind.u64.wrap (s.seed * 6364136223846793005)) + (at_ s.code s.atx.toNat))) + 1442695040888963407))).atx ∧ (l00Src.mk s.code (s.atx + 1) (IntKind.u64.wrap ((IntKind.u64.wrap ((IntKind.u64.wrap (s.seed * 6364136223846793005)) + (at_ s.code s.atx.toNat))) + 1442695040888963407))).atx ≤ s.atx + 1) ∧ (True) from ⟨(by first | omega | rfl | assumption | (dsimp only; first | omega | rfl | assumption) | (simp only [*]; done) | exact ⟨hs.1, (by dsimp only; omega), hs1⟩), (by first | omega | rfl | assumption | (dsimp only; first | omega | rfl | assumption) | (simp only [*]; done) | exact ⟨hs.1, (by dsimp only; omega), hs1⟩), (by first | omega | rfl | assumption | (dsimp only; first | omega | rfl | assumption) | (simp only [*]; done) | exact ⟨hs.1, (by dsimp only; omega), hs1⟩), (by first | omega | rfl | assumption | (dsimp only; first | omega | rfl | assumption) | (simp only [*]; done) | exact ⟨hs.1, (by dsimp only; omega), hs1⟩), trivial⟩) (⟨.inl rfl, trivial⟩) (I (bitsI .and .u64 ((IntKind.u64.wrap ((IntKind.u64.wrap ((IntKind.u64.wrap (s.seed * 6364136223846793005)) + (at_ s.code s.atx.toNat))) + 1442695040888963407)) / 1099511627776) 255)) (by kernel_rfl) (.inl rfl) (fun _ => rfl) (fun _ => trivial)
    refine x_r [(9, .dec false)] [0, 3, 13] [7001] [.ref 7001 0, I 0, Bv false] [some (bxl00Src s)] [¬ (s.atx < (s.code.length : Int))] ⟨h1, trivial⟩ ?_
    refine xe_then ?_
    refine x_false rfl ?_
    refine x_skip ?_
    refine xe_then ?_
    refine xR [] [0, 3] [7001] [.ref 7001 0, I 0] [some (.box [slU8 false s.code, I (s.atx + 1), .val (.int .u64 s.seed)])] [inR .i64 (s.atx + 1)] ⟨(inR_i64 (by omega) (by omega)), trivial⟩ ?_
    refine xR [(5, .wrap), (8, .wrap), (9, .wrap)] [0, 3] [7001] [.ref 7001 0, I 0] [some (.box [slU8 false s.code, I (s.atx + 1), .val (.int .u64 (IntKind.u64.wrap ((IntKind.u64.wrap ((IntKind.u64.wrap (s.seed * 6364136223846793005)) + 0)) + 1442695040888963407)))])] [inR .u64 0] ⟨(inR_u64 (by omega) (by omega)), trivial⟩ ?_
    refine x_seq ?_
    refine x_seq ?_
    by_cases h3 : (s.atx + 1) ≤ (s.code.length : Int)
    ·refine x_r [(9, .dec true)] [0, 3, 53] [7001] [.ref 7001 0, I 0, Bv true] [some (.box [slU8 false s.code, I (s.atx + 1), .val (.int .u64 (IntKind.u64.wrap ((IntKind.u64.wrap ((IntKind.u64.wrap (s.seed * 6364136223846793005)) + 0)) + 1442695040888963407)))])] [(s.atx + 1) ≤ (s.code.length : Int)] ⟨h3, trivial⟩ ?_
     refine xe_then ?_
     refine x_true rfl ?_
     refine xR [] [2] [7001] [I 0] [some (.box [slU8 false s.code, I (s.atx + 1), .val (.int .u64 (IntKind.u64.wrap ((IntKind.u64.wrap ((IntKind.u64.wrap (s.seed * 6364136223846793005)) + 0)) + 1442695040888963407)))])] [] trivial ?_
     refine x_ret ?_
     refine xe_ret_then ?_
     refine xe_end (0, (l00Src.mk s.code (s.atx + 1) (IntKind.u64.wrap ((IntKind.u64.wrap ((IntKind.u64.wrap (s.seed * 6364136223846793005)) + 0)) + 1442695040888963407)))) (show (0 ≤ 0 ∧ 0 ≤ 255) ∧ (okSrc (l00Src.mk s.code (s.atx + 1) (IntKind.u64.wrap ((IntKind.u64.wrap ((IntKind.u64.wrap (s.seed * 6364136223846793005)) + 0)) + 1442695040888963407)))) ∧ ((l00Src.mk s.code (s.atx + 1) (IntKind.u64.wrap ((IntKind.u64.wrap ((IntKind.u64.wrap (s.seed * 6364136223846793005)) + 0)) + 1442695040888963407))).code = s.code) ∧ (s.atx + 1 ≤ (l00Src.mk s.code (s.atx + 1) (IntKind.u64.wrap ((IntKind.u64.wrap ((IntKind.u64.wrap (s.seed * 6364136223846793005)) + 0)) + 1442695040888963407))).atx ∧ (l00Src.mk s.code (s.atx + 1) (IntKind.u64.wrap ((IntKind.u64.wrap ((IntKind.u64.wrap (s.seed * 6364136223846793005)) + 0)) + 1442695040888963407))).atx ≤ s.atx + 1) ∧ (True) from ⟨(by first | omega | rfl | assumption | (dsimp only; first | omega | rfl | assumption) | (simp only [*]; done) | exact ⟨hs.1, (by dsimp only; omega), hs1⟩), (by first | omega | rfl | assumption | (dsimp only; first | omega | rfl | assumption) | (simp only [*]; done) | exact ⟨hs.1, (by dsimp only; omega), hs1⟩), (by first | omega | rfl | assumption | (dsimp only; first | omega | rfl | assumption) | (simp only [*]; done) | exact ⟨hs.1, (by dsimp only; omega), hs1⟩), (by first | omega | rfl | assumption | (dsimp only; first | omega | rfl | assumption) | (simp only [*]; done) | exact ⟨hs.1, (by dsimp only; omega), hs1⟩), trivial⟩) (⟨.inl rfl, trivial⟩) (I 0) (by kernel_rfl) (.inl rfl) (fun _ => rfl) (fun _ => trivial)
    refine x_r [(9, .dec false)] [0, 3, 53] [7001] [.ref 7001 0, I 0, Bv false] [some (.box [slU8 false s.code, I (s.atx + 1), .val (.int .u64 (IntKind.u64.wrap ((IntKind.u64.wrap ((IntKind.u64.wrap (s.seed * 6364136223846793005)) + 0)) + 1442695040888963407)))])] [¬ ((s.atx + 1) ≤ (s.code.length : Int))] ⟨h3, trivial⟩ ?_
    refine xe_then ?_
    refine x_false rfl ?_
    refine x_skip ?_
    refine xe_then ?_
    refine x_seq ?_
    have hb2 := and_255 ((IntKind.u64.wrap ((IntKind.u64.wrap ((IntKind.u64.wrap (s.seed * 6364136223846793005)) + 0)) + 1442695040888963407)) / 1099511627776)
    refine x_r [] [2] [7001] [I (bitsI .and .u64 ((IntKind.u64.wrap ((IntKind.u64.wrap ((IntKind.u64.wrap (s.seed * 6364136223846793005)) + 0)) + 1442695040888963407)) / 1099511627776) 255)] [some (.box [slU8 false s.code, I (s.atx + 1), .val (.int .u64 (IntKind.u64.wrap ((IntKind.u64.wrap ((IntKind.u64.wrap (s.seed * 6364136223846793005)) + 0)) + 1442695040888963407)))])] [(0 : Int) ≤ 40 ∧ (40 : Int) ≤ ((IntKind.bits .u64 : Nat) : Int), inR .i64 (bitsI .and .u64 ((IntKind.u64.wrap ((IntKind.u64.wrap ((IntKind.u64.wrap (s.seed * 6364136223846793005)) + 0)) + 1442695040888963407)) / 1099511627776) 255)] ⟨⟨(by decide), (by decide)⟩, (inR_i64 (by omega) (by omega)), trivial⟩ ?_
    refine xe_then ?_
    refine x_ret ?_
    refine xe_end ((bitsI .and .u64 ((IntKind.u64.wrap ((IntKind.u64.wrap ((IntKind.u64.wrap (s.seed * 6364136223846793005)) + 0)) + 1442695040888963407)) / 1099511627776) 255), (l00Src.mk s.code (s.atx + 1) (IntKind.u64.wrap ((IntKind.u64.wrap ((IntKind.u64.wrap (s.seed * 6364136223846793005)) + 0)) + 1442695040888963407)))) (show (0 ≤ (bitsI .and .u64 ((IntKind.u64.wrap ((IntKind.u64.wrap ((IntKind.u64.wrap (s.seed * 6364136223846793005)) + 0)) + 1442695040888963407)) / 1099511627776) 255) ∧ (bitsI .and .u64 ((IntKind.u64.wrap ((IntKind.u64.wrap ((IntKind.u64.wrap (s.seed * 6364136223846793005)) + 0)) + 1442695040888963407)) / 1099511627776) 255) ≤ 255) ∧ (okSrc (l00Src.mk s.code (s.atx + 1) (IntKind.u64.wrap ((IntKind.u64.wrap ((IntKind.u64.wrap (s.seed * 6364136223846793005)) + 0)) + 1442695040888963407)))) ∧ ((l00Src.mk s.code (s.atx + 1) (IntKind.u64.wrap ((IntKind.u64.wrap ((IntKind.u64.wrap (s.seed * 6364136223846793005)) + 0)) + 1442695040888963407))).code = s.code) ∧ (s.atx + 1 ≤ (l00Src.mk s.code (s.atx + 1) (IntKind.u64.wrap ((IntKind.u64.wrap ((IntKind.u64.wrap (s.seed * 6364136223846793005)) + 0)) + 1442695040888963407))).atx ∧ (l00Src.mk s.code (s.atx + 1) (IntKind.u64.wrap ((IntKind.u64.wrap ((IntKind.u64.wrap (s.seed * 6364136223846793005)) + 0)) + 1442695040888963407))).atx ≤ s.atx + 1) ∧ (True) from ⟨(by first | omega | rfl | assumption | (dsimp only; first | omega | rfl | assumption) | (simp only [*]; done) | exact ⟨hs.1, (by dsimp only; omega), hs1⟩), (by first | omega | rfl | assumption | (dsimp only; first | omega | rfl | assumption) | (simp only [*]; done) | exact ⟨hs.1, (by dsimp only; omega), hs1⟩), (by first | omega | rfl | assumption | (dsimp only; first | omega | rfl | assumption) | (simp only [*]; done) | exact ⟨hs.1, (by dsimp only; omega), hs1⟩), (by first | omega | rfl | assumption | (dsimp only; first | omega | rfl | assumption) | (simp only [*]; done) | exact ⟨hs.1, (by dsimp only; omega), hs1⟩), trivial⟩) (⟨.inl rfl, trivial⟩) (I (bitsI .and .u64 ((IntKind.u64.wrap ((IntKind.u64.wrap ((IntKind.u64.wrap (s.seed * 6364136223846793005)) + 0)) + 1442695040888963407)) / 1099511627776) 255)) (by kernel_rfl) (.inl rfl) (fun _ => rfl) (fun _ => trivial)
  obtain ⟨⟨v, s'⟩, ⟨hh0, hh1, hh2, hh3, _⟩, hc⟩ := hh
  exact ⟨v, s', hh0, hh1, hh2, hh3, hc⟩


-- spec.l00Src).pick
theorem pick_ok (s : l00Src) (n : Int) (hs : okSrc s) (ha : s.atx ≤ 3999999999999999990) : ∃ (v : Int) (s' : l00Src), (0 ≤ v ∧ (v < n ∨ v = 0)) ∧ (okSrc s') ∧ (s'.code = s.code) ∧ (s.atx + 0 ≤ s'.atx ∧ s'.atx ≤ s.atx + 2) ∧ CallOK Tryz.prog 27 [.ref 7001 0, I n] (lookO [(7001, bxl00Src s)]) true (I v) (lookO [(7001, bxl00Src s')]) := by
  have hs0 := hs.2.1
  have hs1 := hs.2.2
  have hh : ∃ r : Int × l00Src, ((0 ≤ r.1 ∧ (r.1 < n ∨ r.1 = 0)) ∧ (okSrc r.2) ∧ (r.2.code = s.code) ∧ (s.atx + 0 ≤ r.2.atx ∧ r.2.atx ≤ s.atx + 2) ∧ (True)) ∧ CallOK Tryz.prog 27 [.ref 7001 0, I n] (lookO [(7001, bxl00Src s)]) true (I r.1) (lookO [(7001, bxl00Src r.2)]) := by
    refine fn_okX (Φ := fun r : Int × l00Src => (0 ≤ r.1 ∧ (r.1 < n ∨ r.1 = 0)) ∧ (okSrc r.2) ∧ (r.2.code = s.code) ∧ (s.atx + 0 ≤ r.2.atx ∧ r.2.atx ≤ s.atx + 2) ∧ (True)) [(7001, bxl00Src s)] (fun r => [(7001, bxl00Src r.2)]) (fn := Tryz.f27) (nt := 20) Tryz.func27 rfl rfl (args := [.ref 7001 0, I n]) rfl (allcons (.inr trivial) (allcons (.inl ⟨rfl, trivial⟩) allnil)) (res := fun r => I r.1) ?_
    refine xR [] [0, 1] [7001] [.ref 7001 0, I n] [some (bxl00Src s)] [] trivial ?_
    refine x_seq ?_
    refine x_seq ?_
    by_cases h1 : n ≤ 1
    ·refine x_r [(1, .dec true)] [0, 1, 7] [7001] [.ref 7001 0, I n, Bv true] [some (bxl00Src s)] [n ≤ 1] ⟨h1, trivial⟩ ?_
     refine xe_then ?_
     refine x_true rfl ?_
     refine xR [] [4] [7001] [I 0] [some (bxl00Src s)] [] trivial ?_
     refine x_ret ?_
     refine xe_ret_then ?_
     refine xe_end (0, s) (show (0 ≤ 0 ∧ (0 < n ∨ 0 = 0)) ∧ (okSrc s) ∧ (s.code = s.code) ∧ (s.atx + 0 ≤ s.atx ∧ s.atx ≤ s.atx + 2) ∧ (True) from ⟨(by first | omega | rfl | assumption | (dsimp only; first | omega | rfl | assumption) | (simp only [*]; done) | exact ⟨Int.emod_nonneg _ (by omega), .inl (Int.emod_lt_of_pos _ (by omega))⟩), (by first | omega | rfl | assumption | (dsimp only; first | omega | rfl | assumption) | (simp only [*]; done) | exact ⟨Int.emod_nonneg _ (by omega), .inl (Int.emod_lt_of_pos _ (by omega))⟩), (by first | omega | rfl | assumption | (dsimp only; first | omega | rfl | assumption) | (simp only [*]; done) | exact ⟨Int.emod_nonneg _ (by omega), .inl (Int.emod_lt_of_pos _ (by omega))⟩), (by first | omega | rfl | assumption | (dsimp only; first | omega | rfl | assumption) | (simp only [*]; done) | exact ⟨Int.emod_nonneg _ (by omega), .inl (Int.emod_lt_of_pos _ (by omega))⟩), trivial⟩) (⟨.inl rfl, trivial⟩) (I 0) (by kernel_rfl) (.inl rfl) (fun _ => rfl) (fun _ => trivial)
    refine x_r [(1, .dec false)] [0, 1, 7] [7001] [.ref 7001 0, I n, Bv false] [some (bxl00Src s)] [¬ (n ≤ 1)] ⟨h1, trivial⟩ ?_
    refine xe_then ?_
    refine x_false rfl ?_
    refine x_skip ?_
    refine xe_then ?_
    refine x_seq ?_
    obtain ⟨v_1, s'_1, hx1_0, hx1_1, hx1_2, hx1_3, hc1⟩ := next_ok s (by first | assumption | (simp only [okSrc] at *; simp_all; done)) (by omega)
    refine x_r [(1, .lend [(7001, bxl00Src s, bxl00Src s'_1)] [] [(true, .any)] true (I v_1))] [0, 1, 5] [7001] [.ref 7001 0, I n, I v_1] [some (bxl00Src s'_1)] [CallOK Tryz.prog 59 [.ref 7001 0] (lookO [(7001, bxl00Src s)]) true (I v_1) (lookO [(7001, bxl00Src s'_1)]) ∧ (((bxl00Src s : Ob) = bxl00Src s ∨ obLe noOb true (bxl00Src s) (bxl00Src s)) ∧ taggedO false (bxl00Src s)) ∧ True] ⟨⟨hc1, ⟨.inl rfl, (by simp [taggedO, taggedL, tagged, tagU8])⟩, trivial⟩, trivial⟩ ?_
    refine xe_then ?_
    refine x_seq ?_
    refine x_seq ?_
    by_cases h2 : 200 < n
    ·refine x_r [(1, .dec true)] [0, 1, 5, 11] [7001] [.ref 7001 0, I n, I v_1, Bv true] [some (bxl00Src s'_1)] [200 < n] ⟨h2, trivial⟩ ?_
     refine xe_then ?_
     refine x_true rfl ?_
     obtain ⟨v_2, s'_2, hx2_0, hx2_1, hx2_2, hx2_3, hc2⟩ := next_ok s'_1 (by first | assumption | (simp only [okSrc] at *; simp_all; done)) (by omega)
     refine x_r [(3, .lend [(7001, bxl00Src s'_1, bxl00Src s'_2)] [] [(true, .any)] true (I v_2))] [1, 5] [7001] [I n, I ((v_1 * 256) + v_2)] [some (bxl00Src s'_2)] [inR .i64 (v_1 * 256), CallOK Tryz.prog 59 [.ref 7001 0] (lookO [(7001, bxl00Src s'_1)]) true (I v_2) (lookO [(7001, bxl00Src s'_2)]) ∧ (((bxl00Src s'_1 : Ob) = bxl00Src s'_1 ∨ obLe noOb true (bxl00Src s'_1) (bxl00Src s'_1)) ∧ taggedO false (bxl00Src s'_1)) ∧ True, inR .i64 ((v_1 * 256) + v_2)] ⟨(inR_i64 (by omega) (by omega)), ⟨hc2, ⟨.inl rfl, (by simp [taggedO, taggedL, tagged, tagU8])⟩, trivial⟩, (inR_i64 (by omega) (by omega)), trivial⟩ ?_
     refine xe_then ?_
     refine xR [(2, .nn)] [4] [7001] [I (((v_1 * 256) + v_2) % n)] [some (bxl00Src s'_2)] [(0 : Int) ≤ ((v_1 * 256) + v_2) ∧ (0 : Int) < n] ⟨⟨(by omega), (by omega)⟩, trivial⟩ ?_
     refine x_ret ?_
     refine xe_end ((((v_1 * 256) + v_2) % n), s'_2) (show (0 ≤ (((v_1 * 256) + v_2) % n) ∧ ((((v_1 * 256) + v_2) % n) < n ∨ (((v_1 * 256) + v_2) % n) = 0)) ∧ (okSrc s'_2) ∧ (s'_2.code = s.code) ∧ (s.atx + 0 ≤ s'_2.atx ∧ s'_2.atx ≤ s.atx + 2) ∧ (True) from ⟨(by first | omega | rfl | assumption | (dsimp only; first | omega | rfl | assumption) | (simp only [*]; done) | exact ⟨Int.emod_nonneg _ (by omega), .inl (Int.emod_lt_of_pos _ (by omega))⟩), (by first | omega | rfl | assumption | (dsimp only; first | omega | rfl | assumption) | (simp only [*]; done) | exact ⟨Int.emod_nonneg _ (by omega), .inl (Int.emod_lt_of_pos _ (by omega))⟩), (by first | omega | rfl | assumption | (dsimp only; first | omega | rfl | assumption) | (simp only [*]; done) | exact ⟨Int.emod_nonneg _ (by omega), .inl (Int.emod_lt_of_pos _ (by omega))⟩), (by first | omega | rfl | assumption | (dsimp only; first | omega | rfl | assumption) | (simp only [*]; done) | exact ⟨Int.emod_nonneg _ (by omega), .inl (Int.emod_lt_of_pos _ (by omega))⟩), trivial⟩) (⟨.inl rfl, trivial⟩) (I (((v_1 * 256) + v_2) % n)) (by kernel_rfl) (.inl rfl) (fun _ => rfl) (fun _ => trivial)
    refine x_r [(1, .dec false)] [0, 1, 5, 11] [7001] [.ref 7001 0, I n, I v_1, Bv false] [some (bxl00Src s'_1)] [¬ (200 < n)] ⟨h2, trivial⟩ ?_
    refine xe_then ?_
    refine x_false rfl ?_
    refine x_skip ?_
    refine xe_then ?_
    refine xR [(2, .nn)] [4] [7001] [I (v_1 % n)] [some (bxl00Src s'_1)] [(0 : Int) ≤ v_1 ∧ (0 : Int) < n] ⟨⟨(by omega), (by omega)⟩, trivial⟩ ?_
    refine x_ret ?_
    refine xe_end ((v_1 % n), s'_1) (show (0 ≤ (v_1 % n) ∧ ((v_1 % n) < n ∨ (v_1 % n) = 0)) ∧ (okSrc s'_1) ∧ (s'_1.code = s.code) ∧ (s.atx + 0 ≤ s'_1.atx ∧ s'_1.atx ≤ s.atx + 2) ∧ (True) from ⟨(by first | omega | rfl | assumption | (dsimp only; first | omega | rfl | assumption) | (simp only [*]; done) | exact ⟨Int.emod_nonneg _ (by omega), .inl (Int.emod_lt_of_pos _ (by omega))⟩), (by first | omega | rfl | assumption | (dsimp only; first | omega | rfl | assumption) | (simp only [*]; done) | exact ⟨Int.emod_nonneg _ (by omega), .inl (Int.emod_lt_of_pos _ (by omega))⟩), (by first | omega | rfl | assumption | (dsimp only; first | omega | rfl | assumption) | (simp only [*]; done) | exact ⟨Int.emod_nonneg _ (by omega), .inl (Int.emod_lt_of_pos _ (by omega))⟩), (by first | omega | rfl | assumption | (dsimp only; first | omega | rfl | assumption) | (simp only [*]; done) | exact ⟨Int.emod_nonneg _ (by omega), .inl (Int.emod_lt_of_pos _ (by omega))⟩), trivial⟩) (⟨.inl rfl, trivial⟩) (I (v_1 % n)) (by kernel_rfl) (.inl rfl) (fun _ => rfl) (fun _ => trivial)
  obtain ⟨⟨v, s'⟩, ⟨hh0, hh1, hh2, hh3, _⟩, hc⟩ := hh
  exact ⟨v, s', hh0, hh1, hh2, hh3, hc⟩


-- spec.l00Src).text
theorem text_ok (s : l00Src) (list : List ByteArray) (hs : okSrc s) (ha : s.atx ≤ 3999999999999999980) (hl : (0 < list.length ∧ list.length ≤ 1000) ∧ ∀ z ∈ list, z.size ≤ 16) : ∃ (v : ByteArray) (s' : l00Src), (v.size ≤ 16) ∧ (okSrc s') ∧ (s'.code = s.code) ∧ (s.atx + 0 ≤ s'.atx ∧ s'.atx ≤ s.atx + 2) ∧ (v ∈ list) ∧ CallOK Tryz.prog 60 [.ref 7001 0, slS false list] (lookO [(7001, bxl00Src s)]) true (Sv v) (lookO [(7001, bxl00Src s')]) := by
  have hh : ∃ r : ByteArray × l00Src, ((r.1.size ≤ 16) ∧ (okSrc r.2) ∧ (r.2.code = s.code) ∧ (s.atx + 0 ≤ r.2.atx ∧ r.2.atx ≤ s.atx + 2) ∧ (r.1 ∈ list) ∧ (True)) ∧ CallOK Tryz.prog 60 [.ref 7001 0, slS false list] (lookO [(7001, bxl00Src s)]) true (Sv r.1) (lookO [(7001, bxl00Src r.2)]) := by
    refine fn_okX (Φ := fun r : ByteArray × l00Src => (r.1.size ≤ 16) ∧ (okSrc r.2) ∧ (r.2.code = s.code) ∧ (s.atx + 0 ≤ r.2.atx ∧ r.2.atx ≤ s.atx + 2) ∧ (r.1 ∈ list) ∧ (True)) [(7001, bxl00Src s)] (fun r => [(7001, bxl00Src r.2)]) (fn := Tryz.f60) (nt := 12) Tryz.func60 rfl rfl (args := [.ref 7001 0, slS false list]) rfl (allcons (.inr trivial) (allcons (.inl ⟨rfl, tagS false _⟩) allnil)) (res := fun r => Sv r.1) ?_
    refine xR [] [0, 1] [7001] [.ref 7001 0, slS false list] [some (bxl00Src s)] [] trivial ?_
    refine x_seq ?_
    obtain ⟨v_1, s'_1, hx1_0, hx1_1, hx1_2, hx1_3, hc1⟩ := pick_ok s (list.length : Int) (by first | assumption | (simp only [okSrc] at *; simp_all; done)) (by omega)
    refine x_r [(4, .lend [(7001, bxl00Src s, bxl00Src s'_1)] [] [(true, .any), (true, .any)] true (I v_1))] [4] [7001] [Sv (at_ list v_1.toNat)] [some (bxl00Src s'_1)] [CallOK Tryz.prog 27 [.ref 7001 0, I (list.length : Int)] (lookO [(7001, bxl00Src s)]) true (I v_1) (lookO [(7001, bxl00Src s'_1)]) ∧ (((bxl00Src s : Ob) = bxl00Src s ∨ obLe noOb true (bxl00Src s) (bxl00Src s)) ∧ taggedO false (bxl00Src s)) ∧ True, (0 : Int) ≤ v_1 ∧ v_1 < (list.length : Int)] ⟨⟨hc1, ⟨.inl rfl, (by simp [taggedO, taggedL, tagged, tagU8])⟩, trivial⟩, ⟨(by omega), (by omega)⟩, trivial⟩ ?_
    refine xe_then ?_
    refine x_ret ?_
    refine xe_end ((at_ list v_1.toNat), s'_1) (show ((at_ list v_1.toNat).size ≤ 16) ∧ (okSrc s'_1) ∧ (s'_1.code = s.code) ∧ (s.atx + 0 ≤ s'_1.atx ∧ s'_1.atx ≤ s.atx + 2) ∧ ((at_ list v_1.toNat) ∈ list) ∧ (True) from ⟨(by first | omega | rfl | assumption | (dsimp only; first | omega | rfl | assumption) | (simp only [*]; done) | (exact at_mem (by omega)) | (exact hl.2 _ (at_mem (by omega))) | (simp_all; done)), (by first | omega | rfl | assumption | (dsimp only; first | omega | rfl | assumption) | (simp only [*]; done) | (exact at_mem (by omega)) | (exact hl.2 _ (at_mem (by omega))) | (simp_all; done)), (by first | omega | rfl | assumption | (dsimp only; first | omega | rfl | assumption) | (simp only [*]; done) | (exact at_mem (by omega)) | (exact hl.2 _ (at_mem (by omega))) | (simp_all; done)), (by first | omega | rfl | assumption | (dsimp only; first | omega | rfl | assumption) | (simp only [*]; done) | (exact at_mem (by omega)) | (exact hl.2 _ (at_mem (by omega))) | (simp_all; done)), (by first | omega | rfl | assumption | (dsimp only; first | omega | rfl | assumption) | (simp only [*]; done) | (exact at_mem (by omega)) | (exact hl.2 _ (at_mem (by omega))) | (simp_all; done)), trivial⟩) (⟨.inl rfl, trivial⟩) (Sv (at_ list v_1.toNat)) (by kernel_rfl) (.inl rfl) (fun _ => rfl) (fun _ => trivial)
  obtain ⟨⟨v, s'⟩, ⟨hh0, hh1, hh2, hh3, hh4, _⟩, hc⟩ := hh
  exact ⟨v, s', hh0, hh1, hh2, hh3, hh4, hc⟩


-- spec.l00Min
theorem l00Min_ok (a : Int) (b : Int) : Con Tryz.prog 62 [I a, I b] true (I (min a b)) := by
  refine fn_ok (fn := Tryz.f62) (nt := 10) Tryz.func62 rfl rfl rfl rfl (by simp [taggedL, tagged]) fun B hB => ?_
  refine aR [] [0, 1] [] [I a, I b] [] [] hB trivial ?_
  refine aw_seq ?_
  refine aw_seq ?_
  by_cases h1 : a < b
  ·refine aw_r [(2, .dec true)] [0, 1, 7] [] [I a, I b, Bv true] [] [a < b] hB ⟨h1, trivial⟩ ?_
   refine ae_then ?_
   refine aw_true rfl ?_
   refine aR [] [4] [] [I a] [] [] hB trivial ?_
   refine aw_ret ?_
   refine ae_ret_then ?_
   refine ae_ret hB (I a) (by kernel_rfl) (.inl (by refine congrArg I ?_; omega)) rfl (fun _ => trivial)
  refine aw_r [(2, .dec false)] [0, 1, 7] [] [I a, I b, Bv false] [] [¬ (a < b)] hB ⟨h1, trivial⟩ ?_
  refine ae_then ?_
  refine aw_false rfl ?_
  refine aw_skip ?_
  refine ae_then ?_
  refine aR [] [4] [] [I b] [] [] hB trivial ?_
  refine aw_ret ?_
  refine ae_ret hB (I b) (by kernel_rfl) (.inl (by refine congrArg I ?_; omega)) rfl (fun _ => trivial)


-- spec.l00Max
theorem l00Max_ok (a : Int) (b : Int) : Con Tryz.prog 61 [I a, I b] true (I (max a b)) := by
  refine fn_ok (fn := Tryz.f61) (nt := 10) Tryz.func61 rfl rfl rfl rfl (by simp [taggedL, tagged]) fun B hB => ?_
  refine aR [] [0, 1] [] [I a, I b] [] [] hB trivial ?_
  refine aw_seq ?_
  refine aw_seq ?_
  by_cases h1 : b < a
  ·refine aw_r [(2, .dec true)] [0, 1, 7] [] [I a, I b, Bv true] [] [b < a] hB ⟨h1, trivial⟩ ?_
   refine ae_then ?_
   refine aw_true rfl ?_
   refine aR [] [4] [] [I a] [] [] hB trivial ?_
   refine aw_ret ?_
   refine ae_ret_then ?_
   refine ae_ret hB (I a) (by kernel_rfl) (.inl (by refine congrArg I ?_; omega)) rfl (fun _ => trivial)
  refine aw_r [(2, .dec false)] [0, 1, 7] [] [I a, I b, Bv false] [] [¬ (b < a)] hB ⟨h1, trivial⟩ ?_
  refine ae_then ?_
  refine aw_false rfl ?_
  refine aw_skip ?_
  refine ae_then ?_
  refine aR [] [4] [] [I b] [] [] hB trivial ?_
  refine aw_ret ?_
  refine ae_ret hB (I b) (by kernel_rfl) (.inl (by refine congrArg I ?_; omega)) rfl (fun _ => trivial)


def inB (a l h : Int) : Bool := decide (l ≤ a ∧ a ≤ h)
theorem inB_iff {a l h : Int} : inB a l h = true ↔ l ≤ a ∧ a ≤ h := by simp [inB]
theorem bAt_bd (s : ByteArray) (i : Nat) : 0 ≤ bAt s i ∧ bAt s i ≤ 255 := by
  unfold bAt
  have := (s.data.toList.getD i 0).toNat_lt
  omega

def okF (p : Feat) : Bool := inB p.X 0 255 && (inB p.Y 0 255 && inB p.D 0 7)
theorem okF_iff {p : Feat} : okF p = true ↔ (0 ≤ p.X ∧ p.X ≤ 255) ∧ (0 ≤ p.Y ∧ p.Y ≤ 255) ∧ (0 ≤ p.D ∧ p.D ≤ 7) := by simp [okF, inB, and_assoc]
/-- Whether all are features, and they are 1 to m. -/
def okFeats (xs : List Feat) (m : Int) : Bool := decide (1 ≤ (xs.length : Int) ∧ (xs.length : Int) ≤ m) && allN xs.length (fun j => okF (at_ xs j))
theorem okFeats_at {xs : List Feat} {m : Int} (h : okFeats xs m = true) {j : Nat} (hj : j < xs.length) : okF (at_ xs j) = true := by
  simp only [okFeats, Bool.and_eq_true] at h
  exact allN_get h.2 hj

theorem okFeats_mk {xs : List Feat} {m : Int} (h1 : 1 ≤ xs.length) (h2 : (xs.length : Int) ≤ m) (h : ∀ z ∈ xs, okF z = true) : okFeats xs m = true := by
  simp only [okFeats, Bool.and_eq_true, decide_eq_true_eq]
  exact ⟨by omega, allN_at fun j hj => h _ (at_mem hj)⟩

-- spec.l09Draw
theorem l09Draw_ok (s : l00Src) (most : Int) (hs : okSrc s) (ha : s.atx ≤ 3999999999999999000) (hmo : 1 ≤ most ∧ most ≤ 60) : ∃ (v : List Feat) (s' : l00Src), (okSrc s') ∧ (s'.code = s.code) ∧ (s.atx + 0 ≤ s'.atx ∧ s'.atx ≤ s.atx + 400) ∧ (okFeats v 72 = true) ∧ ((v.length : Int) ≤ most) ∧ CallOK Tryz.prog 29 [.ref 7001 0, I most] (lookO [(7001, bxl00Src s)]) true (slFeat true v) (lookO [(7001, bxl00Src s')]) := by
  have hh : ∃ r : (List Feat) × l00Src, ((okSrc r.2) ∧ (r.2.code = s.code) ∧ (s.atx + 0 ≤ r.2.atx ∧ r.2.atx ≤ s.atx + 400) ∧ (okFeats r.1 72 = true) ∧ ((r.1.length : Int) ≤ most) ∧ (True)) ∧ CallOK Tryz.prog 29 [.ref 7001 0, I most] (lookO [(7001, bxl00Src s)]) true (slFeat true r.1) (lookO [(7001, bxl00Src r.2)]) := by
    refine fn_okX (Φ := fun r : (List Feat) × l00Src => (okSrc r.2) ∧ (r.2.code = s.code) ∧ (s.atx + 0 ≤ r.2.atx ∧ r.2.atx ≤ s.atx + 400) ∧ (okFeats r.1 72 = true) ∧ ((r.1.length : Int) ≤ most) ∧ (True)) [(7001, bxl00Src s)] (fun r => [(7001, bxl00Src r.2)]) (fn := Tryz.f29) (nt := 45) Tryz.func29 rfl rfl (args := [.ref 7001 0, I most]) rfl (allcons (.inr trivial) (allcons (.inl ⟨rfl, trivial⟩) allnil)) (res := fun r => slFeat true r.1) ?_
    refine xR [] [0, 1] [7001] [.ref 7001 0, I most] [some (bxl00Src s)] [] trivial ?_
    refine xR [(0, .new 9)] [0, 1, 5] [9, 7001] [.ref 7001 0, I most, .arr 9] [some (.arr 3 0 (litF [] 3)), some (bxl00Src s)] [] trivial ?_
    refine x_seq ?_
    obtain ⟨v_1, s'_1, hx1_0, hx1_1, hx1_2, hx1_3, hc1⟩ := pick_ok s 256 (by first | assumption | (simp only [okSrc] at *; simp_all; done)) (by omega)
    refine x_r [(1, .lend [(7001, bxl00Src s, bxl00Src s'_1)] [] [(true, .any), (true, .any)] true (I v_1))] [0, 1, 5, 6] [9, 7001] [.ref 7001 0, I most, .arr 9, I v_1] [some (.arr 3 0 (litF [] 3)), some (bxl00Src s'_1)] [CallOK Tryz.prog 27 [.ref 7001 0, I 256] (lookO [(7001, bxl00Src s)]) true (I v_1) (lookO [(7001, bxl00Src s'_1)]) ∧ (((bxl00Src s : Ob) = bxl00Src s ∨ obLe noOb true (bxl00Src s) (bxl00Src s)) ∧ taggedO false (bxl00Src s)) ∧ True] ⟨⟨hc1, ⟨.inl rfl, (by simp [taggedO, taggedL, tagged, tagU8])⟩, trivial⟩, trivial⟩ ?_
    refine xe_then ?_
    refine x_seq ?_
    obtain ⟨v_2, s'_2, hx2_0, hx2_1, hx2_2, hx2_3, hc2⟩ := pick_ok s'_1 256 (by first | assumption | (simp only [okSrc] at *; simp_all; done)) (by omega)
    refine x_r [(1, .lend [(7001, bxl00Src s'_1, bxl00Src s'_2)] [] [(true, .any), (true, .any)] true (I v_2))] [0, 1, 5, 6, 7] [9, 7001] [.ref 7001 0, I most, .arr 9, I v_1, I v_2] [some (.arr 3 0 (litF [] 3)), some (bxl00Src s'_2)] [CallOK Tryz.prog 27 [.ref 7001 0, I 256] (lookO [(7001, bxl00Src s'_1)]) true (I v_2) (lookO [(7001, bxl00Src s'_2)]) ∧ (((bxl00Src s'_1 : Ob) = bxl00Src s'_1 ∨ obLe noOb true (bxl00Src s'_1) (bxl00Src s'_1)) ∧ taggedO false (bxl00Src s'_1)) ∧ True] ⟨⟨hc2, ⟨.inl rfl, (by simp [taggedO, taggedL, tagged, tagU8])⟩, trivial⟩, trivial⟩ ?_
    refine xe_then ?_
    refine x_seq ?_
    refine x_seq ?_
    obtain ⟨v_3, s'_3, hx3_0, hx3_1, hx3_2, hx3_3, hc3⟩ := pick_ok s'_2 most (by first | assumption | (simp only [okSrc] at *; simp_all; done)) (by omega)
    refine x_r [(2, .lend [(7001, bxl00Src s'_2, bxl00Src s'_3)] [] [(true, .any), (true, .any)] true (I v_3))] [0, 5, 6, 7, 8] [9, 7001] [.ref 7001 0, .arr 9, I v_1, I v_2, I (1 + v_3)] [some (.arr 3 0 (litF [] 3)), some (bxl00Src s'_3)] [CallOK Tryz.prog 27 [.ref 7001 0, I most] (lookO [(7001, bxl00Src s'_2)]) true (I v_3) (lookO [(7001, bxl00Src s'_3)]) ∧ (((bxl00Src s'_2 : Ob) = bxl00Src s'_2 ∨ obLe noOb true (bxl00Src s'_2) (bxl00Src s'_2)) ∧ taggedO false (bxl00Src s'_2)) ∧ True, inR .i64 (1 + v_3)] ⟨⟨hc3, ⟨.inl rfl, (by simp [taggedO, taggedL, tagged, tagU8])⟩, trivial⟩, (inR_i64 (by omega) (by omega)), trivial⟩ ?_
    refine xe_then ?_
    refine x_block ?_
    refine x_weak [] (T := [(0, .ref 7001 0), (5, .arr 9), (6, I v_1), (7, I v_2), (8, I (1 + v_3))]) (O := [(9, .arr 3 (([] : List Feat).length) (fFeat ([] : List Feat))), (7001, bxl00Src s'_3)]) rfl (⟨.inl rfl, .inl rfl, .inl rfl, .inl rfl, .inl rfl, trivial⟩) (⟨.inr ⟨rfl, (by first | rfl | (simp; done) | (simp; omega) | omega), fun i_ hi_ => absurd hi_ (Nat.not_lt_zero _)⟩, .inl rfl, trivial⟩) ?_
    refine x_loop (X := (List Feat) × Int × Int × Int × l00Src) (fun x => mkS [(0, .ref 7001 0), (5, .arr 9), (6, I x.2.1), (7, I x.2.2.1), (8, I x.2.2.2.1)] [(9, .arr 3 x.1.length (fFeat x.1)), (7001, bxl00Src x.2.2.2.2)]) (fun x => (okSrc x.2.2.2.2 ∧ x.2.2.2.2.code = s.code ∧ s.atx ≤ x.2.2.2.2.atx ∧ x.2.2.2.2.atx ≤ s.atx + 6 + 6 * (most - x.2.2.2.1)) ∧ (0 ≤ x.2.2.2.1 ∧ x.2.2.2.1 ≤ most) ∧ ((x.1.length : Int) + x.2.2.2.1 ≤ most) ∧ (1 ≤ (x.1.length : Int) + x.2.2.2.1) ∧ (∀ z ∈ x.1, okF z = true) ∧ ((0 ≤ x.2.1 ∧ x.2.1 ≤ 255) ∧ 0 ≤ x.2.2.1 ∧ x.2.2.1 ≤ 255) ∧ True) (fun x => x.2.2.2.1.toNat) (([] : List Feat), v_1, v_2, (1 + v_3), s'_3) rfl (show (okSrc s'_3 ∧ s'_3.code = s.code ∧ s.atx ≤ s'_3.atx ∧ s'_3.atx ≤ s.atx + 6 + 6 * (most - (1 + v_3))) ∧ (0 ≤ (1 + v_3) ∧ (1 + v_3) ≤ most) ∧ ((([] : List Feat).length : Int) + (1 + v_3) ≤ most) ∧ (1 ≤ (([] : List Feat).length : Int) + (1 + v_3)) ∧ (∀ z ∈ ([] : List Feat), okF z = true) ∧ ((0 ≤ v_1 ∧ v_1 ≤ 255) ∧ 0 ≤ v_2 ∧ v_2 ≤ 255) ∧ True from ⟨(by exact ⟨by assumption, by first | assumption | rfl | (simp only [*]; done), by omega, by omega⟩), (by omega), (by simp; omega), (by simp; omega), (by simp), (by omega), trivial⟩) (fun x hI => ?_)
    obtain ⟨out, x, y, k, src⟩ := x
    obtain ⟨hs0, hk0, hl0, hl1, hz0, hxy, _⟩ : (okSrc src ∧ src.code = s.code ∧ s.atx ≤ src.atx ∧ src.atx ≤ s.atx + 6 + 6 * (most - k)) ∧ (0 ≤ k ∧ k ≤ most) ∧ ((out.length : Int) + k ≤ most) ∧ (1 ≤ (out.length : Int) + k) ∧ (∀ z ∈ out, okF z = true) ∧ ((0 ≤ x ∧ x ≤ 255) ∧ 0 ≤ y ∧ y ≤ 255) ∧ True := hI
    show XW _ _ _ _ (mkS [(0, .ref 7001 0), (5, .arr 9), (6, I x), (7, I y), (8, I k)] [(9, .arr 3 out.length (fFeat out)), (7001, bxl00Src src)]) _ _
    refine x_seq ?_
    refine x_seq ?_
    by_cases h1 : 0 < k
    ·refine x_r [(1, .dec true)] [0, 5, 6, 7, 8, 19] [9, 7001] [.ref 7001 0, .arr 9, I x, I y, I k, Bv true] [some (.arr 3 out.length (fFeat out)), some (bxl00Src src)] [0 < k] ⟨h1, trivial⟩ ?_
     refine xe_then ?_
     refine x_true rfl ?_
     refine x_skip ?_
     refine xe_then ?_
     refine x_seq ?_
     refine x_block ?_
     refine x_seq ?_
     obtain ⟨v_4, s'_4, hx4_0, hx4_1, hx4_2, hx4_3, hc4⟩ := pick_ok src 8 (by first | assumption | (simp only [okSrc] at *; simp_all; done)) (by omega)
     refine x_r [(4, .lend [(7001, bxl00Src src, bxl00Src s'_4)] [] [(true, .any), (true, .any)] true (I v_4)), (6, .new 28), (7, .new 29)] [0, 5, 6, 7, 8] [29, 7001] [.ref 7001 0, .arr 29, I x, I y, I k] [some (.arr 3 (out.length + 1) (catF out.length (fFeat out) (litF [I x, I y, I v_4] 3))), some (bxl00Src s'_4)] [CallOK Tryz.prog 27 [.ref 7001 0, I 8] (lookO [(7001, bxl00Src src)]) true (I v_4) (lookO [(7001, bxl00Src s'_4)]) ∧ (((bxl00Src src : Ob) = bxl00Src src ∨ obLe noOb true (bxl00Src src) (bxl00Src src)) ∧ taggedO false (bxl00Src src)) ∧ True, (out.length + 1) * 24 ≤ 140737488355328] ⟨⟨hc4, ⟨.inl rfl, (by simp [taggedO, taggedL, tagged, tagU8])⟩, trivial⟩, (by omega), trivial⟩ ?_
     refine xe_then ?_
     refine x_seq ?_
     obtain ⟨v_5, s'_5, hx5_0, hx5_1, hx5_2, hx5_3, hc5⟩ := pick_ok s'_4 61 (by first | assumption | (simp only [okSrc] at *; simp_all; done)) (by omega)
     refine x_r [(2, .lend [(7001, bxl00Src s'_4, bxl00Src s'_5)] [] [(true, .any), (true, .any)] true (I v_5)), (5, .call [(true, .any), (true, .any)] true (I (min 255 ((x + v_5) - 30)))), (6, .call [(true, .any), (true, .any)] true (I (max 0 (min 255 ((x + v_5) - 30)))))] [0, 5, 6, 7, 8] [29, 7001] [.ref 7001 0, .arr 29, I (max 0 (min 255 ((x + v_5) - 30))), I y, I k] [some (.arr 3 (out.length + 1) (catF out.length (fFeat out) (litF [I x, I y, I v_4] 3))), some (bxl00Src s'_5)] [CallOK Tryz.prog 27 [.ref 7001 0, I 61] (lookO [(7001, bxl00Src s'_4)]) true (I v_5) (lookO [(7001, bxl00Src s'_5)]) ∧ (((bxl00Src s'_4 : Ob) = bxl00Src s'_4 ∨ obLe noOb true (bxl00Src s'_4) (bxl00Src s'_4)) ∧ taggedO false (bxl00Src s'_4)) ∧ True, inR .i64 (x + v_5), inR .i64 ((x + v_5) - 30), Con Tryz.prog 62 [I 255, I ((x + v_5) - 30)] true (I (min 255 ((x + v_5) - 30))) ∧ True, Con Tryz.prog 61 [I 0, I (min 255 ((x + v_5) - 30))] true (I (max 0 (min 255 ((x + v_5) - 30)))) ∧ True] ⟨⟨hc5, ⟨.inl rfl, (by simp [taggedO, taggedL, tagged, tagU8])⟩, trivial⟩, (inR_i64 (by omega) (by omega)), (inR_i64 (by omega) (by omega)), ⟨(l00Min_ok 255 ((x + v_5) - 30)), trivial⟩, ⟨(l00Max_ok 0 (min 255 ((x + v_5) - 30))), trivial⟩, trivial⟩ ?_
     refine xe_then ?_
     obtain ⟨v_6, s'_6, hx6_0, hx6_1, hx6_2, hx6_3, hc6⟩ := pick_ok s'_5 61 (by first | assumption | (simp only [okSrc] at *; simp_all; done)) (by omega)
     refine x_r [(2, .lend [(7001, bxl00Src s'_5, bxl00Src s'_6)] [] [(true, .any), (true, .any)] true (I v_6)), (5, .call [(true, .any), (true, .any)] true (I (min 255 ((y + v_6) - 30)))), (6, .call [(true, .any), (true, .any)] true (I (max 0 (min 255 ((y + v_6) - 30)))))] [0, 5, 6, 7, 8] [29, 7001] [.ref 7001 0, .arr 29, I (max 0 (min 255 ((x + v_5) - 30))), I (max 0 (min 255 ((y + v_6) - 30))), I k] [some (.arr 3 (out.length + 1) (catF out.length (fFeat out) (litF [I x, I y, I v_4] 3))), some (bxl00Src s'_6)] [CallOK Tryz.prog 27 [.ref 7001 0, I 61] (lookO [(7001, bxl00Src s'_5)]) true (I v_6) (lookO [(7001, bxl00Src s'_6)]) ∧ (((bxl00Src s'_5 : Ob) = bxl00Src s'_5 ∨ obLe noOb true (bxl00Src s'_5) (bxl00Src s'_5)) ∧ taggedO false (bxl00Src s'_5)) ∧ True, inR .i64 (y + v_6), inR .i64 ((y + v_6) - 30), Con Tryz.prog 62 [I 255, I ((y + v_6) - 30)] true (I (min 255 ((y + v_6) - 30))) ∧ True, Con Tryz.prog 61 [I 0, I (min 255 ((y + v_6) - 30))] true (I (max 0 (min 255 ((y + v_6) - 30)))) ∧ True] ⟨⟨hc6, ⟨.inl rfl, (by simp [taggedO, taggedL, tagged, tagU8])⟩, trivial⟩, (inR_i64 (by omega) (by omega)), (inR_i64 (by omega) (by omega)), ⟨(l00Min_ok 255 ((y + v_6) - 30)), trivial⟩, ⟨(l00Max_ok 0 (min 255 ((y + v_6) - 30))), trivial⟩, trivial⟩ ?_
     refine xe_block 1 ?_
     refine xe_then ?_
     refine x_r [] [0, 5, 6, 7, 8] [29, 7001] [.ref 7001 0, .arr 29, I (max 0 (min 255 ((x + v_5) - 30))), I (max 0 (min 255 ((y + v_6) - 30))), I (k - 1)] [some (.arr 3 (out.length + 1) (catF out.length (fFeat out) (litF [I x, I y, I v_4] 3))), some (bxl00Src s'_6)] [inR .i64 (k - 1)] ⟨(inR_i64 (by omega) (by omega)), trivial⟩ ?_
     refine xe_weak [(9, 29)] (T := [(0, .ref 7001 0), (5, .arr 9), (6, I (max 0 (min 255 ((x + v_5) - 30)))), (7, I (max 0 (min 255 ((y + v_6) - 30)))), (8, I (k - 1))]) (O := [(9, .arr 3 ((out ++ [(Feat.mk x y v_4)]).length) (fFeat (out ++ [(Feat.mk x y v_4)]))), (7001, bxl00Src s'_6)]) rfl (⟨.inl rfl, .inl rfl, .inl rfl, .inl rfl, .inl rfl, trivial⟩) (⟨.inr ⟨rfl, (by first | rfl | (simp; done) | (simp; omega) | omega), fun i_ hi_ => .inl (cat_snoc (enc := cFeat) (xs := out) rfl i_ hi_)⟩, .inl rfl, trivial⟩) (xe_again ((out ++ [(Feat.mk x y v_4)]), (max 0 (min 255 ((x + v_5) - 30))), (max 0 (min 255 ((y + v_6) - 30))), (k - 1), s'_6) rfl (show (okSrc s'_6 ∧ s'_6.code = s.code ∧ s.atx ≤ s'_6.atx ∧ s'_6.atx ≤ s.atx + 6 + 6 * (most - (k - 1))) ∧ (0 ≤ (k - 1) ∧ (k - 1) ≤ most) ∧ (((out ++ [(Feat.mk x y v_4)]).length : Int) + (k - 1) ≤ most) ∧ (1 ≤ ((out ++ [(Feat.mk x y v_4)]).length : Int) + (k - 1)) ∧ (∀ z ∈ (out ++ [(Feat.mk x y v_4)]), okF z = true) ∧ ((0 ≤ (max 0 (min 255 ((x + v_5) - 30))) ∧ (max 0 (min 255 ((x + v_5) - 30))) ≤ 255) ∧ 0 ≤ (max 0 (min 255 ((y + v_6) - 30))) ∧ (max 0 (min 255 ((y + v_6) - 30))) ≤ 255) ∧ True from ⟨(by exact ⟨by assumption, by first | assumption | rfl | (simp only [*]; done), by omega, by omega⟩), (by omega), (by simp; omega), (by simp; omega), (by intro z hz; rcases List.mem_append.1 hz with hz | hz; (exact hz0 z hz); (simp only [List.mem_singleton] at hz; subst hz; exact okF_iff.2 ⟨by dsimp only; omega, by dsimp only; omega, by dsimp only; omega⟩)), (by omega), trivial⟩) (by first | (show ((k - 1).toNat : Nat) < k.toNat; omega) | (dsimp only; omega)))
    refine x_r [(1, .dec false)] [0, 5, 6, 7, 8, 19] [9, 7001] [.ref 7001 0, .arr 9, I x, I y, I k, Bv false] [some (.arr 3 out.length (fFeat out)), some (bxl00Src src)] [¬ (0 < k)] ⟨h1, trivial⟩ ?_
    refine xe_then ?_
    refine x_false rfl ?_
    refine x_exit ?_
    refine xe_exit_then ?_
    refine xe_loop_exit ?_
    refine xe_exit_same ?_
    refine xe_then ?_
    refine xR [] [4] [9, 7001] [.arr 9] [some (.arr 3 out.length (fFeat out)), some (bxl00Src src)] [] trivial ?_
    refine x_ret ?_
    refine xe_end (out, src) (show (okSrc src) ∧ (src.code = s.code) ∧ (s.atx + 0 ≤ src.atx ∧ src.atx ≤ s.atx + 400) ∧ (okFeats out 72 = true) ∧ ((out.length : Int) ≤ most) ∧ (True) from ⟨(by first | omega | (simp_all; done) | exact hs0.1 | exact hs0.2.1 | exact okFeats_mk (by omega) (by omega) hz0), (by first | omega | (simp_all; done) | exact hs0.1 | exact hs0.2.1 | exact okFeats_mk (by omega) (by omega) hz0), (by first | omega | (simp_all; done) | exact hs0.1 | exact hs0.2.1 | exact okFeats_mk (by omega) (by omega) hz0), (by first | omega | (simp_all; done) | exact hs0.1 | exact hs0.2.1 | exact okFeats_mk (by omega) (by omega) hz0), (by first | omega | (simp_all; done) | exact hs0.1 | exact hs0.2.1 | exact okFeats_mk (by omega) (by omega) hz0), trivial⟩) (⟨.inl rfl, trivial⟩) (.arr 9) (by kernel_rfl) (.inr ⟨(fun _ => rfl), rfl, rfl, fun i _ => .inl rfl⟩) (fun _ => rfl) (fun _ => (tagFeat true _))
  obtain ⟨⟨v, s'⟩, ⟨hh0, hh1, hh2, hh3, hh4, _⟩, hc⟩ := hh
  exact ⟨v, s', hh0, hh1, hh2, hh3, hh4, hc⟩


/-- Whether a byte is a label's. -/
def labB (n : Int) : Bool := decide ((97 ≤ n ∧ n ≤ 122) ∨ (48 ≤ n ∧ n ≤ 57) ∨ n = 43 ∨ n = 45 ∨ n = 42 ∨ n = 47 ∨ n = 61 ∨ n = 40 ∨ n = 41 ∨ n = 46 ∨ n = 44)
/-- Whether a string is a label. -/
def okLabel (s : ByteArray) : Bool := decide (s.size = 1) && labB (bAt s 0)

/-- Whether a feature is one that another one may have become. -/
def nearB (a b : Feat) : Bool := decide (a.D = b.D) && (decide (((a.X - b.X).natAbs : Int) ≤ 40) && decide (((a.Y - b.Y).natAbs : Int) ≤ 40))
/-- Whether a trained template is valid. -/
def okTrained' (t : Trained) : Bool := okLabel t.Label && (okFeats t.Base 72 && (okFeats t.Feats 72 && ((decide (t.Base.length = t.Feats.length) && allN t.Base.length (fun j => nearB (at_ t.Base j) (at_ t.Feats j))) && inB t.Count 0 100)))
theorem okTr_iff {t : Trained} : okTrained' t = true ↔ okLabel t.Label = true ∧ okFeats t.Base 72 = true ∧ okFeats t.Feats 72 = true ∧ (t.Base.length = t.Feats.length ∧ allN t.Base.length (fun j => nearB (at_ t.Base j) (at_ t.Feats j)) = true) ∧ inB t.Count 0 100 = true := by
  simp [okTrained']



theorem at_setQ {α : Type} [Inhabited α] {xs : List α} {i : Nat} {y : α} (h : i < xs.length) : at_ (xs.set i y) i = y := by simp [at_, h]
def okTm (t : Template) : Bool := okLabel t.Label && okFeats t.Feats 72
def stR (t : Template) : Trained × Int := if okTm t = true then (⟨t.Label, t.Feats, t.Feats, 0⟩, 0) else (⟨⟨#[]⟩, [], [], 0⟩, 1)
theorem stR_yes {t : Template} (h : okTm t = true) : stR t = (⟨t.Label, t.Feats, t.Feats, 0⟩, 0) := if_pos h
theorem stR_no {t : Template} (h : okTm t = false) : stR t = (⟨⟨#[]⟩, [], [], 0⟩, 1) := by simp [stR, h]
theorem okTm_len {t : Template} (h : okTm t = true) : t.Feats.length ≤ 72 := by
  simp only [okTm, okFeats, Bool.and_eq_true, decide_eq_true_eq] at h
  omega
/-- Marks. -/
def mkL (k : Int) (n : Nat) : List Feat := (List.range n).map fun j : Nat => ⟨k + 3 * (j : Int), k + 3 * (j : Int) + 1, k + 3 * (j : Int) + 2⟩
theorem mkL_len (k : Int) (n : Nat) : (mkL k n).length = n := by simp [mkL]
theorem mkL_at {k : Int} {n j : Nat} (h : j < n) : at_ (mkL k n) j = ⟨k + 3 * (j : Int), k + 3 * (j : Int) + 1, k + 3 * (j : Int) + 2⟩ := by simp [at_, mkL, h]
theorem mk_next {ys : List Feat} {k : Int} {i : Int} {y : Feat} (h0 : 0 ≤ i) (hi : i.toNat < ys.length) (h : ∀ j : Nat, (j : Int) < i → at_ ys j = ⟨k + 3 * (j : Int), k + 3 * (j : Int) + 1, k + 3 * (j : Int) + 2⟩) (hy : y = ⟨k + 3 * i, k + 3 * i + 1, k + 3 * i + 2⟩) : ∀ j : Nat, (j : Int) < i + 1 → at_ (ys.set i.toNat y) j = ⟨k + 3 * (j : Int), k + 3 * (j : Int) + 1, k + 3 * (j : Int) + 2⟩ := fun j hj => by
  by_cases e : j = i.toNat
  · subst e
    have e2 : ((i.toNat : Nat) : Int) = i := by omega
    rw [e2]
    simp [at_, hi, hy]
  · have h' : ¬ i.toNat = j := fun q => e q.symm
    have : at_ (ys.set i.toNat y) j = at_ ys j := by simp [at_, List.getElem?_set, h']
    rw [this]; exact h j (by omega)

-- spec.l24Copy
theorem l24Copy_ok (list : List Feat) (hl : list.length ≤ 72) : Con Tryz.prog 85 [slFeat false list] true (slFeat true list) := by
  refine fn_ok (fn := Tryz.f85) (nt := 6) Tryz.func85 rfl rfl rfl rfl (by simp [taggedL, tagged, tagFeat]) fun B hB => ?_
  refine aw_lens (x := slFeat false list) 0 rfl (fun len_list => ?_)
  simp [LenOK, LenL, cFeat, fFeat, slFeat] at len_list
  refine aR [] [0] [] [slFeat false list] [] [] hB trivial ?_
  refine aR [(0, .new 3), (2, .new 5)] [2] [5] [.arr 5] [some (.arr 3 (0 + list.length) (catF 0 (litF [] 3) (fFeat list)))] [(0 + list.length) * 24 ≤ 140737488355328] hB ⟨(by omega), trivial⟩ ?_
  refine aw_ret ?_
  refine ae_ret hB (.arr 5) (by kernel_rfl) (.inr ⟨(fun _ => rfl), rfl, (by first | rfl | (simp; done) | (simp; omega) | omega), fun i_ hi_ => .inl (by first | rfl | fail)⟩) rfl (fun _ => (tagFeat true _))


-- spec.l24Start
theorem l24Start_ok (label : ByteArray) (feats : List Feat) (hl : feats.length ≤ 72) : Con Tryz.prog 52 [Sv label, slFeat false feats] true (agTrainedT (Trained.mk label feats feats 0)) := by
  refine fn_ok (fn := Tryz.f52) (nt := 11) Tryz.func52 rfl rfl rfl rfl (by simp [taggedL, tagged, tagFeat]) fun B hB => ?_
  refine aw_lens (x := slFeat false feats) 1 rfl (fun len_feats => ?_)
  simp [LenOK, LenL, cFeat, fFeat, slFeat] at len_feats
  refine aR [(0, .new 4)] [0, 1, 4] [4] [Sv label, slFeat false feats, .ref 4 0] [some (.box [Sv (⟨#[]⟩ : ByteArray), nilA, nilA, I 0])] [] hB trivial ?_
  refine aR [(2, .call [(true, .any)] true (slFeat true feats)), (4, .call [(true, .any)] true (slFeat true feats))] [4] [4] [.ref 4 0] [some (.box [Sv label, slFeat true feats, slFeat true feats, I 0])] [Con Tryz.prog 85 [slFeat false feats] true (slFeat true feats) ∧ True, Con Tryz.prog 85 [slFeat false feats] true (slFeat true feats) ∧ True] hB ⟨⟨(l24Copy_ok feats hl), trivial⟩, ⟨(l24Copy_ok feats hl), trivial⟩, trivial⟩ ?_
  refine aw_ret ?_
  refine ae_ret hB (.agg [Sv label, slFeat true feats, slFeat true feats, I 0]) (by kernel_rfl) (.inr ⟨(by first | rfl | (simp [valOf]; done) | (simp [valOf]; omega)), ⟨⟨(fun _ => rfl), rfl, (by first | rfl | (simp; done) | (simp; omega) | omega), fun i_ hi_ => .inl (by first | rfl | fail)⟩, ⟨⟨(fun _ => rfl), rfl, (by first | rfl | (simp; done) | (simp; omega) | omega), fun i_ hi_ => .inl (by first | rfl | fail)⟩, ⟨(by first | rfl | (simp [valOf]; done) | (simp [valOf]; omega)), rfl⟩⟩⟩⟩) rfl (fun _ => (by simp [tagged, taggedL, tagFeat]))


-- spec.l09Size
theorem l09Size_ok (n : Int) (hn : -9223372036854775807 ≤ n ∧ n ≤ 9223372036854775807) : Con Tryz.prog 80 [I n] true (I (n.natAbs : Int)) := by
  refine fn_ok (fn := Tryz.f80) (nt := 8) Tryz.func80 rfl rfl rfl rfl (by simp [taggedL, tagged]) fun B hB => ?_
  refine aR [] [0] [] [I n] [] [] hB trivial ?_
  refine aw_seq ?_
  refine aw_seq ?_
  by_cases h1 : n < 0
  ·refine aw_r [(1, .dec true)] [0, 4] [] [I n, Bv true] [] [n < 0] hB ⟨h1, trivial⟩ ?_
   refine ae_then ?_
   refine aw_true rfl ?_
   refine aR [] [2] [] [I (-n)] [] [inR .i64 (-n)] hB ⟨(inR_i64 (by omega) (by omega)), trivial⟩ ?_
   refine aw_ret ?_
   refine ae_ret_then ?_
   refine ae_ret hB (I (-n)) (by kernel_rfl) (.inl (by refine congrArg I ?_; omega)) rfl (fun _ => trivial)
  refine aw_r [(1, .dec false)] [0, 4] [] [I n, Bv false] [] [¬ (n < 0)] hB ⟨h1, trivial⟩ ?_
  refine ae_then ?_
  refine aw_false rfl ?_
  refine aw_skip ?_
  refine ae_then ?_
  refine aR [] [2] [] [I n] [] [] hB trivial ?_
  refine aw_ret ?_
  refine ae_ret hB (I n) (by kernel_rfl) (.inl (by refine congrArg I ?_; omega)) rfl (fun _ => trivial)


/-- The cost of matching two features. -/
def costF (a b : Feat) : Int := ((a.X - b.X).natAbs : Int) + ((a.Y - b.Y).natAbs : Int) + 16 * min ((a.D - b.D).natAbs : Int) (8 - ((a.D - b.D).natAbs : Int))
theorem costF_bd {a b : Feat} (ha : okF a = true) (hb : okF b = true) : 0 ≤ costF a b ∧ costF a b ≤ 600 := by
  have h1 := okF_iff.1 ha
  have h2 := okF_iff.1 hb
  unfold costF
  omega
/-- A cell of the table, from the least cost ahead of it. -/
def stp (far band : Int) (i j : Nat) (before c : Int) : Int := if band < (((i : Int) - (j : Int)).natAbs : Int) ∨ far ≤ before then far else before + c
/-- The least cost of all paths to a pair, or 'far'. -/
def cv (far : Int) (a b : List Feat) (band : Int) : Nat → Nat → Int
  | 0, 0 => stp far band 0 0 0 (costF (at_ a 0) (at_ b 0))
  | 0, j + 1 => stp far band 0 (j + 1) (min far (cv far a b band 0 j)) (costF (at_ a 0) (at_ b (j + 1)))
  | i + 1, 0 => stp far band (i + 1) 0 (min far (cv far a b band i 0)) (costF (at_ a (i + 1)) (at_ b 0))
  | i + 1, j + 1 => stp far band (i + 1) (j + 1) (min (min (min far (cv far a b band i j)) (cv far a b band i (j + 1))) (cv far a b band (i + 1) j)) (costF (at_ a (i + 1)) (at_ b (j + 1)))
termination_by i j => (i, j)
/-- Lists of features that may be matched. -/
def okAB (a b : List Feat) : Prop := (∀ i, i < a.length → okF (at_ a i) = true) ∧ (∀ j, j < b.length → okF (at_ b j) = true) ∧ a.length ≤ 72 ∧ b.length ≤ 72
theorem stp_far {far band : Int} {i j : Nat} {before c : Int} (h : band < (((i : Int) - (j : Int)).natAbs : Int) ∨ far ≤ before) : stp far band i j before c = far := if_pos h
theorem stp_add {far band : Int} {i j : Nat} {before c : Int} (h1 : ¬ band < (((i : Int) - (j : Int)).natAbs : Int)) (h2 : ¬ far ≤ before) : stp far band i j before c = before + c := if_neg (by omega)
theorem cv_out {far band : Int} {a b : List Feat} {i j : Nat} (h : band < (((i : Int) - (j : Int)).natAbs : Int)) : cv far a b band i j = far := by
  rcases i with _ | i <;> rcases j with _ | j <;> rw [cv] <;> exact stp_far (.inl h)
/-- Within the band the costs are few, and the same however far 'far' is. -/
theorem cv_in {band : Int} {a b : List Feat} (hab : okAB a b) {f1 f2 : Int} (h1 : 1000000000 ≤ f1) (h2 : 1000000000 ≤ f2) : ∀ (s i j : Nat), i + j = s → i < a.length → j < b.length → (((i : Int) - (j : Int)).natAbs : Int) ≤ band → cv f1 a b band i j = cv f2 a b band i j ∧ 0 ≤ cv f1 a b band i j ∧ cv f1 a b band i j ≤ 600 * ((i : Int) + j + 1)
  | s, 0, 0, hs, hi, hj, hb => by
    have hc := costF_bd (hab.1 0 hi) (hab.2.1 0 hj)
    rw [cv, cv, stp_add (by omega) (by omega), stp_add (by omega) (by omega)]
    omega
  | s, 0, j + 1, hs, hi, hj, hb => by
    have hc := costF_bd (hab.1 0 hi) (hab.2.1 (j + 1) hj)
    obtain ⟨e, p0, p1⟩ := cv_in (band := band) hab h1 h2 (0 + j) 0 j rfl hi (by omega) (by omega)
    have hl := hab.2.2
    rw [cv, cv, ← e, stp_add (by omega) (by omega), stp_add (by omega) (by omega)]
    omega
  | s, i + 1, 0, hs, hi, hj, hb => by
    have hc := costF_bd (hab.1 (i + 1) hi) (hab.2.1 0 hj)
    obtain ⟨e, p0, p1⟩ := cv_in (band := band) hab h1 h2 (i + 0) i 0 rfl (by omega) hj (by omega)
    have hl := hab.2.2
    rw [cv, cv, ← e, stp_add (by omega) (by omega), stp_add (by omega) (by omega)]
    omega
  | s, i + 1, j + 1, hs, hi, hj, hb => by
    have hc := costF_bd (hab.1 (i + 1) hi) (hab.2.1 (j + 1) hj)
    have hl := hab.2.2
    obtain ⟨e, p0, p1⟩ := cv_in (band := band) hab h1 h2 (i + j) i j rfl (by omega) (by omega) (by omega)
    have q1 : (cv f1 a b band i (j + 1) = f1 ∧ cv f2 a b band i (j + 1) = f2) ∨ (cv f1 a b band i (j + 1) = cv f2 a b band i (j + 1) ∧ 0 ≤ cv f1 a b band i (j + 1) ∧ cv f1 a b band i (j + 1) ≤ 600 * ((i : Int) + (j + 1 : Nat) + 1)) := by
      by_cases q : band < (((i : Int) - ((j + 1 : Nat) : Int)).natAbs : Int)
      · exact .inl ⟨cv_out q, cv_out q⟩
      · exact .inr (cv_in (band := band) hab h1 h2 (i + (j + 1)) i (j + 1) rfl (by omega) hj (by omega))
    have q2 : (cv f1 a b band (i + 1) j = f1 ∧ cv f2 a b band (i + 1) j = f2) ∨ (cv f1 a b band (i + 1) j = cv f2 a b band (i + 1) j ∧ 0 ≤ cv f1 a b band (i + 1) j ∧ cv f1 a b band (i + 1) j ≤ 600 * (((i + 1 : Nat) : Int) + j + 1)) := by
      by_cases q : band < ((((i + 1 : Nat) : Int) - (j : Int)).natAbs : Int)
      · exact .inl ⟨cv_out q, cv_out q⟩
      · exact .inr (cv_in (band := band) hab h1 h2 ((i + 1) + j) (i + 1) j rfl hi (by omega) (by omega))
    rw [cv, cv, ← e, stp_add (by omega) (by omega), stp_add (by omega) (by omega)]
    omega
termination_by s i j => i + j

-- spec.l09Cost
theorem l09Cost_ok (a : Feat) (b : Feat) (ha : okF a = true) (hb : okF b = true) : Con Tryz.prog 109 [agFeat a, agFeat b] true (I (costF a b)) := by
  have ha' := okF_iff.1 ha
  have hb' := okF_iff.1 hb
  refine fn_ok (fn := Tryz.f109) (nt := 31) Tryz.func109 rfl rfl rfl rfl (by simp [taggedL, tagged]) fun B hB => ?_
  refine aR [(0, .new 2), (1, .new 3)] [2, 3] [2, 3] [.ref 2 0, .ref 3 0] [some (bxFeat a), some (bxFeat b)] [] hB trivial ?_
  refine aR [(5, .call [(true, .any)] true (I ((a.D - b.D).natAbs : Int)))] [2, 3, 5] [2, 3] [.ref 2 0, .ref 3 0, I ((a.D - b.D).natAbs : Int)] [some (bxFeat a), some (bxFeat b)] [inR .i64 (a.D - b.D), Con Tryz.prog 80 [I (a.D - b.D)] true (I ((a.D - b.D).natAbs : Int)) ∧ True] hB ⟨(inR_i64 (by omega) (by omega)), ⟨(l09Size_ok (a.D - b.D) (by omega)), trivial⟩, trivial⟩ ?_
  refine aR [(5, .call [(true, .any)] true (I ((a.X - b.X).natAbs : Int))), (11, .call [(true, .any)] true (I ((a.Y - b.Y).natAbs : Int))), (16, .call [(true, .any), (true, .any)] true (I (min ((a.D - b.D).natAbs : Int) (8 - ((a.D - b.D).natAbs : Int)))))] [4] [] [I ((((a.X - b.X).natAbs : Int) + ((a.Y - b.Y).natAbs : Int)) + (16 * (min ((a.D - b.D).natAbs : Int) (8 - ((a.D - b.D).natAbs : Int)))))] [] [inR .i64 (a.X - b.X), Con Tryz.prog 80 [I (a.X - b.X)] true (I ((a.X - b.X).natAbs : Int)) ∧ True, inR .i64 (a.Y - b.Y), Con Tryz.prog 80 [I (a.Y - b.Y)] true (I ((a.Y - b.Y).natAbs : Int)) ∧ True, inR .i64 (((a.X - b.X).natAbs : Int) + ((a.Y - b.Y).natAbs : Int)), inR .i64 (8 - ((a.D - b.D).natAbs : Int)), Con Tryz.prog 62 [I ((a.D - b.D).natAbs : Int), I (8 - ((a.D - b.D).natAbs : Int))] true (I (min ((a.D - b.D).natAbs : Int) (8 - ((a.D - b.D).natAbs : Int)))) ∧ True, inR .i64 (16 * (min ((a.D - b.D).natAbs : Int) (8 - ((a.D - b.D).natAbs : Int)))), inR .i64 ((((a.X - b.X).natAbs : Int) + ((a.Y - b.Y).natAbs : Int)) + (16 * (min ((a.D - b.D).natAbs : Int) (8 - ((a.D - b.D).natAbs : Int)))))] hB ⟨(inR_i64 (by omega) (by omega)), ⟨(l09Size_ok (a.X - b.X) (by omega)), trivial⟩, (inR_i64 (by omega) (by omega)), ⟨(l09Size_ok (a.Y - b.Y) (by omega)), trivial⟩, (inR_i64 (by omega) (by omega)), (inR_i64 (by omega) (by omega)), ⟨(l00Min_ok ((a.D - b.D).natAbs : Int) (8 - ((a.D - b.D).natAbs : Int))), trivial⟩, (inR_i64 (by omega) (by omega)), (inR_i64 (by omega) (by omega)), trivial⟩ ?_
  refine aw_ret ?_
  refine ae_ret hB (I ((((a.X - b.X).natAbs : Int) + ((a.Y - b.Y).natAbs : Int)) + (16 * (min ((a.D - b.D).natAbs : Int) (8 - ((a.D - b.D).natAbs : Int)))))) (by kernel_rfl) (.inl (by refine congrArg I ?_; first | rfl | (unfold costF; omega))) rfl (fun _ => trivial)


theorem at_set_same {α : Type} [Inhabited α] {xs : List α} {i : Nat} {x : α} (h : i < xs.length) : at_ (xs.set i x) i = x := by simp [at_, h]
theorem at_set_oth {α : Type} [Inhabited α] {xs : List α} {i j : Nat} {x : α} (h : i ≠ j) : at_ (xs.set j x) i = at_ xs i := by
  have h' : ¬ j = i := fun e => h e.symm
  simp [at_, List.getElem?_set, h']

/-- The least cost of the pairs ahead of a pair, after k of three. -/
def lb1 (tb : List (List Int)) (i j : Int) : Int := if 1 ≤ i ∧ 1 ≤ j then min 1099511627776 (at_ (at_ tb (i - 1).toNat) (j - 1).toNat) else 1099511627776
def lb2 (tb : List (List Int)) (i j : Int) : Int := if 1 ≤ i then min (lb1 tb i j) (at_ (at_ tb (i - 1).toNat) (j - 0).toNat) else lb1 tb i j
def lb3 (tb : List (List Int)) (i j : Int) : Int := if 1 ≤ j then min (lb2 tb i j) (at_ (at_ tb (i - 0).toNat) (j - 1).toNat) else lb2 tb i j
def lbk (tb : List (List Int)) (i j : Int) : Nat → Int
  | 0 => 1099511627776
  | 1 => lb1 tb i j
  | 2 => lb2 tb i j
  | _ => lb3 tb i j

theorem set_next {xs : List Int} {i : Int} {f : Nat → Int} {y : Int} (h0 : 0 ≤ i) (hi : i.toNat < xs.length) (h : ∀ j : Nat, (j : Int) < i → at_ xs j = f j) (hy : y = f i.toNat) : ∀ j : Nat, (j : Int) < i + 1 → at_ (xs.set i.toNat y) j = f j := fun j hj => by
  by_cases e : j = i.toNat
  · subst e; simp [at_, hi, hy]
  · have h' : ¬ i.toNat = j := fun q => e q.symm
    have : at_ (xs.set i.toNat y) j = at_ xs j := by simp [at_, List.getElem?_set, h']
    rw [this]; exact h j (by omega)

abbrev farI : Int := 1099511627776
/-- The first n cells of a row of the table. -/
def rowOk (a b : List Feat) (band : Int) (r : List Int) (p n : Nat) : Prop := r.length = b.length ∧ ∀ q, q < n → at_ r q = cv farI a b band p q
/-- The first i rows of the table. -/
def tbOk (a b : List Feat) (band : Int) (tb : List (List Int)) (i : Nat) : Prop := tb.length = a.length ∧ ∀ p, p < i → rowOk a b band (at_ tb p) p b.length
theorem cv_nn {far : Int} (hf : 0 ≤ far) {a b : List Feat} (band : Int) (hab : okAB a b) : ∀ (i j : Nat), i < a.length → j < b.length → 0 ≤ cv far a b band i j
  | 0, 0, hi, hj => by
    have hc := costF_bd (hab.1 0 hi) (hab.2.1 0 hj)
    rw [cv]; unfold stp; split <;> omega
  | 0, j + 1, hi, hj => by
    have hc := costF_bd (hab.1 0 hi) (hab.2.1 (j + 1) hj)
    have := cv_nn hf band hab 0 j hi (by omega)
    rw [cv]; unfold stp; split <;> omega
  | i + 1, 0, hi, hj => by
    have hc := costF_bd (hab.1 (i + 1) hi) (hab.2.1 0 hj)
    have := cv_nn hf band hab i 0 (by omega) hj
    rw [cv]; unfold stp; split <;> omega
  | i + 1, j + 1, hi, hj => by
    have hc := costF_bd (hab.1 (i + 1) hi) (hab.2.1 (j + 1) hj)
    have := cv_nn hf band hab i j (by omega) (by omega)
    have := cv_nn hf band hab i (j + 1) (by omega) (by omega)
    have := cv_nn hf band hab (i + 1) j (by omega) (by omega)
    rw [cv]; unfold stp; split <;> omega
termination_by i j => i + j
/-- What the pairs ahead cost. -/
theorem lb_at {a b : List Feat} {band : Int} {tb : List (List Int)} {i j : Nat} (hab : okAB a b) (h : tbOk a b band tb i) (hr : rowOk a b band (at_ tb i) i j) (hi : i < a.length) (hj : j < b.length) :
    (0 ≤ lb3 tb i j ∧ lb3 tb i j ≤ farI) ∧ cv farI a b band i j = stp farI band i j (if i = 0 ∧ j = 0 then 0 else lb3 tb i j) (costF (at_ a i) (at_ b j)) := by
  have hF : farI = 1099511627776 := rfl
  have e1 : ∀ p q : Nat, p < i → q < b.length → at_ (at_ tb p) q = cv farI a b band p q ∧ 0 ≤ cv farI a b band p q := fun p q hp hq => ⟨(h.2 p hp).2 q hq, cv_nn (by decide) band hab p q (by omega) hq⟩
  have e2 : ∀ q : Nat, q < j → at_ (at_ tb i) q = cv farI a b band i q ∧ 0 ≤ cv farI a b band i q := fun q hq => ⟨hr.2 q hq, cv_nn (by decide) band hab i q hi (by omega)⟩
  rcases i with _ | i <;> rcases j with _ | j
  · refine ⟨?_, by rw [cv]; simp⟩
    simp [lb3, lb2, lb1]
  · have q := e2 j (by omega)
    have e : lb3 tb (0 : Nat) ((j + 1 : Nat) : Int) = min farI (cv farI a b band 0 j) := by
      unfold lb3 lb2 lb1
      rw [if_pos (by omega), if_neg (by omega), if_neg (by omega), show (((j + 1 : Nat) : Int) - 1).toNat = j from by omega, show (((0 : Nat) : Int) - 0).toNat = 0 from rfl, q.1]
    rw [e]
    refine ⟨by omega, ?_⟩
    rw [cv, if_neg (by omega)]
  · have q := e1 i 0 (by omega) hj
    have e : lb3 tb ((i + 1 : Nat) : Int) (0 : Nat) = min farI (cv farI a b band i 0) := by
      unfold lb3 lb2 lb1
      rw [if_neg (by omega), if_pos (by omega), if_neg (by omega), show (((i + 1 : Nat) : Int) - 1).toNat = i from by omega, show (((0 : Nat) : Int) - 0).toNat = 0 from rfl, q.1]
    rw [e]
    refine ⟨by omega, ?_⟩
    rw [cv, if_neg (by omega)]
  · have q1 := e1 i j (by omega) (by omega)
    have q2 := e1 i (j + 1) (by omega) hj
    have q3 := e2 j (by omega)
    have e : lb3 tb ((i + 1 : Nat) : Int) ((j + 1 : Nat) : Int) = min (min (min farI (cv farI a b band i j)) (cv farI a b band i (j + 1))) (cv farI a b band (i + 1) j) := by
      unfold lb3 lb2 lb1
      rw [if_pos (by omega), if_pos (by omega), if_pos (by omega), show (((i + 1 : Nat) : Int) - 1).toNat = i from by omega, show (((j + 1 : Nat) : Int) - 1).toNat = j from by omega, show (((j + 1 : Nat) : Int) - 0).toNat = j + 1 from by omega, show (((i + 1 : Nat) : Int) - 0).toNat = i + 1 from by omega, q1.1, q2.1, q3.1]
    rw [e]
    refine ⟨by omega, ?_⟩
    rw [cv, if_neg (by omega)]
theorem tb_row {a b : List Feat} {band : Int} {tb : List (List Int)} {i m : Nat} (h : tbOk a b band tb i) (hi : i < a.length) (hm : m = b.length) : tbOk a b band (tb.set i (List.replicate m 0)) i ∧ rowOk a b band (at_ (tb.set i (List.replicate m 0)) i) i 0 := by
  refine ⟨⟨by rw [List.length_set]; exact h.1, fun p hp => ?_⟩, ?_, fun q hq => by omega⟩
  · rw [at_set_oth (by omega)]; exact h.2 p hp
  · rw [at_set_same (by rw [h.1]; exact hi)]; simp [hm]
theorem tb_step {a b : List Feat} {band v : Int} {tb : List (List Int)} {i j : Nat} (h : tbOk a b band tb i) (hr : rowOk a b band (at_ tb i) i j) (hi : i < a.length) (hj : j < b.length) (hv : v = cv farI a b band i j) : tbOk a b band (tb.set i ((at_ tb i).set j v)) i ∧ rowOk a b band (at_ (tb.set i ((at_ tb i).set j v)) i) i (j + 1) := by
  refine ⟨⟨by rw [List.length_set]; exact h.1, fun p hp => ?_⟩, ?_, fun q hq => ?_⟩
  · rw [at_set_oth (by omega)]; exact h.2 p hp
  · rw [at_set_same (by rw [h.1]; exact hi), List.length_set]; exact hr.1
  · rw [at_set_same (by rw [h.1]; exact hi)]
    by_cases e : q = j
    · subst e; rw [at_set_same (by rw [hr.1]; exact hj)]; exact hv
    · rw [at_set_oth e]; exact hr.2 q (by omega)
theorem tb_done {a b : List Feat} {band : Int} {tb : List (List Int)} {i n : Nat} (h : tbOk a b band tb i) (hr : rowOk a b band (at_ tb i) i n) (hn : n = b.length) : tbOk a b band tb (i + 1) := by
  subst hn
  refine ⟨h.1, fun p hp => ?_⟩
  by_cases e : p = i
  · subst e; exact hr
  · exact h.2 p (by omega)
theorem tb_nil (a b : List Feat) (band : Int) {n : Nat} (hn : n = a.length) : tbOk a b band (List.replicate n []) 0 := ⟨by simp [hn], fun p hp => by omega⟩

abbrev farS : Int := 1000000000
/-- The first k cells of the table in one list. -/
def flOk (a b : List Feat) (band : Int) (out : List Int) (k : Nat) : Prop := out.length = a.length * b.length ∧ ∀ p q, p < a.length → q < b.length → p * b.length + q < k → at_ out (p * b.length + q) = cv farS a b band p q
def sb0 (i j : Int) : Int := if i = 0 ∧ j = 0 then 0 else 1000000000
def sb1 (out : List Int) (m i j : Int) : Int := if 0 < i ∧ 0 < j then min (sb0 i j) (at_ out ((i - 1) * m + j - 1).toNat) else sb0 i j
def sb2 (out : List Int) (m i j : Int) : Int := if 0 < i then min (sb1 out m i j) (at_ out ((i - 1) * m + j).toNat) else sb1 out m i j
def sb3 (out : List Int) (m i j : Int) : Int := if 0 < j then min (sb2 out m i j) (at_ out (i * m + j - 1).toNat) else sb2 out m i j
theorem fl_lt {p q i j m : Nat} (h : p < i) (hq : q < m) : p * m + q < i * m + j := by
  have : (p + 1) * m ≤ i * m := Nat.mul_le_mul_right _ h
  rw [Nat.succ_mul] at this
  omega
theorem ix_up {i j : Nat} {m : Nat} : (((i + 1 : Nat) : Int) - 1) * (m : Int) = ((i * m : Nat) : Int) := by
  rw [show ((i + 1 : Nat) : Int) - 1 = (i : Int) from by omega, Int.natCast_mul]
theorem cv_le {far : Int} (hf : 1000000000 ≤ far) {a b : List Feat} (band : Int) (hab : okAB a b) {i j : Nat} (hi : i < a.length) (hj : j < b.length) : cv far a b band i j = far ∨ cv far a b band i j ≤ 87000 := by
  by_cases h : band < (((i : Int) - (j : Int)).natAbs : Int)
  · exact .inl (cv_out h)
  · have := (cv_in (band := band) hab hf hf (i + j) i j rfl hi hj (by omega)).2.2
    have hl := hab.2.2
    right; omega
/-- What the pairs ahead cost. -/
theorem sb_at {a b : List Feat} {band : Int} {out : List Int} {i j : Nat} (hab : okAB a b) (h : flOk a b band out (i * b.length + j)) (hi : i < a.length) (hj : j < b.length) :
    (0 ≤ sb3 out b.length i j ∧ (sb3 out b.length i j ≤ 87000 ∨ sb3 out b.length i j = 1000000000)) ∧ cv farS a b band i j = (if sb3 out b.length i j = 1000000000 ∨ band < (((i : Int) - (j : Int)).natAbs : Int) then 1000000000 else sb3 out b.length i j + costF (at_ a i) (at_ b j)) := by
  have hF : farS = 1000000000 := rfl
  have e1 : ∀ p q : Nat, p < i → q < b.length → at_ out (p * b.length + q) = cv farS a b band p q ∧ 0 ≤ cv farS a b band p q ∧ (cv farS a b band p q = farS ∨ cv farS a b band p q ≤ 87000) := fun p q hp hq => ⟨h.2 p q (by omega) hq (fl_lt hp hq), cv_nn (by decide) band hab p q (by omega) hq, cv_le (by decide) band hab (by omega) hq⟩
  have e2 : ∀ q : Nat, q < j → at_ out (i * b.length + q) = cv farS a b band i q ∧ 0 ≤ cv farS a b band i q ∧ (cv farS a b band i q = farS ∨ cv farS a b band i q ≤ 87000) := fun q hq => ⟨h.2 i q hi (by omega) (by omega), cv_nn (by decide) band hab i q hi (by omega), cv_le (by decide) band hab hi (by omega)⟩
  have hst : ∀ x c : Int, x ≤ farS → stp farS band i j x c = (if x = 1000000000 ∨ band < (((i : Int) - (j : Int)).natAbs : Int) then 1000000000 else x + c) := fun x c hx => by
    unfold stp; split <;> split <;> omega
  rcases i with _ | i <;> rcases j with _ | j
  · have e : sb3 out b.length (0 : Nat) (0 : Nat) = 0 := by simp [sb3, sb2, sb1, sb0]
    rw [e]
    refine ⟨by omega, ?_⟩
    rw [cv, hst _ _ (by omega)]
  · have q := e2 j (by omega)
    have e : sb3 out b.length (0 : Nat) ((j + 1 : Nat) : Int) = min farS (cv farS a b band 0 j) := by
      unfold sb3 sb2 sb1 sb0
      rw [if_pos (by omega), if_neg (by omega), if_neg (by omega), if_neg (by omega), show (((0 : Nat) : Int) * (b.length : Int) + ((j + 1 : Nat) : Int) - 1).toNat = 0 * b.length + j from by rw [show ((0 : Nat) : Int) * (b.length : Int) = 0 from Int.zero_mul _, Nat.zero_mul]; omega, q.1]
    rw [e]
    refine ⟨by omega, ?_⟩
    rw [cv, hst _ _ (by omega)]
  · have q := e1 i 0 (by omega) hj
    have e : sb3 out b.length ((i + 1 : Nat) : Int) (0 : Nat) = min farS (cv farS a b band i 0) := by
      unfold sb3 sb2 sb1 sb0
      rw [if_neg (by omega), if_pos (by omega), if_neg (by omega), if_neg (by omega), ix_up (j := 0), show (((i * b.length : Nat) : Int) + ((0 : Nat) : Int)).toNat = i * b.length + 0 from by omega, q.1]
    rw [e]
    refine ⟨by omega, ?_⟩
    rw [cv, hst _ _ (by omega)]
  · have q1 := e1 i j (by omega) (by omega)
    have q2 := e1 i (j + 1) (by omega) hj
    have q3 := e2 j (by omega)
    have e : sb3 out b.length ((i + 1 : Nat) : Int) ((j + 1 : Nat) : Int) = min (min (min farS (cv farS a b band i j)) (cv farS a b band i (j + 1))) (cv farS a b band (i + 1) j) := by
      unfold sb3 sb2 sb1 sb0
      rw [if_pos (by omega), if_pos (by omega), if_pos (by omega), if_neg (by omega), ix_up (j := 0), show (((i * b.length : Nat) : Int) + ((j + 1 : Nat) : Int) - 1).toNat = i * b.length + j from by omega, show (((i * b.length : Nat) : Int) + ((j + 1 : Nat) : Int)).toNat = i * b.length + (j + 1) from by omega, show (((i + 1 : Nat) : Int) * (b.length : Int) + ((j + 1 : Nat) : Int) - 1).toNat = (i + 1) * b.length + j from by rw [← Int.natCast_mul]; omega, q1.1, q2.1, q3.1]
    rw [e]
    refine ⟨by omega, ?_⟩
    rw [cv, hst _ _ (by omega)]
theorem fl_nn {a b : List Feat} {band : Int} {out : List Int} {k0 k : Nat} (hab : okAB a b) (h : flOk a b band out k0) (hM : 0 < b.length) (hk : k < k0) (hk2 : k < a.length * b.length) : 0 ≤ at_ out k := by
  have h1 := Nat.div_add_mod k b.length
  have h2 := Nat.mod_lt k hM
  have h3 : k / b.length < a.length := (Nat.div_lt_iff_lt_mul hM).2 hk2
  rw [Nat.mul_comm] at h1
  rw [← h1, h.2 _ _ h3 h2 (by omega)]
  exact cv_nn (by decide) band hab _ _ h3 h2
theorem fl_uniq {p q i j m : Nat} (hq : q < m) (hj : j < m) (h : p * m + q = i * m + j) : p = i ∧ q = j := by
  have hp : p = i := by
    rcases Nat.lt_trichotomy p i with e | e | e
    · have := fl_lt (j := j) e hq; omega
    · exact e
    · have := fl_lt (j := q) e hj; omega
  subst hp
  exact ⟨rfl, by omega⟩
theorem fl_step {a b : List Feat} {band v : Int} {out : List Int} {i j : Nat} {k : Nat} (h : flOk a b band out (i * b.length + j)) (hi : i < a.length) (hj : j < b.length) (hk : k = i * b.length + j) (hv : v = cv farS a b band i j) : flOk a b band (out.set k v) (i * b.length + (j + 1)) := by
  subst hk
  refine ⟨by rw [List.length_set]; exact h.1, fun p q hp hq hk => ?_⟩
  by_cases e : p * b.length + q = i * b.length + j
  · obtain ⟨rfl, rfl⟩ := fl_uniq hq hj e
    have : p * b.length + q < a.length * b.length + 0 := fl_lt hi hj
    rw [at_set_same (by rw [h.1]; omega)]; exact hv
  · rw [at_set_oth e]; exact h.2 p q hp hq (by omega)
theorem fl_done {a b : List Feat} {band : Int} {out : List Int} {i n : Nat} (h : flOk a b band out (i * b.length + n)) (hn : n = b.length) : flOk a b band out ((i + 1) * b.length) := by
  subst hn; rw [Nat.succ_mul]; exact h
theorem fl_all {a b : List Feat} {band : Int} {out : List Int} {i j : Nat} (h : flOk a b band out (a.length * b.length)) (hi : i < a.length) (hj : j < b.length) : at_ out (i * b.length + j) = cv farS a b band i j := h.2 i j hi hj (by have := fl_lt (j := 0) hi hj; omega)
end Go.Proofs.YtjiflhglbephbaaGreat.Ax
