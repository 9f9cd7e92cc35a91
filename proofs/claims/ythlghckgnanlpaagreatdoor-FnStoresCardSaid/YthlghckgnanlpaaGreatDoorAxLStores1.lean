/- Contracts that the statement FnStores reaches, part 1. No conditions. -/
import Derived.Test.YthlghckgnanlpaaGreatDoorAxO
import Derived.Test.YthlghckgnanlpaaGreatDoorShelf
import Derived.Test.YthlghckgnanlpaaGreatDoorTie
import Derived.Test.YthlghckgnanlpaaGreatDoorCards
import Derived.LaidMore
import Derived.Lay
import Derived.Lib.IndexBytes
import Derived.Lib.ItoaNum
import Derived.Lib.ParseIntBCases
import Derived.Lib.ParseIntBTie
import Derived.Lib.SplitLaws
import Derived.OpenShut
import Derived.SevenTiedAt
import Derived.Stop.Joined
import Derived.Test.YthlghckgnanlpaaGreatDoorAxBd
import Derived.Test.YthlghckgnanlpaaGreatDoorAxGr
import Derived.Test.YthlghckgnanlpaaGreatDoorAxR
import Derived.Test.YthlghckgnanlpaaGreatDoorAxS
import Derived.Test.YthlghckgnanlpaaGreatDoorAxV
namespace Go.Proofs.YthlghckgnanlpaaGreatDoor.Ax
open Go.RowKit Go.ChangeShapes Go.WideShapes
set_option linter.unusedVariables false
set_option linter.unusedSimpArgs false


def cU8 (x : Int) : List AV := [.val (.int .u8 x)]
def fU8 (xs : List Int) (i : Nat) : List AV := cU8 (at_ xs i)
def slU8 (fr : Bool) (xs : List Int) : AV := .sl fr 1 xs.length (fU8 xs)
theorem tagcU8 (t : Bool) (x : Int) : taggedL t (cU8 x) := by simp [cU8, taggedL, tagged]
theorem tagU8 (t : Bool) (xs : List Int) : tagged t (slU8 t xs) := by simp only [slU8, tagged]; exact ⟨trivial, fun i _ => tagcU8 t _⟩
theorem lenU8 (fr : Bool) (xs : List Int) : lenA noOb (slU8 fr xs) = some xs.length := rfl
abbrev tAU8 (xs : List Int) : Ob := .arr 1 xs.length (fU8 xs)
def cI (x : Int) : List AV := [I x]
def fI (xs : List Int) (i : Nat) : List AV := cI (at_ xs i)
def slI (fr : Bool) (xs : List Int) : AV := .sl fr 1 xs.length (fI xs)
theorem tagcI (t : Bool) (x : Int) : taggedL t (cI x) := by simp [cI, taggedL, tagged]
theorem tagI (t : Bool) (xs : List Int) : tagged t (slI t xs) := by simp only [slI, tagged]; exact ⟨trivial, fun i _ => tagcI t _⟩
theorem lenI (fr : Bool) (xs : List Int) : lenA noOb (slI fr xs) = some xs.length := rfl
abbrev tAI (xs : List Int) : Ob := .arr 1 xs.length (fI xs)
def cS (x : ByteArray) : List AV := [Sv x]
def fS (xs : List ByteArray) (i : Nat) : List AV := cS (at_ xs i)
def slS (fr : Bool) (xs : List ByteArray) : AV := .sl fr 1 xs.length (fS xs)
theorem tagcS (t : Bool) (x : ByteArray) : taggedL t (cS x) := by simp [cS, taggedL, tagged]
theorem tagS (t : Bool) (xs : List ByteArray) : tagged t (slS t xs) := by simp only [slS, tagged]; exact ⟨trivial, fun i _ => tagcS t _⟩
theorem lenS (fr : Bool) (xs : List ByteArray) : lenA noOb (slS fr xs) = some xs.length := rfl
abbrev tAS (xs : List ByteArray) : Ob := .arr 1 xs.length (fS xs)
structure Feat where
  X : Int
  Y : Int
  D : Int
deriving DecidableEq, Inhabited
def cFeat (x : Feat) : List AV := [I x.X, I x.Y, I x.D]
def fFeat (xs : List Feat) (i : Nat) : List AV := cFeat (at_ xs i)
def slFeat (fr : Bool) (xs : List Feat) : AV := .sl fr 3 xs.length (fFeat xs)
theorem tagcFeat (t : Bool) (x : Feat) : taggedL t (cFeat x) := by simp [cFeat, taggedL, tagged]
theorem tagFeat (t : Bool) (xs : List Feat) : tagged t (slFeat t xs) := by simp only [slFeat, tagged]; exact ⟨trivial, fun i _ => tagcFeat t _⟩
theorem lenFeat (fr : Bool) (xs : List Feat) : lenA noOb (slFeat fr xs) = some xs.length := rfl
abbrev bxFeat (x : Feat) : Ob := .box [I x.X, I x.Y, I x.D]
abbrev agFeat (x : Feat) : AV := .agg [I x.X, I x.Y, I x.D]
abbrev tAFeat (xs : List Feat) : Ob := .arr 3 xs.length (fFeat xs)
def cLFeat (fr : Bool) (x : List Feat) : List AV := [slFeat fr x]
def fLFeat (fr : Bool) (xs : List (List Feat)) (i : Nat) : List AV := cLFeat fr (at_ xs i)
def slLFeat (fr : Bool) (xs : List (List Feat)) : AV := .sl fr 1 xs.length (fLFeat fr xs)
theorem tagcLFeat (t : Bool) (x : List Feat) : taggedL t (cLFeat t x) := by simp [cLFeat, taggedL, tagged, tagFeat]
theorem tagLFeat (t : Bool) (xs : List (List Feat)) : tagged t (slLFeat t xs) := by simp only [slLFeat, tagged]; exact ⟨trivial, fun i _ => tagcLFeat t _⟩
theorem lenLFeat (fr : Bool) (xs : List (List Feat)) : lenA noOb (slLFeat fr xs) = some xs.length := rfl
theorem idsLFeat (fr : Bool) (x : List Feat) : AV.idsL (cLFeat fr x) = [] := rfl
theorem leLFeat (fr : Bool) (x : List Feat) (ob : Nat → Option Ob) : leL ob false (cLFeat fr x) (cLFeat false x) := (And.intro (And.intro (fun h => by cases h) (And.intro rfl (And.intro rfl (fun i _ => .inl rfl)))) rfl)
abbrev tALFeat (fr : Bool) (xs : List (List Feat)) : Ob := .arr 1 xs.length (fLFeat fr xs)
structure Template where
  Label : ByteArray
  Feats : List Feat
deriving DecidableEq, Inhabited
def cTemplate (fr : Bool) (x : Template) : List AV := [Sv x.Label, slFeat fr x.Feats]
def fTemplate (fr : Bool) (xs : List Template) (i : Nat) : List AV := cTemplate fr (at_ xs i)
def slTemplate (fr : Bool) (xs : List Template) : AV := .sl fr 2 xs.length (fTemplate fr xs)
theorem tagcTemplate (t : Bool) (x : Template) : taggedL t (cTemplate t x) := by simp [cTemplate, taggedL, tagged, tagFeat]
theorem tagTemplate (t : Bool) (xs : List Template) : tagged t (slTemplate t xs) := by simp only [slTemplate, tagged]; exact ⟨trivial, fun i _ => tagcTemplate t _⟩
theorem lenTemplate (fr : Bool) (xs : List Template) : lenA noOb (slTemplate fr xs) = some xs.length := rfl
theorem idsTemplate (fr : Bool) (x : Template) : AV.idsL (cTemplate fr x) = [] := rfl
theorem leTemplate (fr : Bool) (x : Template) (ob : Nat → Option Ob) : leL ob false (cTemplate fr x) (cTemplate false x) := (And.intro rfl (And.intro (And.intro (fun h => by cases h) (And.intro rfl (And.intro rfl (fun i _ => .inl rfl)))) rfl))
abbrev bxTemplate (x : Template) : Ob := .box [Sv x.Label, slFeat false x.Feats]
abbrev agTemplate (x : Template) : AV := .agg [Sv x.Label, slFeat false x.Feats]
abbrev bxTemplateT (x : Template) : Ob := .box [Sv x.Label, slFeat true x.Feats]
abbrev agTemplateT (x : Template) : AV := .agg [Sv x.Label, slFeat true x.Feats]
abbrev tATemplate (fr : Bool) (xs : List Template) : Ob := .arr 2 xs.length (fTemplate fr xs)
def cLTemplate (fr : Bool) (x : List Template) : List AV := [slTemplate fr x]
def fLTemplate (fr : Bool) (xs : List (List Template)) (i : Nat) : List AV := cLTemplate fr (at_ xs i)
def slLTemplate (fr : Bool) (xs : List (List Template)) : AV := .sl fr 1 xs.length (fLTemplate fr xs)
theorem tagcLTemplate (t : Bool) (x : List Template) : taggedL t (cLTemplate t x) := by simp [cLTemplate, taggedL, tagged, tagTemplate]
theorem tagLTemplate (t : Bool) (xs : List (List Template)) : tagged t (slLTemplate t xs) := by simp only [slLTemplate, tagged]; exact ⟨trivial, fun i _ => tagcLTemplate t _⟩
theorem lenLTemplate (fr : Bool) (xs : List (List Template)) : lenA noOb (slLTemplate fr xs) = some xs.length := rfl
theorem idsLTemplate (fr : Bool) (x : List Template) : AV.idsL (cLTemplate fr x) = [] := rfl
theorem leLTemplate (fr : Bool) (x : List Template) (ob : Nat → Option Ob) : leL ob false (cLTemplate fr x) (cLTemplate false x) := (And.intro (And.intro (fun h => by cases h) (And.intro rfl (And.intro rfl (fun i _ => .inr ⟨idsTemplate _ _, leTemplate _ _ _⟩)))) rfl)
abbrev tALTemplate (fr : Bool) (xs : List (List Template)) : Ob := .arr 1 xs.length (fLTemplate fr xs)
structure Store where
  Band : Int
  Templates : List Template
deriving DecidableEq, Inhabited
def cStore (fr : Bool) (x : Store) : List AV := [I x.Band, slTemplate fr x.Templates]
def fStore (fr : Bool) (xs : List Store) (i : Nat) : List AV := cStore fr (at_ xs i)
def slStore (fr : Bool) (xs : List Store) : AV := .sl fr 2 xs.length (fStore fr xs)
theorem tagcStore (t : Bool) (x : Store) : taggedL t (cStore t x) := by simp [cStore, taggedL, tagged, tagTemplate]
theorem tagStore (t : Bool) (xs : List Store) : tagged t (slStore t xs) := by simp only [slStore, tagged]; exact ⟨trivial, fun i _ => tagcStore t _⟩
theorem lenStore (fr : Bool) (xs : List Store) : lenA noOb (slStore fr xs) = some xs.length := rfl
theorem idsStore (fr : Bool) (x : Store) : AV.idsL (cStore fr x) = [] := rfl
theorem leStore (fr : Bool) (x : Store) (ob : Nat → Option Ob) : leL ob false (cStore fr x) (cStore false x) := (And.intro rfl (And.intro (And.intro (fun h => by cases h) (And.intro rfl (And.intro rfl (fun i _ => .inr ⟨idsTemplate _ _, leTemplate _ _ _⟩)))) rfl))
abbrev bxStore (x : Store) : Ob := .box [I x.Band, slTemplate false x.Templates]
abbrev agStore (x : Store) : AV := .agg [I x.Band, slTemplate false x.Templates]
abbrev bxStoreT (x : Store) : Ob := .box [I x.Band, slTemplate true x.Templates]
abbrev agStoreT (x : Store) : AV := .agg [I x.Band, slTemplate true x.Templates]
abbrev tAStore (fr : Bool) (xs : List Store) : Ob := .arr 2 xs.length (fStore fr xs)
def cLU8 (fr : Bool) (x : List Int) : List AV := [slU8 fr x]
def fLU8 (fr : Bool) (xs : List (List Int)) (i : Nat) : List AV := cLU8 fr (at_ xs i)
def slLU8 (fr : Bool) (xs : List (List Int)) : AV := .sl fr 1 xs.length (fLU8 fr xs)
theorem tagcLU8 (t : Bool) (x : List Int) : taggedL t (cLU8 t x) := by simp [cLU8, taggedL, tagged, tagU8]
theorem tagLU8 (t : Bool) (xs : List (List Int)) : tagged t (slLU8 t xs) := by simp only [slLU8, tagged]; exact ⟨trivial, fun i _ => tagcLU8 t _⟩
theorem lenLU8 (fr : Bool) (xs : List (List Int)) : lenA noOb (slLU8 fr xs) = some xs.length := rfl
theorem idsLU8 (fr : Bool) (x : List Int) : AV.idsL (cLU8 fr x) = [] := rfl
theorem leLU8 (fr : Bool) (x : List Int) (ob : Nat → Option Ob) : leL ob false (cLU8 fr x) (cLU8 false x) := (And.intro (And.intro (fun h => by cases h) (And.intro rfl (And.intro rfl (fun i _ => .inl rfl)))) rfl)
abbrev tALU8 (fr : Bool) (xs : List (List Int)) : Ob := .arr 1 xs.length (fLU8 fr xs)
def cU64 (x : Int) : List AV := [.val (.int .u64 x)]
def fU64 (xs : List Int) (i : Nat) : List AV := cU64 (at_ xs i)
def slU64 (fr : Bool) (xs : List Int) : AV := .sl fr 1 xs.length (fU64 xs)
theorem tagcU64 (t : Bool) (x : Int) : taggedL t (cU64 x) := by simp [cU64, taggedL, tagged]
theorem tagU64 (t : Bool) (xs : List Int) : tagged t (slU64 t xs) := by simp only [slU64, tagged]; exact ⟨trivial, fun i _ => tagcU64 t _⟩
theorem lenU64 (fr : Bool) (xs : List Int) : lenA noOb (slU64 fr xs) = some xs.length := rfl
abbrev tAU64 (xs : List Int) : Ob := .arr 1 xs.length (fU64 xs)
structure l00Src where
  code : List Int
  atx : Int
  seed : Int
deriving DecidableEq, Inhabited
def cl00Src (fr : Bool) (x : l00Src) : List AV := [slU8 fr x.code, I x.atx, .val (.int .u64 x.seed)]
def fl00Src (fr : Bool) (xs : List l00Src) (i : Nat) : List AV := cl00Src fr (at_ xs i)
def sll00Src (fr : Bool) (xs : List l00Src) : AV := .sl fr 3 xs.length (fl00Src fr xs)
theorem tagcl00Src (t : Bool) (x : l00Src) : taggedL t (cl00Src t x) := by simp [cl00Src, taggedL, tagged, tagU8]
theorem tagl00Src (t : Bool) (xs : List l00Src) : tagged t (sll00Src t xs) := by simp only [sll00Src, tagged]; exact ⟨trivial, fun i _ => tagcl00Src t _⟩
theorem lenl00Src (fr : Bool) (xs : List l00Src) : lenA noOb (sll00Src fr xs) = some xs.length := rfl
theorem idsl00Src (fr : Bool) (x : l00Src) : AV.idsL (cl00Src fr x) = [] := rfl
theorem lel00Src (fr : Bool) (x : l00Src) (ob : Nat → Option Ob) : leL ob false (cl00Src fr x) (cl00Src false x) := (And.intro (And.intro (fun h => by cases h) (And.intro rfl (And.intro rfl (fun i _ => .inl rfl)))) (And.intro rfl (And.intro rfl rfl)))
abbrev bxl00Src (x : l00Src) : Ob := .box [slU8 false x.code, I x.atx, .val (.int .u64 x.seed)]
abbrev agl00Src (x : l00Src) : AV := .agg [slU8 false x.code, I x.atx, .val (.int .u64 x.seed)]
abbrev bxl00SrcT (x : l00Src) : Ob := .box [slU8 true x.code, I x.atx, .val (.int .u64 x.seed)]
abbrev agl00SrcT (x : l00Src) : AV := .agg [slU8 true x.code, I x.atx, .val (.int .u64 x.seed)]
abbrev tAl00Src (fr : Bool) (xs : List l00Src) : Ob := .arr 3 xs.length (fl00Src fr xs)
structure Point where
  X : Int
  Y : Int
  T : Int
deriving DecidableEq, Inhabited
def cPoint (x : Point) : List AV := [I x.X, I x.Y, I x.T]
def fPoint (xs : List Point) (i : Nat) : List AV := cPoint (at_ xs i)
def slPoint (fr : Bool) (xs : List Point) : AV := .sl fr 3 xs.length (fPoint xs)
theorem tagcPoint (t : Bool) (x : Point) : taggedL t (cPoint x) := by simp [cPoint, taggedL, tagged]
theorem tagPoint (t : Bool) (xs : List Point) : tagged t (slPoint t xs) := by simp only [slPoint, tagged]; exact ⟨trivial, fun i _ => tagcPoint t _⟩
theorem lenPoint (fr : Bool) (xs : List Point) : lenA noOb (slPoint fr xs) = some xs.length := rfl
abbrev bxPoint (x : Point) : Ob := .box [I x.X, I x.Y, I x.T]
abbrev agPoint (x : Point) : AV := .agg [I x.X, I x.Y, I x.T]
abbrev tAPoint (xs : List Point) : Ob := .arr 3 xs.length (fPoint xs)
def cLPoint (fr : Bool) (x : List Point) : List AV := [slPoint fr x]
def fLPoint (fr : Bool) (xs : List (List Point)) (i : Nat) : List AV := cLPoint fr (at_ xs i)
def slLPoint (fr : Bool) (xs : List (List Point)) : AV := .sl fr 1 xs.length (fLPoint fr xs)
theorem tagcLPoint (t : Bool) (x : List Point) : taggedL t (cLPoint t x) := by simp [cLPoint, taggedL, tagged, tagPoint]
theorem tagLPoint (t : Bool) (xs : List (List Point)) : tagged t (slLPoint t xs) := by simp only [slLPoint, tagged]; exact ⟨trivial, fun i _ => tagcLPoint t _⟩
theorem lenLPoint (fr : Bool) (xs : List (List Point)) : lenA noOb (slLPoint fr xs) = some xs.length := rfl
theorem idsLPoint (fr : Bool) (x : List Point) : AV.idsL (cLPoint fr x) = [] := rfl
theorem leLPoint (fr : Bool) (x : List Point) (ob : Nat → Option Ob) : leL ob false (cLPoint fr x) (cLPoint false x) := (And.intro (And.intro (fun h => by cases h) (And.intro rfl (And.intro rfl (fun i _ => .inl rfl)))) rfl)
abbrev tALPoint (fr : Bool) (xs : List (List Point)) : Ob := .arr 1 xs.length (fLPoint fr xs)
structure Stroke where
  Points : List Point
deriving DecidableEq, Inhabited
def cStroke (fr : Bool) (x : Stroke) : List AV := [slPoint fr x.Points]
def fStroke (fr : Bool) (xs : List Stroke) (i : Nat) : List AV := cStroke fr (at_ xs i)
def slStroke (fr : Bool) (xs : List Stroke) : AV := .sl fr 1 xs.length (fStroke fr xs)
theorem tagcStroke (t : Bool) (x : Stroke) : taggedL t (cStroke t x) := by simp [cStroke, taggedL, tagged, tagPoint]
theorem tagStroke (t : Bool) (xs : List Stroke) : tagged t (slStroke t xs) := by simp only [slStroke, tagged]; exact ⟨trivial, fun i _ => tagcStroke t _⟩
theorem lenStroke (fr : Bool) (xs : List Stroke) : lenA noOb (slStroke fr xs) = some xs.length := rfl
theorem idsStroke (fr : Bool) (x : Stroke) : AV.idsL (cStroke fr x) = [] := rfl
theorem leStroke (fr : Bool) (x : Stroke) (ob : Nat → Option Ob) : leL ob false (cStroke fr x) (cStroke false x) := (And.intro (And.intro (fun h => by cases h) (And.intro rfl (And.intro rfl (fun i _ => .inl rfl)))) rfl)
abbrev tAStroke (fr : Bool) (xs : List Stroke) : Ob := .arr 1 xs.length (fStroke fr xs)
def cLStroke (fr : Bool) (x : List Stroke) : List AV := [slStroke fr x]
def fLStroke (fr : Bool) (xs : List (List Stroke)) (i : Nat) : List AV := cLStroke fr (at_ xs i)
def slLStroke (fr : Bool) (xs : List (List Stroke)) : AV := .sl fr 1 xs.length (fLStroke fr xs)
theorem tagcLStroke (t : Bool) (x : List Stroke) : taggedL t (cLStroke t x) := by simp [cLStroke, taggedL, tagged, tagStroke]
theorem tagLStroke (t : Bool) (xs : List (List Stroke)) : tagged t (slLStroke t xs) := by simp only [slLStroke, tagged]; exact ⟨trivial, fun i _ => tagcLStroke t _⟩
theorem lenLStroke (fr : Bool) (xs : List (List Stroke)) : lenA noOb (slLStroke fr xs) = some xs.length := rfl
theorem idsLStroke (fr : Bool) (x : List Stroke) : AV.idsL (cLStroke fr x) = [] := rfl
theorem leLStroke (fr : Bool) (x : List Stroke) (ob : Nat → Option Ob) : leL ob false (cLStroke fr x) (cLStroke false x) := (And.intro (And.intro (fun h => by cases h) (And.intro rfl (And.intro rfl (fun i _ => .inr ⟨idsStroke _ _, leStroke _ _ _⟩)))) rfl)
abbrev tALStroke (fr : Bool) (xs : List (List Stroke)) : Ob := .arr 1 xs.length (fLStroke fr xs)
structure Ink where
  Strokes : List Stroke
deriving DecidableEq, Inhabited
def cInk (fr : Bool) (x : Ink) : List AV := [slStroke fr x.Strokes]
def fInk (fr : Bool) (xs : List Ink) (i : Nat) : List AV := cInk fr (at_ xs i)
def slInk (fr : Bool) (xs : List Ink) : AV := .sl fr 1 xs.length (fInk fr xs)
theorem tagcInk (t : Bool) (x : Ink) : taggedL t (cInk t x) := by simp [cInk, taggedL, tagged, tagStroke]
theorem tagInk (t : Bool) (xs : List Ink) : tagged t (slInk t xs) := by simp only [slInk, tagged]; exact ⟨trivial, fun i _ => tagcInk t _⟩
theorem lenInk (fr : Bool) (xs : List Ink) : lenA noOb (slInk fr xs) = some xs.length := rfl
theorem idsInk (fr : Bool) (x : Ink) : AV.idsL (cInk fr x) = [] := rfl
theorem leInk (fr : Bool) (x : Ink) (ob : Nat → Option Ob) : leL ob false (cInk fr x) (cInk false x) := (And.intro (And.intro (fun h => by cases h) (And.intro rfl (And.intro rfl (fun i _ => .inr ⟨idsStroke _ _, leStroke _ _ _⟩)))) rfl)
abbrev tAInk (fr : Bool) (xs : List Ink) : Ob := .arr 1 xs.length (fInk fr xs)
structure Match where
  Index : Int
  Cost : Int
deriving DecidableEq, Inhabited
def cMatch (x : Match) : List AV := [I x.Index, I x.Cost]
def fMatch (xs : List Match) (i : Nat) : List AV := cMatch (at_ xs i)
def slMatch (fr : Bool) (xs : List Match) : AV := .sl fr 2 xs.length (fMatch xs)
theorem tagcMatch (t : Bool) (x : Match) : taggedL t (cMatch x) := by simp [cMatch, taggedL, tagged]
theorem tagMatch (t : Bool) (xs : List Match) : tagged t (slMatch t xs) := by simp only [slMatch, tagged]; exact ⟨trivial, fun i _ => tagcMatch t _⟩
theorem lenMatch (fr : Bool) (xs : List Match) : lenA noOb (slMatch fr xs) = some xs.length := rfl
abbrev bxMatch (x : Match) : Ob := .box [I x.Index, I x.Cost]
abbrev agMatch (x : Match) : AV := .agg [I x.Index, I x.Cost]
abbrev tAMatch (xs : List Match) : Ob := .arr 2 xs.length (fMatch xs)
def cLI (fr : Bool) (x : List Int) : List AV := [slI fr x]
def fLI (fr : Bool) (xs : List (List Int)) (i : Nat) : List AV := cLI fr (at_ xs i)
def slLI (fr : Bool) (xs : List (List Int)) : AV := .sl fr 1 xs.length (fLI fr xs)
theorem tagcLI (t : Bool) (x : List Int) : taggedL t (cLI t x) := by simp [cLI, taggedL, tagged, tagI]
theorem tagLI (t : Bool) (xs : List (List Int)) : tagged t (slLI t xs) := by simp only [slLI, tagged]; exact ⟨trivial, fun i _ => tagcLI t _⟩
theorem lenLI (fr : Bool) (xs : List (List Int)) : lenA noOb (slLI fr xs) = some xs.length := rfl
theorem idsLI (fr : Bool) (x : List Int) : AV.idsL (cLI fr x) = [] := rfl
theorem leLI (fr : Bool) (x : List Int) (ob : Nat → Option Ob) : leL ob false (cLI fr x) (cLI false x) := (And.intro (And.intro (fun h => by cases h) (And.intro rfl (And.intro rfl (fun i _ => .inl rfl)))) rfl)
abbrev tALI (fr : Bool) (xs : List (List Int)) : Ob := .arr 1 xs.length (fLI fr xs)
structure Arr2I where
  a0 : Int
  a1 : Int
deriving DecidableEq, Inhabited
def cArr2I (x : Arr2I) : List AV := [I x.a0, I x.a1]
def fArr2I (xs : List Arr2I) (i : Nat) : List AV := cArr2I (at_ xs i)
def slArr2I (fr : Bool) (xs : List Arr2I) : AV := .sl fr 2 xs.length (fArr2I xs)
theorem tagcArr2I (t : Bool) (x : Arr2I) : taggedL t (cArr2I x) := by simp [cArr2I, taggedL, tagged]
theorem tagArr2I (t : Bool) (xs : List Arr2I) : tagged t (slArr2I t xs) := by simp only [slArr2I, tagged]; exact ⟨trivial, fun i _ => tagcArr2I t _⟩
theorem lenArr2I (fr : Bool) (xs : List Arr2I) : lenA noOb (slArr2I fr xs) = some xs.length := rfl
abbrev bxArr2I (x : Arr2I) : Ob := .box [I x.a0, I x.a1]
abbrev agArr2I (x : Arr2I) : AV := .agg [I x.a0, I x.a1]
abbrev tAArr2I (xs : List Arr2I) : Ob := .arr 2 xs.length (fArr2I xs)
structure Arr3Arr2I where
  a0 : Arr2I
  a1 : Arr2I
  a2 : Arr2I
deriving DecidableEq, Inhabited
def cArr3Arr2I (x : Arr3Arr2I) : List AV := [I x.a0.a0, I x.a0.a1, I x.a1.a0, I x.a1.a1, I x.a2.a0, I x.a2.a1]
def fArr3Arr2I (xs : List Arr3Arr2I) (i : Nat) : List AV := cArr3Arr2I (at_ xs i)
def slArr3Arr2I (fr : Bool) (xs : List Arr3Arr2I) : AV := .sl fr 6 xs.length (fArr3Arr2I xs)
theorem tagcArr3Arr2I (t : Bool) (x : Arr3Arr2I) : taggedL t (cArr3Arr2I x) := by simp [cArr3Arr2I, taggedL, tagged]
theorem tagArr3Arr2I (t : Bool) (xs : List Arr3Arr2I) : tagged t (slArr3Arr2I t xs) := by simp only [slArr3Arr2I, tagged]; exact ⟨trivial, fun i _ => tagcArr3Arr2I t _⟩
theorem lenArr3Arr2I (fr : Bool) (xs : List Arr3Arr2I) : lenA noOb (slArr3Arr2I fr xs) = some xs.length := rfl
abbrev bxArr3Arr2I (x : Arr3Arr2I) : Ob := .box [I x.a0.a0, I x.a0.a1, I x.a1.a0, I x.a1.a1, I x.a2.a0, I x.a2.a1]
abbrev agArr3Arr2I (x : Arr3Arr2I) : AV := .agg [I x.a0.a0, I x.a0.a1, I x.a1.a0, I x.a1.a1, I x.a2.a0, I x.a2.a1]
abbrev tAArr3Arr2I (xs : List Arr3Arr2I) : Ob := .arr 6 xs.length (fArr3Arr2I xs)
structure Pair where
  I : Int
  J : Int
deriving DecidableEq, Inhabited
def cPair (x : Pair) : List AV := [I x.I, I x.J]
def fPair (xs : List Pair) (i : Nat) : List AV := cPair (at_ xs i)
def slPair (fr : Bool) (xs : List Pair) : AV := .sl fr 2 xs.length (fPair xs)
theorem tagcPair (t : Bool) (x : Pair) : taggedL t (cPair x) := by simp [cPair, taggedL, tagged]
theorem tagPair (t : Bool) (xs : List Pair) : tagged t (slPair t xs) := by simp only [slPair, tagged]; exact ⟨trivial, fun i _ => tagcPair t _⟩
theorem lenPair (fr : Bool) (xs : List Pair) : lenA noOb (slPair fr xs) = some xs.length := rfl
abbrev bxPair (x : Pair) : Ob := .box [I x.I, I x.J]
abbrev agPair (x : Pair) : AV := .agg [I x.I, I x.J]
abbrev tAPair (xs : List Pair) : Ob := .arr 2 xs.length (fPair xs)

-- laws.a2Long
theorem a2Long_ok (code : List Int) (more : List Int) : Con Tryz.prog 8 [slU8 false code, slU8 false more] true (Bv (decide (3000 < (code.length : Int) ∨ 3000 < (more.length : Int)))) := by
  refine fn_ok (fn := Tryz.f8) (nt := 13) Tryz.func8 rfl rfl rfl rfl (by simp [taggedL, tagged, tagU8]) fun B hB => ?_
  refine aw_lens (x := slU8 false code) 0 rfl (fun len_code => ?_)
  simp [LenOK, LenL, cU8, fU8, slU8] at len_code
  refine aw_lens (x := slU8 false more) 1 rfl (fun len_more => ?_)
  simp [LenOK, LenL, cU8, fU8, slU8] at len_more
  refine aR [] [0, 1] [] [slU8 false code, slU8 false more] [] [] hB trivial ?_
  refine aw_seq ?_
  by_cases h1 : 3000 < (code.length : Int)
  ·refine aw_r [(2, .dec true)] [4] [] [Bv true] [] [3000 < (code.length : Int)] hB ⟨h1, trivial⟩ ?_
   refine ae_then ?_
   refine aw_ret ?_
   refine ae_ret hB (Bv true) (by kernel_rfl) (.inl (by refine congrArg Bv ?_; simp [*])) rfl (fun _ => trivial)
  refine aw_r [(2, .dec false)] [4] [] [Bv (decide (3000 < (more.length : Int)))] [] [¬ (3000 < (code.length : Int))] hB ⟨h1, trivial⟩ ?_
  refine ae_then ?_
  refine aw_ret ?_
  refine ae_ret hB (Bv (decide (3000 < (more.length : Int)))) (by kernel_rfl) (.inl (by refine congrArg Bv ?_; simp [*])) rfl (fun _ => trivial)



def same {α : Type} [DecidableEq α] (x y : α) : Bool := decide (x = y)
theorem ext_at {α : Type} [Inhabited α] {xs ys : List α} (hl : xs.length = ys.length) (h : ∀ j : Nat, j < xs.length → at_ xs j = at_ ys j) : xs = ys := by
  apply List.ext_getElem hl
  intro i h1 h2
  rw [← at_eq h1, ← at_eq h2]
  exact h i h1


theorem at_mem {α : Type} [Inhabited α] {xs : List α} {i : Nat} (h : i < xs.length) : at_ xs i ∈ xs := by rw [at_eq h]; exact List.getElem_mem h


def allN (n : Nat) (p : Nat → Bool) : Bool := (List.range n).all p
def anyN (n : Nat) (p : Nat → Bool) : Bool := !(allN n fun j => !(p j))
theorem allN_iff {n : Nat} {p : Nat → Bool} : allN n p = true ↔ ∀ j, j < n → p j = true := by simp [allN, List.all_eq_true]
theorem allN_at {n : Nat} {p : Nat → Bool} (h : ∀ j, j < n → p j = true) : allN n p = true := allN_iff.2 h
theorem allN_get {n : Nat} {p : Nat → Bool} (h : allN n p = true) {k : Nat} (hk : k < n) : p k = true := allN_iff.1 h k hk
theorem allN_not {n : Nat} {p : Nat → Bool} {k : Nat} (hk : k < n) (h : p k = false) : allN n p = false := by
  rw [← Bool.not_eq_true, allN_iff]; intro h'; rw [h' k hk] at h; cases h
theorem anyN_not (n : Nat) (p : Nat → Bool) : anyN n (fun j => !(p j)) = !(allN n p) := by simp [anyN]
theorem anyN_at {n : Nat} {p : Nat → Bool} {k : Nat} (hk : k < n) (h : p k = true) : anyN n p = true := by
  unfold anyN; rw [allN_not hk (by simp [h])]; rfl
theorem anyN_none {n : Nat} {p : Nat → Bool} (h : ∀ j, j < n → p j = false) : anyN n p = false := by
  unfold anyN; rw [allN_at (fun j hj => by simp [h j hj])]; rfl

def okSrc (s : l00Src) : Prop := (∀ j, j < s.code.length → 0 ≤ at_ s.code j ∧ at_ s.code j ≤ 255) ∧ 0 ≤ s.atx ∧ s.code.length ≤ 4611686018427387904
theorem and_255 (a : Int) : 0 ≤ bitsI .and .u64 a 255 ∧ bitsI .and .u64 a 255 ≤ 255 := by
  obtain ⟨n, hn⟩ : ∃ n : Nat, n = (BitVec.ofInt 64 a &&& BitVec.ofInt 64 255).toNat := ⟨_, rfl⟩
  have h : n ≤ 255 := by rw [hn, BitVec.toNat_and]; exact Nat.and_le_right
  have e : bitsI .and .u64 a 255 = IntKind.u64.wrap (n : Int) := by rw [hn]; rfl
  have w : IntKind.u64.wrap (n : Int) = n := wrap_in (inR_u64 (by omega) (by omega))
  rw [e, w]; omega


-- spec.l00From
theorem l00From_ok (code : List Int) : ∃ (s' : l00Src), (s'.code = code ∧ s'.atx = 0) ∧ CallOK Tryz.prog 65 [slU8 false code] (lookO []) false (.ref 7001 0) (lookO [(7001, bxl00Src s')]) := by
  have hh : ∃ r : l00Src, ((r.code = code ∧ r.atx = 0) ∧ (True)) ∧ CallOK Tryz.prog 65 [slU8 false code] (lookO []) false (.ref 7001 0) (lookO [(7001, bxl00Src r)]) := by
    refine fn_okX (Φ := fun r : l00Src => (r.code = code ∧ r.atx = 0) ∧ (True)) [] (fun r => [(7001, bxl00Src r)]) (fn := Tryz.f65) (nt := 6) Tryz.func65 rfl rfl (args := [slU8 false code]) rfl (allcons (.inl ⟨rfl, tagU8 false _⟩) allnil) (res := fun r => .ref 7001 0) ?_
    refine xR [] [0] [] [slU8 false code] [] [] trivial ?_
    refine xR [(2, .new 7001)] [2] [7001] [.ref 7001 0] [some (.box [slU8 false code, I 0, .val (.int .u64 0)])] [] trivial ?_
    refine x_ret ?_
    refine xe_end (l00Src.mk code 0 0) (show ((l00Src.mk code 0 0).code = code ∧ (l00Src.mk code 0 0).atx = 0) ∧ (True) from ⟨(by first | rfl | (exact ⟨rfl, rfl⟩)), trivial⟩) (⟨.inl rfl, trivial⟩) (.ref 7001 0) (by kernel_rfl) (.inl rfl) (fun h => by cases h) (fun h => by cases h)
  obtain ⟨s', ⟨hh0, _⟩, hc⟩ := hh
  exact ⟨s', hh0, hc⟩



-- spec.l00Src).next
theorem next_ok (s : l00Src) (hs : okSrc s) (ha : s.atx ≤ 4000000000000000000) : ∃ (v : Int) (s' : l00Src), (0 ≤ v ∧ v ≤ 255) ∧ (okSrc s') ∧ (s'.code = s.code) ∧ (s.atx + 1 ≤ s'.atx ∧ s'.atx ≤ s.atx + 1) ∧ CallOK Tryz.prog 181 [.ref 7001 0] (lookO [(7001, bxl00Src s)]) true (I v) (lookO [(7001, bxl00Src s')]) := by
  have hs0 := hs.2.1
  have hs1 := hs.2.2
  have hh : ∃ r : Int × l00Src, ((0 ≤ r.1 ∧ r.1 ≤ 255) ∧ (okSrc r.2) ∧ (r.2.code = s.code) ∧ (s.atx + 1 ≤ r.2.atx ∧ r.2.atx ≤ s.atx + 1) ∧ (True)) ∧ CallOK Tryz.prog 181 [.ref 7001 0] (lookO [(7001, bxl00Src s)]) true (I r.1) (lookO [(7001, bxl00Src r.2)]) := by
    refine fn_okX (Φ := fun r : Int × l00Src => (0 ≤ r.1 ∧ r.1 ≤ 255) ∧ (okSrc r.2) ∧ (r.2.code = s.code) ∧ (s.atx + 1 ≤ r.2.atx ∧ r.2.atx ≤ s.atx + 1) ∧ (True)) [(7001, bxl00Src s)] (fun r => [(7001, bxl00Src r.2)]) (fn := Tryz.f181) (nt := 62) Tryz.func181 rfl rfl (args := [.ref 7001 0]) rfl (allcons (.inr trivial) allnil) (res := fun r => I r.1) ?_
    refine xR [] [0] [7001] [.ref 7001 0] [some (bxl00Src s)] [] trivial ?_
    refine xR [] [0, 3] [7001] [.ref 7001 0, I 0] [some (bxl00Src s)] [] trivial ?_
    refine x_seq ?_
    refine x_seq ?_
    by_cases h1 : s.atx < (s.code.length : Int)
    ·have hbt := hs.1 s.atx.toNat (by omega)
     refine x_r [(9, .dec true)] [0, 3, 13] [7001] [.ref 7001 0, I 0, Bv true] [some (bxl00Src s)] [s.atx < (s.code.length : Int)] ⟨h1, trivial⟩ ?_
     refine xe_then ?_
     refine x_true rfl ?_
     refine x_r [] [0, 3] [7001] [.ref 7001 0, I (at_ s.code s.atx.toNat)] [some (bxl00Src s)] [(0 : Int) ≤ s.atx ∧ s.atx < (s.code.length : Int), inR .i64 (at_ s.code s.atx.toNat)] ⟨⟨(by omega), (by omega)⟩, (inR_i64 (by omega) (by omega)), trivial⟩ ?_
     refine xe_then ?_
     refine xR [] [0, 3] [7001] [.ref 7001 0, I (at_ s.code s.atx.toNat)] [some (.box [slU8 false s.code, I (s.atx + 1), .val (.int .u64 s.seed)])] [inR .i64 (s.atx + 1)] ⟨(inR_i64 (by omega) (by omega)), trivial⟩ ?_
     refine xR [(5, .wrap), (8, .wrap), (9, .wrap)] [0, 3] [7001] [.ref 7001 0, I (at_ s.code s.atx.toNat)] [some (.box [slU8 false s.code, I (s.atx + 1), .val (.int .u64 (IntKind.u64.wrap ((IntKind.u64.wrap ((IntKind.u64.wrap (s.seed * 6364136223846793005)) + (at_ s.code s.atx.toNat))) + 1442695040888963407)))])] [inR .u64 (at_ s.code s.atx.toNat)] ⟨(inR_u64 (by omega) (by omega)), trivial⟩ ?_
     refine x_seq ?_
     refine x_seq ?_
     by_cases h2 : (s.atx + 1) ≤ (s.code.length : Int)
     ·refine x_r [(9, .dec true)] [0, 3, 53] [7001] [.ref 7001 0, I (at_ s.code s.atx.toNat), Bv true] [some (.box [slU8 false s.code, I (s.atx + 1), .val (.int .u64 (IntKind.u64.wrap ((IntKind.u64.wrap ((IntKind.u64.wrap (s.seed * 6364136223846793005)) + (at_ s.code s.atx.toNat))) + 1442695040888963407)))])] [(s.atx + 1) ≤ (s.code.length : Int)] ⟨h2, trivial⟩ ?_
      refine xe_then ?_
      refine x_true rfl ?_
      refine xR [] [2] [7001] [I (at_ s.code s.atx.toNat)] [some (.box [slU8 false s.code, I (s.atx + 1), .val (.int .u64 (IntKind.u64.wrap ((IntKind.u64.wrap ((IntKind.u64.wrap (s.seed * 6364136223846793005)) + (at_ s.code s.atx.toNat))) + 1442695040888963407)))])] [] trivial ?_
      refine x_ret ?_
      refine xe_ret_then ?_
      refine xe_end ((at_ s.code s.atx.toNat), (l00Src.mk s.code (s.atx + 1) (IntKind.u64.wrap ((IntKind.u64.wrap ((IntKind.u64.wrap (s.seed * 6364136223846793005)) + (at_ s.code s.atx.toNat))) + 1442695040888963407)))) (show (0 ≤ (at_ s.code s.atx.toNat) ∧ (at_ s.code s.atx.toNat) ≤ 255) ∧ (okSrc (l00Src.mk s.code (s.atx + 1) (IntKind.u64.wrap ((IntKind.u64.wrap ((IntKind.u64.wrap (s.seed * 6364136223846793005)) + (at_ s.code s.atx.toNat))) + 1442695040888963407)))) ∧ ((l00Src.mk s.code (s.atx + 1) (IntKind.u64.wrap ((IntKind.u64.wrap ((IntKind.u64.wrap (s.seed * 6364136223846793005)) + (at_ s.code s.atx.toNat))) + 1442695040888963407))).code = s.code) ∧ (s.atx + 1 ≤ (l00Src.mk s.code (s.atx + 1) (IntKind.u64.wrap ((IntKind.u64.wrap ((IntKind.u64.wrap (s.seed * 6364136223846793005)) + (at_ s.code s.atx.toNat))) + 1442695040888963407))).atx ∧ (l00Src.mk s.code (s.atx + 1) (IntKind.u64.wrap ((IntKind.u64.wrap ((IntKind.u64.wrap (s.seed * 6364136223846793005)) + (at_ s.code s.atx.toNat))) + 1442695040888963407))).atx ≤ s.atx + 1) ∧ (True) from ⟨(by first | omega | rfl | assumption | (dsimp only; first | omega | rfl | assumption) | (simp only [*]; done) | exact ⟨hs.1, (by dsimp only; omega), hs1⟩), (by first | omega | rfl | assumption | (dsimp only; first | omega | rfl | assumption) | (simp only [*]; done) | exact ⟨hs.1, (by dsimp only; omega), hs1⟩), (by first | omega | rfl | assumption | (dsimp only; first | omega | rfl | assumption) | (simp only [*]; done) | exact ⟨hs.1, (by dsimp only; omega), hs1⟩), (by first | omega | rfl | assumption | (dsimp only; first | omega | rfl | assumption) | (simp only [*]; done) | exact ⟨hs.1, (by dsimp only; omega), hs1⟩), trivial⟩) (⟨.inl rfl, trivial⟩) (I (at_ s.code s.atx.toNat)) (by kernel_rfl) (.inl rfl) (fun _ => rfl) (fun _ => trivial)
     refine x_r [(9, .dec false)] [0, 3, 53] [7001] [.ref 7001 0, I (at_ s.code s.atx.toNat), Bv false] [some (.box [slU8 false s.code, I (s.atx + 1), .val (.int .u64 (IntKind.u64.wrap ((IntKind.u64.wrap ((IntKind.u64.wrap (s.seed * 6364136223846793005)) + (at_ s.code s.atx.toNat))) + 1442695040888963407)))])] [¬ ((s.atx + 1) ≤ (s.code.length : Int))] ⟨h2, trivial⟩ ?_
     refine xe_then ?_
     refine x_false rfl ?_
     refine x_skip ?_
     refine xe_then ?_
     refine x_seq ?_
     have hb1 := and_255 ((IntKind.u64.wrap ((IntKind.u64.wrap ((IntKind.u64.wrap (s.seed * 6364136223846793005)) + (at_ s.code s.atx.toNat))) + 1442695040888963407)) / 1099511627776)
     refine x_r [] [2] [7001] [I (bitsI .and .u64 ((IntKind.u64.wrap ((IntKind.u64.wrap ((IntKind.u64.wrap (s.seed * 6364136223846793005)) + (at_ s.code s.atx.toNat))) + 1442695040888963407)) / 1099511627776) 255)] [some (.box [slU8 false s.code, I (s.atx + 1), .val (.int .u64 (IntKind.u64.wrap ((IntKind.u64.wrap ((IntKind.u64.wrap (s.seed * 6364136223846793005)) + (at_ s.code s.atx.toNat))) + 1442695040888963407)))])] [(0 : Int) ≤ 40 ∧ (40 : Int) ≤ ((IntKind.bits .u64 : Nat) : Int), inR .i64 (bitsI .and .u64 ((IntKind.u64.wrap ((IntKind.u64.wrap ((IntKind.u64.wrap (s.seed * 6364136223846793005)) + (at_ s.code s.atx.toNat))) + 1442695040888963407)) / 1099511627776) 255)] ⟨⟨(by decide), (by decide)⟩, (inR_i64 (by omega) (by omega)), trivial⟩ ?_
     refine xe_then ?_
     refine x_ret ?_
     refine xe_end ((bitsI .and .u64 ((IntKind.u64.wrap ((IntKind.u64.wrap ((IntKind.u64.wrap (s.seed * 6364136223846793005)) + (at_ s.code s.atx.toNat))) + 1442695040888963407)) / 1099511627776) 255), (l00Src.mk s.code (s.atx + 1) (IntKind.u64.wrap ((IntKind.u64.wrap ((IntKind.u64.wrap (s.seed * 6364136223846793005)) + (at_ s.code s.atx.toNat))) + 1442695040888963407)))) (show (0 ≤ (bitsI .and .u64 ((IntKind.u64.wrap ((IntKind.u64.wrap ((IntKind.u64.wrap (s.seed * 6364136223846793005)) + (at_ s.code s.atx.toNat))) + 1442695040888963407)) / 1099511627776) 255) ∧ (bitsI .and .u64 ((IntKind.u64.wrap ((IntKind.u64.wrap ((IntKind.u64.wrap (s.seed * 6364136223846793005)) + (at_ s.code s.atx.toNat))) + 1442695040888963407)) / 1099511627776) 255) ≤ 255) ∧ (okSrc (l00Src.mk s.code (s.atx + 1) (IntKind.u64.wrap ((IntKind.u64.wrap ((IntKind.u64.wrap (s.seed * 6364136223846793005)) + (at_ s.code s.atx.toNat))) + 1442695040888963407)))) ∧ ((l00Src.mk s.code (s.atx + 1) (IntKind.u64.wrap ((IntKind.u64.wrap ((IntKind.u64.wrap (s.seed * 6364136223846793005)) + (at_ s.code s.atx.toNat))) + 1442695040888963407))).code = s.code) ∧ (s.atx + 1 ≤ (l00Src.mk s.code (s.atx + 1) (IntKind.u64.wrap ((IntKind.u64.wrap ((IntKind.u64.wrap (s.seed * 6364136223846793005)) + (at_ s.code s.atx.toNat))) + 1442695040888963407))).atx ∧ (l00Src.mk s.code (s.atx + 1) (IntKind.u64.wrap ((IntKind.u64.wrap ((IntKind.u64.wrap (s.seed * 6364136223846793005)) + (at_ s.code s.atx.toNat))) + 1442695040888963407))).atx ≤ s.atx + 1) ∧ (True) from ⟨(by first | omega | rfl | assumption | (dsimp only; first | omega | rfl | assumption) | (simp only [*]; done) | exact ⟨hs.1, (by dsimp only; omega), hs1⟩), (by first | omega | rfl | assumption | (dsimp only; first | omega | rfl | assumption) | (simp only [*]; done) | exact ⟨hs.1, (by dsimp only; omega), hs1⟩), (by first | omega | rfl | assumption | (dsimp only; first | omega | rfl | assumption) | (simp only [*]; done) | exact ⟨hs.1, (by dsimp only; omega), hs1⟩), (by first | omega | rfl | assumption | (dsimp only; first | omega | rfl | assumption) | (simp only [*]; done) | exact ⟨hs.1, (by dsimp only; omega), hs1⟩), trivial⟩) (⟨.inl rfl, trivial⟩) (I (bitsI .and .u64 ((IntKind.u64.wrap ((IntKind.u64.wrap ((IntKind.u64.wrap (s.seed * 6364136223846793005)) + (at_ s.code s.atx.toNat))) + 1442695040888963407)) / 1099511627776) 255)) (by kernel_rfl) (.inl rfl) (fun _ => rfl) (fun _ => trivial)
    refine x_r [(9, .dec false)] [0, 3, 13] [7001] [.ref 7001 0, I 0, Bv false] [some (bxl00Src s)] [¬ (s.atx < (s.code.length : Int))] ⟨h1, trivial⟩ ?_
    refine xe_then ?_
    refine x_false rfl ?_
    refine x_skip ?_
    refine xe_then ?_
    refine xR [] [0, 3] [7001] [.ref 7001 0, I 0] [some (.box [slU8 false s.code, I (s.atx + 1), .val (.int .u64 s.seed)])] [inR .i64 (s.atx + 1)] ⟨(inR_i64 (by omega) (by omega)), trivial⟩ ?_
    refine xR [(5, .wrap), (8, .wrap), (9, .wrap)] [0, 3] [7001] [.ref 7001 0, I 0] [some (.box [slU8 false s.code, I (s.atx + 1), .val (.int .u64 (IntKind.u64.wrap ((IntKind.u64.wrap ((IntKind.u64.wrap (s.seed * 6364136223846793005)) + 0)) + 1442695040888963407)))])] [inR .u64 0] ⟨(inR_u64 (by omega) (by omega)), trivial⟩ ?_
    refine x_seq ?_
    refine x_seq ?_
    by_cases h3 : (s.atx + 1) ≤ (s.code.length : Int)
    ·refine x_r [(9, .dec true)] [0, 3, 53] [7001] [.ref 7001 0, I 0, Bv true] [some (.box [slU8 false s.code, I (s.atx + 1), .val (.int .u64 (IntKind.u64.wrap ((IntKind.u64.wrap ((IntKind.u64.wrap (s.seed * 6364136223846793005)) + 0)) + 1442695040888963407)))])] [(s.atx + 1) ≤ (s.code.length : Int)] ⟨h3, trivial⟩ ?_
     refine xe_then ?_
     refine x_true rfl ?_
     refine xR [] [2] [7001] [I 0] [some (.box [slU8 false s.code, I (s.atx + 1), .val (.int .u64 (IntKind.u64.wrap ((IntKind.u64.wrap ((IntKind.u64.wrap (s.seed * 6364136223846793005)) + 0)) + 1442695040888963407)))])] [] trivial ?_
     refine x_ret ?_
     refine xe_ret_then ?_
     refine xe_end (0, (l00Src.mk s.code (s.atx + 1) (IntKind.u64.wrap ((IntKind.u64.wrap ((IntKind.u64.wrap (s.seed * 6364136223846793005)) + 0)) + 1442695040888963407)))) (show (0 ≤ 0 ∧ 0 ≤ 255) ∧ (okSrc (l00Src.mk s.code (s.atx + 1) (IntKind.u64.wrap ((IntKind.u64.wrap ((IntKind.u64.wrap (s.seed * 6364136223846793005)) + 0)) + 1442695040888963407)))) ∧ ((l00Src.mk s.code (s.atx + 1) (IntKind.u64.wrap ((IntKind.u64.wrap ((IntKind.u64.wrap (s.seed * 6364136223846793005)) + 0)) + 1442695040888963407))).code = s.code) ∧ (s.atx + 1 ≤ (l00Src.mk s.code (s.atx + 1) (IntKind.u64.wrap ((IntKind.u64.wrap ((IntKind.u64.wrap (s.seed * 6364136223846793005)) + 0)) + 1442695040888963407))).atx ∧ (l00Src.mk s.code (s.atx + 1) (IntKind.u64.wrap ((IntKind.u64.wrap ((IntKind.u64.wrap (s.seed * 6364136223846793005)) + 0)) + 1442695040888963407))).atx ≤ s.atx + 1) ∧ (True) from ⟨(by first | omega | rfl | assumption | (dsimp only; first | omega | rfl | assumption) | (simp only [*]; done) | exact ⟨hs.1, (by dsimp only; omega), hs1⟩), (by first | omega | rfl | assumption | (dsimp only; first | omega | rfl | assumption) | (simp only [*]; done) | exact ⟨hs.1, (by dsimp only; omega), hs1⟩), (by first | omega | rfl | assumption | (dsimp only; first | omega | rfl | assumption) | (simp only [*]; done) | exact ⟨hs.1, (by dsimp only; omega), hs1⟩), (by first | omega | rfl | assumption | (dsimp only; first | omega | rfl | assumption) | (simp only [*]; done) | exact ⟨hs.1, (by dsimp only; omega), hs1⟩), trivial⟩) (⟨.inl rfl, trivial⟩) (I 0) (by kernel_rfl) (.inl rfl) (fun _ => rfl) (fun _ => trivial)
    refine x_r [(9, .dec false)] [0, 3, 53] [7001] [.ref 7001 0, I 0, Bv false] [some (.box [slU8 false s.code, I (s.atx + 1), .val (.int .u64 (IntKind.u64.wrap ((IntKind.u64.wrap ((IntKind.u64.wrap (s.seed * 6364136223846793005)) + 0)) + 1442695040888963407)))])] [¬ ((s.atx + 1) ≤ (s.code.length : Int))] ⟨h3, trivial⟩ ?_
    refine xe_then ?_
    refine x_false rfl ?_
    refine x_skip ?_
    refine xe_then ?_
    refine x_seq ?_
    have hb2 := and_255 ((IntKind.u64.wrap ((IntKind.u64.wrap ((IntKind.u64.wrap (s.seed * 6364136223846793005)) + 0)) + 1442695040888963407)) / 1099511627776)
    refine x_r [] [2] [7001] [I (bitsI .and .u64 ((IntKind.u64.wrap ((IntKind.u64.wrap ((IntKind.u64.wrap (s.seed * 6364136223846793005)) + 0)) + 1442695040888963407)) / 1099511627776) 255)] [some (.box [slU8 false s.code, I (s.atx + 1), .val (.int .u64 (IntKind.u64.wrap ((IntKind.u64.wrap ((IntKind.u64.wrap (s.seed * 6364136223846793005)) + 0)) + 1442695040888963407)))])] [(0 : Int) ≤ 40 ∧ (40 : Int) ≤ ((IntKind.bits .u64 : Nat) : Int), inR .i64 (bitsI .and .u64 ((IntKind.u64.wrap ((IntKind.u64.wrap ((IntKind.u64.wrap (s.seed * 6364136223846793005)) + 0)) + 1442695040888963407)) / 1099511627776) 255)] ⟨⟨(by decide), (by decide)⟩, (inR_i64 (by omega) (by omega)), trivial⟩ ?_
    refine xe_then ?_
    refine x_ret ?_
    refine xe_end ((bitsI .and .u64 ((IntKind.u64.wrap ((IntKind.u64.wrap ((IntKind.u64.wrap (s.seed * 6364136223846793005)) + 0)) + 1442695040888963407)) / 1099511627776) 255), (l00Src.mk s.code (s.atx + 1) (IntKind.u64.wrap ((IntKind.u64.wrap ((IntKind.u64.wrap (s.seed * 6364136223846793005)) + 0)) + 1442695040888963407)))) (show (0 ≤ (bitsI .and .u64 ((IntKind.u64.wrap ((IntKind.u64.wrap ((IntKind.u64.wrap (s.seed * 6364136223846793005)) + 0)) + 1442695040888963407)) / 1099511627776) 255) ∧ (bitsI .and .u64 ((IntKind.u64.wrap ((IntKind.u64.wrap ((IntKind.u64.wrap (s.seed * 6364136223846793005)) + 0)) + 1442695040888963407)) / 1099511627776) 255) ≤ 255) ∧ (okSrc (l00Src.mk s.code (s.atx + 1) (IntKind.u64.wrap ((IntKind.u64.wrap ((IntKind.u64.wrap (s.seed * 6364136223846793005)) + 0)) + 1442695040888963407)))) ∧ ((l00Src.mk s.code (s.atx + 1) (IntKind.u64.wrap ((IntKind.u64.wrap ((IntKind.u64.wrap (s.seed * 6364136223846793005)) + 0)) + 1442695040888963407))).code = s.code) ∧ (s.atx + 1 ≤ (l00Src.mk s.code (s.atx + 1) (IntKind.u64.wrap ((IntKind.u64.wrap ((IntKind.u64.wrap (s.seed * 6364136223846793005)) + 0)) + 1442695040888963407))).atx ∧ (l00Src.mk s.code (s.atx + 1) (IntKind.u64.wrap ((IntKind.u64.wrap ((IntKind.u64.wrap (s.seed * 6364136223846793005)) + 0)) + 1442695040888963407))).atx ≤ s.atx + 1) ∧ (True) from ⟨(by first | omega | rfl | assumption | (dsimp only; first | omega | rfl | assumption) | (simp only [*]; done) | exact ⟨hs.1, (by dsimp only; omega), hs1⟩), (by first | omega | rfl | assumption | (dsimp only; first | omega | rfl | assumption) | (simp only [*]; done) | exact ⟨hs.1, (by dsimp only; omega), hs1⟩), (by first | omega | rfl | assumption | (dsimp only; first | omega | rfl | assumption) | (simp only [*]; done) | exact ⟨hs.1, (by dsimp only; omega), hs1⟩), (by first | omega | rfl | assumption | (dsimp only; first | omega | rfl | assumption) | (simp only [*]; done) | exact ⟨hs.1, (by dsimp only; omega), hs1⟩), trivial⟩) (⟨.inl rfl, trivial⟩) (I (bitsI .and .u64 ((IntKind.u64.wrap ((IntKind.u64.wrap ((IntKind.u64.wrap (s.seed * 6364136223846793005)) + 0)) + 1442695040888963407)) / 1099511627776) 255)) (by kernel_rfl) (.inl rfl) (fun _ => rfl) (fun _ => trivial)
  obtain ⟨⟨v, s'⟩, ⟨hh0, hh1, hh2, hh3, _⟩, hc⟩ := hh
  exact ⟨v, s', hh0, hh1, hh2, hh3, hc⟩



-- spec.l00Src).pick
theorem pick_ok (s : l00Src) (n : Int) (hs : okSrc s) (ha : s.atx ≤ 3999999999999999990) : ∃ (v : Int) (s' : l00Src), (0 ≤ v ∧ (v < n ∨ v = 0)) ∧ (okSrc s') ∧ (s'.code = s.code) ∧ (s.atx + 0 ≤ s'.atx ∧ s'.atx ≤ s.atx + 2) ∧ CallOK Tryz.prog 107 [.ref 7001 0, I n] (lookO [(7001, bxl00Src s)]) true (I v) (lookO [(7001, bxl00Src s')]) := by
  have hs0 := hs.2.1
  have hs1 := hs.2.2
  have hh : ∃ r : Int × l00Src, ((0 ≤ r.1 ∧ (r.1 < n ∨ r.1 = 0)) ∧ (okSrc r.2) ∧ (r.2.code = s.code) ∧ (s.atx + 0 ≤ r.2.atx ∧ r.2.atx ≤ s.atx + 2) ∧ (True)) ∧ CallOK Tryz.prog 107 [.ref 7001 0, I n] (lookO [(7001, bxl00Src s)]) true (I r.1) (lookO [(7001, bxl00Src r.2)]) := by
    refine fn_okX (Φ := fun r : Int × l00Src => (0 ≤ r.1 ∧ (r.1 < n ∨ r.1 = 0)) ∧ (okSrc r.2) ∧ (r.2.code = s.code) ∧ (s.atx + 0 ≤ r.2.atx ∧ r.2.atx ≤ s.atx + 2) ∧ (True)) [(7001, bxl00Src s)] (fun r => [(7001, bxl00Src r.2)]) (fn := Tryz.f107) (nt := 20) Tryz.func107 rfl rfl (args := [.ref 7001 0, I n]) rfl (allcons (.inr trivial) (allcons (.inl ⟨rfl, trivial⟩) allnil)) (res := fun r => I r.1) ?_
    refine xR [] [0, 1] [7001] [.ref 7001 0, I n] [some (bxl00Src s)] [] trivial ?_
    refine x_seq ?_
    refine x_seq ?_
    by_cases h1 : n ≤ 1
    ·refine x_r [(1, .dec true)] [0, 1, 7] [7001] [.ref 7001 0, I n, Bv true] [some (bxl00Src s)] [n ≤ 1] ⟨h1, trivial⟩ ?_
     refine xe_then ?_
     refine x_true rfl ?_
     refine xR [] [4] [7001] [I 0] [some (bxl00Src s)] [] trivial ?_
     refine x_ret ?_
     refine xe_ret_then ?_
     refine xe_end (0, s) (show (0 ≤ 0 ∧ (0 < n ∨ 0 = 0)) ∧ (okSrc s) ∧ (s.code = s.code) ∧ (s.atx + 0 ≤ s.atx ∧ s.atx ≤ s.atx + 2) ∧ (True) from ⟨(by first | omega | rfl | assumption | (dsimp only; first | omega | rfl | assumption) | (simp only [*]; done) | exact ⟨Int.emod_nonneg _ (by omega), .inl (Int.emod_lt_of_pos _ (by omega))⟩), (by first | omega | rfl | assumption | (dsimp only; first | omega | rfl | assumption) | (simp only [*]; done) | exact ⟨Int.emod_nonneg _ (by omega), .inl (Int.emod_lt_of_pos _ (by omega))⟩), (by first | omega | rfl | assumption | (dsimp only; first | omega | rfl | assumption) | (simp only [*]; done) | exact ⟨Int.emod_nonneg _ (by omega), .inl (Int.emod_lt_of_pos _ (by omega))⟩), (by first | omega | rfl | assumption | (dsimp only; first | omega | rfl | assumption) | (simp only [*]; done) | exact ⟨Int.emod_nonneg _ (by omega), .inl (Int.emod_lt_of_pos _ (by omega))⟩), trivial⟩) (⟨.inl rfl, trivial⟩) (I 0) (by kernel_rfl) (.inl rfl) (fun _ => rfl) (fun _ => trivial)
    refine x_r [(1, .dec false)] [0, 1, 7] [7001] [.ref 7001 0, I n, Bv false] [some (bxl00Src s)] [¬ (n ≤ 1)] ⟨h1, trivial⟩ ?_
    refine xe_then ?_
    refine x_false rfl ?_
    refine x_skip ?_
    refine xe_then ?_
    refine x_seq ?_
    obtain ⟨v_1, s'_1, hx1_0, hx1_1, hx1_2, hx1_3, hc1⟩ := next_ok s (by first | assumption | (simp only [okSrc] at *; simp_all; done)) (by omega)
    refine x_r [(1, .lend [(7001, bxl00Src s, bxl00Src s'_1)] [] [(true, .any)] true (I v_1))] [0, 1, 5] [7001] [.ref 7001 0, I n, I v_1] [some (bxl00Src s'_1)] [CallOK Tryz.prog 181 [.ref 7001 0] (lookO [(7001, bxl00Src s)]) true (I v_1) (lookO [(7001, bxl00Src s'_1)]) ∧ (((bxl00Src s : Ob) = bxl00Src s ∨ obLe noOb true (bxl00Src s) (bxl00Src s)) ∧ taggedO false (bxl00Src s)) ∧ True] ⟨⟨hc1, ⟨.inl rfl, (by simp [taggedO, taggedL, tagged, tagU8])⟩, trivial⟩, trivial⟩ ?_
    refine xe_then ?_
    refine x_seq ?_
    refine x_seq ?_
    by_cases h2 : 200 < n
    ·refine x_r [(1, .dec true)] [0, 1, 5, 11] [7001] [.ref 7001 0, I n, I v_1, Bv true] [some (bxl00Src s'_1)] [200 < n] ⟨h2, trivial⟩ ?_
     refine xe_then ?_
     refine x_true rfl ?_
     obtain ⟨v_2, s'_2, hx2_0, hx2_1, hx2_2, hx2_3, hc2⟩ := next_ok s'_1 (by first | assumption | (simp only [okSrc] at *; simp_all; done)) (by omega)
     refine x_r [(3, .lend [(7001, bxl00Src s'_1, bxl00Src s'_2)] [] [(true, .any)] true (I v_2))] [1, 5] [7001] [I n, I ((v_1 * 256) + v_2)] [some (bxl00Src s'_2)] [inR .i64 (v_1 * 256), CallOK Tryz.prog 181 [.ref 7001 0] (lookO [(7001, bxl00Src s'_1)]) true (I v_2) (lookO [(7001, bxl00Src s'_2)]) ∧ (((bxl00Src s'_1 : Ob) = bxl00Src s'_1 ∨ obLe noOb true (bxl00Src s'_1) (bxl00Src s'_1)) ∧ taggedO false (bxl00Src s'_1)) ∧ True, inR .i64 ((v_1 * 256) + v_2)] ⟨(inR_i64 (by omega) (by omega)), ⟨hc2, ⟨.inl rfl, (by simp [taggedO, taggedL, tagged, tagU8])⟩, trivial⟩, (inR_i64 (by omega) (by omega)), trivial⟩ ?_
     refine xe_then ?_
     refine xR [(2, .nn)] [4] [7001] [I (((v_1 * 256) + v_2) % n)] [some (bxl00Src s'_2)] [(0 : Int) ≤ ((v_1 * 256) + v_2) ∧ (0 : Int) < n] ⟨⟨(by omega), (by omega)⟩, trivial⟩ ?_
     refine x_ret ?_
     refine xe_end ((((v_1 * 256) + v_2) % n), s'_2) (show (0 ≤ (((v_1 * 256) + v_2) % n) ∧ ((((v_1 * 256) + v_2) % n) < n ∨ (((v_1 * 256) + v_2) % n) = 0)) ∧ (okSrc s'_2) ∧ (s'_2.code = s.code) ∧ (s.atx + 0 ≤ s'_2.atx ∧ s'_2.atx ≤ s.atx + 2) ∧ (True) from ⟨(by first | omega | rfl | assumption | (dsimp only; first | omega | rfl | assumption) | (simp only [*]; done) | exact ⟨Int.emod_nonneg _ (by omega), .inl (Int.emod_lt_of_pos _ (by omega))⟩), (by first | omega | rfl | assumption | (dsimp only; first | omega | rfl | assumption) | (simp only [*]; done) | exact ⟨Int.emod_nonneg _ (by omega), .inl (Int.emod_lt_of_pos _ (by omega))⟩), (by first | omega | rfl | assumption | (dsimp only; first | omega | rfl | assumption) | (simp only [*]; done) | exact ⟨Int.emod_nonneg _ (by omega), .inl (Int.emod_lt_of_pos _ (by omega))⟩), (by first | omega | rfl | assumption | (dsimp only; first | omega | rfl | assumption) | (simp only [*]; done) | exact ⟨Int.emod_nonneg _ (by omega), .inl (Int.emod_lt_of_pos _ (by omega))⟩), trivial⟩) (⟨.inl rfl, trivial⟩) (I (((v_1 * 256) + v_2) % n)) (by kernel_rfl) (.inl rfl) (fun _ => rfl) (fun _ => trivial)
    refine x_r [(1, .dec false)] [0, 1, 5, 11] [7001] [.ref 7001 0, I n, I v_1, Bv false] [some (bxl00Src s'_1)] [¬ (200 < n)] ⟨h2, trivial⟩ ?_
    refine xe_then ?_
    refine x_false rfl ?_
    refine x_skip ?_
    refine xe_then ?_
    refine xR [(2, .nn)] [4] [7001] [I (v_1 % n)] [some (bxl00Src s'_1)] [(0 : Int) ≤ v_1 ∧ (0 : Int) < n] ⟨⟨(by omega), (by omega)⟩, trivial⟩ ?_
    refine x_ret ?_
    refine xe_end ((v_1 % n), s'_1) (show (0 ≤ (v_1 % n) ∧ ((v_1 % n) < n ∨ (v_1 % n) = 0)) ∧ (okSrc s'_1) ∧ (s'_1.code = s.code) ∧ (s.atx + 0 ≤ s'_1.atx ∧ s'_1.atx ≤ s.atx + 2) ∧ (True) from ⟨(by first | omega | rfl | assumption | (dsimp only; first | omega | rfl | assumption) | (simp only [*]; done) | exact ⟨Int.emod_nonneg _ (by omega), .inl (Int.emod_lt_of_pos _ (by omega))⟩), (by first | omega | rfl | assumption | (dsimp only; first | omega | rfl | assumption) | (simp only [*]; done) | exact ⟨Int.emod_nonneg _ (by omega), .inl (Int.emod_lt_of_pos _ (by omega))⟩), (by first | omega | rfl | assumption | (dsimp only; first | omega | rfl | assumption) | (simp only [*]; done) | exact ⟨Int.emod_nonneg _ (by omega), .inl (Int.emod_lt_of_pos _ (by omega))⟩), (by first | omega | rfl | assumption | (dsimp only; first | omega | rfl | assumption) | (simp only [*]; done) | exact ⟨Int.emod_nonneg _ (by omega), .inl (Int.emod_lt_of_pos _ (by omega))⟩), trivial⟩) (⟨.inl rfl, trivial⟩) (I (v_1 % n)) (by kernel_rfl) (.inl rfl) (fun _ => rfl) (fun _ => trivial)
  obtain ⟨⟨v, s'⟩, ⟨hh0, hh1, hh2, hh3, _⟩, hc⟩ := hh
  exact ⟨v, s', hh0, hh1, hh2, hh3, hc⟩



-- spec.l00Src).text
theorem text_ok (s : l00Src) (list : List ByteArray) (hs : okSrc s) (ha : s.atx ≤ 3999999999999999980) (hl : (0 < list.length ∧ list.length ≤ 1000) ∧ ∀ z ∈ list, z.size ≤ 16) : ∃ (v : ByteArray) (s' : l00Src), (v.size ≤ 16) ∧ (okSrc s') ∧ (s'.code = s.code) ∧ (s.atx + 0 ≤ s'.atx ∧ s'.atx ≤ s.atx + 2) ∧ (v ∈ list) ∧ CallOK Tryz.prog 125 [.ref 7001 0, slS false list] (lookO [(7001, bxl00Src s)]) true (Sv v) (lookO [(7001, bxl00Src s')]) := by
  have hh : ∃ r : ByteArray × l00Src, ((r.1.size ≤ 16) ∧ (okSrc r.2) ∧ (r.2.code = s.code) ∧ (s.atx + 0 ≤ r.2.atx ∧ r.2.atx ≤ s.atx + 2) ∧ (r.1 ∈ list) ∧ (True)) ∧ CallOK Tryz.prog 125 [.ref 7001 0, slS false list] (lookO [(7001, bxl00Src s)]) true (Sv r.1) (lookO [(7001, bxl00Src r.2)]) := by
    refine fn_okX (Φ := fun r : ByteArray × l00Src => (r.1.size ≤ 16) ∧ (okSrc r.2) ∧ (r.2.code = s.code) ∧ (s.atx + 0 ≤ r.2.atx ∧ r.2.atx ≤ s.atx + 2) ∧ (r.1 ∈ list) ∧ (True)) [(7001, bxl00Src s)] (fun r => [(7001, bxl00Src r.2)]) (fn := Tryz.f125) (nt := 12) Tryz.func125 rfl rfl (args := [.ref 7001 0, slS false list]) rfl (allcons (.inr trivial) (allcons (.inl ⟨rfl, tagS false _⟩) allnil)) (res := fun r => Sv r.1) ?_
    refine xR [] [0, 1] [7001] [.ref 7001 0, slS false list] [some (bxl00Src s)] [] trivial ?_
    refine x_seq ?_
    obtain ⟨v_1, s'_1, hx1_0, hx1_1, hx1_2, hx1_3, hc1⟩ := pick_ok s (list.length : Int) (by first | assumption | (simp only [okSrc] at *; simp_all; done)) (by omega)
    refine x_r [(4, .lend [(7001, bxl00Src s, bxl00Src s'_1)] [] [(true, .any), (true, .any)] true (I v_1))] [4] [7001] [Sv (at_ list v_1.toNat)] [some (bxl00Src s'_1)] [CallOK Tryz.prog 107 [.ref 7001 0, I (list.length : Int)] (lookO [(7001, bxl00Src s)]) true (I v_1) (lookO [(7001, bxl00Src s'_1)]) ∧ (((bxl00Src s : Ob) = bxl00Src s ∨ obLe noOb true (bxl00Src s) (bxl00Src s)) ∧ taggedO false (bxl00Src s)) ∧ True, (0 : Int) ≤ v_1 ∧ v_1 < (list.length : Int)] ⟨⟨hc1, ⟨.inl rfl, (by simp [taggedO, taggedL, tagged, tagU8])⟩, trivial⟩, ⟨(by omega), (by omega)⟩, trivial⟩ ?_
    refine xe_then ?_
    refine x_ret ?_
    refine xe_end ((at_ list v_1.toNat), s'_1) (show ((at_ list v_1.toNat).size ≤ 16) ∧ (okSrc s'_1) ∧ (s'_1.code = s.code) ∧ (s.atx + 0 ≤ s'_1.atx ∧ s'_1.atx ≤ s.atx + 2) ∧ ((at_ list v_1.toNat) ∈ list) ∧ (True) from ⟨(by first | omega | rfl | assumption | (dsimp only; first | omega | rfl | assumption) | (simp only [*]; done) | (exact at_mem (by omega)) | (exact hl.2 _ (at_mem (by omega))) | (simp_all; done)), (by first | omega | rfl | assumption | (dsimp only; first | omega | rfl | assumption) | (simp only [*]; done) | (exact at_mem (by omega)) | (exact hl.2 _ (at_mem (by omega))) | (simp_all; done)), (by first | omega | rfl | assumption | (dsimp only; first | omega | rfl | assumption) | (simp only [*]; done) | (exact at_mem (by omega)) | (exact hl.2 _ (at_mem (by omega))) | (simp_all; done)), (by first | omega | rfl | assumption | (dsimp only; first | omega | rfl | assumption) | (simp only [*]; done) | (exact at_mem (by omega)) | (exact hl.2 _ (at_mem (by omega))) | (simp_all; done)), (by first | omega | rfl | assumption | (dsimp only; first | omega | rfl | assumption) | (simp only [*]; done) | (exact at_mem (by omega)) | (exact hl.2 _ (at_mem (by omega))) | (simp_all; done)), trivial⟩) (⟨.inl rfl, trivial⟩) (Sv (at_ list v_1.toNat)) (by kernel_rfl) (.inl rfl) (fun _ => rfl) (fun _ => trivial)
  obtain ⟨⟨v, s'⟩, ⟨hh0, hh1, hh2, hh3, hh4, _⟩, hc⟩ := hh
  exact ⟨v, s', hh0, hh1, hh2, hh3, hh4, hc⟩



-- spec.l00Min
theorem l00Min_ok (a : Int) (b : Int) : Con Tryz.prog 180 [I a, I b] true (I (min a b)) := by
  refine fn_ok (fn := Tryz.f180) (nt := 10) Tryz.func180 rfl rfl rfl rfl (by simp [taggedL, tagged]) fun B hB => ?_
  refine aR [] [0, 1] [] [I a, I b] [] [] hB trivial ?_
  refine aw_seq ?_
  refine aw_seq ?_
  by_cases h1 : a < b
  ·refine aw_r [(2, .dec true)] [0, 1, 7] [] [I a, I b, Bv true] [] [a < b] hB ⟨h1, trivial⟩ ?_
   refine ae_then ?_
   refine aw_true rfl ?_
   refine aR [] [4] [] [I a] [] [] hB trivial ?_
   refine aw_ret ?_
   refine ae_ret_then ?_
   refine ae_ret hB (I a) (by kernel_rfl) (.inl (by refine congrArg I ?_; omega)) rfl (fun _ => trivial)
  refine aw_r [(2, .dec false)] [0, 1, 7] [] [I a, I b, Bv false] [] [¬ (a < b)] hB ⟨h1, trivial⟩ ?_
  refine ae_then ?_
  refine aw_false rfl ?_
  refine aw_skip ?_
  refine ae_then ?_
  refine aR [] [4] [] [I b] [] [] hB trivial ?_
  refine aw_ret ?_
  refine ae_ret hB (I b) (by kernel_rfl) (.inl (by refine congrArg I ?_; omega)) rfl (fun _ => trivial)



-- spec.l00Max
theorem l00Max_ok (a : Int) (b : Int) : Con Tryz.prog 172 [I a, I b] true (I (max a b)) := by
  refine fn_ok (fn := Tryz.f172) (nt := 10) Tryz.func172 rfl rfl rfl rfl (by simp [taggedL, tagged]) fun B hB => ?_
  refine aR [] [0, 1] [] [I a, I b] [] [] hB trivial ?_
  refine aw_seq ?_
  refine aw_seq ?_
  by_cases h1 : b < a
  ·refine aw_r [(2, .dec true)] [0, 1, 7] [] [I a, I b, Bv true] [] [b < a] hB ⟨h1, trivial⟩ ?_
   refine ae_then ?_
   refine aw_true rfl ?_
   refine aR [] [4] [] [I a] [] [] hB trivial ?_
   refine aw_ret ?_
   refine ae_ret_then ?_
   refine ae_ret hB (I a) (by kernel_rfl) (.inl (by refine congrArg I ?_; omega)) rfl (fun _ => trivial)
  refine aw_r [(2, .dec false)] [0, 1, 7] [] [I a, I b, Bv false] [] [¬ (b < a)] hB ⟨h1, trivial⟩ ?_
  refine ae_then ?_
  refine aw_false rfl ?_
  refine aw_skip ?_
  refine ae_then ?_
  refine aR [] [4] [] [I b] [] [] hB trivial ?_
  refine aw_ret ?_
  refine ae_ret hB (I b) (by kernel_rfl) (.inl (by refine congrArg I ?_; omega)) rfl (fun _ => trivial)



def inB (a l h : Int) : Bool := decide (l ≤ a ∧ a ≤ h)
theorem inB_iff {a l h : Int} : inB a l h = true ↔ l ≤ a ∧ a ≤ h := by simp [inB]
theorem bAt_bd (s : ByteArray) (i : Nat) : 0 ≤ bAt s i ∧ bAt s i ≤ 255 := by
  unfold bAt
  have := (s.data.toList.getD i 0).toNat_lt
  omega


def okF (p : Feat) : Bool := inB p.X 0 255 && (inB p.Y 0 255 && inB p.D 0 7)
theorem okF_iff {p : Feat} : okF p = true ↔ (0 ≤ p.X ∧ p.X ≤ 255) ∧ (0 ≤ p.Y ∧ p.Y ≤ 255) ∧ (0 ≤ p.D ∧ p.D ≤ 7) := by simp [okF, inB, and_assoc]
def okFeats (xs : List Feat) (m : Int) : Bool := decide (1 ≤ (xs.length : Int) ∧ (xs.length : Int) ≤ m) && allN xs.length (fun j => okF (at_ xs j))
theorem okFeats_n {xs : List Feat} {m : Int} (h : okFeats xs m = true) : 1 ≤ xs.length ∧ (xs.length : Int) ≤ m := by
  simp only [okFeats, Bool.and_eq_true, decide_eq_true_eq] at h; omega
theorem okFeats_at {xs : List Feat} {m : Int} (h : okFeats xs m = true) {j : Nat} (hj : j < xs.length) : okF (at_ xs j) = true := by
  simp only [okFeats, Bool.and_eq_true] at h
  exact allN_get h.2 hj


theorem okFeats_mk {xs : List Feat} {m : Int} (h1 : 1 ≤ xs.length) (h2 : (xs.length : Int) ≤ m) (h : ∀ z ∈ xs, okF z = true) : okFeats xs m = true := by
  simp only [okFeats, Bool.and_eq_true, decide_eq_true_eq]
  exact ⟨by omega, allN_at fun j hj => h _ (at_mem hj)⟩


-- spec.l09Draw
theorem l09Draw_ok (s : l00Src) (most : Int) (hs : okSrc s) (ha : s.atx ≤ 3999999999999999000) (hmo : 1 ≤ most ∧ most ≤ 60) : ∃ (v : List Feat) (s' : l00Src), (okSrc s') ∧ (s'.code = s.code) ∧ (s.atx + 0 ≤ s'.atx ∧ s'.atx ≤ s.atx + 400) ∧ (okFeats v 72 = true) ∧ ((v.length : Int) ≤ most) ∧ CallOK Tryz.prog 111 [.ref 7001 0, I most] (lookO [(7001, bxl00Src s)]) true (slFeat true v) (lookO [(7001, bxl00Src s')]) := by
  have hh : ∃ r : (List Feat) × l00Src, ((okSrc r.2) ∧ (r.2.code = s.code) ∧ (s.atx + 0 ≤ r.2.atx ∧ r.2.atx ≤ s.atx + 400) ∧ (okFeats r.1 72 = true) ∧ ((r.1.length : Int) ≤ most) ∧ (True)) ∧ CallOK Tryz.prog 111 [.ref 7001 0, I most] (lookO [(7001, bxl00Src s)]) true (slFeat true r.1) (lookO [(7001, bxl00Src r.2)]) := by
    refine fn_okX (Φ := fun r : (List Feat) × l00Src => (okSrc r.2) ∧ (r.2.code = s.code) ∧ (s.atx + 0 ≤ r.2.atx ∧ r.2.atx ≤ s.atx + 400) ∧ (okFeats r.1 72 = true) ∧ ((r.1.length : Int) ≤ most) ∧ (True)) [(7001, bxl00Src s)] (fun r => [(7001, bxl00Src r.2)]) (fn := Tryz.f111) (nt := 45) Tryz.func111 rfl rfl (args := [.ref 7001 0, I most]) rfl (allcons (.inr trivial) (allcons (.inl ⟨rfl, trivial⟩) allnil)) (res := fun r => slFeat true r.1) ?_
    refine xR [] [0, 1] [7001] [.ref 7001 0, I most] [some (bxl00Src s)] [] trivial ?_
    refine xR [(0, .new 9)] [0, 1, 5] [9, 7001] [.ref 7001 0, I most, .arr 9] [some (.arr 3 0 (litF [] 3)), some (bxl00Src s)] [] trivial ?_
    refine x_seq ?_
    obtain ⟨v_1, s'_1, hx1_0, hx1_1, hx1_2, hx1_3, hc1⟩ := pick_ok s 256 (by first | assumption | (simp only [okSrc] at *; simp_all; done)) (by omega)
    refine x_r [(1, .lend [(7001, bxl00Src s, bxl00Src s'_1)] [] [(true, .any), (true, .any)] true (I v_1))] [0, 1, 5, 6] [9, 7001] [.ref 7001 0, I most, .arr 9, I v_1] [some (.arr 3 0 (litF [] 3)), some (bxl00Src s'_1)] [CallOK Tryz.prog 107 [.ref 7001 0, I 256] (lookO [(7001, bxl00Src s)]) true (I v_1) (lookO [(7001, bxl00Src s'_1)]) ∧ (((bxl00Src s : Ob) = bxl00Src s ∨ obLe noOb true (bxl00Src s) (bxl00Src s)) ∧ taggedO false (bxl00Src s)) ∧ True] ⟨⟨hc1, ⟨.inl rfl, (by simp [taggedO, taggedL, tagged, tagU8])⟩, trivial⟩, trivial⟩ ?_
    refine xe_then ?_
    refine x_seq ?_
    obtain ⟨v_2, s'_2, hx2_0, hx2_1, hx2_2, hx2_3, hc2⟩ := pick_ok s'_1 256 (by first | assumption | (simp only [okSrc] at *; simp_all; done)) (by omega)
    refine x_r [(1, .lend [(7001, bxl00Src s'_1, bxl00Src s'_2)] [] [(true, .any), (true, .any)] true (I v_2))] [0, 1, 5, 6, 7] [9, 7001] [.ref 7001 0, I most, .arr 9, I v_1, I v_2] [some (.arr 3 0 (litF [] 3)), some (bxl00Src s'_2)] [CallOK Tryz.prog 107 [.ref 7001 0, I 256] (lookO [(7001, bxl00Src s'_1)]) true (I v_2) (lookO [(7001, bxl00Src s'_2)]) ∧ (((bxl00Src s'_1 : Ob) = bxl00Src s'_1 ∨ obLe noOb true (bxl00Src s'_1) (bxl00Src s'_1)) ∧ taggedO false (bxl00Src s'_1)) ∧ True] ⟨⟨hc2, ⟨.inl rfl, (by simp [taggedO, taggedL, tagged, tagU8])⟩, trivial⟩, trivial⟩ ?_
    refine xe_then ?_
    refine x_seq ?_
    refine x_seq ?_
    obtain ⟨v_3, s'_3, hx3_0, hx3_1, hx3_2, hx3_3, hc3⟩ := pick_ok s'_2 most (by first | assumption | (simp only [okSrc] at *; simp_all; done)) (by omega)
    refine x_r [(2, .lend [(7001, bxl00Src s'_2, bxl00Src s'_3)] [] [(true, .any), (true, .any)] true (I v_3))] [0, 5, 6, 7, 8] [9, 7001] [.ref 7001 0, .arr 9, I v_1, I v_2, I (1 + v_3)] [some (.arr 3 0 (litF [] 3)), some (bxl00Src s'_3)] [CallOK Tryz.prog 107 [.ref 7001 0, I most] (lookO [(7001, bxl00Src s'_2)]) true (I v_3) (lookO [(7001, bxl00Src s'_3)]) ∧ (((bxl00Src s'_2 : Ob) = bxl00Src s'_2 ∨ obLe noOb true (bxl00Src s'_2) (bxl00Src s'_2)) ∧ taggedO false (bxl00Src s'_2)) ∧ True, inR .i64 (1 + v_3)] ⟨⟨hc3, ⟨.inl rfl, (by simp [taggedO, taggedL, tagged, tagU8])⟩, trivial⟩, (inR_i64 (by omega) (by omega)), trivial⟩ ?_
    refine xe_then ?_
    refine x_block ?_
    refine x_weak [] (T := [(0, .ref 7001 0), (5, .arr 9), (6, I v_1), (7, I v_2), (8, I (1 + v_3))]) (O := [(9, tAFeat ([] : List Feat)), (7001, bxl00Src s'_3)]) rfl (⟨.inl rfl, .inl rfl, .inl rfl, .inl rfl, .inl rfl, trivial⟩) (⟨.inr ⟨rfl, (by first | rfl | (simp; done) | (simp; omega) | omega), fun i_ hi_ => absurd hi_ (Nat.not_lt_zero _)⟩, .inl rfl, trivial⟩) ?_
    refine x_loop (X := (List Feat) × Int × Int × Int × l00Src) (fun x => mkS [(0, .ref 7001 0), (5, .arr 9), (6, I x.2.1), (7, I x.2.2.1), (8, I x.2.2.2.1)] [(9, tAFeat x.1), (7001, bxl00Src x.2.2.2.2)]) (fun x => (okSrc x.2.2.2.2 ∧ x.2.2.2.2.code = s.code ∧ s.atx ≤ x.2.2.2.2.atx ∧ x.2.2.2.2.atx ≤ s.atx + 6 + 6 * (most - x.2.2.2.1)) ∧ (0 ≤ x.2.2.2.1 ∧ x.2.2.2.1 ≤ most) ∧ ((x.1.length : Int) + x.2.2.2.1 ≤ most) ∧ (1 ≤ (x.1.length : Int) + x.2.2.2.1) ∧ (∀ z ∈ x.1, okF z = true) ∧ ((0 ≤ x.2.1 ∧ x.2.1 ≤ 255) ∧ 0 ≤ x.2.2.1 ∧ x.2.2.1 ≤ 255) ∧ True) (fun x => x.2.2.2.1.toNat) (([] : List Feat), v_1, v_2, (1 + v_3), s'_3) rfl (show (okSrc s'_3 ∧ s'_3.code = s.code ∧ s.atx ≤ s'_3.atx ∧ s'_3.atx ≤ s.atx + 6 + 6 * (most - (1 + v_3))) ∧ (0 ≤ (1 + v_3) ∧ (1 + v_3) ≤ most) ∧ ((([] : List Feat).length : Int) + (1 + v_3) ≤ most) ∧ (1 ≤ (([] : List Feat).length : Int) + (1 + v_3)) ∧ (∀ z ∈ ([] : List Feat), okF z = true) ∧ ((0 ≤ v_1 ∧ v_1 ≤ 255) ∧ 0 ≤ v_2 ∧ v_2 ≤ 255) ∧ True from ⟨(by exact ⟨by assumption, by first | assumption | rfl | (simp only [*]; done), by omega, by omega⟩), (by omega), (by simp; omega), (by simp; omega), (by simp), (by omega), trivial⟩) (fun x hI => ?_)
    obtain ⟨out, x, y, k, src⟩ := x
    obtain ⟨hs0, hk0, hl0, hl1, hz0, hxy, _⟩ : (okSrc src ∧ src.code = s.code ∧ s.atx ≤ src.atx ∧ src.atx ≤ s.atx + 6 + 6 * (most - k)) ∧ (0 ≤ k ∧ k ≤ most) ∧ ((out.length : Int) + k ≤ most) ∧ (1 ≤ (out.length : Int) + k) ∧ (∀ z ∈ out, okF z = true) ∧ ((0 ≤ x ∧ x ≤ 255) ∧ 0 ≤ y ∧ y ≤ 255) ∧ True := hI
    show XW _ _ _ _ (mkS [(0, .ref 7001 0), (5, .arr 9), (6, I x), (7, I y), (8, I k)] [(9, tAFeat out), (7001, bxl00Src src)]) _ _
    refine x_seq ?_
    refine x_seq ?_
    by_cases h1 : 0 < k
    ·refine x_r [(1, .dec true)] [0, 5, 6, 7, 8, 19] [9, 7001] [.ref 7001 0, .arr 9, I x, I y, I k, Bv true] [some (tAFeat out), some (bxl00Src src)] [0 < k] ⟨h1, trivial⟩ ?_
     refine xe_then ?_
     refine x_true rfl ?_
     refine x_skip ?_
     refine xe_then ?_
     refine x_seq ?_
     refine x_block ?_
     refine x_seq ?_
     obtain ⟨v_4, s'_4, hx4_0, hx4_1, hx4_2, hx4_3, hc4⟩ := pick_ok src 8 (by first | assumption | (simp only [okSrc] at *; simp_all; done)) (by omega)
     refine x_r [(4, .lend [(7001, bxl00Src src, bxl00Src s'_4)] [] [(true, .any), (true, .any)] true (I v_4)), (6, .new 28), (7, .new 29)] [0, 5, 6, 7, 8] [29, 7001] [.ref 7001 0, .arr 29, I x, I y, I k] [some (.arr 3 (out.length + 1) (catF out.length (fFeat out) (litF [I x, I y, I v_4] 3))), some (bxl00Src s'_4)] [CallOK Tryz.prog 107 [.ref 7001 0, I 8] (lookO [(7001, bxl00Src src)]) true (I v_4) (lookO [(7001, bxl00Src s'_4)]) ∧ (((bxl00Src src : Ob) = bxl00Src src ∨ obLe noOb true (bxl00Src src) (bxl00Src src)) ∧ taggedO false (bxl00Src src)) ∧ True, (out.length + 1) * 24 ≤ 140737488355328] ⟨⟨hc4, ⟨.inl rfl, (by simp [taggedO, taggedL, tagged, tagU8])⟩, trivial⟩, (by omega), trivial⟩ ?_
     refine xe_then ?_
     refine x_seq ?_
     obtain ⟨v_5, s'_5, hx5_0, hx5_1, hx5_2, hx5_3, hc5⟩ := pick_ok s'_4 61 (by first | assumption | (simp only [okSrc] at *; simp_all; done)) (by omega)
     refine x_r [(2, .lend [(7001, bxl00Src s'_4, bxl00Src s'_5)] [] [(true, .any), (true, .any)] true (I v_5)), (5, .call [(true, .any), (true, .any)] true (I (min 255 ((x + v_5) - 30)))), (6, .call [(true, .any), (true, .any)] true (I (max 0 (min 255 ((x + v_5) - 30)))))] [0, 5, 6, 7, 8] [29, 7001] [.ref 7001 0, .arr 29, I (max 0 (min 255 ((x + v_5) - 30))), I y, I k] [some (.arr 3 (out.length + 1) (catF out.length (fFeat out) (litF [I x, I y, I v_4] 3))), some (bxl00Src s'_5)] [CallOK Tryz.prog 107 [.ref 7001 0, I 61] (lookO [(7001, bxl00Src s'_4)]) true (I v_5) (lookO [(7001, bxl00Src s'_5)]) ∧ (((bxl00Src s'_4 : Ob) = bxl00Src s'_4 ∨ obLe noOb true (bxl00Src s'_4) (bxl00Src s'_4)) ∧ taggedO false (bxl00Src s'_4)) ∧ True, inR .i64 (x + v_5), inR .i64 ((x + v_5) - 30), Con Tryz.prog 180 [I 255, I ((x + v_5) - 30)] true (I (min 255 ((x + v_5) - 30))) ∧ True, Con Tryz.prog 172 [I 0, I (min 255 ((x + v_5) - 30))] true (I (max 0 (min 255 ((x + v_5) - 30)))) ∧ True] ⟨⟨hc5, ⟨.inl rfl, (by simp [taggedO, taggedL, tagged, tagU8])⟩, trivial⟩, (inR_i64 (by omega) (by omega)), (inR_i64 (by omega) (by omega)), ⟨(l00Min_ok 255 ((x + v_5) - 30)), trivial⟩, ⟨(l00Max_ok 0 (min 255 ((x + v_5) - 30))), trivial⟩, trivial⟩ ?_
     refine xe_then ?_
     obtain ⟨v_6, s'_6, hx6_0, hx6_1, hx6_2, hx6_3, hc6⟩ := pick_ok s'_5 61 (by first | assumption | (simp only [okSrc] at *; simp_all; done)) (by omega)
     refine x_r [(2, .lend [(7001, bxl00Src s'_5, bxl00Src s'_6)] [] [(true, .any), (true, .any)] true (I v_6)), (5, .call [(true, .any), (true, .any)] true (I (min 255 ((y + v_6) - 30)))), (6, .call [(true, .any), (true, .any)] true (I (max 0 (min 255 ((y + v_6) - 30)))))] [0, 5, 6, 7, 8] [29, 7001] [.ref 7001 0, .arr 29, I (max 0 (min 255 ((x + v_5) - 30))), I (max 0 (min 255 ((y + v_6) - 30))), I k] [some (.arr 3 (out.length + 1) (catF out.length (fFeat out) (litF [I x, I y, I v_4] 3))), some (bxl00Src s'_6)] [CallOK Tryz.prog 107 [.ref 7001 0, I 61] (lookO [(7001, bxl00Src s'_5)]) true (I v_6) (lookO [(7001, bxl00Src s'_6)]) ∧ (((bxl00Src s'_5 : Ob) = bxl00Src s'_5 ∨ obLe noOb true (bxl00Src s'_5) (bxl00Src s'_5)) ∧ taggedO false (bxl00Src s'_5)) ∧ True, inR .i64 (y + v_6), inR .i64 ((y + v_6) - 30), Con Tryz.prog 180 [I 255, I ((y + v_6) - 30)] true (I (min 255 ((y + v_6) - 30))) ∧ True, Con Tryz.prog 172 [I 0, I (min 255 ((y + v_6) - 30))] true (I (max 0 (min 255 ((y + v_6) - 30)))) ∧ True] ⟨⟨hc6, ⟨.inl rfl, (by simp [taggedO, taggedL, tagged, tagU8])⟩, trivial⟩, (inR_i64 (by omega) (by omega)), (inR_i64 (by omega) (by omega)), ⟨(l00Min_ok 255 ((y + v_6) - 30)), trivial⟩, ⟨(l00Max_ok 0 (min 255 ((y + v_6) - 30))), trivial⟩, trivial⟩ ?_
     refine xe_block 1 ?_
     refine xe_then ?_
     refine x_r [] [0, 5, 6, 7, 8] [29, 7001] [.ref 7001 0, .arr 29, I (max 0 (min 255 ((x + v_5) - 30))), I (max 0 (min 255 ((y + v_6) - 30))), I (k - 1)] [some (.arr 3 (out.length + 1) (catF out.length (fFeat out) (litF [I x, I y, I v_4] 3))), some (bxl00Src s'_6)] [inR .i64 (k - 1)] ⟨(inR_i64 (by omega) (by omega)), trivial⟩ ?_
     refine xe_weak [(9, 29)] (T := [(0, .ref 7001 0), (5, .arr 9), (6, I (max 0 (min 255 ((x + v_5) - 30)))), (7, I (max 0 (min 255 ((y + v_6) - 30)))), (8, I (k - 1))]) (O := [(9, tAFeat (out ++ [(Feat.mk x y v_4)])), (7001, bxl00Src s'_6)]) rfl (⟨.inl rfl, .inl rfl, .inl rfl, .inl rfl, .inl rfl, trivial⟩) (⟨.inr ⟨rfl, (by first | rfl | (simp; done) | (simp; omega) | omega), fun i_ hi_ => .inl (cat_snoc (enc := cFeat) (xs := out) rfl i_ hi_)⟩, .inl rfl, trivial⟩) (xe_again ((out ++ [(Feat.mk x y v_4)]), (max 0 (min 255 ((x + v_5) - 30))), (max 0 (min 255 ((y + v_6) - 30))), (k - 1), s'_6) rfl (show (okSrc s'_6 ∧ s'_6.code = s.code ∧ s.atx ≤ s'_6.atx ∧ s'_6.atx ≤ s.atx + 6 + 6 * (most - (k - 1))) ∧ (0 ≤ (k - 1) ∧ (k - 1) ≤ most) ∧ (((out ++ [(Feat.mk x y v_4)]).length : Int) + (k - 1) ≤ most) ∧ (1 ≤ ((out ++ [(Feat.mk x y v_4)]).length : Int) + (k - 1)) ∧ (∀ z ∈ (out ++ [(Feat.mk x y v_4)]), okF z = true) ∧ ((0 ≤ (max 0 (min 255 ((x + v_5) - 30))) ∧ (max 0 (min 255 ((x + v_5) - 30))) ≤ 255) ∧ 0 ≤ (max 0 (min 255 ((y + v_6) - 30))) ∧ (max 0 (min 255 ((y + v_6) - 30))) ≤ 255) ∧ True from ⟨(by exact ⟨by assumption, by first | assumption | rfl | (simp only [*]; done), by omega, by omega⟩), (by omega), (by simp; omega), (by simp; omega), (by intro z hz; rcases List.mem_append.1 hz with hz | hz; (exact hz0 z hz); (simp only [List.mem_singleton] at hz; subst hz; exact okF_iff.2 ⟨by dsimp only; omega, by dsimp only; omega, by dsimp only; omega⟩)), (by omega), trivial⟩) (by first | (show ((k - 1).toNat : Nat) < k.toNat; omega) | (dsimp only; omega)))
    refine x_r [(1, .dec false)] [0, 5, 6, 7, 8, 19] [9, 7001] [.ref 7001 0, .arr 9, I x, I y, I k, Bv false] [some (tAFeat out), some (bxl00Src src)] [¬ (0 < k)] ⟨h1, trivial⟩ ?_
    refine xe_then ?_
    refine x_false rfl ?_
    refine x_exit ?_
    refine xe_exit_then ?_
    refine xe_loop_exit ?_
    refine xe_exit_same ?_
    refine xe_then ?_
    refine xR [] [4] [9, 7001] [.arr 9] [some (tAFeat out), some (bxl00Src src)] [] trivial ?_
    refine x_ret ?_
    refine xe_end (out, src) (show (okSrc src) ∧ (src.code = s.code) ∧ (s.atx + 0 ≤ src.atx ∧ src.atx ≤ s.atx + 400) ∧ (okFeats out 72 = true) ∧ ((out.length : Int) ≤ most) ∧ (True) from ⟨(by first | omega | (simp_all; done) | exact hs0.1 | exact hs0.2.1 | exact okFeats_mk (by omega) (by omega) hz0), (by first | omega | (simp_all; done) | exact hs0.1 | exact hs0.2.1 | exact okFeats_mk (by omega) (by omega) hz0), (by first | omega | (simp_all; done) | exact hs0.1 | exact hs0.2.1 | exact okFeats_mk (by omega) (by omega) hz0), (by first | omega | (simp_all; done) | exact hs0.1 | exact hs0.2.1 | exact okFeats_mk (by omega) (by omega) hz0), (by first | omega | (simp_all; done) | exact hs0.1 | exact hs0.2.1 | exact okFeats_mk (by omega) (by omega) hz0), trivial⟩) (⟨.inl rfl, trivial⟩) (.arr 9) (by kernel_rfl) (.inr ⟨(fun _ => rfl), rfl, rfl, fun i _ => .inl rfl⟩) (fun _ => rfl) (fun _ => (tagFeat true _))
  obtain ⟨⟨v, s'⟩, ⟨hh0, hh1, hh2, hh3, hh4, _⟩, hc⟩ := hh
  exact ⟨v, s', hh0, hh1, hh2, hh3, hh4, hc⟩



-- spec.l00Src).one
theorem one_ok (s : l00Src) (n : Int) (hs : okSrc s) (ha : s.atx ≤ 3999999999999999980) : ∃ (v : Bool) (s' : l00Src), (okSrc s') ∧ (s'.code = s.code) ∧ (s.atx + 0 ≤ s'.atx ∧ s'.atx ≤ s.atx + 2) ∧ CallOK Tryz.prog 66 [.ref 7001 0, I n] (lookO [(7001, bxl00Src s)]) true (Bv v) (lookO [(7001, bxl00Src s')]) := by
  have hh : ∃ r : Bool × l00Src, ((okSrc r.2) ∧ (r.2.code = s.code) ∧ (s.atx + 0 ≤ r.2.atx ∧ r.2.atx ≤ s.atx + 2) ∧ (True)) ∧ CallOK Tryz.prog 66 [.ref 7001 0, I n] (lookO [(7001, bxl00Src s)]) true (Bv r.1) (lookO [(7001, bxl00Src r.2)]) := by
    refine fn_okX (Φ := fun r : Bool × l00Src => (okSrc r.2) ∧ (r.2.code = s.code) ∧ (s.atx + 0 ≤ r.2.atx ∧ r.2.atx ≤ s.atx + 2) ∧ (True)) [(7001, bxl00Src s)] (fun r => [(7001, bxl00Src r.2)]) (fn := Tryz.f66) (nt := 9) Tryz.func66 rfl rfl (args := [.ref 7001 0, I n]) rfl (allcons (.inr trivial) (allcons (.inl ⟨rfl, trivial⟩) allnil)) (res := fun r => Bv r.1) ?_
    refine xR [] [0, 1] [7001] [.ref 7001 0, I n] [some (bxl00Src s)] [] trivial ?_
    refine x_seq ?_
    obtain ⟨v_1, s'_1, hx1_0, hx1_1, hx1_2, hx1_3, hc1⟩ := pick_ok s n (by first | assumption | (simp only [okSrc] at *; simp_all; done)) (by omega)
    refine x_r [(2, .lend [(7001, bxl00Src s, bxl00Src s'_1)] [] [(true, .any), (true, .any)] true (I v_1))] [4] [7001] [Bv (decide (v_1 = 0))] [some (bxl00Src s'_1)] [CallOK Tryz.prog 107 [.ref 7001 0, I n] (lookO [(7001, bxl00Src s)]) true (I v_1) (lookO [(7001, bxl00Src s'_1)]) ∧ (((bxl00Src s : Ob) = bxl00Src s ∨ obLe noOb true (bxl00Src s) (bxl00Src s)) ∧ taggedO false (bxl00Src s)) ∧ True] ⟨⟨hc1, ⟨.inl rfl, (by simp [taggedO, taggedL, tagged, tagU8])⟩, trivial⟩, trivial⟩ ?_
    refine xe_then ?_
    refine x_ret ?_
    refine xe_end (decide (v_1 = 0), s'_1) (show (okSrc s'_1) ∧ (s'_1.code = s.code) ∧ (s.atx + 0 ≤ s'_1.atx ∧ s'_1.atx ≤ s.atx + 2) ∧ (True) from ⟨(by first | omega | rfl | assumption | (dsimp only; first | omega | rfl | assumption) | (simp only [*]; done) | (simp_all; done)), (by first | omega | rfl | assumption | (dsimp only; first | omega | rfl | assumption) | (simp only [*]; done) | (simp_all; done)), (by first | omega | rfl | assumption | (dsimp only; first | omega | rfl | assumption) | (simp only [*]; done) | (simp_all; done)), trivial⟩) (⟨.inl rfl, trivial⟩) (Bv (decide (v_1 = 0))) (by kernel_rfl) (.inl rfl) (fun _ => rfl) (fun _ => trivial)
  obtain ⟨⟨v, s'⟩, ⟨hh0, hh1, hh2, _⟩, hc⟩ := hh
  exact ⟨v, s', hh0, hh1, hh2, hc⟩



theorem at_set_same {α : Type} [Inhabited α] {xs : List α} {i : Nat} {x : α} (h : i < xs.length) : at_ (xs.set i x) i = x := by simp [at_, h]
theorem at_set_oth {α : Type} [Inhabited α] {xs : List α} {i j : Nat} {x : α} (h : i ≠ j) : at_ (xs.set j x) i = at_ xs i := by
  have h' : ¬ j = i := fun e => h e.symm
  simp [at_, List.getElem?_set, h']


theorem okFeats_set {xs : List Feat} {k : Nat} {y : Feat} (h : okFeats xs 72 = true) (hy : okF y = true) : okFeats (xs.set k y) 72 = true := by
  simp only [okFeats, Bool.and_eq_true, decide_eq_true_eq, List.length_set] at h ⊢
  refine ⟨h.1, allN_at fun j hj => ?_⟩
  by_cases e : j = k
  · subst e; rw [at_set_same hj]; exact hy
  · have := allN_get h.2 hj
    have h' : ¬ k = j := fun q => e q.symm
    have e2 : at_ (xs.set k y) j = at_ xs j := by simp [at_, List.getElem?_set, h']
    rw [e2]; exact this


def labB (n : Int) : Bool := decide ((97 ≤ n ∧ n ≤ 122) ∨ (48 ≤ n ∧ n ≤ 57) ∨ n = 43 ∨ n = 45 ∨ n = 42 ∨ n = 47 ∨ n = 61 ∨ n = 40 ∨ n = 41 ∨ n = 46 ∨ n = 44)
def okLabel (s : ByteArray) : Bool := decide (s.size = 1) && labB (bAt s 0)


def okTm (t : Template) : Bool := okLabel t.Label && okFeats t.Feats 72

def okStore' (s : Store) : Bool := inB s.Band 0 72 && (decide ((s.Templates.length : Int) ≤ 40) && allN s.Templates.length (fun j => okTm (at_ s.Templates j)))
theorem okStore_iff {s : Store} : okStore' s = true ↔ (0 ≤ s.Band ∧ s.Band ≤ 72) ∧ s.Templates.length ≤ 40 ∧ ∀ j, j < s.Templates.length → okTm (at_ s.Templates j) = true := by
  simp only [okStore', Bool.and_eq_true, decide_eq_true_eq, inB, allN_iff]
  constructor
  · rintro ⟨a, b, c⟩; exact ⟨a, by omega, c⟩
  · rintro ⟨a, b, c⟩; exact ⟨a, by omega, c⟩


theorem okTm_mk {l : ByteArray} {fs : List Feat} (h1 : okLabel l = true) (h2 : okFeats fs 72 = true) : okTm (Template.mk l fs) = true := by simp [okTm, h1, h2]
theorem okTm_fs {t : Template} (h : okTm t = true) : okFeats t.Feats 72 = true := by simp only [okTm, Bool.and_eq_true] at h; exact h.2


-- spec.l11Draw
theorem l11Draw_ok (s : l00Src) (most : Int) (hs : okSrc s) (ha : s.atx ≤ 3999999999999991000) (hmo : 0 ≤ most ∧ most ≤ 10) : ∃ (v : Store) (s' : l00Src), (okSrc s') ∧ (s'.code = s.code) ∧ (s.atx + 0 ≤ s'.atx ∧ s'.atx ≤ s.atx + 8000) ∧ (2 ≤ v.Band ∧ v.Band ≤ 7) ∧ ((v.Templates.length : Int) ≤ most) ∧ (∀ t ∈ v.Templates, okTm t = true) ∧ CallOK Tryz.prog 110 [.ref 7001 0, I most] (lookO [(7001, bxl00Src s)]) true (agStoreT v) (lookO [(7001, bxl00Src s')]) := by
  have hh : ∃ r : Store × l00Src, ((okSrc r.2) ∧ (r.2.code = s.code) ∧ (s.atx + 0 ≤ r.2.atx ∧ r.2.atx ≤ s.atx + 8000) ∧ (2 ≤ r.1.Band ∧ r.1.Band ≤ 7) ∧ ((r.1.Templates.length : Int) ≤ most) ∧ (∀ t ∈ r.1.Templates, okTm t = true) ∧ (True)) ∧ CallOK Tryz.prog 110 [.ref 7001 0, I most] (lookO [(7001, bxl00Src s)]) true (agStoreT r.1) (lookO [(7001, bxl00Src r.2)]) := by
    refine fn_okX (Φ := fun r : Store × l00Src => (okSrc r.2) ∧ (r.2.code = s.code) ∧ (s.atx + 0 ≤ r.2.atx ∧ r.2.atx ≤ s.atx + 8000) ∧ (2 ≤ r.1.Band ∧ r.1.Band ≤ 7) ∧ ((r.1.Templates.length : Int) ≤ most) ∧ (∀ t ∈ r.1.Templates, okTm t = true) ∧ (True)) [(7001, bxl00Src s)] (fun r => [(7001, bxl00Src r.2)]) (fn := Tryz.f110) (nt := 55) Tryz.func110 rfl rfl (args := [.ref 7001 0, I most]) rfl (allcons (.inr trivial) (allcons (.inl ⟨rfl, trivial⟩) allnil)) (res := fun r => agStoreT r.1) ?_
    refine xR [(0, .new 4)] [0, 1, 4] [4, 7001] [.ref 7001 0, I most, .ref 4 0] [some (.box [I 0, nilA]), some (bxl00Src s)] [] trivial ?_
    refine x_seq ?_
    obtain ⟨v_1, s'_1, hx1_0, hx1_1, hx1_2, hx1_3, hc1⟩ := pick_ok s 6 (by first | assumption | (simp only [okSrc] at *; simp_all; done)) (by omega)
    refine x_r [(1, .lend [(7001, bxl00Src s, bxl00Src s'_1)] [] [(true, .any), (true, .any)] true (I v_1)), (4, .new 5)] [0, 1, 4, 5] [4, 5, 7001] [.ref 7001 0, I most, .ref 4 0, .ref 5 0] [some (.box [I 0, nilA]), some (.box [I (2 + v_1), nilA]), some (bxl00Src s'_1)] [CallOK Tryz.prog 107 [.ref 7001 0, I 6] (lookO [(7001, bxl00Src s)]) true (I v_1) (lookO [(7001, bxl00Src s'_1)]) ∧ (((bxl00Src s : Ob) = bxl00Src s ∨ obLe noOb true (bxl00Src s) (bxl00Src s)) ∧ taggedO false (bxl00Src s)) ∧ True, inR .i64 (2 + v_1)] ⟨⟨hc1, ⟨.inl rfl, (by simp [taggedO, taggedL, tagged, tagU8])⟩, trivial⟩, (inR_i64 (by omega) (by omega)), trivial⟩ ?_
    refine xe_then ?_
    refine x_seq ?_
    refine x_seq ?_
    obtain ⟨v_2, s'_2, hx2_0, hx2_1, hx2_2, hx2_3, hc2⟩ := pick_ok s'_1 (most + 1) (by first | assumption | (simp only [okSrc] at *; simp_all; done)) (by omega)
    refine x_r [(3, .lend [(7001, bxl00Src s'_1, bxl00Src s'_2)] [] [(true, .any), (true, .any)] true (I v_2))] [0, 4, 5, 6] [4, 5, 7001] [.ref 7001 0, .ref 4 0, .ref 5 0, I v_2] [some (.box [I 0, nilA]), some (.box [I (2 + v_1), nilA]), some (bxl00Src s'_2)] [inR .i64 (most + 1), CallOK Tryz.prog 107 [.ref 7001 0, I (most + 1)] (lookO [(7001, bxl00Src s'_1)]) true (I v_2) (lookO [(7001, bxl00Src s'_2)]) ∧ (((bxl00Src s'_1 : Ob) = bxl00Src s'_1 ∨ obLe noOb true (bxl00Src s'_1) (bxl00Src s'_1)) ∧ taggedO false (bxl00Src s'_1)) ∧ True] ⟨(inR_i64 (by omega) (by omega)), ⟨hc2, ⟨.inl rfl, (by simp [taggedO, taggedL, tagged, tagU8])⟩, trivial⟩, trivial⟩ ?_
    refine xe_then ?_
    refine x_block ?_
    refine x_nilC 5 1 751 2 (fun _ => []) rfl (by kernel_rfl) ?_
    refine x_weak [] (T := [(0, .ref 7001 0), (4, .ref 4 0), (5, .ref 5 0), (6, I v_2)]) (O := [(4, .box [I 0, nilA]), (5, .box [I (2 + v_1), .arr 751]), (751, tATemplate true ([] : List Template)), (7001, bxl00Src s'_2)]) rfl (⟨.inl rfl, .inl rfl, .inl rfl, .inl rfl, trivial⟩) (⟨.inl rfl, .inl rfl, .inr ⟨rfl, (by first | rfl | (simp; done) | (simp; omega) | omega), fun i_ hi_ => absurd hi_ (Nat.not_lt_zero _)⟩, .inl rfl, trivial⟩) ?_
    refine x_loop (X := Int × (List Template) × l00Src) (fun x => mkS [(0, .ref 7001 0), (4, .ref 4 0), (5, .ref 5 0), (6, I x.1)] [(4, .box [I 0, nilA]), (5, .box [I (2 + v_1), .arr 751]), (751, tATemplate true x.2.1), (7001, bxl00Src x.2.2)]) (fun x => (okSrc x.2.2 ∧ x.2.2.code = s.code ∧ s.atx ≤ x.2.2.atx ∧ x.2.2.atx ≤ s.atx + 20 + 600 * (most - x.1)) ∧ (0 ≤ x.1 ∧ x.1 ≤ most) ∧ ((x.2.1.length : Int) + x.1 ≤ most) ∧ (∀ t ∈ x.2.1, okTm t = true) ∧ True) (fun x => x.1.toNat) (v_2, ([] : List Template), s'_2) rfl (show (okSrc s'_2 ∧ s'_2.code = s.code ∧ s.atx ≤ s'_2.atx ∧ s'_2.atx ≤ s.atx + 20 + 600 * (most - v_2)) ∧ (0 ≤ v_2 ∧ v_2 ≤ most) ∧ ((([] : List Template).length : Int) + v_2 ≤ most) ∧ (∀ t ∈ ([] : List Template), okTm t = true) ∧ True from ⟨(by exact ⟨by assumption, by first | assumption | rfl | (simp only [*]; done), by omega, by omega⟩), (by omega), (by simp; omega), (by simp), trivial⟩) (fun x hI => ?_)
    obtain ⟨k, ts, src⟩ := x
    obtain ⟨hs0, hk0, hl0, hz0, _⟩ : (okSrc src ∧ src.code = s.code ∧ s.atx ≤ src.atx ∧ src.atx ≤ s.atx + 20 + 600 * (most - k)) ∧ (0 ≤ k ∧ k ≤ most) ∧ ((ts.length : Int) + k ≤ most) ∧ (∀ t ∈ ts, okTm t = true) ∧ True := hI
    show XW _ _ _ _ (mkS [(0, .ref 7001 0), (4, .ref 4 0), (5, .ref 5 0), (6, I k)] [(4, .box [I 0, nilA]), (5, .box [I (2 + v_1), .arr 751]), (751, tATemplate true ts), (7001, bxl00Src src)]) _ _
    refine x_seq ?_
    refine x_seq ?_
    by_cases h1 : 0 < k
    ·refine x_r [(1, .dec true)] [0, 4, 5, 6, 17] [4, 5, 751, 7001] [.ref 7001 0, .ref 4 0, .ref 5 0, I k, Bv true] [some (.box [I 0, nilA]), some (.box [I (2 + v_1), .arr 751]), some (tATemplate true ts), some (bxl00Src src)] [0 < k] ⟨h1, trivial⟩ ?_
     refine xe_then ?_
     refine x_true rfl ?_
     refine x_skip ?_
     refine xe_then ?_
     refine x_seq ?_
     refine x_block ?_
     refine x_seq ?_
     obtain ⟨v_3, s'_3, hx3_0, hx3_1, hx3_2, hx3_3, hx3_4, hc3⟩ := text_ok src ([(⟨#[97]⟩ : ByteArray), (⟨#[98]⟩ : ByteArray), (⟨#[116]⟩ : ByteArray), (⟨#[49]⟩ : ByteArray), (⟨#[43]⟩ : ByteArray), (⟨#[45]⟩ : ByteArray)]) (by first | assumption | (simp only [okSrc] at *; simp_all; done)) (by omega) (by decide)
     have hlab : okLabel v_3 = true := by have q := hx3_4; simp only [List.mem_cons, List.not_mem_nil, or_false] at q; rcases q with q | q | q | q | q | q <;> rw [q] <;> decide
     obtain ⟨v_4, s'_4, hx4_0, hx4_1, hx4_2, hx4_3, hx4_4, hc4⟩ := l09Draw_ok s'_3 7 (by first | assumption | (simp only [okSrc] at *; simp_all; done)) (by omega) (by omega)
     have hof : okFeats v_4 72 = true := hx4_3
     have hon := okFeats_n hof
     refine x_r [(1, .new 21), (2, .lend [(7001, bxl00Src src, bxl00Src s'_3)] [] [(true, .any), (false, slS false ([(⟨#[97]⟩ : ByteArray), (⟨#[98]⟩ : ByteArray), (⟨#[116]⟩ : ByteArray), (⟨#[49]⟩ : ByteArray), (⟨#[43]⟩ : ByteArray), (⟨#[45]⟩ : ByteArray)]))] true (Sv v_3)), (4, .lend [(7001, bxl00Src s'_3, bxl00Src s'_4)] [] [(true, .any), (true, .any)] true (slFeat true v_4)), (6, .new 7)] [0, 4, 5, 6, 7] [4, 5, 7, 751, 7001] [.ref 7001 0, .ref 4 0, .ref 5 0, I k, .ref 7 0] [some (.box [I 0, nilA]), some (.box [I (2 + v_1), .arr 751]), some (.box [Sv v_3, slFeat true v_4]), some (tATemplate true ts), some (bxl00Src s'_4)] [CallOK Tryz.prog 125 [.ref 7001 0, slS false ([(⟨#[97]⟩ : ByteArray), (⟨#[98]⟩ : ByteArray), (⟨#[116]⟩ : ByteArray), (⟨#[49]⟩ : ByteArray), (⟨#[43]⟩ : ByteArray), (⟨#[45]⟩ : ByteArray)])] (lookO [(7001, bxl00Src src)]) true (Sv v_3) (lookO [(7001, bxl00Src s'_3)]) ∧ ((false = true → true = true) ∧ 1 = 1 ∧ 6 = (([(⟨#[97]⟩ : ByteArray), (⟨#[98]⟩ : ByteArray), (⟨#[116]⟩ : ByteArray), (⟨#[49]⟩ : ByteArray), (⟨#[43]⟩ : ByteArray), (⟨#[45]⟩ : ByteArray)]).length) ∧ ∀ i_, i_ < (([(⟨#[97]⟩ : ByteArray), (⟨#[98]⟩ : ByteArray), (⟨#[116]⟩ : ByteArray), (⟨#[49]⟩ : ByteArray), (⟨#[43]⟩ : ByteArray), (⟨#[45]⟩ : ByteArray)]).length) → (litF [Sv (⟨#[97]⟩ : ByteArray), Sv (⟨#[98]⟩ : ByteArray), Sv (⟨#[116]⟩ : ByteArray), Sv (⟨#[49]⟩ : ByteArray), Sv (⟨#[43]⟩ : ByteArray), Sv (⟨#[45]⟩ : ByteArray)] 1) i_ = (fS ([(⟨#[97]⟩ : ByteArray), (⟨#[98]⟩ : ByteArray), (⟨#[116]⟩ : ByteArray), (⟨#[49]⟩ : ByteArray), (⟨#[43]⟩ : ByteArray), (⟨#[45]⟩ : ByteArray)])) i_ ∨ (AV.idsL ((fS ([(⟨#[97]⟩ : ByteArray), (⟨#[98]⟩ : ByteArray), (⟨#[116]⟩ : ByteArray), (⟨#[49]⟩ : ByteArray), (⟨#[43]⟩ : ByteArray), (⟨#[45]⟩ : ByteArray)])) i_) = [] ∧ leL (fun _ => none) false ((litF [Sv (⟨#[97]⟩ : ByteArray), Sv (⟨#[98]⟩ : ByteArray), Sv (⟨#[116]⟩ : ByteArray), Sv (⟨#[49]⟩ : ByteArray), Sv (⟨#[43]⟩ : ByteArray), Sv (⟨#[45]⟩ : ByteArray)] 1) i_) ((fS ([(⟨#[97]⟩ : ByteArray), (⟨#[98]⟩ : ByteArray), (⟨#[116]⟩ : ByteArray), (⟨#[49]⟩ : ByteArray), (⟨#[43]⟩ : ByteArray), (⟨#[45]⟩ : ByteArray)])) i_))) ∧ (((bxl00Src src : Ob) = bxl00Src src ∨ obLe noOb true (bxl00Src src) (bxl00Src src)) ∧ taggedO false (bxl00Src src)) ∧ True, CallOK Tryz.prog 111 [.ref 7001 0, I 7] (lookO [(7001, bxl00Src s'_3)]) true (slFeat true v_4) (lookO [(7001, bxl00Src s'_4)]) ∧ (((bxl00Src s'_3 : Ob) = bxl00Src s'_3 ∨ obLe noOb true (bxl00Src s'_3) (bxl00Src s'_3)) ∧ taggedO false (bxl00Src s'_3)) ∧ True] ⟨⟨hc3, ⟨(fun h => by cases h), rfl, (by first | rfl | (simp; done) | (simp; omega) | omega), fun i_ hi_ => .inl (match i_, hi_ with | 0, _ => rfl | 1, _ => rfl | 2, _ => rfl | 3, _ => rfl | 4, _ => rfl | 5, _ => rfl | (i + 6), h => absurd h (by simp))⟩, ⟨.inl rfl, (by simp [taggedO, taggedL, tagged, tagU8])⟩, trivial⟩, ⟨hc4, ⟨.inl rfl, (by simp [taggedO, taggedL, tagged, tagU8])⟩, trivial⟩, trivial⟩ ?_
     refine xe_then ?_
     refine x_seq ?_
     refine x_seq ?_
     by_cases h2 : 0 < (ts.length : Int)
     ·have ht0 := okTm_fs (hz0 _ (at_mem (i := 0) (by omega)))
      have hn0 := okFeats_n ht0
      have hf0 := okF_iff.1 (okFeats_at ht0 (j := 0) (by omega))
      obtain ⟨v_5, s'_5, hx5_0, hx5_1, hx5_2, hc5⟩ := one_ok s'_4 3 (by first | assumption | (simp only [okSrc] at *; simp_all; done)) (by omega)
      rcases Bool.eq_false_or_eq_true v_5 with h3 | h3
      ·subst h3
       refine x_r [(3, .dec true), (6, .lend [(7001, bxl00Src s'_4, bxl00Src s'_5)] [] [(true, .any), (true, .any)] true (Bv true))] [0, 4, 5, 6, 7, 33] [4, 5, 7, 751, 7001] [.ref 7001 0, .ref 4 0, .ref 5 0, I k, .ref 7 0, Bv true] [some (.box [I 0, nilA]), some (.box [I (2 + v_1), .arr 751]), some (.box [Sv v_3, slFeat true v_4]), some (tATemplate true ts), some (bxl00Src s'_5)] [0 < (ts.length : Int), CallOK Tryz.prog 66 [.ref 7001 0, I 3] (lookO [(7001, bxl00Src s'_4)]) true (Bv true) (lookO [(7001, bxl00Src s'_5)]) ∧ (((bxl00Src s'_4 : Ob) = bxl00Src s'_4 ∨ obLe noOb true (bxl00Src s'_4) (bxl00Src s'_4)) ∧ taggedO false (bxl00Src s'_4)) ∧ True] ⟨h2, ⟨hc5, ⟨.inl rfl, (by simp [taggedO, taggedL, tagged, tagU8])⟩, trivial⟩, trivial⟩ ?_
       refine xe_then ?_
       refine x_true rfl ?_
       refine xR [(0, .new 34), (6, .new 40)] [0, 4, 5, 6, 7] [4, 5, 7, 40, 751, 7001] [.ref 7001 0, .ref 4 0, .ref 5 0, I k, .ref 7 0] [some (.box [I 0, nilA]), some (.box [I (2 + v_1), .arr 751]), some (.box [Sv v_3, .arr 40]), some (.arr 3 (0 + (((at_ ts 0).Feats).length)) (catF 0 (litF [] 3) (fFeat ((at_ ts 0).Feats)))), some (tATemplate true ts), some (bxl00Src s'_5)] [(0 : Int) ≤ 0 ∧ 0 < (ts.length : Int), 0 < ts.length, (0 + (((at_ ts 0).Feats).length)) * 24 ≤ 140737488355328] ⟨⟨(by omega), (by omega)⟩, (by omega), (by omega), trivial⟩ ?_
       refine x_weak [] (T := [(0, .ref 7001 0), (4, .ref 4 0), (5, .ref 5 0), (6, I k), (7, .ref 7 0)]) (O := [(4, .box [I 0, nilA]), (5, .box [I (2 + v_1), .arr 751]), (7, .box [Sv v_3, .arr 40]), (40, tAFeat ((at_ ts 0).Feats)), (751, tATemplate true ts), (7001, bxl00Src s'_5)]) rfl (⟨.inl rfl, .inl rfl, .inl rfl, .inl rfl, .inl rfl, trivial⟩) (⟨.inl rfl, .inl rfl, .inl rfl, .inr ⟨rfl, (by first | rfl | (simp; done) | (simp; omega) | omega), fun i_ hi_ => .inl (cat_nil i_)⟩, .inl rfl, .inl rfl, trivial⟩) ?_
       obtain ⟨v_6, s'_6, hx6_0, hx6_1, hx6_2, hx6_3, hc6⟩ := pick_ok s'_5 256 (by first | assumption | (simp only [okSrc] at *; simp_all; done)) (by omega)
       refine x_r [(3, .lend [(7001, bxl00Src s'_5, bxl00Src s'_6)] [] [(true, .any), (true, .any)] true (I v_6))] [0, 4, 5, 6, 7] [4, 5, 7, 40, 751, 7001] [.ref 7001 0, .ref 4 0, .ref 5 0, I k, .ref 7 0] [some (.box [I 0, nilA]), some (.box [I (2 + v_1), .arr 751]), some (.box [Sv v_3, .arr 40]), some (.arr 3 (((at_ ts 0).Feats).length) (fun q => bif Nat.beq q 0 then [I ((at_ ((at_ ts 0).Feats) 0).X), I v_6, I ((at_ ((at_ ts 0).Feats) 0).D)] else (fFeat ((at_ ts 0).Feats)) q)), some (tATemplate true ts), some (bxl00Src s'_6)] [CallOK Tryz.prog 107 [.ref 7001 0, I 256] (lookO [(7001, bxl00Src s'_5)]) true (I v_6) (lookO [(7001, bxl00Src s'_6)]) ∧ (((bxl00Src s'_5 : Ob) = bxl00Src s'_5 ∨ obLe noOb true (bxl00Src s'_5) (bxl00Src s'_5)) ∧ taggedO false (bxl00Src s'_5)) ∧ True, (0 : Int) ≤ 0 ∧ 0 < ((((at_ ts 0).Feats).length) : Int), 0 < ((at_ ts 0).Feats).length] ⟨⟨hc6, ⟨.inl rfl, (by simp [taggedO, taggedL, tagged, tagU8])⟩, trivial⟩, ⟨(by omega), (by omega)⟩, (by omega), trivial⟩ ?_
       refine xe_then ?_
       refine x_weak [] (T := [(0, .ref 7001 0), (4, .ref 4 0), (5, .ref 5 0), (6, I k), (7, .ref 7 0)]) (O := [(4, .box [I 0, nilA]), (5, .box [I (2 + v_1), .arr 751]), (7, .box [Sv v_3, .arr 40]), (40, tAFeat (((at_ ts 0).Feats).set 0 (Feat.mk ((at_ ((at_ ts 0).Feats) 0).X) v_6 ((at_ ((at_ ts 0).Feats) 0).D)))), (751, tATemplate true ts), (7001, bxl00Src s'_6)]) rfl (⟨.inl rfl, .inl rfl, .inl rfl, .inl rfl, .inl rfl, trivial⟩) (⟨.inl rfl, .inl rfl, .inl rfl, .inr ⟨rfl, (by first | rfl | (simp; done) | (simp; omega) | omega), fun i_ hi_ => .inl (upd_enc (enc := cFeat) rfl i_ hi_)⟩, .inl rfl, .inl rfl, trivial⟩) ?_
       refine x_weak [] (T := [(0, .ref 7001 0), (4, .ref 4 0), (5, .ref 5 0), (6, I k), (7, .ref 7 0)]) (O := [(4, .box [I 0, nilA]), (5, .box [I (2 + v_1), .arr 751]), (7, .box [Sv v_3, slFeat true (((at_ ts 0).Feats).set 0 (Feat.mk ((at_ ((at_ ts 0).Feats) 0).X) v_6 ((at_ ((at_ ts 0).Feats) 0).D)))]), (751, tATemplate true ts), (7001, bxl00Src s'_6)]) rfl (⟨.inl rfl, .inl rfl, .inl rfl, .inl rfl, .inl rfl, trivial⟩) (⟨.inl rfl, .inl rfl, .inr ⟨rfl, ⟨⟨(fun _ => rfl), rfl, rfl, fun i _ => .inl rfl⟩, rfl⟩⟩, .inl rfl, .inl rfl, trivial⟩) ?_
       refine x_r [(3, .new 51), (4, .new 52)] [0, 4, 5, 6] [4, 5, 52, 7001] [.ref 7001 0, .ref 4 0, .ref 5 0, I k] [some (.box [I 0, nilA]), some (.box [I (2 + v_1), .arr 52]), some (.arr 2 (ts.length + 1) (catF ts.length (fTemplate true ts) (litF [Sv v_3, slFeat true (((at_ ts 0).Feats).set 0 (Feat.mk ((at_ ((at_ ts 0).Feats) 0).X) v_6 ((at_ ((at_ ts 0).Feats) 0).D)))] 2))), some (bxl00Src s'_6)] [(ts.length + 1) * 40 ≤ 140737488355328] ⟨(by omega), trivial⟩ ?_
       refine xe_block 1 ?_
       refine xe_then ?_
       refine x_weak [] (T := [(0, .ref 7001 0), (4, .ref 4 0), (5, .ref 5 0), (6, I k)]) (O := [(4, .box [I 0, nilA]), (5, .box [I (2 + v_1), .arr 52]), (52, tATemplate true (ts ++ [(Template.mk v_3 (((at_ ts 0).Feats).set 0 (Feat.mk ((at_ ((at_ ts 0).Feats) 0).X) v_6 ((at_ ((at_ ts 0).Feats) 0).D))))])), (7001, bxl00Src s'_6)]) rfl (⟨.inl rfl, .inl rfl, .inl rfl, .inl rfl, trivial⟩) (⟨.inl rfl, .inl rfl, .inr ⟨rfl, (by first | rfl | (simp; done) | (simp; omega) | omega), fun i_ hi_ => .inl (cat_snoc (enc := (cTemplate true)) (xs := ts) rfl i_ hi_)⟩, .inl rfl, trivial⟩) ?_
       refine x_r [] [0, 4, 5, 6] [4, 5, 52, 7001] [.ref 7001 0, .ref 4 0, .ref 5 0, I (k - 1)] [some (.box [I 0, nilA]), some (.box [I (2 + v_1), .arr 52]), some (tATemplate true (ts ++ [(Template.mk v_3 (((at_ ts 0).Feats).set 0 (Feat.mk ((at_ ((at_ ts 0).Feats) 0).X) v_6 ((at_ ((at_ ts 0).Feats) 0).D))))])), some (bxl00Src s'_6)] [inR .i64 (k - 1)] ⟨(inR_i64 (by omega) (by omega)), trivial⟩ ?_
       refine xe_weak [(751, 52)] (T := [(0, .ref 7001 0), (4, .ref 4 0), (5, .ref 5 0), (6, I (k - 1))]) (O := [(4, .box [I 0, nilA]), (5, .box [I (2 + v_1), .arr 751]), (751, tATemplate true (ts ++ [(Template.mk v_3 (((at_ ts 0).Feats).set 0 (Feat.mk ((at_ ((at_ ts 0).Feats) 0).X) v_6 ((at_ ((at_ ts 0).Feats) 0).D))))])), (7001, bxl00Src s'_6)]) rfl (⟨.inl rfl, .inl rfl, .inl rfl, .inl rfl, trivial⟩) (⟨.inl rfl, .inl rfl, .inl rfl, .inl rfl, trivial⟩) (xe_again ((k - 1), (ts ++ [(Template.mk v_3 (((at_ ts 0).Feats).set 0 (Feat.mk ((at_ ((at_ ts 0).Feats) 0).X) v_6 ((at_ ((at_ ts 0).Feats) 0).D))))]), s'_6) rfl (show (okSrc s'_6 ∧ s'_6.code = s.code ∧ s.atx ≤ s'_6.atx ∧ s'_6.atx ≤ s.atx + 20 + 600 * (most - (k - 1))) ∧ (0 ≤ (k - 1) ∧ (k - 1) ≤ most) ∧ (((ts ++ [(Template.mk v_3 (((at_ ts 0).Feats).set 0 (Feat.mk ((at_ ((at_ ts 0).Feats) 0).X) v_6 ((at_ ((at_ ts 0).Feats) 0).D))))]).length : Int) + (k - 1) ≤ most) ∧ (∀ t ∈ (ts ++ [(Template.mk v_3 (((at_ ts 0).Feats).set 0 (Feat.mk ((at_ ((at_ ts 0).Feats) 0).X) v_6 ((at_ ((at_ ts 0).Feats) 0).D))))]), okTm t = true) ∧ True from ⟨(by exact ⟨by assumption, by first | assumption | rfl | (simp only [*]; done), by omega, by omega⟩), (by omega), (by simp; omega), (by intro t ht; rcases List.mem_append.1 ht with ht | ht; (exact hz0 t ht); (simp only [List.mem_singleton] at ht; subst ht; first | exact okTm_mk hlab hof | exact okTm_mk hlab (okFeats_set ht0 (okF_iff.2 ⟨by dsimp only; omega, by dsimp only; omega, by dsimp only; omega⟩)))), trivial⟩) (by first | (show ((k - 1).toNat : Nat) < k.toNat; omega) | (dsimp only; omega)))
      subst h3
      refine x_r [(3, .dec true), (6, .lend [(7001, bxl00Src s'_4, bxl00Src s'_5)] [] [(true, .any), (true, .any)] true (Bv false))] [0, 4, 5, 6, 7, 33] [4, 5, 7, 751, 7001] [.ref 7001 0, .ref 4 0, .ref 5 0, I k, .ref 7 0, Bv false] [some (.box [I 0, nilA]), some (.box [I (2 + v_1), .arr 751]), some (.box [Sv v_3, slFeat true v_4]), some (tATemplate true ts), some (bxl00Src s'_5)] [0 < (ts.length : Int), CallOK Tryz.prog 66 [.ref 7001 0, I 3] (lookO [(7001, bxl00Src s'_4)]) true (Bv false) (lookO [(7001, bxl00Src s'_5)]) ∧ (((bxl00Src s'_4 : Ob) = bxl00Src s'_4 ∨ obLe noOb true (bxl00Src s'_4) (bxl00Src s'_4)) ∧ taggedO false (bxl00Src s'_4)) ∧ True] ⟨h2, ⟨hc5, ⟨.inl rfl, (by simp [taggedO, taggedL, tagged, tagU8])⟩, trivial⟩, trivial⟩ ?_
      refine xe_then ?_
      refine x_false rfl ?_
      refine x_skip ?_
      refine xe_then ?_
      refine x_r [(3, .new 51), (4, .new 52)] [0, 4, 5, 6] [4, 5, 52, 7001] [.ref 7001 0, .ref 4 0, .ref 5 0, I k] [some (.box [I 0, nilA]), some (.box [I (2 + v_1), .arr 52]), some (.arr 2 (ts.length + 1) (catF ts.length (fTemplate true ts) (litF [Sv v_3, slFeat true v_4] 2))), some (bxl00Src s'_5)] [(ts.length + 1) * 40 ≤ 140737488355328] ⟨(by omega), trivial⟩ ?_
      refine xe_block 1 ?_
      refine xe_then ?_
      refine x_weak [] (T := [(0, .ref 7001 0), (4, .ref 4 0), (5, .ref 5 0), (6, I k)]) (O := [(4, .box [I 0, nilA]), (5, .box [I (2 + v_1), .arr 52]), (52, tATemplate true (ts ++ [(Template.mk v_3 v_4)])), (7001, bxl00Src s'_5)]) rfl (⟨.inl rfl, .inl rfl, .inl rfl, .inl rfl, trivial⟩) (⟨.inl rfl, .inl rfl, .inr ⟨rfl, (by first | rfl | (simp; done) | (simp; omega) | omega), fun i_ hi_ => .inl (cat_snoc (enc := (cTemplate true)) (xs := ts) rfl i_ hi_)⟩, .inl rfl, trivial⟩) ?_
      refine x_r [] [0, 4, 5, 6] [4, 5, 52, 7001] [.ref 7001 0, .ref 4 0, .ref 5 0, I (k - 1)] [some (.box [I 0, nilA]), some (.box [I (2 + v_1), .arr 52]), some (tATemplate true (ts ++ [(Template.mk v_3 v_4)])), some (bxl00Src s'_5)] [inR .i64 (k - 1)] ⟨(inR_i64 (by omega) (by omega)), trivial⟩ ?_
      refine xe_weak [(751, 52)] (T := [(0, .ref 7001 0), (4, .ref 4 0), (5, .ref 5 0), (6, I (k - 1))]) (O := [(4, .box [I 0, nilA]), (5, .box [I (2 + v_1), .arr 751]), (751, tATemplate true (ts ++ [(Template.mk v_3 v_4)])), (7001, bxl00Src s'_5)]) rfl (⟨.inl rfl, .inl rfl, .inl rfl, .inl rfl, trivial⟩) (⟨.inl rfl, .inl rfl, .inl rfl, .inl rfl, trivial⟩) (xe_again ((k - 1), (ts ++ [(Template.mk v_3 v_4)]), s'_5) rfl (show (okSrc s'_5 ∧ s'_5.code = s.code ∧ s.atx ≤ s'_5.atx ∧ s'_5.atx ≤ s.atx + 20 + 600 * (most - (k - 1))) ∧ (0 ≤ (k - 1) ∧ (k - 1) ≤ most) ∧ (((ts ++ [(Template.mk v_3 v_4)]).length : Int) + (k - 1) ≤ most) ∧ (∀ t ∈ (ts ++ [(Template.mk v_3 v_4)]), okTm t = true) ∧ True from ⟨(by exact ⟨by assumption, by first | assumption | rfl | (simp only [*]; done), by omega, by omega⟩), (by omega), (by simp; omega), (by intro t ht; rcases List.mem_append.1 ht with ht | ht; (exact hz0 t ht); (simp only [List.mem_singleton] at ht; subst ht; first | exact okTm_mk hlab hof | exact okTm_mk hlab (okFeats_set ht0 (okF_iff.2 ⟨by dsimp only; omega, by dsimp only; omega, by dsimp only; omega⟩)))), trivial⟩) (by first | (show ((k - 1).toNat : Nat) < k.toNat; omega) | (dsimp only; omega)))
     refine x_r [(3, .dec false)] [0, 4, 5, 6, 7, 33] [4, 5, 7, 751, 7001] [.ref 7001 0, .ref 4 0, .ref 5 0, I k, .ref 7 0, Bv false] [some (.box [I 0, nilA]), some (.box [I (2 + v_1), .arr 751]), some (.box [Sv v_3, slFeat true v_4]), some (tATemplate true ts), some (bxl00Src s'_4)] [¬ (0 < (ts.length : Int))] ⟨h2, trivial⟩ ?_
     refine xe_then ?_
     refine x_false rfl ?_
     refine x_skip ?_
     refine xe_then ?_
     refine x_r [(3, .new 51), (4, .new 52)] [0, 4, 5, 6] [4, 5, 52, 7001] [.ref 7001 0, .ref 4 0, .ref 5 0, I k] [some (.box [I 0, nilA]), some (.box [I (2 + v_1), .arr 52]), some (.arr 2 (ts.length + 1) (catF ts.length (fTemplate true ts) (litF [Sv v_3, slFeat true v_4] 2))), some (bxl00Src s'_4)] [(ts.length + 1) * 40 ≤ 140737488355328] ⟨(by omega), trivial⟩ ?_
     refine xe_block 1 ?_
     refine xe_then ?_
     refine x_weak [] (T := [(0, .ref 7001 0), (4, .ref 4 0), (5, .ref 5 0), (6, I k)]) (O := [(4, .box [I 0, nilA]), (5, .box [I (2 + v_1), .arr 52]), (52, tATemplate true (ts ++ [(Template.mk v_3 v_4)])), (7001, bxl00Src s'_4)]) rfl (⟨.inl rfl, .inl rfl, .inl rfl, .inl rfl, trivial⟩) (⟨.inl rfl, .inl rfl, .inr ⟨rfl, (by first | rfl | (simp; done) | (simp; omega) | omega), fun i_ hi_ => .inl (cat_snoc (enc := (cTemplate true)) (xs := ts) rfl i_ hi_)⟩, .inl rfl, trivial⟩) ?_
     refine x_r [] [0, 4, 5, 6] [4, 5, 52, 7001] [.ref 7001 0, .ref 4 0, .ref 5 0, I (k - 1)] [some (.box [I 0, nilA]), some (.box [I (2 + v_1), .arr 52]), some (tATemplate true (ts ++ [(Template.mk v_3 v_4)])), some (bxl00Src s'_4)] [inR .i64 (k - 1)] ⟨(inR_i64 (by omega) (by omega)), trivial⟩ ?_
     refine xe_weak [(751, 52)] (T := [(0, .ref 7001 0), (4, .ref 4 0), (5, .ref 5 0), (6, I (k - 1))]) (O := [(4, .box [I 0, nilA]), (5, .box [I (2 + v_1), .arr 751]), (751, tATemplate true (ts ++ [(Template.mk v_3 v_4)])), (7001, bxl00Src s'_4)]) rfl (⟨.inl rfl, .inl rfl, .inl rfl, .inl rfl, trivial⟩) (⟨.inl rfl, .inl rfl, .inl rfl, .inl rfl, trivial⟩) (xe_again ((k - 1), (ts ++ [(Template.mk v_3 v_4)]), s'_4) rfl (show (okSrc s'_4 ∧ s'_4.code = s.code ∧ s.atx ≤ s'_4.atx ∧ s'_4.atx ≤ s.atx + 20 + 600 * (most - (k - 1))) ∧ (0 ≤ (k - 1) ∧ (k - 1) ≤ most) ∧ (((ts ++ [(Template.mk v_3 v_4)]).length : Int) + (k - 1) ≤ most) ∧ (∀ t ∈ (ts ++ [(Template.mk v_3 v_4)]), okTm t = true) ∧ True from ⟨(by exact ⟨by assumption, by first | assumption | rfl | (simp only [*]; done), by omega, by omega⟩), (by omega), (by simp; omega), (by intro t ht; rcases List.mem_append.1 ht with ht | ht; (exact hz0 t ht); (simp only [List.mem_singleton] at ht; subst ht; first | exact okTm_mk hlab hof | exact okTm_mk hlab (okFeats_set ht0 (okF_iff.2 ⟨by dsimp only; omega, by dsimp only; omega, by dsimp only; omega⟩)))), trivial⟩) (by first | (show ((k - 1).toNat : Nat) < k.toNat; omega) | (dsimp only; omega)))
    refine x_r [(1, .dec false)] [0, 4, 5, 6, 17] [4, 5, 751, 7001] [.ref 7001 0, .ref 4 0, .ref 5 0, I k, Bv false] [some (.box [I 0, nilA]), some (.box [I (2 + v_1), .arr 751]), some (tATemplate true ts), some (bxl00Src src)] [¬ (0 < k)] ⟨h1, trivial⟩ ?_
    refine xe_then ?_
    refine x_false rfl ?_
    refine x_exit ?_
    refine xe_exit_then ?_
    refine xe_loop_exit ?_
    refine xe_exit_same ?_
    refine xe_then ?_
    refine xR [] [4] [4, 751, 7001] [.ref 4 0] [some (.box [I (2 + v_1), .arr 751]), some (tATemplate true ts), some (bxl00Src src)] [] trivial ?_
    refine x_ret ?_
    refine xe_end ((Store.mk (2 + v_1) ts), src) (show (okSrc src) ∧ (src.code = s.code) ∧ (s.atx + 0 ≤ src.atx ∧ src.atx ≤ s.atx + 8000) ∧ (2 ≤ (Store.mk (2 + v_1) ts).Band ∧ (Store.mk (2 + v_1) ts).Band ≤ 7) ∧ (((Store.mk (2 + v_1) ts).Templates.length : Int) ≤ most) ∧ (∀ t ∈ (Store.mk (2 + v_1) ts).Templates, okTm t = true) ∧ (True) from ⟨(by first | omega | (dsimp only; omega) | assumption | exact hs0.1 | exact hs0.2.1), (by first | omega | (dsimp only; omega) | assumption | exact hs0.1 | exact hs0.2.1), (by first | omega | (dsimp only; omega) | assumption | exact hs0.1 | exact hs0.2.1), (by first | omega | (dsimp only; omega) | assumption | exact hs0.1 | exact hs0.2.1), (by first | omega | (dsimp only; omega) | assumption | exact hs0.1 | exact hs0.2.1), (by first | omega | (dsimp only; omega) | assumption | exact hs0.1 | exact hs0.2.1), trivial⟩) (⟨.inl rfl, trivial⟩) (.agg [I (2 + v_1), .arr 751]) (by kernel_rfl) (.inr ⟨rfl, ⟨⟨(fun _ => rfl), rfl, rfl, fun i _ => .inl rfl⟩, rfl⟩⟩) (fun _ => rfl) (fun _ => (by simp [tagged, taggedL, tagTemplate]))
  obtain ⟨⟨v, s'⟩, ⟨hh0, hh1, hh2, hh3, hh4, hh5, _⟩, hc⟩ := hh
  exact ⟨v, s', hh0, hh1, hh2, hh3, hh4, hh5, hc⟩



-- spec.A2Store
theorem A2Store_ok (code : List Int) (hc : (∀ j, j < code.length → 0 ≤ at_ code j ∧ at_ code j ≤ 255) ∧ code.length ≤ 4611686018427387904) : ∃ (v : Store), (2 ≤ v.Band ∧ v.Band ≤ 7) ∧ (v.Templates.length ≤ 6) ∧ (∀ t ∈ v.Templates, okTm t = true) ∧ Con Tryz.prog 46 [slU8 false code] true (agStoreT v) := by
  have hh : ∃ r : Store, ((2 ≤ r.Band ∧ r.Band ≤ 7) ∧ (r.Templates.length ≤ 6) ∧ (∀ t ∈ r.Templates, okTm t = true) ∧ (True)) ∧ CallOK Tryz.prog 46 [slU8 false code] (lookO []) true (agStoreT r) (lookO []) := by
    refine fn_okX (Φ := fun r : Store => (2 ≤ r.Band ∧ r.Band ≤ 7) ∧ (r.Templates.length ≤ 6) ∧ (∀ t ∈ r.Templates, okTm t = true) ∧ (True)) [] (fun r => []) (fn := Tryz.f46) (nt := 6) Tryz.func46 rfl rfl (args := [slU8 false code]) rfl (allcons (.inl ⟨rfl, tagU8 false _⟩) allnil) (res := fun r => agStoreT r) ?_
    refine xR [(0, .new 2)] [0, 2] [2] [slU8 false code, .ref 2 0] [some (.box [I 0, nilA])] [] trivial ?_
    refine x_seq ?_
    obtain ⟨s'_1, hx1_0, hc1⟩ := l00From_ok code
    have hsrc : okSrc s'_1 := ⟨by rw [hx1_0.1]; exact hc.1, by rw [hx1_0.2]; decide, by rw [hx1_0.1]; exact hc.2⟩
    have hat0 := hx1_0.2
    obtain ⟨v_2, s'_2, hx2_0, hx2_1, hx2_2, hx2_3, hx2_4, hx2_5, hc2⟩ := l11Draw_ok s'_1 6 (by first | assumption | (simp only [okSrc] at *; simp_all; done)) (by omega) (by omega)
    refine x_r [(1, .lend [] [(7001, bxl00Src s'_1)] [(true, .any)] false (.ref 7001 0)), (2, .lend [(7001, bxl00Src s'_1, bxl00Src s'_2)] [] [(true, .any), (true, .any)] true (agStoreT v_2))] [2] [2] [.ref 2 0] [some (bxStoreT v_2)] [CallOK Tryz.prog 65 [slU8 false code] (lookO []) false (.ref 7001 0) (lookO [(7001, bxl00Src s'_1)]) ∧ True, CallOK Tryz.prog 110 [.ref 7001 0, I 6] (lookO [(7001, bxl00Src s'_1)]) true (agStoreT v_2) (lookO [(7001, bxl00Src s'_2)]) ∧ (((bxl00Src s'_1 : Ob) = bxl00Src s'_1 ∨ obLe noOb true (bxl00Src s'_1) (bxl00Src s'_1)) ∧ taggedO false (bxl00Src s'_1)) ∧ True] ⟨⟨hc1, trivial⟩, ⟨hc2, ⟨.inl rfl, (by simp [taggedO, taggedL, tagged, tagU8])⟩, trivial⟩, trivial⟩ ?_
    refine xe_then ?_
    refine x_ret ?_
    refine xe_end v_2 (show (2 ≤ v_2.Band ∧ v_2.Band ≤ 7) ∧ (v_2.Templates.length ≤ 6) ∧ (∀ t ∈ v_2.Templates, okTm t = true) ∧ (True) from ⟨(by first | assumption | omega), (by first | assumption | omega), (by first | assumption | omega), trivial⟩) (trivial) (agStoreT v_2) (by kernel_rfl) (.inl rfl) (fun _ => rfl) (fun _ => (by simp [tagged, taggedL, tagTemplate]))
  obtain ⟨v, ⟨hh0, hh1, hh2, _⟩, hc⟩ := hh
  exact ⟨v, hh0, hh1, hh2, hc⟩



-- spec.A2Feats
theorem A2Feats_ok (code : List Int) (hc : (∀ j, j < code.length → 0 ≤ at_ code j ∧ at_ code j ≤ 255) ∧ code.length ≤ 4611686018427387904) : ∃ (v : List Feat), (okFeats v 72 = true) ∧ ((v.length : Int) ≤ 9) ∧ Con Tryz.prog 47 [slU8 false code] true (slFeat true v) := by
  have hh : ∃ r : (List Feat), ((okFeats r 72 = true) ∧ ((r.length : Int) ≤ 9) ∧ (True)) ∧ CallOK Tryz.prog 47 [slU8 false code] (lookO []) true (slFeat true r) (lookO []) := by
    refine fn_okX (Φ := fun r : (List Feat) => (okFeats r 72 = true) ∧ ((r.length : Int) ≤ 9) ∧ (True)) [] (fun r => []) (fn := Tryz.f47) (nt := 6) Tryz.func47 rfl rfl (args := [slU8 false code]) rfl (allcons (.inl ⟨rfl, tagU8 false _⟩) allnil) (res := fun r => slFeat true r) ?_
    refine xR [] [0] [] [slU8 false code] [] [] trivial ?_
    refine x_seq ?_
    obtain ⟨s'_1, hx1_0, hc1⟩ := l00From_ok code
    have hsrc : okSrc s'_1 := ⟨by rw [hx1_0.1]; exact hc.1, by rw [hx1_0.2]; decide, by rw [hx1_0.1]; exact hc.2⟩
    have hat0 := hx1_0.2
    obtain ⟨v_2, s'_2, hx2_0, hx2_1, hx2_2, hx2_3, hx2_4, hc2⟩ := l09Draw_ok s'_1 9 (by first | assumption | (simp only [okSrc] at *; simp_all; done)) (by omega) (by omega)
    refine x_r [(1, .lend [] [(7001, bxl00Src s'_1)] [(true, .any)] false (.ref 7001 0)), (2, .lend [(7001, bxl00Src s'_1, bxl00Src s'_2)] [] [(true, .any), (true, .any)] true (slFeat true v_2))] [2] [] [slFeat true v_2] [] [CallOK Tryz.prog 65 [slU8 false code] (lookO []) false (.ref 7001 0) (lookO [(7001, bxl00Src s'_1)]) ∧ True, CallOK Tryz.prog 111 [.ref 7001 0, I 9] (lookO [(7001, bxl00Src s'_1)]) true (slFeat true v_2) (lookO [(7001, bxl00Src s'_2)]) ∧ (((bxl00Src s'_1 : Ob) = bxl00Src s'_1 ∨ obLe noOb true (bxl00Src s'_1) (bxl00Src s'_1)) ∧ taggedO false (bxl00Src s'_1)) ∧ True] ⟨⟨hc1, trivial⟩, ⟨hc2, ⟨.inl rfl, (by simp [taggedO, taggedL, tagged, tagU8])⟩, trivial⟩, trivial⟩ ?_
    refine xe_then ?_
    refine x_ret ?_
    refine xe_end v_2 (show (okFeats v_2 72 = true) ∧ ((v_2.length : Int) ≤ 9) ∧ (True) from ⟨(by first | assumption | omega), (by first | assumption | omega), trivial⟩) (trivial) (slFeat true v_2) (by kernel_rfl) (.inl rfl) (fun _ => rfl) (fun _ => (tagFeat true _))
  obtain ⟨v, ⟨hh0, hh1, _⟩, hc⟩ := hh
  exact ⟨v, hh0, hh1, hc⟩



-- impl.within
theorem within_ok (n : Int) (low : Int) (high : Int) : Con Tryz.prog 80 [I n, I low, I high] true (Bv (inB n low high)) := by
  refine fn_ok (fn := Tryz.f80) (nt := 15) Tryz.func80 rfl rfl rfl rfl (by simp [taggedL, tagged]) fun B hB => ?_
  refine aR [] [0, 1, 2] [] [I n, I low, I high] [] [] hB trivial ?_
  refine aw_seq ?_
  by_cases h1 : low ≤ n
  ·refine aw_r [(2, .dec true)] [6] [] [Bv (decide (n ≤ high))] [] [low ≤ n] hB ⟨h1, trivial⟩ ?_
   refine ae_then ?_
   refine aw_ret ?_
   refine ae_ret hB (Bv (decide (n ≤ high))) (by kernel_rfl) (.inl (by first | rfl | (refine congrArg Bv ?_; simp [inB, *]; done) | (refine congrArg Bv ?_; simp [inB, *]; omega) | (refine congrArg Bv ?_; simp_all [inB]; done) | (refine congrArg Bv ?_; simp_all [inB]; omega))) rfl (fun _ => trivial)
  refine aw_r [(2, .dec false)] [6] [] [Bv false] [] [¬ (low ≤ n)] hB ⟨h1, trivial⟩ ?_
  refine ae_then ?_
  refine aw_ret ?_
  refine ae_ret hB (Bv false) (by kernel_rfl) (.inl (by first | rfl | (refine congrArg Bv ?_; simp [inB, *]; done) | (refine congrArg Bv ?_; simp [inB, *]; omega) | (refine congrArg Bv ?_; simp_all [inB]; done) | (refine congrArg Bv ?_; simp_all [inB]; omega))) rfl (fun _ => trivial)



-- impl.isLetter
theorem isLetter_ok (c : Int) : Con Tryz.prog 205 [.val (.int .u8 c)] true (Bv (inB c 97 122)) := by
  refine fn_ok (fn := Tryz.f205) (nt := 9) Tryz.func205 rfl rfl rfl rfl (by simp [taggedL, tagged]) fun B hB => ?_
  refine aR [] [0] [] [.val (.int .u8 c)] [] [] hB trivial ?_
  refine aw_seq ?_
  by_cases h1 : 97 ≤ c
  ·refine aw_r [(1, .dec true)] [2] [] [Bv (decide (c ≤ 122))] [] [97 ≤ c] hB ⟨h1, trivial⟩ ?_
   refine ae_then ?_
   refine aw_ret ?_
   refine ae_ret hB (Bv (decide (c ≤ 122))) (by kernel_rfl) (.inl (by first | rfl | (refine congrArg Bv ?_; simp [inB, *]; done) | (refine congrArg Bv ?_; simp [inB, *]; omega) | (refine congrArg Bv ?_; simp_all [inB]; done) | (refine congrArg Bv ?_; simp_all [inB]; omega))) rfl (fun _ => trivial)
  refine aw_r [(1, .dec false)] [2] [] [Bv false] [] [¬ (97 ≤ c)] hB ⟨h1, trivial⟩ ?_
  refine ae_then ?_
  refine aw_ret ?_
  refine ae_ret hB (Bv false) (by kernel_rfl) (.inl (by first | rfl | (refine congrArg Bv ?_; simp [inB, *]; done) | (refine congrArg Bv ?_; simp [inB, *]; omega) | (refine congrArg Bv ?_; simp_all [inB]; done) | (refine congrArg Bv ?_; simp_all [inB]; omega))) rfl (fun _ => trivial)



def hasB (s : ByteArray) (n : Int) : Bool := s.data.toList.any fun x => decide ((x.toNat : Int) = n)
theorem one_byte {t : ByteArray} (h : t.size = 1) : ∃ c, t = ⟨#[c]⟩ := by
  obtain ⟨⟨l⟩⟩ := t
  cases l with
  | nil => cases h
  | cons c l =>
    cases l with
    | nil => exact ⟨c, rfl⟩
    | cons d l => simp [ByteArray.size] at h
theorem has_index (l : List UInt8) (c : UInt8) : decide (0 ≤ Lib.indexByte l c) = l.any fun x => decide ((x.toNat : Int) = bAt ⟨#[c]⟩ 0) := by
  rw [← Lib.contains_iff_indexByte, Bool.eq_iff_iff]
  simp [bAt, List.contains_iff_mem]
  constructor
  · intro h; exact ⟨c, h, rfl⟩
  · rintro ⟨x, hx, e⟩
    have : x = c := UInt8.toNat_inj.1 (by omega)
    exact this ▸ hx


-- strings.Contains
theorem contains_ok (s t : ByteArray) (h : t.size = 1) : Con Tryz.prog 227 [Sv s, Sv t] true (Bv (hasB s (bAt t 0))) := by
  obtain ⟨c, rfl⟩ := one_byte h
  refine con_of_calls (vals := [.string s, .string ⟨#[c]⟩]) fun w _ => ?_
  refine (Tryz.strings_Contains_one s c w).mono ?_
  rintro e w' ⟨rfl, rfl⟩
  refine ⟨?_, Below.refl _ _⟩
  simp only [has_index, hasB]



-- impl.IsLabel
theorem implIsLabel_ok (s : ByteArray) (ok : s.size ≤ 9223372036854775807) : Con Tryz.prog 186 [Sv s] true (Bv (okLabel s)) := by
  refine fn_ok (fn := Tryz.f186) (nt := 15) Tryz.func186 rfl rfl rfl rfl (by simp [taggedL, tagged]) fun B hB => ?_
  refine aR [] [0] [] [Sv s] [] [] hB trivial ?_
  refine aw_seq ?_
  by_cases h1 : (s.size : Int) = 1
  ·rcases Bool.eq_false_or_eq_true (inB (bAt s 0) 97 122) with h2 | h2
   ·refine aw_r [(2, .dec true), (6, .call [(true, .any)] true (Bv true))] [2] [] [Bv true] [] [(s.size : Int) = 1, (0 : Int) ≤ 0 ∧ 0 < (s.size : Int), Con Tryz.prog 205 [.val (.int .u8 (bAt s 0))] true (Bv true) ∧ True] hB ⟨h1, ⟨(by omega), (by omega)⟩, ⟨(con_bool h2 (isLetter_ok (bAt s 0))), trivial⟩, trivial⟩ ?_
    refine ae_then ?_
    refine aw_ret ?_
    refine ae_ret hB (Bv true) (by kernel_rfl) (.inl (by first | (refine congrArg Bv ?_; simp_all [okLabel, labB, inB]; done) | (refine congrArg Bv ?_; have hbd := bAt_bd s 0; rw [Bool.eq_iff_iff]; simp_all [okLabel, hasB, labB, inB]; omega))) rfl (fun _ => trivial)
   refine aw_r [(2, .dec true), (6, .call [(true, .any)] true (Bv false)), (9, .call [(true, .any), (true, .any)] true (Bv (hasB (⟨#[48, 49, 50, 51, 52, 53, 54, 55, 56, 57, 43, 45, 42, 47, 61, 40, 41, 46, 44]⟩ : ByteArray) (bAt s 0))))] [2] [] [Bv (hasB (⟨#[48, 49, 50, 51, 52, 53, 54, 55, 56, 57, 43, 45, 42, 47, 61, 40, 41, 46, 44]⟩ : ByteArray) (bAt s 0))] [] [(s.size : Int) = 1, (0 : Int) ≤ 0 ∧ 0 < (s.size : Int), Con Tryz.prog 205 [.val (.int .u8 (bAt s 0))] true (Bv false) ∧ True, Con Tryz.prog 227 [Sv (⟨#[48, 49, 50, 51, 52, 53, 54, 55, 56, 57, 43, 45, 42, 47, 61, 40, 41, 46, 44]⟩ : ByteArray), Sv s] true (Bv (hasB (⟨#[48, 49, 50, 51, 52, 53, 54, 55, 56, 57, 43, 45, 42, 47, 61, 40, 41, 46, 44]⟩ : ByteArray) (bAt s 0))) ∧ True] hB ⟨h1, ⟨(by omega), (by omega)⟩, ⟨(con_bool h2 (isLetter_ok (bAt s 0))), trivial⟩, ⟨(contains_ok (⟨#[48, 49, 50, 51, 52, 53, 54, 55, 56, 57, 43, 45, 42, 47, 61, 40, 41, 46, 44]⟩ : ByteArray) s (by omega)), trivial⟩, trivial⟩ ?_
   refine ae_then ?_
   refine aw_ret ?_
   refine ae_ret hB (Bv (hasB (⟨#[48, 49, 50, 51, 52, 53, 54, 55, 56, 57, 43, 45, 42, 47, 61, 40, 41, 46, 44]⟩ : ByteArray) (bAt s 0))) (by kernel_rfl) (.inl (by first | (refine congrArg Bv ?_; simp_all [okLabel, labB, inB]; done) | (refine congrArg Bv ?_; have hbd := bAt_bd s 0; rw [Bool.eq_iff_iff]; simp_all [okLabel, hasB, labB, inB]; omega))) rfl (fun _ => trivial)
  refine aw_r [(2, .dec false)] [2] [] [Bv false] [] [¬ ((s.size : Int) = 1)] hB ⟨h1, trivial⟩ ?_
  refine ae_then ?_
  refine aw_ret ?_
  refine ae_ret hB (Bv false) (by kernel_rfl) (.inl (by first | (refine congrArg Bv ?_; simp_all [okLabel, labB, inB]; done) | (refine congrArg Bv ?_; have hbd := bAt_bd s 0; rw [Bool.eq_iff_iff]; simp_all [okLabel, hasB, labB, inB]; omega))) rfl (fun _ => trivial)



-- impl.ValidFeat
theorem ValidFeat_ok (f : Feat) : Con Tryz.prog 225 [agFeat f] true (Bv (okF f)) := by
  refine fn_ok (fn := Tryz.f225) (nt := 16) Tryz.func225 rfl rfl rfl rfl (by simp [taggedL, tagged]) fun B hB => ?_
  refine aR [(0, .new 1)] [1] [1] [.ref 1 0] [some (bxFeat f)] [] hB trivial ?_
  refine aw_seq ?_
  rcases Bool.eq_false_or_eq_true (inB f.X 0 255) with h1 | h1
  ·rcases Bool.eq_false_or_eq_true (inB f.Y 0 255) with h2 | h2
   ·refine aw_r [(2, .call [(true, .any), (true, .any), (true, .any)] true (Bv true)), (6, .call [(true, .any), (true, .any), (true, .any)] true (Bv true)), (11, .call [(true, .any), (true, .any), (true, .any)] true (Bv (inB f.D 0 7)))] [2] [] [Bv (inB f.D 0 7)] [] [Con Tryz.prog 80 [I f.X, I 0, I 255] true (Bv true) ∧ True, Con Tryz.prog 80 [I f.Y, I 0, I 255] true (Bv true) ∧ True, Con Tryz.prog 80 [I f.D, I 0, I 7] true (Bv (inB f.D 0 7)) ∧ True] hB ⟨⟨(con_bool h1 (within_ok f.X 0 255)), trivial⟩, ⟨(con_bool h2 (within_ok f.Y 0 255)), trivial⟩, ⟨(within_ok f.D 0 7), trivial⟩, trivial⟩ ?_
    refine ae_then ?_
    refine aw_ret ?_
    refine ae_ret hB (Bv (inB f.D 0 7)) (by kernel_rfl) (.inl (by first | rfl | (refine congrArg Bv ?_; simp [okF, *]; done) | (refine congrArg Bv ?_; simp [okF, *]; omega) | (refine congrArg Bv ?_; simp_all [okF]; done) | (refine congrArg Bv ?_; simp_all [okF]; omega))) rfl (fun _ => trivial)
   refine aw_r [(2, .call [(true, .any), (true, .any), (true, .any)] true (Bv true)), (6, .call [(true, .any), (true, .any), (true, .any)] true (Bv false))] [2] [] [Bv false] [] [Con Tryz.prog 80 [I f.X, I 0, I 255] true (Bv true) ∧ True, Con Tryz.prog 80 [I f.Y, I 0, I 255] true (Bv false) ∧ True] hB ⟨⟨(con_bool h1 (within_ok f.X 0 255)), trivial⟩, ⟨(con_bool h2 (within_ok f.Y 0 255)), trivial⟩, trivial⟩ ?_
   refine ae_then ?_
   refine aw_ret ?_
   refine ae_ret hB (Bv false) (by kernel_rfl) (.inl (by first | rfl | (refine congrArg Bv ?_; simp [okF, *]; done) | (refine congrArg Bv ?_; simp [okF, *]; omega) | (refine congrArg Bv ?_; simp_all [okF]; done) | (refine congrArg Bv ?_; simp_all [okF]; omega))) rfl (fun _ => trivial)
  refine aw_r [(2, .call [(true, .any), (true, .any), (true, .any)] true (Bv false))] [2] [] [Bv false] [] [Con Tryz.prog 80 [I f.X, I 0, I 255] true (Bv false) ∧ True] hB ⟨⟨(con_bool h1 (within_ok f.X 0 255)), trivial⟩, trivial⟩ ?_
  refine ae_then ?_
  refine aw_ret ?_
  refine ae_ret hB (Bv false) (by kernel_rfl) (.inl (by first | rfl | (refine congrArg Bv ?_; simp [okF, *]; done) | (refine congrArg Bv ?_; simp [okF, *]; omega) | (refine congrArg Bv ?_; simp_all [okF]; done) | (refine congrArg Bv ?_; simp_all [okF]; omega))) rfl (fun _ => trivial)



-- impl.areFeats$1
theorem areFeats1_ok (f : Feat) : Con Tryz.prog 224 [agFeat f] true (Bv (!(okF f))) := by
  refine fn_ok (fn := Tryz.f224) (nt := 6) Tryz.func224 rfl rfl rfl rfl (by simp [taggedL, tagged]) fun B hB => ?_
  refine aR [(0, .new 1)] [1] [1] [.ref 1 0] [some (bxFeat f)] [] hB trivial ?_
  refine aR [(1, .call [(true, .any)] true (Bv (okF f)))] [2] [] [Bv (!(okF f))] [] [Con Tryz.prog 225 [agFeat f] true (Bv (okF f)) ∧ True] hB ⟨⟨(ValidFeat_ok f), trivial⟩, trivial⟩ ?_
  refine aw_ret ?_
  refine ae_ret hB (Bv (!(okF f))) (by kernel_rfl) (.inl rfl) rfl (fun _ => trivial)



def firstN (n : Nat) (p : Nat → Bool) : Int := match (List.range n).find? p with
  | some i => i
  | none => -1
theorem firstN_hit {n : Nat} {p : Nat → Bool} {k : Nat} (hk : k < n) (hp : p k = true) (hn : ∀ i, i < k → p i = false) : firstN n p = k := by
  have h : (List.range n).find? p = some k := by
    rw [List.find?_range_eq_some]
    exact ⟨hp, List.mem_range.2 hk, fun j hj => by simpa using hn j hj⟩
  simp [firstN, h]
theorem firstN_none {n : Nat} {p : Nat → Bool} (hn : ∀ i, i < n → p i = false) : firstN n p = -1 := by
  have h : (List.range n).find? p = none := by
    rw [List.find?_range_eq_none]
    intro i hi; simpa using hn i hi
  simp [firstN, h]
theorem firstN_cases (n : Nat) (p : Nat → Bool) : (firstN n p = -1 ∧ ∀ i, i < n → p i = false) ∨ ∃ k : Nat, firstN n p = k ∧ k < n ∧ p k = true ∧ ∀ i, i < k → p i = false := by
  by_cases h : ∃ k, k < n ∧ p k = true
  · right
    obtain ⟨k, hk, hp⟩ := h
    cases e : (List.range n).find? p with
    | none => rw [List.find?_range_eq_none] at e; exact absurd hp (by simpa using e k hk)
    | some i =>
      have e' := e
      rw [List.find?_range_eq_some] at e
      exact ⟨i, by simp [firstN, e'], List.mem_range.1 e.2.1, e.1, fun j hj => by simpa using e.2.2 j hj⟩
  · left
    have h' : ∀ i, i < n → p i = false := fun i hi => by rw [← Bool.not_eq_true]; exact fun hp => h ⟨i, hi, hp⟩
    exact ⟨firstN_none h', h'⟩
theorem firstN_any (n : Nat) (p : Nat → Bool) : decide (0 ≤ firstN n p) = anyN n p := by
  rcases firstN_cases n p with ⟨h1, h2⟩ | ⟨k, h1, h2, h3, _⟩
  · rw [h1, anyN_none h2]; decide
  · rw [h1, anyN_at h2 h3]; simp


-- impl.areFeats
theorem containsFeat_ok_idx (s : List Feat) : Con Tryz.prog 264 [slFeat false s, .fn 224 []] true (I (firstN s.length (fun j => (!(okF (at_ s j)))))) := by
  refine fn_ok (fn := Tryz.f264) (nt := 19) Tryz.func264 rfl rfl rfl rfl (by simp [taggedL, tagged, tagFeat]) fun B hB => ?_
  refine aw_lens (x := slFeat false s) 0 rfl (fun len_s => ?_)
  simp [LenOK, LenL, cFeat, fFeat, slFeat] at len_s
  refine aR [] [0, 1] [] [slFeat false s, .fn 224 []] [] [] hB trivial ?_
  refine aw_seq ?_
  refine aR [] [0, 1, 7, 8] [] [slFeat false s, .fn 224 [], I (s.length : Int), I 0] [] [] hB trivial ?_
  refine aw_block ?_
  refine aw_loop (fun gn gσ => ∃ (t8 : Int), gn = ((s.length : Int) - t8).toNat ∧ (0 ≤ t8 ∧ t8 ≤ (s.length : Int)) ∧ (∀ j : Nat, (j : Int) < t8 → (!(okF (at_ s j))) = false) ∧ gσ = mkS [(0, slFeat false s), (1, .fn 224 []), (7, I (s.length : Int)), (8, I t8)] []) (((s.length : Int) - 0).toNat) ⟨0, rfl, (by omega), (by intro j hj; omega), rfl⟩ (fun gn gσ hI => ?_)
  obtain ⟨t8, rfl, hi0, hall0, rfl⟩ := hI
  refine aw_seq ?_
  by_cases h1 : t8 < (s.length : Int)
  ·have hi : t8.toNat < s.length := by omega
   refine aw_r [(0, .dec true)] [0, 1, 7, 8, 9] [] [slFeat false s, .fn 224 [], I (s.length : Int), I t8, Bv true] [] [t8 < (s.length : Int)] hB ⟨h1, trivial⟩ ?_
   refine ae_then ?_
   refine aw_seq ?_
   refine aw_true rfl ?_
   refine aw_skip ?_
   refine ae_then ?_
   refine aw_seq ?_
   refine aw_block ?_
   refine aR [] [0, 1, 5, 7, 8] [] [slFeat false s, .fn 224 [], I t8, I (s.length : Int), I t8] [] [] hB trivial ?_
   refine aw_seq ?_
   rcases Bool.eq_false_or_eq_true (!(okF (at_ s t8.toNat))) with h2 | h2
   ·have hfin : firstN s.length (fun j => (!(okF (at_ s j)))) = t8.toNat := firstN_hit hi h2 (fun j hj => hall0 j (by omega))
    refine aw_r [(5, .call [(true, .any)] true (Bv true))] [0, 1, 5, 7, 8, 16] [] [slFeat false s, .fn 224 [], I t8, I (s.length : Int), I t8, Bv true] [] [(0 : Int) ≤ t8 ∧ t8 < (s.length : Int), Con Tryz.prog 224 [agFeat (at_ s t8.toNat)] true (Bv true) ∧ True] hB ⟨⟨(by omega), (by omega)⟩, ⟨(con_bool h2 (areFeats1_ok (at_ s t8.toNat))), trivial⟩, trivial⟩ ?_
    refine ae_then ?_
    refine aw_true rfl ?_
    refine aR [] [4] [] [I t8] [] [] hB trivial ?_
    refine aw_ret ?_
    refine ae_ret_block (ae_ret_then (ae_ret_then (ae_ret_block (ae_ret_then ?_))))
    refine ae_ret hB (I t8) (by kernel_rfl) (.inl (by refine congrArg I ?_; first | (rw [hfin]; done) | (rw [hfin]; omega))) rfl (fun _ => trivial)
   refine aw_r [(5, .call [(true, .any)] true (Bv false))] [0, 1, 5, 7, 8, 16] [] [slFeat false s, .fn 224 [], I t8, I (s.length : Int), I t8, Bv false] [] [(0 : Int) ≤ t8 ∧ t8 < (s.length : Int), Con Tryz.prog 224 [agFeat (at_ s t8.toNat)] true (Bv false) ∧ True] hB ⟨⟨(by omega), (by omega)⟩, ⟨(con_bool h2 (areFeats1_ok (at_ s t8.toNat))), trivial⟩, trivial⟩ ?_
   refine ae_then ?_
   refine aw_false rfl ?_
   refine aw_skip ?_
   refine ae_block 1 ?_
   refine ae_then ?_
   refine aw_r [] [0, 1, 7, 8] [] [slFeat false s, .fn 224 [], I (s.length : Int), I (t8 + 1)] [] [inR .i64 (t8 + 1)] hB ⟨(inR_i64 (by omega) (by omega)), trivial⟩ ?_
   exact ae_again _ (by omega) ⟨(t8 + 1), rfl, (by omega), (by intro j hj; by_cases ej : j = t8.toNat; (subst ej; first | assumption | rfl); exact hall0 j (by omega)), rfl⟩
  have hfin : firstN s.length (fun j => (!(okF (at_ s j)))) = -1 := firstN_none (fun j hj => hall0 j (by omega))
  refine aw_r [(0, .dec false)] [0, 1, 7, 8, 9] [] [slFeat false s, .fn 224 [], I (s.length : Int), I t8, Bv false] [] [¬ (t8 < (s.length : Int))] hB ⟨h1, trivial⟩ ?_
  refine ae_then ?_
  refine aw_seq ?_
  refine aw_false rfl ?_
  refine aw_exit ?_
  refine ae_exit_then ?_
  refine ae_exit_then ?_
  refine ae_exit_same ?_
  refine ae_then ?_
  refine aR [] [4] [] [I (-1)] [] [] hB trivial ?_
  refine aw_ret ?_
  refine ae_ret hB (I (-1)) (by kernel_rfl) (.inl (by refine congrArg I ?_; first | (rw [hfin]; done) | (rw [hfin]; omega))) rfl (fun _ => trivial)

theorem containsFeat_ok (s : List Feat) : Con Tryz.prog 223 [slFeat false s, .fn 224 []] true (Bv (anyN s.length (fun j => (!(okF (at_ s j)))))) := by
  refine fn_ok (fn := Tryz.f223) (nt := 9) Tryz.func223 rfl rfl rfl rfl (by simp [taggedL, tagged, tagFeat]) fun B hB => ?_
  refine aw_lens (x := slFeat false s) 0 rfl (fun len_s => ?_)
  simp [LenOK, LenL, cFeat, fFeat, slFeat] at len_s
  refine aR [] [0, 1] [] [slFeat false s, .fn 224 []] [] [] hB trivial ?_
  refine aR [(2, .call [(true, .any), (true, .any)] true (I (firstN s.length (fun j => (!(okF (at_ s j)))))))] [4] [] [Bv (decide (0 ≤ (firstN s.length (fun j => (!(okF (at_ s j)))))))] [] [Con Tryz.prog 264 [slFeat false s, .fn 224 []] true (I (firstN s.length (fun j => (!(okF (at_ s j)))))) ∧ True] hB ⟨⟨(containsFeat_ok_idx s), trivial⟩, trivial⟩ ?_
  refine aw_ret ?_
  refine ae_ret hB (Bv (decide (0 ≤ (firstN s.length (fun j => (!(okF (at_ s j)))))))) (by kernel_rfl) (.inl (by exact congrArg Bv (firstN_any _ _))) rfl (fun _ => trivial)

theorem areFeats_ok (list : List Feat) (most : Int) : Con Tryz.prog 175 [slFeat false list, I most] true (Bv (okFeats list most)) := by
  refine fn_ok (fn := Tryz.f175) (nt := 19) Tryz.func175 rfl rfl rfl rfl (by simp [taggedL, tagged, tagFeat]) fun B hB => ?_
  refine aw_lens (x := slFeat false list) 0 rfl (fun len_list => ?_)
  simp [LenOK, LenL, cFeat, fFeat, slFeat] at len_list
  refine aR [] [0, 1] [] [slFeat false list, I most] [] [] hB trivial ?_
  refine aw_seq ?_
  by_cases h1 : 1 ≤ (list.length : Int)
  ·by_cases h2 : (list.length : Int) ≤ most
   ·refine aw_r [(2, .dec true), (7, .dec true), (11, .call [(true, .any), (true, .any)] true (Bv (anyN list.length (fun j => (!(okF (at_ list j)))))))] [4] [] [Bv (!(anyN list.length (fun j => (!(okF (at_ list j))))))] [] [1 ≤ (list.length : Int), (list.length : Int) ≤ most, Con Tryz.prog 223 [slFeat false list, .fn 224 []] true (Bv (anyN list.length (fun j => (!(okF (at_ list j)))))) ∧ True] hB ⟨h1, h2, ⟨(containsFeat_ok list), trivial⟩, trivial⟩ ?_
    refine ae_then ?_
    refine aw_ret ?_
    refine ae_ret hB (Bv (!(anyN list.length (fun j => (!(okF (at_ list j))))))) (by kernel_rfl) (.inl (by first | rfl | (refine congrArg Bv ?_; simp [okFeats, anyN_not, *]; done) | (refine congrArg Bv ?_; simp [okFeats, anyN_not, *]; omega) | (refine congrArg Bv ?_; simp_all [okFeats, anyN_not]; done) | (refine congrArg Bv ?_; simp_all [okFeats, anyN_not]; omega))) rfl (fun _ => trivial)
   refine aw_r [(2, .dec true), (7, .dec false)] [4] [] [Bv false] [] [1 ≤ (list.length : Int), ¬ ((list.length : Int) ≤ most)] hB ⟨h1, h2, trivial⟩ ?_
   refine ae_then ?_
   refine aw_ret ?_
   refine ae_ret hB (Bv false) (by kernel_rfl) (.inl (by first | rfl | (refine congrArg Bv ?_; simp [okFeats, anyN_not, *]; done) | (refine congrArg Bv ?_; simp [okFeats, anyN_not, *]; omega) | (refine congrArg Bv ?_; simp_all [okFeats, anyN_not]; done) | (refine congrArg Bv ?_; simp_all [okFeats, anyN_not]; omega))) rfl (fun _ => trivial)
  refine aw_r [(2, .dec false)] [4] [] [Bv false] [] [¬ (1 ≤ (list.length : Int))] hB ⟨h1, trivial⟩ ?_
  refine ae_then ?_
  refine aw_ret ?_
  refine ae_ret hB (Bv false) (by kernel_rfl) (.inl (by first | rfl | (refine congrArg Bv ?_; simp [okFeats, anyN_not, *]; done) | (refine congrArg Bv ?_; simp [okFeats, anyN_not, *]; omega) | (refine congrArg Bv ?_; simp_all [okFeats, anyN_not]; done) | (refine congrArg Bv ?_; simp_all [okFeats, anyN_not]; omega))) rfl (fun _ => trivial)



-- impl.ValidSeq
theorem ValidSeq_ok (list : List Feat) : Con Tryz.prog 116 [slFeat false list] true (Bv (okFeats list 72)) := by
  refine fn_ok (fn := Tryz.f116) (nt := 5) Tryz.func116 rfl rfl rfl rfl (by simp [taggedL, tagged, tagFeat]) fun B hB => ?_
  refine aw_lens (x := slFeat false list) 0 rfl (fun len_list => ?_)
  simp [LenOK, LenL, cFeat, fFeat, slFeat] at len_list
  refine aR [] [0] [] [slFeat false list] [] [] hB trivial ?_
  refine aR [(1, .call [(true, .any), (true, .any)] true (Bv (okFeats list 72)))] [2] [] [Bv (okFeats list 72)] [] [Con Tryz.prog 175 [slFeat false list, I 72] true (Bv (okFeats list 72)) ∧ True] hB ⟨⟨(areFeats_ok list 72), trivial⟩, trivial⟩ ?_
  refine aw_ret ?_
  refine ae_ret hB (Bv (okFeats list 72)) (by kernel_rfl) (.inl rfl) rfl (fun _ => trivial)



-- impl.validTemplate
theorem validTemplate_ok (t : Template) (ok : t.Label.size ≤ 9223372036854775807) : Con Tryz.prog 113 [agTemplate t] true (Bv (okTm t)) := by
  refine fn_ok (fn := Tryz.f113) (nt := 11) Tryz.func113 rfl rfl rfl rfl (by simp [taggedL, tagged, tagFeat]) fun B hB => ?_
  refine aw_lens (x := agTemplate t) 0 rfl (fun len_t => ?_)
  simp [LenOK, LenL, cFeat, fFeat, slFeat] at len_t
  refine aR [(0, .new 1)] [1] [1] [.ref 1 0] [some (bxTemplate t)] [] hB trivial ?_
  refine aw_seq ?_
  rcases Bool.eq_false_or_eq_true (okLabel t.Label) with h1 | h1
  ·refine aw_r [(2, .call [(true, .any)] true (Bv true)), (6, .call [(true, .any)] true (Bv (okFeats t.Feats 72)))] [2] [] [Bv (okFeats t.Feats 72)] [] [Con Tryz.prog 186 [Sv t.Label] true (Bv true) ∧ True, Con Tryz.prog 116 [slFeat false t.Feats] true (Bv (okFeats t.Feats 72)) ∧ True] hB ⟨⟨(con_bool h1 (implIsLabel_ok t.Label ok)), trivial⟩, ⟨(ValidSeq_ok t.Feats), trivial⟩, trivial⟩ ?_
   refine ae_then ?_
   refine aw_ret ?_
   refine ae_ret hB (Bv (okFeats t.Feats 72)) (by kernel_rfl) (.inl (by first | rfl | (refine congrArg Bv ?_; simp [okTm, *]; done) | (refine congrArg Bv ?_; simp [okTm, *]; omega) | (refine congrArg Bv ?_; simp_all [okTm]; done) | (refine congrArg Bv ?_; simp_all [okTm]; omega))) rfl (fun _ => trivial)
  refine aw_r [(2, .call [(true, .any)] true (Bv false))] [2] [] [Bv false] [] [Con Tryz.prog 186 [Sv t.Label] true (Bv false) ∧ True] hB ⟨⟨(con_bool h1 (implIsLabel_ok t.Label ok)), trivial⟩, trivial⟩ ?_
  refine ae_then ?_
  refine aw_ret ?_
  refine ae_ret hB (Bv false) (by kernel_rfl) (.inl (by first | rfl | (refine congrArg Bv ?_; simp [okTm, *]; done) | (refine congrArg Bv ?_; simp [okTm, *]; omega) | (refine congrArg Bv ?_; simp_all [okTm]; done) | (refine congrArg Bv ?_; simp_all [okTm]; omega))) rfl (fun _ => trivial)



def okTemplate (x : Template) : Prop := (x.Label.size ≤ 9223372036854775807)


-- impl.ValidStore$1
theorem ValidStore1_ok (t : Template) (ok : okTemplate t) : Con Tryz.prog 185 [agTemplate t] true (Bv (!(okTm t))) := by
  refine fn_ok (fn := Tryz.f185) (nt := 6) Tryz.func185 rfl rfl rfl rfl (by simp [taggedL, tagged, tagFeat]) fun B hB => ?_
  refine aw_lens (x := agTemplate t) 0 rfl (fun len_t => ?_)
  simp [LenOK, LenL, cFeat, fFeat, slFeat] at len_t
  refine aR [(0, .new 1)] [1] [1] [.ref 1 0] [some (bxTemplate t)] [] hB trivial ?_
  refine aR [(1, .call [(true, .any)] true (Bv (okTm t)))] [2] [] [Bv (!(okTm t))] [] [Con Tryz.prog 113 [agTemplate t] true (Bv (okTm t)) ∧ True] hB ⟨⟨(validTemplate_ok t ok), trivial⟩, trivial⟩ ?_
  refine aw_ret ?_
  refine ae_ret hB (Bv (!(okTm t))) (by kernel_rfl) (.inl rfl) rfl (fun _ => trivial)



def okStore (x : Store) : Prop := (∀ y ∈ x.Templates, okTemplate y)


-- impl.ValidStore
theorem containsTm_ok_idx (s : List Template) (hel : ∀ j, j < s.length → okTemplate (at_ s j)) : Con Tryz.prog 226 [slTemplate false s, .fn 185 []] true (I (firstN s.length (fun j => (!(okTm (at_ s j)))))) := by
  refine fn_ok (fn := Tryz.f226) (nt := 19) Tryz.func226 rfl rfl rfl rfl (by simp [taggedL, tagged, tagTemplate]) fun B hB => ?_
  refine aw_lens (x := slTemplate false s) 0 rfl (fun len_s => ?_)
  simp [LenOK, LenL, cFeat, cTemplate, fFeat, fTemplate, slFeat, slTemplate] at len_s
  refine aR [] [0, 1] [] [slTemplate false s, .fn 185 []] [] [] hB trivial ?_
  refine aw_seq ?_
  refine aR [] [0, 1, 7, 8] [] [slTemplate false s, .fn 185 [], I (s.length : Int), I 0] [] [] hB trivial ?_
  refine aw_block ?_
  refine aw_loop (fun gn gσ => ∃ (t8 : Int), gn = ((s.length : Int) - t8).toNat ∧ (0 ≤ t8 ∧ t8 ≤ (s.length : Int)) ∧ (∀ j : Nat, (j : Int) < t8 → (!(okTm (at_ s j))) = false) ∧ gσ = mkS [(0, slTemplate false s), (1, .fn 185 []), (7, I (s.length : Int)), (8, I t8)] []) (((s.length : Int) - 0).toNat) ⟨0, rfl, (by omega), (by intro j hj; omega), rfl⟩ (fun gn gσ hI => ?_)
  obtain ⟨t8, rfl, hi0, hall0, rfl⟩ := hI
  refine aw_seq ?_
  by_cases h1 : t8 < (s.length : Int)
  ·have hi : t8.toNat < s.length := by omega
   refine aw_r [(0, .dec true)] [0, 1, 7, 8, 9] [] [slTemplate false s, .fn 185 [], I (s.length : Int), I t8, Bv true] [] [t8 < (s.length : Int)] hB ⟨h1, trivial⟩ ?_
   refine ae_then ?_
   refine aw_seq ?_
   refine aw_true rfl ?_
   refine aw_skip ?_
   refine ae_then ?_
   refine aw_seq ?_
   refine aw_block ?_
   refine aR [] [0, 1, 5, 7, 8] [] [slTemplate false s, .fn 185 [], I t8, I (s.length : Int), I t8] [] [] hB trivial ?_
   refine aw_seq ?_
   rcases Bool.eq_false_or_eq_true (!(okTm (at_ s t8.toNat))) with h2 | h2
   ·have hfin : firstN s.length (fun j => (!(okTm (at_ s j)))) = t8.toNat := firstN_hit hi h2 (fun j hj => hall0 j (by omega))
    refine aw_r [(5, .call [(true, .any)] true (Bv true))] [0, 1, 5, 7, 8, 16] [] [slTemplate false s, .fn 185 [], I t8, I (s.length : Int), I t8, Bv true] [] [(0 : Int) ≤ t8 ∧ t8 < (s.length : Int), Con Tryz.prog 185 [agTemplate (at_ s t8.toNat)] true (Bv true) ∧ True] hB ⟨⟨(by omega), (by omega)⟩, ⟨(con_bool h2 (ValidStore1_ok (at_ s t8.toNat) (hel _ hi))), trivial⟩, trivial⟩ ?_
    refine ae_then ?_
    refine aw_true rfl ?_
    refine aR [] [4] [] [I t8] [] [] hB trivial ?_
    refine aw_ret ?_
    refine ae_ret_block (ae_ret_then (ae_ret_then (ae_ret_block (ae_ret_then ?_))))
    refine ae_ret hB (I t8) (by kernel_rfl) (.inl (by refine congrArg I ?_; first | (rw [hfin]; done) | (rw [hfin]; omega))) rfl (fun _ => trivial)
   refine aw_r [(5, .call [(true, .any)] true (Bv false))] [0, 1, 5, 7, 8, 16] [] [slTemplate false s, .fn 185 [], I t8, I (s.length : Int), I t8, Bv false] [] [(0 : Int) ≤ t8 ∧ t8 < (s.length : Int), Con Tryz.prog 185 [agTemplate (at_ s t8.toNat)] true (Bv false) ∧ True] hB ⟨⟨(by omega), (by omega)⟩, ⟨(con_bool h2 (ValidStore1_ok (at_ s t8.toNat) (hel _ hi))), trivial⟩, trivial⟩ ?_
   refine ae_then ?_
   refine aw_false rfl ?_
   refine aw_skip ?_
   refine ae_block 1 ?_
   refine ae_then ?_
   refine aw_r [] [0, 1, 7, 8] [] [slTemplate false s, .fn 185 [], I (s.length : Int), I (t8 + 1)] [] [inR .i64 (t8 + 1)] hB ⟨(inR_i64 (by omega) (by omega)), trivial⟩ ?_
   exact ae_again _ (by omega) ⟨(t8 + 1), rfl, (by omega), (by intro j hj; by_cases ej : j = t8.toNat; (subst ej; first | assumption | rfl); exact hall0 j (by omega)), rfl⟩
  have hfin : firstN s.length (fun j => (!(okTm (at_ s j)))) = -1 := firstN_none (fun j hj => hall0 j (by omega))
  refine aw_r [(0, .dec false)] [0, 1, 7, 8, 9] [] [slTemplate false s, .fn 185 [], I (s.length : Int), I t8, Bv false] [] [¬ (t8 < (s.length : Int))] hB ⟨h1, trivial⟩ ?_
  refine ae_then ?_
  refine aw_seq ?_
  refine aw_false rfl ?_
  refine aw_exit ?_
  refine ae_exit_then ?_
  refine ae_exit_then ?_
  refine ae_exit_same ?_
  refine ae_then ?_
  refine aR [] [4] [] [I (-1)] [] [] hB trivial ?_
  refine aw_ret ?_
  refine ae_ret hB (I (-1)) (by kernel_rfl) (.inl (by refine congrArg I ?_; first | (rw [hfin]; done) | (rw [hfin]; omega))) rfl (fun _ => trivial)

theorem containsTm_ok (s : List Template) (hel : ∀ j, j < s.length → okTemplate (at_ s j)) : Con Tryz.prog 184 [slTemplate false s, .fn 185 []] true (Bv (anyN s.length (fun j => (!(okTm (at_ s j)))))) := by
  refine fn_ok (fn := Tryz.f184) (nt := 9) Tryz.func184 rfl rfl rfl rfl (by simp [taggedL, tagged, tagTemplate]) fun B hB => ?_
  refine aw_lens (x := slTemplate false s) 0 rfl (fun len_s => ?_)
  simp [LenOK, LenL, cFeat, cTemplate, fFeat, fTemplate, slFeat, slTemplate] at len_s
  refine aR [] [0, 1] [] [slTemplate false s, .fn 185 []] [] [] hB trivial ?_
  refine aR [(2, .call [(true, .any), (true, .any)] true (I (firstN s.length (fun j => (!(okTm (at_ s j)))))))] [4] [] [Bv (decide (0 ≤ (firstN s.length (fun j => (!(okTm (at_ s j)))))))] [] [Con Tryz.prog 226 [slTemplate false s, .fn 185 []] true (I (firstN s.length (fun j => (!(okTm (at_ s j)))))) ∧ True] hB ⟨⟨(containsTm_ok_idx s hel), trivial⟩, trivial⟩ ?_
  refine aw_ret ?_
  refine ae_ret hB (Bv (decide (0 ≤ (firstN s.length (fun j => (!(okTm (at_ s j)))))))) (by kernel_rfl) (.inl (by exact congrArg Bv (firstN_any _ _))) rfl (fun _ => trivial)

theorem ValidStore_ok (s : Store) (ok : okStore s) : Con Tryz.prog 112 [agStore s] true (Bv (okStore' s)) := by
  refine fn_ok (fn := Tryz.f112) (nt := 18) Tryz.func112 rfl rfl rfl rfl (by simp [taggedL, tagged, tagTemplate]) fun B hB => ?_
  refine aw_lens (x := agStore s) 0 rfl (fun len_s => ?_)
  simp [LenOK, LenL, cFeat, cTemplate, fFeat, fTemplate, slFeat, slTemplate] at len_s
  refine aR [(0, .new 1)] [1] [1] [.ref 1 0] [some (bxStore s)] [] hB trivial ?_
  refine aw_seq ?_
  rcases Bool.eq_false_or_eq_true (inB s.Band 0 72) with h1 | h1
  ·by_cases h2 : (s.Templates.length : Int) ≤ 40
   ·refine aw_r [(2, .call [(true, .any), (true, .any), (true, .any)] true (Bv true)), (7, .dec true), (12, .call [(true, .any), (true, .any)] true (Bv (anyN s.Templates.length (fun j => (!(okTm (at_ s.Templates j)))))))] [2] [] [Bv (!(anyN s.Templates.length (fun j => (!(okTm (at_ s.Templates j))))))] [] [Con Tryz.prog 80 [I s.Band, I 0, I 72] true (Bv true) ∧ True, (s.Templates.length : Int) ≤ 40, Con Tryz.prog 184 [slTemplate false s.Templates, .fn 185 []] true (Bv (anyN s.Templates.length (fun j => (!(okTm (at_ s.Templates j)))))) ∧ True] hB ⟨⟨(con_bool h1 (within_ok s.Band 0 72)), trivial⟩, h2, ⟨(containsTm_ok s.Templates (fun j hj => ok _ (at_mem hj))), trivial⟩, trivial⟩ ?_
    refine ae_then ?_
    refine aw_ret ?_
    refine ae_ret hB (Bv (!(anyN s.Templates.length (fun j => (!(okTm (at_ s.Templates j))))))) (by kernel_rfl) (.inl (by first | rfl | (refine congrArg Bv ?_; simp [okStore', anyN_not, *]; done) | (refine congrArg Bv ?_; simp [okStore', anyN_not, *]; omega) | (refine congrArg Bv ?_; simp_all [okStore', anyN_not]; done) | (refine congrArg Bv ?_; simp_all [okStore', anyN_not]; omega))) rfl (fun _ => trivial)
   refine aw_r [(2, .call [(true, .any), (true, .any), (true, .any)] true (Bv true)), (7, .dec false)] [2] [] [Bv false] [] [Con Tryz.prog 80 [I s.Band, I 0, I 72] true (Bv true) ∧ True, ¬ ((s.Templates.length : Int) ≤ 40)] hB ⟨⟨(con_bool h1 (within_ok s.Band 0 72)), trivial⟩, h2, trivial⟩ ?_
   refine ae_then ?_
   refine aw_ret ?_
   refine ae_ret hB (Bv false) (by kernel_rfl) (.inl (by first | rfl | (refine congrArg Bv ?_; simp [okStore', anyN_not, *]; done) | (refine congrArg Bv ?_; simp [okStore', anyN_not, *]; omega) | (refine congrArg Bv ?_; simp_all [okStore', anyN_not]; done) | (refine congrArg Bv ?_; simp_all [okStore', anyN_not]; omega))) rfl (fun _ => trivial)
  refine aw_r [(2, .call [(true, .any), (true, .any), (true, .any)] true (Bv false))] [2] [] [Bv false] [] [Con Tryz.prog 80 [I s.Band, I 0, I 72] true (Bv false) ∧ True] hB ⟨⟨(con_bool h1 (within_ok s.Band 0 72)), trivial⟩, trivial⟩ ?_
  refine ae_then ?_
  refine aw_ret ?_
  refine ae_ret hB (Bv false) (by kernel_rfl) (.inl (by first | rfl | (refine congrArg Bv ?_; simp [okStore', anyN_not, *]; done) | (refine congrArg Bv ?_; simp [okStore', anyN_not, *]; omega) | (refine congrArg Bv ?_; simp_all [okStore', anyN_not]; done) | (refine congrArg Bv ?_; simp_all [okStore', anyN_not]; omega))) rfl (fun _ => trivial)



-- impl.Feat]
theorem cloneF0_ok (s : List Feat) (hl : s.length ≤ 100000) : ∃ (out : List Feat), (out = s) ∧ CallOK Tryz.prog 187 [slFeat false s] (lookO []) false (.arr 8311) (lookO [(8311, .arr 3 out.length (fFeat out))]) := by
  refine ⟨s, rfl, ?_⟩
  refine fn_okL [] [(8311, .arr 3 s.length (fFeat s))] (fn := Tryz.f187) (nt := 8) Tryz.func187 rfl rfl (args := [slFeat false s]) rfl (allcons (.inl ⟨rfl, tagFeat false _⟩) allnil) (res := .arr 8311) (fun B hB => ?_)
  refine aw_seq ?_
  refine aw_reg [] [0] [] [slFeat false s] [] [] (by kernel_rfl) hB trivial ?_
  refine ae_then ?_
  refine aw_seq ?_
  refine aw_seq ?_
  refine aw_reg [] [0, 4] [] [slFeat false s, .nilq s.length] [] [] (by kernel_rfl) hB trivial ?_
  refine ae_then ?_
  refine aw_nilq (n := s.length) rfl (fun h1 => ?_) ?_
  · refine aw_seq ?_
    refine aw_reg [] [2] [] [nilA] [] [] (by kernel_rfl) hB trivial ?_
    refine ae_then ?_
    refine aw_ret ?_
    refine ae_ret_then ?_
    refine ae_nil hB 2 8311 3 (fun _ => []) (by kernel_rfl) ?_
    refine ae_weak hB [] (T := [(2, .arr 8311)]) (O := [(8311, .arr 3 s.length (fFeat s))]) rfl (⟨.inl rfl, trivial⟩) (⟨.inr ⟨rfl, (by omega), fun i_ hi_ => absurd hi_ (by omega)⟩, trivial⟩) ?_
    refine ae_retL hB [(8311, .arr 3 s.length (fFeat s))] (⟨.inl rfl, trivial⟩) (.arr 8311) (by kernel_rfl) (.inl rfl) (fun h => by cases h) (fun h => by cases h)
  · refine aw_skip ?_
    refine ae_then ?_
    refine aw_seq ?_
    refine aw_reg [(0, .new 5), (2, .new 7)] [2] [7] [.arr 7] [some (.arr 3 (0 + s.length) (catF 0 (litF [] 3) (fFeat s)))] [(0 + s.length) * 24 ≤ 140737488355328] (by kernel_rfl) hB ⟨(by omega), trivial⟩ ?_
    refine ae_then ?_
    refine aw_ret ?_
    refine ae_weak hB [(8311, 7)] (T := [(2, .arr 8311)]) (O := [(8311, .arr 3 s.length (fFeat s))]) rfl (⟨.inl rfl, trivial⟩) (⟨.inr ⟨rfl, (by simp), fun i_ hi_ => .inl (cat_nil i_)⟩, trivial⟩) ?_
    refine ae_retL hB [(8311, .arr 3 s.length (fFeat s))] (⟨.inl rfl, trivial⟩) (.arr 8311) (by kernel_rfl) (.inl rfl) (fun h => by cases h) (fun h => by cases h)




def strB (xs : List Int) : ByteArray := ⟨(xs.map fun n => UInt8.ofNat n.toNat).toArray⟩
def bytesL (s : ByteArray) : List Int := s.data.toList.map fun b => (b.toNat : Int)
@[simp] theorem bytesL_len (s : ByteArray) : (bytesL s).length = s.size := by unfold bytesL; rw [List.length_map, Array.length_toList]; rfl

def decB (n : Int) : ByteArray := ⟨(Lib.itoa n).toArray⟩
def digs (u : Nat) : List Int := if h : u = 0 then [] else digs (u / 10) ++ [48 + ((u % 10 : Nat) : Int)]
termination_by u
decreasing_by omega
theorem digs_zero : digs 0 = [] := by rw [digs]; simp
theorem digs_pos {u : Nat} (h : u ≠ 0) : digs u = digs (u / 10) ++ [48 + ((u % 10 : Nat) : Int)] := by rw [digs]; simp [h]
theorem digs_len : ∀ (k u : Nat), u < 10 ^ k → (digs u).length ≤ k := by
  intro k
  induction k with
  | zero => intro u h; have : u = 0 := by simpa using h
            subst this; simp [digs_zero]
  | succ k ih =>
    intro u h
    by_cases e : u = 0
    · subst e; simp [digs_zero]
    · rw [digs_pos e]
      have := ih (u / 10) (by rw [Nat.pow_succ] at h; omega)
      simp; omega
theorem digs_dec : ∀ u : Nat, u ≠ 0 → (digs u).map (fun n => UInt8.ofNat n.toNat) = Lib.decDigits u := by
  intro u
  induction u using Nat.strongRecOn with
  | _ u ih =>
    intro e
    rw [digs_pos e, Lib.decDigits, List.map_append]
    by_cases h : u < 10
    · rw [dif_pos h, show u / 10 = 0 by omega, digs_zero]
      simp only [List.map_nil, List.nil_append, List.map_cons]
      congr 2
      omega
    · rw [dif_neg h, ih (u / 10) (by omega) (by omega)]
      simp only [List.map_cons, List.map_nil]
      congr 3
theorem decB_pos {n : Int} (h : 0 < n) : decB n = strB (digs n.natAbs) := by
  unfold decB strB Lib.itoa
  rw [if_neg (by omega), digs_dec _ (by omega), show n.toNat = n.natAbs by omega]
theorem decB_neg {n : Int} (h : n < 0) : decB n = (⟨#[45]⟩ : ByteArray) ++ strB (digs n.natAbs) := by
  unfold decB strB Lib.itoa
  rw [if_pos h, digs_dec _ (by omega)]
  apply ByteArray.ext
  rw [ByteArray.data_append]
  simp
theorem decB_zero : decB 0 = (⟨#[48]⟩ : ByteArray) := by
  unfold decB Lib.itoa
  rw [if_neg (by decide)]
  simp [Lib.decDigits]
theorem strB_size' (xs : List Int) : (strB xs).size = xs.length := by simp [strB, ByteArray.size]
theorem decB_size {n : Int} (h : -9223372036854775808 ≤ n ∧ n ≤ 9223372036854775807) : (decB n).size ≤ 20 := by
  have hl := digs_len 19 n.natAbs (by omega)
  rcases Int.lt_trichotomy n 0 with h1 | h1 | h1
  · rw [decB_neg h1, ByteArray.size_append, strB_size']
    have : (⟨#[45]⟩ : ByteArray).size = 1 := rfl
    omega
  · subst h1; rw [decB_zero]; decide
  · rw [decB_pos h1, strB_size']; omega

def jrest (sep : ByteArray) : List ByteArray → ByteArray
  | [] => ⟨#[]⟩
  | y :: l => (sep ++ y) ++ jrest sep l
def jnB (sep : ByteArray) : List ByteArray → ByteArray
  | [] => ⟨#[]⟩
  | x :: l => x ++ jrest sep l
theorem ba_nilT (x : ByteArray) : x ++ (⟨#[]⟩ : ByteArray) = x := by apply ByteArray.ext; simp
theorem nil_ba (x : ByteArray) : (⟨#[]⟩ : ByteArray) ++ x = x := by apply ByteArray.ext; simp
theorem jrest_snoc (sep y : ByteArray) : ∀ l, jrest sep (l ++ [y]) = (jrest sep l ++ sep) ++ y
  | [] => by simp only [List.nil_append, jrest, ba_nilT, nil_ba]
  | x :: l => by simp only [List.cons_append, jrest, jrest_snoc sep y l, ByteArray.append_assoc]
theorem jnB_snoc {sep y : ByteArray} {l : List ByteArray} (h : l ≠ []) : jnB sep (l ++ [y]) = (jnB sep l ++ sep) ++ y := by
  cases l with
  | nil => exact absurd rfl h
  | cons x l => simp only [List.cons_append, jnB, jrest_snoc, ByteArray.append_assoc]
def jnZ (xs : List ByteArray) : Nat → Nat
  | 0 => 0
  | k + 1 => jnZ xs k + (at_ xs k).size
theorem jnZ_cons (x : ByteArray) (xs : List ByteArray) : ∀ k, jnZ (x :: xs) (k + 1) = x.size + jnZ xs k
  | 0 => by simp [jnZ, at_]
  | k + 1 => by rw [jnZ, jnZ_cons x xs k, jnZ]; simp [at_]; omega
theorem jnZ_mono (xs : List ByteArray) {k m : Nat} (h : k ≤ m) : jnZ xs k ≤ jnZ xs m := by
  induction m with
  | zero => have : k = 0 := by omega
            subst this; exact Nat.le_refl _
  | succ m ih =>
    by_cases e : k = m + 1
    · subst e; exact Nat.le_refl _
    · have := ih (by omega); rw [jnZ]; omega
theorem jrest_size (sep : ByteArray) : ∀ xs, (jrest sep xs).size = jnZ xs xs.length + sep.size * xs.length
  | [] => rfl
  | x :: l => by rw [jrest, ByteArray.size_append, ByteArray.size_append, jrest_size sep l, List.length_cons, jnZ_cons, Nat.mul_succ]; omega
theorem jnB_size (sep : ByteArray) {xs : List ByteArray} (h : xs ≠ []) : (jnB sep xs).size = jnZ xs xs.length + sep.size * (xs.length - 1) := by
  cases xs with
  | nil => exact absurd rfl h
  | cons x l => rw [jnB, ByteArray.size_append, jrest_size, List.length_cons, jnZ_cons, Nat.add_sub_cancel]; omega
def noB (c : UInt8) (s : ByteArray) : Prop := c ∉ s.data.toList
def splC (c : UInt8) (s : ByteArray) : List ByteArray := Lib.splitB ⟨#[c]⟩ 0 (Lib.countB s ⟨#[c]⟩) s
theorem indexByte_none (c : UInt8) : ∀ l : List UInt8, c ∉ l → Lib.indexByte l c = -1
  | [], _ => rfl
  | b :: l, h => by
    have h1 : ¬ b = c := fun e => h (by simp [e])
    have h2 := indexByte_none c l (fun e => h (by simp [e]))
    simp [Lib.indexByte, h1, h2]
theorem indexByte_hit (c : UInt8) (r : List UInt8) : ∀ l : List UInt8, c ∉ l → Lib.indexByte (l ++ c :: r) c = (l.length : Int)
  | [], _ => by simp [Lib.indexByte]
  | b :: l, h => by
    have h1 : ¬ b = c := fun e => h (by simp [e])
    have h2 := indexByte_hit c r l (fun e => h (by simp [e]))
    have h3 : ¬ (l.length : Int) = -1 := by omega
    simp [Lib.indexByte, h1, h2, h3]
theorem spl_none {c : UInt8} {s : ByteArray} (h : noB c s) : splC c s = [s] := by
  have hi : Lib.indexB s ⟨#[c]⟩ = -1 := by
    show Lib.index s.data.toList [c] = -1
    rw [Lib.index_one, indexByte_none c _ h]
  unfold splC
  rw [Lib.countB_miss _ _ hi, Lib.splitB_zero]
theorem ext_left (x y : ByteArray) : (x ++ y).extract 0 x.size = x := by
  exact ByteArray.extract_append_eq_left rfl
theorem ext_right (x y : ByteArray) : (x ++ y).extract x.size (x ++ y).size = y := by
  exact ByteArray.extract_append_eq_right rfl ByteArray.size_append
theorem spl_cons {c : UInt8} {x r : ByteArray} (h : noB c x) : splC c ((x ++ ⟨#[c]⟩) ++ r) = x :: splC c r := by
  have hi : Lib.indexB ((x ++ ⟨#[c]⟩) ++ r) ⟨#[c]⟩ = ((x.size : Nat) : Int) := by
    show Lib.index ((x ++ ⟨#[c]⟩) ++ r).data.toList [c] = _
    rw [Lib.index_one]
    have : ((x ++ ⟨#[c]⟩) ++ r).data.toList = x.data.toList ++ c :: r.data.toList := by simp
    rw [this, indexByte_hit c _ _ h]
    rfl
  have hz : (x ++ (⟨#[c]⟩ : ByteArray)).size = x.size + (⟨#[c]⟩ : ByteArray).size := by rw [ByteArray.size_append]
  have he : ((x ++ ⟨#[c]⟩) ++ r).extract (x.size + (⟨#[c]⟩ : ByteArray).size) ((x ++ ⟨#[c]⟩) ++ r).size = r := by
    rw [← hz]; exact ext_right _ _
  have hl : ((x ++ ⟨#[c]⟩) ++ r).extract 0 (x.size + 0) = x := by
    rw [Nat.add_zero, ByteArray.append_assoc]; exact ext_left _ _
  unfold splC
  rw [Lib.countB_hit _ _ _ (show 1 ≤ (⟨#[c]⟩ : ByteArray).size from Nat.le_refl 1) hi, he, Nat.add_comm 1, Lib.splitB_hit _ _ _ _ _ hi, he, hl]
theorem spl_join {c : UInt8} : ∀ {xs : List ByteArray}, xs ≠ [] → (∀ x ∈ xs, noB c x) → splC c (jnB ⟨#[c]⟩ xs) = xs
  | [], h, _ => absurd rfl h
  | [x], _, h => by
    rw [jnB, jrest, ba_nilT]; exact spl_none (h x (by simp))
  | x :: y :: l, _, h => by
    have e : jnB ⟨#[c]⟩ (x :: y :: l) = (x ++ ⟨#[c]⟩) ++ jnB ⟨#[c]⟩ (y :: l) := by simp only [jnB, jrest, ByteArray.append_assoc]
    rw [e, spl_cons (h x (by simp)), spl_join (by simp) fun z hz => h z (by simp [hz])]
theorem noB_app {c : UInt8} {x y : ByteArray} (h1 : noB c x) (h2 : noB c y) : noB c (x ++ y) := by
  unfold noB at *; simp [h1, h2]
theorem noB_nil {c : UInt8} : noB c ⟨#[]⟩ := by simp [noB]
theorem noB_jrest {c : UInt8} {sep : ByteArray} (hs : noB c sep) : ∀ {xs : List ByteArray}, (∀ x ∈ xs, noB c x) → noB c (jrest sep xs)
  | [], _ => noB_nil
  | x :: l, h => noB_app (noB_app hs (h x (by simp))) (noB_jrest hs fun z hz => h z (by simp [hz]))
theorem noB_join {c : UInt8} {sep : ByteArray} (hs : noB c sep) : ∀ {xs : List ByteArray}, (∀ x ∈ xs, noB c x) → noB c (jnB sep xs)
  | [], _ => noB_nil
  | x :: l, h => noB_app (h x (by simp)) (noB_jrest hs fun z hz => h z (by simp [hz]))
theorem decDigits_bytes : ∀ (k u : Nat), u < k → ∀ b ∈ Lib.decDigits u, 48 ≤ b.toNat ∧ b.toNat ≤ 57
  | 0, u, h, _, _ => absurd h (Nat.not_lt_zero _)
  | k + 1, u, h, b, hb => by
    rw [Lib.decDigits] at hb
    split at hb
    · have hb := List.mem_singleton.1 hb; subst hb; rw [UInt8.toNat_ofNat']; omega
    · rcases List.mem_append.1 hb with hb | hb
      · exact decDigits_bytes k (u / 10) (by omega) b hb
      · have hb := List.mem_singleton.1 hb; subst hb; rw [UInt8.toNat_ofNat']; omega
theorem decB_bytes (n : Int) : ∀ b ∈ (decB n).data.toList, b.toNat = 45 ∨ (48 ≤ b.toNat ∧ b.toNat ≤ 57) := fun b hb => by
  have hb : b ∈ Lib.itoa n := by simpa [decB] using hb
  unfold Lib.itoa at hb
  split at hb
  · rcases List.mem_cons.1 hb with e | hb
    · subst e; exact .inl rfl
    · exact .inr (decDigits_bytes _ _ (Nat.lt_succ_self _) b hb)
  · exact .inr (decDigits_bytes _ _ (Nat.lt_succ_self _) b hb)
theorem decB_noB {c : UInt8} (hc : c.toNat < 45 ∨ 57 < c.toNat) (n : Int) : noB c (decB n) := fun h => by
  have := decB_bytes n c h
  omega
theorem decDigits_ne (u : Nat) : Lib.decDigits u ≠ [] := by rw [Lib.decDigits]; split <;> simp
theorem puM_app (M : Nat) : ∀ (l r : List UInt8) (acc : Nat), Lib.parseUintM M acc (l ++ r) = match Lib.parseUintM M acc l with | .ok v => Lib.parseUintM M v r | .«syntax» => .«syntax» | .range => .range
  | [], r, acc => rfl
  | c :: l, r, acc => by
    simp only [List.cons_append, Lib.parseUintM]
    split
    · split
      · rfl
      · split
        · rfl
        · exact puM_app M l r _
    · rfl
theorem puM_dec {M : Nat} (hM : 1000000000000000000 ≤ M) : ∀ (k u : Nat), u < k → u < 1000000000000000000 → Lib.parseUintM M 0 (Lib.decDigits u) = .ok u
  | 0, u, h, _ => absurd h (Nat.not_lt_zero _)
  | k + 1, u, h, h2 => by
    rw [Lib.decDigits]
    split
    · rename_i h3
      have e : (UInt8.ofNat (48 + u)).toNat = 48 + u := by rw [UInt8.toNat_ofNat']; omega
      simp only [Lib.parseUintM, e]
      rw [if_pos (by omega), if_neg (by omega), if_neg (by omega)]
      simp
    · rename_i h3
      rw [puM_app, puM_dec hM k (u / 10) (by omega) (by omega)]
      have e : (UInt8.ofNat (48 + u % 10)).toNat = 48 + u % 10 := by rw [UInt8.toNat_ofNat']; omega
      simp only [Lib.parseUintM, e]
      rw [if_pos (by omega), if_neg (by omega), if_neg (by omega)]
      congr 1
      omega
theorem parse_dec {n : Int} (h : -1000000000000000000 < n ∧ n < 1000000000000000000) : Lib.parseIntB 64 (decB n).data.toList = .ok n := by
  have e : (decB n).data.toList = Lib.itoa n := by simp [decB]
  rw [e]
  unfold Lib.itoa
  split
  · rename_i h0
    rw [Lib.parseIntB_minus]
    unfold Lib.parseUintB
    rw [if_neg (decDigits_ne _), puM_dec (by decide) _ _ (Nat.lt_succ_self _) (by omega)]
    simp only [Lib.signedC]
    rw [if_neg (by omega)]
    congr 1
    omega
  · rename_i h0
    obtain ⟨c, r, hc⟩ : ∃ c r, Lib.decDigits n.toNat = c :: r := by
      cases h : Lib.decDigits n.toNat with
      | nil => exact absurd h (decDigits_ne _)
      | cons c r => exact ⟨c, r, rfl⟩
    have hb := decDigits_bytes _ n.toNat (Nat.lt_succ_self _) c (by rw [hc]; simp)
    rw [hc, Lib.parseIntB_plain 64 c r (by omega) (by omega), ← hc]
    unfold Lib.parseUintB
    rw [if_neg (decDigits_ne _), puM_dec (by decide) _ _ (Nat.lt_succ_self _) (by omega)]
    simp only [Lib.signlessC]
    rw [if_neg (by omega)]
    congr 1
    omega

theorem con_of_calls_sl {P : Program} {f : FuncId} {vals : List Value} {n : Nat} {T : TypeId} {cs : Array Value} {g : Nat → Value} (hn : n ≤ maxLen) (hc : ∀ i, i < n → cs[i]? = some (g i) ∧ (g i).oneCell' = true)
    (h : ∀ w, WX w → Calls P f vals.toArray w fun e w' => e = .returned (.slice (some ⟨w.heap.size, 0, none⟩) n n) ∧ w' = w.alloc (.cells cs T)) : Con P f (vals.map .val) true (.sl true 1 n fun i => [.val (g i)]) := by
  intro B vals' hbo hm hr
  have : vals' = vals := by
    have hl := hr.1
    simp at hl
    apply List.ext_getElem hl.symm
    intro i h1 h2
    have := hr.2 i (.val vals[i]) vals'[i] (by simp [List.getElem?_map, List.getElem?_eq_getElem h2]) (List.getElem?_eq_getElem h1)
    generalize vals[i] = x at *
    generalize vals'[i] = y at *
    cases this with | tree _ _ h => cases h; rfl
  subst this
  refine (h B.w0 (hm.glob _ (Kept.refl _ _))).mono ?_
  rintro e w' ⟨rfl, rfl⟩
  have hk : Kept B.w0 (fun _ => False) (B.w0.alloc (.cells cs T)) := ⟨rfl, rfl, rfl, by simp, fun k hk _ => Go.heap_alloc_old _ _ hk⟩
  have hnew := heap_alloc_new B.w0 (.cells cs T)
  refine ⟨_, B.κ0, rfl, hm.world hk, .tree _ _ (.sl true 1 n _ B.w0.heap.size 0 n (fun i _ => g i) ⟨(Array.getElem?_eq_some_iff.1 hnew).1, ⟨fun _ => Nat.le_refl _, fun h => absurd h (Nat.lt_irrefl _)⟩, fun i hi => absurd rfl hi⟩ (Nat.le_refl _) hn (fun _ _ => rfl) (fun i j hi hj => ?_) fun i j u hi hu => ?_)⟩
  · have : j = 0 := by omega
    subst this
    refine ⟨?_, (hc i hi).2⟩
    have := (hc i hi).1
    rw [Lib.cell_of_heap hnew]
    simpa using this
  · cases j with
    | zero => simp at hu; subst hu; exact .val _
    | succ j => simp at hu
theorem splB_length {sep s : ByteArray} (h1 : sep.size = 1) : (Lib.splitB sep 0 (Lib.countB s sep) s).length = Lib.countB s sep + 1 := Lib.splitB_all sep (by omega) 0 _ s rfl


def splB (sep s : ByteArray) : List ByteArray := Lib.splitB sep 0 (Lib.countB s sep) s
def sufB (s p : ByteArray) : Bool := Lib.hasSuffix s.data.toList p.data.toList
def trsB (s p : ByteArray) : ByteArray := ⟨(Lib.trimSuffix s.data.toList p.data.toList).toArray⟩
def trpB (s p : ByteArray) : ByteArray := ⟨(Lib.trimPrefix s.data.toList p.data.toList).toArray⟩
theorem sufB_app (x y : ByteArray) : sufB (x ++ y) y = true := by simp [sufB, Lib.hasSuffix]
theorem trsB_app (x y : ByteArray) : trsB (x ++ y) y = x := by
  unfold trsB Lib.trimSuffix
  have h := sufB_app x y
  unfold sufB at h
  rw [if_pos h]
  apply ByteArray.ext
  simp


def jok (sep : ByteArray) (xs : List ByteArray) : Prop := sep.size ≤ 8 ∧ xs.length ≤ 100000 ∧ (xs ≠ [] → jnZ xs xs.length + sep.size * (xs.length - 1) ≤ 1000000000)
theorem jok_room {s n : Nat} (hs : s ≤ 8) (hn : 1 ≤ n ∧ n ≤ 100000) : (s : Int) < (9223372036854775807 : Int) / (n : Int) := by
  have h : (9 : Int) ≤ (9223372036854775807 : Int) / (n : Int) := by
    rw [Int.le_ediv_iff_mul_le (by omega)]
    omega
  omega
theorem jnZ_at (xs : List ByteArray) {k : Nat} : jnZ xs (k + 1) = jnZ xs k + (at_ xs k).size := rfl
theorem jnB_one (sep : ByteArray) {xs : List ByteArray} (h : xs.length = 1) : jnB sep xs = at_ xs 0 := by
  match xs, h with
  | [x], _ => simp [jnB, jrest, ba_nilT, at_]
theorem jnB_take {sep : ByteArray} {xs : List ByteArray} {k : Nat} (h : k + 1 < xs.length) : jnB sep (xs.take (k + 2)) = (jnB sep (xs.take (k + 1)) ++ sep) ++ at_ xs (k + 1) := by
  rw [show xs.take (k + 2) = xs.take (k + 1) ++ [at_ xs (k + 1)] from by rw [List.take_succ_eq_append_getElem h, at_eq h], jnB_snoc]
  intro e
  have h2 : (xs.take (k + 1)).length = k + 1 := by rw [List.length_take]; omega
  rw [e] at h2
  simp at h2
theorem jnB_take1 {sep : ByteArray} {xs : List ByteArray} (h : 1 ≤ xs.length) : jnB sep (xs.take 1) = at_ xs 0 := by
  have e : (xs.take 1).length = 1 := by simp; omega
  rw [jnB_one sep e]
  simp [at_]


def isDec (s : ByteArray) : Prop := ∃ n : Int, (-1000000000000000000 < n ∧ n < 1000000000000000000) ∧ s = decB n
def dcV (s : ByteArray) : Int := match Lib.parseIntB 64 s.data.toList with | .ok v => v | _ => 0
theorem ddLen : ∀ (k u : Nat), 1 ≤ k → u < 10 ^ k → (Lib.decDigits u).length ≤ k
  | 0, _, h, _ => absurd h (by decide)
  | k + 1, u, _, h => by
    rw [Lib.decDigits]
    split
    · simp
    · rename_i h3
      rw [List.length_append]
      by_cases hk : k = 0
      · subst hk; omega
      · have := ddLen k (u / 10) (by omega) (by rw [Nat.pow_succ] at h; omega)
        simp only [List.length_cons, List.length_nil]; omega
theorem trp_dec {n : Int} (h : -1000000000000000000 < n ∧ n < 1000000000000000000) : 1 ≤ (Lib.trimPrefix (decB n).data.toList [45]).length ∧ (Lib.trimPrefix (decB n).data.toList [45]).length ≤ 18 := by
  have e : (decB n).data.toList = Lib.itoa n := by simp [decB]
  have hne : ∀ u, 1 ≤ (Lib.decDigits u).length := fun u => List.length_pos_iff.2 (decDigits_ne u)
  rw [e]
  unfold Lib.itoa
  split
  · have : Lib.trimPrefix (45 :: Lib.decDigits n.natAbs) [45] = Lib.decDigits n.natAbs := by simp [Lib.trimPrefix, Lib.hasPrefix]
    rw [this]
    exact ⟨hne _, ddLen 18 _ (by decide) (by omega)⟩
  · have hl := ddLen 18 n.toNat (by decide) (by omega)
    have h1 := hne n.toNat
    obtain ⟨c, r, hc⟩ : ∃ c r, Lib.decDigits n.toNat = c :: r := by
      cases h : Lib.decDigits n.toNat with
      | nil => exact absurd h (decDigits_ne _)
      | cons c r => exact ⟨c, r, rfl⟩
    have hb := decDigits_bytes _ n.toNat (Nat.lt_succ_self _) c (by rw [hc]; simp)
    have : Lib.trimPrefix (Lib.decDigits n.toNat) [45] = Lib.decDigits n.toNat := by
      have h2 : ¬ (45 : UInt8) = c := fun e => by subst e; have : (45 : UInt8).toNat = 45 := rfl; omega
      rw [hc]
      simp [Lib.trimPrefix, Lib.hasPrefix, h2]
    rw [this]
    exact ⟨h1, hl⟩
theorem con_of_calls2 {P : Program} {f : FuncId} {vals : List Value} {v u : Value} {fr : Bool} (h : ∀ w, WX w → Calls P f vals.toArray w fun e w' => e = .returned (.tuple #[v, u]) ∧ Below w.heap.size w w') : Con P f (vals.map .val) fr (.tup [.val v, .val u]) := by
  intro B vals' hbo hm hr
  have h1 := con_of_calls (fr := fr) h B vals' hbo hm hr
  refine h1.mono ?_
  rintro e w' ⟨v', κ', rfl, h2, h3⟩
  refine ⟨v', κ', rfl, h2, ?_⟩
  have e : v' = .tuple #[v, u] := h3.val_of
  subst e
  exact .tup _ _ rfl fun q a x ha hx => by
    match q, ha, hx with
    | 0, ha, hx => simp at ha hx; subst ha; subst hx; exact .tree _ _ (.val _)
    | 1, ha, hx => simp at ha hx; subst ha; subst hx; exact .tree _ _ (.val _)
    | q + 2, ha, _ => simp at ha


theorem at_mapB {α β : Type} [Inhabited α] [Inhabited β] {xs : List α} {f : α → β} {k : Nat} (h : k < xs.length) : at_ (xs.map f) k = f (at_ xs k) := by simp [at_, h]
theorem mapTake_succ {α β : Type} [Inhabited α] {xs : List α} {f : α → β} {i : Int} {y : β} (h0 : 0 ≤ i) (h : i.toNat < xs.length) (hy : y = f (at_ xs i.toNat)) : (xs.take (i + 1).toNat).map f = (xs.take i.toNat).map f ++ [y] := by
  have e : (i + 1).toNat = i.toNat + 1 := by omega
  rw [e, List.take_succ_eq_append_getElem h, hy, at_eq h]
  simp only [List.map_append, List.map_cons, List.map_nil]
theorem map_all {α β : Type} {xs : List α} {f : α → β} {i : Int} (h : (xs.length : Int) ≤ i) : (xs.take i.toNat).map f = xs.map f := by
  rw [List.take_of_length_le (by omega)]


def comB (xs : List Int) : ByteArray := jnB ⟨#[44]⟩ (xs.map decB)
def bndI (xs : List Int) : Prop := xs.length ≤ 1000 ∧ ∀ x ∈ xs, -1000000000000000000 < x ∧ x < 1000000000000000000
theorem jnZ_le {B : Nat} {xs : List ByteArray} (h : ∀ x ∈ xs, x.size ≤ B) : ∀ k, k ≤ xs.length → jnZ xs k ≤ B * k
  | 0, _ => Nat.zero_le _
  | k + 1, hk => by
    have h1 := jnZ_le h k (by omega)
    have h2 := h _ (at_mem (show k < xs.length from hk))
    rw [jnZ, Nat.mul_succ]; omega
theorem jok_of {sep : ByteArray} {B n : Nat} {xs : List ByteArray} (hs : sep.size = 1) (hn : xs.length ≤ n) (h : ∀ x ∈ xs, x.size ≤ B) (hB : B * n ≤ 100000000) (hn2 : n ≤ 10000) : jok sep xs := by
  refine ⟨by omega, by omega, fun _ => ?_⟩
  have h1 := jnZ_le h xs.length (Nat.le_refl _)
  have h2 : B * xs.length ≤ B * n := Nat.mul_le_mul_left _ hn
  rw [hs]; omega
theorem decs_size {xs : List Int} (h : ∀ x ∈ xs, -1000000000000000000 < x ∧ x < 1000000000000000000) : ∀ y ∈ xs.map decB, y.size ≤ 20 := fun y hy => by
  obtain ⟨x, hx, rfl⟩ := List.mem_map.1 hy
  have := h x hx
  exact decB_size (by omega)
theorem com_jok {xs : List Int} (h : bndI xs) : jok ⟨#[44]⟩ (xs.map decB) := jok_of (B := 20) (n := 1000) rfl (by rw [List.length_map]; exact h.1) (decs_size h.2) (by decide) (by decide)
theorem jnB_le {sep : ByteArray} {B : Nat} {xs : List ByteArray} (hs : sep.size = 1) (h : ∀ x ∈ xs, x.size ≤ B) : (jnB sep xs).size ≤ (B + 1) * xs.length := by
  by_cases e : xs = []
  · subst e; exact Nat.le_refl _
  · have h1 := jnZ_le h xs.length (Nat.le_refl _)
    rw [jnB_size sep e, hs, Nat.add_mul]; omega
theorem com_size {xs : List Int} (h : ∀ x ∈ xs, -1000000000000000000 < x ∧ x < 1000000000000000000) : (comB xs).size ≤ 21 * xs.length := by
  have := jnB_le (sep := ⟨#[44]⟩) rfl (decs_size h)
  rw [List.length_map] at this
  exact this
theorem com_noB {c : UInt8} (hc : c.toNat < 44 ∨ 57 < c.toNat) (xs : List Int) : noB c (comB xs) := by
  refine noB_join (by unfold noB; simp; intro e; subst e; revert hc; decide) fun y hy => ?_
  obtain ⟨x, _, rfl⟩ := List.mem_map.1 hy
  exact decB_noB (by omega) x
theorem com_split {xs : List Int} (h : xs ≠ []) : splC 44 (comB xs) = xs.map decB := by
  refine spl_join (by simpa using h) fun y hy => ?_
  obtain ⟨x, _, rfl⟩ := List.mem_map.1 hy
  exact decB_noB (by decide) x
def dcs (s : ByteArray) : List Int := (splB ⟨#[44]⟩ s).map dcV
theorem splB_len (c : UInt8) (s : ByteArray) : (splB ⟨#[c]⟩ s).length ≤ s.size + 1 := by
  have h1 := Lib.countB_le ⟨#[c]⟩ (Nat.le_refl 1) s.size s (Nat.le_refl _)
  have h2 := splB_length (sep := ⟨#[c]⟩) (s := s) rfl
  show (Lib.splitB ⟨#[c]⟩ 0 (Lib.countB s ⟨#[c]⟩) s).length ≤ _
  omega
theorem trsB_size (s p : ByteArray) : (trsB s p).size ≤ s.size := by
  show (Lib.trimSuffix s.data.toList p.data.toList).toArray.size ≤ s.data.size
  unfold Lib.trimSuffix
  split
  · simp
  · simp
def linB (s : ByteArray) : List ByteArray := if s = ⟨#[]⟩ then [] else splB ⟨#[10]⟩ (trsB s ⟨#[10]⟩)
def linesX : List ByteArray → Nat → ByteArray
  | _, 0 => ⟨#[]⟩
  | ls, k + 1 => linesX ls k ++ (at_ ls k ++ ⟨#[10]⟩)
theorem linesX_join {ls : List ByteArray} : ∀ {k}, k < ls.length → linesX ls (k + 1) = jnB ⟨#[10]⟩ (ls.take (k + 1)) ++ ⟨#[10]⟩
  | 0, h => by rw [linesX, linesX, nil_ba, jnB_take1 h]
  | k + 1, h => by
    rw [linesX, linesX_join (by omega), jnB_take (by omega)]
    simp only [ByteArray.append_assoc]
theorem linesX_ne {ls : List ByteArray} {k : Nat} : linesX ls (k + 1) ≠ ⟨#[]⟩ := fun e => by
  have := congrArg ByteArray.size e
  simp only [linesX, ByteArray.size_append] at this
  have h1 : (⟨#[10]⟩ : ByteArray).size = 1 := rfl
  have h2 : (⟨#[]⟩ : ByteArray).size = 0 := rfl
  omega
theorem linesX_all {ls : List ByteArray} (h : ls ≠ []) : ∃ k, ls.length = k + 1 ∧ linesX ls ls.length = jnB ⟨#[10]⟩ ls ++ ⟨#[10]⟩ := by
  obtain ⟨k, hk⟩ : ∃ k, ls.length = k + 1 := ⟨ls.length - 1, by have := List.length_pos_iff.2 h; omega⟩
  refine ⟨k, hk, ?_⟩
  rw [hk, linesX_join (by omega), ← hk, List.take_length]
theorem suf_lines {ls : List ByteArray} (h : ls ≠ []) : sufB (linesX ls ls.length) ⟨#[10]⟩ = true := by
  obtain ⟨k, hk, e⟩ := linesX_all h
  rw [e]; exact sufB_app _ _
def linOk (s : ByteArray) : Prop := s.size ≤ 10000000 ∧ (s = ⟨#[]⟩ ∨ sufB s ⟨#[10]⟩ = true)
theorem linesX_size {ls : List ByteArray} {B : Nat} (h : ∀ l ∈ ls, l.size ≤ B) : ∀ k, k ≤ ls.length → (linesX ls k).size ≤ (B + 1) * k
  | 0, _ => Nat.zero_le _
  | k + 1, hk => by
    have h1 := linesX_size h k (by omega)
    have h2 := h _ (at_mem (show k < ls.length from hk))
    have h3 : (⟨#[10]⟩ : ByteArray).size = 1 := rfl
    rw [linesX, ByteArray.size_append, ByteArray.size_append, Nat.mul_succ]; omega


def okP (p : Point) : Bool := inB p.X 0 4095 && (inB p.Y 0 4095 && inB p.T 0 3600000)
def okPt (xs : List Point) (j : Nat) : Bool := okP (at_ xs j) && (decide (j = 0) || decide ((at_ xs (j - 1)).T < (at_ xs j).T))
def okStroke' (s : Stroke) : Bool := decide (1 ≤ (s.Points.length : Int) ∧ (s.Points.length : Int) ≤ 60) && allN s.Points.length (okPt s.Points)

def lastT (s : Stroke) : Int := (at_ s.Points (s.Points.length - 1)).T
def okSA (xs : List Stroke) (j : Nat) : Bool := okStroke' (at_ xs j) && (decide (j = 0) || decide (lastT (at_ xs (j - 1)) < (at_ (at_ xs j).Points 0).T))
def okInk' (x : Ink) : Bool := decide ((x.Strokes.length : Int) ≤ 16) && allN x.Strokes.length (okSA x.Strokes)

def ptTx (p : Point) : ByteArray := comB [p.X, p.Y, p.T]
def skLn (s : Stroke) : ByteArray := jnB ⟨#[32]⟩ (s.Points.map ptTx)
def inkTx (x : Ink) : ByteArray := if okInk' x = true then linesX (x.Strokes.map skLn) x.Strokes.length else ⟨#[]⟩
theorem mem_atT {α : Type} [Inhabited α] {xs : List α} {x : α} (h : x ∈ xs) : ∃ i, i < xs.length ∧ at_ xs i = x := by
  obtain ⟨i, hi, e⟩ := List.getElem_of_mem h
  exact ⟨i, hi, by rw [at_eq hi]; exact e⟩

theorem okTm_iff' {t : Template} : okTm t = true ↔ okLabel t.Label = true ∧ okFeats t.Feats 72 = true := by simp [okTm]
theorem okStM {s : Store} (h : okStore' s = true) : ∀ t ∈ s.Templates, okTm t = true := fun t ht => by
  obtain ⟨j, hj, rfl⟩ := mem_atT ht
  exact (okStore_iff.1 h).2.2 j hj
theorem okSt_sz {s : Store} (h : okStore' s = true) : okStore s := fun t ht => by
  have q := okTm_iff'.1 (okStM h t ht)
  have q2 := q.1
  simp only [okLabel, Bool.and_eq_true, decide_eq_true_eq] at q2
  unfold okTemplate; omega
theorem tm_len {t : Template} (h : okTm t = true) : t.Feats.length ≤ 72 := by
  have := okFeats_n (okTm_iff'.1 h).2; omega

-- impl.copyTemplate
theorem copyTemplate_ok (t : Template) (hl : t.Feats.length ≤ 72) : ∃ (v : Template), (v = t) ∧ Con Tryz.prog 115 [agTemplate t] true (agTemplateT v) := by
  have hh : ∃ r : Template, ((r = t) ∧ (True)) ∧ CallOK Tryz.prog 115 [agTemplate t] (lookO []) true (agTemplateT r) (lookO []) := by
    refine fn_okX (Φ := fun r : Template => (r = t) ∧ (True)) [] (fun r => []) (fn := Tryz.f115) (nt := 9) Tryz.func115 rfl rfl (args := [agTemplate t]) rfl (allcons (.inl ⟨rfl, by simp [tagged, taggedL, tagFeat]⟩) allnil) (res := fun r => agTemplateT r) ?_
    refine xR [(0, .new 1), (1, .new 2)] [1, 2] [1, 2] [.ref 1 0, .ref 2 0] [some (bxTemplate t), some (.box [Sv (⟨#[]⟩ : ByteArray), nilA])] [] trivial ?_
    refine x_seq ?_
    obtain ⟨out_1, hx1_0, hc1⟩ := cloneF0_ok t.Feats (by omega)
    refine x_r [(4, .lend [] [(8311, tAFeat out_1)] [(true, .any)] false (.arr 8311))] [2] [2, 8311] [.ref 2 0] [some (.box [Sv t.Label, .arr 8311]), some (tAFeat out_1)] [CallOK Tryz.prog 187 [slFeat false t.Feats] (lookO []) false (.arr 8311) (lookO [(8311, tAFeat out_1)]) ∧ True] ⟨⟨hc1, trivial⟩, trivial⟩ ?_
    refine xe_then ?_
    refine x_ret ?_
    refine xe_end (Template.mk t.Label out_1) (show ((Template.mk t.Label out_1) = t) ∧ (True) from ⟨(by first | rfl | (simp only [*]; done)), trivial⟩) (trivial) (.agg [Sv t.Label, .arr 8311]) (by kernel_rfl) (.inr ⟨rfl, ⟨⟨(fun _ => rfl), rfl, rfl, fun i _ => .inl rfl⟩, rfl⟩⟩) (fun _ => rfl) (fun _ => (by simp [tagged, taggedL, tagFeat]))
  obtain ⟨v, ⟨hh0, _⟩, hc⟩ := hh
  exact ⟨v, hh0, hc⟩



theorem take_succ_at {α : Type} [Inhabited α] {xs : List α} {i : Int} {y : α} (h0 : 0 ≤ i) (h : i.toNat < xs.length) (hy : y = at_ xs i.toNat) : xs.take (i + 1).toNat = xs.take i.toNat ++ [y] := by
  have e : (i + 1).toNat = i.toNat + 1 := by omega
  rw [e, List.take_succ_eq_append_getElem h, hy]
  simp [at_, h]


-- impl.copyStore
theorem copyStore_ok (s : Store) (hl : ∀ t ∈ s.Templates, t.Feats.length ≤ 72) (hn : s.Templates.length ≤ 100) : ∃ (ts : List Template), (ts = s.Templates) ∧ CallOK Tryz.prog 114 [agStore s] (lookO []) false (.agg [I s.Band, .arr 9601]) (lookO [(9601, tATemplate true ts)]) := by
  have hh : ∃ r : (List Template), ((r = s.Templates) ∧ (True)) ∧ CallOK Tryz.prog 114 [agStore s] (lookO []) false (.agg [I s.Band, .arr 9601]) (lookO [(9601, tATemplate true r)]) := by
    refine fn_okX (Φ := fun r : (List Template) => (r = s.Templates) ∧ (True)) [] (fun r => [(9601, tATemplate true r)]) (fn := Tryz.f114) (nt := 25) Tryz.func114 rfl rfl (args := [agStore s]) rfl (allcons (.inl ⟨rfl, by simp [tagged, taggedL, tagTemplate]⟩) allnil) (res := fun r => .agg [I s.Band, .arr 9601]) ?_
    refine xR [(0, .new 1), (1, .new 2)] [1, 2] [1, 2] [.ref 1 0, .ref 2 0] [some (bxStore s), some (.box [I 0, nilA])] [] trivial ?_
    refine xR [(3, .new 3)] [1, 2, 3] [1, 2, 3] [.ref 1 0, .ref 2 0, .ref 3 0] [some (bxStore s), some (.box [I 0, nilA]), some (.box [I s.Band, nilA])] [] trivial ?_
    refine x_seq ?_
    refine xR [] [2, 3, 10, 11, 12] [2, 3] [.ref 2 0, .ref 3 0, slTemplate false s.Templates, I (s.Templates.length : Int), I 0] [some (.box [I 0, nilA]), some (.box [I s.Band, nilA])] [] trivial ?_
    refine x_block ?_
    refine x_nilC 3 1 731 2 (fun _ => []) rfl (by kernel_rfl) ?_
    refine x_weak [] (T := [(2, .ref 2 0), (3, .ref 3 0), (10, slTemplate false s.Templates), (11, I (s.Templates.length : Int)), (12, I 0)]) (O := [(2, .box [I 0, nilA]), (3, .box [I s.Band, .arr 731]), (731, tATemplate true ([] : List Template))]) rfl (⟨.inl rfl, .inl rfl, .inl rfl, .inl rfl, .inl rfl, trivial⟩) (⟨.inl rfl, .inl rfl, .inr ⟨rfl, (by first | rfl | (simp; done) | (simp; omega) | omega), fun i_ hi_ => absurd hi_ (Nat.not_lt_zero _)⟩, trivial⟩) ?_
    refine x_loop (X := Int × (List Template)) (fun x => mkS [(2, .ref 2 0), (3, .ref 3 0), (10, slTemplate false s.Templates), (11, I (s.Templates.length : Int)), (12, I x.1)] [(2, .box [I 0, nilA]), (3, .box [I s.Band, .arr 731]), (731, tATemplate true x.2)]) (fun x => (0 ≤ x.1 ∧ x.1 ≤ (s.Templates.length : Int)) ∧ ((x.2.length : Int) = x.1) ∧ (x.2 = s.Templates.take x.1.toNat) ∧ True) (fun x => ((s.Templates.length : Int) - x.1).toNat) (0, ([] : List Template)) rfl (show (0 ≤ (0 : Int) ∧ (0 : Int) ≤ (s.Templates.length : Int)) ∧ ((([] : List Template).length : Int) = (0 : Int)) ∧ (([] : List Template) = s.Templates.take (0 : Int).toNat) ∧ True from ⟨(by omega), (by rfl), (by rfl), trivial⟩) (fun x hI => ?_)
    obtain ⟨t12, ts⟩ := x
    obtain ⟨hi0, hl0, hts, _⟩ : (0 ≤ t12 ∧ t12 ≤ (s.Templates.length : Int)) ∧ ((ts.length : Int) = t12) ∧ (ts = s.Templates.take t12.toNat) ∧ True := hI
    show XW _ _ _ _ (mkS [(2, .ref 2 0), (3, .ref 3 0), (10, slTemplate false s.Templates), (11, I (s.Templates.length : Int)), (12, I t12)] [(2, .box [I 0, nilA]), (3, .box [I s.Band, .arr 731]), (731, tATemplate true ts)]) _ _
    refine x_seq ?_
    by_cases h1 : t12 < (s.Templates.length : Int)
    ·have hi : t12.toNat < s.Templates.length := by omega
     have htl := hl _ (at_mem hi)
     refine x_r [(0, .dec true)] [2, 3, 10, 11, 12, 13] [2, 3, 731] [.ref 2 0, .ref 3 0, slTemplate false s.Templates, I (s.Templates.length : Int), I t12, Bv true] [some (.box [I 0, nilA]), some (.box [I s.Band, .arr 731]), some (tATemplate true ts)] [t12 < (s.Templates.length : Int)] ⟨h1, trivial⟩ ?_
     refine xe_then ?_
     refine x_seq ?_
     refine x_true rfl ?_
     refine x_skip ?_
     refine xe_then ?_
     refine x_seq ?_
     refine x_block ?_
     refine xR [(2, .new 5)] [2, 3, 5, 10, 11, 12] [2, 3, 5, 731] [.ref 2 0, .ref 3 0, .ref 5 0, slTemplate false s.Templates, I (s.Templates.length : Int), I t12] [some (.box [I 0, nilA]), some (.box [I s.Band, .arr 731]), some (bxTemplate (at_ s.Templates t12.toNat)), some (tATemplate true ts)] [(0 : Int) ≤ t12 ∧ t12 < (s.Templates.length : Int)] ⟨⟨(by omega), (by omega)⟩, trivial⟩ ?_
     obtain ⟨v_1, hx1_0, hc1⟩ := copyTemplate_ok (at_ s.Templates t12.toNat) htl
     refine x_r [(3, .call [(true, .any)] true (agTemplateT v_1)), (4, .new 20), (5, .new 21)] [2, 3, 10, 11, 12] [2, 3, 21] [.ref 2 0, .ref 3 0, slTemplate false s.Templates, I (s.Templates.length : Int), I t12] [some (.box [I 0, nilA]), some (.box [I s.Band, .arr 21]), some (.arr 2 (ts.length + 1) (catF ts.length (fTemplate true ts) (litF [Sv v_1.Label, slFeat true v_1.Feats] 2)))] [Con Tryz.prog 115 [agTemplate (at_ s.Templates t12.toNat)] true (agTemplateT v_1) ∧ True, (ts.length + 1) * 40 ≤ 140737488355328] ⟨⟨hc1, trivial⟩, (by omega), trivial⟩ ?_
     refine xe_block 1 ?_
     refine xe_then ?_
     refine x_r [] [2, 3, 10, 11, 12] [2, 3, 21] [.ref 2 0, .ref 3 0, slTemplate false s.Templates, I (s.Templates.length : Int), I (t12 + 1)] [some (.box [I 0, nilA]), some (.box [I s.Band, .arr 21]), some (.arr 2 (ts.length + 1) (catF ts.length (fTemplate true ts) (litF [Sv v_1.Label, slFeat true v_1.Feats] 2)))] [inR .i64 (t12 + 1)] ⟨(inR_i64 (by omega) (by omega)), trivial⟩ ?_
     refine xe_weak [(731, 21)] (T := [(2, .ref 2 0), (3, .ref 3 0), (10, slTemplate false s.Templates), (11, I (s.Templates.length : Int)), (12, I (t12 + 1))]) (O := [(2, .box [I 0, nilA]), (3, .box [I s.Band, .arr 731]), (731, tATemplate true (ts ++ [v_1]))]) rfl (⟨.inl rfl, .inl rfl, .inl rfl, .inl rfl, .inl rfl, trivial⟩) (⟨.inl rfl, .inl rfl, .inr ⟨rfl, (by first | rfl | (simp; done) | (simp; omega) | omega), fun i_ hi_ => .inl (cat_snoc (enc := (cTemplate true)) (xs := ts) rfl i_ hi_)⟩, trivial⟩) (xe_again ((t12 + 1), (ts ++ [v_1])) rfl (show (0 ≤ (t12 + 1) ∧ (t12 + 1) ≤ (s.Templates.length : Int)) ∧ (((ts ++ [v_1]).length : Int) = (t12 + 1)) ∧ ((ts ++ [v_1]) = s.Templates.take (t12 + 1).toNat) ∧ True from ⟨(by omega), (by simp; omega), (by rw [hts]; exact (take_succ_at (by omega) hi (by assumption)).symm), trivial⟩) (by first | (show (((s.Templates.length : Int) - (t12 + 1)).toNat : Nat) < ((s.Templates.length : Int) - t12).toNat; omega) | (dsimp only; omega)))
    have hfin : ts = s.Templates := by rw [hts]; exact List.take_of_length_le (by omega)
    refine x_r [(0, .dec false)] [2, 3, 10, 11, 12, 13] [2, 3, 731] [.ref 2 0, .ref 3 0, slTemplate false s.Templates, I (s.Templates.length : Int), I t12, Bv false] [some (.box [I 0, nilA]), some (.box [I s.Band, .arr 731]), some (tATemplate true ts)] [¬ (t12 < (s.Templates.length : Int))] ⟨h1, trivial⟩ ?_
    refine xe_then ?_
    refine x_seq ?_
    refine x_false rfl ?_
    refine x_exit ?_
    refine xe_exit_then ?_
    refine xe_loop_exit ?_
    refine xe_exit_same ?_
    refine xe_then ?_
    refine xR [] [2] [2, 731] [.ref 2 0] [some (.box [I s.Band, .arr 731]), some (tATemplate true ts)] [] trivial ?_
    refine x_ret ?_
    refine xe_weak [(9601, 731)] (T := [(2, .ref 2 0)]) (O := [(2, .box [I s.Band, .arr 9601]), (9601, tATemplate true ts)]) rfl (⟨.inl rfl, trivial⟩) (⟨.inl rfl, .inl rfl, trivial⟩) ?_
    refine xe_end ts (show (ts = s.Templates) ∧ (True) from ⟨(by exact hfin), trivial⟩) (⟨.inl rfl, trivial⟩) (.agg [I s.Band, .arr 9601]) (by kernel_rfl) (.inl rfl) (fun h => by cases h) (fun h => by cases h)
  obtain ⟨ts, ⟨hh0, _⟩, hc⟩ := hh
  exact ⟨ts, hh0, hc⟩



-- impl.AddTemplate
theorem AddTemplate_ok (s : Store) (t : Template) (hst : okStore' s = true) (htm : okTm t = true) (hn : s.Templates.length < 40) : ∃ (v : Store) (c : Int), (v = (⟨s.Band, s.Templates ++ [t]⟩ : Store)) ∧ (c = 0) ∧ Con Tryz.prog 48 [agStore s, agTemplate t] true (.tup [agStoreT v, I c]) := by
  have hsz := okSt_sz hst
  have htl := tm_len htm
  have htz : okTemplate t := by have q2 := (okTm_iff'.1 htm).1; simp only [okLabel, Bool.and_eq_true, decide_eq_true_eq] at q2; unfold okTemplate; omega
  have hh : ∃ r : Store × Int, ((r.1 = (⟨s.Band, s.Templates ++ [t]⟩ : Store)) ∧ (r.2 = 0) ∧ (True)) ∧ CallOK Tryz.prog 48 [agStore s, agTemplate t] (lookO []) true (.tup [agStoreT r.1, I r.2]) (lookO []) := by
    refine fn_okX (Φ := fun r : Store × Int => (r.1 = (⟨s.Band, s.Templates ++ [t]⟩ : Store)) ∧ (r.2 = 0) ∧ (True)) [] (fun r => []) (fn := Tryz.f48) (nt := 31) Tryz.func48 rfl rfl (args := [agStore s, agTemplate t]) rfl (allcons (.inl ⟨rfl, by simp [tagged, taggedL, tagTemplate]⟩) (allcons (.inl ⟨rfl, by simp [tagged, taggedL, tagFeat]⟩) allnil)) (res := fun r => .tup [agStoreT r.1, I r.2]) ?_
    refine xR [(0, .new 2), (1, .new 3), (2, .new 4)] [2, 3, 4] [2, 3, 4] [.ref 2 0, .ref 3 0, .ref 4 0] [some (bxStore s), some (bxTemplate t), some (.box [I 0, nilA])] [] trivial ?_
    refine x_seq ?_
    refine xR [(1, .call [(true, .any)] true (Bv true)), (5, .call [(true, .any)] true (Bv true))] [2, 3, 4, 14] [2, 3, 4] [.ref 2 0, .ref 3 0, .ref 4 0, Bv false] [some (bxStore s), some (bxTemplate t), some (.box [I 0, nilA])] [Con Tryz.prog 112 [agStore s] true (Bv true) ∧ True, Con Tryz.prog 113 [agTemplate t] true (Bv true) ∧ True] ⟨⟨(con_bool hst (ValidStore_ok s hsz)), trivial⟩, ⟨(con_bool htm (validTemplate_ok t htz)), trivial⟩, trivial⟩ ?_
    refine x_false rfl ?_
    refine x_skip ?_
    refine xe_then ?_
    refine x_seq ?_
    refine xR [(3, .dec false)] [2, 3, 4, 19] [2, 3, 4] [.ref 2 0, .ref 3 0, .ref 4 0, Bv false] [some (bxStore s), some (bxTemplate t), some (.box [I 0, nilA])] [¬ (40 ≤ (s.Templates.length : Int))] ⟨(by omega), trivial⟩ ?_
    refine x_false rfl ?_
    refine x_skip ?_
    refine xe_then ?_
    refine x_seq ?_
    obtain ⟨ts_1, hx1_0, hc1⟩ := copyStore_ok s (fun t_ ht_ => tm_len (okStM hst t_ ht_)) (by omega)
    have htsl : ts_1.length = s.Templates.length := by rw [hx1_0]
    refine x_r [(1, .lend [] [(9601, tATemplate true ts_1)] [(true, .any)] false (.agg [I s.Band, .arr 9601])), (2, .new 6)] [3, 4, 6] [3, 4, 6, 9601] [.ref 3 0, .ref 4 0, .ref 6 0] [some (bxTemplate t), some (.box [I 0, nilA]), some (.box [I s.Band, .arr 9601]), some (tATemplate true ts_1)] [CallOK Tryz.prog 114 [agStore s] (lookO []) false (.agg [I s.Band, .arr 9601]) (lookO [(9601, tATemplate true ts_1)]) ∧ True] ⟨⟨hc1, trivial⟩, trivial⟩ ?_
    refine xe_then ?_
    refine x_seq ?_
    obtain ⟨v_2, hx2_0, hc2⟩ := copyTemplate_ok t htl
    refine x_r [(3, .call [(true, .any)] true (agTemplateT v_2)), (4, .new 27), (5, .new 28)] [4, 6] [4, 6, 28] [.ref 4 0, .ref 6 0] [some (.box [I 0, nilA]), some (.box [I s.Band, .arr 28]), some (.arr 2 (ts_1.length + 1) (catF ts_1.length (fTemplate true ts_1) (litF [Sv v_2.Label, slFeat true v_2.Feats] 2)))] [Con Tryz.prog 115 [agTemplate t] true (agTemplateT v_2) ∧ True, (ts_1.length + 1) * 40 ≤ 140737488355328] ⟨⟨hc2, trivial⟩, (by omega), trivial⟩ ?_
    refine xe_then ?_
    refine x_seq ?_
    refine x_weak [] (T := [(4, .ref 4 0), (6, .ref 6 0)]) (O := [(4, .box [I 0, nilA]), (6, .box [I s.Band, .arr 28]), (28, tATemplate true (ts_1 ++ [v_2]))]) rfl (⟨.inl rfl, .inl rfl, trivial⟩) (⟨.inl rfl, .inl rfl, .inr ⟨rfl, (by first | rfl | (simp; done) | (simp; omega) | omega), fun i_ hi_ => .inl (cat_snoc (enc := (cTemplate true)) (xs := ts_1) rfl i_ hi_)⟩, trivial⟩) ?_
    refine x_r [] [4, 5] [4, 28] [.ref 4 0, I 0] [some (.box [I s.Band, .arr 28]), some (tATemplate true (ts_1 ++ [v_2]))] [] trivial ?_
    refine xe_then ?_
    refine x_ret ?_
    refine xe_end ((Store.mk s.Band (ts_1 ++ [v_2])), 0) (show ((Store.mk s.Band (ts_1 ++ [v_2])) = (⟨s.Band, s.Templates ++ [t]⟩ : Store)) ∧ (0 = 0) ∧ (True) from ⟨(by first | rfl | (simp only [*]; done) | (simp_all; done)), (by first | rfl | (simp only [*]; done) | (simp_all; done)), trivial⟩) (trivial) (.tup [.agg [I s.Band, .arr 28], I 0]) (by kernel_rfl) (.inr ⟨⟨rfl, ⟨⟨(fun _ => rfl), rfl, rfl, fun i _ => .inl rfl⟩, rfl⟩⟩, ⟨rfl, rfl⟩⟩) (fun _ => rfl) (fun _ => (by simp [tagged, taggedL, tagTemplate]))
  obtain ⟨⟨v, c⟩, ⟨hh0, hh1, _⟩, hc⟩ := hh
  exact ⟨v, c, hh0, hh1, hc⟩



-- impl.abs
theorem abs_ok (n : Int) (hn : -9223372036854775807 ≤ n ∧ n ≤ 9223372036854775807) : Con Tryz.prog 265 [I n] true (I (n.natAbs : Int)) := by
  refine fn_ok (fn := Tryz.f265) (nt := 8) Tryz.func265 rfl rfl rfl rfl (by simp [taggedL, tagged]) fun B hB => ?_
  refine aR [] [0] [] [I n] [] [] hB trivial ?_
  refine aw_seq ?_
  refine aw_seq ?_
  by_cases h1 : n < 0
  ·refine aw_r [(1, .dec true)] [0, 4] [] [I n, Bv true] [] [n < 0] hB ⟨h1, trivial⟩ ?_
   refine ae_then ?_
   refine aw_true rfl ?_
   refine aR [] [2] [] [I (-n)] [] [inR .i64 (-n)] hB ⟨(inR_i64 (by omega) (by omega)), trivial⟩ ?_
   refine aw_ret ?_
   refine ae_ret_then ?_
   refine ae_ret hB (I (-n)) (by kernel_rfl) (.inl (by refine congrArg I ?_; omega)) rfl (fun _ => trivial)
  refine aw_r [(1, .dec false)] [0, 4] [] [I n, Bv false] [] [¬ (n < 0)] hB ⟨h1, trivial⟩ ?_
  refine ae_then ?_
  refine aw_false rfl ?_
  refine aw_skip ?_
  refine ae_then ?_
  refine aR [] [2] [] [I n] [] [] hB trivial ?_
  refine aw_ret ?_
  refine ae_ret hB (I n) (by kernel_rfl) (.inl (by refine congrArg I ?_; omega)) rfl (fun _ => trivial)



-- impl.isBand
theorem isBand_ok (band : Int) (n : Int) (m : Int) (hn : 0 ≤ n ∧ n ≤ 4611686018427387904) (hm : 0 ≤ m ∧ m ≤ 4611686018427387904) : Con Tryz.prog 228 [I band, I n, I m] true (Bv (inB band 0 72 && decide (((n - m).natAbs : Int) ≤ band))) := by
  refine fn_ok (fn := Tryz.f228) (nt := 17) Tryz.func228 rfl rfl rfl rfl (by simp [taggedL, tagged]) fun B hB => ?_
  refine aR [] [0, 1, 2] [] [I band, I n, I m] [] [] hB trivial ?_
  refine aw_seq ?_
  rcases Bool.eq_false_or_eq_true (inB band 0 72) with h1 | h1
  ·refine aw_r [(1, .call [(true, .any), (true, .any), (true, .any)] true (Bv true)), (6, .call [(true, .any)] true (I ((n - m).natAbs : Int)))] [6] [] [Bv (decide (((n - m).natAbs : Int) ≤ band))] [] [Con Tryz.prog 80 [I band, I 0, I 72] true (Bv true) ∧ True, inR .i64 (n - m), Con Tryz.prog 265 [I (n - m)] true (I ((n - m).natAbs : Int)) ∧ True] hB ⟨⟨(con_bool h1 (within_ok band 0 72)), trivial⟩, (inR_i64 (by omega) (by omega)), ⟨(abs_ok (n - m) (by omega)), trivial⟩, trivial⟩ ?_
   refine ae_then ?_
   refine aw_ret ?_
   refine ae_ret hB (Bv (decide (((n - m).natAbs : Int) ≤ band))) (by kernel_rfl) (.inl (by refine congrArg Bv ?_; first | (simp [*]; done) | (simp [inB] at *; omega))) rfl (fun _ => trivial)
  refine aw_r [(1, .call [(true, .any), (true, .any), (true, .any)] true (Bv false))] [6] [] [Bv false] [] [Con Tryz.prog 80 [I band, I 0, I 72] true (Bv false) ∧ True] hB ⟨⟨(con_bool h1 (within_ok band 0 72)), trivial⟩, trivial⟩ ?_
  refine ae_then ?_
  refine aw_ret ?_
  refine ae_ret hB (Bv false) (by kernel_rfl) (.inl (by refine congrArg Bv ?_; first | (simp [*]; done) | (simp [inB] at *; omega))) rfl (fun _ => trivial)



-- impl.stepsBack
theorem stepsBack_ok : Con Tryz.prog 317 [] true (.agg [I 1, I 1, I 1, I 0, I 0, I 1]) := by
  refine fn_ok (fn := Tryz.f317) (nt := 5) Tryz.func317 rfl rfl rfl rfl (by simp [taggedL, tagged]) fun B hB => ?_
  refine aR [(0, .new 0)] [0] [0] [.ref 0 0] [some (.box [I 0, I 0, I 0, I 0, I 0, I 0])] [] hB trivial ?_
  refine aR [] [0] [0] [.ref 0 0] [some (.box [I 1, I 1, I 1, I 0, I 0, I 1])] [] hB trivial ?_
  refine aw_ret ?_
  refine ae_ret hB (.agg [I 1, I 1, I 1, I 0, I 0, I 1]) (by kernel_rfl) (.inl rfl) rfl (fun _ => (by simp [tagged, taggedL]))



def costF (a b : Feat) : Int := ((a.X - b.X).natAbs : Int) + ((a.Y - b.Y).natAbs : Int) + 16 * min ((a.D - b.D).natAbs : Int) (8 - ((a.D - b.D).natAbs : Int))
theorem costF_bd {a b : Feat} (ha : okF a = true) (hb : okF b = true) : 0 ≤ costF a b ∧ costF a b ≤ 600 := by
  have h1 := okF_iff.1 ha
  have h2 := okF_iff.1 hb
  unfold costF
  omega
def stp (far band : Int) (i j : Nat) (before c : Int) : Int := if band < (((i : Int) - (j : Int)).natAbs : Int) ∨ far ≤ before then far else before + c
def cv (far : Int) (a b : List Feat) (band : Int) : Nat → Nat → Int
  | 0, 0 => stp far band 0 0 0 (costF (at_ a 0) (at_ b 0))
  | 0, j + 1 => stp far band 0 (j + 1) (min far (cv far a b band 0 j)) (costF (at_ a 0) (at_ b (j + 1)))
  | i + 1, 0 => stp far band (i + 1) 0 (min far (cv far a b band i 0)) (costF (at_ a (i + 1)) (at_ b 0))
  | i + 1, j + 1 => stp far band (i + 1) (j + 1) (min (min (min far (cv far a b band i j)) (cv far a b band i (j + 1))) (cv far a b band (i + 1) j)) (costF (at_ a (i + 1)) (at_ b (j + 1)))
termination_by i j => (i, j)
def okAB (a b : List Feat) : Prop := (∀ i, i < a.length → okF (at_ a i) = true) ∧ (∀ j, j < b.length → okF (at_ b j) = true) ∧ a.length ≤ 72 ∧ b.length ≤ 72
theorem stp_far {far band : Int} {i j : Nat} {before c : Int} (h : band < (((i : Int) - (j : Int)).natAbs : Int) ∨ far ≤ before) : stp far band i j before c = far := if_pos h
theorem stp_add {far band : Int} {i j : Nat} {before c : Int} (h1 : ¬ band < (((i : Int) - (j : Int)).natAbs : Int)) (h2 : ¬ far ≤ before) : stp far band i j before c = before + c := if_neg (by omega)
theorem cv_out {far band : Int} {a b : List Feat} {i j : Nat} (h : band < (((i : Int) - (j : Int)).natAbs : Int)) : cv far a b band i j = far := by
  rcases i with _ | i <;> rcases j with _ | j <;> rw [cv] <;> exact stp_far (.inl h)
theorem cv_in {band : Int} {a b : List Feat} (hab : okAB a b) {f1 f2 : Int} (h1 : 1000000000 ≤ f1) (h2 : 1000000000 ≤ f2) : ∀ (s i j : Nat), i + j = s → i < a.length → j < b.length → (((i : Int) - (j : Int)).natAbs : Int) ≤ band → cv f1 a b band i j = cv f2 a b band i j ∧ 0 ≤ cv f1 a b band i j ∧ cv f1 a b band i j ≤ 600 * ((i : Int) + j + 1)
  | s, 0, 0, hs, hi, hj, hb => by
    have hc := costF_bd (hab.1 0 hi) (hab.2.1 0 hj)
    rw [cv, cv, stp_add (by omega) (by omega), stp_add (by omega) (by omega)]
    omega
  | s, 0, j + 1, hs, hi, hj, hb => by
    have hc := costF_bd (hab.1 0 hi) (hab.2.1 (j + 1) hj)
    obtain ⟨e, p0, p1⟩ := cv_in (band := band) hab h1 h2 (0 + j) 0 j rfl hi (by omega) (by omega)
    have hl := hab.2.2
    rw [cv, cv, ← e, stp_add (by omega) (by omega), stp_add (by omega) (by omega)]
    omega
  | s, i + 1, 0, hs, hi, hj, hb => by
    have hc := costF_bd (hab.1 (i + 1) hi) (hab.2.1 0 hj)
    obtain ⟨e, p0, p1⟩ := cv_in (band := band) hab h1 h2 (i + 0) i 0 rfl (by omega) hj (by omega)
    have hl := hab.2.2
    rw [cv, cv, ← e, stp_add (by omega) (by omega), stp_add (by omega) (by omega)]
    omega
  | s, i + 1, j + 1, hs, hi, hj, hb => by
    have hc := costF_bd (hab.1 (i + 1) hi) (hab.2.1 (j + 1) hj)
    have hl := hab.2.2
    obtain ⟨e, p0, p1⟩ := cv_in (band := band) hab h1 h2 (i + j) i j rfl (by omega) (by omega) (by omega)
    have q1 : (cv f1 a b band i (j + 1) = f1 ∧ cv f2 a b band i (j + 1) = f2) ∨ (cv f1 a b band i (j + 1) = cv f2 a b band i (j + 1) ∧ 0 ≤ cv f1 a b band i (j + 1) ∧ cv f1 a b band i (j + 1) ≤ 600 * ((i : Int) + (j + 1 : Nat) + 1)) := by
      by_cases q : band < (((i : Int) - ((j + 1 : Nat) : Int)).natAbs : Int)
      · exact .inl ⟨cv_out q, cv_out q⟩
      · exact .inr (cv_in (band := band) hab h1 h2 (i + (j + 1)) i (j + 1) rfl (by omega) hj (by omega))
    have q2 : (cv f1 a b band (i + 1) j = f1 ∧ cv f2 a b band (i + 1) j = f2) ∨ (cv f1 a b band (i + 1) j = cv f2 a b band (i + 1) j ∧ 0 ≤ cv f1 a b band (i + 1) j ∧ cv f1 a b band (i + 1) j ≤ 600 * (((i + 1 : Nat) : Int) + j + 1)) := by
      by_cases q : band < ((((i + 1 : Nat) : Int) - (j : Int)).natAbs : Int)
      · exact .inl ⟨cv_out q, cv_out q⟩
      · exact .inr (cv_in (band := band) hab h1 h2 ((i + 1) + j) (i + 1) j rfl hi (by omega) (by omega))
    rw [cv, cv, ← e, stp_add (by omega) (by omega), stp_add (by omega) (by omega)]
    omega
termination_by s i j => i + j


def lb1 (tb : List (List Int)) (i j : Int) : Int := if 1 ≤ i ∧ 1 ≤ j then min 1099511627776 (at_ (at_ tb (i - 1).toNat) (j - 1).toNat) else 1099511627776
def lb2 (tb : List (List Int)) (i j : Int) : Int := if 1 ≤ i then min (lb1 tb i j) (at_ (at_ tb (i - 1).toNat) (j - 0).toNat) else lb1 tb i j
def lb3 (tb : List (List Int)) (i j : Int) : Int := if 1 ≤ j then min (lb2 tb i j) (at_ (at_ tb (i - 0).toNat) (j - 1).toNat) else lb2 tb i j
def lbk (tb : List (List Int)) (i j : Int) : Nat → Int
  | 0 => 1099511627776
  | 1 => lb1 tb i j
  | 2 => lb2 tb i j
  | _ => lb3 tb i j


-- impl.leastBefore
theorem leastBefore_ok (table : List (List Int)) (i : Int) (j : Int) (hi : 0 ≤ i ∧ i < (table.length : Int)) (hj : 0 ≤ j ∧ j ≤ 1000) (h1 : 1 ≤ i → j < ((at_ table (i - 1).toNat).length : Int)) (h2 : 1 ≤ j → j ≤ ((at_ table (i - 0).toNat).length : Int)) : Con Tryz.prog 298 [slLI false table, I i, I j] true (I (lb3 table i j)) := by
  refine fn_ok (fn := Tryz.f298) (nt := 41) Tryz.func298 rfl rfl rfl rfl (by simp [taggedL, tagged, tagLI]) fun B hB => ?_
  refine aw_lens (x := slLI false table) 0 rfl (fun len_table => ?_)
  simp [LenOK, LenL, cI, cLI, fI, fLI, slI, slLI] at len_table
  refine aR [] [0, 1, 2] [] [slLI false table, I i, I j] [] [] hB trivial ?_
  refine aR [] [0, 1, 2, 7] [] [slLI false table, I i, I j, I 1099511627776] [] [] hB trivial ?_
  refine aw_seq ?_
  refine aR [(0, .call [] true (.agg [I 1, I 1, I 1, I 0, I 0, I 1]))] [0, 1, 2, 7, 10, 11] [] [slLI false table, I i, I j, I 1099511627776, .agg [I 1, I 1, I 1, I 0, I 0, I 1], I 0] [] [Con Tryz.prog 317 [] true (.agg [I 1, I 1, I 1, I 0, I 0, I 1]) ∧ True] hB ⟨⟨(stepsBack_ok), trivial⟩, trivial⟩ ?_
  refine aw_block ?_
  refine aw_loop (fun gn gσ => ∃ (least : Int) (t11 : Int), gn = ((3 : Int) - t11).toNat ∧ (0 ≤ t11 ∧ t11 ≤ 3) ∧ (least = lbk table i j t11.toNat) ∧ gσ = mkS [(0, slLI false table), (1, I i), (2, I j), (7, I least), (10, .agg [I 1, I 1, I 1, I 0, I 0, I 1]), (11, I t11)] []) (((3 : Int) - 0).toNat) ⟨1099511627776, 0, rfl, (by omega), (by rfl), rfl⟩ (fun gn gσ hI => ?_)
  obtain ⟨least, t11, rfl, ht0, hl0, rfl⟩ := hI
  refine aw_seq ?_
  by_cases h1 : t11 < 3
  ·have hcs : t11 = 0 ∨ t11 = 1 ∨ t11 = 2 := by omega
   rcases hcs with rfl | rfl | rfl
   ·refine aw_r [(0, .dec true)] [0, 1, 2, 7, 10, 11, 12] [] [slLI false table, I i, I j, I least, .agg [I 1, I 1, I 1, I 0, I 0, I 1], I 0, Bv true] [] [(0 : Int) < 3] hB ⟨(by decide), trivial⟩ ?_
    refine ae_then ?_
    refine aw_seq ?_
    refine aw_true rfl ?_
    refine aw_skip ?_
    refine ae_then ?_
    refine aw_seq ?_
    refine aw_block ?_
    refine aR [(1, .new 9)] [0, 1, 2, 7, 9, 10, 11] [9] [slLI false table, I i, I j, I least, .ref 9 0, .agg [I 1, I 1, I 1, I 0, I 0, I 1], I 0] [some (.box [I 1, I 1])] [(0 : Int) ≤ 0 ∧ 0 < (3 : Int)] hB ⟨⟨by decide, by decide⟩, trivial⟩ ?_
    refine aw_seq ?_
    by_cases h2 : 1 ≤ i
    ·by_cases h3 : 1 ≤ j
     ·refine aw_r [(3, .dec true), (8, .dec true)] [0, 1, 2, 7, 9, 10, 11, 23] [9] [slLI false table, I i, I j, I least, .ref 9 0, .agg [I 1, I 1, I 1, I 0, I 0, I 1], I 0, Bv true] [some (.box [I 1, I 1])] [(0 : Int) ≤ 0 ∧ 0 < (2 : Int), 1 ≤ i, (0 : Int) ≤ 1 ∧ 1 < (2 : Int), 1 ≤ j] hB ⟨⟨by decide, by decide⟩, h2, ⟨by decide, by decide⟩, h3, trivial⟩ ?_
      refine ae_then ?_
      refine aw_true rfl ?_
      refine aw_r [] [0, 1, 2, 7, 10, 11] [] [slLI false table, I i, I j, I (min least (at_ (at_ table ((i - 1).toNat)) ((j - 1).toNat))), .agg [I 1, I 1, I 1, I 0, I 0, I 1], I 0] [] [(0 : Int) ≤ 0 ∧ 0 < (2 : Int), inR .i64 (i - 1), (0 : Int) ≤ (i - 1) ∧ (i - 1) < (table.length : Int), (0 : Int) ≤ 1 ∧ 1 < (2 : Int), inR .i64 (j - 1), (0 : Int) ≤ (j - 1) ∧ (j - 1) < (((at_ table ((i - 1).toNat)).length) : Int)] hB ⟨⟨by decide, by decide⟩, (inR_i64 (by omega) (by omega)), ⟨(by omega), (by omega)⟩, ⟨by decide, by decide⟩, (inR_i64 (by omega) (by omega)), ⟨(by omega), (by omega)⟩, trivial⟩ ?_
      refine ae_block 1 ?_
      refine ae_then ?_
      refine aw_r [] [0, 1, 2, 7, 10, 11] [] [slLI false table, I i, I j, I (min least (at_ (at_ table ((i - 1).toNat)) ((j - 1).toNat))), .agg [I 1, I 1, I 1, I 0, I 0, I 1], I (0 + 1)] [] [inR .i64 (0 + 1)] hB ⟨(inR_i64 (by omega) (by omega)), trivial⟩ ?_
      exact ae_again _ (by omega) ⟨(min least (at_ (at_ table ((i - 1).toNat)) ((j - 1).toNat))), (0 + 1), rfl, (by omega), (by rw [hl0]; first | (show _ = lb1 table i j; unfold lb1; first | (rw [if_pos (by omega)]; rfl) | (rw [if_neg (by omega)]; rfl)) | (show _ = lb2 table i j; unfold lb2; first | (rw [if_pos (by omega)]; rfl) | (rw [if_neg (by omega)]; rfl)) | (show _ = lb3 table i j; unfold lb3; first | (rw [if_pos (by omega)]; rfl) | (rw [if_neg (by omega)]; rfl))), rfl⟩
     refine aw_r [(3, .dec true), (8, .dec false)] [0, 1, 2, 7, 9, 10, 11, 23] [9] [slLI false table, I i, I j, I least, .ref 9 0, .agg [I 1, I 1, I 1, I 0, I 0, I 1], I 0, Bv false] [some (.box [I 1, I 1])] [(0 : Int) ≤ 0 ∧ 0 < (2 : Int), 1 ≤ i, (0 : Int) ≤ 1 ∧ 1 < (2 : Int), ¬ (1 ≤ j)] hB ⟨⟨by decide, by decide⟩, h2, ⟨by decide, by decide⟩, h3, trivial⟩ ?_
     refine ae_then ?_
     refine aw_false rfl ?_
     refine aw_skip ?_
     refine ae_block 1 ?_
     refine ae_then ?_
     refine aw_r [] [0, 1, 2, 7, 10, 11] [] [slLI false table, I i, I j, I least, .agg [I 1, I 1, I 1, I 0, I 0, I 1], I (0 + 1)] [] [inR .i64 (0 + 1)] hB ⟨(inR_i64 (by omega) (by omega)), trivial⟩ ?_
     exact ae_again _ (by omega) ⟨least, (0 + 1), rfl, (by omega), (by rw [hl0]; first | (show _ = lb1 table i j; unfold lb1; first | (rw [if_pos (by omega)]; rfl) | (rw [if_neg (by omega)]; rfl)) | (show _ = lb2 table i j; unfold lb2; first | (rw [if_pos (by omega)]; rfl) | (rw [if_neg (by omega)]; rfl)) | (show _ = lb3 table i j; unfold lb3; first | (rw [if_pos (by omega)]; rfl) | (rw [if_neg (by omega)]; rfl))), rfl⟩
    refine aw_r [(3, .dec false)] [0, 1, 2, 7, 9, 10, 11, 23] [9] [slLI false table, I i, I j, I least, .ref 9 0, .agg [I 1, I 1, I 1, I 0, I 0, I 1], I 0, Bv false] [some (.box [I 1, I 1])] [(0 : Int) ≤ 0 ∧ 0 < (2 : Int), ¬ (1 ≤ i)] hB ⟨⟨by decide, by decide⟩, h2, trivial⟩ ?_
    refine ae_then ?_
    refine aw_false rfl ?_
    refine aw_skip ?_
    refine ae_block 1 ?_
    refine ae_then ?_
    refine aw_r [] [0, 1, 2, 7, 10, 11] [] [slLI false table, I i, I j, I least, .agg [I 1, I 1, I 1, I 0, I 0, I 1], I (0 + 1)] [] [inR .i64 (0 + 1)] hB ⟨(inR_i64 (by omega) (by omega)), trivial⟩ ?_
    exact ae_again _ (by omega) ⟨least, (0 + 1), rfl, (by omega), (by rw [hl0]; first | (show _ = lb1 table i j; unfold lb1; first | (rw [if_pos (by omega)]; rfl) | (rw [if_neg (by omega)]; rfl)) | (show _ = lb2 table i j; unfold lb2; first | (rw [if_pos (by omega)]; rfl) | (rw [if_neg (by omega)]; rfl)) | (show _ = lb3 table i j; unfold lb3; first | (rw [if_pos (by omega)]; rfl) | (rw [if_neg (by omega)]; rfl))), rfl⟩
   ·refine aw_r [(0, .dec true)] [0, 1, 2, 7, 10, 11, 12] [] [slLI false table, I i, I j, I least, .agg [I 1, I 1, I 1, I 0, I 0, I 1], I 1, Bv true] [] [(1 : Int) < 3] hB ⟨(by decide), trivial⟩ ?_
    refine ae_then ?_
    refine aw_seq ?_
    refine aw_true rfl ?_
    refine aw_skip ?_
    refine ae_then ?_
    refine aw_seq ?_
    refine aw_block ?_
    refine aR [(1, .new 9)] [0, 1, 2, 7, 9, 10, 11] [9] [slLI false table, I i, I j, I least, .ref 9 0, .agg [I 1, I 1, I 1, I 0, I 0, I 1], I 1] [some (.box [I 1, I 0])] [(0 : Int) ≤ 1 ∧ 1 < (3 : Int)] hB ⟨⟨by decide, by decide⟩, trivial⟩ ?_
    refine aw_seq ?_
    by_cases h4 : 1 ≤ i
    ·refine aw_r [(3, .dec true), (8, .dec true)] [0, 1, 2, 7, 9, 10, 11, 23] [9] [slLI false table, I i, I j, I least, .ref 9 0, .agg [I 1, I 1, I 1, I 0, I 0, I 1], I 1, Bv true] [some (.box [I 1, I 0])] [(0 : Int) ≤ 0 ∧ 0 < (2 : Int), 1 ≤ i, (0 : Int) ≤ 1 ∧ 1 < (2 : Int), 0 ≤ j] hB ⟨⟨by decide, by decide⟩, h4, ⟨by decide, by decide⟩, (by omega), trivial⟩ ?_
     refine ae_then ?_
     refine aw_true rfl ?_
     refine aw_r [] [0, 1, 2, 7, 10, 11] [] [slLI false table, I i, I j, I (min least (at_ (at_ table ((i - 1).toNat)) ((j - 0).toNat))), .agg [I 1, I 1, I 1, I 0, I 0, I 1], I 1] [] [(0 : Int) ≤ 0 ∧ 0 < (2 : Int), inR .i64 (i - 1), (0 : Int) ≤ (i - 1) ∧ (i - 1) < (table.length : Int), (0 : Int) ≤ 1 ∧ 1 < (2 : Int), inR .i64 (j - 0), (0 : Int) ≤ (j - 0) ∧ (j - 0) < (((at_ table ((i - 1).toNat)).length) : Int)] hB ⟨⟨by decide, by decide⟩, (inR_i64 (by omega) (by omega)), ⟨(by omega), (by omega)⟩, ⟨by decide, by decide⟩, (inR_i64 (by omega) (by omega)), ⟨(by omega), (by omega)⟩, trivial⟩ ?_
     refine ae_block 1 ?_
     refine ae_then ?_
     refine aw_r [] [0, 1, 2, 7, 10, 11] [] [slLI false table, I i, I j, I (min least (at_ (at_ table ((i - 1).toNat)) ((j - 0).toNat))), .agg [I 1, I 1, I 1, I 0, I 0, I 1], I (1 + 1)] [] [inR .i64 (1 + 1)] hB ⟨(inR_i64 (by omega) (by omega)), trivial⟩ ?_
     exact ae_again _ (by omega) ⟨(min least (at_ (at_ table ((i - 1).toNat)) ((j - 0).toNat))), (1 + 1), rfl, (by omega), (by rw [hl0]; first | (show _ = lb1 table i j; unfold lb1; first | (rw [if_pos (by omega)]; rfl) | (rw [if_neg (by omega)]; rfl)) | (show _ = lb2 table i j; unfold lb2; first | (rw [if_pos (by omega)]; rfl) | (rw [if_neg (by omega)]; rfl)) | (show _ = lb3 table i j; unfold lb3; first | (rw [if_pos (by omega)]; rfl) | (rw [if_neg (by omega)]; rfl))), rfl⟩
    refine aw_r [(3, .dec false)] [0, 1, 2, 7, 9, 10, 11, 23] [9] [slLI false table, I i, I j, I least, .ref 9 0, .agg [I 1, I 1, I 1, I 0, I 0, I 1], I 1, Bv false] [some (.box [I 1, I 0])] [(0 : Int) ≤ 0 ∧ 0 < (2 : Int), ¬ (1 ≤ i)] hB ⟨⟨by decide, by decide⟩, h4, trivial⟩ ?_
    refine ae_then ?_
    refine aw_false rfl ?_
    refine aw_skip ?_
    refine ae_block 1 ?_
    refine ae_then ?_
    refine aw_r [] [0, 1, 2, 7, 10, 11] [] [slLI false table, I i, I j, I least, .agg [I 1, I 1, I 1, I 0, I 0, I 1], I (1 + 1)] [] [inR .i64 (1 + 1)] hB ⟨(inR_i64 (by omega) (by omega)), trivial⟩ ?_
    exact ae_again _ (by omega) ⟨least, (1 + 1), rfl, (by omega), (by rw [hl0]; first | (show _ = lb1 table i j; unfold lb1; first | (rw [if_pos (by omega)]; rfl) | (rw [if_neg (by omega)]; rfl)) | (show _ = lb2 table i j; unfold lb2; first | (rw [if_pos (by omega)]; rfl) | (rw [if_neg (by omega)]; rfl)) | (show _ = lb3 table i j; unfold lb3; first | (rw [if_pos (by omega)]; rfl) | (rw [if_neg (by omega)]; rfl))), rfl⟩
   ·refine aw_r [(0, .dec true)] [0, 1, 2, 7, 10, 11, 12] [] [slLI false table, I i, I j, I least, .agg [I 1, I 1, I 1, I 0, I 0, I 1], I 2, Bv true] [] [(2 : Int) < 3] hB ⟨(by decide), trivial⟩ ?_
    refine ae_then ?_
    refine aw_seq ?_
    refine aw_true rfl ?_
    refine aw_skip ?_
    refine ae_then ?_
    refine aw_seq ?_
    refine aw_block ?_
    refine aR [(1, .new 9)] [0, 1, 2, 7, 9, 10, 11] [9] [slLI false table, I i, I j, I least, .ref 9 0, .agg [I 1, I 1, I 1, I 0, I 0, I 1], I 2] [some (.box [I 0, I 1])] [(0 : Int) ≤ 2 ∧ 2 < (3 : Int)] hB ⟨⟨by decide, by decide⟩, trivial⟩ ?_
    refine aw_seq ?_
    by_cases h5 : 1 ≤ j
    ·refine aw_r [(3, .dec true), (8, .dec true)] [0, 1, 2, 7, 9, 10, 11, 23] [9] [slLI false table, I i, I j, I least, .ref 9 0, .agg [I 1, I 1, I 1, I 0, I 0, I 1], I 2, Bv true] [some (.box [I 0, I 1])] [(0 : Int) ≤ 0 ∧ 0 < (2 : Int), 0 ≤ i, (0 : Int) ≤ 1 ∧ 1 < (2 : Int), 1 ≤ j] hB ⟨⟨by decide, by decide⟩, (by omega), ⟨by decide, by decide⟩, h5, trivial⟩ ?_
     refine ae_then ?_
     refine aw_true rfl ?_
     refine aw_r [] [0, 1, 2, 7, 10, 11] [] [slLI false table, I i, I j, I (min least (at_ (at_ table ((i - 0).toNat)) ((j - 1).toNat))), .agg [I 1, I 1, I 1, I 0, I 0, I 1], I 2] [] [(0 : Int) ≤ 0 ∧ 0 < (2 : Int), inR .i64 (i - 0), (0 : Int) ≤ (i - 0) ∧ (i - 0) < (table.length : Int), (0 : Int) ≤ 1 ∧ 1 < (2 : Int), inR .i64 (j - 1), (0 : Int) ≤ (j - 1) ∧ (j - 1) < (((at_ table ((i - 0).toNat)).length) : Int)] hB ⟨⟨by decide, by decide⟩, (inR_i64 (by omega) (by omega)), ⟨(by omega), (by omega)⟩, ⟨by decide, by decide⟩, (inR_i64 (by omega) (by omega)), ⟨(by omega), (by omega)⟩, trivial⟩ ?_
     refine ae_block 1 ?_
     refine ae_then ?_
     refine aw_r [] [0, 1, 2, 7, 10, 11] [] [slLI false table, I i, I j, I (min least (at_ (at_ table ((i - 0).toNat)) ((j - 1).toNat))), .agg [I 1, I 1, I 1, I 0, I 0, I 1], I (2 + 1)] [] [inR .i64 (2 + 1)] hB ⟨(inR_i64 (by omega) (by omega)), trivial⟩ ?_
     exact ae_again _ (by omega) ⟨(min least (at_ (at_ table ((i - 0).toNat)) ((j - 1).toNat))), (2 + 1), rfl, (by omega), (by rw [hl0]; first | (show _ = lb1 table i j; unfold lb1; first | (rw [if_pos (by omega)]; rfl) | (rw [if_neg (by omega)]; rfl)) | (show _ = lb2 table i j; unfold lb2; first | (rw [if_pos (by omega)]; rfl) | (rw [if_neg (by omega)]; rfl)) | (show _ = lb3 table i j; unfold lb3; first | (rw [if_pos (by omega)]; rfl) | (rw [if_neg (by omega)]; rfl))), rfl⟩
    refine aw_r [(3, .dec true), (8, .dec false)] [0, 1, 2, 7, 9, 10, 11, 23] [9] [slLI false table, I i, I j, I least, .ref 9 0, .agg [I 1, I 1, I 1, I 0, I 0, I 1], I 2, Bv false] [some (.box [I 0, I 1])] [(0 : Int) ≤ 0 ∧ 0 < (2 : Int), 0 ≤ i, (0 : Int) ≤ 1 ∧ 1 < (2 : Int), ¬ (1 ≤ j)] hB ⟨⟨by decide, by decide⟩, (by omega), ⟨by decide, by decide⟩, h5, trivial⟩ ?_
    refine ae_then ?_
    refine aw_false rfl ?_
    refine aw_skip ?_
    refine ae_block 1 ?_
    refine ae_then ?_
    refine aw_r [] [0, 1, 2, 7, 10, 11] [] [slLI false table, I i, I j, I least, .agg [I 1, I 1, I 1, I 0, I 0, I 1], I (2 + 1)] [] [inR .i64 (2 + 1)] hB ⟨(inR_i64 (by omega) (by omega)), trivial⟩ ?_
    exact ae_again _ (by omega) ⟨least, (2 + 1), rfl, (by omega), (by rw [hl0]; first | (show _ = lb1 table i j; unfold lb1; first | (rw [if_pos (by omega)]; rfl) | (rw [if_neg (by omega)]; rfl)) | (show _ = lb2 table i j; unfold lb2; first | (rw [if_pos (by omega)]; rfl) | (rw [if_neg (by omega)]; rfl)) | (show _ = lb3 table i j; unfold lb3; first | (rw [if_pos (by omega)]; rfl) | (rw [if_neg (by omega)]; rfl))), rfl⟩
  have hte : t11.toNat = 3 := by omega
  refine aw_r [(0, .dec false)] [0, 1, 2, 7, 10, 11, 12] [] [slLI false table, I i, I j, I least, .agg [I 1, I 1, I 1, I 0, I 0, I 1], I t11, Bv false] [] [¬ (t11 < 3)] hB ⟨h1, trivial⟩ ?_
  refine ae_then ?_
  refine aw_seq ?_
  refine aw_false rfl ?_
  refine aw_exit ?_
  refine ae_exit_then ?_
  refine ae_exit_then ?_
  refine ae_exit_same ?_
  refine ae_then ?_
  refine aR [] [6] [] [I least] [] [] hB trivial ?_
  refine aw_ret ?_
  refine ae_ret hB (I least) (by kernel_rfl) (.inl (by rw [hl0, hte]; rfl)) rfl (fun _ => trivial)



-- impl.featCost
theorem featCost_ok (a : Feat) (b : Feat) (ha : okF a = true) (hb : okF b = true) : Con Tryz.prog 299 [agFeat a, agFeat b] true (I (costF a b)) := by
  have ha' := okF_iff.1 ha
  have hb' := okF_iff.1 hb
  refine fn_ok (fn := Tryz.f299) (nt := 31) Tryz.func299 rfl rfl rfl rfl (by simp [taggedL, tagged]) fun B hB => ?_
  refine aR [(0, .new 2), (1, .new 3)] [2, 3] [2, 3] [.ref 2 0, .ref 3 0] [some (bxFeat a), some (bxFeat b)] [] hB trivial ?_
  refine aR [(5, .call [(true, .any)] true (I ((a.D - b.D).natAbs : Int)))] [2, 3, 5] [2, 3] [.ref 2 0, .ref 3 0, I ((a.D - b.D).natAbs : Int)] [some (bxFeat a), some (bxFeat b)] [inR .i64 (a.D - b.D), Con Tryz.prog 265 [I (a.D - b.D)] true (I ((a.D - b.D).natAbs : Int)) ∧ True] hB ⟨(inR_i64 (by omega) (by omega)), ⟨(abs_ok (a.D - b.D) (by omega)), trivial⟩, trivial⟩ ?_
  refine aR [(5, .call [(true, .any)] true (I ((a.X - b.X).natAbs : Int))), (11, .call [(true, .any)] true (I ((a.Y - b.Y).natAbs : Int)))] [4] [] [I ((((a.X - b.X).natAbs : Int) + ((a.Y - b.Y).natAbs : Int)) + (16 * (min ((a.D - b.D).natAbs : Int) (8 - ((a.D - b.D).natAbs : Int)))))] [] [inR .i64 (a.X - b.X), Con Tryz.prog 265 [I (a.X - b.X)] true (I ((a.X - b.X).natAbs : Int)) ∧ True, inR .i64 (a.Y - b.Y), Con Tryz.prog 265 [I (a.Y - b.Y)] true (I ((a.Y - b.Y).natAbs : Int)) ∧ True, inR .i64 (((a.X - b.X).natAbs : Int) + ((a.Y - b.Y).natAbs : Int)), inR .i64 (8 - ((a.D - b.D).natAbs : Int)), inR .i64 (16 * (min ((a.D - b.D).natAbs : Int) (8 - ((a.D - b.D).natAbs : Int)))), inR .i64 ((((a.X - b.X).natAbs : Int) + ((a.Y - b.Y).natAbs : Int)) + (16 * (min ((a.D - b.D).natAbs : Int) (8 - ((a.D - b.D).natAbs : Int)))))] hB ⟨(inR_i64 (by omega) (by omega)), ⟨(abs_ok (a.X - b.X) (by omega)), trivial⟩, (inR_i64 (by omega) (by omega)), ⟨(abs_ok (a.Y - b.Y) (by omega)), trivial⟩, (inR_i64 (by omega) (by omega)), (inR_i64 (by omega) (by omega)), (inR_i64 (by omega) (by omega)), (inR_i64 (by omega) (by omega)), trivial⟩ ?_
  refine aw_ret ?_
  refine ae_ret hB (I ((((a.X - b.X).natAbs : Int) + ((a.Y - b.Y).natAbs : Int)) + (16 * (min ((a.D - b.D).natAbs : Int) (8 - ((a.D - b.D).natAbs : Int)))))) (by kernel_rfl) (.inl (by refine congrArg I ?_; first | rfl | (unfold costF; omega))) rfl (fun _ => trivial)





abbrev farI : Int := 1099511627776
def rowOk (a b : List Feat) (band : Int) (r : List Int) (p n : Nat) : Prop := r.length = b.length ∧ ∀ q, q < n → at_ r q = cv farI a b band p q
def tbOk (a b : List Feat) (band : Int) (tb : List (List Int)) (i : Nat) : Prop := tb.length = a.length ∧ ∀ p, p < i → rowOk a b band (at_ tb p) p b.length
theorem cv_nn {far : Int} (hf : 0 ≤ far) {a b : List Feat} (band : Int) (hab : okAB a b) : ∀ (i j : Nat), i < a.length → j < b.length → 0 ≤ cv far a b band i j
  | 0, 0, hi, hj => by
    have hc := costF_bd (hab.1 0 hi) (hab.2.1 0 hj)
    rw [cv]; unfold stp; split <;> omega
  | 0, j + 1, hi, hj => by
    have hc := costF_bd (hab.1 0 hi) (hab.2.1 (j + 1) hj)
    have := cv_nn hf band hab 0 j hi (by omega)
    rw [cv]; unfold stp; split <;> omega
  | i + 1, 0, hi, hj => by
    have hc := costF_bd (hab.1 (i + 1) hi) (hab.2.1 0 hj)
    have := cv_nn hf band hab i 0 (by omega) hj
    rw [cv]; unfold stp; split <;> omega
  | i + 1, j + 1, hi, hj => by
    have hc := costF_bd (hab.1 (i + 1) hi) (hab.2.1 (j + 1) hj)
    have := cv_nn hf band hab i j (by omega) (by omega)
    have := cv_nn hf band hab i (j + 1) (by omega) (by omega)
    have := cv_nn hf band hab (i + 1) j (by omega) (by omega)
    rw [cv]; unfold stp; split <;> omega
termination_by i j => i + j
theorem lb_at {a b : List Feat} {band : Int} {tb : List (List Int)} {i j : Nat} (hab : okAB a b) (h : tbOk a b band tb i) (hr : rowOk a b band (at_ tb i) i j) (hi : i < a.length) (hj : j < b.length) :
    (0 ≤ lb3 tb i j ∧ lb3 tb i j ≤ farI) ∧ cv farI a b band i j = stp farI band i j (if i = 0 ∧ j = 0 then 0 else lb3 tb i j) (costF (at_ a i) (at_ b j)) := by
  have hF : farI = 1099511627776 := rfl
  have e1 : ∀ p q : Nat, p < i → q < b.length → at_ (at_ tb p) q = cv farI a b band p q ∧ 0 ≤ cv farI a b band p q := fun p q hp hq => ⟨(h.2 p hp).2 q hq, cv_nn (by decide) band hab p q (by omega) hq⟩
  have e2 : ∀ q : Nat, q < j → at_ (at_ tb i) q = cv farI a b band i q ∧ 0 ≤ cv farI a b band i q := fun q hq => ⟨hr.2 q hq, cv_nn (by decide) band hab i q hi (by omega)⟩
  rcases i with _ | i <;> rcases j with _ | j
  · refine ⟨?_, by rw [cv]; simp⟩
    simp [lb3, lb2, lb1]
  · have q := e2 j (by omega)
    have e : lb3 tb (0 : Nat) ((j + 1 : Nat) : Int) = min farI (cv farI a b band 0 j) := by
      unfold lb3 lb2 lb1
      rw [if_pos (by omega), if_neg (by omega), if_neg (by omega), show (((j + 1 : Nat) : Int) - 1).toNat = j from by omega, show (((0 : Nat) : Int) - 0).toNat = 0 from rfl, q.1]
    rw [e]
    refine ⟨by omega, ?_⟩
    rw [cv, if_neg (by omega)]
  · have q := e1 i 0 (by omega) hj
    have e : lb3 tb ((i + 1 : Nat) : Int) (0 : Nat) = min farI (cv farI a b band i 0) := by
      unfold lb3 lb2 lb1
      rw [if_neg (by omega), if_pos (by omega), if_neg (by omega), show (((i + 1 : Nat) : Int) - 1).toNat = i from by omega, show (((0 : Nat) : Int) - 0).toNat = 0 from rfl, q.1]
    rw [e]
    refine ⟨by omega, ?_⟩
    rw [cv, if_neg (by omega)]
  · have q1 := e1 i j (by omega) (by omega)
    have q2 := e1 i (j + 1) (by omega) hj
    have q3 := e2 j (by omega)
    have e : lb3 tb ((i + 1 : Nat) : Int) ((j + 1 : Nat) : Int) = min (min (min farI (cv farI a b band i j)) (cv farI a b band i (j + 1))) (cv farI a b band (i + 1) j) := by
      unfold lb3 lb2 lb1
      rw [if_pos (by omega), if_pos (by omega), if_pos (by omega), show (((i + 1 : Nat) : Int) - 1).toNat = i from by omega, show (((j + 1 : Nat) : Int) - 1).toNat = j from by omega, show (((j + 1 : Nat) : Int) - 0).toNat = j + 1 from by omega, show (((i + 1 : Nat) : Int) - 0).toNat = i + 1 from by omega, q1.1, q2.1, q3.1]
    rw [e]
    refine ⟨by omega, ?_⟩
    rw [cv, if_neg (by omega)]
theorem tb_row {a b : List Feat} {band : Int} {tb : List (List Int)} {i m : Nat} (h : tbOk a b band tb i) (hi : i < a.length) (hm : m = b.length) : tbOk a b band (tb.set i (List.replicate m 0)) i ∧ rowOk a b band (at_ (tb.set i (List.replicate m 0)) i) i 0 := by
  refine ⟨⟨by rw [List.length_set]; exact h.1, fun p hp => ?_⟩, ?_, fun q hq => by omega⟩
  · rw [at_set_oth (by omega)]; exact h.2 p hp
  · rw [at_set_same (by rw [h.1]; exact hi)]; simp [hm]
theorem tb_step {a b : List Feat} {band v : Int} {tb : List (List Int)} {i j : Nat} (h : tbOk a b band tb i) (hr : rowOk a b band (at_ tb i) i j) (hi : i < a.length) (hj : j < b.length) (hv : v = cv farI a b band i j) : tbOk a b band (tb.set i ((at_ tb i).set j v)) i ∧ rowOk a b band (at_ (tb.set i ((at_ tb i).set j v)) i) i (j + 1) := by
  refine ⟨⟨by rw [List.length_set]; exact h.1, fun p hp => ?_⟩, ?_, fun q hq => ?_⟩
  · rw [at_set_oth (by omega)]; exact h.2 p hp
  · rw [at_set_same (by rw [h.1]; exact hi), List.length_set]; exact hr.1
  · rw [at_set_same (by rw [h.1]; exact hi)]
    by_cases e : q = j
    · subst e; rw [at_set_same (by rw [hr.1]; exact hj)]; exact hv
    · rw [at_set_oth e]; exact hr.2 q (by omega)
theorem tb_done {a b : List Feat} {band : Int} {tb : List (List Int)} {i n : Nat} (h : tbOk a b band tb i) (hr : rowOk a b band (at_ tb i) i n) (hn : n = b.length) : tbOk a b band tb (i + 1) := by
  subst hn
  refine ⟨h.1, fun p hp => ?_⟩
  by_cases e : p = i
  · subst e; exact hr
  · exact h.2 p (by omega)
theorem tb_nil (a b : List Feat) (band : Int) {n : Nat} (hn : n = a.length) : tbOk a b band (List.replicate n []) 0 := ⟨by simp [hn], fun p hp => by omega⟩


theorem beq_ne {i k : Nat} (h : i ≠ k) : Nat.beq i k = false := Bool.eq_false_iff.2 fun e => h (Nat.eq_of_beq_eq_true e)
theorem at_set_eq {α : Type} [Inhabited α] {xs : List α} {k : Nat} {c : α} (h : k < xs.length) : at_ (xs.set k c) k = c := by simp [at_, h]
theorem at_set_ne {α : Type} [Inhabited α] {xs : List α} {k i : Nat} {c : α} (h : i ≠ k) : at_ (xs.set k c) i = at_ xs i := by
  have : ¬ k = i := fun e => h e.symm
  simp [at_, this]
theorem le_row {ob : Nat → Option Ob} {F N sz p n : Nat} {m : Nat → Nat} {g : Nat → Nat → List AV} {fr : Bool} {f : Nat → List AV} (h : ob F = some (.fam N sz m g)) (hp : p < N) (hn : m p = n)
    (hf : ∀ i, i < n → g p i = f i ∨ (AV.idsL (f i) = [] ∧ leL (fun _ => none) false (g p i) (f i))) : le ob true (.row F p) (.sl fr sz n f) := by
  simp only [le, h]
  exact ⟨fun _ => trivial, hp, trivial, hn, hf⟩


def oLIc (F : Nat) (x : List Int) (i : Nat) : List AV := [.row F i]
def oLI (F : Nat) (xs : List (List Int)) (i : Nat) : List AV := oLIc F (at_ xs i) i
def mLI (xs : List (List Int)) (p : Nat) : Nat := (at_ xs p).length
def gLI (xs : List (List Int)) (p : Nat) : Nat → List AV := fI (at_ xs p)
abbrev tOLI (F : Nat) (xs : List (List Int)) : Ob := .oar [F] 1 xs.length (oLI F xs)
abbrev tFLI (xs : List (List Int)) : Ob := .fam xs.length 1 (mLI xs) (gLI xs)
theorem oleLI {ob : Nat → Option Ob} {F : Nat} (fr : Bool) (xs : List (List Int)) (h : ob F = some (.fam xs.length 1 (mLI xs) (gLI xs))) : ∀ i, i < xs.length → AV.idsL (fLI fr xs i) = [] ∧ leL ob true (oLI F xs i) (fLI fr xs i) :=
  fun i hi => And.intro rfl (And.intro (le_row h hi rfl (fun q _ => .inl rfl)) rfl)
theorem osetLI (F P : Nat) (xs : List (List Int)) (ys : List Int) (i : Nat) : oLI F xs i = oLI F (xs.set P ys) i := by
  unfold oLI
  by_cases h : P = i
  · subst h
    by_cases hl : P < xs.length
    · simp [at_, hl, oLIc]
    · rw [List.set_eq_of_length_le (by omega)]
  · simp [at_, h]
theorem fnilLI (n : Nat) {g : Nat → Nat → List AV} : n = (List.replicate n ([] : List Int)).length ∧ 1 = 1 ∧ ∀ p, p < (List.replicate n ([] : List Int)).length → (fun _ : Nat => (0 : Nat)) p = mLI (List.replicate n ([] : List Int)) p ∧ ∀ i, i < mLI (List.replicate n ([] : List Int)) p → g p i = gLI (List.replicate n ([] : List Int)) p i ∨ (AV.idsL (gLI (List.replicate n ([] : List Int)) p i) = [] ∧ leL (fun _ => none) false (g p i) (gLI (List.replicate n ([] : List Int)) p i)) := by
  refine ⟨by simp, rfl, fun p hp => ?_⟩
  have e : mLI (List.replicate n ([] : List Int)) p = 0 := by simp only [List.length_replicate] at hp; simp [mLI, at_, hp]
  exact ⟨e.symm, fun i hi => by rw [e] at hi; exact absurd hi (Nat.not_lt_zero _)⟩
theorem fputLI {xs : List (List Int)} {P m1 : Nat} {ys : List Int} {f1 : Nat → List AV} (hP : P < xs.length) (hm : m1 = ys.length) (hf : ∀ i, i < m1 → f1 i = fI ys i) : xs.length = (xs.set P ys).length ∧ 1 = 1 ∧ ∀ p, p < (xs.set P ys).length → famUp P m1 (mLI xs) p = mLI (xs.set P ys) p ∧ ∀ i, i < mLI (xs.set P ys) p → famUpF P f1 (gLI xs) p i = gLI (xs.set P ys) p i ∨ (AV.idsL (gLI (xs.set P ys) p i) = [] ∧ leL (fun _ => none) false (famUpF P f1 (gLI xs) p i) (gLI (xs.set P ys) p i)) := by
  refine ⟨by simp, rfl, fun p hp => ?_⟩
  by_cases h : p = P
  · subst h
    have e : at_ (xs.set p ys) p = ys := at_set_eq hP
    refine ⟨?_, fun i hi => .inl ?_⟩
    · simp only [famUp, Nat.beq_refl, cond_true, mLI, e]; exact hm
    · simp only [mLI, e] at hi; simp only [famUpF, Nat.beq_refl, cond_true, gLI, e]; exact hf i (by omega)
  · have e : at_ (xs.set P ys) p = at_ xs p := at_set_ne h
    have b := beq_ne h
    refine ⟨?_, fun i hi => .inl ?_⟩
    · simp only [famUp, b, cond_false, mLI, e]
    · simp only [famUpF, b, cond_false, gLI, e]
theorem fsetLI {xs : List (List Int)} {P k : Nat} {c : Int} {g' : Nat → Nat → List AV} (hP : P < xs.length) (hk : k < (at_ xs P).length) (h1 : g' P k = cI c) (h2 : ∀ i, i ≠ k → g' P i = gLI xs P i) (h3 : ∀ p, p ≠ P → g' p = gLI xs p) : xs.length = (xs.set P ((at_ xs P).set k c)).length ∧ 1 = 1 ∧ ∀ p, p < (xs.set P ((at_ xs P).set k c)).length → mLI xs p = mLI (xs.set P ((at_ xs P).set k c)) p ∧ ∀ i, i < mLI (xs.set P ((at_ xs P).set k c)) p → g' p i = gLI (xs.set P ((at_ xs P).set k c)) p i ∨ (AV.idsL (gLI (xs.set P ((at_ xs P).set k c)) p i) = [] ∧ leL (fun _ => none) false (g' p i) (gLI (xs.set P ((at_ xs P).set k c)) p i)) := by
  refine ⟨by simp, rfl, fun p hp => ?_⟩
  by_cases h : p = P
  · subst h
    have e2 : at_ (xs.set p ((at_ xs p).set k c)) p = ((at_ xs p).set k c) := at_set_eq hP
    have e3 : ((at_ xs p).set k c) = (at_ xs p).set k c := rfl
    simp only [mLI, gLI, e2, e3]
    refine ⟨by simp, fun i hi => .inl ?_⟩
    by_cases hi2 : i = k
    · subst hi2
      rw [h1]
      show _ = cI (at_ _ _)
      rw [at_set_eq hk]
    · rw [h2 i hi2]
      show cI (at_ _ _) = cI (at_ _ _)
      rw [at_set_ne hi2]
  · have e : at_ (xs.set P ((at_ xs P).set k c)) p = at_ xs p := at_set_ne h
    simp only [mLI, gLI, e]
    refine ⟨trivial, fun i hi => .inl ?_⟩
    rw [h3 p h]; rfl

end Go.Proofs.YthlghckgnanlpaaGreatDoor.Ax
