/- Contracts that the statement FnGuesses reaches, part 1. No conditions. -/
import Derived.Test.YtinncgigkiclpaaGreatAxO
import Derived.Test.YtinncgigkiclpaaGreatShelf
import Derived.Lib.IndexBytes
import Derived.Lib.ItoaNum
import Derived.Lib.ParseIntBCases
import Derived.Lib.SplitLaws
import Derived.Test.YtinncgigkiclpaaGreatAxR
import Derived.Test.YtinncgigkiclpaaGreatAxS
import Derived.Test.YtinncgigkiclpaaGreatAxY
namespace Go.Proofs.YtinncgigkiclpaaGreat.Ax
open Go.RowKit Go.ChangeShapes Go.WideShapes
set_option linter.unusedVariables false
set_option linter.unusedSimpArgs false


def cU8 (x : Int) : List AV := [.val (.int .u8 x)]
def fU8 (xs : List Int) (i : Nat) : List AV := cU8 (at_ xs i)
def slU8 (fr : Bool) (xs : List Int) : AV := .sl fr 1 xs.length (fU8 xs)
theorem tagcU8 (t : Bool) (x : Int) : taggedL t (cU8 x) := by simp [cU8, taggedL, tagged]
theorem tagU8 (t : Bool) (xs : List Int) : tagged t (slU8 t xs) := by simp only [slU8, tagged]; exact ⟨trivial, fun i _ => tagcU8 t _⟩
theorem lenU8 (fr : Bool) (xs : List Int) : lenA noOb (slU8 fr xs) = some xs.length := rfl
abbrev tAU8 (xs : List Int) : Ob := .arr 1 xs.length (fU8 xs)
def cI (x : Int) : List AV := [I x]
def fI (xs : List Int) (i : Nat) : List AV := cI (at_ xs i)
def slI (fr : Bool) (xs : List Int) : AV := .sl fr 1 xs.length (fI xs)
theorem tagcI (t : Bool) (x : Int) : taggedL t (cI x) := by simp [cI, taggedL, tagged]
theorem tagI (t : Bool) (xs : List Int) : tagged t (slI t xs) := by simp only [slI, tagged]; exact ⟨trivial, fun i _ => tagcI t _⟩
theorem lenI (fr : Bool) (xs : List Int) : lenA noOb (slI fr xs) = some xs.length := rfl
abbrev tAI (xs : List Int) : Ob := .arr 1 xs.length (fI xs)
def cS (x : ByteArray) : List AV := [Sv x]
def fS (xs : List ByteArray) (i : Nat) : List AV := cS (at_ xs i)
def slS (fr : Bool) (xs : List ByteArray) : AV := .sl fr 1 xs.length (fS xs)
theorem tagcS (t : Bool) (x : ByteArray) : taggedL t (cS x) := by simp [cS, taggedL, tagged]
theorem tagS (t : Bool) (xs : List ByteArray) : tagged t (slS t xs) := by simp only [slS, tagged]; exact ⟨trivial, fun i _ => tagcS t _⟩
theorem lenS (fr : Bool) (xs : List ByteArray) : lenA noOb (slS fr xs) = some xs.length := rfl
abbrev tAS (xs : List ByteArray) : Ob := .arr 1 xs.length (fS xs)
structure Feat where
  X : Int
  Y : Int
  D : Int
deriving DecidableEq, Inhabited
def cFeat (x : Feat) : List AV := [I x.X, I x.Y, I x.D]
def fFeat (xs : List Feat) (i : Nat) : List AV := cFeat (at_ xs i)
def slFeat (fr : Bool) (xs : List Feat) : AV := .sl fr 3 xs.length (fFeat xs)
theorem tagcFeat (t : Bool) (x : Feat) : taggedL t (cFeat x) := by simp [cFeat, taggedL, tagged]
theorem tagFeat (t : Bool) (xs : List Feat) : tagged t (slFeat t xs) := by simp only [slFeat, tagged]; exact ⟨trivial, fun i _ => tagcFeat t _⟩
theorem lenFeat (fr : Bool) (xs : List Feat) : lenA noOb (slFeat fr xs) = some xs.length := rfl
abbrev bxFeat (x : Feat) : Ob := .box [I x.X, I x.Y, I x.D]
abbrev agFeat (x : Feat) : AV := .agg [I x.X, I x.Y, I x.D]
abbrev tAFeat (xs : List Feat) : Ob := .arr 3 xs.length (fFeat xs)
def cLFeat (fr : Bool) (x : List Feat) : List AV := [slFeat fr x]
def fLFeat (fr : Bool) (xs : List (List Feat)) (i : Nat) : List AV := cLFeat fr (at_ xs i)
def slLFeat (fr : Bool) (xs : List (List Feat)) : AV := .sl fr 1 xs.length (fLFeat fr xs)
theorem tagcLFeat (t : Bool) (x : List Feat) : taggedL t (cLFeat t x) := by simp [cLFeat, taggedL, tagged, tagFeat]
theorem tagLFeat (t : Bool) (xs : List (List Feat)) : tagged t (slLFeat t xs) := by simp only [slLFeat, tagged]; exact ⟨trivial, fun i _ => tagcLFeat t _⟩
theorem lenLFeat (fr : Bool) (xs : List (List Feat)) : lenA noOb (slLFeat fr xs) = some xs.length := rfl
theorem idsLFeat (fr : Bool) (x : List Feat) : AV.idsL (cLFeat fr x) = [] := rfl
theorem leLFeat (fr : Bool) (x : List Feat) (ob : Nat → Option Ob) : leL ob false (cLFeat fr x) (cLFeat false x) := (And.intro (And.intro (fun h => by cases h) (And.intro rfl (And.intro rfl (fun i _ => .inl rfl)))) rfl)
abbrev tALFeat (fr : Bool) (xs : List (List Feat)) : Ob := .arr 1 xs.length (fLFeat fr xs)
structure Template where
  Label : ByteArray
  Feats : List Feat
deriving DecidableEq, Inhabited
def cTemplate (fr : Bool) (x : Template) : List AV := [Sv x.Label, slFeat fr x.Feats]
def fTemplate (fr : Bool) (xs : List Template) (i : Nat) : List AV := cTemplate fr (at_ xs i)
def slTemplate (fr : Bool) (xs : List Template) : AV := .sl fr 2 xs.length (fTemplate fr xs)
theorem tagcTemplate (t : Bool) (x : Template) : taggedL t (cTemplate t x) := by simp [cTemplate, taggedL, tagged, tagFeat]
theorem tagTemplate (t : Bool) (xs : List Template) : tagged t (slTemplate t xs) := by simp only [slTemplate, tagged]; exact ⟨trivial, fun i _ => tagcTemplate t _⟩
theorem lenTemplate (fr : Bool) (xs : List Template) : lenA noOb (slTemplate fr xs) = some xs.length := rfl
theorem idsTemplate (fr : Bool) (x : Template) : AV.idsL (cTemplate fr x) = [] := rfl
theorem leTemplate (fr : Bool) (x : Template) (ob : Nat → Option Ob) : leL ob false (cTemplate fr x) (cTemplate false x) := (And.intro rfl (And.intro (And.intro (fun h => by cases h) (And.intro rfl (And.intro rfl (fun i _ => .inl rfl)))) rfl))
abbrev bxTemplate (x : Template) : Ob := .box [Sv x.Label, slFeat false x.Feats]
abbrev agTemplate (x : Template) : AV := .agg [Sv x.Label, slFeat false x.Feats]
abbrev bxTemplateT (x : Template) : Ob := .box [Sv x.Label, slFeat true x.Feats]
abbrev agTemplateT (x : Template) : AV := .agg [Sv x.Label, slFeat true x.Feats]
abbrev tATemplate (fr : Bool) (xs : List Template) : Ob := .arr 2 xs.length (fTemplate fr xs)
def cLTemplate (fr : Bool) (x : List Template) : List AV := [slTemplate fr x]
def fLTemplate (fr : Bool) (xs : List (List Template)) (i : Nat) : List AV := cLTemplate fr (at_ xs i)
def slLTemplate (fr : Bool) (xs : List (List Template)) : AV := .sl fr 1 xs.length (fLTemplate fr xs)
theorem tagcLTemplate (t : Bool) (x : List Template) : taggedL t (cLTemplate t x) := by simp [cLTemplate, taggedL, tagged, tagTemplate]
theorem tagLTemplate (t : Bool) (xs : List (List Template)) : tagged t (slLTemplate t xs) := by simp only [slLTemplate, tagged]; exact ⟨trivial, fun i _ => tagcLTemplate t _⟩
theorem lenLTemplate (fr : Bool) (xs : List (List Template)) : lenA noOb (slLTemplate fr xs) = some xs.length := rfl
theorem idsLTemplate (fr : Bool) (x : List Template) : AV.idsL (cLTemplate fr x) = [] := rfl
theorem leLTemplate (fr : Bool) (x : List Template) (ob : Nat → Option Ob) : leL ob false (cLTemplate fr x) (cLTemplate false x) := (And.intro (And.intro (fun h => by cases h) (And.intro rfl (And.intro rfl (fun i _ => .inr ⟨idsTemplate _ _, leTemplate _ _ _⟩)))) rfl)
abbrev tALTemplate (fr : Bool) (xs : List (List Template)) : Ob := .arr 1 xs.length (fLTemplate fr xs)
structure Store where
  Band : Int
  Templates : List Template
deriving DecidableEq, Inhabited
def cStore (fr : Bool) (x : Store) : List AV := [I x.Band, slTemplate fr x.Templates]
def fStore (fr : Bool) (xs : List Store) (i : Nat) : List AV := cStore fr (at_ xs i)
def slStore (fr : Bool) (xs : List Store) : AV := .sl fr 2 xs.length (fStore fr xs)
theorem tagcStore (t : Bool) (x : Store) : taggedL t (cStore t x) := by simp [cStore, taggedL, tagged, tagTemplate]
theorem tagStore (t : Bool) (xs : List Store) : tagged t (slStore t xs) := by simp only [slStore, tagged]; exact ⟨trivial, fun i _ => tagcStore t _⟩
theorem lenStore (fr : Bool) (xs : List Store) : lenA noOb (slStore fr xs) = some xs.length := rfl
theorem idsStore (fr : Bool) (x : Store) : AV.idsL (cStore fr x) = [] := rfl
theorem leStore (fr : Bool) (x : Store) (ob : Nat → Option Ob) : leL ob false (cStore fr x) (cStore false x) := (And.intro rfl (And.intro (And.intro (fun h => by cases h) (And.intro rfl (And.intro rfl (fun i _ => .inr ⟨idsTemplate _ _, leTemplate _ _ _⟩)))) rfl))
abbrev bxStore (x : Store) : Ob := .box [I x.Band, slTemplate false x.Templates]
abbrev agStore (x : Store) : AV := .agg [I x.Band, slTemplate false x.Templates]
abbrev bxStoreT (x : Store) : Ob := .box [I x.Band, slTemplate true x.Templates]
abbrev agStoreT (x : Store) : AV := .agg [I x.Band, slTemplate true x.Templates]
abbrev tAStore (fr : Bool) (xs : List Store) : Ob := .arr 2 xs.length (fStore fr xs)
structure Point where
  X : Int
  Y : Int
  T : Int
deriving DecidableEq, Inhabited
def cPoint (x : Point) : List AV := [I x.X, I x.Y, I x.T]
def fPoint (xs : List Point) (i : Nat) : List AV := cPoint (at_ xs i)
def slPoint (fr : Bool) (xs : List Point) : AV := .sl fr 3 xs.length (fPoint xs)
theorem tagcPoint (t : Bool) (x : Point) : taggedL t (cPoint x) := by simp [cPoint, taggedL, tagged]
theorem tagPoint (t : Bool) (xs : List Point) : tagged t (slPoint t xs) := by simp only [slPoint, tagged]; exact ⟨trivial, fun i _ => tagcPoint t _⟩
theorem lenPoint (fr : Bool) (xs : List Point) : lenA noOb (slPoint fr xs) = some xs.length := rfl
abbrev bxPoint (x : Point) : Ob := .box [I x.X, I x.Y, I x.T]
abbrev agPoint (x : Point) : AV := .agg [I x.X, I x.Y, I x.T]
abbrev tAPoint (xs : List Point) : Ob := .arr 3 xs.length (fPoint xs)
def cLPoint (fr : Bool) (x : List Point) : List AV := [slPoint fr x]
def fLPoint (fr : Bool) (xs : List (List Point)) (i : Nat) : List AV := cLPoint fr (at_ xs i)
def slLPoint (fr : Bool) (xs : List (List Point)) : AV := .sl fr 1 xs.length (fLPoint fr xs)
theorem tagcLPoint (t : Bool) (x : List Point) : taggedL t (cLPoint t x) := by simp [cLPoint, taggedL, tagged, tagPoint]
theorem tagLPoint (t : Bool) (xs : List (List Point)) : tagged t (slLPoint t xs) := by simp only [slLPoint, tagged]; exact ⟨trivial, fun i _ => tagcLPoint t _⟩
theorem lenLPoint (fr : Bool) (xs : List (List Point)) : lenA noOb (slLPoint fr xs) = some xs.length := rfl
theorem idsLPoint (fr : Bool) (x : List Point) : AV.idsL (cLPoint fr x) = [] := rfl
theorem leLPoint (fr : Bool) (x : List Point) (ob : Nat → Option Ob) : leL ob false (cLPoint fr x) (cLPoint false x) := (And.intro (And.intro (fun h => by cases h) (And.intro rfl (And.intro rfl (fun i _ => .inl rfl)))) rfl)
abbrev tALPoint (fr : Bool) (xs : List (List Point)) : Ob := .arr 1 xs.length (fLPoint fr xs)
structure Stroke where
  Points : List Point
deriving DecidableEq, Inhabited
def cStroke (fr : Bool) (x : Stroke) : List AV := [slPoint fr x.Points]
def fStroke (fr : Bool) (xs : List Stroke) (i : Nat) : List AV := cStroke fr (at_ xs i)
def slStroke (fr : Bool) (xs : List Stroke) : AV := .sl fr 1 xs.length (fStroke fr xs)
theorem tagcStroke (t : Bool) (x : Stroke) : taggedL t (cStroke t x) := by simp [cStroke, taggedL, tagged, tagPoint]
theorem tagStroke (t : Bool) (xs : List Stroke) : tagged t (slStroke t xs) := by simp only [slStroke, tagged]; exact ⟨trivial, fun i _ => tagcStroke t _⟩
theorem lenStroke (fr : Bool) (xs : List Stroke) : lenA noOb (slStroke fr xs) = some xs.length := rfl
theorem idsStroke (fr : Bool) (x : Stroke) : AV.idsL (cStroke fr x) = [] := rfl
theorem leStroke (fr : Bool) (x : Stroke) (ob : Nat → Option Ob) : leL ob false (cStroke fr x) (cStroke false x) := (And.intro (And.intro (fun h => by cases h) (And.intro rfl (And.intro rfl (fun i _ => .inl rfl)))) rfl)
abbrev tAStroke (fr : Bool) (xs : List Stroke) : Ob := .arr 1 xs.length (fStroke fr xs)
def cLStroke (fr : Bool) (x : List Stroke) : List AV := [slStroke fr x]
def fLStroke (fr : Bool) (xs : List (List Stroke)) (i : Nat) : List AV := cLStroke fr (at_ xs i)
def slLStroke (fr : Bool) (xs : List (List Stroke)) : AV := .sl fr 1 xs.length (fLStroke fr xs)
theorem tagcLStroke (t : Bool) (x : List Stroke) : taggedL t (cLStroke t x) := by simp [cLStroke, taggedL, tagged, tagStroke]
theorem tagLStroke (t : Bool) (xs : List (List Stroke)) : tagged t (slLStroke t xs) := by simp only [slLStroke, tagged]; exact ⟨trivial, fun i _ => tagcLStroke t _⟩
theorem lenLStroke (fr : Bool) (xs : List (List Stroke)) : lenA noOb (slLStroke fr xs) = some xs.length := rfl
theorem idsLStroke (fr : Bool) (x : List Stroke) : AV.idsL (cLStroke fr x) = [] := rfl
theorem leLStroke (fr : Bool) (x : List Stroke) (ob : Nat → Option Ob) : leL ob false (cLStroke fr x) (cLStroke false x) := (And.intro (And.intro (fun h => by cases h) (And.intro rfl (And.intro rfl (fun i _ => .inr ⟨idsStroke _ _, leStroke _ _ _⟩)))) rfl)
abbrev tALStroke (fr : Bool) (xs : List (List Stroke)) : Ob := .arr 1 xs.length (fLStroke fr xs)
structure Ink where
  Strokes : List Stroke
deriving DecidableEq, Inhabited
def cInk (fr : Bool) (x : Ink) : List AV := [slStroke fr x.Strokes]
def fInk (fr : Bool) (xs : List Ink) (i : Nat) : List AV := cInk fr (at_ xs i)
def slInk (fr : Bool) (xs : List Ink) : AV := .sl fr 1 xs.length (fInk fr xs)
theorem tagcInk (t : Bool) (x : Ink) : taggedL t (cInk t x) := by simp [cInk, taggedL, tagged, tagStroke]
theorem tagInk (t : Bool) (xs : List Ink) : tagged t (slInk t xs) := by simp only [slInk, tagged]; exact ⟨trivial, fun i _ => tagcInk t _⟩
theorem lenInk (fr : Bool) (xs : List Ink) : lenA noOb (slInk fr xs) = some xs.length := rfl
theorem idsInk (fr : Bool) (x : Ink) : AV.idsL (cInk fr x) = [] := rfl
theorem leInk (fr : Bool) (x : Ink) (ob : Nat → Option Ob) : leL ob false (cInk fr x) (cInk false x) := (And.intro (And.intro (fun h => by cases h) (And.intro rfl (And.intro rfl (fun i _ => .inr ⟨idsStroke _ _, leStroke _ _ _⟩)))) rfl)
abbrev tAInk (fr : Bool) (xs : List Ink) : Ob := .arr 1 xs.length (fInk fr xs)
structure Setting where
  Points : Int
  Most : Int
  Pen : Int
deriving DecidableEq, Inhabited
def cSetting (x : Setting) : List AV := [I x.Points, I x.Most, I x.Pen]
def fSetting (xs : List Setting) (i : Nat) : List AV := cSetting (at_ xs i)
def slSetting (fr : Bool) (xs : List Setting) : AV := .sl fr 3 xs.length (fSetting xs)
theorem tagcSetting (t : Bool) (x : Setting) : taggedL t (cSetting x) := by simp [cSetting, taggedL, tagged]
theorem tagSetting (t : Bool) (xs : List Setting) : tagged t (slSetting t xs) := by simp only [slSetting, tagged]; exact ⟨trivial, fun i _ => tagcSetting t _⟩
theorem lenSetting (fr : Bool) (xs : List Setting) : lenA noOb (slSetting fr xs) = some xs.length := rfl
abbrev bxSetting (x : Setting) : Ob := .box [I x.Points, I x.Most, I x.Pen]
abbrev agSetting (x : Setting) : AV := .agg [I x.Points, I x.Most, I x.Pen]
abbrev tASetting (xs : List Setting) : Ob := .arr 3 xs.length (fSetting xs)
def cLU8 (fr : Bool) (x : List Int) : List AV := [slU8 fr x]
def fLU8 (fr : Bool) (xs : List (List Int)) (i : Nat) : List AV := cLU8 fr (at_ xs i)
def slLU8 (fr : Bool) (xs : List (List Int)) : AV := .sl fr 1 xs.length (fLU8 fr xs)
theorem tagcLU8 (t : Bool) (x : List Int) : taggedL t (cLU8 t x) := by simp [cLU8, taggedL, tagged, tagU8]
theorem tagLU8 (t : Bool) (xs : List (List Int)) : tagged t (slLU8 t xs) := by simp only [slLU8, tagged]; exact ⟨trivial, fun i _ => tagcLU8 t _⟩
theorem lenLU8 (fr : Bool) (xs : List (List Int)) : lenA noOb (slLU8 fr xs) = some xs.length := rfl
theorem idsLU8 (fr : Bool) (x : List Int) : AV.idsL (cLU8 fr x) = [] := rfl
theorem leLU8 (fr : Bool) (x : List Int) (ob : Nat → Option Ob) : leL ob false (cLU8 fr x) (cLU8 false x) := (And.intro (And.intro (fun h => by cases h) (And.intro rfl (And.intro rfl (fun i _ => .inl rfl)))) rfl)
abbrev tALU8 (fr : Bool) (xs : List (List Int)) : Ob := .arr 1 xs.length (fLU8 fr xs)
def cU64 (x : Int) : List AV := [.val (.int .u64 x)]
def fU64 (xs : List Int) (i : Nat) : List AV := cU64 (at_ xs i)
def slU64 (fr : Bool) (xs : List Int) : AV := .sl fr 1 xs.length (fU64 xs)
theorem tagcU64 (t : Bool) (x : Int) : taggedL t (cU64 x) := by simp [cU64, taggedL, tagged]
theorem tagU64 (t : Bool) (xs : List Int) : tagged t (slU64 t xs) := by simp only [slU64, tagged]; exact ⟨trivial, fun i _ => tagcU64 t _⟩
theorem lenU64 (fr : Bool) (xs : List Int) : lenA noOb (slU64 fr xs) = some xs.length := rfl
abbrev tAU64 (xs : List Int) : Ob := .arr 1 xs.length (fU64 xs)
structure l00Src where
  code : List Int
  atx : Int
  seed : Int
deriving DecidableEq, Inhabited
def cl00Src (fr : Bool) (x : l00Src) : List AV := [slU8 fr x.code, I x.atx, .val (.int .u64 x.seed)]
def fl00Src (fr : Bool) (xs : List l00Src) (i : Nat) : List AV := cl00Src fr (at_ xs i)
def sll00Src (fr : Bool) (xs : List l00Src) : AV := .sl fr 3 xs.length (fl00Src fr xs)
theorem tagcl00Src (t : Bool) (x : l00Src) : taggedL t (cl00Src t x) := by simp [cl00Src, taggedL, tagged, tagU8]
theorem tagl00Src (t : Bool) (xs : List l00Src) : tagged t (sll00Src t xs) := by simp only [sll00Src, tagged]; exact ⟨trivial, fun i _ => tagcl00Src t _⟩
theorem lenl00Src (fr : Bool) (xs : List l00Src) : lenA noOb (sll00Src fr xs) = some xs.length := rfl
theorem idsl00Src (fr : Bool) (x : l00Src) : AV.idsL (cl00Src fr x) = [] := rfl
theorem lel00Src (fr : Bool) (x : l00Src) (ob : Nat → Option Ob) : leL ob false (cl00Src fr x) (cl00Src false x) := (And.intro (And.intro (fun h => by cases h) (And.intro rfl (And.intro rfl (fun i _ => .inl rfl)))) (And.intro rfl (And.intro rfl rfl)))
abbrev bxl00Src (x : l00Src) : Ob := .box [slU8 false x.code, I x.atx, .val (.int .u64 x.seed)]
abbrev agl00Src (x : l00Src) : AV := .agg [slU8 false x.code, I x.atx, .val (.int .u64 x.seed)]
abbrev bxl00SrcT (x : l00Src) : Ob := .box [slU8 true x.code, I x.atx, .val (.int .u64 x.seed)]
abbrev agl00SrcT (x : l00Src) : AV := .agg [slU8 true x.code, I x.atx, .val (.int .u64 x.seed)]
abbrev tAl00Src (fr : Bool) (xs : List l00Src) : Ob := .arr 3 xs.length (fl00Src fr xs)
structure Box where
  X1 : Int
  Y1 : Int
  X2 : Int
  Y2 : Int
deriving DecidableEq, Inhabited
def cBox (x : Box) : List AV := [I x.X1, I x.Y1, I x.X2, I x.Y2]
def fBox (xs : List Box) (i : Nat) : List AV := cBox (at_ xs i)
def slBox (fr : Bool) (xs : List Box) : AV := .sl fr 4 xs.length (fBox xs)
theorem tagcBox (t : Bool) (x : Box) : taggedL t (cBox x) := by simp [cBox, taggedL, tagged]
theorem tagBox (t : Bool) (xs : List Box) : tagged t (slBox t xs) := by simp only [slBox, tagged]; exact ⟨trivial, fun i _ => tagcBox t _⟩
theorem lenBox (fr : Bool) (xs : List Box) : lenA noOb (slBox fr xs) = some xs.length := rfl
abbrev bxBox (x : Box) : Ob := .box [I x.X1, I x.Y1, I x.X2, I x.Y2]
abbrev agBox (x : Box) : AV := .agg [I x.X1, I x.Y1, I x.X2, I x.Y2]
abbrev tABox (xs : List Box) : Ob := .arr 4 xs.length (fBox xs)
structure Spot where
  X : Int
  Y : Int
deriving DecidableEq, Inhabited
def cSpot (x : Spot) : List AV := [I x.X, I x.Y]
def fSpot (xs : List Spot) (i : Nat) : List AV := cSpot (at_ xs i)
def slSpot (fr : Bool) (xs : List Spot) : AV := .sl fr 2 xs.length (fSpot xs)
theorem tagcSpot (t : Bool) (x : Spot) : taggedL t (cSpot x) := by simp [cSpot, taggedL, tagged]
theorem tagSpot (t : Bool) (xs : List Spot) : tagged t (slSpot t xs) := by simp only [slSpot, tagged]; exact ⟨trivial, fun i _ => tagcSpot t _⟩
theorem lenSpot (fr : Bool) (xs : List Spot) : lenA noOb (slSpot fr xs) = some xs.length := rfl
abbrev bxSpot (x : Spot) : Ob := .box [I x.X, I x.Y]
abbrev agSpot (x : Spot) : AV := .agg [I x.X, I x.Y]
abbrev tASpot (xs : List Spot) : Ob := .arr 2 xs.length (fSpot xs)
structure Edge where
  From : Int
  To : Int
  Label : ByteArray
  Cost : Int
deriving DecidableEq, Inhabited
def cEdge (x : Edge) : List AV := [I x.From, I x.To, Sv x.Label, I x.Cost]
def fEdge (xs : List Edge) (i : Nat) : List AV := cEdge (at_ xs i)
def slEdge (fr : Bool) (xs : List Edge) : AV := .sl fr 4 xs.length (fEdge xs)
theorem tagcEdge (t : Bool) (x : Edge) : taggedL t (cEdge x) := by simp [cEdge, taggedL, tagged]
theorem tagEdge (t : Bool) (xs : List Edge) : tagged t (slEdge t xs) := by simp only [slEdge, tagged]; exact ⟨trivial, fun i _ => tagcEdge t _⟩
theorem lenEdge (fr : Bool) (xs : List Edge) : lenA noOb (slEdge fr xs) = some xs.length := rfl
abbrev bxEdge (x : Edge) : Ob := .box [I x.From, I x.To, Sv x.Label, I x.Cost]
abbrev agEdge (x : Edge) : AV := .agg [I x.From, I x.To, Sv x.Label, I x.Cost]
abbrev tAEdge (xs : List Edge) : Ob := .arr 4 xs.length (fEdge xs)
def cLEdge (fr : Bool) (x : List Edge) : List AV := [slEdge fr x]
def fLEdge (fr : Bool) (xs : List (List Edge)) (i : Nat) : List AV := cLEdge fr (at_ xs i)
def slLEdge (fr : Bool) (xs : List (List Edge)) : AV := .sl fr 1 xs.length (fLEdge fr xs)
theorem tagcLEdge (t : Bool) (x : List Edge) : taggedL t (cLEdge t x) := by simp [cLEdge, taggedL, tagged, tagEdge]
theorem tagLEdge (t : Bool) (xs : List (List Edge)) : tagged t (slLEdge t xs) := by simp only [slLEdge, tagged]; exact ⟨trivial, fun i _ => tagcLEdge t _⟩
theorem lenLEdge (fr : Bool) (xs : List (List Edge)) : lenA noOb (slLEdge fr xs) = some xs.length := rfl
theorem idsLEdge (fr : Bool) (x : List Edge) : AV.idsL (cLEdge fr x) = [] := rfl
theorem leLEdge (fr : Bool) (x : List Edge) (ob : Nat → Option Ob) : leL ob false (cLEdge fr x) (cLEdge false x) := (And.intro (And.intro (fun h => by cases h) (And.intro rfl (And.intro rfl (fun i _ => .inl rfl)))) rfl)
abbrev tALEdge (fr : Bool) (xs : List (List Edge)) : Ob := .arr 1 xs.length (fLEdge fr xs)
structure Lattice where
  Nodes : Int
  Edges : List Edge
deriving DecidableEq, Inhabited
def cLattice (fr : Bool) (x : Lattice) : List AV := [I x.Nodes, slEdge fr x.Edges]
def fLattice (fr : Bool) (xs : List Lattice) (i : Nat) : List AV := cLattice fr (at_ xs i)
def slLattice (fr : Bool) (xs : List Lattice) : AV := .sl fr 2 xs.length (fLattice fr xs)
theorem tagcLattice (t : Bool) (x : Lattice) : taggedL t (cLattice t x) := by simp [cLattice, taggedL, tagged, tagEdge]
theorem tagLattice (t : Bool) (xs : List Lattice) : tagged t (slLattice t xs) := by simp only [slLattice, tagged]; exact ⟨trivial, fun i _ => tagcLattice t _⟩
theorem lenLattice (fr : Bool) (xs : List Lattice) : lenA noOb (slLattice fr xs) = some xs.length := rfl
theorem idsLattice (fr : Bool) (x : Lattice) : AV.idsL (cLattice fr x) = [] := rfl
theorem leLattice (fr : Bool) (x : Lattice) (ob : Nat → Option Ob) : leL ob false (cLattice fr x) (cLattice false x) := (And.intro rfl (And.intro (And.intro (fun h => by cases h) (And.intro rfl (And.intro rfl (fun i _ => .inl rfl)))) rfl))
abbrev bxLattice (x : Lattice) : Ob := .box [I x.Nodes, slEdge false x.Edges]
abbrev agLattice (x : Lattice) : AV := .agg [I x.Nodes, slEdge false x.Edges]
abbrev bxLatticeT (x : Lattice) : Ob := .box [I x.Nodes, slEdge true x.Edges]
abbrev agLatticeT (x : Lattice) : AV := .agg [I x.Nodes, slEdge true x.Edges]
abbrev tALattice (fr : Bool) (xs : List Lattice) : Ob := .arr 2 xs.length (fLattice fr xs)
structure Match where
  Index : Int
  Cost : Int
deriving DecidableEq, Inhabited
def cMatch (x : Match) : List AV := [I x.Index, I x.Cost]
def fMatch (xs : List Match) (i : Nat) : List AV := cMatch (at_ xs i)
def slMatch (fr : Bool) (xs : List Match) : AV := .sl fr 2 xs.length (fMatch xs)
theorem tagcMatch (t : Bool) (x : Match) : taggedL t (cMatch x) := by simp [cMatch, taggedL, tagged]
theorem tagMatch (t : Bool) (xs : List Match) : tagged t (slMatch t xs) := by simp only [slMatch, tagged]; exact ⟨trivial, fun i _ => tagcMatch t _⟩
theorem lenMatch (fr : Bool) (xs : List Match) : lenA noOb (slMatch fr xs) = some xs.length := rfl
abbrev bxMatch (x : Match) : Ob := .box [I x.Index, I x.Cost]
abbrev agMatch (x : Match) : AV := .agg [I x.Index, I x.Cost]
abbrev tAMatch (xs : List Match) : Ob := .arr 2 xs.length (fMatch xs)
structure Hyp where
  Label : ByteArray
  Cost : Int
deriving DecidableEq, Inhabited
def cHyp (x : Hyp) : List AV := [Sv x.Label, I x.Cost]
def fHyp (xs : List Hyp) (i : Nat) : List AV := cHyp (at_ xs i)
def slHyp (fr : Bool) (xs : List Hyp) : AV := .sl fr 2 xs.length (fHyp xs)
theorem tagcHyp (t : Bool) (x : Hyp) : taggedL t (cHyp x) := by simp [cHyp, taggedL, tagged]
theorem tagHyp (t : Bool) (xs : List Hyp) : tagged t (slHyp t xs) := by simp only [slHyp, tagged]; exact ⟨trivial, fun i _ => tagcHyp t _⟩
theorem lenHyp (fr : Bool) (xs : List Hyp) : lenA noOb (slHyp fr xs) = some xs.length := rfl
abbrev bxHyp (x : Hyp) : Ob := .box [Sv x.Label, I x.Cost]
abbrev agHyp (x : Hyp) : AV := .agg [Sv x.Label, I x.Cost]
abbrev tAHyp (xs : List Hyp) : Ob := .arr 2 xs.length (fHyp xs)
def cLI (fr : Bool) (x : List Int) : List AV := [slI fr x]
def fLI (fr : Bool) (xs : List (List Int)) (i : Nat) : List AV := cLI fr (at_ xs i)
def slLI (fr : Bool) (xs : List (List Int)) : AV := .sl fr 1 xs.length (fLI fr xs)
theorem tagcLI (t : Bool) (x : List Int) : taggedL t (cLI t x) := by simp [cLI, taggedL, tagged, tagI]
theorem tagLI (t : Bool) (xs : List (List Int)) : tagged t (slLI t xs) := by simp only [slLI, tagged]; exact ⟨trivial, fun i _ => tagcLI t _⟩
theorem lenLI (fr : Bool) (xs : List (List Int)) : lenA noOb (slLI fr xs) = some xs.length := rfl
theorem idsLI (fr : Bool) (x : List Int) : AV.idsL (cLI fr x) = [] := rfl
theorem leLI (fr : Bool) (x : List Int) (ob : Nat → Option Ob) : leL ob false (cLI fr x) (cLI false x) := (And.intro (And.intro (fun h => by cases h) (And.intro rfl (And.intro rfl (fun i _ => .inl rfl)))) rfl)
abbrev tALI (fr : Bool) (xs : List (List Int)) : Ob := .arr 1 xs.length (fLI fr xs)
structure Arr2I where
  a0 : Int
  a1 : Int
deriving DecidableEq, Inhabited
def cArr2I (x : Arr2I) : List AV := [I x.a0, I x.a1]
def fArr2I (xs : List Arr2I) (i : Nat) : List AV := cArr2I (at_ xs i)
def slArr2I (fr : Bool) (xs : List Arr2I) : AV := .sl fr 2 xs.length (fArr2I xs)
theorem tagcArr2I (t : Bool) (x : Arr2I) : taggedL t (cArr2I x) := by simp [cArr2I, taggedL, tagged]
theorem tagArr2I (t : Bool) (xs : List Arr2I) : tagged t (slArr2I t xs) := by simp only [slArr2I, tagged]; exact ⟨trivial, fun i _ => tagcArr2I t _⟩
theorem lenArr2I (fr : Bool) (xs : List Arr2I) : lenA noOb (slArr2I fr xs) = some xs.length := rfl
abbrev bxArr2I (x : Arr2I) : Ob := .box [I x.a0, I x.a1]
abbrev agArr2I (x : Arr2I) : AV := .agg [I x.a0, I x.a1]
abbrev tAArr2I (xs : List Arr2I) : Ob := .arr 2 xs.length (fArr2I xs)
structure Arr3Arr2I where
  a0 : Arr2I
  a1 : Arr2I
  a2 : Arr2I
deriving DecidableEq, Inhabited
def cArr3Arr2I (x : Arr3Arr2I) : List AV := [I x.a0.a0, I x.a0.a1, I x.a1.a0, I x.a1.a1, I x.a2.a0, I x.a2.a1]
def fArr3Arr2I (xs : List Arr3Arr2I) (i : Nat) : List AV := cArr3Arr2I (at_ xs i)
def slArr3Arr2I (fr : Bool) (xs : List Arr3Arr2I) : AV := .sl fr 6 xs.length (fArr3Arr2I xs)
theorem tagcArr3Arr2I (t : Bool) (x : Arr3Arr2I) : taggedL t (cArr3Arr2I x) := by simp [cArr3Arr2I, taggedL, tagged]
theorem tagArr3Arr2I (t : Bool) (xs : List Arr3Arr2I) : tagged t (slArr3Arr2I t xs) := by simp only [slArr3Arr2I, tagged]; exact ⟨trivial, fun i _ => tagcArr3Arr2I t _⟩
theorem lenArr3Arr2I (fr : Bool) (xs : List Arr3Arr2I) : lenA noOb (slArr3Arr2I fr xs) = some xs.length := rfl
abbrev bxArr3Arr2I (x : Arr3Arr2I) : Ob := .box [I x.a0.a0, I x.a0.a1, I x.a1.a0, I x.a1.a1, I x.a2.a0, I x.a2.a1]
abbrev agArr3Arr2I (x : Arr3Arr2I) : AV := .agg [I x.a0.a0, I x.a0.a1, I x.a1.a0, I x.a1.a1, I x.a2.a0, I x.a2.a1]
abbrev tAArr3Arr2I (xs : List Arr3Arr2I) : Ob := .arr 6 xs.length (fArr3Arr2I xs)

-- laws.a2Long
theorem a2Long_ok (code : List Int) (more : List Int) : Con Tryz.prog 5 [slU8 false code, slU8 false more] true (Bv (decide (3000 < (code.length : Int) ∨ 3000 < (more.length : Int)))) := by
  refine fn_ok (fn := Tryz.f5) (nt := 13) Tryz.func5 rfl rfl rfl rfl (by simp [taggedL, tagged, tagU8]) fun B hB => ?_
  refine aw_lens (x := slU8 false code) 0 rfl (fun len_code => ?_)
  simp [LenOK, LenL, cU8, fU8, slU8] at len_code
  refine aw_lens (x := slU8 false more) 1 rfl (fun len_more => ?_)
  simp [LenOK, LenL, cU8, fU8, slU8] at len_more
  refine aR [] [0, 1] [] [slU8 false code, slU8 false more] [] [] hB trivial ?_
  refine aw_seq ?_
  by_cases h1 : 3000 < (code.length : Int)
  ·refine aw_r [(2, .dec true)] [4] [] [Bv true] [] [3000 < (code.length : Int)] hB ⟨h1, trivial⟩ ?_
   refine ae_then ?_
   refine aw_ret ?_
   refine ae_ret hB (Bv true) (by kernel_rfl) (.inl (by refine congrArg Bv ?_; simp [*])) rfl (fun _ => trivial)
  refine aw_r [(2, .dec false)] [4] [] [Bv (decide (3000 < (more.length : Int)))] [] [¬ (3000 < (code.length : Int))] hB ⟨h1, trivial⟩ ?_
  refine ae_then ?_
  refine aw_ret ?_
  refine ae_ret hB (Bv (decide (3000 < (more.length : Int)))) (by kernel_rfl) (.inl (by refine congrArg Bv ?_; simp [*])) rfl (fun _ => trivial)



def same {α : Type} [DecidableEq α] (x y : α) : Bool := decide (x = y)
theorem ext_at {α : Type} [Inhabited α] {xs ys : List α} (hl : xs.length = ys.length) (h : ∀ j : Nat, j < xs.length → at_ xs j = at_ ys j) : xs = ys := by
  apply List.ext_getElem hl
  intro i h1 h2
  rw [← at_eq h1, ← at_eq h2]
  exact h i h1


theorem at_mem {α : Type} [Inhabited α] {xs : List α} {i : Nat} (h : i < xs.length) : at_ xs i ∈ xs := by rw [at_eq h]; exact List.getElem_mem h


def allN (n : Nat) (p : Nat → Bool) : Bool := (List.range n).all p
def anyN (n : Nat) (p : Nat → Bool) : Bool := !(allN n fun j => !(p j))
theorem allN_iff {n : Nat} {p : Nat → Bool} : allN n p = true ↔ ∀ j, j < n → p j = true := by simp [allN, List.all_eq_true]
theorem allN_at {n : Nat} {p : Nat → Bool} (h : ∀ j, j < n → p j = true) : allN n p = true := allN_iff.2 h
theorem allN_get {n : Nat} {p : Nat → Bool} (h : allN n p = true) {k : Nat} (hk : k < n) : p k = true := allN_iff.1 h k hk
theorem allN_not {n : Nat} {p : Nat → Bool} {k : Nat} (hk : k < n) (h : p k = false) : allN n p = false := by
  rw [← Bool.not_eq_true, allN_iff]; intro h'; rw [h' k hk] at h; cases h
theorem anyN_not (n : Nat) (p : Nat → Bool) : anyN n (fun j => !(p j)) = !(allN n p) := by simp [anyN]
theorem anyN_at {n : Nat} {p : Nat → Bool} {k : Nat} (hk : k < n) (h : p k = true) : anyN n p = true := by
  unfold anyN; rw [allN_not hk (by simp [h])]; rfl
theorem anyN_none {n : Nat} {p : Nat → Bool} (h : ∀ j, j < n → p j = false) : anyN n p = false := by
  unfold anyN; rw [allN_at (fun j hj => by simp [h j hj])]; rfl
theorem anyN_iff {n : Nat} {p : Nat → Bool} : anyN n p = true ↔ ∃ j, j < n ∧ p j = true := by
  constructor
  · intro h
    apply Classical.byContradiction
    intro hn
    rw [anyN_none (fun j hj => by rw [← Bool.not_eq_true]; exact fun hp => hn ⟨j, hj, hp⟩)] at h
    cases h
  · rintro ⟨j, hj, hp⟩; exact anyN_at hj hp
theorem up_to {n : Int} {p : Nat → Prop} {i : Int} (hi : 0 ≤ i) (h : ∀ j : Nat, (j : Int) < i → p j) (hp : p i.toNat) : ∀ j : Nat, (j : Int) < i + 1 → p j := fun j hj => by
  by_cases e : j = i.toNat
  · subst e; exact hp
  · exact h j (by omega)


def okSrc (s : l00Src) : Prop := (∀ j, j < s.code.length → 0 ≤ at_ s.code j ∧ at_ s.code j ≤ 255) ∧ 0 ≤ s.atx ∧ s.code.length ≤ 4611686018427387904
theorem and_255 (a : Int) : 0 ≤ bitsI .and .u64 a 255 ∧ bitsI .and .u64 a 255 ≤ 255 := by
  obtain ⟨n, hn⟩ : ∃ n : Nat, n = (BitVec.ofInt 64 a &&& BitVec.ofInt 64 255).toNat := ⟨_, rfl⟩
  have h : n ≤ 255 := by rw [hn, BitVec.toNat_and]; exact Nat.and_le_right
  have e : bitsI .and .u64 a 255 = IntKind.u64.wrap (n : Int) := by rw [hn]; rfl
  have w : IntKind.u64.wrap (n : Int) = n := wrap_in (inR_u64 (by omega) (by omega))
  rw [e, w]; omega


-- spec.l00From
theorem l00From_ok (code : List Int) : ∃ (s' : l00Src), (s'.code = code ∧ s'.atx = 0) ∧ CallOK Tryz.prog 16 [slU8 false code] (lookO []) false (.ref 7001 0) (lookO [(7001, bxl00Src s')]) := by
  have hh : ∃ r : l00Src, ((r.code = code ∧ r.atx = 0) ∧ (True)) ∧ CallOK Tryz.prog 16 [slU8 false code] (lookO []) false (.ref 7001 0) (lookO [(7001, bxl00Src r)]) := by
    refine fn_okX (Φ := fun r : l00Src => (r.code = code ∧ r.atx = 0) ∧ (True)) [] (fun r => [(7001, bxl00Src r)]) (fn := Tryz.f16) (nt := 6) Tryz.func16 rfl rfl (args := [slU8 false code]) rfl (allcons (.inl ⟨rfl, tagU8 false _⟩) allnil) (res := fun r => .ref 7001 0) ?_
    refine xR [] [0] [] [slU8 false code] [] [] trivial ?_
    refine xR [(2, .new 7001)] [2] [7001] [.ref 7001 0] [some (.box [slU8 false code, I 0, .val (.int .u64 0)])] [] trivial ?_
    refine x_ret ?_
    refine xe_end (l00Src.mk code 0 0) (show ((l00Src.mk code 0 0).code = code ∧ (l00Src.mk code 0 0).atx = 0) ∧ (True) from ⟨(by first | rfl | (exact ⟨rfl, rfl⟩)), trivial⟩) (⟨.inl rfl, trivial⟩) (.ref 7001 0) (by kernel_rfl) (.inl rfl) (fun h => by cases h) (fun h => by cases h)
  obtain ⟨s', ⟨hh0, _⟩, hc⟩ := hh
  exact ⟨s', hh0, hc⟩



-- spec.l00Src).next
theorem next_ok (s : l00Src) (hs : okSrc s) (ha : s.atx ≤ 4000000000000000000) : ∃ (v : Int) (s' : l00Src), (0 ≤ v ∧ v ≤ 255) ∧ (okSrc s') ∧ (s'.code = s.code) ∧ (s.atx + 1 ≤ s'.atx ∧ s'.atx ≤ s.atx + 1) ∧ CallOK Tryz.prog 38 [.ref 7001 0] (lookO [(7001, bxl00Src s)]) true (I v) (lookO [(7001, bxl00Src s')]) := by
  have hs0 := hs.2.1
  have hs1 := hs.2.2
  have hh : ∃ r : Int × l00Src, ((0 ≤ r.1 ∧ r.1 ≤ 255) ∧ (okSrc r.2) ∧ (r.2.code = s.code) ∧ (s.atx + 1 ≤ r.2.atx ∧ r.2.atx ≤ s.atx + 1) ∧ (True)) ∧ CallOK Tryz.prog 38 [.ref 7001 0] (lookO [(7001, bxl00Src s)]) true (I r.1) (lookO [(7001, bxl00Src r.2)]) := by
    refine fn_okX (Φ := fun r : Int × l00Src => (0 ≤ r.1 ∧ r.1 ≤ 255) ∧ (okSrc r.2) ∧ (r.2.code = s.code) ∧ (s.atx + 1 ≤ r.2.atx ∧ r.2.atx ≤ s.atx + 1) ∧ (True)) [(7001, bxl00Src s)] (fun r => [(7001, bxl00Src r.2)]) (fn := Tryz.f38) (nt := 62) Tryz.func38 rfl rfl (args := [.ref 7001 0]) rfl (allcons (.inr trivial) allnil) (res := fun r => I r.1) ?_
    refine xR [] [0] [7001] [.ref 7001 0] [some (bxl00Src s)] [] trivial ?_
    refine xR [] [0, 3] [7001] [.ref 7001 0, I 0] [some (bxl00Src s)] [] trivial ?_
    refine x_seq ?_
    refine x_seq ?_
    by_cases h1 : s.atx < (s.code.length : Int)
    ·have hbt := hs.1 s.atx.toNat (by omega)
     refine x_r [(9, .dec true)] [0, 3, 13] [7001] [.ref 7001 0, I 0, Bv true] [some (bxl00Src s)] [s.atx < (s.code.length : Int)] ⟨h1, trivial⟩ ?_
     refine xe_then ?_
     refine x_true rfl ?_
     refine x_r [] [0, 3] [7001] [.ref 7001 0, I (at_ s.code s.atx.toNat)] [some (bxl00Src s)] [(0 : Int) ≤ s.atx ∧ s.atx < (s.code.length : Int), inR .i64 (at_ s.code s.atx.toNat)] ⟨⟨(by omega), (by omega)⟩, (inR_i64 (by omega) (by omega)), trivial⟩ ?_
     refine xe_then ?_
     refine xR [] [0, 3] [7001] [.ref 7001 0, I (at_ s.code s.atx.toNat)] [some (.box [slU8 false s.code, I (s.atx + 1), .val (.int .u64 s.seed)])] [inR .i64 (s.atx + 1)] ⟨(inR_i64 (by omega) (by omega)), trivial⟩ ?_
     refine xR [(5, .wrap), (8, .wrap), (9, .wrap)] [0, 3] [7001] [.ref 7001 0, I (at_ s.code s.atx.toNat)] [some (.box [slU8 false s.code, I (s.atx + 1), .val (.int .u64 (IntKind.u64.wrap ((IntKind.u64.wrap ((IntKind.u64.wrap (s.seed * 6364136223846793005)) + (at_ s.code s.atx.toNat))) + 1442695040888963407)))])] [inR .u64 (at_ s.code s.atx.toNat)] ⟨(inR_u64 (by omega) (by omega)), trivial⟩ ?_
     refine x_seq ?_
     refine x_seq ?_
     by_cases h2 : (s.atx + 1) ≤ (s.code.length : Int)
     ·refine x_r [(9, .dec true)] [0, 3, 53] [7001] [.ref 7001 0, I (at_ s.code s.atx.toNat), Bv true] [some (.box [slU8 false s.code, I (s.atx + 1), .val (.int .u64 (IntKind.u64.wrap ((IntKind.u64.wrap ((IntKind.u64.wrap (s.seed * 6364136223846793005)) + (at_ s.code s.atx.toNat))) + 1442695040888963407)))])] [(s.atx + 1) ≤ (s.code.length : Int)] ⟨h2, trivial⟩ ?_
      refine xe_then ?_
      refine x_true rfl ?_
      refine xR [] [2] [7001] [I (at_ s.code s.atx.toNat)] [some (.box [slU8 false s.code, I (s.atx + 1), .val (.int .u64 (IntKind.u64.wrap ((IntKind.u64.wrap ((IntKind.u64.wrap (s.seed * 6364136223846793005)) + (at_ s.code s.atx.toNat))) + 1442695040888963407)))])] [] trivial ?_
      refine x_ret ?_
      refine xe_ret_then ?_
      refine xe_end ((at_ s.code s.atx.toNat), (l00Src.mk s.code (s.atx + 1) (IntKind.u64.wrap ((IntKind.u64.wrap ((IntKind.u64.wrap (s.seed * 6364136223846793005)) + (at_ s.code s.atx.toNat))) + 1442695040888963407)))) (show (0 ≤ (at_ s.code s.atx.toNat) ∧ (at_ s.code s.atx.toNat) ≤ 255) ∧ (okSrc (l00Src.mk s.code (s.atx + 1) (IntKind.u64.wrap ((IntKind.u64.wrap ((IntKind.u64.wrap (s.seed * 6364136223846793005)) + (at_ s.code s.atx.toNat))) + 1442695040888963407)))) ∧ ((l00Src.mk s.code (s.atx + 1) (IntKind.u64.wrap ((IntKind.u64.wrap ((IntKind.u64.wrap (s.seed * 6364136223846793005)) + (at_ s.code s.atx.toNat))) + 1442695040888963407))).code = s.code) ∧ (s.atx + 1 ≤ (l00Src.mk s.code (s.atx + 1) (IntKind.u64.wrap ((IntKind.u64.wrap ((IntKind.u64.wrap (s.seed * 6364136223846793005)) + (at_ s.code s.atx.toNat))) + 1442695040888963407))).atx ∧ (l00Src.mk s.code (s.atx + 1) (IntKind.u64.wrap ((IntKind.u64.wrap ((IntKind.u64.wrap (s.seed * 6364136223846793005)) + (at_ s.code s.atx.toNat))) + 1442695040888963407))).atx ≤ s.atx + 1) ∧ (True) from ⟨(by first | omega | rfl | assumption | (dsimp only; first | omega | rfl | assumption) | (simp only [*]; done) | exact ⟨hs.1, (by dsimp only; omega), hs1⟩), (by first | omega | rfl | assumption | (dsimp only; first | omega | rfl | assumption) | (simp only [*]; done) | exact ⟨hs.1, (by dsimp only; omega), hs1⟩), (by first | omega | rfl | assumption | (dsimp only; first | omega | rfl | assumption) | (simp only [*]; done) | exact ⟨hs.1, (by dsimp only; omega), hs1⟩), (by first | omega | rfl | assumption | (dsimp only; first | omega | rfl | assumption) | (simp only [*]; done) | exact ⟨hs.1, (by dsimp only; omega), hs1⟩), trivial⟩) (⟨.inl rfl, trivial⟩) (I (at_ s.code s.atx.toNat)) (by kernel_rfl) (.inl rfl) (fun _ => rfl) (fun _ => trivial)
     refine x_r [(9, .dec false)] [0, 3, 53] [7001] [.ref 7001 0, I (at_ s.code s.atx.toNat), Bv false] [some (.box [slU8 false s.code, I (s.atx + 1), .val (.int .u64 (IntKind.u64.wrap ((IntKind.u64.wrap ((IntKind.u64.wrap (s.seed * 6364136223846793005)) + (at_ s.code s.atx.toNat))) + 1442695040888963407)))])] [¬ ((s.atx + 1) ≤ (s.code.length : Int))] ⟨h2, trivial⟩ ?_
     refine xe_then ?_
     refine x_false rfl ?_
     refine x_skip ?_
     refine xe_then ?_
     refine x_seq ?_
     have hb1 := and_255 ((IntKind.u64.wrap ((IntKind.u64.wrap ((IntKind.u64.wrap (s.seed * 6364136223846793005)) + (at_ s.code s.atx.toNat))) + 1442695040888963407)) / 1099511627776)
     refine x_r [] [2] [7001] [I (bitsI .and .u64 ((IntKind.u64.wrap ((IntKind.u64.wrap ((IntKind.u64.wrap (s.seed * 6364136223846793005)) + (at_ s.code s.atx.toNat))) + 1442695040888963407)) / 1099511627776) 255)] [some (.box [slU8 false s.code, I (s.atx + 1), .val (.int .u64 (IntKind.u64.wrap ((IntKind.u64.wrap ((IntKind.u64.wrap (s.seed * 6364136223846793005)) + (at_ s.code s.atx.toNat))) + 1442695040888963407)))])] [(0 : Int) ≤ 40 ∧ (40 : Int) ≤ ((IntKind.bits .u64 : Nat) : Int), inR .i64 (bitsI .and .u64 ((IntKind.u64.wrap ((IntKind.u64.wrap ((IntKind.u64.wrap (s.seed * 6364136223846793005)) + (at_ s.code s.atx.toNat))) + 1442695040888963407)) / 1099511627776) 255)] ⟨⟨(by decide), (by decide)⟩, (inR_i64 (by omega) (by omega)), trivial⟩ ?_
     refine xe_then ?_
     refine x_ret ?_
     refine xe_end ((bitsI .and .u64 ((IntKind.u64.wrap ((IntKind.u64.wrap ((IntKind.u64.wrap (s.seed * 6364136223846793005)) + (at_ s.code s.atx.toNat))) + 1442695040888963407)) / 1099511627776) 255), (l00Src.mk s.code (s.atx + 1) (IntKind.u64.wrap ((IntKind.u64.wrap ((IntKind.u64.wrap (s.seed * 6364136223846793005)) + (at_ s.code s.atx.toNat))) + 1442695040888963407)))) (show (0 ≤ (bitsI .and .u64 ((IntKind.u64.wrap ((IntKind.u64.wrap ((IntKind.u64.wrap (s.seed * 6364136223846793005)) + (at_ s.code s.atx.toNat))) + 1442695040888963407)) / 1099511627776) 255) ∧ (bitsI .and .u64 ((IntKind.u64.wrap ((IntKind.u64.wrap ((IntKind.u64.wrap (s.seed * 6364136223846793005)) + (at_ s.code s.atx.toNat))) + 1442695040888963407)) / 1099511627776) 255) ≤ 255) ∧ (okSrc (l00Src.mk s.code (s.atx + 1) (IntKind.u64.wrap ((IntKind.u64.wrap ((IntKind.u64.wrap (s.seed * 6364136223846793005)) + (at_ s.code s.atx.toNat))) + 1442695040888963407)))) ∧ ((l00Src.mk s.code (s.atx + 1) (IntKind.u64.wrap ((IntKind.u64.wrap ((IntKind.u64.wrap (s.seed * 6364136223846793005)) + (at_ s.code s.atx.toNat))) + 1442695040888963407))).code = s.code) ∧ (s.atx + 1 ≤ (l00Src.mk s.code (s.atx + 1) (IntKind.u64.wrap ((IntKind.u64.wrap ((IntKind.u64.wrap (s.seed * 6364136223846793005)) + (at_ s.code s.atx.toNat))) + 1442695040888963407))).atx ∧ (l00Src.mk s.code (s.atx + 1) (IntKind.u64.wrap ((IntKind.u64.wrap ((IntKind.u64.wrap (s.seed * 6364136223846793005)) + (at_ s.code s.atx.toNat))) + 1442695040888963407))).atx ≤ s.atx + 1) ∧ (True) from ⟨(by first | omega | rfl | assumption | (dsimp only; first | omega | rfl | assumption) | (simp only [*]; done) | exact ⟨hs.1, (by dsimp only; omega), hs1⟩), (by first | omega | rfl | assumption | (dsimp only; first | omega | rfl | assumption) | (simp only [*]; done) | exact ⟨hs.1, (by dsimp only; omega), hs1⟩), (by first | omega | rfl | assumption | (dsimp only; first | omega | rfl | assumption) | (simp only [*]; done) | exact ⟨hs.1, (by dsimp only; omega), hs1⟩), (by first | omega | rfl | assumption | (dsimp only; first | omega | rfl | assumption) | (simp only [*]; done) | exact ⟨hs.1, (by dsimp only; omega), hs1⟩), trivial⟩) (⟨.inl rfl, trivial⟩) (I (bitsI .and .u64 ((IntKind.u64.wrap ((IntKind.u64.wrap ((IntKind.u64.wrap (s.seed * 6364136223846793005)) + (at_ s.code s.atx.toNat))) + 1442695040888963407)) / 1099511627776) 255)) (by kernel_rfl) (.inl rfl) (fun _ => rfl) (fun _ => trivial)
    refine x_r [(9, .dec false)] [0, 3, 13] [7001] [.ref 7001 0, I 0, Bv false] [some (bxl00Src s)] [¬ (s.atx < (s.code.length : Int))] ⟨h1, trivial⟩ ?_
    refine xe_then ?_
    refine x_false rfl ?_
    refine x_skip ?_
    refine xe_then ?_
    refine xR [] [0, 3] [7001] [.ref 7001 0, I 0] [some (.box [slU8 false s.code, I (s.atx + 1), .val (.int .u64 s.seed)])] [inR .i64 (s.atx + 1)] ⟨(inR_i64 (by omega) (by omega)), trivial⟩ ?_
    refine xR [(5, .wrap), (8, .wrap), (9, .wrap)] [0, 3] [7001] [.ref 7001 0, I 0] [some (.box [slU8 false s.code, I (s.atx + 1), .val (.int .u64 (IntKind.u64.wrap ((IntKind.u64.wrap ((IntKind.u64.wrap (s.seed * 6364136223846793005)) + 0)) + 1442695040888963407)))])] [inR .u64 0] ⟨(inR_u64 (by omega) (by omega)), trivial⟩ ?_
    refine x_seq ?_
    refine x_seq ?_
    by_cases h3 : (s.atx + 1) ≤ (s.code.length : Int)
    ·refine x_r [(9, .dec true)] [0, 3, 53] [7001] [.ref 7001 0, I 0, Bv true] [some (.box [slU8 false s.code, I (s.atx + 1), .val (.int .u64 (IntKind.u64.wrap ((IntKind.u64.wrap ((IntKind.u64.wrap (s.seed * 6364136223846793005)) + 0)) + 1442695040888963407)))])] [(s.atx + 1) ≤ (s.code.length : Int)] ⟨h3, trivial⟩ ?_
     refine xe_then ?_
     refine x_true rfl ?_
     refine xR [] [2] [7001] [I 0] [some (.box [slU8 false s.code, I (s.atx + 1), .val (.int .u64 (IntKind.u64.wrap ((IntKind.u64.wrap ((IntKind.u64.wrap (s.seed * 6364136223846793005)) + 0)) + 1442695040888963407)))])] [] trivial ?_
     refine x_ret ?_
     refine xe_ret_then ?_
     refine xe_end (0, (l00Src.mk s.code (s.atx + 1) (IntKind.u64.wrap ((IntKind.u64.wrap ((IntKind.u64.wrap (s.seed * 6364136223846793005)) + 0)) + 1442695040888963407)))) (show (0 ≤ 0 ∧ 0 ≤ 255) ∧ (okSrc (l00Src.mk s.code (s.atx + 1) (IntKind.u64.wrap ((IntKind.u64.wrap ((IntKind.u64.wrap (s.seed * 6364136223846793005)) + 0)) + 1442695040888963407)))) ∧ ((l00Src.mk s.code (s.atx + 1) (IntKind.u64.wrap ((IntKind.u64.wrap ((IntKind.u64.wrap (s.seed * 6364136223846793005)) + 0)) + 1442695040888963407))).code = s.code) ∧ (s.atx + 1 ≤ (l00Src.mk s.code (s.atx + 1) (IntKind.u64.wrap ((IntKind.u64.wrap ((IntKind.u64.wrap (s.seed * 6364136223846793005)) + 0)) + 1442695040888963407))).atx ∧ (l00Src.mk s.code (s.atx + 1) (IntKind.u64.wrap ((IntKind.u64.wrap ((IntKind.u64.wrap (s.seed * 6364136223846793005)) + 0)) + 1442695040888963407))).atx ≤ s.atx + 1) ∧ (True) from ⟨(by first | omega | rfl | assumption | (dsimp only; first | omega | rfl | assumption) | (simp only [*]; done) | exact ⟨hs.1, (by dsimp only; omega), hs1⟩), (by first | omega | rfl | assumption | (dsimp only; first | omega | rfl | assumption) | (simp only [*]; done) | exact ⟨hs.1, (by dsimp only; omega), hs1⟩), (by first | omega | rfl | assumption | (dsimp only; first | omega | rfl | assumption) | (simp only [*]; done) | exact ⟨hs.1, (by dsimp only; omega), hs1⟩), (by first | omega | rfl | assumption | (dsimp only; first | omega | rfl | assumption) | (simp only [*]; done) | exact ⟨hs.1, (by dsimp only; omega), hs1⟩), trivial⟩) (⟨.inl rfl, trivial⟩) (I 0) (by kernel_rfl) (.inl rfl) (fun _ => rfl) (fun _ => trivial)
    refine x_r [(9, .dec false)] [0, 3, 53] [7001] [.ref 7001 0, I 0, Bv false] [some (.box [slU8 false s.code, I (s.atx + 1), .val (.int .u64 (IntKind.u64.wrap ((IntKind.u64.wrap ((IntKind.u64.wrap (s.seed * 6364136223846793005)) + 0)) + 1442695040888963407)))])] [¬ ((s.atx + 1) ≤ (s.code.length : Int))] ⟨h3, trivial⟩ ?_
    refine xe_then ?_
    refine x_false rfl ?_
    refine x_skip ?_
    refine xe_then ?_
    refine x_seq ?_
    have hb2 := and_255 ((IntKind.u64.wrap ((IntKind.u64.wrap ((IntKind.u64.wrap (s.seed * 6364136223846793005)) + 0)) + 1442695040888963407)) / 1099511627776)
    refine x_r [] [2] [7001] [I (bitsI .and .u64 ((IntKind.u64.wrap ((IntKind.u64.wrap ((IntKind.u64.wrap (s.seed * 6364136223846793005)) + 0)) + 1442695040888963407)) / 1099511627776) 255)] [some (.box [slU8 false s.code, I (s.atx + 1), .val (.int .u64 (IntKind.u64.wrap ((IntKind.u64.wrap ((IntKind.u64.wrap (s.seed * 6364136223846793005)) + 0)) + 1442695040888963407)))])] [(0 : Int) ≤ 40 ∧ (40 : Int) ≤ ((IntKind.bits .u64 : Nat) : Int), inR .i64 (bitsI .and .u64 ((IntKind.u64.wrap ((IntKind.u64.wrap ((IntKind.u64.wrap (s.seed * 6364136223846793005)) + 0)) + 1442695040888963407)) / 1099511627776) 255)] ⟨⟨(by decide), (by decide)⟩, (inR_i64 (by omega) (by omega)), trivial⟩ ?_
    refine xe_then ?_
    refine x_ret ?_
    refine xe_end ((bitsI .and .u64 ((IntKind.u64.wrap ((IntKind.u64.wrap ((IntKind.u64.wrap (s.seed * 6364136223846793005)) + 0)) + 1442695040888963407)) / 1099511627776) 255), (l00Src.mk s.code (s.atx + 1) (IntKind.u64.wrap ((IntKind.u64.wrap ((IntKind.u64.wrap (s.seed * 6364136223846793005)) + 0)) + 1442695040888963407)))) (show (0 ≤ (bitsI .and .u64 ((IntKind.u64.wrap ((IntKind.u64.wrap ((IntKind.u64.wrap (s.seed * 6364136223846793005)) + 0)) + 1442695040888963407)) / 1099511627776) 255) ∧ (bitsI .and .u64 ((IntKind.u64.wrap ((IntKind.u64.wrap ((IntKind.u64.wrap (s.seed * 6364136223846793005)) + 0)) + 1442695040888963407)) / 1099511627776) 255) ≤ 255) ∧ (okSrc (l00Src.mk s.code (s.atx + 1) (IntKind.u64.wrap ((IntKind.u64.wrap ((IntKind.u64.wrap (s.seed * 6364136223846793005)) + 0)) + 1442695040888963407)))) ∧ ((l00Src.mk s.code (s.atx + 1) (IntKind.u64.wrap ((IntKind.u64.wrap ((IntKind.u64.wrap (s.seed * 6364136223846793005)) + 0)) + 1442695040888963407))).code = s.code) ∧ (s.atx + 1 ≤ (l00Src.mk s.code (s.atx + 1) (IntKind.u64.wrap ((IntKind.u64.wrap ((IntKind.u64.wrap (s.seed * 6364136223846793005)) + 0)) + 1442695040888963407))).atx ∧ (l00Src.mk s.code (s.atx + 1) (IntKind.u64.wrap ((IntKind.u64.wrap ((IntKind.u64.wrap (s.seed * 6364136223846793005)) + 0)) + 1442695040888963407))).atx ≤ s.atx + 1) ∧ (True) from ⟨(by first | omega | rfl | assumption | (dsimp only; first | omega | rfl | assumption) | (simp only [*]; done) | exact ⟨hs.1, (by dsimp only; omega), hs1⟩), (by first | omega | rfl | assumption | (dsimp only; first | omega | rfl | assumption) | (simp only [*]; done) | exact ⟨hs.1, (by dsimp only; omega), hs1⟩), (by first | omega | rfl | assumption | (dsimp only; first | omega | rfl | assumption) | (simp only [*]; done) | exact ⟨hs.1, (by dsimp only; omega), hs1⟩), (by first | omega | rfl | assumption | (dsimp only; first | omega | rfl | assumption) | (simp only [*]; done) | exact ⟨hs.1, (by dsimp only; omega), hs1⟩), trivial⟩) (⟨.inl rfl, trivial⟩) (I (bitsI .and .u64 ((IntKind.u64.wrap ((IntKind.u64.wrap ((IntKind.u64.wrap (s.seed * 6364136223846793005)) + 0)) + 1442695040888963407)) / 1099511627776) 255)) (by kernel_rfl) (.inl rfl) (fun _ => rfl) (fun _ => trivial)
  obtain ⟨⟨v, s'⟩, ⟨hh0, hh1, hh2, hh3, _⟩, hc⟩ := hh
  exact ⟨v, s', hh0, hh1, hh2, hh3, hc⟩



-- spec.l00Src).pick
theorem pick_ok (s : l00Src) (n : Int) (hs : okSrc s) (ha : s.atx ≤ 3999999999999999990) : ∃ (v : Int) (s' : l00Src), (0 ≤ v ∧ (v < n ∨ v = 0)) ∧ (okSrc s') ∧ (s'.code = s.code) ∧ (s.atx + 0 ≤ s'.atx ∧ s'.atx ≤ s.atx + 2) ∧ CallOK Tryz.prog 17 [.ref 7001 0, I n] (lookO [(7001, bxl00Src s)]) true (I v) (lookO [(7001, bxl00Src s')]) := by
  have hs0 := hs.2.1
  have hs1 := hs.2.2
  have hh : ∃ r : Int × l00Src, ((0 ≤ r.1 ∧ (r.1 < n ∨ r.1 = 0)) ∧ (okSrc r.2) ∧ (r.2.code = s.code) ∧ (s.atx + 0 ≤ r.2.atx ∧ r.2.atx ≤ s.atx + 2) ∧ (True)) ∧ CallOK Tryz.prog 17 [.ref 7001 0, I n] (lookO [(7001, bxl00Src s)]) true (I r.1) (lookO [(7001, bxl00Src r.2)]) := by
    refine fn_okX (Φ := fun r : Int × l00Src => (0 ≤ r.1 ∧ (r.1 < n ∨ r.1 = 0)) ∧ (okSrc r.2) ∧ (r.2.code = s.code) ∧ (s.atx + 0 ≤ r.2.atx ∧ r.2.atx ≤ s.atx + 2) ∧ (True)) [(7001, bxl00Src s)] (fun r => [(7001, bxl00Src r.2)]) (fn := Tryz.f17) (nt := 20) Tryz.func17 rfl rfl (args := [.ref 7001 0, I n]) rfl (allcons (.inr trivial) (allcons (.inl ⟨rfl, trivial⟩) allnil)) (res := fun r => I r.1) ?_
    refine xR [] [0, 1] [7001] [.ref 7001 0, I n] [some (bxl00Src s)] [] trivial ?_
    refine x_seq ?_
    refine x_seq ?_
    by_cases h1 : n ≤ 1
    ·refine x_r [(1, .dec true)] [0, 1, 7] [7001] [.ref 7001 0, I n, Bv true] [some (bxl00Src s)] [n ≤ 1] ⟨h1, trivial⟩ ?_
     refine xe_then ?_
     refine x_true rfl ?_
     refine xR [] [4] [7001] [I 0] [some (bxl00Src s)] [] trivial ?_
     refine x_ret ?_
     refine xe_ret_then ?_
     refine xe_end (0, s) (show (0 ≤ 0 ∧ (0 < n ∨ 0 = 0)) ∧ (okSrc s) ∧ (s.code = s.code) ∧ (s.atx + 0 ≤ s.atx ∧ s.atx ≤ s.atx + 2) ∧ (True) from ⟨(by first | omega | rfl | assumption | (dsimp only; first | omega | rfl | assumption) | (simp only [*]; done) | exact ⟨Int.emod_nonneg _ (by omega), .inl (Int.emod_lt_of_pos _ (by omega))⟩), (by first | omega | rfl | assumption | (dsimp only; first | omega | rfl | assumption) | (simp only [*]; done) | exact ⟨Int.emod_nonneg _ (by omega), .inl (Int.emod_lt_of_pos _ (by omega))⟩), (by first | omega | rfl | assumption | (dsimp only; first | omega | rfl | assumption) | (simp only [*]; done) | exact ⟨Int.emod_nonneg _ (by omega), .inl (Int.emod_lt_of_pos _ (by omega))⟩), (by first | omega | rfl | assumption | (dsimp only; first | omega | rfl | assumption) | (simp only [*]; done) | exact ⟨Int.emod_nonneg _ (by omega), .inl (Int.emod_lt_of_pos _ (by omega))⟩), trivial⟩) (⟨.inl rfl, trivial⟩) (I 0) (by kernel_rfl) (.inl rfl) (fun _ => rfl) (fun _ => trivial)
    refine x_r [(1, .dec false)] [0, 1, 7] [7001] [.ref 7001 0, I n, Bv false] [some (bxl00Src s)] [¬ (n ≤ 1)] ⟨h1, trivial⟩ ?_
    refine xe_then ?_
    refine x_false rfl ?_
    refine x_skip ?_
    refine xe_then ?_
    refine x_seq ?_
    obtain ⟨v_1, s'_1, hx1_0, hx1_1, hx1_2, hx1_3, hc1⟩ := next_ok s (by first | assumption | (simp only [okSrc] at *; simp_all; done)) (by omega)
    refine x_r [(1, .lend [(7001, bxl00Src s, bxl00Src s'_1)] [] [(true, .any)] true (I v_1))] [0, 1, 5] [7001] [.ref 7001 0, I n, I v_1] [some (bxl00Src s'_1)] [CallOK Tryz.prog 38 [.ref 7001 0] (lookO [(7001, bxl00Src s)]) true (I v_1) (lookO [(7001, bxl00Src s'_1)]) ∧ (((bxl00Src s : Ob) = bxl00Src s ∨ obLe noOb true (bxl00Src s) (bxl00Src s)) ∧ taggedO false (bxl00Src s)) ∧ True] ⟨⟨hc1, ⟨.inl rfl, (by simp [taggedO, taggedL, tagged, tagU8])⟩, trivial⟩, trivial⟩ ?_
    refine xe_then ?_
    refine x_seq ?_
    refine x_seq ?_
    by_cases h2 : 200 < n
    ·refine x_r [(1, .dec true)] [0, 1, 5, 11] [7001] [.ref 7001 0, I n, I v_1, Bv true] [some (bxl00Src s'_1)] [200 < n] ⟨h2, trivial⟩ ?_
     refine xe_then ?_
     refine x_true rfl ?_
     obtain ⟨v_2, s'_2, hx2_0, hx2_1, hx2_2, hx2_3, hc2⟩ := next_ok s'_1 (by first | assumption | (simp only [okSrc] at *; simp_all; done)) (by omega)
     refine x_r [(3, .lend [(7001, bxl00Src s'_1, bxl00Src s'_2)] [] [(true, .any)] true (I v_2))] [1, 5] [7001] [I n, I ((v_1 * 256) + v_2)] [some (bxl00Src s'_2)] [inR .i64 (v_1 * 256), CallOK Tryz.prog 38 [.ref 7001 0] (lookO [(7001, bxl00Src s'_1)]) true (I v_2) (lookO [(7001, bxl00Src s'_2)]) ∧ (((bxl00Src s'_1 : Ob) = bxl00Src s'_1 ∨ obLe noOb true (bxl00Src s'_1) (bxl00Src s'_1)) ∧ taggedO false (bxl00Src s'_1)) ∧ True, inR .i64 ((v_1 * 256) + v_2)] ⟨(inR_i64 (by omega) (by omega)), ⟨hc2, ⟨.inl rfl, (by simp [taggedO, taggedL, tagged, tagU8])⟩, trivial⟩, (inR_i64 (by omega) (by omega)), trivial⟩ ?_
     refine xe_then ?_
     refine xR [(2, .nn)] [4] [7001] [I (((v_1 * 256) + v_2) % n)] [some (bxl00Src s'_2)] [(0 : Int) ≤ ((v_1 * 256) + v_2) ∧ (0 : Int) < n] ⟨⟨(by omega), (by omega)⟩, trivial⟩ ?_
     refine x_ret ?_
     refine xe_end ((((v_1 * 256) + v_2) % n), s'_2) (show (0 ≤ (((v_1 * 256) + v_2) % n) ∧ ((((v_1 * 256) + v_2) % n) < n ∨ (((v_1 * 256) + v_2) % n) = 0)) ∧ (okSrc s'_2) ∧ (s'_2.code = s.code) ∧ (s.atx + 0 ≤ s'_2.atx ∧ s'_2.atx ≤ s.atx + 2) ∧ (True) from ⟨(by first | omega | rfl | assumption | (dsimp only; first | omega | rfl | assumption) | (simp only [*]; done) | exact ⟨Int.emod_nonneg _ (by omega), .inl (Int.emod_lt_of_pos _ (by omega))⟩), (by first | omega | rfl | assumption | (dsimp only; first | omega | rfl | assumption) | (simp only [*]; done) | exact ⟨Int.emod_nonneg _ (by omega), .inl (Int.emod_lt_of_pos _ (by omega))⟩), (by first | omega | rfl | assumption | (dsimp only; first | omega | rfl | assumption) | (simp only [*]; done) | exact ⟨Int.emod_nonneg _ (by omega), .inl (Int.emod_lt_of_pos _ (by omega))⟩), (by first | omega | rfl | assumption | (dsimp only; first | omega | rfl | assumption) | (simp only [*]; done) | exact ⟨Int.emod_nonneg _ (by omega), .inl (Int.emod_lt_of_pos _ (by omega))⟩), trivial⟩) (⟨.inl rfl, trivial⟩) (I (((v_1 * 256) + v_2) % n)) (by kernel_rfl) (.inl rfl) (fun _ => rfl) (fun _ => trivial)
    refine x_r [(1, .dec false)] [0, 1, 5, 11] [7001] [.ref 7001 0, I n, I v_1, Bv false] [some (bxl00Src s'_1)] [¬ (200 < n)] ⟨h2, trivial⟩ ?_
    refine xe_then ?_
    refine x_false rfl ?_
    refine x_skip ?_
    refine xe_then ?_
    refine xR [(2, .nn)] [4] [7001] [I (v_1 % n)] [some (bxl00Src s'_1)] [(0 : Int) ≤ v_1 ∧ (0 : Int) < n] ⟨⟨(by omega), (by omega)⟩, trivial⟩ ?_
    refine x_ret ?_
    refine xe_end ((v_1 % n), s'_1) (show (0 ≤ (v_1 % n) ∧ ((v_1 % n) < n ∨ (v_1 % n) = 0)) ∧ (okSrc s'_1) ∧ (s'_1.code = s.code) ∧ (s.atx + 0 ≤ s'_1.atx ∧ s'_1.atx ≤ s.atx + 2) ∧ (True) from ⟨(by first | omega | rfl | assumption | (dsimp only; first | omega | rfl | assumption) | (simp only [*]; done) | exact ⟨Int.emod_nonneg _ (by omega), .inl (Int.emod_lt_of_pos _ (by omega))⟩), (by first | omega | rfl | assumption | (dsimp only; first | omega | rfl | assumption) | (simp only [*]; done) | exact ⟨Int.emod_nonneg _ (by omega), .inl (Int.emod_lt_of_pos _ (by omega))⟩), (by first | omega | rfl | assumption | (dsimp only; first | omega | rfl | assumption) | (simp only [*]; done) | exact ⟨Int.emod_nonneg _ (by omega), .inl (Int.emod_lt_of_pos _ (by omega))⟩), (by first | omega | rfl | assumption | (dsimp only; first | omega | rfl | assumption) | (simp only [*]; done) | exact ⟨Int.emod_nonneg _ (by omega), .inl (Int.emod_lt_of_pos _ (by omega))⟩), trivial⟩) (⟨.inl rfl, trivial⟩) (I (v_1 % n)) (by kernel_rfl) (.inl rfl) (fun _ => rfl) (fun _ => trivial)
  obtain ⟨⟨v, s'⟩, ⟨hh0, hh1, hh2, hh3, _⟩, hc⟩ := hh
  exact ⟨v, s', hh0, hh1, hh2, hh3, hc⟩



-- spec.l00Min
theorem l00Min_ok (a : Int) (b : Int) : Con Tryz.prog 119 [I a, I b] true (I (min a b)) := by
  refine fn_ok (fn := Tryz.f119) (nt := 10) Tryz.func119 rfl rfl rfl rfl (by simp [taggedL, tagged]) fun B hB => ?_
  refine aR [] [0, 1] [] [I a, I b] [] [] hB trivial ?_
  refine aw_seq ?_
  refine aw_seq ?_
  by_cases h1 : a < b
  ·refine aw_r [(2, .dec true)] [0, 1, 7] [] [I a, I b, Bv true] [] [a < b] hB ⟨h1, trivial⟩ ?_
   refine ae_then ?_
   refine aw_true rfl ?_
   refine aR [] [4] [] [I a] [] [] hB trivial ?_
   refine aw_ret ?_
   refine ae_ret_then ?_
   refine ae_ret hB (I a) (by kernel_rfl) (.inl (by refine congrArg I ?_; omega)) rfl (fun _ => trivial)
  refine aw_r [(2, .dec false)] [0, 1, 7] [] [I a, I b, Bv false] [] [¬ (a < b)] hB ⟨h1, trivial⟩ ?_
  refine ae_then ?_
  refine aw_false rfl ?_
  refine aw_skip ?_
  refine ae_then ?_
  refine aR [] [4] [] [I b] [] [] hB trivial ?_
  refine aw_ret ?_
  refine ae_ret hB (I b) (by kernel_rfl) (.inl (by refine congrArg I ?_; omega)) rfl (fun _ => trivial)



-- spec.l00Max
theorem l00Max_ok (a : Int) (b : Int) : Con Tryz.prog 120 [I a, I b] true (I (max a b)) := by
  refine fn_ok (fn := Tryz.f120) (nt := 10) Tryz.func120 rfl rfl rfl rfl (by simp [taggedL, tagged]) fun B hB => ?_
  refine aR [] [0, 1] [] [I a, I b] [] [] hB trivial ?_
  refine aw_seq ?_
  refine aw_seq ?_
  by_cases h1 : b < a
  ·refine aw_r [(2, .dec true)] [0, 1, 7] [] [I a, I b, Bv true] [] [b < a] hB ⟨h1, trivial⟩ ?_
   refine ae_then ?_
   refine aw_true rfl ?_
   refine aR [] [4] [] [I a] [] [] hB trivial ?_
   refine aw_ret ?_
   refine ae_ret_then ?_
   refine ae_ret hB (I a) (by kernel_rfl) (.inl (by refine congrArg I ?_; omega)) rfl (fun _ => trivial)
  refine aw_r [(2, .dec false)] [0, 1, 7] [] [I a, I b, Bv false] [] [¬ (b < a)] hB ⟨h1, trivial⟩ ?_
  refine ae_then ?_
  refine aw_false rfl ?_
  refine aw_skip ?_
  refine ae_then ?_
  refine aR [] [4] [] [I b] [] [] hB trivial ?_
  refine aw_ret ?_
  refine ae_ret hB (I b) (by kernel_rfl) (.inl (by refine congrArg I ?_; omega)) rfl (fun _ => trivial)



-- spec.l00Src).one
theorem one_ok (s : l00Src) (n : Int) (hs : okSrc s) (ha : s.atx ≤ 3999999999999999980) : ∃ (v : Bool) (s' : l00Src), (okSrc s') ∧ (s'.code = s.code) ∧ (s.atx + 0 ≤ s'.atx ∧ s'.atx ≤ s.atx + 2) ∧ CallOK Tryz.prog 40 [.ref 7001 0, I n] (lookO [(7001, bxl00Src s)]) true (Bv v) (lookO [(7001, bxl00Src s')]) := by
  have hh : ∃ r : Bool × l00Src, ((okSrc r.2) ∧ (r.2.code = s.code) ∧ (s.atx + 0 ≤ r.2.atx ∧ r.2.atx ≤ s.atx + 2) ∧ (True)) ∧ CallOK Tryz.prog 40 [.ref 7001 0, I n] (lookO [(7001, bxl00Src s)]) true (Bv r.1) (lookO [(7001, bxl00Src r.2)]) := by
    refine fn_okX (Φ := fun r : Bool × l00Src => (okSrc r.2) ∧ (r.2.code = s.code) ∧ (s.atx + 0 ≤ r.2.atx ∧ r.2.atx ≤ s.atx + 2) ∧ (True)) [(7001, bxl00Src s)] (fun r => [(7001, bxl00Src r.2)]) (fn := Tryz.f40) (nt := 9) Tryz.func40 rfl rfl (args := [.ref 7001 0, I n]) rfl (allcons (.inr trivial) (allcons (.inl ⟨rfl, trivial⟩) allnil)) (res := fun r => Bv r.1) ?_
    refine xR [] [0, 1] [7001] [.ref 7001 0, I n] [some (bxl00Src s)] [] trivial ?_
    refine x_seq ?_
    obtain ⟨v_1, s'_1, hx1_0, hx1_1, hx1_2, hx1_3, hc1⟩ := pick_ok s n (by first | assumption | (simp only [okSrc] at *; simp_all; done)) (by omega)
    refine x_r [(2, .lend [(7001, bxl00Src s, bxl00Src s'_1)] [] [(true, .any), (true, .any)] true (I v_1))] [4] [7001] [Bv (decide (v_1 = 0))] [some (bxl00Src s'_1)] [CallOK Tryz.prog 17 [.ref 7001 0, I n] (lookO [(7001, bxl00Src s)]) true (I v_1) (lookO [(7001, bxl00Src s'_1)]) ∧ (((bxl00Src s : Ob) = bxl00Src s ∨ obLe noOb true (bxl00Src s) (bxl00Src s)) ∧ taggedO false (bxl00Src s)) ∧ True] ⟨⟨hc1, ⟨.inl rfl, (by simp [taggedO, taggedL, tagged, tagU8])⟩, trivial⟩, trivial⟩ ?_
    refine xe_then ?_
    refine x_ret ?_
    refine xe_end (decide (v_1 = 0), s'_1) (show (okSrc s'_1) ∧ (s'_1.code = s.code) ∧ (s.atx + 0 ≤ s'_1.atx ∧ s'_1.atx ≤ s.atx + 2) ∧ (True) from ⟨(by first | omega | rfl | assumption | (dsimp only; first | omega | rfl | assumption) | (simp only [*]; done) | (simp_all; done)), (by first | omega | rfl | assumption | (dsimp only; first | omega | rfl | assumption) | (simp only [*]; done) | (simp_all; done)), (by first | omega | rfl | assumption | (dsimp only; first | omega | rfl | assumption) | (simp only [*]; done) | (simp_all; done)), trivial⟩) (⟨.inl rfl, trivial⟩) (Bv (decide (v_1 = 0))) (by kernel_rfl) (.inl rfl) (fun _ => rfl) (fun _ => trivial)
  obtain ⟨⟨v, s'⟩, ⟨hh0, hh1, hh2, _⟩, hc⟩ := hh
  exact ⟨v, s', hh0, hh1, hh2, hc⟩



def inB (a l h : Int) : Bool := decide (l ≤ a ∧ a ≤ h)
theorem inB_iff {a l h : Int} : inB a l h = true ↔ l ≤ a ∧ a ≤ h := by simp [inB]
theorem bAt_bd (s : ByteArray) (i : Nat) : 0 ≤ bAt s i ∧ bAt s i ≤ 255 := by
  unfold bAt
  have := (s.data.toList.getD i 0).toNat_lt
  omega


def okP (p : Point) : Bool := inB p.X 0 4095 && (inB p.Y 0 4095 && inB p.T 0 3600000)
theorem okP_iff {p : Point} : okP p = true ↔ (0 ≤ p.X ∧ p.X ≤ 4095) ∧ (0 ≤ p.Y ∧ p.Y ≤ 4095) ∧ (0 ≤ p.T ∧ p.T ≤ 3600000) := by simp [okP, inB, and_assoc]
def okPt (xs : List Point) (j : Nat) : Bool := okP (at_ xs j) && (decide (j = 0) || decide ((at_ xs (j - 1)).T < (at_ xs j).T))
def okStroke' (s : Stroke) : Bool := decide (1 ≤ (s.Points.length : Int) ∧ (s.Points.length : Int) ≤ 60) && allN s.Points.length (okPt s.Points)
theorem okPt_no {xs : List Point} {i : Int} (hi : 0 < i) (h : (at_ xs i.toNat).T ≤ (at_ xs (i - 1).toNat).T) : okPt xs i.toNat = false := by
  have e : (i - 1).toNat = i.toNat - 1 := by omega
  rw [e] at h
  have : ¬ i.toNat = 0 := by omega
  simp [okPt, this]; intro _; omega
theorem okPt_bad {xs : List Point} {j : Nat} (h : okP (at_ xs j) = false) : okPt xs j = false := by simp [okPt, h]
theorem okPt_yes {xs : List Point} {i : Int} (h1 : okP (at_ xs i.toNat) = true) (hi : 0 < i) (h : ¬ (at_ xs i.toNat).T ≤ (at_ xs (i - 1).toNat).T) : okPt xs i.toNat = true := by
  have e : (i - 1).toNat = i.toNat - 1 := by omega
  rw [e] at h
  simp [okPt, h1]; right; omega
theorem okPt_zero {xs : List Point} {i : Int} (h1 : okP (at_ xs i.toNat) = true) (h0 : 0 ≤ i) (hi : ¬ 0 < i) : okPt xs i.toNat = true := by
  have : i.toNat = 0 := by omega
  simp [okPt, this] at h1 ⊢; exact h1
theorem okS_at {s : Stroke} (h : okStroke' s = true) {j : Nat} (hj : j < s.Points.length) : okP (at_ s.Points j) = true := by
  simp only [okStroke', Bool.and_eq_true] at h
  have := allN_get h.2 hj
  simp only [okPt, Bool.and_eq_true] at this
  exact this.1
theorem okS_len {s : Stroke} (h : okStroke' s = true) : 1 ≤ (s.Points.length : Int) ∧ (s.Points.length : Int) ≤ 60 := by
  simp only [okStroke', Bool.and_eq_true, decide_eq_true_eq] at h
  exact h.1


def lastT (s : Stroke) : Int := (at_ s.Points (s.Points.length - 1)).T
def okSA (xs : List Stroke) (j : Nat) : Bool := okStroke' (at_ xs j) && (decide (j = 0) || decide (lastT (at_ xs (j - 1)) < (at_ (at_ xs j).Points 0).T))
def okInk' (x : Ink) : Bool := decide ((x.Strokes.length : Int) ≤ 16) && allN x.Strokes.length (okSA x.Strokes)
theorem okSA_bad {xs : List Stroke} {j : Nat} (h : okStroke' (at_ xs j) = false) : okSA xs j = false := by simp [okSA, h]
theorem okSA_no {xs : List Stroke} {i : Int} (hi : 0 < i) (h : (at_ (at_ xs i.toNat).Points 0).T ≤ (at_ (at_ xs (i - 1).toNat).Points ((at_ xs (i - 1).toNat).Points.length - 1)).T) : okSA xs i.toNat = false := by
  have e : (i - 1).toNat = i.toNat - 1 := by omega
  rw [e] at h
  have : ¬ i.toNat = 0 := by omega
  unfold okSA lastT; simp [this]; intro _; omega
theorem okSA_yes {xs : List Stroke} {i : Int} (h1 : okStroke' (at_ xs i.toNat) = true) (hi : 0 < i) (h : ¬ (at_ (at_ xs i.toNat).Points 0).T ≤ (at_ (at_ xs (i - 1).toNat).Points ((at_ xs (i - 1).toNat).Points.length - 1)).T) : okSA xs i.toNat = true := by
  have e : (i - 1).toNat = i.toNat - 1 := by omega
  rw [e] at h
  unfold okSA lastT; simp [h1]; right; omega
theorem okSA_zero {xs : List Stroke} {i : Int} (h1 : okStroke' (at_ xs i.toNat) = true) (h0 : 0 ≤ i) (hi : ¬ 0 < i) : okSA xs i.toNat = true := by
  have : i.toNat = 0 := by omega
  simp [okSA, this] at h1 ⊢; exact h1
theorem okSA_ok {xs : List Stroke} {j : Nat} (h : okSA xs j = true) : okStroke' (at_ xs j) = true := by
  simp only [okSA, Bool.and_eq_true] at h; exact h.1
theorem okI_all {x : Ink} (h : okInk' x = true) : ∀ j, j < x.Strokes.length → okStroke' (at_ x.Strokes j) = true := by
  simp only [okInk', Bool.and_eq_true] at h
  exact fun j hj => okSA_ok (allN_get h.2 hj)
theorem okI_mem {x : Ink} (h : okInk' x = true) : ∀ s ∈ x.Strokes, okStroke' s = true := by
  intro s hs
  obtain ⟨j, hj, e⟩ := List.getElem_of_mem hs
  have := okI_all h j hj
  simpa [at_, hj, e] using this
theorem okI_len {x : Ink} (h : okInk' x = true) : (x.Strokes.length : Int) ≤ 16 := by
  simp only [okInk', Bool.and_eq_true, decide_eq_true_eq] at h
  exact h.1


theorem last_mem {α : Type} [Inhabited α] {xs : List α} (h : 1 ≤ xs.length) : at_ xs (xs.length - 1) ∈ xs := at_mem (by omega)
theorem all_snoc {α : Type} {P : α → Prop} {xs : List α} {x : α} (h : ∀ y ∈ xs, P y) (hx : P x) : ∀ y ∈ xs ++ [x], P y := by
  intro y hy
  rcases List.mem_append.1 hy with h1 | h1
  · exact h y h1
  · simp at h1; subst h1; exact hx


theorem okS_of {pts : List Point} (h1 : 1 ≤ (pts.length : Int)) (h2 : (pts.length : Int) ≤ 60) (hp : ∀ p ∈ pts, okP p = true) (hw : pts.Pairwise fun p q => p.T < q.T) : okStroke' ⟨pts⟩ = true := by
  simp only [okStroke', Bool.and_eq_true, decide_eq_true_eq]
  refine ⟨⟨h1, h2⟩, allN_at fun j hj => ?_⟩
  simp only [okPt, Bool.and_eq_true, Bool.or_eq_true, decide_eq_true_eq]
  refine ⟨hp _ (at_mem hj), ?_⟩
  by_cases e : j = 0
  · exact .inl e
  · right
    have := List.pairwise_iff_getElem.1 hw (j - 1) j (by omega) hj (by omega)
    rw [at_eq (by omega), at_eq hj]; exact this
def dpts (pts : List Point) (t : Int) : Prop := (∀ p ∈ pts, p.T < t) ∧ pts.Pairwise fun p q => p.T < q.T
theorem dpts_nil (t : Int) : dpts [] t := ⟨fun _ h => by simp at h, .nil⟩
theorem dpts_snoc {pts : List Point} {p : Point} {t t' : Int} (h : dpts pts t) (e : p.T = t) (ht : t < t') : dpts (pts ++ [p]) t' := by
  refine ⟨all_snoc (fun q hq => Int.lt_trans (h.1 q hq) ht) (by omega), ?_⟩
  rw [List.pairwise_append]
  refine ⟨h.2, List.pairwise_singleton _ _, fun q hq r hr => ?_⟩
  simp at hr; subst hr; rw [e]; exact h.1 q hq
def inkD (ss : List Stroke) (t : Int) : Prop := okInk' ⟨ss⟩ = true ∧ ∀ s ∈ ss, lastT s < t
theorem inkD_nil (t : Int) : inkD [] t := ⟨rfl, fun _ h => by simp at h⟩
theorem inkD_snoc {ss : List Stroke} {s : Stroke} {t t' : Int} (h : inkD ss t) (hs : okStroke' s = true) (hf : ∀ p ∈ s.Points, t ≤ p.T) (hl : lastT s < t') (ht : t ≤ t') (hn : ss.length ≤ 15) : inkD (ss ++ [s]) t' := by
  obtain ⟨h1, h2⟩ := h
  refine ⟨?_, all_snoc (fun q hq => Int.lt_of_lt_of_le (h2 q hq) ht) hl⟩
  simp only [okInk', Bool.and_eq_true, decide_eq_true_eq] at h1 ⊢
  refine ⟨by simp; omega, allN_at fun j hj => ?_⟩
  simp only [List.length_append, List.length_cons, List.length_nil] at hj
  have e1 : ∀ k, k < ss.length → at_ (ss ++ [s]) k = at_ ss k := fun k hk => by simp [at_, List.getElem?_append_left hk]
  by_cases e : j < ss.length
  · have := allN_get h1.2 e
    simp only [okSA] at this ⊢
    rw [e1 j e, e1 (j - 1) (by omega)]; exact this
  · have ej : j = ss.length := by omega
    subst ej
    have e2 : at_ (ss ++ [s]) ss.length = s := by simp [at_]
    simp only [okSA, e2, hs, Bool.true_and, Bool.or_eq_true, decide_eq_true_eq]
    by_cases h0 : ss.length = 0
    · exact .inl h0
    · right
      rw [e1 _ (by omega)]
      have q1 := h2 _ (at_mem (xs := ss) (i := ss.length - 1) (by omega))
      have hln := okS_len hs
      have q2 := hf _ (at_mem (xs := s.Points) (i := 0) (by omega))
      omega

-- spec.l02DrawStroke
theorem l02DrawStroke_ok (s : l00Src) (time : Int) (px : Int) (py : Int) (hs : okSrc s) (ha : s.atx ≤ 3999999999999999600) (ht : 0 ≤ time ∧ time ≤ 100000 ∧ 0 ≤ px ∧ px ≤ 100000 ∧ 0 ≤ py ∧ py ≤ 100000) : ∃ (s' : l00Src) (pts : List Point), (okSrc s') ∧ (s'.code = s.code) ∧ (s.atx + 0 ≤ s'.atx ∧ s'.atx ≤ s.atx + 200) ∧ (1 ≤ pts.length ∧ pts.length ≤ 10) ∧ (∀ p ∈ pts, time ≤ p.T ∧ p.T ≤ time + 210) ∧ (px ≤ 4095 ∧ py ≤ 4095 → okStroke' ⟨pts⟩ = true) ∧ CallOK Tryz.prog 78 [.ref 7001 0, I time, I px, I py] (lookO [(7001, bxl00Src s)]) false (.agg [.arr 8001]) (lookO [(7001, bxl00Src s'), (8001, tAPoint pts)]) := by
  have hh : ∃ r : l00Src × (List Point), ((okSrc r.1) ∧ (r.1.code = s.code) ∧ (s.atx + 0 ≤ r.1.atx ∧ r.1.atx ≤ s.atx + 200) ∧ (1 ≤ r.2.length ∧ r.2.length ≤ 10) ∧ (∀ p ∈ r.2, time ≤ p.T ∧ p.T ≤ time + 210) ∧ (px ≤ 4095 ∧ py ≤ 4095 → okStroke' ⟨r.2⟩ = true) ∧ (True)) ∧ CallOK Tryz.prog 78 [.ref 7001 0, I time, I px, I py] (lookO [(7001, bxl00Src s)]) false (.agg [.arr 8001]) (lookO [(7001, bxl00Src r.1), (8001, tAPoint r.2)]) := by
    refine fn_okX (Φ := fun r : l00Src × (List Point) => (okSrc r.1) ∧ (r.1.code = s.code) ∧ (s.atx + 0 ≤ r.1.atx ∧ r.1.atx ≤ s.atx + 200) ∧ (1 ≤ r.2.length ∧ r.2.length ≤ 10) ∧ (∀ p ∈ r.2, time ≤ p.T ∧ p.T ≤ time + 210) ∧ (px ≤ 4095 ∧ py ≤ 4095 → okStroke' ⟨r.2⟩ = true) ∧ (True)) [(7001, bxl00Src s)] (fun r => [(7001, bxl00Src r.1), (8001, tAPoint r.2)]) (fn := Tryz.f78) (nt := 68) Tryz.func78 rfl rfl (args := [.ref 7001 0, I time, I px, I py]) rfl (allcons (.inr trivial) (allcons (.inl ⟨rfl, trivial⟩) (allcons (.inl ⟨rfl, trivial⟩) (allcons (.inl ⟨rfl, trivial⟩) allnil)))) (res := fun r => .agg [.arr 8001]) ?_
    refine xR [(0, .new 8)] [0, 1, 2, 3, 8] [8, 7001] [.ref 7001 0, I time, I px, I py, .ref 8 0] [some (.box [nilA]), some (bxl00Src s)] [] trivial ?_
    refine xR [(1, .new 9)] [0, 1, 2, 3, 8, 9] [8, 9, 7001] [.ref 7001 0, I time, I px, I py, .ref 8 0, .ref 9 0] [some (.box [nilA]), some (.box [nilA]), some (bxl00Src s)] [] trivial ?_
    refine x_seq ?_
    obtain ⟨v_1, s'_1, hx1_0, hx1_1, hx1_2, hx1_3, hc1⟩ := pick_ok s 60 (by first | assumption | (simp only [okSrc] at *; simp_all; done)) (by omega)
    refine x_r [(1, .lend [(7001, bxl00Src s, bxl00Src s'_1)] [] [(true, .any), (true, .any)] true (I v_1))] [0, 1, 2, 3, 8, 9, 10] [8, 9, 7001] [.ref 7001 0, I time, I px, I py, .ref 8 0, .ref 9 0, I (v_1 - 20)] [some (.box [nilA]), some (.box [nilA]), some (bxl00Src s'_1)] [CallOK Tryz.prog 17 [.ref 7001 0, I 60] (lookO [(7001, bxl00Src s)]) true (I v_1) (lookO [(7001, bxl00Src s'_1)]) ∧ (((bxl00Src s : Ob) = bxl00Src s ∨ obLe noOb true (bxl00Src s) (bxl00Src s)) ∧ taggedO false (bxl00Src s)) ∧ True, inR .i64 (v_1 - 20)] ⟨⟨hc1, ⟨.inl rfl, (by simp [taggedO, taggedL, tagged, tagU8])⟩, trivial⟩, (inR_i64 (by omega) (by omega)), trivial⟩ ?_
    refine xe_then ?_
    refine x_seq ?_
    obtain ⟨v_2, s'_2, hx2_0, hx2_1, hx2_2, hx2_3, hc2⟩ := pick_ok s'_1 60 (by first | assumption | (simp only [okSrc] at *; simp_all; done)) (by omega)
    refine x_r [(1, .lend [(7001, bxl00Src s'_1, bxl00Src s'_2)] [] [(true, .any), (true, .any)] true (I v_2))] [0, 1, 2, 3, 8, 9, 10, 11] [8, 9, 7001] [.ref 7001 0, I time, I px, I py, .ref 8 0, .ref 9 0, I (v_1 - 20), I (v_2 - 30)] [some (.box [nilA]), some (.box [nilA]), some (bxl00Src s'_2)] [CallOK Tryz.prog 17 [.ref 7001 0, I 60] (lookO [(7001, bxl00Src s'_1)]) true (I v_2) (lookO [(7001, bxl00Src s'_2)]) ∧ (((bxl00Src s'_1 : Ob) = bxl00Src s'_1 ∨ obLe noOb true (bxl00Src s'_1) (bxl00Src s'_1)) ∧ taggedO false (bxl00Src s'_1)) ∧ True, inR .i64 (v_2 - 30)] ⟨⟨hc2, ⟨.inl rfl, (by simp [taggedO, taggedL, tagged, tagU8])⟩, trivial⟩, (inR_i64 (by omega) (by omega)), trivial⟩ ?_
    refine xe_then ?_
    refine x_seq ?_
    refine x_seq ?_
    obtain ⟨v_3, s'_3, hx3_0, hx3_1, hx3_2, hx3_3, hc3⟩ := pick_ok s'_2 10 (by first | assumption | (simp only [okSrc] at *; simp_all; done)) (by omega)
    refine x_r [(1, .lend [(7001, bxl00Src s'_2, bxl00Src s'_3)] [] [(true, .any), (true, .any)] true (I v_3))] [0, 1, 2, 3, 8, 9, 10, 11, 12] [8, 9, 7001] [.ref 7001 0, I time, I px, I py, .ref 8 0, .ref 9 0, I (v_1 - 20), I (v_2 - 30), I (1 + v_3)] [some (.box [nilA]), some (.box [nilA]), some (bxl00Src s'_3)] [CallOK Tryz.prog 17 [.ref 7001 0, I 10] (lookO [(7001, bxl00Src s'_2)]) true (I v_3) (lookO [(7001, bxl00Src s'_3)]) ∧ (((bxl00Src s'_2 : Ob) = bxl00Src s'_2 ∨ obLe noOb true (bxl00Src s'_2) (bxl00Src s'_2)) ∧ taggedO false (bxl00Src s'_2)) ∧ True, inR .i64 (1 + v_3)] ⟨⟨hc3, ⟨.inl rfl, (by simp [taggedO, taggedL, tagged, tagU8])⟩, trivial⟩, (inR_i64 (by omega) (by omega)), trivial⟩ ?_
    refine xe_then ?_
    refine x_block ?_
    refine x_nilC 9 0 790 3 (fun _ => []) rfl (by kernel_rfl) ?_
    refine x_weak [] (T := [(0, .ref 7001 0), (1, I time), (2, I px), (3, I py), (8, .ref 8 0), (9, .ref 9 0), (10, I (v_1 - 20)), (11, I (v_2 - 30)), (12, I (1 + v_3))]) (O := [(8, .box [nilA]), (9, .box [.arr 790]), (790, tAPoint ([] : List Point)), (7001, bxl00Src s'_3)]) rfl (⟨.inl rfl, .inl rfl, .inl rfl, .inl rfl, .inl rfl, .inl rfl, .inl rfl, .inl rfl, .inl rfl, trivial⟩) (⟨.inl rfl, .inl rfl, .inr ⟨rfl, (by first | rfl | (simp; done) | (simp; omega) | omega), fun i_ hi_ => absurd hi_ (Nat.not_lt_zero _)⟩, .inl rfl, trivial⟩) ?_
    refine x_loop (X := Int × Int × Int × Int × Int × Int × (List Point) × l00Src) (fun x => mkS [(0, .ref 7001 0), (1, I x.1), (2, I x.2.1), (3, I x.2.2.1), (8, .ref 8 0), (9, .ref 9 0), (10, I x.2.2.2.1), (11, I x.2.2.2.2.1), (12, I x.2.2.2.2.2.1)] [(8, .box [nilA]), (9, .box [.arr 790]), (790, tAPoint x.2.2.2.2.2.2.1), (7001, bxl00Src x.2.2.2.2.2.2.2)]) (fun x => (okSrc x.2.2.2.2.2.2.2 ∧ x.2.2.2.2.2.2.2.code = s.code ∧ s.atx ≤ x.2.2.2.2.2.2.2.atx ∧ x.2.2.2.2.2.2.2.atx ≤ s.atx + 6 + 12 * (10 - x.2.2.2.2.2.1)) ∧ (0 ≤ x.2.2.2.2.2.1 ∧ x.2.2.2.2.2.1 ≤ 10) ∧ ((x.2.2.2.2.2.2.1.length : Int) + x.2.2.2.2.2.1 ≤ 10 ∧ 1 ≤ (x.2.2.2.2.2.2.1.length : Int) + x.2.2.2.2.2.1) ∧ (time ≤ x.1 ∧ x.1 ≤ time + 21 * (10 - x.2.2.2.2.2.1)) ∧ (∀ p ∈ x.2.2.2.2.2.2.1, time ≤ p.T ∧ p.T ≤ time + 210) ∧ (0 ≤ x.2.1 ∧ x.2.1 ≤ 100000 ∧ 0 ≤ x.2.2.1 ∧ x.2.2.1 ≤ 100000) ∧ (-40 ≤ x.2.2.2.1 ∧ x.2.2.2.1 ≤ 60 ∧ -40 ≤ x.2.2.2.2.1 ∧ x.2.2.2.2.1 ≤ 60) ∧ (dpts x.2.2.2.2.2.2.1 x.1) ∧ (px ≤ 4095 ∧ py ≤ 4095 → (x.2.1 ≤ 4095 ∧ x.2.2.1 ≤ 4095) ∧ ∀ p ∈ x.2.2.2.2.2.2.1, okP p = true) ∧ True) (fun x => x.2.2.2.2.2.1.toNat) (time, px, py, (v_1 - 20), (v_2 - 30), (1 + v_3), ([] : List Point), s'_3) rfl (show (okSrc s'_3 ∧ s'_3.code = s.code ∧ s.atx ≤ s'_3.atx ∧ s'_3.atx ≤ s.atx + 6 + 12 * (10 - (1 + v_3))) ∧ (0 ≤ (1 + v_3) ∧ (1 + v_3) ≤ 10) ∧ ((([] : List Point).length : Int) + (1 + v_3) ≤ 10 ∧ 1 ≤ (([] : List Point).length : Int) + (1 + v_3)) ∧ (time ≤ time ∧ time ≤ time + 21 * (10 - (1 + v_3))) ∧ (∀ p ∈ ([] : List Point), time ≤ p.T ∧ p.T ≤ time + 210) ∧ (0 ≤ px ∧ px ≤ 100000 ∧ 0 ≤ py ∧ py ≤ 100000) ∧ (-40 ≤ (v_1 - 20) ∧ (v_1 - 20) ≤ 60 ∧ -40 ≤ (v_2 - 30) ∧ (v_2 - 30) ≤ 60) ∧ (dpts ([] : List Point) time) ∧ (px ≤ 4095 ∧ py ≤ 4095 → (px ≤ 4095 ∧ py ≤ 4095) ∧ ∀ p ∈ ([] : List Point), okP p = true) ∧ True from ⟨(by exact ⟨by assumption, by first | assumption | rfl | (simp only [*]; done), by omega, by omega⟩), (by omega), (by simp; omega), (by omega), (by (intro z hz; simp at hz)), (by omega), (by omega), (by exact dpts_nil _), (by exact fun q => ⟨q, fun p hp => by simp at hp⟩), trivial⟩) (fun x hI => ?_)
    obtain ⟨time', x', y', dx, dy, k, pts, src⟩ := x
    obtain ⟨hs0, hk0, hl0, ht0, hp0, hx0, hd0, hdp, hok, _⟩ : (okSrc src ∧ src.code = s.code ∧ s.atx ≤ src.atx ∧ src.atx ≤ s.atx + 6 + 12 * (10 - k)) ∧ (0 ≤ k ∧ k ≤ 10) ∧ ((pts.length : Int) + k ≤ 10 ∧ 1 ≤ (pts.length : Int) + k) ∧ (time ≤ time' ∧ time' ≤ time + 21 * (10 - k)) ∧ (∀ p ∈ pts, time ≤ p.T ∧ p.T ≤ time + 210) ∧ (0 ≤ x' ∧ x' ≤ 100000 ∧ 0 ≤ y' ∧ y' ≤ 100000) ∧ (-40 ≤ dx ∧ dx ≤ 60 ∧ -40 ≤ dy ∧ dy ≤ 60) ∧ (dpts pts time') ∧ (px ≤ 4095 ∧ py ≤ 4095 → (x' ≤ 4095 ∧ y' ≤ 4095) ∧ ∀ p ∈ pts, okP p = true) ∧ True := hI
    show XW _ _ _ _ (mkS [(0, .ref 7001 0), (1, I time'), (2, I x'), (3, I y'), (8, .ref 8 0), (9, .ref 9 0), (10, I dx), (11, I dy), (12, I k)] [(8, .box [nilA]), (9, .box [.arr 790]), (790, tAPoint pts), (7001, bxl00Src src)]) _ _
    refine x_seq ?_
    refine x_seq ?_
    by_cases h1 : 0 < k
    ·refine x_r [(1, .dec true)] [0, 1, 2, 3, 8, 9, 10, 11, 12, 24] [8, 9, 790, 7001] [.ref 7001 0, I time', I x', I y', .ref 8 0, .ref 9 0, I dx, I dy, I k, Bv true] [some (.box [nilA]), some (.box [.arr 790]), some (tAPoint pts), some (bxl00Src src)] [0 < k] ⟨h1, trivial⟩ ?_
     refine xe_then ?_
     refine x_true rfl ?_
     refine x_skip ?_
     refine xe_then ?_
     refine x_seq ?_
     refine x_block ?_
     refine xR [(6, .new 33), (7, .new 34)] [0, 1, 2, 3, 8, 9, 10, 11, 12] [8, 9, 34, 7001] [.ref 7001 0, I time', I x', I y', .ref 8 0, .ref 9 0, I dx, I dy, I k] [some (.box [nilA]), some (.box [.arr 34]), some (.arr 3 (pts.length + 1) (catF pts.length (fPoint pts) (litF [I x', I y', I time'] 3))), some (bxl00Src src)] [(pts.length + 1) * 24 ≤ 140737488355328] ⟨(by omega), trivial⟩ ?_
     refine x_seq ?_
     obtain ⟨v_4, s'_4, hx4_0, hx4_1, hx4_2, hx4_3, hc4⟩ := pick_ok src 20 (by first | assumption | (simp only [okSrc] at *; simp_all; done)) (by omega)
     refine x_r [(2, .lend [(7001, bxl00Src src, bxl00Src s'_4)] [] [(true, .any), (true, .any)] true (I v_4))] [0, 1, 2, 3, 8, 9, 10, 11, 12] [8, 9, 34, 7001] [.ref 7001 0, I (time' + (1 + v_4)), I x', I y', .ref 8 0, .ref 9 0, I dx, I dy, I k] [some (.box [nilA]), some (.box [.arr 34]), some (.arr 3 (pts.length + 1) (catF pts.length (fPoint pts) (litF [I x', I y', I time'] 3))), some (bxl00Src s'_4)] [CallOK Tryz.prog 17 [.ref 7001 0, I 20] (lookO [(7001, bxl00Src src)]) true (I v_4) (lookO [(7001, bxl00Src s'_4)]) ∧ (((bxl00Src src : Ob) = bxl00Src src ∨ obLe noOb true (bxl00Src src) (bxl00Src src)) ∧ taggedO false (bxl00Src src)) ∧ True, inR .i64 (1 + v_4), inR .i64 (time' + (1 + v_4))] ⟨⟨hc4, ⟨.inl rfl, (by simp [taggedO, taggedL, tagged, tagU8])⟩, trivial⟩, (inR_i64 (by omega) (by omega)), (inR_i64 (by omega) (by omega)), trivial⟩ ?_
     refine xe_then ?_
     refine x_seq ?_
     obtain ⟨v_5, s'_5, hx5_0, hx5_1, hx5_2, hx5_3, hc5⟩ := pick_ok s'_4 9 (by first | assumption | (simp only [okSrc] at *; simp_all; done)) (by omega)
     refine x_r [(4, .lend [(7001, bxl00Src s'_4, bxl00Src s'_5)] [] [(true, .any), (true, .any)] true (I v_5)), (7, .call [(true, .any), (true, .any)] true (I (min 4095 (((x' + dx) + v_5) - 4)))), (8, .call [(true, .any), (true, .any)] true (I (max 0 (min 4095 (((x' + dx) + v_5) - 4)))))] [0, 1, 2, 3, 8, 9, 10, 11, 12] [8, 9, 34, 7001] [.ref 7001 0, I (time' + (1 + v_4)), I (max 0 (min 4095 (((x' + dx) + v_5) - 4))), I y', .ref 8 0, .ref 9 0, I dx, I dy, I k] [some (.box [nilA]), some (.box [.arr 34]), some (.arr 3 (pts.length + 1) (catF pts.length (fPoint pts) (litF [I x', I y', I time'] 3))), some (bxl00Src s'_5)] [inR .i64 (x' + dx), CallOK Tryz.prog 17 [.ref 7001 0, I 9] (lookO [(7001, bxl00Src s'_4)]) true (I v_5) (lookO [(7001, bxl00Src s'_5)]) ∧ (((bxl00Src s'_4 : Ob) = bxl00Src s'_4 ∨ obLe noOb true (bxl00Src s'_4) (bxl00Src s'_4)) ∧ taggedO false (bxl00Src s'_4)) ∧ True, inR .i64 ((x' + dx) + v_5), inR .i64 (((x' + dx) + v_5) - 4), Con Tryz.prog 119 [I 4095, I (((x' + dx) + v_5) - 4)] true (I (min 4095 (((x' + dx) + v_5) - 4))) ∧ True, Con Tryz.prog 120 [I 0, I (min 4095 (((x' + dx) + v_5) - 4))] true (I (max 0 (min 4095 (((x' + dx) + v_5) - 4)))) ∧ True] ⟨(inR_i64 (by omega) (by omega)), ⟨hc5, ⟨.inl rfl, (by simp [taggedO, taggedL, tagged, tagU8])⟩, trivial⟩, (inR_i64 (by omega) (by omega)), (inR_i64 (by omega) (by omega)), ⟨(l00Min_ok 4095 (((x' + dx) + v_5) - 4)), trivial⟩, ⟨(l00Max_ok 0 (min 4095 (((x' + dx) + v_5) - 4))), trivial⟩, trivial⟩ ?_
     refine xe_then ?_
     refine x_seq ?_
     obtain ⟨v_6, s'_6, hx6_0, hx6_1, hx6_2, hx6_3, hc6⟩ := pick_ok s'_5 9 (by first | assumption | (simp only [okSrc] at *; simp_all; done)) (by omega)
     refine x_r [(4, .lend [(7001, bxl00Src s'_5, bxl00Src s'_6)] [] [(true, .any), (true, .any)] true (I v_6)), (7, .call [(true, .any), (true, .any)] true (I (min 4095 (((y' + dy) + v_6) - 4)))), (8, .call [(true, .any), (true, .any)] true (I (max 0 (min 4095 (((y' + dy) + v_6) - 4)))))] [0, 1, 2, 3, 8, 9, 10, 11, 12] [8, 9, 34, 7001] [.ref 7001 0, I (time' + (1 + v_4)), I (max 0 (min 4095 (((x' + dx) + v_5) - 4))), I (max 0 (min 4095 (((y' + dy) + v_6) - 4))), .ref 8 0, .ref 9 0, I dx, I dy, I k] [some (.box [nilA]), some (.box [.arr 34]), some (.arr 3 (pts.length + 1) (catF pts.length (fPoint pts) (litF [I x', I y', I time'] 3))), some (bxl00Src s'_6)] [inR .i64 (y' + dy), CallOK Tryz.prog 17 [.ref 7001 0, I 9] (lookO [(7001, bxl00Src s'_5)]) true (I v_6) (lookO [(7001, bxl00Src s'_6)]) ∧ (((bxl00Src s'_5 : Ob) = bxl00Src s'_5 ∨ obLe noOb true (bxl00Src s'_5) (bxl00Src s'_5)) ∧ taggedO false (bxl00Src s'_5)) ∧ True, inR .i64 ((y' + dy) + v_6), inR .i64 (((y' + dy) + v_6) - 4), Con Tryz.prog 119 [I 4095, I (((y' + dy) + v_6) - 4)] true (I (min 4095 (((y' + dy) + v_6) - 4))) ∧ True, Con Tryz.prog 120 [I 0, I (min 4095 (((y' + dy) + v_6) - 4))] true (I (max 0 (min 4095 (((y' + dy) + v_6) - 4)))) ∧ True] ⟨(inR_i64 (by omega) (by omega)), ⟨hc6, ⟨.inl rfl, (by simp [taggedO, taggedL, tagged, tagU8])⟩, trivial⟩, (inR_i64 (by omega) (by omega)), (inR_i64 (by omega) (by omega)), ⟨(l00Min_ok 4095 (((y' + dy) + v_6) - 4)), trivial⟩, ⟨(l00Max_ok 0 (min 4095 (((y' + dy) + v_6) - 4))), trivial⟩, trivial⟩ ?_
     refine xe_then ?_
     refine x_seq ?_
     obtain ⟨v_7, s'_7, hx7_0, hx7_1, hx7_2, hc7⟩ := one_ok s'_6 3 (by first | assumption | (simp only [okSrc] at *; simp_all; done)) (by omega)
     rcases Bool.eq_false_or_eq_true v_7 with h2 | h2
     ·subst h2
      refine x_r [(1, .lend [(7001, bxl00Src s'_6, bxl00Src s'_7)] [] [(true, .any), (true, .any)] true (Bv true))] [0, 1, 2, 3, 8, 9, 10, 11, 12, 60] [8, 9, 34, 7001] [.ref 7001 0, I (time' + (1 + v_4)), I (max 0 (min 4095 (((x' + dx) + v_5) - 4))), I (max 0 (min 4095 (((y' + dy) + v_6) - 4))), .ref 8 0, .ref 9 0, I dx, I dy, I k, Bv true] [some (.box [nilA]), some (.box [.arr 34]), some (.arr 3 (pts.length + 1) (catF pts.length (fPoint pts) (litF [I x', I y', I time'] 3))), some (bxl00Src s'_7)] [CallOK Tryz.prog 40 [.ref 7001 0, I 3] (lookO [(7001, bxl00Src s'_6)]) true (Bv true) (lookO [(7001, bxl00Src s'_7)]) ∧ (((bxl00Src s'_6 : Ob) = bxl00Src s'_6 ∨ obLe noOb true (bxl00Src s'_6) (bxl00Src s'_6)) ∧ taggedO false (bxl00Src s'_6)) ∧ True] ⟨⟨hc7, ⟨.inl rfl, (by simp [taggedO, taggedL, tagged, tagU8])⟩, trivial⟩, trivial⟩ ?_
      refine xe_then ?_
      refine x_true rfl ?_
      refine x_seq ?_
      obtain ⟨v_8, s'_8, hx8_0, hx8_1, hx8_2, hx8_3, hc8⟩ := pick_ok s'_7 80 (by first | assumption | (simp only [okSrc] at *; simp_all; done)) (by omega)
      refine x_r [(1, .lend [(7001, bxl00Src s'_7, bxl00Src s'_8)] [] [(true, .any), (true, .any)] true (I v_8))] [0, 1, 2, 3, 8, 9, 10, 12] [8, 9, 34, 7001] [.ref 7001 0, I (time' + (1 + v_4)), I (max 0 (min 4095 (((x' + dx) + v_5) - 4))), I (max 0 (min 4095 (((y' + dy) + v_6) - 4))), .ref 8 0, .ref 9 0, I (v_8 - 40), I k] [some (.box [nilA]), some (.box [.arr 34]), some (.arr 3 (pts.length + 1) (catF pts.length (fPoint pts) (litF [I x', I y', I time'] 3))), some (bxl00Src s'_8)] [CallOK Tryz.prog 17 [.ref 7001 0, I 80] (lookO [(7001, bxl00Src s'_7)]) true (I v_8) (lookO [(7001, bxl00Src s'_8)]) ∧ (((bxl00Src s'_7 : Ob) = bxl00Src s'_7 ∨ obLe noOb true (bxl00Src s'_7) (bxl00Src s'_7)) ∧ taggedO false (bxl00Src s'_7)) ∧ True, inR .i64 (v_8 - 40)] ⟨⟨hc8, ⟨.inl rfl, (by simp [taggedO, taggedL, tagged, tagU8])⟩, trivial⟩, (inR_i64 (by omega) (by omega)), trivial⟩ ?_
      refine xe_then ?_
      obtain ⟨v_9, s'_9, hx9_0, hx9_1, hx9_2, hx9_3, hc9⟩ := pick_ok s'_8 80 (by first | assumption | (simp only [okSrc] at *; simp_all; done)) (by omega)
      refine x_r [(1, .lend [(7001, bxl00Src s'_8, bxl00Src s'_9)] [] [(true, .any), (true, .any)] true (I v_9))] [0, 1, 2, 3, 8, 9, 10, 11, 12] [8, 9, 34, 7001] [.ref 7001 0, I (time' + (1 + v_4)), I (max 0 (min 4095 (((x' + dx) + v_5) - 4))), I (max 0 (min 4095 (((y' + dy) + v_6) - 4))), .ref 8 0, .ref 9 0, I (v_8 - 40), I (v_9 - 40), I k] [some (.box [nilA]), some (.box [.arr 34]), some (.arr 3 (pts.length + 1) (catF pts.length (fPoint pts) (litF [I x', I y', I time'] 3))), some (bxl00Src s'_9)] [CallOK Tryz.prog 17 [.ref 7001 0, I 80] (lookO [(7001, bxl00Src s'_8)]) true (I v_9) (lookO [(7001, bxl00Src s'_9)]) ∧ (((bxl00Src s'_8 : Ob) = bxl00Src s'_8 ∨ obLe noOb true (bxl00Src s'_8) (bxl00Src s'_8)) ∧ taggedO false (bxl00Src s'_8)) ∧ True, inR .i64 (v_9 - 40)] ⟨⟨hc9, ⟨.inl rfl, (by simp [taggedO, taggedL, tagged, tagU8])⟩, trivial⟩, (inR_i64 (by omega) (by omega)), trivial⟩ ?_
      refine xe_block 1 ?_
      refine xe_then ?_
      refine x_r [] [0, 1, 2, 3, 8, 9, 10, 11, 12] [8, 9, 34, 7001] [.ref 7001 0, I (time' + (1 + v_4)), I (max 0 (min 4095 (((x' + dx) + v_5) - 4))), I (max 0 (min 4095 (((y' + dy) + v_6) - 4))), .ref 8 0, .ref 9 0, I (v_8 - 40), I (v_9 - 40), I (k - 1)] [some (.box [nilA]), some (.box [.arr 34]), some (.arr 3 (pts.length + 1) (catF pts.length (fPoint pts) (litF [I x', I y', I time'] 3))), some (bxl00Src s'_9)] [inR .i64 (k - 1)] ⟨(inR_i64 (by omega) (by omega)), trivial⟩ ?_
      refine xe_weak [(790, 34)] (T := [(0, .ref 7001 0), (1, I (time' + (1 + v_4))), (2, I (max 0 (min 4095 (((x' + dx) + v_5) - 4)))), (3, I (max 0 (min 4095 (((y' + dy) + v_6) - 4)))), (8, .ref 8 0), (9, .ref 9 0), (10, I (v_8 - 40)), (11, I (v_9 - 40)), (12, I (k - 1))]) (O := [(8, .box [nilA]), (9, .box [.arr 790]), (790, tAPoint (pts ++ [(Point.mk x' y' time')])), (7001, bxl00Src s'_9)]) rfl (⟨.inl rfl, .inl rfl, .inl rfl, .inl rfl, .inl rfl, .inl rfl, .inl rfl, .inl rfl, .inl rfl, trivial⟩) (⟨.inl rfl, .inl rfl, .inr ⟨rfl, (by first | rfl | (simp; done) | (simp; omega) | omega), fun i_ hi_ => .inl (cat_snoc (enc := cPoint) (xs := pts) rfl i_ hi_)⟩, .inl rfl, trivial⟩) (xe_again ((time' + (1 + v_4)), (max 0 (min 4095 (((x' + dx) + v_5) - 4))), (max 0 (min 4095 (((y' + dy) + v_6) - 4))), (v_8 - 40), (v_9 - 40), (k - 1), (pts ++ [(Point.mk x' y' time')]), s'_9) rfl (show (okSrc s'_9 ∧ s'_9.code = s.code ∧ s.atx ≤ s'_9.atx ∧ s'_9.atx ≤ s.atx + 6 + 12 * (10 - (k - 1))) ∧ (0 ≤ (k - 1) ∧ (k - 1) ≤ 10) ∧ (((pts ++ [(Point.mk x' y' time')]).length : Int) + (k - 1) ≤ 10 ∧ 1 ≤ ((pts ++ [(Point.mk x' y' time')]).length : Int) + (k - 1)) ∧ (time ≤ (time' + (1 + v_4)) ∧ (time' + (1 + v_4)) ≤ time + 21 * (10 - (k - 1))) ∧ (∀ p ∈ (pts ++ [(Point.mk x' y' time')]), time ≤ p.T ∧ p.T ≤ time + 210) ∧ (0 ≤ (max 0 (min 4095 (((x' + dx) + v_5) - 4))) ∧ (max 0 (min 4095 (((x' + dx) + v_5) - 4))) ≤ 100000 ∧ 0 ≤ (max 0 (min 4095 (((y' + dy) + v_6) - 4))) ∧ (max 0 (min 4095 (((y' + dy) + v_6) - 4))) ≤ 100000) ∧ (-40 ≤ (v_8 - 40) ∧ (v_8 - 40) ≤ 60 ∧ -40 ≤ (v_9 - 40) ∧ (v_9 - 40) ≤ 60) ∧ (dpts (pts ++ [(Point.mk x' y' time')]) (time' + (1 + v_4))) ∧ (px ≤ 4095 ∧ py ≤ 4095 → ((max 0 (min 4095 (((x' + dx) + v_5) - 4))) ≤ 4095 ∧ (max 0 (min 4095 (((y' + dy) + v_6) - 4))) ≤ 4095) ∧ ∀ p ∈ (pts ++ [(Point.mk x' y' time')]), okP p = true) ∧ True from ⟨(by exact ⟨by assumption, by first | assumption | rfl | (simp only [*]; done), by omega, by omega⟩), (by omega), (by simp; omega), (by omega), (by exact all_snoc hp0 (by dsimp only; omega)), (by omega), (by omega), (by exact dpts_snoc hdp rfl (by omega)), (by exact fun q => ⟨by have := (hok q).1; omega, all_snoc (hok q).2 (okP_iff.2 ⟨by have := (hok q).1; dsimp only; omega, by have := (hok q).1; dsimp only; omega, by dsimp only; omega⟩)⟩), trivial⟩) (by first | (show ((k - 1).toNat : Nat) < k.toNat; omega) | (dsimp only; omega)))
     subst h2
     refine x_r [(1, .lend [(7001, bxl00Src s'_6, bxl00Src s'_7)] [] [(true, .any), (true, .any)] true (Bv false))] [0, 1, 2, 3, 8, 9, 10, 11, 12, 60] [8, 9, 34, 7001] [.ref 7001 0, I (time' + (1 + v_4)), I (max 0 (min 4095 (((x' + dx) + v_5) - 4))), I (max 0 (min 4095 (((y' + dy) + v_6) - 4))), .ref 8 0, .ref 9 0, I dx, I dy, I k, Bv false] [some (.box [nilA]), some (.box [.arr 34]), some (.arr 3 (pts.length + 1) (catF pts.length (fPoint pts) (litF [I x', I y', I time'] 3))), some (bxl00Src s'_7)] [CallOK Tryz.prog 40 [.ref 7001 0, I 3] (lookO [(7001, bxl00Src s'_6)]) true (Bv false) (lookO [(7001, bxl00Src s'_7)]) ∧ (((bxl00Src s'_6 : Ob) = bxl00Src s'_6 ∨ obLe noOb true (bxl00Src s'_6) (bxl00Src s'_6)) ∧ taggedO false (bxl00Src s'_6)) ∧ True] ⟨⟨hc7, ⟨.inl rfl, (by simp [taggedO, taggedL, tagged, tagU8])⟩, trivial⟩, trivial⟩ ?_
     refine xe_then ?_
     refine x_false rfl ?_
     refine x_skip ?_
     refine xe_block 1 ?_
     refine xe_then ?_
     refine x_r [] [0, 1, 2, 3, 8, 9, 10, 11, 12] [8, 9, 34, 7001] [.ref 7001 0, I (time' + (1 + v_4)), I (max 0 (min 4095 (((x' + dx) + v_5) - 4))), I (max 0 (min 4095 (((y' + dy) + v_6) - 4))), .ref 8 0, .ref 9 0, I dx, I dy, I (k - 1)] [some (.box [nilA]), some (.box [.arr 34]), some (.arr 3 (pts.length + 1) (catF pts.length (fPoint pts) (litF [I x', I y', I time'] 3))), some (bxl00Src s'_7)] [inR .i64 (k - 1)] ⟨(inR_i64 (by omega) (by omega)), trivial⟩ ?_
     refine xe_weak [(790, 34)] (T := [(0, .ref 7001 0), (1, I (time' + (1 + v_4))), (2, I (max 0 (min 4095 (((x' + dx) + v_5) - 4)))), (3, I (max 0 (min 4095 (((y' + dy) + v_6) - 4)))), (8, .ref 8 0), (9, .ref 9 0), (10, I dx), (11, I dy), (12, I (k - 1))]) (O := [(8, .box [nilA]), (9, .box [.arr 790]), (790, tAPoint (pts ++ [(Point.mk x' y' time')])), (7001, bxl00Src s'_7)]) rfl (⟨.inl rfl, .inl rfl, .inl rfl, .inl rfl, .inl rfl, .inl rfl, .inl rfl, .inl rfl, .inl rfl, trivial⟩) (⟨.inl rfl, .inl rfl, .inr ⟨rfl, (by first | rfl | (simp; done) | (simp; omega) | omega), fun i_ hi_ => .inl (cat_snoc (enc := cPoint) (xs := pts) rfl i_ hi_)⟩, .inl rfl, trivial⟩) (xe_again ((time' + (1 + v_4)), (max 0 (min 4095 (((x' + dx) + v_5) - 4))), (max 0 (min 4095 (((y' + dy) + v_6) - 4))), dx, dy, (k - 1), (pts ++ [(Point.mk x' y' time')]), s'_7) rfl (show (okSrc s'_7 ∧ s'_7.code = s.code ∧ s.atx ≤ s'_7.atx ∧ s'_7.atx ≤ s.atx + 6 + 12 * (10 - (k - 1))) ∧ (0 ≤ (k - 1) ∧ (k - 1) ≤ 10) ∧ (((pts ++ [(Point.mk x' y' time')]).length : Int) + (k - 1) ≤ 10 ∧ 1 ≤ ((pts ++ [(Point.mk x' y' time')]).length : Int) + (k - 1)) ∧ (time ≤ (time' + (1 + v_4)) ∧ (time' + (1 + v_4)) ≤ time + 21 * (10 - (k - 1))) ∧ (∀ p ∈ (pts ++ [(Point.mk x' y' time')]), time ≤ p.T ∧ p.T ≤ time + 210) ∧ (0 ≤ (max 0 (min 4095 (((x' + dx) + v_5) - 4))) ∧ (max 0 (min 4095 (((x' + dx) + v_5) - 4))) ≤ 100000 ∧ 0 ≤ (max 0 (min 4095 (((y' + dy) + v_6) - 4))) ∧ (max 0 (min 4095 (((y' + dy) + v_6) - 4))) ≤ 100000) ∧ (-40 ≤ dx ∧ dx ≤ 60 ∧ -40 ≤ dy ∧ dy ≤ 60) ∧ (dpts (pts ++ [(Point.mk x' y' time')]) (time' + (1 + v_4))) ∧ (px ≤ 4095 ∧ py ≤ 4095 → ((max 0 (min 4095 (((x' + dx) + v_5) - 4))) ≤ 4095 ∧ (max 0 (min 4095 (((y' + dy) + v_6) - 4))) ≤ 4095) ∧ ∀ p ∈ (pts ++ [(Point.mk x' y' time')]), okP p = true) ∧ True from ⟨(by exact ⟨by assumption, by first | assumption | rfl | (simp only [*]; done), by omega, by omega⟩), (by omega), (by simp; omega), (by omega), (by exact all_snoc hp0 (by dsimp only; omega)), (by omega), (by omega), (by exact dpts_snoc hdp rfl (by omega)), (by exact fun q => ⟨by have := (hok q).1; omega, all_snoc (hok q).2 (okP_iff.2 ⟨by have := (hok q).1; dsimp only; omega, by have := (hok q).1; dsimp only; omega, by dsimp only; omega⟩)⟩), trivial⟩) (by first | (show ((k - 1).toNat : Nat) < k.toNat; omega) | (dsimp only; omega)))
    refine x_r [(1, .dec false)] [0, 1, 2, 3, 8, 9, 10, 11, 12, 24] [8, 9, 790, 7001] [.ref 7001 0, I time', I x', I y', .ref 8 0, .ref 9 0, I dx, I dy, I k, Bv false] [some (.box [nilA]), some (.box [.arr 790]), some (tAPoint pts), some (bxl00Src src)] [¬ (0 < k)] ⟨h1, trivial⟩ ?_
    refine xe_then ?_
    refine x_false rfl ?_
    refine x_exit ?_
    refine xe_exit_then ?_
    refine xe_loop_exit ?_
    refine xe_exit_same ?_
    refine xe_then ?_
    refine xR [] [8] [8, 790, 7001] [.ref 8 0] [some (.box [.arr 790]), some (tAPoint pts), some (bxl00Src src)] [] trivial ?_
    refine x_ret ?_
    refine xe_weak [(8001, 790)] (T := [(8, .ref 8 0)]) (O := [(8, .box [.arr 8001]), (7001, bxl00Src src), (8001, tAPoint pts)]) rfl (⟨.inl rfl, trivial⟩) (⟨.inl rfl, .inl rfl, .inl rfl, trivial⟩) ?_
    refine xe_end (src, pts) (show (okSrc src) ∧ (src.code = s.code) ∧ (s.atx + 0 ≤ src.atx ∧ src.atx ≤ s.atx + 200) ∧ (1 ≤ pts.length ∧ pts.length ≤ 10) ∧ (∀ p ∈ pts, time ≤ p.T ∧ p.T ≤ time + 210) ∧ (px ≤ 4095 ∧ py ≤ 4095 → okStroke' ⟨pts⟩ = true) ∧ (True) from ⟨(by first | exact fun q => okS_of (by omega) (by omega) (hok q).2 hdp.2 | omega | assumption | (simp_all; done)), (by first | exact fun q => okS_of (by omega) (by omega) (hok q).2 hdp.2 | omega | assumption | (simp_all; done)), (by first | exact fun q => okS_of (by omega) (by omega) (hok q).2 hdp.2 | omega | assumption | (simp_all; done)), (by first | exact fun q => okS_of (by omega) (by omega) (hok q).2 hdp.2 | omega | assumption | (simp_all; done)), (by first | exact fun q => okS_of (by omega) (by omega) (hok q).2 hdp.2 | omega | assumption | (simp_all; done)), (by first | exact fun q => okS_of (by omega) (by omega) (hok q).2 hdp.2 | omega | assumption | (simp_all; done)), trivial⟩) (⟨.inl rfl, .inl rfl, trivial⟩) (.agg [.arr 8001]) (by kernel_rfl) (.inl rfl) (fun h => by cases h) (fun h => by cases h)
  obtain ⟨⟨s', pts⟩, ⟨hh0, hh1, hh2, hh3, hh4, hh5, _⟩, hc⟩ := hh
  exact ⟨s', pts, hh0, hh1, hh2, hh3, hh4, hh5, hc⟩



-- spec.l02Last
theorem l02Last_ok (s : Stroke) (hl : 1 ≤ s.Points.length) : Con Tryz.prog 54 [.ptr false [slPoint false s.Points]] true (I ((at_ s.Points (s.Points.length - 1)).T)) := by
  refine fn_ok (fn := Tryz.f54) (nt := 16) Tryz.func54 rfl rfl rfl rfl (by simp [taggedL, tagged, tagPoint]) fun B hB => ?_
  refine aw_lens (x := .ptr false [slPoint false s.Points]) 0 rfl (fun len_s => ?_)
  simp [LenOK, LenL, cPoint, fPoint, slPoint] at len_s
  refine aR [] [0] [] [.ptr false [slPoint false s.Points]] [] [] hB trivial ?_
  refine aR [] [2] [] [I ((at_ s.Points (((s.Points.length : Int) - 1).toNat)).T)] [] [inR .i64 ((s.Points.length : Int) - 1), (0 : Int) ≤ ((s.Points.length : Int) - 1) ∧ ((s.Points.length : Int) - 1) < (s.Points.length : Int)] hB ⟨(inR_i64 (by omega) (by omega)), ⟨(by omega), (by omega)⟩, trivial⟩ ?_
  refine aw_ret ?_
  refine ae_ret hB (I ((at_ s.Points (((s.Points.length : Int) - 1).toNat)).T)) (by kernel_rfl) (.inl (by (have e : ((s.Points.length : Int) - 1).toNat = s.Points.length - 1 := by omega); rw [e])) rfl (fun _ => trivial)



theorem beq_ne {i k : Nat} (h : i ≠ k) : Nat.beq i k = false := Bool.eq_false_iff.2 fun e => h (Nat.eq_of_beq_eq_true e)
theorem at_set_eq {α : Type} [Inhabited α] {xs : List α} {k : Nat} {c : α} (h : k < xs.length) : at_ (xs.set k c) k = c := by simp [at_, h]
theorem at_set_ne {α : Type} [Inhabited α] {xs : List α} {k i : Nat} {c : α} (h : i ≠ k) : at_ (xs.set k c) i = at_ xs i := by
  have : ¬ k = i := fun e => h e.symm
  simp [at_, this]
theorem le_row {ob : Nat → Option Ob} {F N sz p n : Nat} {m : Nat → Nat} {g : Nat → Nat → List AV} {fr : Bool} {f : Nat → List AV} (h : ob F = some (.fam N sz m g)) (hp : p < N) (hn : m p = n)
    (hf : ∀ i, i < n → g p i = f i ∨ (AV.idsL (f i) = [] ∧ leL (fun _ => none) false (g p i) (f i))) : le ob true (.row F p) (.sl fr sz n f) := by
  simp only [le, h]
  exact ⟨fun _ => trivial, hp, trivial, hn, hf⟩


def Stroke.withPoints (x : Stroke) (ys : List Point) : Stroke := Stroke.mk ys
def oStrokec (F : Nat) (x : Stroke) (i : Nat) : List AV := [.row F i]
def oStroke (F : Nat) (xs : List Stroke) (i : Nat) : List AV := oStrokec F (at_ xs i) i
def mStroke (xs : List Stroke) (p : Nat) : Nat := ((at_ xs p).Points).length
def gStroke (xs : List Stroke) (p : Nat) : Nat → List AV := fPoint ((at_ xs p).Points)
abbrev tOStroke (F : Nat) (xs : List Stroke) : Ob := .oar [F] 1 xs.length (oStroke F xs)
abbrev tFStroke (xs : List Stroke) : Ob := .fam xs.length 3 (mStroke xs) (gStroke xs)
theorem oleStroke {ob : Nat → Option Ob} {F : Nat} (fr : Bool) (xs : List Stroke) (h : ob F = some (.fam xs.length 3 (mStroke xs) (gStroke xs))) : ∀ i, i < xs.length → AV.idsL (fStroke fr xs i) = [] ∧ leL ob true (oStroke F xs i) (fStroke fr xs i) :=
  fun i hi => And.intro rfl (And.intro (le_row h hi rfl (fun q _ => .inl rfl)) rfl)
theorem ocatStroke {F j N : Nat} (hF : Nat.beq F j = false) {xs : List Stroke} {x : Stroke} {g : Nat → List AV} (hN : N = xs.length) (hx : AV.joiL j F N (g 0) = oStrokec F x N) : ∀ i, i < (xs ++ [x]).length → AV.joiL j F N (catF xs.length (oStroke F xs) g i) = oStroke F (xs ++ [x]) i := by
  subst hN
  intro i hi
  by_cases h : i < xs.length
  · rw [catF_lt h]
    simp [oStroke, oStrokec, at_left h, AV.joiL, AV.joi, hF]
  · have e : i = xs.length := by simp at hi; omega
    subst e
    rw [catF_ge (Nat.le_refl _), Nat.sub_self, hx]
    simp [oStroke, at_right (Nat.le_refl _), at_]
theorem fcatStroke {xs : List Stroke} (x : Stroke) {n : Nat} {f : Nat → List AV} (hn : n = x.Points.length) (hf : ∀ i, i < n → f i = fPoint x.Points i) : xs.length + 1 = (xs ++ [x]).length ∧ 3 = 3 ∧ ∀ p, p < (xs ++ [x]).length → famUp xs.length n (mStroke xs) p = mStroke (xs ++ [x]) p ∧ ∀ i, i < mStroke (xs ++ [x]) p → famUpF xs.length f (gStroke xs) p i = gStroke (xs ++ [x]) p i ∨ (AV.idsL (gStroke (xs ++ [x]) p i) = [] ∧ leL (fun _ => none) false (famUpF xs.length f (gStroke xs) p i) (gStroke (xs ++ [x]) p i)) := by
  refine ⟨by simp, rfl, fun p hp => ?_⟩
  by_cases h : p < xs.length
  · have e : Nat.beq p xs.length = false := Bool.eq_false_iff.2 fun e => by have := Nat.eq_of_beq_eq_true e; omega
    simp [famUp, famUpF, e, mStroke, gStroke, at_left h]
  · have e : p = xs.length := by simp at hp; omega
    subst e
    have e2 : at_ (xs ++ [x]) xs.length = x := by simp [at_right (Nat.le_refl _), at_]
    simp only [famUp, famUpF, Nat.beq_refl, cond_true, mStroke, gStroke, e2]
    exact ⟨hn, fun i hi => .inl (hf i (by omega))⟩

-- spec.l02Draw
theorem l02Draw_ok (s : l00Src) (most : Int) (hs : okSrc s) (ha : s.atx ≤ 3999999999999995000) (hm : 0 ≤ most ∧ most ≤ 10) : ∃ (s' : l00Src) (ss : List Stroke), (okSrc s') ∧ (s'.code = s.code) ∧ (s.atx + 0 ≤ s'.atx ∧ s'.atx ≤ s.atx + 3000) ∧ ((ss.length : Int) ≤ most) ∧ (∀ t ∈ ss, 1 ≤ t.Points.length ∧ t.Points.length ≤ 10) ∧ (okInk' ⟨ss⟩ = true) ∧ CallOK Tryz.prog 39 [.ref 7001 0, I most] (lookO [(7001, bxl00Src s)]) false (.agg [.arr 8011]) (lookO [(7001, bxl00Src s'), (8011, tOStroke 8012 ss), (8012, tFStroke ss)]) := by
  have hh : ∃ r : l00Src × (List Stroke), ((okSrc r.1) ∧ (r.1.code = s.code) ∧ (s.atx + 0 ≤ r.1.atx ∧ r.1.atx ≤ s.atx + 3000) ∧ ((r.2.length : Int) ≤ most) ∧ (∀ t ∈ r.2, 1 ≤ t.Points.length ∧ t.Points.length ≤ 10) ∧ (okInk' ⟨r.2⟩ = true) ∧ (True)) ∧ CallOK Tryz.prog 39 [.ref 7001 0, I most] (lookO [(7001, bxl00Src s)]) false (.agg [.arr 8011]) (lookO [(7001, bxl00Src r.1), (8011, tOStroke 8012 r.2), (8012, tFStroke r.2)]) := by
    refine fn_okX (Φ := fun r : l00Src × (List Stroke) => (okSrc r.1) ∧ (r.1.code = s.code) ∧ (s.atx + 0 ≤ r.1.atx ∧ r.1.atx ≤ s.atx + 3000) ∧ ((r.2.length : Int) ≤ most) ∧ (∀ t ∈ r.2, 1 ≤ t.Points.length ∧ t.Points.length ≤ 10) ∧ (okInk' ⟨r.2⟩ = true) ∧ (True)) [(7001, bxl00Src s)] (fun r => [(7001, bxl00Src r.1), (8011, tOStroke 8012 r.2), (8012, tFStroke r.2)]) (fn := Tryz.f39) (nt := 47) Tryz.func39 rfl rfl (args := [.ref 7001 0, I most]) rfl (allcons (.inr trivial) (allcons (.inl ⟨rfl, trivial⟩) allnil)) (res := fun r => .agg [.arr 8011]) ?_
    refine xR [(0, .new 4)] [0, 1, 4] [4, 7001] [.ref 7001 0, I most, .ref 4 0] [some (.box [nilA]), some (bxl00Src s)] [] trivial ?_
    refine xR [(1, .new 5)] [0, 1, 4, 5] [4, 5, 7001] [.ref 7001 0, I most, .ref 4 0, .ref 5 0] [some (.box [nilA]), some (.box [nilA]), some (bxl00Src s)] [] trivial ?_
    refine x_seq ?_
    obtain ⟨v_1, s'_1, hx1_0, hx1_1, hx1_2, hx1_3, hc1⟩ := pick_ok s 100 (by first | assumption | (simp only [okSrc] at *; simp_all; done)) (by omega)
    refine x_r [(1, .lend [(7001, bxl00Src s, bxl00Src s'_1)] [] [(true, .any), (true, .any)] true (I v_1))] [0, 1, 4, 5, 6] [4, 5, 7001] [.ref 7001 0, I most, .ref 4 0, .ref 5 0, I v_1] [some (.box [nilA]), some (.box [nilA]), some (bxl00Src s'_1)] [CallOK Tryz.prog 17 [.ref 7001 0, I 100] (lookO [(7001, bxl00Src s)]) true (I v_1) (lookO [(7001, bxl00Src s'_1)]) ∧ (((bxl00Src s : Ob) = bxl00Src s ∨ obLe noOb true (bxl00Src s) (bxl00Src s)) ∧ taggedO false (bxl00Src s)) ∧ True] ⟨⟨hc1, ⟨.inl rfl, (by simp [taggedO, taggedL, tagged, tagU8])⟩, trivial⟩, trivial⟩ ?_
    refine xe_then ?_
    refine x_seq ?_
    obtain ⟨v_2, s'_2, hx2_0, hx2_1, hx2_2, hx2_3, hc2⟩ := pick_ok s'_1 200 (by first | assumption | (simp only [okSrc] at *; simp_all; done)) (by omega)
    refine x_r [(1, .lend [(7001, bxl00Src s'_1, bxl00Src s'_2)] [] [(true, .any), (true, .any)] true (I v_2))] [0, 1, 4, 5, 6, 7] [4, 5, 7001] [.ref 7001 0, I most, .ref 4 0, .ref 5 0, I v_1, I (100 + v_2)] [some (.box [nilA]), some (.box [nilA]), some (bxl00Src s'_2)] [CallOK Tryz.prog 17 [.ref 7001 0, I 200] (lookO [(7001, bxl00Src s'_1)]) true (I v_2) (lookO [(7001, bxl00Src s'_2)]) ∧ (((bxl00Src s'_1 : Ob) = bxl00Src s'_1 ∨ obLe noOb true (bxl00Src s'_1) (bxl00Src s'_1)) ∧ taggedO false (bxl00Src s'_1)) ∧ True, inR .i64 (100 + v_2)] ⟨⟨hc2, ⟨.inl rfl, (by simp [taggedO, taggedL, tagged, tagU8])⟩, trivial⟩, (inR_i64 (by omega) (by omega)), trivial⟩ ?_
    refine xe_then ?_
    refine x_seq ?_
    refine x_seq ?_
    obtain ⟨v_3, s'_3, hx3_0, hx3_1, hx3_2, hx3_3, hc3⟩ := pick_ok s'_2 (most + 1) (by first | assumption | (simp only [okSrc] at *; simp_all; done)) (by omega)
    refine x_r [(3, .lend [(7001, bxl00Src s'_2, bxl00Src s'_3)] [] [(true, .any), (true, .any)] true (I v_3))] [0, 4, 5, 6, 7, 8] [4, 5, 7001] [.ref 7001 0, .ref 4 0, .ref 5 0, I v_1, I (100 + v_2), I v_3] [some (.box [nilA]), some (.box [nilA]), some (bxl00Src s'_3)] [inR .i64 (most + 1), CallOK Tryz.prog 17 [.ref 7001 0, I (most + 1)] (lookO [(7001, bxl00Src s'_2)]) true (I v_3) (lookO [(7001, bxl00Src s'_3)]) ∧ (((bxl00Src s'_2 : Ob) = bxl00Src s'_2 ∨ obLe noOb true (bxl00Src s'_2) (bxl00Src s'_2)) ∧ taggedO false (bxl00Src s'_2)) ∧ True] ⟨(inR_i64 (by omega) (by omega)), ⟨hc3, ⟨.inl rfl, (by simp [taggedO, taggedL, tagged, tagU8])⟩, trivial⟩, trivial⟩ ?_
    refine xe_then ?_
    refine x_block ?_
    refine x_nilC 5 0 750 1 (fun _ => []) rfl (by kernel_rfl) ?_
    refine x_fam 8012 3 (fun _ => 0) (fun _ _ => []) (by kernel_rfl) ?_
    refine x_weak [] (T := [(0, .ref 7001 0), (4, .ref 4 0), (5, .ref 5 0), (6, I v_1), (7, I (100 + v_2)), (8, I v_3)]) (O := [(4, .box [nilA]), (5, .box [.arr 750]), (750, tOStroke 8012 ([] : List Stroke)), (7001, bxl00Src s'_3), (8012, tFStroke ([] : List Stroke))]) rfl (⟨.inl rfl, .inl rfl, .inl rfl, .inl rfl, .inl rfl, .inl rfl, trivial⟩) (⟨.inl rfl, .inl rfl, .inr ⟨rfl, rfl, fun i hi => absurd hi (Nat.not_lt_zero _)⟩, .inl rfl, .inr ⟨rfl, rfl, fun p hp => absurd hp (Nat.not_lt_zero _)⟩, trivial⟩) ?_
    refine x_loop (X := Int × Int × Int × (List Stroke) × l00Src) (fun x => mkS [(0, .ref 7001 0), (4, .ref 4 0), (5, .ref 5 0), (6, I x.1), (7, I x.2.1), (8, I x.2.2.1)] [(4, .box [nilA]), (5, .box [.arr 750]), (750, tOStroke 8012 x.2.2.2.1), (7001, bxl00Src x.2.2.2.2), (8012, tFStroke x.2.2.2.1)]) (fun x => (okSrc x.2.2.2.2 ∧ x.2.2.2.2.code = s.code ∧ s.atx ≤ x.2.2.2.2.atx ∧ x.2.2.2.2.atx ≤ s.atx + 10 + 210 * (most - x.2.2.1)) ∧ (0 ≤ x.2.2.1 ∧ x.2.2.1 ≤ most) ∧ ((x.2.2.2.1.length : Int) + x.2.2.1 ≤ most) ∧ (0 ≤ x.1 ∧ x.1 ≤ 100 + 500 * (most - x.2.2.1)) ∧ (∀ t ∈ x.2.2.2.1, 1 ≤ t.Points.length ∧ t.Points.length ≤ 10) ∧ (0 ≤ x.2.1 ∧ x.2.1 ≤ 300 + 200 * (most - x.2.2.1)) ∧ (inkD x.2.2.2.1 x.1) ∧ True) (fun x => x.2.2.1.toNat) (v_1, (100 + v_2), v_3, ([] : List Stroke), s'_3) rfl (show (okSrc s'_3 ∧ s'_3.code = s.code ∧ s.atx ≤ s'_3.atx ∧ s'_3.atx ≤ s.atx + 10 + 210 * (most - v_3)) ∧ (0 ≤ v_3 ∧ v_3 ≤ most) ∧ ((([] : List Stroke).length : Int) + v_3 ≤ most) ∧ (0 ≤ v_1 ∧ v_1 ≤ 100 + 500 * (most - v_3)) ∧ (∀ t ∈ ([] : List Stroke), 1 ≤ t.Points.length ∧ t.Points.length ≤ 10) ∧ (0 ≤ (100 + v_2) ∧ (100 + v_2) ≤ 300 + 200 * (most - v_3)) ∧ (inkD ([] : List Stroke) v_1) ∧ True from ⟨(by exact ⟨by assumption, by first | assumption | rfl | (simp only [*]; done), by omega, by omega⟩), (by omega), (by simp; omega), (by omega), (by (intro z hz; simp at hz)), (by omega), (by exact inkD_nil _), trivial⟩) (fun x hI => ?_)
    obtain ⟨time, x, k, ss, src⟩ := x
    obtain ⟨hs0, hk0, hl0, ht0, hp0, hx0, hik, _⟩ : (okSrc src ∧ src.code = s.code ∧ s.atx ≤ src.atx ∧ src.atx ≤ s.atx + 10 + 210 * (most - k)) ∧ (0 ≤ k ∧ k ≤ most) ∧ ((ss.length : Int) + k ≤ most) ∧ (0 ≤ time ∧ time ≤ 100 + 500 * (most - k)) ∧ (∀ t ∈ ss, 1 ≤ t.Points.length ∧ t.Points.length ≤ 10) ∧ (0 ≤ x ∧ x ≤ 300 + 200 * (most - k)) ∧ (inkD ss time) ∧ True := hI
    show XW _ _ _ _ (mkS [(0, .ref 7001 0), (4, .ref 4 0), (5, .ref 5 0), (6, I time), (7, I x), (8, I k)] [(4, .box [nilA]), (5, .box [.arr 750]), (750, tOStroke 8012 ss), (7001, bxl00Src src), (8012, tFStroke ss)]) _ _
    refine x_seq ?_
    refine x_seq ?_
    by_cases h1 : 0 < k
    ·refine x_r [(1, .dec true)] [0, 4, 5, 6, 7, 8, 21] [4, 5, 750, 7001, 8012] [.ref 7001 0, .ref 4 0, .ref 5 0, I time, I x, I k, Bv true] [some (.box [nilA]), some (.box [.arr 750]), some (tOStroke 8012 ss), some (bxl00Src src), some (tFStroke ss)] [0 < k] ⟨h1, trivial⟩ ?_
     refine xe_then ?_
     refine x_true rfl ?_
     refine x_skip ?_
     refine xe_then ?_
     refine x_seq ?_
     refine x_block ?_
     refine x_seq ?_
     obtain ⟨v_4, s'_4, hx4_0, hx4_1, hx4_2, hx4_3, hc4⟩ := pick_ok src 200 (by first | assumption | (simp only [okSrc] at *; simp_all; done)) (by omega)
     obtain ⟨s'_5, pts_5, hx5_0, hx5_1, hx5_2, hx5_3, hx5_4, hx5_5, hc5⟩ := l02DrawStroke_ok s'_4 time x (300 + v_4) (by first | assumption | (simp only [okSrc] at *; simp_all; done)) (by omega) (by omega)
     have hlt : time ≤ (at_ (Stroke.mk pts_5).Points ((Stroke.mk pts_5).Points.length - 1)).T ∧ (at_ (Stroke.mk pts_5).Points ((Stroke.mk pts_5).Points.length - 1)).T ≤ time + 210 := hx5_4 _ (last_mem (xs := pts_5) (by omega))
     have hvs : okStroke' (Stroke.mk pts_5) = true := hx5_5 ⟨by omega, by omega⟩
     have hvt := hx5_4
     refine x_r [(4, .lend [(7001, bxl00Src src, bxl00Src s'_4)] [] [(true, .any), (true, .any)] true (I v_4)), (6, .lend [(7001, bxl00Src s'_4, bxl00Src s'_5)] [(8001, tAPoint pts_5)] [(true, .any), (true, .any), (true, .any), (true, .any)] false (.agg [.arr 8001])), (7, .new 9)] [0, 4, 5, 7, 8, 9] [4, 5, 9, 750, 7001, 8001, 8012] [.ref 7001 0, .ref 4 0, .ref 5 0, I x, I k, .ref 9 0] [some (.box [nilA]), some (.box [.arr 750]), some (.box [.arr 8001]), some (tOStroke 8012 ss), some (bxl00Src s'_5), some (tAPoint pts_5), some (tFStroke ss)] [CallOK Tryz.prog 17 [.ref 7001 0, I 200] (lookO [(7001, bxl00Src src)]) true (I v_4) (lookO [(7001, bxl00Src s'_4)]) ∧ (((bxl00Src src : Ob) = bxl00Src src ∨ obLe noOb true (bxl00Src src) (bxl00Src src)) ∧ taggedO false (bxl00Src src)) ∧ True, inR .i64 (300 + v_4), CallOK Tryz.prog 78 [.ref 7001 0, I time, I x, I (300 + v_4)] (lookO [(7001, bxl00Src s'_4)]) false (.agg [.arr 8001]) (lookO [(7001, bxl00Src s'_5), (8001, tAPoint pts_5)]) ∧ (((bxl00Src s'_4 : Ob) = bxl00Src s'_4 ∨ obLe noOb true (bxl00Src s'_4) (bxl00Src s'_4)) ∧ taggedO false (bxl00Src s'_4)) ∧ True] ⟨⟨hc4, ⟨.inl rfl, (by simp [taggedO, taggedL, tagged, tagU8])⟩, trivial⟩, (inR_i64 (by omega) (by omega)), ⟨hc5, ⟨.inl rfl, (by simp [taggedO, taggedL, tagged, tagU8])⟩, trivial⟩, trivial⟩ ?_
     refine xe_then ?_
     refine xR [(3, .new 34), (4, .new 35)] [0, 4, 5, 7, 8, 9] [4, 5, 9, 35, 7001, 8001, 8012] [.ref 7001 0, .ref 4 0, .ref 5 0, I x, I k, .ref 9 0] [some (.box [nilA]), some (.box [.arr 35]), some (.box [.arr 8001]), some (.oar [8012, 8001] 1 (ss.length + 1) (catF ss.length (oStroke 8012 ss) (litF [.arr 8001] 1))), some (bxl00Src s'_5), some (tAPoint pts_5), some (tFStroke ss)] [(ss.length + 1) * 24 ≤ 140737488355328] ⟨(by omega), trivial⟩ ?_
     refine x_seq ?_
     obtain ⟨v_6, s'_6, hx6_0, hx6_1, hx6_2, hx6_3, hc6⟩ := pick_ok s'_5 200 (by first | assumption | (simp only [okSrc] at *; simp_all; done)) (by omega)
     refine x_r [(0, .call [(false, .ptr false [slPoint false pts_5])] true (I ((at_ (Stroke.mk pts_5).Points ((Stroke.mk pts_5).Points.length - 1)).T))), (3, .lend [(7001, bxl00Src s'_5, bxl00Src s'_6)] [] [(true, .any), (true, .any)] true (I v_6))] [0, 4, 5, 6, 7, 8] [4, 5, 35, 7001, 8001, 8012] [.ref 7001 0, .ref 4 0, .ref 5 0, I ((((at_ (Stroke.mk pts_5).Points ((Stroke.mk pts_5).Points.length - 1)).T) + 1) + v_6), I x, I k] [some (.box [nilA]), some (.box [.arr 35]), some (.oar [8012, 8001] 1 (ss.length + 1) (catF ss.length (oStroke 8012 ss) (litF [.arr 8001] 1))), some (bxl00Src s'_6), some (tAPoint pts_5), some (tFStroke ss)] [Con Tryz.prog 54 [.ptr false [slPoint false pts_5]] true (I ((at_ (Stroke.mk pts_5).Points ((Stroke.mk pts_5).Points.length - 1)).T)) ∧ ((false = true → true = true) ∧ AV.idsL [slPoint false pts_5] = [] ∧ ((false = true → true = true) ∧ 3 = 3 ∧ pts_5.length = pts_5.length ∧ ∀ i_, i_ < pts_5.length → (fPoint pts_5) i_ = (fPoint pts_5) i_ ∨ (AV.idsL ((fPoint pts_5) i_) = [] ∧ leL (fun _ => none) false ((fPoint pts_5) i_) ((fPoint pts_5) i_))) ∧ ([] : List AV) = []) ∧ True, inR .i64 (((at_ (Stroke.mk pts_5).Points ((Stroke.mk pts_5).Points.length - 1)).T) + 1), CallOK Tryz.prog 17 [.ref 7001 0, I 200] (lookO [(7001, bxl00Src s'_5)]) true (I v_6) (lookO [(7001, bxl00Src s'_6)]) ∧ (((bxl00Src s'_5 : Ob) = bxl00Src s'_5 ∨ obLe noOb true (bxl00Src s'_5) (bxl00Src s'_5)) ∧ taggedO false (bxl00Src s'_5)) ∧ True, inR .i64 ((((at_ (Stroke.mk pts_5).Points ((Stroke.mk pts_5).Points.length - 1)).T) + 1) + v_6)] ⟨⟨(l02Last_ok (Stroke.mk pts_5) (by first | assumption | (simp only; omega))), ⟨(fun h => by cases h), rfl, ⟨⟨(fun h => by cases h), rfl, rfl, fun i _ => .inl rfl⟩, rfl⟩⟩, trivial⟩, (inR_i64 (by omega) (by omega)), ⟨hc6, ⟨.inl rfl, (by simp [taggedO, taggedL, tagged, tagU8])⟩, trivial⟩, (inR_i64 (by omega) (by omega)), trivial⟩ ?_
     refine xe_then ?_
     obtain ⟨v_7, s'_7, hx7_0, hx7_1, hx7_2, hx7_3, hc7⟩ := pick_ok s'_6 200 (by first | assumption | (simp only [okSrc] at *; simp_all; done)) (by omega)
     refine x_r [(2, .lend [(7001, bxl00Src s'_6, bxl00Src s'_7)] [] [(true, .any), (true, .any)] true (I v_7))] [0, 4, 5, 6, 7, 8] [4, 5, 35, 7001, 8001, 8012] [.ref 7001 0, .ref 4 0, .ref 5 0, I ((((at_ (Stroke.mk pts_5).Points ((Stroke.mk pts_5).Points.length - 1)).T) + 1) + v_6), I (x + v_7), I k] [some (.box [nilA]), some (.box [.arr 35]), some (.oar [8012, 8001] 1 (ss.length + 1) (catF ss.length (oStroke 8012 ss) (litF [.arr 8001] 1))), some (bxl00Src s'_7), some (tAPoint pts_5), some (tFStroke ss)] [CallOK Tryz.prog 17 [.ref 7001 0, I 200] (lookO [(7001, bxl00Src s'_6)]) true (I v_7) (lookO [(7001, bxl00Src s'_7)]) ∧ (((bxl00Src s'_6 : Ob) = bxl00Src s'_6 ∨ obLe noOb true (bxl00Src s'_6) (bxl00Src s'_6)) ∧ taggedO false (bxl00Src s'_6)) ∧ True, inR .i64 (x + v_7)] ⟨⟨hc7, ⟨.inl rfl, (by simp [taggedO, taggedL, tagged, tagU8])⟩, trivial⟩, (inR_i64 (by omega) (by omega)), trivial⟩ ?_
     refine xe_block 1 ?_
     refine xe_then ?_
     refine x_r [] [0, 4, 5, 6, 7, 8] [4, 5, 35, 7001, 8001, 8012] [.ref 7001 0, .ref 4 0, .ref 5 0, I ((((at_ (Stroke.mk pts_5).Points ((Stroke.mk pts_5).Points.length - 1)).T) + 1) + v_6), I (x + v_7), I (k - 1)] [some (.box [nilA]), some (.box [.arr 35]), some (.oar [8012, 8001] 1 (ss.length + 1) (catF ss.length (oStroke 8012 ss) (litF [.arr 8001] 1))), some (bxl00Src s'_7), some (tAPoint pts_5), some (tFStroke ss)] [inR .i64 (k - 1)] ⟨(inR_i64 (by omega) (by omega)), trivial⟩ ?_
     refine xe_join 8001 8012 rfl rfl rfl ?_
     refine xe_weak [(750, 35)] (T := [(0, .ref 7001 0), (4, .ref 4 0), (5, .ref 5 0), (6, I ((((at_ (Stroke.mk pts_5).Points ((Stroke.mk pts_5).Points.length - 1)).T) + 1) + v_6)), (7, I (x + v_7)), (8, I (k - 1))]) (O := [(4, .box [nilA]), (5, .box [.arr 750]), (750, tOStroke 8012 (ss ++ [(Stroke.mk pts_5)])), (7001, bxl00Src s'_7), (8012, tFStroke (ss ++ [(Stroke.mk pts_5)]))]) rfl (⟨.inl rfl, .inl rfl, .inl rfl, .inl rfl, .inl rfl, .inl rfl, trivial⟩) (⟨.inl rfl, .inl rfl, .inr ⟨rfl, rfl, (by simp), fun i hi => .inl (ocatStroke rfl rfl rfl i hi)⟩, .inl rfl, .inr (fcatStroke (Stroke.mk pts_5) (by first | rfl | (simp; done)) (fun i_ hi_ => (by first | rfl | fail))), trivial⟩) (xe_again (((((at_ (Stroke.mk pts_5).Points ((Stroke.mk pts_5).Points.length - 1)).T) + 1) + v_6), (x + v_7), (k - 1), (ss ++ [(Stroke.mk pts_5)]), s'_7) rfl (show (okSrc s'_7 ∧ s'_7.code = s.code ∧ s.atx ≤ s'_7.atx ∧ s'_7.atx ≤ s.atx + 10 + 210 * (most - (k - 1))) ∧ (0 ≤ (k - 1) ∧ (k - 1) ≤ most) ∧ (((ss ++ [(Stroke.mk pts_5)]).length : Int) + (k - 1) ≤ most) ∧ (0 ≤ ((((at_ (Stroke.mk pts_5).Points ((Stroke.mk pts_5).Points.length - 1)).T) + 1) + v_6) ∧ ((((at_ (Stroke.mk pts_5).Points ((Stroke.mk pts_5).Points.length - 1)).T) + 1) + v_6) ≤ 100 + 500 * (most - (k - 1))) ∧ (∀ t ∈ (ss ++ [(Stroke.mk pts_5)]), 1 ≤ t.Points.length ∧ t.Points.length ≤ 10) ∧ (0 ≤ (x + v_7) ∧ (x + v_7) ≤ 300 + 200 * (most - (k - 1))) ∧ (inkD (ss ++ [(Stroke.mk pts_5)]) ((((at_ (Stroke.mk pts_5).Points ((Stroke.mk pts_5).Points.length - 1)).T) + 1) + v_6)) ∧ True from ⟨(by exact ⟨by assumption, by first | assumption | rfl | (simp only [*]; done), by omega, by omega⟩), (by omega), (by simp; omega), (by omega), (by exact all_snoc hp0 (by dsimp only; omega)), (by omega), (by exact inkD_snoc hik hvs (fun p hp => (hvt p hp).1) (by have := hlt; unfold lastT; omega) (by omega) (by omega)), trivial⟩) (by first | (show ((k - 1).toNat : Nat) < k.toNat; omega) | (dsimp only; omega)))
    refine x_r [(1, .dec false)] [0, 4, 5, 6, 7, 8, 21] [4, 5, 750, 7001, 8012] [.ref 7001 0, .ref 4 0, .ref 5 0, I time, I x, I k, Bv false] [some (.box [nilA]), some (.box [.arr 750]), some (tOStroke 8012 ss), some (bxl00Src src), some (tFStroke ss)] [¬ (0 < k)] ⟨h1, trivial⟩ ?_
    refine xe_then ?_
    refine x_false rfl ?_
    refine x_exit ?_
    refine xe_exit_then ?_
    refine xe_loop_exit ?_
    refine xe_exit_same ?_
    refine xe_then ?_
    refine xR [] [4] [4, 750, 7001, 8012] [.ref 4 0] [some (.box [.arr 750]), some (tOStroke 8012 ss), some (bxl00Src src), some (tFStroke ss)] [] trivial ?_
    refine x_ret ?_
    refine xe_weak [(8011, 750)] (T := [(4, .ref 4 0)]) (O := [(4, .box [.arr 8011]), (7001, bxl00Src src), (8011, tOStroke 8012 ss), (8012, tFStroke ss)]) rfl (⟨.inl rfl, trivial⟩) (⟨.inl rfl, .inl rfl, .inl rfl, .inl rfl, trivial⟩) ?_
    refine xe_end (src, ss) (show (okSrc src) ∧ (src.code = s.code) ∧ (s.atx + 0 ≤ src.atx ∧ src.atx ≤ s.atx + 3000) ∧ ((ss.length : Int) ≤ most) ∧ (∀ t ∈ ss, 1 ≤ t.Points.length ∧ t.Points.length ≤ 10) ∧ (okInk' ⟨ss⟩ = true) ∧ (True) from ⟨(by first | exact hik.1 | omega | assumption | rfl | (simp; done) | (simp; omega) | (simp_all; done)), (by first | exact hik.1 | omega | assumption | rfl | (simp; done) | (simp; omega) | (simp_all; done)), (by first | exact hik.1 | omega | assumption | rfl | (simp; done) | (simp; omega) | (simp_all; done)), (by first | exact hik.1 | omega | assumption | rfl | (simp; done) | (simp; omega) | (simp_all; done)), (by first | exact hik.1 | omega | assumption | rfl | (simp; done) | (simp; omega) | (simp_all; done)), (by first | exact hik.1 | omega | assumption | rfl | (simp; done) | (simp; omega) | (simp_all; done)), trivial⟩) (⟨.inl rfl, .inl rfl, .inl rfl, trivial⟩) (.agg [.arr 8011]) (by kernel_rfl) (.inl rfl) (fun h => by cases h) (fun h => by cases h)
  obtain ⟨⟨s', ss⟩, ⟨hh0, hh1, hh2, hh3, hh4, hh5, _⟩, hc⟩ := hh
  exact ⟨s', ss, hh0, hh1, hh2, hh3, hh4, hh5, hc⟩



-- spec.l02OwnStroke
theorem l02OwnStroke_ok (s : Stroke) (hl : s.Points.length ≤ 100000) : ∃ (pts : List Point), (pts = s.Points) ∧ CallOK Tryz.prog 75 [.ptr false [slPoint false s.Points]] (lookO []) false (.agg [.arr 8041]) (lookO [(8041, tAPoint pts)]) := by
  have hh : ∃ r : (List Point), ((r = s.Points) ∧ (True)) ∧ CallOK Tryz.prog 75 [.ptr false [slPoint false s.Points]] (lookO []) false (.agg [.arr 8041]) (lookO [(8041, tAPoint r)]) := by
    refine fn_okX (Φ := fun r : (List Point) => (r = s.Points) ∧ (True)) [] (fun r => [(8041, tAPoint r)]) (fn := Tryz.f75) (nt := 10) Tryz.func75 rfl rfl (args := [.ptr false [slPoint false s.Points]]) rfl (allcons (.inl ⟨rfl, by simp [tagged, taggedL, tagPoint]⟩) allnil) (res := fun r => .agg [.arr 8041]) ?_
    refine xR [(0, .new 2)] [0, 2] [2] [.ptr false [slPoint false s.Points], .ref 2 0] [some (.box [nilA])] [] trivial ?_
    refine xR [(0, .new 3), (5, .new 8)] [2] [2, 8] [.ref 2 0] [some (.box [.arr 8]), some (.arr 3 (0 + s.Points.length) (catF 0 (litF [] 3) (fPoint s.Points)))] [(0 + s.Points.length) * 24 ≤ 140737488355328] ⟨(by omega), trivial⟩ ?_
    refine x_ret ?_
    refine xe_weak [(8041, 8)] (T := [(2, .ref 2 0)]) (O := [(2, .box [.arr 8041]), (8041, tAPoint s.Points)]) rfl (⟨.inl rfl, trivial⟩) (⟨.inl rfl, .inr ⟨rfl, (by first | rfl | (simp; done) | (simp; omega) | omega), fun i_ hi_ => .inl (cat_nil i_)⟩, trivial⟩) ?_
    refine xe_end s.Points (show (s.Points = s.Points) ∧ (True) from ⟨(by first | rfl | simp), trivial⟩) (⟨.inl rfl, trivial⟩) (.agg [.arr 8041]) (by kernel_rfl) (.inl rfl) (fun h => by cases h) (fun h => by cases h)
  obtain ⟨pts, ⟨hh0, _⟩, hc⟩ := hh
  exact ⟨pts, hh0, hc⟩



theorem take_succ_at {α : Type} [Inhabited α] {xs : List α} {i : Int} {y : α} (h0 : 0 ≤ i) (h : i.toNat < xs.length) (hy : y = at_ xs i.toNat) : xs.take (i + 1).toNat = xs.take i.toNat ++ [y] := by
  have e : (i + 1).toNat = i.toNat + 1 := by omega
  rw [e, List.take_succ_eq_append_getElem h, hy]
  simp [at_, h]


-- spec.l02Own
theorem l02Own_ok (ik : Ink) (hx : ∀ s ∈ ik.Strokes, s.Points.length ≤ 100000) (hl : ik.Strokes.length ≤ 100000) : ∃ (ss : List Stroke), (ss = ik.Strokes) ∧ CallOK Tryz.prog 41 [.ptr false [slStroke false ik.Strokes]] (lookO []) false (.agg [.arr 8031]) (lookO [(8031, tOStroke 8032 ss), (8032, tFStroke ss)]) := by
  have hh : ∃ r : (List Stroke), ((r = ik.Strokes) ∧ (True)) ∧ CallOK Tryz.prog 41 [.ptr false [slStroke false ik.Strokes]] (lookO []) false (.agg [.arr 8031]) (lookO [(8031, tOStroke 8032 r), (8032, tFStroke r)]) := by
    refine fn_okX (Φ := fun r : (List Stroke) => (r = ik.Strokes) ∧ (True)) [] (fun r => [(8031, tOStroke 8032 r), (8032, tFStroke r)]) (fn := Tryz.f41) (nt := 28) Tryz.func41 rfl rfl (args := [.ptr false [slStroke false ik.Strokes]]) rfl (allcons (.inl ⟨rfl, by simp [tagged, taggedL, tagStroke]⟩) allnil) (res := fun r => .agg [.arr 8031]) ?_
    refine xR [(0, .new 2)] [0, 2] [2] [.ptr false [slStroke false ik.Strokes], .ref 2 0] [some (.box [nilA])] [] trivial ?_
    refine xR [(1, .new 3)] [0, 2, 3] [2, 3] [.ptr false [slStroke false ik.Strokes], .ref 2 0, .ref 3 0] [some (.box [nilA]), some (.box [nilA])] [] trivial ?_
    refine x_seq ?_
    refine xR [] [0, 2, 3, 4] [2, 3] [.ptr false [slStroke false ik.Strokes], .ref 2 0, .ref 3 0, I 0] [some (.box [nilA]), some (.box [nilA])] [] trivial ?_
    refine x_block ?_
    refine x_nilC 3 0 730 1 (fun _ => []) rfl (by kernel_rfl) ?_
    refine x_fam 8032 3 (fun _ => 0) (fun _ _ => []) (by kernel_rfl) ?_
    refine x_weak [] (T := [(0, .ptr false [slStroke false ik.Strokes]), (2, .ref 2 0), (3, .ref 3 0), (4, I 0)]) (O := [(2, .box [nilA]), (3, .box [.arr 730]), (730, tOStroke 8032 ([] : List Stroke)), (8032, tFStroke ([] : List Stroke))]) rfl (⟨.inl rfl, .inl rfl, .inl rfl, .inl rfl, trivial⟩) (⟨.inl rfl, .inl rfl, .inr ⟨rfl, rfl, fun i hi => absurd hi (Nat.not_lt_zero _)⟩, .inr ⟨rfl, rfl, fun p hp => absurd hp (Nat.not_lt_zero _)⟩, trivial⟩) ?_
    refine x_loop (X := Int × (List Stroke)) (fun x => mkS [(0, .ptr false [slStroke false ik.Strokes]), (2, .ref 2 0), (3, .ref 3 0), (4, I x.1)] [(2, .box [nilA]), (3, .box [.arr 730]), (730, tOStroke 8032 x.2), (8032, tFStroke x.2)]) (fun x => (0 ≤ x.1 ∧ x.1 ≤ (ik.Strokes.length : Int)) ∧ ((x.2.length : Int) = x.1) ∧ (x.2 = ik.Strokes.take x.1.toNat) ∧ True) (fun x => ((ik.Strokes.length : Int) - x.1).toNat) (0, ([] : List Stroke)) rfl (show (0 ≤ (0 : Int) ∧ (0 : Int) ≤ (ik.Strokes.length : Int)) ∧ ((([] : List Stroke).length : Int) = (0 : Int)) ∧ (([] : List Stroke) = ik.Strokes.take (0 : Int).toNat) ∧ True from ⟨(by omega), (by rfl), (by rfl), trivial⟩) (fun x hI => ?_)
    obtain ⟨i, ss⟩ := x
    obtain ⟨hi0, hl0, hs0, _⟩ : (0 ≤ i ∧ i ≤ (ik.Strokes.length : Int)) ∧ ((ss.length : Int) = i) ∧ (ss = ik.Strokes.take i.toNat) ∧ True := hI
    show XW _ _ _ _ (mkS [(0, .ptr false [slStroke false ik.Strokes]), (2, .ref 2 0), (3, .ref 3 0), (4, I i)] [(2, .box [nilA]), (3, .box [.arr 730]), (730, tOStroke 8032 ss), (8032, tFStroke ss)]) _ _
    refine x_seq ?_
    refine x_seq ?_
    by_cases h1 : i < (ik.Strokes.length : Int)
    ·refine x_r [(6, .dec true)] [0, 2, 3, 4, 12] [2, 3, 730, 8032] [.ptr false [slStroke false ik.Strokes], .ref 2 0, .ref 3 0, I i, Bv true] [some (.box [nilA]), some (.box [.arr 730]), some (tOStroke 8032 ss), some (tFStroke ss)] [i < (ik.Strokes.length : Int)] ⟨h1, trivial⟩ ?_
     refine xe_then ?_
     refine x_true rfl ?_
     refine x_skip ?_
     refine xe_then ?_
     refine x_seq ?_
     refine x_block ?_
     obtain ⟨pts_1, hx1_0, hc1⟩ := l02OwnStroke_ok (at_ ik.Strokes i.toNat) (hx _ (at_mem (by omega)))
     refine x_r [(8, .lend [] [(8041, tAPoint pts_1)] [(true, .any)] false (.agg [.arr 8041])), (9, .new 24), (10, .new 25)] [0, 2, 3, 4] [2, 3, 25, 8032, 8041] [.ptr false [slStroke false ik.Strokes], .ref 2 0, .ref 3 0, I i] [some (.box [nilA]), some (.box [.arr 25]), some (.oar [8032, 8041] 1 (ss.length + 1) (catF ss.length (oStroke 8032 ss) (litF [.arr 8041] 1))), some (tFStroke ss), some (tAPoint pts_1)] [(0 : Int) ≤ i ∧ i < (ik.Strokes.length : Int), CallOK Tryz.prog 75 [.ptr false [slPoint false ((at_ ik.Strokes i.toNat).Points)]] (lookO []) false (.agg [.arr 8041]) (lookO [(8041, tAPoint pts_1)]) ∧ True, (ss.length + 1) * 24 ≤ 140737488355328] ⟨⟨(by omega), (by omega)⟩, ⟨hc1, trivial⟩, (by omega), trivial⟩ ?_
     refine xe_block 1 ?_
     refine xe_then ?_
     refine x_r [] [0, 2, 3, 4] [2, 3, 25, 8032, 8041] [.ptr false [slStroke false ik.Strokes], .ref 2 0, .ref 3 0, I (i + 1)] [some (.box [nilA]), some (.box [.arr 25]), some (.oar [8032, 8041] 1 (ss.length + 1) (catF ss.length (oStroke 8032 ss) (litF [.arr 8041] 1))), some (tFStroke ss), some (tAPoint pts_1)] [inR .i64 (i + 1)] ⟨(inR_i64 (by omega) (by omega)), trivial⟩ ?_
     refine xe_join 8041 8032 rfl rfl rfl ?_
     refine xe_weak [(730, 25)] (T := [(0, .ptr false [slStroke false ik.Strokes]), (2, .ref 2 0), (3, .ref 3 0), (4, I (i + 1))]) (O := [(2, .box [nilA]), (3, .box [.arr 730]), (730, tOStroke 8032 (ss ++ [(Stroke.mk pts_1)])), (8032, tFStroke (ss ++ [(Stroke.mk pts_1)]))]) rfl (⟨.inl rfl, .inl rfl, .inl rfl, .inl rfl, trivial⟩) (⟨.inl rfl, .inl rfl, .inr ⟨rfl, rfl, (by simp), fun i hi => .inl (ocatStroke rfl rfl rfl i hi)⟩, .inr (fcatStroke (Stroke.mk pts_1) (by first | rfl | (simp; done)) (fun i_ hi_ => (by first | rfl | fail))), trivial⟩) (xe_again ((i + 1), (ss ++ [(Stroke.mk pts_1)])) rfl (show (0 ≤ (i + 1) ∧ (i + 1) ≤ (ik.Strokes.length : Int)) ∧ (((ss ++ [(Stroke.mk pts_1)]).length : Int) = (i + 1)) ∧ ((ss ++ [(Stroke.mk pts_1)]) = ik.Strokes.take (i + 1).toNat) ∧ True from ⟨(by omega), (by simp; omega), (by rw [hs0]; exact (take_succ_at (by omega) (by omega) (by first | rfl | assumption | (simp only [*]; done))).symm), trivial⟩) (by first | (show (((ik.Strokes.length : Int) - (i + 1)).toNat : Nat) < ((ik.Strokes.length : Int) - i).toNat; omega) | (dsimp only; omega)))
    refine x_r [(6, .dec false)] [0, 2, 3, 4, 12] [2, 3, 730, 8032] [.ptr false [slStroke false ik.Strokes], .ref 2 0, .ref 3 0, I i, Bv false] [some (.box [nilA]), some (.box [.arr 730]), some (tOStroke 8032 ss), some (tFStroke ss)] [¬ (i < (ik.Strokes.length : Int))] ⟨h1, trivial⟩ ?_
    refine xe_then ?_
    refine x_false rfl ?_
    refine x_exit ?_
    refine xe_exit_then ?_
    refine xe_loop_exit ?_
    refine xe_exit_same ?_
    refine xe_then ?_
    refine xR [] [2] [2, 730, 8032] [.ref 2 0] [some (.box [.arr 730]), some (tOStroke 8032 ss), some (tFStroke ss)] [] trivial ?_
    refine x_ret ?_
    refine xe_weak [(8031, 730)] (T := [(2, .ref 2 0)]) (O := [(2, .box [.arr 8031]), (8031, tOStroke 8032 ss), (8032, tFStroke ss)]) rfl (⟨.inl rfl, trivial⟩) (⟨.inl rfl, .inl rfl, .inl rfl, trivial⟩) ?_
    refine xe_end ss (show (ss = ik.Strokes) ∧ (True) from ⟨(by rw [hs0]; exact List.take_of_length_le (by omega)), trivial⟩) (⟨.inl rfl, .inl rfl, trivial⟩) (.agg [.arr 8031]) (by kernel_rfl) (.inl rfl) (fun h => by cases h) (fun h => by cases h)
  obtain ⟨ss, ⟨hh0, _⟩, hc⟩ := hh
  exact ⟨ss, hh0, hc⟩



-- spec.l00Src).text
theorem text_ok (s : l00Src) (list : List ByteArray) (hs : okSrc s) (ha : s.atx ≤ 3999999999999999980) (hl : (0 < list.length ∧ list.length ≤ 1000) ∧ ∀ z ∈ list, z.size ≤ 16) : ∃ (v : ByteArray) (s' : l00Src), (v.size ≤ 16) ∧ (okSrc s') ∧ (s'.code = s.code) ∧ (s.atx + 0 ≤ s'.atx ∧ s'.atx ≤ s.atx + 2) ∧ (v ∈ list) ∧ CallOK Tryz.prog 42 [.ref 7001 0, slS false list] (lookO [(7001, bxl00Src s)]) true (Sv v) (lookO [(7001, bxl00Src s')]) := by
  have hh : ∃ r : ByteArray × l00Src, ((r.1.size ≤ 16) ∧ (okSrc r.2) ∧ (r.2.code = s.code) ∧ (s.atx + 0 ≤ r.2.atx ∧ r.2.atx ≤ s.atx + 2) ∧ (r.1 ∈ list) ∧ (True)) ∧ CallOK Tryz.prog 42 [.ref 7001 0, slS false list] (lookO [(7001, bxl00Src s)]) true (Sv r.1) (lookO [(7001, bxl00Src r.2)]) := by
    refine fn_okX (Φ := fun r : ByteArray × l00Src => (r.1.size ≤ 16) ∧ (okSrc r.2) ∧ (r.2.code = s.code) ∧ (s.atx + 0 ≤ r.2.atx ∧ r.2.atx ≤ s.atx + 2) ∧ (r.1 ∈ list) ∧ (True)) [(7001, bxl00Src s)] (fun r => [(7001, bxl00Src r.2)]) (fn := Tryz.f42) (nt := 12) Tryz.func42 rfl rfl (args := [.ref 7001 0, slS false list]) rfl (allcons (.inr trivial) (allcons (.inl ⟨rfl, tagS false _⟩) allnil)) (res := fun r => Sv r.1) ?_
    refine xR [] [0, 1] [7001] [.ref 7001 0, slS false list] [some (bxl00Src s)] [] trivial ?_
    refine x_seq ?_
    obtain ⟨v_1, s'_1, hx1_0, hx1_1, hx1_2, hx1_3, hc1⟩ := pick_ok s (list.length : Int) (by first | assumption | (simp only [okSrc] at *; simp_all; done)) (by omega)
    refine x_r [(4, .lend [(7001, bxl00Src s, bxl00Src s'_1)] [] [(true, .any), (true, .any)] true (I v_1))] [4] [7001] [Sv (at_ list v_1.toNat)] [some (bxl00Src s'_1)] [CallOK Tryz.prog 17 [.ref 7001 0, I (list.length : Int)] (lookO [(7001, bxl00Src s)]) true (I v_1) (lookO [(7001, bxl00Src s'_1)]) ∧ (((bxl00Src s : Ob) = bxl00Src s ∨ obLe noOb true (bxl00Src s) (bxl00Src s)) ∧ taggedO false (bxl00Src s)) ∧ True, (0 : Int) ≤ v_1 ∧ v_1 < (list.length : Int)] ⟨⟨hc1, ⟨.inl rfl, (by simp [taggedO, taggedL, tagged, tagU8])⟩, trivial⟩, ⟨(by omega), (by omega)⟩, trivial⟩ ?_
    refine xe_then ?_
    refine x_ret ?_
    refine xe_end ((at_ list v_1.toNat), s'_1) (show ((at_ list v_1.toNat).size ≤ 16) ∧ (okSrc s'_1) ∧ (s'_1.code = s.code) ∧ (s.atx + 0 ≤ s'_1.atx ∧ s'_1.atx ≤ s.atx + 2) ∧ ((at_ list v_1.toNat) ∈ list) ∧ (True) from ⟨(by first | omega | rfl | assumption | (dsimp only; first | omega | rfl | assumption) | (simp only [*]; done) | (exact at_mem (by omega)) | (exact hl.2 _ (at_mem (by omega))) | (simp_all; done)), (by first | omega | rfl | assumption | (dsimp only; first | omega | rfl | assumption) | (simp only [*]; done) | (exact at_mem (by omega)) | (exact hl.2 _ (at_mem (by omega))) | (simp_all; done)), (by first | omega | rfl | assumption | (dsimp only; first | omega | rfl | assumption) | (simp only [*]; done) | (exact at_mem (by omega)) | (exact hl.2 _ (at_mem (by omega))) | (simp_all; done)), (by first | omega | rfl | assumption | (dsimp only; first | omega | rfl | assumption) | (simp only [*]; done) | (exact at_mem (by omega)) | (exact hl.2 _ (at_mem (by omega))) | (simp_all; done)), (by first | omega | rfl | assumption | (dsimp only; first | omega | rfl | assumption) | (simp only [*]; done) | (exact at_mem (by omega)) | (exact hl.2 _ (at_mem (by omega))) | (simp_all; done)), trivial⟩) (⟨.inl rfl, trivial⟩) (Sv (at_ list v_1.toNat)) (by kernel_rfl) (.inl rfl) (fun _ => rfl) (fun _ => trivial)
  obtain ⟨⟨v, s'⟩, ⟨hh0, hh1, hh2, hh3, hh4, _⟩, hc⟩ := hh
  exact ⟨v, s', hh0, hh1, hh2, hh3, hh4, hc⟩



def joinB (a b : Box) : Box := ⟨min a.X1 b.X1, min a.Y1 b.Y1, max a.X2 b.X2, max a.Y2 b.Y2⟩


-- spec.l02Join
theorem l02Join_ok (a : Box) (b : Box) : Con Tryz.prog 94 [agBox a, agBox b] true (agBox (joinB a b)) := by
  refine fn_ok (fn := Tryz.f94) (nt := 26) Tryz.func94 rfl rfl rfl rfl (by simp [taggedL, tagged]) fun B hB => ?_
  refine aR [(0, .new 2), (1, .new 3), (2, .new 4)] [2, 3, 4] [2, 3, 4] [.ref 2 0, .ref 3 0, .ref 4 0] [some (bxBox a), some (bxBox b), some (.box [I 0, I 0, I 0, I 0])] [] hB trivial ?_
  refine aR [(4, .call [(true, .any), (true, .any)] true (I (min a.X1 b.X1))), (9, .call [(true, .any), (true, .any)] true (I (min a.Y1 b.Y1))), (14, .call [(true, .any), (true, .any)] true (I (max a.X2 b.X2))), (19, .call [(true, .any), (true, .any)] true (I (max a.Y2 b.Y2)))] [4] [4] [.ref 4 0] [some (.box [I (min a.X1 b.X1), I (min a.Y1 b.Y1), I (max a.X2 b.X2), I (max a.Y2 b.Y2)])] [Con Tryz.prog 119 [I a.X1, I b.X1] true (I (min a.X1 b.X1)) ∧ True, Con Tryz.prog 119 [I a.Y1, I b.Y1] true (I (min a.Y1 b.Y1)) ∧ True, Con Tryz.prog 120 [I a.X2, I b.X2] true (I (max a.X2 b.X2)) ∧ True, Con Tryz.prog 120 [I a.Y2, I b.Y2] true (I (max a.Y2 b.Y2)) ∧ True] hB ⟨⟨(l00Min_ok a.X1 b.X1), trivial⟩, ⟨(l00Min_ok a.Y1 b.Y1), trivial⟩, ⟨(l00Max_ok a.X2 b.X2), trivial⟩, ⟨(l00Max_ok a.Y2 b.Y2), trivial⟩, trivial⟩ ?_
  refine aw_ret ?_
  refine ae_ret hB (.agg [I (min a.X1 b.X1), I (min a.Y1 b.Y1), I (max a.X2 b.X2), I (max a.Y2 b.Y2)]) (by kernel_rfl) (.inl (by first | rfl | (refine congrArg Bv ?_; simp [*]; done) | (refine congrArg Bv ?_; simp [*]; omega) | (refine congrArg Bv ?_; simp_all []; done) | (refine congrArg Bv ?_; simp_all []; omega))) rfl (fun _ => (by simp [tagged, taggedL]))



def ptB (p : Point) : Box := ⟨p.X, p.Y, p.X, p.Y⟩
def boxS (xs : List Point) : Nat → Box
  | 0 => ptB (at_ xs 0)
  | k + 1 => joinB (boxS xs k) (ptB (at_ xs k))
theorem boxS_succ {xs : List Point} {i : Int} (h : 0 ≤ i) : boxS xs (i + 1).toNat = joinB (boxS xs i.toNat) (ptB (at_ xs i.toNat)) := by
  have : (i + 1).toNat = i.toNat + 1 := by omega
  rw [this]; rfl
theorem boxS_one (xs : List Point) : boxS xs 1 = ptB (at_ xs 0) := by simp [boxS, joinB, ptB]
def okBox (b : Box) : Prop := (0 ≤ b.X1 ∧ b.X1 ≤ b.X2 ∧ b.X2 ≤ 4095) ∧ 0 ≤ b.Y1 ∧ b.Y1 ≤ b.Y2 ∧ b.Y2 ≤ 4095
theorem joinB_ok {a b : Box} (ha : okBox a) (hb : okBox b) : okBox (joinB a b) := by unfold okBox joinB at *; simp only; omega
theorem ptB_ok {p : Point} (h : okP p = true) : okBox (ptB p) := by have := okP_iff.1 h; unfold okBox ptB; simp only; omega
theorem boxS_ok {s : Stroke} (ok : okStroke' s = true) : ∀ k : Nat, k ≤ s.Points.length → okBox (boxS s.Points k)
  | 0, _ => ptB_ok (okS_at ok (by have := okS_len ok; omega))
  | k + 1, h => joinB_ok (boxS_ok ok k (by omega)) (ptB_ok (okS_at ok (by omega)))
theorem boxS_all {s : Stroke} (ok : okStroke' s = true) : okBox (boxS s.Points s.Points.length) := boxS_ok ok _ (Nat.le_refl _)


-- spec.l02BoxOf
theorem l02BoxOf_ok (s : Stroke) (ok : okStroke' s = true) : Con Tryz.prog 93 [.ptr false [slPoint false s.Points]] true (agBox (boxS s.Points s.Points.length)) := by
  have hln := okS_len ok
  refine fn_ok (fn := Tryz.f93) (nt := 50) Tryz.func93 rfl rfl rfl rfl (by simp [taggedL, tagged, tagPoint]) fun B hB => ?_
  refine aw_lens (x := .ptr false [slPoint false s.Points]) 0 rfl (fun len_s => ?_)
  simp [LenOK, LenL, cPoint, fPoint, slPoint] at len_s
  refine aR [(0, .new 2)] [0, 2] [2] [.ptr false [slPoint false s.Points], .ref 2 0] [some (.box [I 0, I 0, I 0, I 0])] [] hB trivial ?_
  refine aR [(6, .new 3)] [0, 2, 3] [2, 3] [.ptr false [slPoint false s.Points], .ref 2 0, .ref 3 0] [some (.box [I 0, I 0, I 0, I 0]), some (bxPoint (at_ s.Points 0))] [(0 : Int) ≤ 0 ∧ 0 < (s.Points.length : Int)] hB ⟨⟨(by omega), (by omega)⟩, trivial⟩ ?_
  refine aR [(9, .new 4)] [0, 2, 4] [2, 4] [.ptr false [slPoint false s.Points], .ref 2 0, .ref 4 0] [some (.box [I 0, I 0, I 0, I 0]), some (.box [I ((at_ s.Points 0).X), I ((at_ s.Points 0).Y), I ((at_ s.Points 0).X), I ((at_ s.Points 0).Y)])] [] hB trivial ?_
  refine aw_seq ?_
  refine aR [] [0, 2, 4, 5] [2, 4] [.ptr false [slPoint false s.Points], .ref 2 0, .ref 4 0, I 1] [some (.box [I 0, I 0, I 0, I 0]), some (.box [I ((at_ s.Points 0).X), I ((at_ s.Points 0).Y), I ((at_ s.Points 0).X), I ((at_ s.Points 0).Y)])] [] hB trivial ?_
  refine aw_block ?_
  refine aw_loop (fun gn gσ => ∃ (i : Int) (x1 : Int) (y1 : Int) (x2 : Int) (y2 : Int), gn = ((s.Points.length : Int) - i).toNat ∧ (1 ≤ i ∧ i ≤ (s.Points.length : Int)) ∧ (Box.mk x1 y1 x2 y2 = boxS s.Points i.toNat) ∧ gσ = mkS [(0, .ptr false [slPoint false s.Points]), (2, .ref 2 0), (4, .ref 4 0), (5, I i)] [(2, .box [I 0, I 0, I 0, I 0]), (4, .box [I x1, I y1, I x2, I y2])]) (((s.Points.length : Int) - 1).toNat) ⟨1, (at_ s.Points 0).X, (at_ s.Points 0).Y, (at_ s.Points 0).X, (at_ s.Points 0).Y, rfl, (by omega), (by first | rfl | exact (boxS_one _).symm), rfl⟩ (fun gn gσ hI => ?_)
  obtain ⟨i, x1, y1, x2, y2, rfl, hi0, hb1, rfl⟩ := hI
  refine aw_seq ?_
  refine aw_seq ?_
  by_cases h1 : i < (s.Points.length : Int)
  ·have hi : i.toNat < s.Points.length := by omega
   refine aw_r [(6, .dec true)] [0, 2, 4, 5, 28] [2, 4] [.ptr false [slPoint false s.Points], .ref 2 0, .ref 4 0, I i, Bv true] [some (.box [I 0, I 0, I 0, I 0]), some (.box [I x1, I y1, I x2, I y2])] [i < (s.Points.length : Int)] hB ⟨h1, trivial⟩ ?_
   refine ae_then ?_
   refine aw_true rfl ?_
   refine aw_skip ?_
   refine ae_then ?_
   refine aw_seq ?_
   refine aw_block ?_
   refine aR [(7, .new 6)] [0, 2, 4, 5, 6] [2, 4, 6] [.ptr false [slPoint false s.Points], .ref 2 0, .ref 4 0, I i, .ref 6 0] [some (.box [I 0, I 0, I 0, I 0]), some (.box [I x1, I y1, I x2, I y2]), some (bxPoint (at_ s.Points i.toNat))] [(0 : Int) ≤ i ∧ i < (s.Points.length : Int)] hB ⟨⟨(by omega), (by omega)⟩, trivial⟩ ?_
   refine aw_r [(10, .call [(true, .any), (true, .any)] true (agBox (joinB (Box.mk x1 y1 x2 y2) (Box.mk ((at_ s.Points i.toNat).X) ((at_ s.Points i.toNat).Y) ((at_ s.Points i.toNat).X) ((at_ s.Points i.toNat).Y)))))] [0, 2, 4, 5] [2, 4] [.ptr false [slPoint false s.Points], .ref 2 0, .ref 4 0, I i] [some (.box [I 0, I 0, I 0, I 0]), some (bxBox (joinB (Box.mk x1 y1 x2 y2) (Box.mk ((at_ s.Points i.toNat).X) ((at_ s.Points i.toNat).Y) ((at_ s.Points i.toNat).X) ((at_ s.Points i.toNat).Y))))] [Con Tryz.prog 94 [.agg [I x1, I y1, I x2, I y2], .agg [I ((at_ s.Points i.toNat).X), I ((at_ s.Points i.toNat).Y), I ((at_ s.Points i.toNat).X), I ((at_ s.Points i.toNat).Y)]] true (agBox (joinB (Box.mk x1 y1 x2 y2) (Box.mk ((at_ s.Points i.toNat).X) ((at_ s.Points i.toNat).Y) ((at_ s.Points i.toNat).X) ((at_ s.Points i.toNat).Y)))) ∧ True] hB ⟨⟨(l02Join_ok (Box.mk x1 y1 x2 y2) (Box.mk ((at_ s.Points i.toNat).X) ((at_ s.Points i.toNat).Y) ((at_ s.Points i.toNat).X) ((at_ s.Points i.toNat).Y))), trivial⟩, trivial⟩ ?_
   refine ae_block 1 ?_
   refine ae_then ?_
   refine aw_r [] [0, 2, 4, 5] [2, 4] [.ptr false [slPoint false s.Points], .ref 2 0, .ref 4 0, I (i + 1)] [some (.box [I 0, I 0, I 0, I 0]), some (bxBox (joinB (Box.mk x1 y1 x2 y2) (Box.mk ((at_ s.Points i.toNat).X) ((at_ s.Points i.toNat).Y) ((at_ s.Points i.toNat).X) ((at_ s.Points i.toNat).Y))))] [inR .i64 (i + 1)] hB ⟨(inR_i64 (by omega) (by omega)), trivial⟩ ?_
   refine ae_weak hB [] (T := [(0, .ptr false [slPoint false s.Points]), (2, .ref 2 0), (4, .ref 4 0), (5, I (i + 1))]) (O := [(2, .box [I 0, I 0, I 0, I 0]), (4, .box [I ((joinB (Box.mk x1 y1 x2 y2) (Box.mk ((at_ s.Points i.toNat).X) ((at_ s.Points i.toNat).Y) ((at_ s.Points i.toNat).X) ((at_ s.Points i.toNat).Y))).X1), I ((joinB (Box.mk x1 y1 x2 y2) (Box.mk ((at_ s.Points i.toNat).X) ((at_ s.Points i.toNat).Y) ((at_ s.Points i.toNat).X) ((at_ s.Points i.toNat).Y))).Y1), I ((joinB (Box.mk x1 y1 x2 y2) (Box.mk ((at_ s.Points i.toNat).X) ((at_ s.Points i.toNat).Y) ((at_ s.Points i.toNat).X) ((at_ s.Points i.toNat).Y))).X2), I ((joinB (Box.mk x1 y1 x2 y2) (Box.mk ((at_ s.Points i.toNat).X) ((at_ s.Points i.toNat).Y) ((at_ s.Points i.toNat).X) ((at_ s.Points i.toNat).Y))).Y2)])]) rfl (⟨.inl rfl, .inl rfl, .inl rfl, .inl rfl, trivial⟩) (⟨.inl rfl, .inr ⟨rfl, ⟨rfl, ⟨rfl, ⟨rfl, rfl⟩⟩⟩⟩, trivial⟩) (ae_again _ (by omega) ⟨(i + 1), (joinB (Box.mk x1 y1 x2 y2) (Box.mk ((at_ s.Points i.toNat).X) ((at_ s.Points i.toNat).Y) ((at_ s.Points i.toNat).X) ((at_ s.Points i.toNat).Y))).X1, (joinB (Box.mk x1 y1 x2 y2) (Box.mk ((at_ s.Points i.toNat).X) ((at_ s.Points i.toNat).Y) ((at_ s.Points i.toNat).X) ((at_ s.Points i.toNat).Y))).Y1, (joinB (Box.mk x1 y1 x2 y2) (Box.mk ((at_ s.Points i.toNat).X) ((at_ s.Points i.toNat).Y) ((at_ s.Points i.toNat).X) ((at_ s.Points i.toNat).Y))).X2, (joinB (Box.mk x1 y1 x2 y2) (Box.mk ((at_ s.Points i.toNat).X) ((at_ s.Points i.toNat).Y) ((at_ s.Points i.toNat).X) ((at_ s.Points i.toNat).Y))).Y2, rfl, (by omega), (by rw [boxS_succ (by omega), ← hb1]; rfl), rfl⟩)
  have hie : i.toNat = s.Points.length := by omega
  rw [hie] at hb1
  refine aw_r [(6, .dec false)] [0, 2, 4, 5, 28] [2, 4] [.ptr false [slPoint false s.Points], .ref 2 0, .ref 4 0, I i, Bv false] [some (.box [I 0, I 0, I 0, I 0]), some (.box [I x1, I y1, I x2, I y2])] [¬ (i < (s.Points.length : Int))] hB ⟨h1, trivial⟩ ?_
  refine ae_then ?_
  refine aw_false rfl ?_
  refine aw_exit ?_
  refine ae_exit_then ?_
  refine ae_exit_then ?_
  refine ae_exit_same ?_
  refine ae_then ?_
  refine aR [] [2] [2] [.ref 2 0] [some (.box [I x1, I y1, I x2, I y2])] [] hB trivial ?_
  refine aw_ret ?_
  refine ae_ret hB (.agg [I x1, I y1, I x2, I y2]) (by kernel_rfl) (.inl (by rw [← hb1])) rfl (fun _ => (by simp [tagged, taggedL]))



def sameL {α : Type} [Inhabited α] [DecidableEq α] (a b : List α) : Bool := decide (a.length = b.length) && allN a.length (fun j => decide (at_ a j = at_ b j))

theorem down_spec (n : Int) {d : Int} (hd : 0 < d) : (Int.tmod n d < 0 → Int.tdiv n d - 1 = n / d) ∧ (¬ Int.tmod n d < 0 → Int.tdiv n d = n / d) := by
  have h1 := Int.mul_tdiv_add_tmod n d
  have h2 := Int.tmod_lt_of_pos n hd
  have h3 := Int.lt_tmod_of_pos n hd
  generalize Int.tdiv n d = q at *
  generalize Int.tmod n d = r at *
  subst h1
  constructor
  · intro h
    have e : d * q + r = (r + d) + d * (q - 1) := by rw [Int.mul_sub, Int.mul_one]; omega
    rw [e, Int.add_mul_ediv_left _ _ (by omega), Int.ediv_eq_zero_of_lt (by omega) (by omega)]; omega
  · intro h
    rw [Int.add_comm, Int.add_mul_ediv_left _ _ (by omega), Int.ediv_eq_zero_of_lt (by omega) (by omega)]; omega
theorem tdiv_bd (n d : Int) : ((Int.tdiv n d).natAbs : Int) ≤ (n.natAbs : Int) := by
  rw [Int.natAbs_tdiv]
  exact Int.ofNat_le.2 (Nat.div_le_self _ _)


def nearI (n d : Int) : Int := (2 * n + d) / (2 * d)
theorem near_spec (n : Int) {d : Int} (hd : 0 < d) : (d - (n - n / d * d) ≤ n - n / d * d → n / d + 1 = nearI n d) ∧ (¬ d - (n - n / d * d) ≤ n - n / d * d → n / d = nearI n d) := by
  have h1 := Int.mul_ediv_add_emod n d
  have h2 := Int.emod_nonneg n (b := d) (by omega)
  have h3 := Int.emod_lt_of_pos n hd
  unfold nearI
  generalize n / d = q at *
  generalize n % d = r at *
  have e0 : q * d = d * q := Int.mul_comm _ _
  have e3 : 2 * d * q = 2 * (d * q) := Int.mul_assoc _ _ _
  constructor
  · intro h
    have e : 2 * n + d = (2 * r - d) + 2 * d * (q + 1) := by rw [Int.mul_add, e3]; omega
    rw [e, Int.add_mul_ediv_left _ _ (by omega), Int.ediv_eq_zero_of_lt (by omega) (by omega)]; omega
  · intro h
    have e : 2 * n + d = (2 * r + d) + 2 * d * q := by rw [e3]; omega
    rw [e, Int.add_mul_ediv_left _ _ (by omega), Int.ediv_eq_zero_of_lt (by omega) (by omega)]; omega
theorem rest_bd (n : Int) {d : Int} (hd : 0 < d) : 0 ≤ n - n / d * d ∧ n - n / d * d < d := by
  have h1 := Int.mul_ediv_add_emod n d
  have h2 := Int.emod_nonneg n (b := d) (by omega)
  have h3 := Int.emod_lt_of_pos n hd
  rw [Int.mul_comm] at h1
  omega
theorem ediv_bd (n : Int) {d : Int} (hd : 0 < d) : -(n.natAbs : Int) ≤ n / d ∧ n / d ≤ (n.natAbs : Int) := by
  constructor
  · rw [Int.le_ediv_iff_mul_le hd]
    have : (n.natAbs : Int) * 1 ≤ (n.natAbs : Int) * d := Int.mul_le_mul_of_nonneg_left (by omega) (by omega)
    rw [Int.neg_mul]; omega
  · have h1 : (n.natAbs : Int) * 1 ≤ (n.natAbs : Int) * d := Int.mul_le_mul_of_nonneg_left (by omega) (by omega)
    have b : n / d < (n.natAbs : Int) + 1 := Int.ediv_lt_of_lt_mul hd (by rw [Int.add_mul, Int.one_mul]; omega)
    omega
theorem near_between {x r d : Int} (hd : 0 < d) (h0 : 0 ≤ r) (h1 : r ≤ d) : (0 ≤ x → 0 ≤ nearI (x * r) d ∧ nearI (x * r) d ≤ x) ∧ (x ≤ 0 → x ≤ nearI (x * r) d ∧ nearI (x * r) d ≤ 0) := by
  unfold nearI
  constructor
  · intro hx
    have a1 : x * r ≤ x * d := Int.mul_le_mul_of_nonneg_left h1 hx
    have a2 : 0 ≤ x * r := Int.mul_nonneg hx h0
    have e : (x + 1) * (2 * d) = 2 * (x * d) + 2 * d := by rw [Int.add_mul, Int.one_mul, Int.mul_left_comm]
    have b : (2 * (x * r) + d) / (2 * d) < x + 1 := Int.ediv_lt_of_lt_mul (by omega) (by rw [e]; omega)
    exact ⟨Int.ediv_nonneg (by omega) (by omega), by omega⟩
  · intro hx
    have a1 : x * d ≤ x * r := Int.mul_le_mul_of_nonpos_left hx h1
    have a2 : x * r ≤ 0 := Int.mul_nonpos_of_nonpos_of_nonneg hx h0
    have e : x * (2 * d) = 2 * (x * d) := Int.mul_left_comm _ _ _
    have b : (2 * (x * r) + d) / (2 * d) < 0 + 1 := Int.ediv_lt_of_lt_mul (by omega) (by omega)
    exact ⟨Int.le_ediv_of_mul_le (by omega) (by rw [e]; omega), by omega⟩
theorem mulP_bd {x y A B : Int} (h0 : 0 ≤ x) (h1 : x ≤ A) (h2 : 0 ≤ y) (h3 : y ≤ B) : 0 ≤ x * y ∧ x * y ≤ A * B :=
  ⟨Int.mul_nonneg h0 h2, Int.mul_le_mul h1 h3 h2 (by omega)⟩
theorem mulS_bd {x y A B : Int} (h0 : -A ≤ x) (h1 : x ≤ A) (h2 : 0 ≤ y) (h3 : y ≤ B) : -(A * B) ≤ x * y ∧ x * y ≤ A * B := by
  rcases Int.le_total 0 x with h | h
  · have := mulP_bd h h1 h2 h3; omega
  · have := mulP_bd (x := -x) (by omega) (by omega : -x ≤ A) h2 h3
    rw [Int.neg_mul] at this; omega


theorem bitLen_spec (x : Nat) (h : x < 2 ^ 64) : x < 2 ^ Lib.bitLen x ∧ ∀ k, x < 2 ^ k → Lib.bitLen x ≤ k := by
  induction x using Nat.strongRecOn with
  | _ x ih =>
    by_cases h0 : x = 0
    · subst h0
      have : Lib.bitLen 0 = 0 := by decide
      rw [this]
      exact ⟨by decide, fun k _ => Nat.zero_le _⟩
    · have e := Lib.bitLen_half x h0 h
      obtain ⟨h1, h2⟩ := ih (x / 2) (by omega) (by omega)
      rw [e]
      refine ⟨by rw [Nat.pow_add]; omega, fun k hk => ?_⟩
      cases k with
      | zero => simp at hk; omega
      | succ k =>
        have := h2 k (by rw [Nat.pow_succ] at hk; omega)
        omega
theorem sq_le {a b : Int} (h0 : 0 ≤ a) (h : a ≤ b) : a * a ≤ b * b := Int.mul_le_mul h h h0 (by omega)
theorem sq_lt {a b : Int} (h0 : 0 ≤ b) (h : a * a < b * b) : a < b := by
  by_cases h' : a < b
  · exact h'
  · have := sq_le h0 (Int.not_lt.1 h'); omega
def rootN : Nat → Nat
  | 0 => 0
  | n + 1 => if (rootN n + 1) * (rootN n + 1) ≤ n + 1 then rootN n + 1 else rootN n
theorem rootN_spec (n : Nat) : rootN n * rootN n ≤ n ∧ n < (rootN n + 1) * (rootN n + 1) := by
  induction n with
  | zero => simp [rootN]
  | succ n ih =>
    unfold rootN
    split
    · rename_i h
      refine ⟨h, ?_⟩
      have : (rootN n + 1 + 1) * (rootN n + 1 + 1) = (rootN n + 1) * (rootN n + 1) + 2 * (rootN n + 1) + 1 := by
        generalize rootN n + 1 = a
        rw [Nat.add_mul, Nat.mul_add]; omega
      omega
    · omega
def rootI (n : Int) : Int := (rootN n.toNat : Int)
theorem rootI_spec {n : Int} (h : 0 ≤ n) : 0 ≤ rootI n ∧ rootI n * rootI n ≤ n ∧ n < (rootI n + 1) * (rootI n + 1) := by
  have := rootN_spec n.toNat
  unfold rootI
  refine ⟨by omega, ?_, ?_⟩
  · have h1 : ((rootN n.toNat * rootN n.toNat : Nat) : Int) ≤ (n.toNat : Int) := Int.ofNat_le.2 this.1
    rw [Int.natCast_mul] at h1; omega
  · have h1 : ((n.toNat : Nat) : Int) < (((rootN n.toNat + 1) * (rootN n.toNat + 1) : Nat) : Int) := Int.ofNat_lt.2 this.2
    rw [Int.natCast_mul] at h1
    have e : ((rootN n.toNat + 1 : Nat) : Int) = (rootN n.toNat : Int) + 1 := by omega
    rw [e] at h1; omega
theorem rootI_eq {n r : Int} (h0 : 0 ≤ r) (h1 : r * r ≤ n) (h2 : n < (r + 1) * (r + 1)) : rootI n = r := by
  have hn : 0 ≤ n := Int.le_trans (Int.mul_nonneg h0 h0) h1
  obtain ⟨a, b, c⟩ := rootI_spec hn
  have e1 : rootI n < r + 1 := sq_lt (by omega) (by omega)
  have e2 : r < rootI n + 1 := sq_lt (by omega) (by omega)
  omega
theorem rootI_bd {n B : Int} (h : 0 ≤ n) (hB : 0 ≤ B) (h2 : n < (B + 1) * (B + 1)) : 0 ≤ rootI n ∧ rootI n ≤ B := by
  obtain ⟨a, b, c⟩ := rootI_spec h
  have : rootI n < B + 1 := sq_lt (by omega) (by omega)
  omega
theorem newton {n r : Int} (hr : 0 < r) : n < ((r + n / r) / 2 + 1) * ((r + n / r) / 2 + 1) := by
  obtain ⟨m, hm⟩ : ∃ m, m = n / r := ⟨_, rfl⟩
  have h1 : n < r * (m + 1) := by
    have := Int.lt_mul_ediv_self_add (x := n) hr
    rw [← hm] at this; rw [Int.mul_add]; omega
  rw [← hm]
  obtain ⟨q, hq⟩ : ∃ q, q = (r + m) / 2 := ⟨_, rfl⟩
  rw [← hq]
  have h2 : r + m + 1 ≤ 2 * (q + 1) := by omega
  by_cases h0 : n < 0
  · have : 0 ≤ (q + 1) * (q + 1) := by
      rcases Int.le_total 0 (q + 1) with h | h
      · exact Int.mul_nonneg h h
      · exact Int.mul_nonneg_of_nonpos_of_nonpos h h
    omega
  have h0 := Int.not_lt.1 h0
  have hm0 : 0 ≤ m := by rw [hm]; exact Int.ediv_nonneg h0 (by omega)
  have h3 := sq_le (show 0 ≤ r + m + 1 by omega) h2
  have h4 : (2 * (q + 1)) * (2 * (q + 1)) = 4 * ((q + 1) * (q + 1)) := by
    generalize q + 1 = a
    rw [show (2 * a) * (2 * a) = (2 * 2) * (a * a) by rw [Int.mul_assoc, Int.mul_left_comm a 2 a, ← Int.mul_assoc]]; omega
  have h5 : 4 * (r * (m + 1)) ≤ (r + m + 1) * (r + m + 1) := by
    have h6 : 0 ≤ (r - (m + 1)) * (r - (m + 1)) := by
      rcases Int.le_total 0 (r - (m + 1)) with h | h
      · exact Int.mul_nonneg h h
      · exact Int.mul_nonneg_of_nonpos_of_nonpos h h
    have e : r + m + 1 = r + (m + 1) := by omega
    rw [e]
    generalize m + 1 = k at h6 ⊢
    have e1 : (r - k) * (r - k) = r * r - 2 * (r * k) + k * k := by rw [Int.sub_mul, Int.mul_sub, Int.mul_sub, Int.mul_comm k r]; omega
    have e2 : (r + k) * (r + k) = r * r + 2 * (r * k) + k * k := by rw [Int.add_mul, Int.mul_add, Int.mul_add, Int.mul_comm k r]; omega
    omega
  omega
theorem newton_end {n r : Int} (hr : 0 < r) (h : ¬ (r + n / r) / 2 < r) : r * r ≤ n := by
  have h1 : r ≤ n / r := by omega
  have h2 := Int.mul_ediv_self_le (x := n) (k := r) (by omega)
  exact Int.le_trans (Int.mul_le_mul_of_nonneg_left h1 (by omega)) h2

theorem root0 {n : Int} (h0 : 0 ≤ n) (h1 : n ≤ 1000000000000000) : (Lib.bitLen n.toNat ≤ 50) ∧ (1 ≤ 1 * ((2 ^ ((((Lib.bitLen n.toNat : Nat) : Int) + 1) / 2).toNat : Nat) : Int) ∧ 1 * ((2 ^ ((((Lib.bitLen n.toNat : Nat) : Int) + 1) / 2).toNat : Nat) : Int) ≤ 33554432) ∧
    n < (1 * ((2 ^ ((((Lib.bitLen n.toNat : Nat) : Int) + 1) / 2).toNat : Nat) : Int) + 1) * (1 * ((2 ^ ((((Lib.bitLen n.toNat : Nat) : Int) + 1) / 2).toNat : Nat) : Int) + 1) := by
  obtain ⟨a, b⟩ := bitLen_spec n.toNat (by omega)
  have hL := b 50 (by omega)
  generalize Lib.bitLen n.toNat = L at *
  have e : (((L : Int) + 1) / 2).toNat = (L + 1) / 2 := by omega
  rw [e]
  have hk : (L + 1) / 2 ≤ 25 := by omega
  have h3 : 2 ^ ((L + 1) / 2) ≤ 2 ^ 25 := Nat.pow_le_pow_right (by decide) hk
  have h4 : 1 ≤ 2 ^ ((L + 1) / 2) := Nat.one_le_two_pow
  have h5 : 2 ^ L ≤ 2 ^ ((L + 1) / 2) * 2 ^ ((L + 1) / 2) := by rw [← Nat.pow_add]; exact Nat.pow_le_pow_right (by decide) (by omega)
  generalize 2 ^ ((L + 1) / 2) = R at *
  have h6 : n.toNat < R * R := Nat.lt_of_lt_of_le a h5
  have h7 : ((n.toNat : Nat) : Int) < ((R * R : Nat) : Int) := Int.ofNat_lt.2 h6
  rw [Int.natCast_mul] at h7
  refine ⟨hL, by omega, ?_⟩
  have e2 : (1 * (R : Int) + 1) * (1 * (R : Int) + 1) = (R : Int) * R + 2 * R + 1 := by rw [Int.one_mul, Int.add_mul, Int.mul_add]; omega
  omega
theorem div_bd {n r : Int} (h : 0 ≤ n) (hr : 0 < r) : 0 ≤ n / r ∧ n / r ≤ n := ⟨Int.ediv_nonneg h (by omega), Int.ediv_le_self _ h⟩
theorem newton_pos {n q : Int} (h : 0 < n) (hq : 0 ≤ q) (h2 : n < (q + 1) * (q + 1)) : 0 < q := by
  by_cases e : q = 0
  · subst e; omega
  · omega


def farQ (a b : Point) : Int := (a.X - b.X) * (a.X - b.X) + (a.Y - b.Y) * (a.Y - b.Y)
theorem sq_bd {x B : Int} (h1 : -B ≤ x) (h2 : x ≤ B) : 0 ≤ x * x ∧ x * x ≤ B * B := by
  rcases Int.le_total 0 x with h | h
  · exact ⟨Int.mul_nonneg h h, sq_le h h2⟩
  · have := sq_le (a := -x) (b := B) (by omega) (by omega)
    rw [Int.neg_mul_neg] at this
    exact ⟨Int.mul_nonneg_of_nonpos_of_nonpos h h, this⟩
theorem far_bd {a b : Point} (ha : okP a = true) (hb : okP b = true) : (0 ≤ (a.X - b.X) * (a.X - b.X) ∧ (a.X - b.X) * (a.X - b.X) ≤ 16769025) ∧ (0 ≤ (a.Y - b.Y) * (a.Y - b.Y) ∧ (a.Y - b.Y) * (a.Y - b.Y) ≤ 16769025) := by
  have h1 := okP_iff.1 ha
  have h2 := okP_iff.1 hb
  exact ⟨sq_bd (B := 4095) (by omega) (by omega), sq_bd (B := 4095) (by omega) (by omega)⟩
def segI (a b : Point) : Int := rootI (256 * farQ a b)
theorem segI_bd {a b : Point} (ha : okP a = true) (hb : okP b = true) : (0 ≤ farQ a b ∧ farQ a b ≤ 33538050) ∧ 0 ≤ segI a b ∧ segI a b ≤ 92659 := by
  have := far_bd ha hb
  have h : 0 ≤ farQ a b ∧ farQ a b ≤ 33538050 := by unfold farQ; omega
  exact ⟨h, rootI_bd (by omega) (by decide) (by omega)⟩


def sumS (xs : List Point) : Nat → Int
  | 0 => 0
  | k + 1 => sumS xs k + (if k = 0 then 0 else segI (at_ xs (k - 1)) (at_ xs k))
theorem sumS_succ {xs : List Point} {i : Int} (h : 1 ≤ i) : sumS xs (i + 1).toNat = sumS xs i.toNat + segI (at_ xs (i - 1).toNat) (at_ xs i.toNat) := by
  have e1 : (i + 1).toNat = i.toNat + 1 := by omega
  have e2 : (i - 1).toNat = i.toNat - 1 := by omega
  have e3 : ¬ i.toNat = 0 := by omega
  rw [e1, e2]; simp [sumS, e3]
def revS (xs : List Point) : Nat → Int × Int
  | 0 => (0, 0)
  | k + 1 => if k = 0 then (0, 0) else
    let dx := (at_ xs k).X - (at_ xs (k - 1)).X
    let p := revS xs k
    if dx = 0 then p else (if p.2 ≠ 0 ∧ ¬ (0 < dx ↔ 0 < p.2) then p.1 + 1 else p.1, dx)


def arcsL (xs : List Point) (k : Nat) : List Int := (List.range k).map fun j => sumS xs (j + 1)
theorem arcsL_len (xs : List Point) (k : Nat) : (arcsL xs k).length = k := by simp [arcsL]
theorem arcsL_at {xs : List Point} {k j : Nat} (h : j < k) : at_ (arcsL xs k) j = sumS xs (j + 1) := by simp [at_, arcsL, h]
theorem arcsL_succ (xs : List Point) (k : Nat) : arcsL xs (k + 1) = arcsL xs k ++ [sumS xs (k + 1)] := by simp [arcsL, List.range_succ]
theorem sumS_bd {s : Stroke} (ok : okStroke' s = true) : ∀ k : Nat, k ≤ s.Points.length → 0 ≤ sumS s.Points k ∧ sumS s.Points k ≤ 92659 * k
  | 0, _ => by simp [sumS]
  | k + 1, h => by
    have ih := sumS_bd ok k (by omega)
    unfold sumS
    split
    · omega
    · have := segI_bd (okS_at ok (j := k - 1) (by omega)) (okS_at ok (j := k) (by omega))
      omega


def firstN (n : Nat) (p : Nat → Bool) : Int := match (List.range n).find? p with
  | some i => i
  | none => -1
theorem firstN_hit {n : Nat} {p : Nat → Bool} {k : Nat} (hk : k < n) (hp : p k = true) (hn : ∀ i, i < k → p i = false) : firstN n p = k := by
  have h : (List.range n).find? p = some k := by
    rw [List.find?_range_eq_some]
    exact ⟨hp, List.mem_range.2 hk, fun j hj => by simpa using hn j hj⟩
  simp [firstN, h]
theorem firstN_none {n : Nat} {p : Nat → Bool} (hn : ∀ i, i < n → p i = false) : firstN n p = -1 := by
  have h : (List.range n).find? p = none := by
    rw [List.find?_range_eq_none]
    intro i hi; simpa using hn i hi
  simp [firstN, h]
theorem firstN_cases (n : Nat) (p : Nat → Bool) : (firstN n p = -1 ∧ ∀ i, i < n → p i = false) ∨ ∃ k : Nat, firstN n p = k ∧ k < n ∧ p k = true ∧ ∀ i, i < k → p i = false := by
  by_cases h : ∃ k, k < n ∧ p k = true
  · right
    obtain ⟨k, hk, hp⟩ := h
    cases e : (List.range n).find? p with
    | none => rw [List.find?_range_eq_none] at e; exact absurd hp (by simpa using e k hk)
    | some i =>
      have e' := e
      rw [List.find?_range_eq_some] at e
      exact ⟨i, by simp [firstN, e'], List.mem_range.1 e.2.1, e.1, fun j hj => by simpa using e.2.2 j hj⟩
  · left
    have h' : ∀ i, i < n → p i = false := fun i hi => by rw [← Bool.not_eq_true]; exact fun hp => h ⟨i, hi, hp⟩
    exact ⟨firstN_none h', h'⟩
theorem firstN_any (n : Nat) (p : Nat → Bool) : decide (0 ≤ firstN n p) = anyN n p := by
  rcases firstN_cases n p with ⟨h1, h2⟩ | ⟨k, h1, h2, h3, _⟩
  · rw [h1, anyN_none h2]; decide
  · rw [h1, anyN_at h2 h3]; simp


def arcI (s : Stroke) (k : Nat) : Int := sumS s.Points (k + 1)
def stopB (s : Stroke) (part parts : Int) (k : Nat) : Bool := decide (1 ≤ k) && (!decide (arcI s k = arcI s (k - 1)) && !decide (arcI s k * parts < arcI s (s.Points.length - 1) * part))
def spotK (s : Stroke) (part parts : Int) (k : Nat) : Spot :=
  ⟨(at_ s.Points (k - 1)).X + nearI (((at_ s.Points k).X - (at_ s.Points (k - 1)).X) * (arcI s (s.Points.length - 1) * part - arcI s (k - 1) * parts)) ((arcI s k - arcI s (k - 1)) * parts),
   (at_ s.Points (k - 1)).Y + nearI (((at_ s.Points k).Y - (at_ s.Points (k - 1)).Y) * (arcI s (s.Points.length - 1) * part - arcI s (k - 1) * parts)) ((arcI s k - arcI s (k - 1)) * parts)⟩
def spotI (s : Stroke) (part parts : Int) : Spot :=
  let k := firstN s.Points.length (stopB s part parts)
  if k < 0 then ⟨(at_ s.Points 0).X, (at_ s.Points 0).Y⟩ else spotK s part parts k.toNat
theorem spotI_at {s : Stroke} {part parts : Int} {k : Nat} (hk : k < s.Points.length) (h : stopB s part parts k = true) (hn : ∀ j, j < k → stopB s part parts j = false) : spotI s part parts = spotK s part parts k := by
  have e := firstN_hit hk h hn
  simp only [spotI, e]
  rw [if_neg (by omega)]; rfl
theorem spotI_none {s : Stroke} {part parts : Int} (hn : ∀ j, j < s.Points.length → stopB s part parts j = false) : spotI s part parts = ⟨(at_ s.Points 0).X, (at_ s.Points 0).Y⟩ := by
  have e := firstN_none hn
  simp only [spotI, e]; rfl
theorem arcI_step {s : Stroke} {k : Nat} (h : 1 ≤ k) : arcI s k = arcI s (k - 1) + segI (at_ s.Points (k - 1)) (at_ s.Points k) := by
  obtain ⟨m, rfl⟩ : ∃ m, k = m + 1 := ⟨k - 1, by omega⟩
  show sumS s.Points (m + 1 + 1) = sumS s.Points (m + 1) + _
  conv => lhs; rw [sumS]
  rw [if_neg (by omega)]
theorem arcI_zero (s : Stroke) : arcI s 0 = 0 := by simp [arcI, sumS]
theorem arcI_bd {s : Stroke} (ok : okStroke' s = true) {k : Nat} (h : k < s.Points.length) : 0 ≤ arcI s k ∧ arcI s k ≤ 5559540 := by
  have h1 := sumS_bd ok (k + 1) h
  have h2 := okS_len ok
  unfold arcI; omega
theorem arcI_up {s : Stroke} (ok : okStroke' s = true) {k : Nat} (h : k < s.Points.length) (h1 : 1 ≤ k) : arcI s (k - 1) ≤ arcI s k := by
  have := segI_bd (okS_at ok (j := k - 1) (by omega)) (okS_at ok (j := k) (by omega))
  rw [arcI_step h1]; omega
theorem stop_iff {s : Stroke} {part parts : Int} {k : Nat} : stopB s part parts k = true ↔ 1 ≤ k ∧ arcI s k ≠ arcI s (k - 1) ∧ ¬ arcI s k * parts < arcI s (s.Points.length - 1) * part := by simp [stopB]
theorem stop_no {s : Stroke} {part parts : Int} {k : Nat} (h : ¬ (1 ≤ k ∧ arcI s k ≠ arcI s (k - 1) ∧ ¬ arcI s k * parts < arcI s (s.Points.length - 1) * part)) : stopB s part parts k = false := by
  rw [← Bool.not_eq_true, stop_iff]; exact h
section
variable {s : Stroke} {part parts : Int}
theorem behind (ok : okStroke' s = true) (hp : 0 ≤ part) : ∀ k, k < s.Points.length → (∀ j, j ≤ k → stopB s part parts j = false) → arcI s k * parts ≤ arcI s (s.Points.length - 1) * part
  | 0, h, _ => by
    have h1 := (arcI_bd ok (k := s.Points.length - 1) (by omega)).1
    rw [arcI_zero, Int.zero_mul]
    exact Int.mul_nonneg h1 hp
  | k + 1, h, hn => by
    have ih := behind ok hp k (by omega) (fun j hj => hn j (by omega))
    have h1 := hn (k + 1) (Nat.le_refl _)
    rw [← Bool.not_eq_true, stop_iff] at h1
    by_cases e : arcI s (k + 1) = arcI s k
    · rw [e]; exact ih
    · apply Int.le_of_lt
      apply Classical.byContradiction
      intro hc
      exact h1 ⟨by omega, e, hc⟩
theorem spot_rest (ok : okStroke' s = true) (hp : 0 ≤ part ∧ 1 ≤ parts) {k : Nat} (hk : k < s.Points.length) (h : stopB s part parts k = true) (hn : ∀ j, j < k → stopB s part parts j = false) :
    (0 ≤ arcI s (s.Points.length - 1) * part - arcI s (k - 1) * parts ∧ arcI s (s.Points.length - 1) * part - arcI s (k - 1) * parts ≤ (arcI s k - arcI s (k - 1)) * parts) ∧ 0 < (arcI s k - arcI s (k - 1)) * parts := by
  obtain ⟨h1, h2, h3⟩ := stop_iff.1 h
  have a := behind ok hp.1 (k - 1) (by omega) (fun j hj => hn j (by omega))
  have b := arcI_up ok hk h1
  have c : 0 < (arcI s k - arcI s (k - 1)) * parts := Int.mul_pos (by omega) (by omega)
  have e : (arcI s k - arcI s (k - 1)) * parts = arcI s k * parts - arcI s (k - 1) * parts := Int.sub_mul _ _ _
  omega
theorem box_has (xs : List Point) : ∀ n j, j < n → (boxS xs n).X1 ≤ (at_ xs j).X ∧ (at_ xs j).X ≤ (boxS xs n).X2 ∧ (boxS xs n).Y1 ≤ (at_ xs j).Y ∧ (at_ xs j).Y ≤ (boxS xs n).Y2
  | n + 1, j, h => by
    simp only [boxS, joinB, ptB]
    by_cases e : j = n
    · subst e; omega
    · have := box_has xs n j (by omega); omega
theorem spot_in (ok : okStroke' s = true) (hp : 0 ≤ part ∧ 1 ≤ parts) :
    (boxS s.Points s.Points.length).X1 ≤ (spotI s part parts).X ∧ (spotI s part parts).X ≤ (boxS s.Points s.Points.length).X2 ∧ (boxS s.Points s.Points.length).Y1 ≤ (spotI s part parts).Y ∧ (spotI s part parts).Y ≤ (boxS s.Points s.Points.length).Y2 := by
  have hl := okS_len ok
  rcases firstN_cases s.Points.length (stopB s part parts) with ⟨_, h⟩ | ⟨k, _, hk, hs, hn⟩
  · rw [spotI_none h]; exact box_has s.Points _ 0 (by omega)
  · rw [spotI_at hk hs hn]
    have h1 := (stop_iff.1 hs).1
    have hr := spot_rest ok hp hk hs hn
    have b0 := box_has s.Points s.Points.length (k - 1) (by omega)
    have b1 := box_has s.Points s.Points.length k hk
    have nx := near_between (x := (at_ s.Points k).X - (at_ s.Points (k - 1)).X) hr.2 hr.1.1 hr.1.2
    have ny := near_between (x := (at_ s.Points k).Y - (at_ s.Points (k - 1)).Y) hr.2 hr.1.1 hr.1.2
    simp only [spotK]
    omega
end




def dirI (dx dy : Int) : Int :=
  if ((dx.natAbs : Int) + (dy.natAbs : Int)) * ((dx.natAbs : Int) + (dy.natAbs : Int)) ≤ (2 * (dx.natAbs : Int)) * (dx.natAbs : Int) then (if 0 < dx then 0 else 4)
  else if ((dx.natAbs : Int) + (dy.natAbs : Int)) * ((dx.natAbs : Int) + (dy.natAbs : Int)) ≤ (2 * (dy.natAbs : Int)) * (dy.natAbs : Int) then (if 0 < dy then 2 else 6)
  else if 0 < dx ∧ 0 < dy then 1 else if dx < 0 ∧ 0 < dy then 3 else if dx < 0 then 5 else 7
theorem dirI_bd (dx dy : Int) : 0 ≤ dirI dx dy ∧ dirI dx dy ≤ 7 := by unfold dirI; (repeat' split) <;> omega
theorem two_sq {x : Int} (h : 0 ≤ x) (h2 : x ≤ 4095) : 0 ≤ (2 * x) * x ∧ (2 * x) * x ≤ 33538050 := by
  have := sq_bd (x := x) (B := 4095) (by omega) h2
  rw [Int.mul_assoc]; omega
theorem dir_zero {dx dy : Int} (h : dx = 0) : ((dx.natAbs : Int) + (dy.natAbs : Int)) * ((dx.natAbs : Int) + (dy.natAbs : Int)) ≤ (2 * (dy.natAbs : Int)) * (dy.natAbs : Int) := by
  subst h
  have := sq_bd (x := (dy.natAbs : Int)) (B := (dy.natAbs : Int)) (by omega) (by omega)
  rw [Int.mul_assoc]; simp at this ⊢; omega


def dirsL (xs : List Point) : Nat → List Int
  | 0 => []
  | k + 1 => if k = 0 ∨ ((at_ xs k).X - (at_ xs (k - 1)).X = 0 ∧ (at_ xs k).Y - (at_ xs (k - 1)).Y = 0) then dirsL xs k
    else dirsL xs k ++ [dirI ((at_ xs k).X - (at_ xs (k - 1)).X) ((at_ xs k).Y - (at_ xs (k - 1)).Y)]

def sumN : Nat → (Nat → Int) → Int
  | 0, _ => 0
  | n + 1, f => sumN n f + f n

def bendI (a b : Int) : Int := (b - a + 11) % 8 - 3
def bendS (l : List Int) (k : Nat) : Int := sumN k fun j => if j = 0 then 0 else bendI (at_ l (j - 1)) (at_ l j)
def bendT (s : Stroke) : Int := bendS (dirsL s.Points s.Points.length) (dirsL s.Points s.Points.length).length

def caretB (s : Stroke) : Bool :=
  let b := boxS s.Points s.Points.length
  decide (0 < b.Y2 - b.Y1) && (decide (b.Y2 - b.Y1 ≤ 2 * ((at_ s.Points 0).Y - b.Y1)) && (decide (b.Y2 - b.Y1 ≤ 2 * ((at_ s.Points (s.Points.length - 1)).Y - b.Y1)) && decide ((revS s.Points s.Points.length).1 = 0)))
def endsI (s : Stroke) : Int := segI (at_ s.Points 0) (at_ s.Points (s.Points.length - 1))
def strI (s : Stroke) : Int := if sumS s.Points s.Points.length = 0 then 1000 else min 1000 (1000 * endsI s / sumS s.Points s.Points.length)
def gestI (s : Stroke) : Int :=
  if sumS s.Points s.Points.length ≤ 160 then 1 else if 3 ≤ (revS s.Points s.Points.length).1 then 2
  else if 6 ≤ ((bendT s).natAbs : Int) ∧ 4 * endsI s ≤ sumS s.Points s.Points.length then 3 else if caretB s = true then 4 else if 900 ≤ strI s then 5 else 0
def gestR (s : Stroke) : Int × Int := if okStroke' s then (gestI s, 0) else (0, 1)

def mvP (dx dy : Int) (p : Point) : Point := ⟨p.X + dx, p.Y + dy, p.T⟩
def mvS (dx dy : Int) (s : Stroke) : Stroke := ⟨s.Points.map (mvP dx dy)⟩
def mvI (dx dy : Int) (x : Ink) : Ink := ⟨x.Strokes.map (mvS dx dy)⟩
def mvTo (dx dy : Int) (k : Nat) (s : Stroke) : Stroke := ⟨(s.Points.take k).map (mvP dx dy) ++ s.Points.drop k⟩
def mvFst (dx dy : Int) (i : Nat) (xs : List Stroke) : List Stroke := (xs.take i).map (mvS dx dy) ++ xs.drop i
def mvIn (dx dy : Int) (i k : Nat) (xs : List Stroke) : List Stroke := (mvFst dx dy i xs).set i (mvTo dx dy k (at_ xs i))
section
variable {dx dy : Int} {s : Stroke}
def mvB (dx dy : Int) (b : Box) : Box := ⟨b.X1 + dx, b.Y1 + dy, b.X2 + dx, b.Y2 + dy⟩
end





def spotR (s : Stroke) (part parts : Int) : Spot × Int := if okStroke' s = true then (if inB parts 1 1000 = true ∧ inB part 0 parts = true then (spotI s part parts, 0) else (⟨0, 0⟩, 2)) else (⟨0, 0⟩, 1)
def resK (s : Stroke) (n : Int) (k : Nat) : List Spot := (List.range k).map fun j : Nat => spotI s (j : Int) (n - 1)
def resQ (s : Stroke) (n : Int) : List Spot := resK s n n.toNat
def resR (s : Stroke) (n : Int) : List Spot × Int := if okStroke' s = true then (if inB n 2 24 = true then (resQ s n, 0) else ([], 2)) else ([], 1)
theorem resK_succ {s : Stroke} {n k : Int} (h : 0 ≤ k) : resK s n (k + 1).toNat = resK s n k.toNat ++ [spotI s k (n - 1)] := by
  have e : (k + 1).toNat = k.toNat + 1 := by omega
  have e2 : ((k.toNat : Nat) : Int) = k := by omega
  rw [e]; simp [resK, List.range_succ, e2]
theorem resQ_len (s : Stroke) (n : Int) : (resQ s n).length = n.toNat := by simp [resQ, resK]
theorem resQ_at {s : Stroke} {n : Int} {j : Nat} (h : j < n.toNat) : at_ (resQ s n) j = spotI s j (n - 1) := by simp [at_, resQ, resK, h]
def boxR (s : Stroke) : Box × Int := if okStroke' s = true then (boxS s.Points s.Points.length, 0) else (⟨0, 0, 0, 0⟩, 1)


def mpS (f : Point → Point) (s : Stroke) : Stroke := ⟨s.Points.map (f)⟩
def mpI (f : Point → Point) (x : Ink) : Ink := ⟨x.Strokes.map (mpS f)⟩
def mpTo (f : Point → Point) (k : Nat) (s : Stroke) : Stroke := ⟨(s.Points.take k).map (f) ++ s.Points.drop k⟩
def mpFst (f : Point → Point) (i : Nat) (xs : List Stroke) : List Stroke := (xs.take i).map (mpS f) ++ xs.drop i
def mpIn (f : Point → Point) (i k : Nat) (xs : List Stroke) : List Stroke := (mpFst f i xs).set i (mpTo f k (at_ xs i))
theorem mapTake_succ {α β : Type} [Inhabited α] {xs : List α} {f : α → β} {i : Int} {y : β} (h0 : 0 ≤ i) (h : i.toNat < xs.length) (hy : y = f (at_ xs i.toNat)) : (xs.take (i + 1).toNat).map f = (xs.take i.toNat).map f ++ [y] := by
  have e : (i + 1).toNat = i.toNat + 1 := by omega
  rw [e, List.take_succ_eq_append_getElem h, hy, at_eq h]
  simp only [List.map_append, List.map_cons, List.map_nil]
theorem map_all {α β : Type} {xs : List α} {f : α → β} {i : Int} (h : (xs.length : Int) ≤ i) : (xs.take i.toNat).map f = xs.map f := by
  rw [List.take_of_length_le (by omega)]
section
variable {f : Point → Point} {i k : Int} {xs ys : List Stroke}
end


def strP (slant base : Int) (p : Point) : Point := ⟨p.X - nearI (slant * (base - p.Y)) 256, p.Y, p.T⟩
def strgR (x : Ink) (slant base : Int) : Ink × Int :=
  if okInk' x = true then (if inB slant (-256) 256 = true ∧ inB base 0 4095 = true then (if okInk' (mpI (strP slant base) x) = true then (mpI (strP slant base) x, 0) else (⟨[]⟩, 6)) else (⟨[]⟩, 2)) else (⟨[]⟩, 1)
def slaA (a b : Point) : Int := if ((b.X - a.X).natAbs : Int) < ((b.Y - a.Y).natAbs : Int) then (b.X - a.X) * (b.Y - a.Y) else 0
def slaD (a b : Point) : Int := if ((b.X - a.X).natAbs : Int) < ((b.Y - a.Y).natAbs : Int) then (b.Y - a.Y) * (b.Y - a.Y) else 0
def slaS (xs : List Point) : Nat → Int × Int
  | 0 => (0, 0)
  | k + 1 => if k = 0 then (0, 0) else ((slaS xs k).1 - slaA (at_ xs (k - 1)) (at_ xs k), (slaS xs k).2 + slaD (at_ xs (k - 1)) (at_ xs k))
def slaI (xs : List Stroke) : Nat → Int × Int
  | 0 => (0, 0)
  | k + 1 => ((slaI xs k).1 + (slaS (at_ xs k).Points (at_ xs k).Points.length).1, (slaI xs k).2 + (slaS (at_ xs k).Points (at_ xs k).Points.length).2)
def slantR (x : Ink) : Int × Int := if okInk' x = true then (if (slaI x.Strokes x.Strokes.length).2 = 0 then (0, 6) else (nearI (256 * (slaI x.Strokes x.Strokes.length).1) (slaI x.Strokes x.Strokes.length).2, 0)) else (0, 1)
def sameS (a b : Stroke) : Bool := sameL a.Points b.Points
def sameI (a b : Ink) : Bool := decide (a.Strokes.length = b.Strokes.length) && allN a.Strokes.length (fun j => sameS (at_ a.Strokes j) (at_ b.Strokes j))

def okF (p : Feat) : Bool := inB p.X 0 255 && (inB p.Y 0 255 && inB p.D 0 7)
theorem okF_iff {p : Feat} : okF p = true ↔ (0 ≤ p.X ∧ p.X ≤ 255) ∧ (0 ≤ p.Y ∧ p.Y ≤ 255) ∧ (0 ≤ p.D ∧ p.D ≤ 7) := by simp [okF, inB, and_assoc]
def okFeats (xs : List Feat) (m : Int) : Bool := decide (1 ≤ (xs.length : Int) ∧ (xs.length : Int) ≤ m) && allN xs.length (fun j => okF (at_ xs j))
theorem okFeats_n {xs : List Feat} {m : Int} (h : okFeats xs m = true) : 1 ≤ xs.length ∧ (xs.length : Int) ≤ m := by
  simp only [okFeats, Bool.and_eq_true, decide_eq_true_eq] at h; omega
theorem okFeats_at {xs : List Feat} {m : Int} (h : okFeats xs m = true) {j : Nat} (hj : j < xs.length) : okF (at_ xs j) = true := by
  simp only [okFeats, Bool.and_eq_true] at h
  exact allN_get h.2 hj


def skB (s : Stroke) : Box := boxS s.Points s.Points.length
def inkB (xs : List Stroke) : Nat → Box
  | 0 => skB (at_ xs 0)
  | k + 1 => joinB (inkB xs k) (skB (at_ xs k))
def inBox (a b : Box) : Prop := (b.X1 ≤ a.X1 ∧ a.X2 ≤ b.X2) ∧ b.Y1 ≤ a.Y1 ∧ a.Y2 ≤ b.Y2
theorem inkB_succ {xs : List Stroke} {i : Int} (h : 0 ≤ i) : inkB xs (i + 1).toNat = joinB (inkB xs i.toNat) (skB (at_ xs i.toNat)) := by
  have : (i + 1).toNat = i.toNat + 1 := by omega
  rw [this]; rfl
theorem inkB_one (xs : List Stroke) : inkB xs 1 = skB (at_ xs 0) := by simp [inkB, joinB]
theorem inkB_ok {x : Ink} (ok : okInk' x = true) (h0 : 1 ≤ x.Strokes.length) : ∀ k, k ≤ x.Strokes.length → okBox (inkB x.Strokes k)
  | 0, _ => boxS_all (okI_all ok 0 (by omega))
  | k + 1, h => joinB_ok (inkB_ok ok h0 k (by omega)) (boxS_all (okI_all ok k (by omega)))
theorem inkB_has (xs : List Stroke) : ∀ n j, j < n → inBox (skB (at_ xs j)) (inkB xs n)
  | n + 1, j, h => by
    by_cases e : j = n
    · subst e; simp only [inkB, joinB, inBox]; omega
    · have := inkB_has xs n j (by omega)
      simp only [inkB, joinB, inBox] at this ⊢; omega
def sideB (b : Box) : Int := max 1 (max (b.X2 - b.X1) (b.Y2 - b.Y1))
def normP (p : Spot) (b : Box) : Spot := ⟨(255 - (b.X2 - b.X1) * 255 / sideB b) / 2 + nearI ((p.X - b.X1) * 255) (sideB b), (255 - (b.Y2 - b.Y1) * 255 / sideB b) / 2 + nearI ((p.Y - b.Y1) * 255) (sideB b)⟩
theorem quo255 {w d : Int} (h0 : 0 ≤ w) (h1 : w ≤ d) (hd : 1 ≤ d) : 0 ≤ w * 255 / d ∧ w * 255 / d ≤ 255 := by
  refine ⟨Int.ediv_nonneg (by omega) (by omega), ?_⟩
  have : w * 255 / d < 256 := Int.ediv_lt_of_lt_mul (by omega) (by omega)
  omega
theorem norm1 {x w d : Int} (hx : 0 ≤ x ∧ x ≤ w) (h1 : w ≤ d) (hd : 1 ≤ d) : 0 ≤ (255 - w * 255 / d) / 2 + nearI (x * 255) d ∧ (255 - w * 255 / d) / 2 + nearI (x * 255) d ≤ 255 := by
  have hq := quo255 (w := w) (d := d) (by omega) h1 hd
  have hn := (near_between (x := 255) (r := x) (d := d) (by omega) hx.1 (by omega)).1 (by omega)
  rw [Int.mul_comm 255 x] at hn
  have hs := near_spec (x * 255) (d := d) (by omega)
  have hm : x * 255 / d ≤ w * 255 / d := Int.ediv_le_ediv (by omega) (by omega)
  have hle : nearI (x * 255) d ≤ w * 255 / d + 1 := by
    by_cases hc : d - (x * 255 - x * 255 / d * d) ≤ x * 255 - x * 255 / d * d
    · have := hs.1 hc; omega
    · have := hs.2 hc; omega
  omega
theorem side_bd {b : Box} (hb : okBox b) : (1 ≤ sideB b ∧ sideB b ≤ 4095) ∧ b.X2 - b.X1 ≤ sideB b ∧ b.Y2 - b.Y1 ≤ sideB b := by
  unfold okBox at hb; unfold sideB; omega
theorem norm_in {p : Spot} {b : Box} (hb : okBox b) (hp : (b.X1 ≤ p.X ∧ p.X ≤ b.X2) ∧ b.Y1 ≤ p.Y ∧ p.Y ≤ b.Y2) : (0 ≤ (normP p b).X ∧ (normP p b).X ≤ 255) ∧ 0 ≤ (normP p b).Y ∧ (normP p b).Y ≤ 255 := by
  have hs := side_bd hb
  exact ⟨norm1 (by omega) hs.2.1 hs.1.1, norm1 (by omega) hs.2.2 hs.1.1⟩
def dirQ (l : List Spot) : Nat → Int
  | 0 => 0
  | k + 1 => if k + 1 < l.length ∧ ¬ ((at_ l (k + 1)).X - (at_ l k).X = 0 ∧ (at_ l (k + 1)).Y - (at_ l k).Y = 0) then dirI ((at_ l (k + 1)).X - (at_ l k).X) ((at_ l (k + 1)).Y - (at_ l k).Y) else dirQ l k
theorem dirQ_bd (l : List Spot) : ∀ k, 0 ≤ dirQ l k ∧ dirQ l k ≤ 7
  | 0 => by simp [dirQ]
  | k + 1 => by
    rw [dirQ]; split
    · exact dirI_bd _ _
    · exact dirQ_bd l k
theorem dirQ_yes {l : List Spot} {k : Int} (h0 : 0 ≤ k) (h : k + 1 < (l.length : Int)) (hn : ¬ ((at_ l (k + 1).toNat).X - (at_ l k.toNat).X = 0 ∧ (at_ l (k + 1).toNat).Y - (at_ l k.toNat).Y = 0)) :
    dirQ l (k + 1).toNat = dirI ((at_ l (k + 1).toNat).X - (at_ l k.toNat).X) ((at_ l (k + 1).toNat).Y - (at_ l k.toNat).Y) := by
  have e : (k + 1).toNat = k.toNat + 1 := by omega
  rw [e] at hn ⊢
  rw [dirQ, if_pos ⟨by omega, hn⟩]
theorem dirQ_no {l : List Spot} {k : Int} (h0 : 0 ≤ k) (h : ¬ (k + 1 < (l.length : Int) ∧ ¬ ((at_ l (k + 1).toNat).X - (at_ l k.toNat).X = 0 ∧ (at_ l (k + 1).toNat).Y - (at_ l k.toNat).Y = 0))) : dirQ l (k + 1).toNat = dirQ l k.toNat := by
  have e : (k + 1).toNat = k.toNat + 1 := by omega
  rw [e] at h ⊢
  rw [dirQ, if_neg (fun q => h ⟨by omega, q.2⟩)]
def featAt (l : List Spot) (b : Box) (k : Nat) : Feat := ⟨(normP (at_ l k) b).X, (normP (at_ l k) b).Y, dirQ l (k + 1)⟩
def featK (l : List Spot) (b : Box) (k : Nat) : List Feat := (List.range k).map (featAt l b)
theorem featK_succ {l : List Spot} {b : Box} {k : Int} (h : 0 ≤ k) : featK l b (k + 1).toNat = featK l b k.toNat ++ [⟨(normP (at_ l k.toNat) b).X, (normP (at_ l k.toNat) b).Y, dirQ l (k + 1).toNat⟩] := by
  have e : (k + 1).toNat = k.toNat + 1 := by omega
  rw [e]; simp [featK, List.range_succ, featAt]
def featQ (s : Stroke) (n : Int) (b : Box) : List Feat := featK (resQ s n) b (resQ s n).length
theorem featK_len (l : List Spot) (b : Box) (k : Nat) : (featK l b k).length = k := by simp [featK]
theorem featQ_len (s : Stroke) (n : Int) (b : Box) : (featQ s n b).length = n.toNat := by rw [featQ, featK_len, resQ_len]
def featI (xs : List Stroke) (n : Int) (b : Box) : Nat → List Feat
  | 0 => []
  | i + 1 => featI xs n b i ++ featQ (at_ xs i) n b
theorem featI_succ {xs : List Stroke} {n : Int} {b : Box} {i : Int} (h : 0 ≤ i) : featI xs n b (i + 1).toNat = featI xs n b i.toNat ++ featQ (at_ xs i.toNat) n b := by
  have e : (i + 1).toNat = i.toNat + 1 := by omega
  rw [e]; rfl
theorem featI_len (xs : List Stroke) (n : Int) (b : Box) : ∀ i, (featI xs n b i).length = i * n.toNat
  | 0 => by simp [featI]
  | i + 1 => by rw [featI, List.length_append, featI_len, featQ_len, Nat.succ_mul]
def feA (x : Ink) (n : Int) : List Feat := featI x.Strokes n (inkB x.Strokes x.Strokes.length) x.Strokes.length
def feR (x : Ink) (n : Int) : List Feat × Int := if okInk' x = true then (if inB n 2 24 = true then (if (x.Strokes.length : Int) = 0 then ([], 6) else (feA x n, 0)) else ([], 2)) else ([], 1)
theorem feR_inv {x : Ink} {n : Int} (h : okInk' x = false) : feR x n = ([], 1) := by simp [feR, h]
theorem feR_rng {x : Ink} {n : Int} (h : okInk' x = true) (h2 : inB n 2 24 = false) : feR x n = ([], 2) := by simp [feR, h, h2]
theorem feR_st {x : Ink} {n : Int} (h : okInk' x = true) (h2 : inB n 2 24 = true) (h3 : (x.Strokes.length : Int) = 0) : feR x n = ([], 6) := by rw [feR, if_pos h, if_pos h2, if_pos h3]
theorem feR_yes {x : Ink} {n : Int} (h : okInk' x = true) (h2 : inB n 2 24 = true) (h3 : ¬ (x.Strokes.length : Int) = 0) : feR x n = (feA x n, 0) := by rw [feR, if_pos h, if_pos h2, if_neg h3]
theorem feR_ok {x : Ink} {n : Int} (h : (feR x n).2 = 0) : okInk' x = true ∧ inB n 2 24 = true ∧ ¬ (x.Strokes.length : Int) = 0 ∧ feR x n = (feA x n, 0) := by
  unfold feR at h ⊢
  split at h
  · rename_i h1
    split at h
    · rename_i h2
      split at h
      · cases h
      · rename_i h3
        exact ⟨h1, h2, h3, by rw [if_pos h1, if_pos h2, if_neg h3]⟩
    · cases h
  · cases h
theorem spot_box {s : Stroke} {b : Box} {part parts : Int} (ok : okStroke' s = true) (hp : 0 ≤ part ∧ 1 ≤ parts) (hb : inBox (skB s) b) : (b.X1 ≤ (spotI s part parts).X ∧ (spotI s part parts).X ≤ b.X2) ∧ b.Y1 ≤ (spotI s part parts).Y ∧ (spotI s part parts).Y ≤ b.Y2 := by
  have h := spot_in ok hp
  unfold inBox skB at hb; omega
theorem resQ_box {s : Stroke} {b : Box} {n : Int} (ok : okStroke' s = true) (hn : 2 ≤ n) (hb : inBox (skB s) b) {j : Nat} (hj : j < (resQ s n).length) : (b.X1 ≤ (at_ (resQ s n) j).X ∧ (at_ (resQ s n) j).X ≤ b.X2) ∧ b.Y1 ≤ (at_ (resQ s n) j).Y ∧ (at_ (resQ s n) j).Y ≤ b.Y2 := by
  rw [resQ_len] at hj
  rw [resQ_at hj]
  exact spot_box ok (by omega) hb
theorem featK_in {l : List Spot} {b : Box} (hb : okBox b) (h : ∀ j, j < l.length → (b.X1 ≤ (at_ l j).X ∧ (at_ l j).X ≤ b.X2) ∧ b.Y1 ≤ (at_ l j).Y ∧ (at_ l j).Y ≤ b.Y2) : ∀ f ∈ featK l b l.length, okF f = true := by
  intro f hf
  simp only [featK, List.mem_map, List.mem_range] at hf
  obtain ⟨j, hj, rfl⟩ := hf
  have h1 := norm_in hb (h j hj)
  have h2 := dirQ_bd l (j + 1)
  simp only [okF, featAt, Bool.and_eq_true, inB_iff]
  omega
theorem featI_in {x : Ink} {n : Int} {b : Box} (ok : okInk' x = true) (hn : 2 ≤ n) (hb : okBox b) (hi : ∀ j, j < x.Strokes.length → inBox (skB (at_ x.Strokes j)) b) : ∀ i, i ≤ x.Strokes.length → ∀ f ∈ featI x.Strokes n b i, okF f = true
  | 0, _, f, hf => by simp [featI] at hf
  | i + 1, h, f, hf => by
    rw [featI, List.mem_append] at hf
    rcases hf with hf | hf
    · exact featI_in ok hn hb hi i (by omega) f hf
    · exact featK_in hb (fun j hj => resQ_box (okI_all ok i (by omega)) hn (hi i (by omega)) hj) f hf
theorem fe_valid {x : Ink} {n : Int} (h : (feR x n).2 = 0) : okFeats (feR x n).1 384 = true ∧ ((feR x n).1.length : Int) = n * (x.Strokes.length : Int) := by
  obtain ⟨ok, hn, h0, e⟩ := feR_ok h
  have hn' := inB_iff.1 hn
  have hl := okI_len ok
  rw [e]
  have hlen : (feA x n).length = x.Strokes.length * n.toNat := featI_len _ _ _ _
  have hint : ((feA x n).length : Int) = n * (x.Strokes.length : Int) := by
    rw [hlen, Int.natCast_mul, Int.mul_comm, show ((n.toNat : Nat) : Int) = n by omega]
  refine ⟨?_, hint⟩
  have hm := mulP_bd (x := n) (y := (x.Strokes.length : Int)) (A := 24) (B := 16) (by omega) (by omega) (by omega) hl
  have hm2 : 1 * 1 ≤ n * (x.Strokes.length : Int) := Int.mul_le_mul (by omega) (by omega) (by omega) (by omega)
  simp only [okFeats, Bool.and_eq_true, decide_eq_true_eq]
  refine ⟨by show 1 ≤ ((feA x n).length : Int) ∧ ((feA x n).length : Int) ≤ 384; omega, allN_iff.2 fun j hj => ?_⟩
  exact featI_in ok (by omega) (inkB_ok ok (by omega) _ (Nat.le_refl _)) (fun j hj => inkB_has x.Strokes _ j hj) _ (Nat.le_refl _) _ (at_mem hj)
section
variable {dx dy : Int}
def mvQ (dx dy : Int) (p : Spot) : Spot := ⟨p.X + dx, p.Y + dy⟩
end


-- spec.l02All
theorem l02All_ok (ik : Ink) (ok : okInk' ik = true) (h0 : 1 ≤ ik.Strokes.length) : Con Tryz.prog 55 [.ptr false [slStroke false ik.Strokes]] true (agBox (inkB ik.Strokes ik.Strokes.length)) := by
  refine fn_ok (fn := Tryz.f55) (nt := 30) Tryz.func55 rfl rfl rfl rfl (by simp [taggedL, tagged, tagStroke]) fun B hB => ?_
  refine aw_lens (x := .ptr false [slStroke false ik.Strokes]) 0 rfl (fun len_ik => ?_)
  simp [LenOK, LenL, cPoint, cStroke, fPoint, fStroke, slPoint, slStroke] at len_ik
  refine aR [(0, .new 2)] [0, 2] [2] [.ptr false [slStroke false ik.Strokes], .ref 2 0] [some (.box [I 0, I 0, I 0, I 0])] [] hB trivial ?_
  refine aR [(5, .call [(true, .any)] true (agBox (boxS (at_ ik.Strokes 0).Points (at_ ik.Strokes 0).Points.length))), (6, .new 3)] [0, 2, 3] [2, 3] [.ptr false [slStroke false ik.Strokes], .ref 2 0, .ref 3 0] [some (.box [I 0, I 0, I 0, I 0]), some (bxBox (boxS (at_ ik.Strokes 0).Points (at_ ik.Strokes 0).Points.length))] [(0 : Int) ≤ 0 ∧ 0 < (ik.Strokes.length : Int), Con Tryz.prog 93 [.ptr false [slPoint false ((at_ ik.Strokes 0).Points)]] true (agBox (boxS (at_ ik.Strokes 0).Points (at_ ik.Strokes 0).Points.length)) ∧ True] hB ⟨⟨(by omega), (by omega)⟩, ⟨(l02BoxOf_ok (at_ ik.Strokes 0) (okI_all ok _ (by omega))), trivial⟩, trivial⟩ ?_
  refine aw_seq ?_
  refine aR [] [0, 2, 3, 4] [2, 3] [.ptr false [slStroke false ik.Strokes], .ref 2 0, .ref 3 0, I 1] [some (.box [I 0, I 0, I 0, I 0]), some (bxBox (boxS (at_ ik.Strokes 0).Points (at_ ik.Strokes 0).Points.length))] [] hB trivial ?_
  refine aw_block ?_
  refine aw_weak hB [] (T := [(0, .ptr false [slStroke false ik.Strokes]), (2, .ref 2 0), (3, .ref 3 0), (4, I 1)]) (O := [(2, .box [I 0, I 0, I 0, I 0]), (3, .box [I ((boxS (at_ ik.Strokes 0).Points (at_ ik.Strokes 0).Points.length).X1), I ((boxS (at_ ik.Strokes 0).Points (at_ ik.Strokes 0).Points.length).Y1), I ((boxS (at_ ik.Strokes 0).Points (at_ ik.Strokes 0).Points.length).X2), I ((boxS (at_ ik.Strokes 0).Points (at_ ik.Strokes 0).Points.length).Y2)])]) rfl (⟨.inl rfl, .inl rfl, .inl rfl, .inl rfl, trivial⟩) (⟨.inl rfl, .inr ⟨rfl, ⟨rfl, ⟨rfl, ⟨rfl, rfl⟩⟩⟩⟩, trivial⟩) ?_
  refine aw_loop (fun gn gσ => ∃ (i : Int) (x1 : Int) (y1 : Int) (x2 : Int) (y2 : Int), gn = ((ik.Strokes.length : Int) - i).toNat ∧ (1 ≤ i ∧ i ≤ (ik.Strokes.length : Int)) ∧ (Box.mk x1 y1 x2 y2 = inkB ik.Strokes i.toNat) ∧ gσ = mkS [(0, .ptr false [slStroke false ik.Strokes]), (2, .ref 2 0), (3, .ref 3 0), (4, I i)] [(2, .box [I 0, I 0, I 0, I 0]), (3, .box [I x1, I y1, I x2, I y2])]) (((ik.Strokes.length : Int) - 1).toNat) ⟨1, (boxS (at_ ik.Strokes 0).Points (at_ ik.Strokes 0).Points.length).X1, (boxS (at_ ik.Strokes 0).Points (at_ ik.Strokes 0).Points.length).Y1, (boxS (at_ ik.Strokes 0).Points (at_ ik.Strokes 0).Points.length).X2, (boxS (at_ ik.Strokes 0).Points (at_ ik.Strokes 0).Points.length).Y2, rfl, (by omega), (by first | rfl | exact (inkB_one _).symm), rfl⟩ (fun gn gσ hI => ?_)
  obtain ⟨i, x1, y1, x2, y2, rfl, hi0, hb1, rfl⟩ := hI
  refine aw_seq ?_
  refine aw_seq ?_
  by_cases h1 : i < (ik.Strokes.length : Int)
  ·have hi : i.toNat < ik.Strokes.length := by omega
   refine aw_r [(6, .dec true)] [0, 2, 3, 4, 17] [2, 3] [.ptr false [slStroke false ik.Strokes], .ref 2 0, .ref 3 0, I i, Bv true] [some (.box [I 0, I 0, I 0, I 0]), some (.box [I x1, I y1, I x2, I y2])] [i < (ik.Strokes.length : Int)] hB ⟨h1, trivial⟩ ?_
   refine ae_then ?_
   refine aw_true rfl ?_
   refine aw_skip ?_
   refine ae_then ?_
   refine aw_seq ?_
   refine aw_block ?_
   refine aw_r [(7, .call [(true, .any)] true (agBox (boxS (at_ ik.Strokes i.toNat).Points (at_ ik.Strokes i.toNat).Points.length))), (8, .call [(true, .any), (true, .any)] true (agBox (joinB (Box.mk x1 y1 x2 y2) (boxS (at_ ik.Strokes i.toNat).Points (at_ ik.Strokes i.toNat).Points.length))))] [0, 2, 3, 4] [2, 3] [.ptr false [slStroke false ik.Strokes], .ref 2 0, .ref 3 0, I i] [some (.box [I 0, I 0, I 0, I 0]), some (bxBox (joinB (Box.mk x1 y1 x2 y2) (boxS (at_ ik.Strokes i.toNat).Points (at_ ik.Strokes i.toNat).Points.length)))] [(0 : Int) ≤ i ∧ i < (ik.Strokes.length : Int), Con Tryz.prog 93 [.ptr false [slPoint false ((at_ ik.Strokes i.toNat).Points)]] true (agBox (boxS (at_ ik.Strokes i.toNat).Points (at_ ik.Strokes i.toNat).Points.length)) ∧ True, Con Tryz.prog 94 [.agg [I x1, I y1, I x2, I y2], agBox (boxS (at_ ik.Strokes i.toNat).Points (at_ ik.Strokes i.toNat).Points.length)] true (agBox (joinB (Box.mk x1 y1 x2 y2) (boxS (at_ ik.Strokes i.toNat).Points (at_ ik.Strokes i.toNat).Points.length))) ∧ True] hB ⟨⟨(by omega), (by omega)⟩, ⟨(l02BoxOf_ok (at_ ik.Strokes i.toNat) (okI_all ok _ (by omega))), trivial⟩, ⟨(l02Join_ok (Box.mk x1 y1 x2 y2) (boxS (at_ ik.Strokes i.toNat).Points (at_ ik.Strokes i.toNat).Points.length)), trivial⟩, trivial⟩ ?_
   refine ae_block 1 ?_
   refine ae_then ?_
   refine aw_r [] [0, 2, 3, 4] [2, 3] [.ptr false [slStroke false ik.Strokes], .ref 2 0, .ref 3 0, I (i + 1)] [some (.box [I 0, I 0, I 0, I 0]), some (bxBox (joinB (Box.mk x1 y1 x2 y2) (boxS (at_ ik.Strokes i.toNat).Points (at_ ik.Strokes i.toNat).Points.length)))] [inR .i64 (i + 1)] hB ⟨(inR_i64 (by omega) (by omega)), trivial⟩ ?_
   refine ae_weak hB [] (T := [(0, .ptr false [slStroke false ik.Strokes]), (2, .ref 2 0), (3, .ref 3 0), (4, I (i + 1))]) (O := [(2, .box [I 0, I 0, I 0, I 0]), (3, .box [I ((joinB (Box.mk x1 y1 x2 y2) (boxS (at_ ik.Strokes i.toNat).Points (at_ ik.Strokes i.toNat).Points.length)).X1), I ((joinB (Box.mk x1 y1 x2 y2) (boxS (at_ ik.Strokes i.toNat).Points (at_ ik.Strokes i.toNat).Points.length)).Y1), I ((joinB (Box.mk x1 y1 x2 y2) (boxS (at_ ik.Strokes i.toNat).Points (at_ ik.Strokes i.toNat).Points.length)).X2), I ((joinB (Box.mk x1 y1 x2 y2) (boxS (at_ ik.Strokes i.toNat).Points (at_ ik.Strokes i.toNat).Points.length)).Y2)])]) rfl (⟨.inl rfl, .inl rfl, .inl rfl, .inl rfl, trivial⟩) (⟨.inl rfl, .inr ⟨rfl, ⟨rfl, ⟨rfl, ⟨rfl, rfl⟩⟩⟩⟩, trivial⟩) (ae_again _ (by omega) ⟨(i + 1), (joinB (Box.mk x1 y1 x2 y2) (boxS (at_ ik.Strokes i.toNat).Points (at_ ik.Strokes i.toNat).Points.length)).X1, (joinB (Box.mk x1 y1 x2 y2) (boxS (at_ ik.Strokes i.toNat).Points (at_ ik.Strokes i.toNat).Points.length)).Y1, (joinB (Box.mk x1 y1 x2 y2) (boxS (at_ ik.Strokes i.toNat).Points (at_ ik.Strokes i.toNat).Points.length)).X2, (joinB (Box.mk x1 y1 x2 y2) (boxS (at_ ik.Strokes i.toNat).Points (at_ ik.Strokes i.toNat).Points.length)).Y2, rfl, (by omega), (by rw [inkB_succ (by omega), ← hb1]; rfl), rfl⟩)
  have hie : i.toNat = ik.Strokes.length := by omega
  rw [hie] at hb1
  refine aw_r [(6, .dec false)] [0, 2, 3, 4, 17] [2, 3] [.ptr false [slStroke false ik.Strokes], .ref 2 0, .ref 3 0, I i, Bv false] [some (.box [I 0, I 0, I 0, I 0]), some (.box [I x1, I y1, I x2, I y2])] [¬ (i < (ik.Strokes.length : Int))] hB ⟨h1, trivial⟩ ?_
  refine ae_then ?_
  refine aw_false rfl ?_
  refine aw_exit ?_
  refine ae_exit_then ?_
  refine ae_exit_then ?_
  refine ae_exit_same ?_
  refine ae_then ?_
  refine aR [] [2] [2] [.ref 2 0] [some (.box [I x1, I y1, I x2, I y2])] [] hB trivial ?_
  refine aw_ret ?_
  refine ae_ret hB (.agg [I x1, I y1, I x2, I y2]) (by kernel_rfl) (.inl (by rw [← hb1])) rfl (fun _ => (by simp [tagged, taggedL]))



-- spec.l05Far
theorem l05Far_ok (a : Point) (b : Point) (ha : okP a = true) (hb : okP b = true) : Con Tryz.prog 193 [agPoint a, agPoint b] true (I (farQ a b)) := by
  have ha' := okP_iff.1 ha
  have hb' := okP_iff.1 hb
  have hfb := far_bd ha hb
  refine fn_ok (fn := Tryz.f193) (nt := 24) Tryz.func193 rfl rfl rfl rfl (by simp [taggedL, tagged]) fun B hB => ?_
  refine aR [(0, .new 2), (1, .new 3)] [2, 3] [2, 3] [.ref 2 0, .ref 3 0] [some (bxPoint a), some (bxPoint b)] [] hB trivial ?_
  refine aR [] [2, 3, 5] [2, 3] [.ref 2 0, .ref 3 0, I (a.X - b.X)] [some (bxPoint a), some (bxPoint b)] [inR .i64 (a.X - b.X)] hB ⟨(inR_i64 (by omega) (by omega)), trivial⟩ ?_
  refine aR [] [5, 6] [] [I (a.X - b.X), I (a.Y - b.Y)] [] [inR .i64 (a.Y - b.Y)] hB ⟨(inR_i64 (by omega) (by omega)), trivial⟩ ?_
  refine aR [] [4] [] [I (((a.X - b.X) * (a.X - b.X)) + ((a.Y - b.Y) * (a.Y - b.Y)))] [] [inR .i64 ((a.X - b.X) * (a.X - b.X)), inR .i64 ((a.Y - b.Y) * (a.Y - b.Y)), inR .i64 (((a.X - b.X) * (a.X - b.X)) + ((a.Y - b.Y) * (a.Y - b.Y)))] hB ⟨(inR_i64 (by omega) (by omega)), (inR_i64 (by omega) (by omega)), (inR_i64 (by omega) (by omega)), trivial⟩ ?_
  refine aw_ret ?_
  refine ae_ret hB (I (((a.X - b.X) * (a.X - b.X)) + ((a.Y - b.Y) * (a.Y - b.Y)))) (by kernel_rfl) (.inl (by first | rfl | (refine congrArg Bv ?_; simp [*]; done) | (refine congrArg Bv ?_; simp [*]; omega) | (refine congrArg Bv ?_; simp_all []; done) | (refine congrArg Bv ?_; simp_all []; omega))) rfl (fun _ => trivial)



-- spec.l05Root
theorem l05Root_ok (n : Int) (hn : 0 ≤ n ∧ n ≤ 1000000000000000) : Con Tryz.prog 192 [I n] true (I (rootI n)) := by
  refine fn_ok (fn := Tryz.f192) (nt := 23) Tryz.func192 rfl rfl rfl rfl (by simp [taggedL, tagged]) fun B hB => ?_
  refine aR [] [0] [] [I n] [] [] hB trivial ?_
  refine aR [] [0, 3] [] [I n, I 0] [] [] hB trivial ?_
  refine aR [] [0, 3, 4] [] [I n, I 0, I 40000000] [] [] hB trivial ?_
  refine aw_seq ?_
  refine aw_block ?_
  refine aw_loop (fun gn gσ => ∃ (low : Int) (high : Int), gn = ((high : Int) - low).toNat ∧ (0 ≤ low ∧ low ≤ high ∧ high ≤ 40000000) ∧ (low * low ≤ n) ∧ (n < (high + 1) * (high + 1)) ∧ gσ = mkS [(0, I n), (3, I low), (4, I high)] []) (((40000000 : Int) - 0).toNat) ⟨0, 40000000, rfl, (by omega), (by omega), (by omega), rfl⟩ (fun gn gσ hI => ?_)
  obtain ⟨low, high, rfl, hl0, hl1, hl2, rfl⟩ := hI
  have hmm := sq_le (a := (((low + high) + 1) / 2)) (b := 40000000) (by omega) (by omega)
  have hmz := sq_le (a := 0) (b := (((low + high) + 1) / 2)) (by omega) (by omega)
  refine aw_seq ?_
  refine aw_seq ?_
  by_cases h1 : low < high
  ·refine aw_r [(2, .dec true)] [0, 3, 4, 8] [] [I n, I low, I high, Bv true] [] [low < high] hB ⟨h1, trivial⟩ ?_
   refine ae_then ?_
   refine aw_true rfl ?_
   refine aw_skip ?_
   refine ae_then ?_
   refine aw_block ?_
   refine aR [(4, .nn)] [0, 3, 4, 5] [] [I n, I low, I high, I (((low + high) + 1) / 2)] [] [inR .i64 (low + high), inR .i64 ((low + high) + 1), (0 : Int) ≤ ((low + high) + 1) ∧ (0 : Int) < 2 ∧ inR .i64 ((low + high) + 1)] hB ⟨(inR_i64 (by omega) (by omega)), (inR_i64 (by omega) (by omega)), ⟨(by omega), (by omega), (inR_i64 (by omega) (by omega))⟩, trivial⟩ ?_
   refine aw_seq ?_
   by_cases h2 : ((((low + high) + 1) / 2) * (((low + high) + 1) / 2)) ≤ n
   ·refine aw_r [(4, .dec true)] [0, 3, 4, 5, 18] [] [I n, I low, I high, I (((low + high) + 1) / 2), Bv true] [] [inR .i64 ((((low + high) + 1) / 2) * (((low + high) + 1) / 2)), ((((low + high) + 1) / 2) * (((low + high) + 1) / 2)) ≤ n] hB ⟨(inR_i64 (by omega) (by omega)), h2, trivial⟩ ?_
    refine ae_then ?_
    refine aw_true rfl ?_
    refine aw_r [] [0, 3, 4] [] [I n, I (((low + high) + 1) / 2), I high] [] [] hB trivial ?_
    refine ae_block 1 ?_
    exact ae_again _ (by omega) ⟨(((low + high) + 1) / 2), high, rfl, (by omega), (by omega), (by first | omega | (rw [show ∀ x : Int, x - 1 + 1 = x from fun x => by omega]; omega)), rfl⟩
   refine aw_r [(4, .dec false)] [0, 3, 4, 5, 18] [] [I n, I low, I high, I (((low + high) + 1) / 2), Bv false] [] [inR .i64 ((((low + high) + 1) / 2) * (((low + high) + 1) / 2)), ¬ (((((low + high) + 1) / 2) * (((low + high) + 1) / 2)) ≤ n)] hB ⟨(inR_i64 (by omega) (by omega)), h2, trivial⟩ ?_
   refine ae_then ?_
   refine aw_false rfl ?_
   refine aw_r [] [0, 3, 4] [] [I n, I low, I ((((low + high) + 1) / 2) - 1)] [] [inR .i64 ((((low + high) + 1) / 2) - 1)] hB ⟨(inR_i64 (by omega) (by omega)), trivial⟩ ?_
   refine ae_block 1 ?_
   exact ae_again _ (by omega) ⟨low, ((((low + high) + 1) / 2) - 1), rfl, (by omega), (by omega), (by first | omega | (rw [show ∀ x : Int, x - 1 + 1 = x from fun x => by omega]; omega)), rfl⟩
  refine aw_r [(2, .dec false)] [0, 3, 4, 8] [] [I n, I low, I high, Bv false] [] [¬ (low < high)] hB ⟨h1, trivial⟩ ?_
  refine ae_then ?_
  refine aw_false rfl ?_
  refine aw_exit ?_
  refine ae_exit_then ?_
  refine ae_exit_then ?_
  refine ae_exit_same ?_
  refine ae_then ?_
  refine aR [] [2] [] [I low] [] [] hB trivial ?_
  refine aw_ret ?_
  refine ae_ret hB (I low) (by kernel_rfl) (.inl (by exact congrArg I (Eq.symm (rootI_eq hl0.1 hl1 (by have e : high = low := (by omega); rw [e] at hl2; exact hl2))))) rfl (fun _ => trivial)



-- spec.l05Length
theorem l05Length_ok (a : Point) (b : Point) (ha : okP a = true) (hb : okP b = true) : Con Tryz.prog 176 [agPoint a, agPoint b] true (I (segI a b)) := by
  have ha' := okP_iff.1 ha
  have hb' := okP_iff.1 hb
  have hfb := far_bd ha hb
  have hlb := segI_bd ha hb
  refine fn_ok (fn := Tryz.f176) (nt := 10) Tryz.func176 rfl rfl rfl rfl (by simp [taggedL, tagged]) fun B hB => ?_
  refine aR [(0, .new 2), (1, .new 3)] [2, 3] [2, 3] [.ref 2 0, .ref 3 0] [some (bxPoint a), some (bxPoint b)] [] hB trivial ?_
  refine aR [(2, .call [(true, .any), (true, .any)] true (I (farQ a b))), (4, .call [(true, .any)] true (I (rootI (256 * (farQ a b)))))] [4] [] [I (rootI (256 * (farQ a b)))] [] [Con Tryz.prog 193 [agPoint a, agPoint b] true (I (farQ a b)) ∧ True, inR .i64 (256 * (farQ a b)), Con Tryz.prog 192 [I (256 * (farQ a b))] true (I (rootI (256 * (farQ a b)))) ∧ True] hB ⟨⟨(l05Far_ok a b ha hb), trivial⟩, (inR_i64 (by omega) (by omega)), ⟨(l05Root_ok (256 * (farQ a b)) (by omega)), trivial⟩, trivial⟩ ?_
  refine aw_ret ?_
  refine ae_ret hB (I (rootI (256 * (farQ a b)))) (by kernel_rfl) (.inl (by first | rfl | (refine congrArg Bv ?_; simp [*]; done) | (refine congrArg Bv ?_; simp [*]; omega) | (refine congrArg Bv ?_; simp_all []; done) | (refine congrArg Bv ?_; simp_all []; omega))) rfl (fun _ => trivial)



-- spec.l06Arcs
theorem l06Arcs_ok (s : Stroke) (ok : okStroke' s = true) : Con Tryz.prog 134 [.ptr false [slPoint false s.Points]] true (slI true (arcsL s.Points s.Points.length)) := by
  have hln := okS_len ok
  refine fn_ok (fn := Tryz.f134) (nt := 41) Tryz.func134 rfl rfl rfl rfl (by simp [taggedL, tagged, tagPoint]) fun B hB => ?_
  refine aw_lens (x := .ptr false [slPoint false s.Points]) 0 rfl (fun len_s => ?_)
  simp [LenOK, LenL, cPoint, fPoint, slPoint] at len_s
  refine aR [] [0] [] [.ptr false [slPoint false s.Points]] [] [] hB trivial ?_
  refine aR [(0, .new 5)] [0, 3] [5] [.ptr false [slPoint false s.Points], .arr 5] [some (.arr 1 1 (litF [I 0] 1))] [] hB trivial ?_
  refine aw_seq ?_
  refine aR [] [0, 3, 4] [5] [.ptr false [slPoint false s.Points], .arr 5, I 1] [some (.arr 1 1 (litF [I 0] 1))] [] hB trivial ?_
  refine aw_block ?_
  refine aw_weak hB [] (T := [(0, .ptr false [slPoint false s.Points]), (3, .arr 5), (4, I 1)]) (O := [(5, tAI ([0]))]) rfl (⟨.inl rfl, .inl rfl, .inl rfl, trivial⟩) (⟨.inr ⟨rfl, (by first | rfl | (simp; done) | (simp; omega) | omega), fun i_ hi_ => .inl (match i_, hi_ with | 0, _ => rfl | (i + 1), h => absurd h (by simp))⟩, trivial⟩) ?_
  refine aw_loop (fun gn gσ => ∃ (out : List Int) (i : Int), gn = ((s.Points.length : Int) - i).toNat ∧ (1 ≤ i ∧ i ≤ (s.Points.length : Int)) ∧ (out = arcsL s.Points i.toNat) ∧ gσ = mkS [(0, .ptr false [slPoint false s.Points]), (3, .arr 5), (4, I i)] [(5, tAI out)]) (((s.Points.length : Int) - 1).toNat) ⟨[0], 1, rfl, (by omega), (by rfl), rfl⟩ (fun gn gσ hI => ?_)
  obtain ⟨out, i, rfl, hi0, hs0, rfl⟩ := hI
  refine aw_seq ?_
  refine aw_seq ?_
  by_cases h1 : i < (s.Points.length : Int)
  ·have hi : i.toNat < s.Points.length := by omega
   have hi2 : (i - 1).toNat < s.Points.length := by omega
   have hp1 := okS_at ok hi2
   have hp2 := okS_at ok hi
   have hlb := segI_bd hp1 hp2
   have hal : out.length = i.toNat := by rw [hs0, arcsL_len]
   have hav : at_ out (i - 1).toNat = sumS s.Points i.toNat := by rw [hs0, arcsL_at (by omega)]; congr 1; omega
   have hsb := sumS_bd ok i.toNat (by omega)
   refine aw_r [(6, .dec true)] [0, 3, 4, 12] [5] [.ptr false [slPoint false s.Points], .arr 5, I i, Bv true] [some (tAI out)] [i < (s.Points.length : Int)] hB ⟨h1, trivial⟩ ?_
   refine ae_then ?_
   refine aw_true rfl ?_
   refine aw_skip ?_
   refine ae_then ?_
   refine aw_seq ?_
   refine aw_block ?_
   refine aw_r [(21, .call [(true, .any), (true, .any)] true (I (segI (at_ s.Points ((i - 1).toNat)) (at_ s.Points i.toNat)))), (23, .new 38), (24, .new 39)] [0, 3, 4] [39] [.ptr false [slPoint false s.Points], .arr 39, I i] [some (.arr 1 (out.length + 1) (catF out.length (fI out) (litF [I ((at_ out ((i - 1).toNat)) + (segI (at_ s.Points ((i - 1).toNat)) (at_ s.Points i.toNat)))] 1)))] [inR .i64 (i - 1), (0 : Int) ≤ (i - 1) ∧ (i - 1) < (out.length : Int), (i - 1).toNat < out.length, inR .i64 (i - 1), (0 : Int) ≤ (i - 1) ∧ (i - 1) < (s.Points.length : Int), (0 : Int) ≤ i ∧ i < (s.Points.length : Int), Con Tryz.prog 176 [agPoint (at_ s.Points ((i - 1).toNat)), agPoint (at_ s.Points i.toNat)] true (I (segI (at_ s.Points ((i - 1).toNat)) (at_ s.Points i.toNat))) ∧ True, inR .i64 ((at_ out ((i - 1).toNat)) + (segI (at_ s.Points ((i - 1).toNat)) (at_ s.Points i.toNat))), (out.length + 1) * 8 ≤ 140737488355328] hB ⟨(inR_i64 (by omega) (by omega)), ⟨(by omega), (by omega)⟩, (by omega), (inR_i64 (by omega) (by omega)), ⟨(by omega), (by omega)⟩, ⟨(by omega), (by omega)⟩, ⟨(l05Length_ok (at_ s.Points ((i - 1).toNat)) (at_ s.Points i.toNat) hp1 hp2), trivial⟩, (inR_i64 (by omega) (by omega)), (by omega), trivial⟩ ?_
   refine ae_block 1 ?_
   refine ae_then ?_
   refine aw_r [] [0, 3, 4] [39] [.ptr false [slPoint false s.Points], .arr 39, I (i + 1)] [some (.arr 1 (out.length + 1) (catF out.length (fI out) (litF [I ((at_ out ((i - 1).toNat)) + (segI (at_ s.Points ((i - 1).toNat)) (at_ s.Points i.toNat)))] 1)))] [inR .i64 (i + 1)] hB ⟨(inR_i64 (by omega) (by omega)), trivial⟩ ?_
   refine ae_weak hB [(5, 39)] (T := [(0, .ptr false [slPoint false s.Points]), (3, .arr 5), (4, I (i + 1))]) (O := [(5, tAI (out ++ [((at_ out ((i - 1).toNat)) + (segI (at_ s.Points ((i - 1).toNat)) (at_ s.Points i.toNat)))]))]) rfl (⟨.inl rfl, .inl rfl, .inl rfl, trivial⟩) (⟨.inr ⟨rfl, (by first | rfl | (simp; done) | (simp; omega) | omega), fun i_ hi_ => .inl (cat_snoc (enc := cI) (xs := out) rfl i_ hi_)⟩, trivial⟩) (ae_again _ (by omega) ⟨(out ++ [((at_ out ((i - 1).toNat)) + (segI (at_ s.Points ((i - 1).toNat)) (at_ s.Points i.toNat)))]), (i + 1), rfl, (by omega), (by have e : (i + 1).toNat = i.toNat + 1 := (by omega); rw [e, arcsL_succ, ← e, sumS_succ hi0.1, ← hs0, hav]), rfl⟩)
  have hie : i.toNat = s.Points.length := by omega
  rw [hie] at hs0
  subst hs0
  refine aw_r [(6, .dec false)] [0, 3, 4, 12] [5] [.ptr false [slPoint false s.Points], .arr 5, I i, Bv false] [some (tAI (arcsL s.Points s.Points.length))] [¬ (i < (s.Points.length : Int))] hB ⟨h1, trivial⟩ ?_
  refine ae_then ?_
  refine aw_false rfl ?_
  refine aw_exit ?_
  refine ae_exit_then ?_
  refine ae_exit_then ?_
  refine ae_exit_same ?_
  refine ae_then ?_
  refine aR [] [2] [5] [.arr 5] [some (tAI (arcsL s.Points s.Points.length))] [] hB trivial ?_
  refine aw_ret ?_
  refine ae_ret hB (.arr 5) (by kernel_rfl) (.inr ⟨(fun _ => rfl), rfl, rfl, fun i _ => .inl rfl⟩) rfl (fun _ => (tagI true _))



-- spec.l06Spot
theorem l06Spot_ok (p : Point) : Con Tryz.prog 177 [agPoint p] true (.agg [I p.X, I p.Y]) := by
  refine fn_ok (fn := Tryz.f177) (nt := 8) Tryz.func177 rfl rfl rfl rfl (by simp [taggedL, tagged]) fun B hB => ?_
  refine aR [(0, .new 1), (1, .new 2)] [1, 2] [1, 2] [.ref 1 0, .ref 2 0] [some (bxPoint p), some (.box [I 0, I 0])] [] hB trivial ?_
  refine aR [] [2] [2] [.ref 2 0] [some (.box [I p.X, I p.Y])] [] hB trivial ?_
  refine aw_ret ?_
  refine ae_ret hB (.agg [I p.X, I p.Y]) (by kernel_rfl) (.inl rfl) rfl (fun _ => (by simp [tagged, taggedL]))



-- spec.l05Down
theorem l05Down_ok (n : Int) (d : Int) (hn : (-4611686018427387904 ≤ n ∧ n ≤ 4611686018427387904) ∧ 0 < d) : Con Tryz.prog 178 [I n, I d] true (I (n / d)) := by
  have hq := tdiv_bd n d
  have hs := down_spec n hn.2
  refine fn_ok (fn := Tryz.f178) (nt := 16) Tryz.func178 rfl rfl rfl rfl (by simp [taggedL, tagged]) fun B hB => ?_
  refine aR [] [0, 1] [] [I n, I d] [] [] hB trivial ?_
  refine aR [] [0, 1, 5] [] [I n, I d, I (Int.tdiv n d)] [] [(d : Int) ≠ 0 ∧ inR .i64 (Int.tdiv n d)] hB ⟨⟨by omega, (inR_i64 (by omega) (by omega))⟩, trivial⟩ ?_
  refine aw_seq ?_
  refine aw_seq ?_
  by_cases h1 : (Int.tmod n d) < 0
  ·refine aw_r [(3, .dec true)] [5, 12] [] [I (Int.tdiv n d), Bv true] [] [(d : Int) ≠ 0, (Int.tmod n d) < 0] hB ⟨(by omega), h1, trivial⟩ ?_
   refine ae_then ?_
   refine aw_true rfl ?_
   refine aw_r [] [5] [] [I ((Int.tdiv n d) - 1)] [] [inR .i64 ((Int.tdiv n d) - 1)] hB ⟨(inR_i64 (by omega) (by omega)), trivial⟩ ?_
   refine ae_then ?_
   refine aR [] [4] [] [I ((Int.tdiv n d) - 1)] [] [] hB trivial ?_
   refine aw_ret ?_
   refine ae_ret hB (I ((Int.tdiv n d) - 1)) (by kernel_rfl) (.inl (by refine congrArg I ?_; first | exact hs.1 (by assumption) | exact hs.2 (by assumption))) rfl (fun _ => trivial)
  refine aw_r [(3, .dec false)] [5, 12] [] [I (Int.tdiv n d), Bv false] [] [(d : Int) ≠ 0, ¬ ((Int.tmod n d) < 0)] hB ⟨(by omega), h1, trivial⟩ ?_
  refine ae_then ?_
  refine aw_false rfl ?_
  refine aw_skip ?_
  refine ae_then ?_
  refine aR [] [4] [] [I (Int.tdiv n d)] [] [] hB trivial ?_
  refine aw_ret ?_
  refine ae_ret hB (I (Int.tdiv n d)) (by kernel_rfl) (.inl (by refine congrArg I ?_; first | exact hs.1 (by assumption) | exact hs.2 (by assumption))) rfl (fun _ => trivial)



-- spec.l05Near
theorem l05Near_ok (n : Int) (d : Int) (hn : (-1000000000000000000 ≤ n ∧ n ≤ 1000000000000000000) ∧ 0 < d ∧ d ≤ 1000000000000000000) : Con Tryz.prog 138 [I n, I d] true (I (nearI n d)) := by
  refine fn_ok (fn := Tryz.f138) (nt := 12) Tryz.func138 rfl rfl rfl rfl (by simp [taggedL, tagged]) fun B hB => ?_
  refine aR [] [0, 1] [] [I n, I d] [] [] hB trivial ?_
  refine aR [(6, .call [(true, .any), (true, .any)] true (I (((2 * n) + d) / (2 * d))))] [4] [] [I (((2 * n) + d) / (2 * d))] [] [inR .i64 (2 * n), inR .i64 ((2 * n) + d), inR .i64 (2 * d), Con Tryz.prog 178 [I ((2 * n) + d), I (2 * d)] true (I (((2 * n) + d) / (2 * d))) ∧ True] hB ⟨(inR_i64 (by omega) (by omega)), (inR_i64 (by omega) (by omega)), (inR_i64 (by omega) (by omega)), ⟨(l05Down_ok ((2 * n) + d) (2 * d) (by omega)), trivial⟩, trivial⟩ ?_
  refine aw_ret ?_
  refine ae_ret hB (I (((2 * n) + d) / (2 * d))) (by kernel_rfl) (.inl (by rfl)) rfl (fun _ => trivial)



-- spec.l06At
theorem l06At_ok (s : Stroke) (arcs : List Int) (part : Int) (parts : Int) (ok : okStroke' s = true) (ha : arcs = arcsL s.Points s.Points.length) (hp : (0 ≤ part ∧ part ≤ parts) ∧ (1 ≤ parts ∧ parts ≤ 1000)) : Con Tryz.prog 135 [.ptr false [slPoint false s.Points], slI false arcs, I part, I parts] true (.agg [I ((spotI s part parts).X), I ((spotI s part parts).Y)]) := by
  have hln := okS_len ok
  have hal : arcs.length = s.Points.length := by rw [ha, arcsL_len]
  have hat : ∀ j, j < s.Points.length → at_ arcs j = arcI s j := by intro j hj; rw [ha]; exact arcsL_at hj
  have e0 : at_ arcs ((arcs.length : Int) - 1).toNat = arcI s (s.Points.length - 1) := (hat _ (by omega)).trans (by congr 1; omega)
  have hb0 := arcI_bd ok (k := s.Points.length - 1) (by omega)
  rw [← e0] at hb0
  have hm0 := mulP_bd hb0.1 hb0.2 hp.1.1 (by omega : part ≤ 1000)
  refine fn_ok (fn := Tryz.f135) (nt := 123) Tryz.func135 rfl rfl rfl rfl (by simp [taggedL, tagged, tagI, tagPoint]) fun B hB => ?_
  refine aw_lens (x := .ptr false [slPoint false s.Points]) 0 rfl (fun len_s => ?_)
  simp [LenOK, LenL, cPoint, fPoint, slPoint] at len_s
  refine aw_lens (x := slI false arcs) 1 rfl (fun len_arcs => ?_)
  simp [LenOK, LenL, cI, fI, slI] at len_arcs
  refine aR [(0, .new 8)] [0, 1, 2, 3, 8] [8] [.ptr false [slPoint false s.Points], slI false arcs, I part, I parts, .ref 8 0] [some (.box [I 0, I 0])] [] hB trivial ?_
  refine aR [] [0, 1, 3, 8, 9] [8] [.ptr false [slPoint false s.Points], slI false arcs, I parts, .ref 8 0, I ((at_ arcs (((arcs.length : Int) - 1).toNat)) * part)] [some (.box [I 0, I 0])] [inR .i64 ((arcs.length : Int) - 1), (0 : Int) ≤ ((arcs.length : Int) - 1) ∧ ((arcs.length : Int) - 1) < (arcs.length : Int), inR .i64 ((at_ arcs (((arcs.length : Int) - 1).toNat)) * part)] hB ⟨(inR_i64 (by omega) (by omega)), ⟨(by omega), (by omega)⟩, (inR_i64 (by omega) (by omega)), trivial⟩ ?_
  refine aR [] [0, 1, 3, 8, 9, 10] [8] [.ptr false [slPoint false s.Points], slI false arcs, I parts, .ref 8 0, I ((at_ arcs (((arcs.length : Int) - 1).toNat)) * part), I 1] [some (.box [I 0, I 0])] [] hB trivial ?_
  refine aw_seq ?_
  refine aw_block ?_
  refine aw_loop (fun gn gσ => ∃ (i : Int), gn = ((arcs.length : Int) - i).toNat ∧ (1 ≤ i ∧ i ≤ (arcs.length : Int)) ∧ (∀ j : Nat, (j : Int) < i → stopB s part parts j = false) ∧ gσ = mkS [(0, .ptr false [slPoint false s.Points]), (1, slI false arcs), (3, I parts), (8, .ref 8 0), (9, I ((at_ arcs (((arcs.length : Int) - 1).toNat)) * part)), (10, I i)] [(8, .box [I 0, I 0])]) (((arcs.length : Int) - 1).toNat) ⟨1, rfl, (by omega), (by intro j hj; exact stop_no (fun q => by omega)), rfl⟩ (fun gn gσ hI => ?_)
  obtain ⟨i, rfl, hi0, hn0, rfl⟩ := hI
  refine aw_seq ?_
  refine aw_seq ?_
  by_cases h1 : i < (arcs.length : Int)
  ·have hi : i.toNat < s.Points.length := by omega
   have ei : (i - 1).toNat = i.toNat - 1 := by omega
   have e1 := hat i.toNat hi
   have e2 : at_ arcs (i - 1).toNat = arcI s (i.toNat - 1) := (hat _ (by omega)).trans (by rw [ei])
   have hb1 := arcI_bd ok hi
   have hb2 := arcI_bd ok (k := i.toNat - 1) (by omega)
   have hup := arcI_up ok hi (by omega)
   rw [← e1] at hb1
   rw [← e2] at hb2
   rw [← e1, ← e2] at hup
   have hm1 := mulP_bd hb1.1 hb1.2 (by omega : 0 ≤ parts) hp.2.2
   have hm2 := mulP_bd hb2.1 hb2.2 (by omega : 0 ≤ parts) hp.2.2
   have hm3 := mulP_bd (x := at_ arcs i.toNat - at_ arcs (i - 1).toNat) (A := 5559540) (by omega) (by omega) (by omega : 0 ≤ parts) hp.2.2
   by_cases h2 : (at_ arcs i.toNat) = (at_ arcs ((i - 1).toNat))
   ·have hst : stopB s part parts i.toNat = false := stop_no (by rintro ⟨_, q, _⟩; rw [← e1, ← e2] at q; omega)
    refine aw_r [(3, .dec true), (14, .dec true)] [0, 1, 3, 8, 9, 10, 48] [8] [.ptr false [slPoint false s.Points], slI false arcs, I parts, .ref 8 0, I ((at_ arcs (((arcs.length : Int) - 1).toNat)) * part), I i, Bv true] [some (.box [I 0, I 0])] [i < (arcs.length : Int), (0 : Int) ≤ i ∧ i < (arcs.length : Int), inR .i64 (i - 1), (0 : Int) ≤ (i - 1) ∧ (i - 1) < (arcs.length : Int), (at_ arcs i.toNat) = (at_ arcs ((i - 1).toNat))] hB ⟨h1, ⟨(by omega), (by omega)⟩, (inR_i64 (by omega) (by omega)), ⟨(by omega), (by omega)⟩, h2, trivial⟩ ?_
    refine ae_then ?_
    refine aw_true rfl ?_
    refine aw_skip ?_
    refine ae_then ?_
    refine aw_block ?_
    refine aw_r [] [0, 1, 3, 8, 9, 10] [8] [.ptr false [slPoint false s.Points], slI false arcs, I parts, .ref 8 0, I ((at_ arcs (((arcs.length : Int) - 1).toNat)) * part), I (i + 1)] [some (.box [I 0, I 0])] [inR .i64 (i + 1)] hB ⟨(inR_i64 (by omega) (by omega)), trivial⟩ ?_
    refine ae_block 1 ?_
    exact ae_again _ (by omega) ⟨(i + 1), rfl, (by omega), (by exact up_to (n := 0) (by omega) hn0 hst), rfl⟩
   by_cases h3 : ((at_ arcs i.toNat) * parts) < ((at_ arcs (((arcs.length : Int) - 1).toNat)) * part)
   ·have hst : stopB s part parts i.toNat = false := stop_no (by rintro ⟨_, _, q⟩; rw [← e1, ← e0] at q; omega)
    refine aw_r [(3, .dec true), (14, .dec false), (23, .dec true)] [0, 1, 3, 8, 9, 10, 48] [8] [.ptr false [slPoint false s.Points], slI false arcs, I parts, .ref 8 0, I ((at_ arcs (((arcs.length : Int) - 1).toNat)) * part), I i, Bv true] [some (.box [I 0, I 0])] [i < (arcs.length : Int), (0 : Int) ≤ i ∧ i < (arcs.length : Int), inR .i64 (i - 1), (0 : Int) ≤ (i - 1) ∧ (i - 1) < (arcs.length : Int), ¬ ((at_ arcs i.toNat) = (at_ arcs ((i - 1).toNat))), (0 : Int) ≤ i ∧ i < (arcs.length : Int), inR .i64 ((at_ arcs i.toNat) * parts), ((at_ arcs i.toNat) * parts) < ((at_ arcs (((arcs.length : Int) - 1).toNat)) * part)] hB ⟨h1, ⟨(by omega), (by omega)⟩, (inR_i64 (by omega) (by omega)), ⟨(by omega), (by omega)⟩, h2, ⟨(by omega), (by omega)⟩, (inR_i64 (by omega) (by omega)), h3, trivial⟩ ?_
    refine ae_then ?_
    refine aw_true rfl ?_
    refine aw_skip ?_
    refine ae_then ?_
    refine aw_block ?_
    refine aw_r [] [0, 1, 3, 8, 9, 10] [8] [.ptr false [slPoint false s.Points], slI false arcs, I parts, .ref 8 0, I ((at_ arcs (((arcs.length : Int) - 1).toNat)) * part), I (i + 1)] [some (.box [I 0, I 0])] [inR .i64 (i + 1)] hB ⟨(inR_i64 (by omega) (by omega)), trivial⟩ ?_
    refine ae_block 1 ?_
    exact ae_again _ (by omega) ⟨(i + 1), rfl, (by omega), (by exact up_to (n := 0) (by omega) hn0 hst), rfl⟩
   have hst : stopB s part parts i.toNat = true := stop_iff.2 (by rw [← e1, ← e0, ← e2]; omega)
   have hn1 : ∀ j, j < i.toNat → stopB s part parts j = false := fun j hj => hn0 j (by omega)
   have hr := spot_rest ok (by omega) hi hst hn1
   rw [← e0, ← e1, ← e2] at hr
   have hpa := okP_iff.1 (okS_at ok (j := (i - 1).toNat) (by omega))
   have hpb := okP_iff.1 (okS_at ok hi)
   have hmx := mulS_bd (x := (at_ s.Points i.toNat).X - (at_ s.Points (i - 1).toNat).X) (A := 4095) (B := 5559540000) (by omega) (by omega) hr.1.1 (by omega)
   have hmy := mulS_bd (x := (at_ s.Points i.toNat).Y - (at_ s.Points (i - 1).toNat).Y) (A := 4095) (B := 5559540000) (by omega) (by omega) hr.1.1 (by omega)
   have hnx := near_between (x := (at_ s.Points i.toNat).X - (at_ s.Points (i - 1).toNat).X) hr.2 hr.1.1 hr.1.2
   have hny := near_between (x := (at_ s.Points i.toNat).Y - (at_ s.Points (i - 1).toNat).Y) hr.2 hr.1.1 hr.1.2
   have hsp := spotI_at hi hst hn1
   refine aw_r [(3, .dec true), (14, .dec false), (23, .dec false)] [0, 1, 3, 8, 9, 10, 48] [8] [.ptr false [slPoint false s.Points], slI false arcs, I parts, .ref 8 0, I ((at_ arcs (((arcs.length : Int) - 1).toNat)) * part), I i, Bv false] [some (.box [I 0, I 0])] [i < (arcs.length : Int), (0 : Int) ≤ i ∧ i < (arcs.length : Int), inR .i64 (i - 1), (0 : Int) ≤ (i - 1) ∧ (i - 1) < (arcs.length : Int), ¬ ((at_ arcs i.toNat) = (at_ arcs ((i - 1).toNat))), (0 : Int) ≤ i ∧ i < (arcs.length : Int), inR .i64 ((at_ arcs i.toNat) * parts), ¬ (((at_ arcs i.toNat) * parts) < ((at_ arcs (((arcs.length : Int) - 1).toNat)) * part))] hB ⟨h1, ⟨(by omega), (by omega)⟩, (inR_i64 (by omega) (by omega)), ⟨(by omega), (by omega)⟩, h2, ⟨(by omega), (by omega)⟩, (inR_i64 (by omega) (by omega)), h3, trivial⟩ ?_
   refine ae_then ?_
   refine aw_false rfl ?_
   refine aw_exit ?_
   refine ae_exit_then ?_
   refine ae_exit_then ?_
   refine ae_exit_same ?_
   refine ae_then ?_
   refine aw_seq ?_
   refine aR [(3, .dec false)] [0, 1, 3, 8, 9, 10, 54] [8] [.ptr false [slPoint false s.Points], slI false arcs, I parts, .ref 8 0, I ((at_ arcs (((arcs.length : Int) - 1).toNat)) * part), I i, Bv false] [some (.box [I 0, I 0])] [¬ (i = (arcs.length : Int))] hB ⟨(by omega), trivial⟩ ?_
   refine aw_false rfl ?_
   refine aw_skip ?_
   refine ae_then ?_
   refine aR [(8, .new 11)] [0, 1, 3, 8, 9, 10, 11] [8, 11] [.ptr false [slPoint false s.Points], slI false arcs, I parts, .ref 8 0, I ((at_ arcs (((arcs.length : Int) - 1).toNat)) * part), I i, .ref 11 0] [some (.box [I 0, I 0]), some (bxPoint (at_ s.Points ((i - 1).toNat)))] [inR .i64 (i - 1), (0 : Int) ≤ (i - 1) ∧ (i - 1) < (s.Points.length : Int)] hB ⟨(inR_i64 (by omega) (by omega)), ⟨(by omega), (by omega)⟩, trivial⟩ ?_
   refine aR [(7, .new 12)] [1, 3, 8, 9, 10, 11, 12] [8, 11, 12] [slI false arcs, I parts, .ref 8 0, I ((at_ arcs (((arcs.length : Int) - 1).toNat)) * part), I i, .ref 11 0, .ref 12 0] [some (.box [I 0, I 0]), some (bxPoint (at_ s.Points ((i - 1).toNat))), some (bxPoint (at_ s.Points i.toNat))] [(0 : Int) ≤ i ∧ i < (s.Points.length : Int)] hB ⟨⟨(by omega), (by omega)⟩, trivial⟩ ?_
   refine aR [] [1, 3, 8, 10, 11, 12, 13] [8, 11, 12] [slI false arcs, I parts, .ref 8 0, I i, .ref 11 0, .ref 12 0, I (((at_ arcs (((arcs.length : Int) - 1).toNat)) * part) - ((at_ arcs ((i - 1).toNat)) * parts))] [some (.box [I 0, I 0]), some (bxPoint (at_ s.Points ((i - 1).toNat))), some (bxPoint (at_ s.Points i.toNat))] [inR .i64 (i - 1), (0 : Int) ≤ (i - 1) ∧ (i - 1) < (arcs.length : Int), inR .i64 ((at_ arcs ((i - 1).toNat)) * parts), inR .i64 (((at_ arcs (((arcs.length : Int) - 1).toNat)) * part) - ((at_ arcs ((i - 1).toNat)) * parts))] hB ⟨(inR_i64 (by omega) (by omega)), ⟨(by omega), (by omega)⟩, (inR_i64 (by omega) (by omega)), (inR_i64 (by omega) (by omega)), trivial⟩ ?_
   refine aR [] [8, 11, 12, 13, 14] [8, 11, 12] [.ref 8 0, .ref 11 0, .ref 12 0, I (((at_ arcs (((arcs.length : Int) - 1).toNat)) * part) - ((at_ arcs ((i - 1).toNat)) * parts)), I (((at_ arcs i.toNat) - (at_ arcs ((i - 1).toNat))) * parts)] [some (.box [I 0, I 0]), some (bxPoint (at_ s.Points ((i - 1).toNat))), some (bxPoint (at_ s.Points i.toNat))] [(0 : Int) ≤ i ∧ i < (arcs.length : Int), inR .i64 (i - 1), (0 : Int) ≤ (i - 1) ∧ (i - 1) < (arcs.length : Int), inR .i64 ((at_ arcs i.toNat) - (at_ arcs ((i - 1).toNat))), inR .i64 (((at_ arcs i.toNat) - (at_ arcs ((i - 1).toNat))) * parts)] hB ⟨⟨(by omega), (by omega)⟩, (inR_i64 (by omega) (by omega)), ⟨(by omega), (by omega)⟩, (inR_i64 (by omega) (by omega)), (inR_i64 (by omega) (by omega)), trivial⟩ ?_
   refine aR [(10, .call [(true, .any), (true, .any)] true (I (nearI ((((at_ s.Points i.toNat).X) - ((at_ s.Points ((i - 1).toNat)).X)) * (((at_ arcs (((arcs.length : Int) - 1).toNat)) * part) - ((at_ arcs ((i - 1).toNat)) * parts))) (((at_ arcs i.toNat) - (at_ arcs ((i - 1).toNat))) * parts)))), (22, .call [(true, .any), (true, .any)] true (I (nearI ((((at_ s.Points i.toNat).Y) - ((at_ s.Points ((i - 1).toNat)).Y)) * (((at_ arcs (((arcs.length : Int) - 1).toNat)) * part) - ((at_ arcs ((i - 1).toNat)) * parts))) (((at_ arcs i.toNat) - (at_ arcs ((i - 1).toNat))) * parts))))] [8] [8] [.ref 8 0] [some (.box [I (((at_ s.Points ((i - 1).toNat)).X) + (nearI ((((at_ s.Points i.toNat).X) - ((at_ s.Points ((i - 1).toNat)).X)) * (((at_ arcs (((arcs.length : Int) - 1).toNat)) * part) - ((at_ arcs ((i - 1).toNat)) * parts))) (((at_ arcs i.toNat) - (at_ arcs ((i - 1).toNat))) * parts))), I (((at_ s.Points ((i - 1).toNat)).Y) + (nearI ((((at_ s.Points i.toNat).Y) - ((at_ s.Points ((i - 1).toNat)).Y)) * (((at_ arcs (((arcs.length : Int) - 1).toNat)) * part) - ((at_ arcs ((i - 1).toNat)) * parts))) (((at_ arcs i.toNat) - (at_ arcs ((i - 1).toNat))) * parts)))])] [inR .i64 (((at_ s.Points i.toNat).X) - ((at_ s.Points ((i - 1).toNat)).X)), inR .i64 ((((at_ s.Points i.toNat).X) - ((at_ s.Points ((i - 1).toNat)).X)) * (((at_ arcs (((arcs.length : Int) - 1).toNat)) * part) - ((at_ arcs ((i - 1).toNat)) * parts))), Con Tryz.prog 138 [I ((((at_ s.Points i.toNat).X) - ((at_ s.Points ((i - 1).toNat)).X)) * (((at_ arcs (((arcs.length : Int) - 1).toNat)) * part) - ((at_ arcs ((i - 1).toNat)) * parts))), I (((at_ arcs i.toNat) - (at_ arcs ((i - 1).toNat))) * parts)] true (I (nearI ((((at_ s.Points i.toNat).X) - ((at_ s.Points ((i - 1).toNat)).X)) * (((at_ arcs (((arcs.length : Int) - 1).toNat)) * part) - ((at_ arcs ((i - 1).toNat)) * parts))) (((at_ arcs i.toNat) - (at_ arcs ((i - 1).toNat))) * parts))) ∧ True, inR .i64 (((at_ s.Points ((i - 1).toNat)).X) + (nearI ((((at_ s.Points i.toNat).X) - ((at_ s.Points ((i - 1).toNat)).X)) * (((at_ arcs (((arcs.length : Int) - 1).toNat)) * part) - ((at_ arcs ((i - 1).toNat)) * parts))) (((at_ arcs i.toNat) - (at_ arcs ((i - 1).toNat))) * parts))), inR .i64 (((at_ s.Points i.toNat).Y) - ((at_ s.Points ((i - 1).toNat)).Y)), inR .i64 ((((at_ s.Points i.toNat).Y) - ((at_ s.Points ((i - 1).toNat)).Y)) * (((at_ arcs (((arcs.length : Int) - 1).toNat)) * part) - ((at_ arcs ((i - 1).toNat)) * parts))), Con Tryz.prog 138 [I ((((at_ s.Points i.toNat).Y) - ((at_ s.Points ((i - 1).toNat)).Y)) * (((at_ arcs (((arcs.length : Int) - 1).toNat)) * part) - ((at_ arcs ((i - 1).toNat)) * parts))), I (((at_ arcs i.toNat) - (at_ arcs ((i - 1).toNat))) * parts)] true (I (nearI ((((at_ s.Points i.toNat).Y) - ((at_ s.Points ((i - 1).toNat)).Y)) * (((at_ arcs (((arcs.length : Int) - 1).toNat)) * part) - ((at_ arcs ((i - 1).toNat)) * parts))) (((at_ arcs i.toNat) - (at_ arcs ((i - 1).toNat))) * parts))) ∧ True, inR .i64 (((at_ s.Points ((i - 1).toNat)).Y) + (nearI ((((at_ s.Points i.toNat).Y) - ((at_ s.Points ((i - 1).toNat)).Y)) * (((at_ arcs (((arcs.length : Int) - 1).toNat)) * part) - ((at_ arcs ((i - 1).toNat)) * parts))) (((at_ arcs i.toNat) - (at_ arcs ((i - 1).toNat))) * parts)))] hB ⟨(inR_i64 (by omega) (by omega)), (inR_i64 (by omega) (by omega)), ⟨(l05Near_ok ((((at_ s.Points i.toNat).X) - ((at_ s.Points ((i - 1).toNat)).X)) * (((at_ arcs (((arcs.length : Int) - 1).toNat)) * part) - ((at_ arcs ((i - 1).toNat)) * parts))) (((at_ arcs i.toNat) - (at_ arcs ((i - 1).toNat))) * parts) (by omega)), trivial⟩, (inR_i64 (by omega) (by omega)), (inR_i64 (by omega) (by omega)), (inR_i64 (by omega) (by omega)), ⟨(l05Near_ok ((((at_ s.Points i.toNat).Y) - ((at_ s.Points ((i - 1).toNat)).Y)) * (((at_ arcs (((arcs.length : Int) - 1).toNat)) * part) - ((at_ arcs ((i - 1).toNat)) * parts))) (((at_ arcs i.toNat) - (at_ arcs ((i - 1).toNat))) * parts) (by omega)), trivial⟩, (inR_i64 (by omega) (by omega)), trivial⟩ ?_
   refine aw_ret ?_
   refine ae_ret hB (.agg [I (((at_ s.Points ((i - 1).toNat)).X) + (nearI ((((at_ s.Points i.toNat).X) - ((at_ s.Points ((i - 1).toNat)).X)) * (((at_ arcs (((arcs.length : Int) - 1).toNat)) * part) - ((at_ arcs ((i - 1).toNat)) * parts))) (((at_ arcs i.toNat) - (at_ arcs ((i - 1).toNat))) * parts))), I (((at_ s.Points ((i - 1).toNat)).Y) + (nearI ((((at_ s.Points i.toNat).Y) - ((at_ s.Points ((i - 1).toNat)).Y)) * (((at_ arcs (((arcs.length : Int) - 1).toNat)) * part) - ((at_ arcs ((i - 1).toNat)) * parts))) (((at_ arcs i.toNat) - (at_ arcs ((i - 1).toNat))) * parts)))]) (by kernel_rfl) (.inl (by first | (rw [hnone]; done) | (rw [hnone]; rfl) | (rw [hsp]; simp only [spotK, e0, e1, e2]; simp only [ei]))) rfl (fun _ => (by simp [tagged, taggedL]))
  have hnone := spotI_none (s := s) (part := part) (parts := parts) (fun j hj => hn0 j (by omega))
  refine aw_r [(3, .dec false)] [0, 1, 3, 8, 9, 10, 48] [8] [.ptr false [slPoint false s.Points], slI false arcs, I parts, .ref 8 0, I ((at_ arcs (((arcs.length : Int) - 1).toNat)) * part), I i, Bv false] [some (.box [I 0, I 0])] [¬ (i < (arcs.length : Int))] hB ⟨h1, trivial⟩ ?_
  refine ae_then ?_
  refine aw_false rfl ?_
  refine aw_exit ?_
  refine ae_exit_then ?_
  refine ae_exit_then ?_
  refine ae_exit_same ?_
  refine ae_then ?_
  refine aw_seq ?_
  refine aR [(3, .dec true)] [0, 1, 3, 8, 9, 10, 54] [8] [.ptr false [slPoint false s.Points], slI false arcs, I parts, .ref 8 0, I ((at_ arcs (((arcs.length : Int) - 1).toNat)) * part), I i, Bv true] [some (.box [I 0, I 0])] [i = (arcs.length : Int)] hB ⟨(by omega), trivial⟩ ?_
  refine aw_true rfl ?_
  refine aR [(6, .call [(true, .any)] true (.agg [I ((at_ s.Points 0).X), I ((at_ s.Points 0).Y)]))] [8] [8] [.ref 8 0] [some (.box [I ((at_ s.Points 0).X), I ((at_ s.Points 0).Y)])] [(0 : Int) ≤ 0 ∧ 0 < (s.Points.length : Int), Con Tryz.prog 177 [agPoint (at_ s.Points 0)] true (.agg [I ((at_ s.Points 0).X), I ((at_ s.Points 0).Y)]) ∧ True] hB ⟨⟨(by omega), (by omega)⟩, ⟨(l06Spot_ok (at_ s.Points 0)), trivial⟩, trivial⟩ ?_
  refine aw_ret ?_
  refine ae_ret_then ?_
  refine ae_ret hB (.agg [I ((at_ s.Points 0).X), I ((at_ s.Points 0).Y)]) (by kernel_rfl) (.inl (by first | (rw [hnone]; done) | (rw [hnone]; rfl) | (rw [hsp]; simp only [spotK, e0, e1, e2]; simp only [ei]))) rfl (fun _ => (by simp [tagged, taggedL]))



-- spec.l06Resample
theorem l06Resample_ok (s : Stroke) (n : Int) (ok : okStroke' s = true) (hn : 2 ≤ n ∧ n ≤ 24) : Con Tryz.prog 95 [.ptr false [slPoint false s.Points], I n] true (slSpot true (resQ s n)) := by
  refine fn_ok (fn := Tryz.f95) (nt := 26) Tryz.func95 rfl rfl rfl rfl (by simp [taggedL, tagged, tagPoint]) fun B hB => ?_
  refine aw_lens (x := .ptr false [slPoint false s.Points]) 0 rfl (fun len_s => ?_)
  simp [LenOK, LenL, cPoint, fPoint, slPoint] at len_s
  refine aR [] [0, 1] [] [.ptr false [slPoint false s.Points], I n] [] [] hB trivial ?_
  refine aR [(1, .call [(true, .any)] true (slI true (arcsL s.Points s.Points.length)))] [0, 1, 5] [] [.ptr false [slPoint false s.Points], I n, slI true (arcsL s.Points s.Points.length)] [] [Con Tryz.prog 134 [.ptr false [slPoint false s.Points]] true (slI true (arcsL s.Points s.Points.length)) ∧ True] hB ⟨⟨(l06Arcs_ok s ok), trivial⟩, trivial⟩ ?_
  refine aR [(0, .new 10)] [0, 1, 5, 6] [10] [.ptr false [slPoint false s.Points], I n, slI true (arcsL s.Points s.Points.length), .arr 10] [some (.arr 2 0 (litF [] 2))] [] hB trivial ?_
  refine aw_seq ?_
  refine aR [] [0, 1, 5, 6, 7] [10] [.ptr false [slPoint false s.Points], I n, slI true (arcsL s.Points s.Points.length), .arr 10, I 0] [some (.arr 2 0 (litF [] 2))] [] hB trivial ?_
  refine aw_block ?_
  refine aw_weak hB [] (T := [(0, .ptr false [slPoint false s.Points]), (1, I n), (5, slI true (arcsL s.Points s.Points.length)), (6, .arr 10), (7, I 0)]) (O := [(10, tASpot ([] : List Spot))]) rfl (⟨.inl rfl, .inl rfl, .inl rfl, .inl rfl, .inl rfl, trivial⟩) (⟨.inr ⟨rfl, (by first | rfl | (simp; done) | (simp; omega) | omega), fun i_ hi_ => absurd hi_ (Nat.not_lt_zero _)⟩, trivial⟩) ?_
  refine aw_loop (fun gn gσ => ∃ (out : List Spot) (k : Int), gn = (n - k).toNat ∧ (0 ≤ k ∧ k ≤ n) ∧ ((out.length : Int) = k) ∧ (out = resK s n k.toNat) ∧ gσ = mkS [(0, .ptr false [slPoint false s.Points]), (1, I n), (5, slI true (arcsL s.Points s.Points.length)), (6, .arr 10), (7, I k)] [(10, tASpot out)]) ((n - 0).toNat) ⟨([] : List Spot), 0, rfl, (by omega), (by rfl), (by rfl), rfl⟩ (fun gn gσ hI => ?_)
  obtain ⟨out, k, rfl, hk0, hll, hl0, rfl⟩ := hI
  refine aw_seq ?_
  refine aw_seq ?_
  by_cases h1 : k < n
  ·refine aw_r [(2, .dec true)] [0, 1, 5, 6, 7, 13] [10] [.ptr false [slPoint false s.Points], I n, slI true (arcsL s.Points s.Points.length), .arr 10, I k, Bv true] [some (tASpot out)] [k < n] hB ⟨h1, trivial⟩ ?_
   refine ae_then ?_
   refine aw_true rfl ?_
   refine aw_skip ?_
   refine ae_then ?_
   refine aw_seq ?_
   refine aw_block ?_
   refine aw_r [(6, .call [(true, .any), (false, slI false (arcsL s.Points s.Points.length)), (true, .any), (true, .any)] true (.agg [I ((spotI s k (n - 1)).X), I ((spotI s k (n - 1)).Y)])), (7, .new 23), (8, .new 24)] [0, 1, 5, 6, 7] [24] [.ptr false [slPoint false s.Points], I n, slI true (arcsL s.Points s.Points.length), .arr 24, I k] [some (.arr 2 (out.length + 1) (catF out.length (fSpot out) (litF [I ((spotI s k (n - 1)).X), I ((spotI s k (n - 1)).Y)] 2)))] [inR .i64 (n - 1), Con Tryz.prog 135 [.ptr false [slPoint false s.Points], slI false (arcsL s.Points s.Points.length), I k, I (n - 1)] true (.agg [I ((spotI s k (n - 1)).X), I ((spotI s k (n - 1)).Y)]) ∧ ((false = true → true = true) ∧ 1 = 1 ∧ ((arcsL s.Points s.Points.length).length) = ((arcsL s.Points s.Points.length).length) ∧ ∀ i_, i_ < ((arcsL s.Points s.Points.length).length) → (fI (arcsL s.Points s.Points.length)) i_ = (fI (arcsL s.Points s.Points.length)) i_ ∨ (AV.idsL ((fI (arcsL s.Points s.Points.length)) i_) = [] ∧ leL (fun _ => none) false ((fI (arcsL s.Points s.Points.length)) i_) ((fI (arcsL s.Points s.Points.length)) i_))) ∧ True, (out.length + 1) * 16 ≤ 140737488355328] hB ⟨(inR_i64 (by omega) (by omega)), ⟨(l06At_ok s (arcsL s.Points s.Points.length) k (n - 1) ok (by first | rfl | assumption) (by omega)), ⟨(fun h => by cases h), rfl, rfl, fun i _ => .inl rfl⟩, trivial⟩, (by omega), trivial⟩ ?_
   refine ae_block 1 ?_
   refine ae_then ?_
   refine aw_r [] [0, 1, 5, 6, 7] [24] [.ptr false [slPoint false s.Points], I n, slI true (arcsL s.Points s.Points.length), .arr 24, I (k + 1)] [some (.arr 2 (out.length + 1) (catF out.length (fSpot out) (litF [I ((spotI s k (n - 1)).X), I ((spotI s k (n - 1)).Y)] 2)))] [inR .i64 (k + 1)] hB ⟨(inR_i64 (by omega) (by omega)), trivial⟩ ?_
   refine ae_weak hB [(10, 24)] (T := [(0, .ptr false [slPoint false s.Points]), (1, I n), (5, slI true (arcsL s.Points s.Points.length)), (6, .arr 10), (7, I (k + 1))]) (O := [(10, tASpot (out ++ [(spotI s k (n - 1))]))]) rfl (⟨.inl rfl, .inl rfl, .inl rfl, .inl rfl, .inl rfl, trivial⟩) (⟨.inr ⟨rfl, (by first | rfl | (simp; done) | (simp; omega) | omega), fun i_ hi_ => .inl (cat_snoc (enc := cSpot) (xs := out) rfl i_ hi_)⟩, trivial⟩) (ae_again _ (by omega) ⟨(out ++ [(spotI s k (n - 1))]), (k + 1), rfl, (by omega), (by simp; omega), (by rw [resK_succ (by omega), ← hl0]), rfl⟩)
  have hke : k.toNat = n.toNat := by omega
  rw [hke] at hl0
  have hl1 : out = resQ s n := hl0
  clear hl0
  subst hl1
  refine aw_r [(2, .dec false)] [0, 1, 5, 6, 7, 13] [10] [.ptr false [slPoint false s.Points], I n, slI true (arcsL s.Points s.Points.length), .arr 10, I k, Bv false] [some (tASpot (resQ s n))] [¬ (k < n)] hB ⟨h1, trivial⟩ ?_
  refine ae_then ?_
  refine aw_false rfl ?_
  refine aw_exit ?_
  refine ae_exit_then ?_
  refine ae_exit_then ?_
  refine ae_exit_same ?_
  refine ae_then ?_
  refine aR [] [4] [10] [.arr 10] [some (tASpot (resQ s n))] [] hB trivial ?_
  refine aw_ret ?_
  refine ae_ret hB (.arr 10) (by kernel_rfl) (.inr ⟨(fun _ => rfl), rfl, rfl, fun i _ => .inl rfl⟩) rfl (fun _ => (tagSpot true _))



-- spec.l05Size
theorem l05Size_ok (n : Int) (hn : -9223372036854775807 ≤ n ∧ n ≤ 9223372036854775807) : Con Tryz.prog 136 [I n] true (I (n.natAbs : Int)) := by
  refine fn_ok (fn := Tryz.f136) (nt := 8) Tryz.func136 rfl rfl rfl rfl (by simp [taggedL, tagged]) fun B hB => ?_
  refine aR [] [0] [] [I n] [] [] hB trivial ?_
  refine aw_seq ?_
  refine aw_seq ?_
  by_cases h1 : n < 0
  ·refine aw_r [(1, .dec true)] [0, 4] [] [I n, Bv true] [] [n < 0] hB ⟨h1, trivial⟩ ?_
   refine ae_then ?_
   refine aw_true rfl ?_
   refine aR [] [2] [] [I (-n)] [] [inR .i64 (-n)] hB ⟨(inR_i64 (by omega) (by omega)), trivial⟩ ?_
   refine aw_ret ?_
   refine ae_ret_then ?_
   refine ae_ret hB (I (-n)) (by kernel_rfl) (.inl (by refine congrArg I ?_; omega)) rfl (fun _ => trivial)
  refine aw_r [(1, .dec false)] [0, 4] [] [I n, Bv false] [] [¬ (n < 0)] hB ⟨h1, trivial⟩ ?_
  refine ae_then ?_
  refine aw_false rfl ?_
  refine aw_skip ?_
  refine ae_then ?_
  refine aR [] [2] [] [I n] [] [] hB trivial ?_
  refine aw_ret ?_
  refine ae_ret hB (I n) (by kernel_rfl) (.inl (by refine congrArg I ?_; omega)) rfl (fun _ => trivial)


end Go.Proofs.YtinncgigkiclpaaGreat.Ax
