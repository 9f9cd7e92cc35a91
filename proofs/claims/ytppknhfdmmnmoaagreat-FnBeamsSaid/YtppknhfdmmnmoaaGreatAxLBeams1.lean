/- Contracts that the statement FnBeams reaches, part 1. No conditions. -/
import Derived.Test.YtppknhfdmmnmoaaGreatAxO
import Derived.Test.YtppknhfdmmnmoaaGreatShelf
import Derived.Test.YtppknhfdmmnmoaaGreatAxR
import Derived.Test.YtppknhfdmmnmoaaGreatAxS
import Derived.Test.YtppknhfdmmnmoaaGreatAxSF
import Derived.Test.YtppknhfdmmnmoaaGreatSfFndShelf
import Derived.Test.YtppknhfdmmnmoaaGreatSfRdgShelf
namespace Go.Proofs.YtppknhfdmmnmoaaGreat.Ax
open Go.RowKit Go.ChangeShapes Go.WideShapes
set_option linter.unusedVariables false
set_option linter.unusedSimpArgs false


def cU8 (x : Int) : List AV := [.val (.int .u8 x)]
def fU8 (xs : List Int) (i : Nat) : List AV := cU8 (at_ xs i)
def slU8 (fr : Bool) (xs : List Int) : AV := .sl fr 1 xs.length (fU8 xs)
theorem tagcU8 (t : Bool) (x : Int) : taggedL t (cU8 x) := by simp [cU8, taggedL, tagged]
theorem tagU8 (t : Bool) (xs : List Int) : tagged t (slU8 t xs) := by simp only [slU8, tagged]; exact ⟨trivial, fun i _ => tagcU8 t _⟩
theorem lenU8 (fr : Bool) (xs : List Int) : lenA noOb (slU8 fr xs) = some xs.length := rfl
abbrev tAU8 (xs : List Int) : Ob := .arr 1 xs.length (fU8 xs)
def cI (x : Int) : List AV := [I x]
def fI (xs : List Int) (i : Nat) : List AV := cI (at_ xs i)
def slI (fr : Bool) (xs : List Int) : AV := .sl fr 1 xs.length (fI xs)
theorem tagcI (t : Bool) (x : Int) : taggedL t (cI x) := by simp [cI, taggedL, tagged]
theorem tagI (t : Bool) (xs : List Int) : tagged t (slI t xs) := by simp only [slI, tagged]; exact ⟨trivial, fun i _ => tagcI t _⟩
theorem lenI (fr : Bool) (xs : List Int) : lenA noOb (slI fr xs) = some xs.length := rfl
abbrev tAI (xs : List Int) : Ob := .arr 1 xs.length (fI xs)
def cS (x : ByteArray) : List AV := [Sv x]
def fS (xs : List ByteArray) (i : Nat) : List AV := cS (at_ xs i)
def slS (fr : Bool) (xs : List ByteArray) : AV := .sl fr 1 xs.length (fS xs)
theorem tagcS (t : Bool) (x : ByteArray) : taggedL t (cS x) := by simp [cS, taggedL, tagged]
theorem tagS (t : Bool) (xs : List ByteArray) : tagged t (slS t xs) := by simp only [slS, tagged]; exact ⟨trivial, fun i _ => tagcS t _⟩
theorem lenS (fr : Bool) (xs : List ByteArray) : lenA noOb (slS fr xs) = some xs.length := rfl
abbrev tAS (xs : List ByteArray) : Ob := .arr 1 xs.length (fS xs)
structure Edge where
  From : Int
  To : Int
  Label : ByteArray
  Cost : Int
deriving DecidableEq, Inhabited
def cEdge (x : Edge) : List AV := [I x.From, I x.To, Sv x.Label, I x.Cost]
def fEdge (xs : List Edge) (i : Nat) : List AV := cEdge (at_ xs i)
def slEdge (fr : Bool) (xs : List Edge) : AV := .sl fr 4 xs.length (fEdge xs)
theorem tagcEdge (t : Bool) (x : Edge) : taggedL t (cEdge x) := by simp [cEdge, taggedL, tagged]
theorem tagEdge (t : Bool) (xs : List Edge) : tagged t (slEdge t xs) := by simp only [slEdge, tagged]; exact ⟨trivial, fun i _ => tagcEdge t _⟩
theorem lenEdge (fr : Bool) (xs : List Edge) : lenA noOb (slEdge fr xs) = some xs.length := rfl
abbrev bxEdge (x : Edge) : Ob := .box [I x.From, I x.To, Sv x.Label, I x.Cost]
abbrev agEdge (x : Edge) : AV := .agg [I x.From, I x.To, Sv x.Label, I x.Cost]
abbrev tAEdge (xs : List Edge) : Ob := .arr 4 xs.length (fEdge xs)
def cLEdge (fr : Bool) (x : List Edge) : List AV := [slEdge fr x]
def fLEdge (fr : Bool) (xs : List (List Edge)) (i : Nat) : List AV := cLEdge fr (at_ xs i)
def slLEdge (fr : Bool) (xs : List (List Edge)) : AV := .sl fr 1 xs.length (fLEdge fr xs)
theorem tagcLEdge (t : Bool) (x : List Edge) : taggedL t (cLEdge t x) := by simp [cLEdge, taggedL, tagged, tagEdge]
theorem tagLEdge (t : Bool) (xs : List (List Edge)) : tagged t (slLEdge t xs) := by simp only [slLEdge, tagged]; exact ⟨trivial, fun i _ => tagcLEdge t _⟩
theorem lenLEdge (fr : Bool) (xs : List (List Edge)) : lenA noOb (slLEdge fr xs) = some xs.length := rfl
theorem idsLEdge (fr : Bool) (x : List Edge) : AV.idsL (cLEdge fr x) = [] := rfl
theorem leLEdge (fr : Bool) (x : List Edge) (ob : Nat → Option Ob) : leL ob false (cLEdge fr x) (cLEdge false x) := (And.intro (And.intro (fun h => by cases h) (And.intro rfl (And.intro rfl (fun i _ => .inl rfl)))) rfl)
abbrev tALEdge (fr : Bool) (xs : List (List Edge)) : Ob := .arr 1 xs.length (fLEdge fr xs)
structure Lattice where
  Nodes : Int
  Edges : List Edge
deriving DecidableEq, Inhabited
def cLattice (fr : Bool) (x : Lattice) : List AV := [I x.Nodes, slEdge fr x.Edges]
def fLattice (fr : Bool) (xs : List Lattice) (i : Nat) : List AV := cLattice fr (at_ xs i)
def slLattice (fr : Bool) (xs : List Lattice) : AV := .sl fr 2 xs.length (fLattice fr xs)
theorem tagcLattice (t : Bool) (x : Lattice) : taggedL t (cLattice t x) := by simp [cLattice, taggedL, tagged, tagEdge]
theorem tagLattice (t : Bool) (xs : List Lattice) : tagged t (slLattice t xs) := by simp only [slLattice, tagged]; exact ⟨trivial, fun i _ => tagcLattice t _⟩
theorem lenLattice (fr : Bool) (xs : List Lattice) : lenA noOb (slLattice fr xs) = some xs.length := rfl
theorem idsLattice (fr : Bool) (x : Lattice) : AV.idsL (cLattice fr x) = [] := rfl
theorem leLattice (fr : Bool) (x : Lattice) (ob : Nat → Option Ob) : leL ob false (cLattice fr x) (cLattice false x) := (And.intro rfl (And.intro (And.intro (fun h => by cases h) (And.intro rfl (And.intro rfl (fun i _ => .inl rfl)))) rfl))
abbrev bxLattice (x : Lattice) : Ob := .box [I x.Nodes, slEdge false x.Edges]
abbrev agLattice (x : Lattice) : AV := .agg [I x.Nodes, slEdge false x.Edges]
abbrev bxLatticeT (x : Lattice) : Ob := .box [I x.Nodes, slEdge true x.Edges]
abbrev agLatticeT (x : Lattice) : AV := .agg [I x.Nodes, slEdge true x.Edges]
abbrev tALattice (fr : Bool) (xs : List Lattice) : Ob := .arr 2 xs.length (fLattice fr xs)
structure Entry where
  Word : ByteArray
  Cost : Int
deriving DecidableEq, Inhabited
def cEntry (x : Entry) : List AV := [Sv x.Word, I x.Cost]
def fEntry (xs : List Entry) (i : Nat) : List AV := cEntry (at_ xs i)
def slEntry (fr : Bool) (xs : List Entry) : AV := .sl fr 2 xs.length (fEntry xs)
theorem tagcEntry (t : Bool) (x : Entry) : taggedL t (cEntry x) := by simp [cEntry, taggedL, tagged]
theorem tagEntry (t : Bool) (xs : List Entry) : tagged t (slEntry t xs) := by simp only [slEntry, tagged]; exact ⟨trivial, fun i _ => tagcEntry t _⟩
theorem lenEntry (fr : Bool) (xs : List Entry) : lenA noOb (slEntry fr xs) = some xs.length := rfl
abbrev bxEntry (x : Entry) : Ob := .box [Sv x.Word, I x.Cost]
abbrev agEntry (x : Entry) : AV := .agg [Sv x.Word, I x.Cost]
abbrev tAEntry (xs : List Entry) : Ob := .arr 2 xs.length (fEntry xs)
def cLEntry (fr : Bool) (x : List Entry) : List AV := [slEntry fr x]
def fLEntry (fr : Bool) (xs : List (List Entry)) (i : Nat) : List AV := cLEntry fr (at_ xs i)
def slLEntry (fr : Bool) (xs : List (List Entry)) : AV := .sl fr 1 xs.length (fLEntry fr xs)
theorem tagcLEntry (t : Bool) (x : List Entry) : taggedL t (cLEntry t x) := by simp [cLEntry, taggedL, tagged, tagEntry]
theorem tagLEntry (t : Bool) (xs : List (List Entry)) : tagged t (slLEntry t xs) := by simp only [slLEntry, tagged]; exact ⟨trivial, fun i _ => tagcLEntry t _⟩
theorem lenLEntry (fr : Bool) (xs : List (List Entry)) : lenA noOb (slLEntry fr xs) = some xs.length := rfl
theorem idsLEntry (fr : Bool) (x : List Entry) : AV.idsL (cLEntry fr x) = [] := rfl
theorem leLEntry (fr : Bool) (x : List Entry) (ob : Nat → Option Ob) : leL ob false (cLEntry fr x) (cLEntry false x) := (And.intro (And.intro (fun h => by cases h) (And.intro rfl (And.intro rfl (fun i _ => .inl rfl)))) rfl)
abbrev tALEntry (fr : Bool) (xs : List (List Entry)) : Ob := .arr 1 xs.length (fLEntry fr xs)
structure Lexicon where
  Entries : List Entry
deriving DecidableEq, Inhabited
def cLexicon (fr : Bool) (x : Lexicon) : List AV := [slEntry fr x.Entries]
def fLexicon (fr : Bool) (xs : List Lexicon) (i : Nat) : List AV := cLexicon fr (at_ xs i)
def slLexicon (fr : Bool) (xs : List Lexicon) : AV := .sl fr 1 xs.length (fLexicon fr xs)
theorem tagcLexicon (t : Bool) (x : Lexicon) : taggedL t (cLexicon t x) := by simp [cLexicon, taggedL, tagged, tagEntry]
theorem tagLexicon (t : Bool) (xs : List Lexicon) : tagged t (slLexicon t xs) := by simp only [slLexicon, tagged]; exact ⟨trivial, fun i _ => tagcLexicon t _⟩
theorem lenLexicon (fr : Bool) (xs : List Lexicon) : lenA noOb (slLexicon fr xs) = some xs.length := rfl
theorem idsLexicon (fr : Bool) (x : Lexicon) : AV.idsL (cLexicon fr x) = [] := rfl
theorem leLexicon (fr : Bool) (x : Lexicon) (ob : Nat → Option Ob) : leL ob false (cLexicon fr x) (cLexicon false x) := (And.intro (And.intro (fun h => by cases h) (And.intro rfl (And.intro rfl (fun i _ => .inl rfl)))) rfl)
abbrev tALexicon (fr : Bool) (xs : List Lexicon) : Ob := .arr 1 xs.length (fLexicon fr xs)
def cLU8 (fr : Bool) (x : List Int) : List AV := [slU8 fr x]
def fLU8 (fr : Bool) (xs : List (List Int)) (i : Nat) : List AV := cLU8 fr (at_ xs i)
def slLU8 (fr : Bool) (xs : List (List Int)) : AV := .sl fr 1 xs.length (fLU8 fr xs)
theorem tagcLU8 (t : Bool) (x : List Int) : taggedL t (cLU8 t x) := by simp [cLU8, taggedL, tagged, tagU8]
theorem tagLU8 (t : Bool) (xs : List (List Int)) : tagged t (slLU8 t xs) := by simp only [slLU8, tagged]; exact ⟨trivial, fun i _ => tagcLU8 t _⟩
theorem lenLU8 (fr : Bool) (xs : List (List Int)) : lenA noOb (slLU8 fr xs) = some xs.length := rfl
theorem idsLU8 (fr : Bool) (x : List Int) : AV.idsL (cLU8 fr x) = [] := rfl
theorem leLU8 (fr : Bool) (x : List Int) (ob : Nat → Option Ob) : leL ob false (cLU8 fr x) (cLU8 false x) := (And.intro (And.intro (fun h => by cases h) (And.intro rfl (And.intro rfl (fun i _ => .inl rfl)))) rfl)
abbrev tALU8 (fr : Bool) (xs : List (List Int)) : Ob := .arr 1 xs.length (fLU8 fr xs)
def cU64 (x : Int) : List AV := [.val (.int .u64 x)]
def fU64 (xs : List Int) (i : Nat) : List AV := cU64 (at_ xs i)
def slU64 (fr : Bool) (xs : List Int) : AV := .sl fr 1 xs.length (fU64 xs)
theorem tagcU64 (t : Bool) (x : Int) : taggedL t (cU64 x) := by simp [cU64, taggedL, tagged]
theorem tagU64 (t : Bool) (xs : List Int) : tagged t (slU64 t xs) := by simp only [slU64, tagged]; exact ⟨trivial, fun i _ => tagcU64 t _⟩
theorem lenU64 (fr : Bool) (xs : List Int) : lenA noOb (slU64 fr xs) = some xs.length := rfl
abbrev tAU64 (xs : List Int) : Ob := .arr 1 xs.length (fU64 xs)
structure l00Src where
  code : List Int
  atx : Int
  seed : Int
deriving DecidableEq, Inhabited
def cl00Src (fr : Bool) (x : l00Src) : List AV := [slU8 fr x.code, I x.atx, .val (.int .u64 x.seed)]
def fl00Src (fr : Bool) (xs : List l00Src) (i : Nat) : List AV := cl00Src fr (at_ xs i)
def sll00Src (fr : Bool) (xs : List l00Src) : AV := .sl fr 3 xs.length (fl00Src fr xs)
theorem tagcl00Src (t : Bool) (x : l00Src) : taggedL t (cl00Src t x) := by simp [cl00Src, taggedL, tagged, tagU8]
theorem tagl00Src (t : Bool) (xs : List l00Src) : tagged t (sll00Src t xs) := by simp only [sll00Src, tagged]; exact ⟨trivial, fun i _ => tagcl00Src t _⟩
theorem lenl00Src (fr : Bool) (xs : List l00Src) : lenA noOb (sll00Src fr xs) = some xs.length := rfl
theorem idsl00Src (fr : Bool) (x : l00Src) : AV.idsL (cl00Src fr x) = [] := rfl
theorem lel00Src (fr : Bool) (x : l00Src) (ob : Nat → Option Ob) : leL ob false (cl00Src fr x) (cl00Src false x) := (And.intro (And.intro (fun h => by cases h) (And.intro rfl (And.intro rfl (fun i _ => .inl rfl)))) (And.intro rfl (And.intro rfl rfl)))
abbrev bxl00Src (x : l00Src) : Ob := .box [slU8 false x.code, I x.atx, .val (.int .u64 x.seed)]
abbrev agl00Src (x : l00Src) : AV := .agg [slU8 false x.code, I x.atx, .val (.int .u64 x.seed)]
abbrev bxl00SrcT (x : l00Src) : Ob := .box [slU8 true x.code, I x.atx, .val (.int .u64 x.seed)]
abbrev agl00SrcT (x : l00Src) : AV := .agg [slU8 true x.code, I x.atx, .val (.int .u64 x.seed)]
abbrev tAl00Src (fr : Bool) (xs : List l00Src) : Ob := .arr 3 xs.length (fl00Src fr xs)
structure Reading where
  Text : ByteArray
  Cost : Int
deriving DecidableEq, Inhabited
def cReading (x : Reading) : List AV := [Sv x.Text, I x.Cost]
def fReading (xs : List Reading) (i : Nat) : List AV := cReading (at_ xs i)
def slReading (fr : Bool) (xs : List Reading) : AV := .sl fr 2 xs.length (fReading xs)
theorem tagcReading (t : Bool) (x : Reading) : taggedL t (cReading x) := by simp [cReading, taggedL, tagged]
theorem tagReading (t : Bool) (xs : List Reading) : tagged t (slReading t xs) := by simp only [slReading, tagged]; exact ⟨trivial, fun i _ => tagcReading t _⟩
theorem lenReading (fr : Bool) (xs : List Reading) : lenA noOb (slReading fr xs) = some xs.length := rfl
abbrev bxReading (x : Reading) : Ob := .box [Sv x.Text, I x.Cost]
abbrev agReading (x : Reading) : AV := .agg [Sv x.Text, I x.Cost]
abbrev tAReading (xs : List Reading) : Ob := .arr 2 xs.length (fReading xs)
structure Bigram where
  First : ByteArray
  Second : ByteArray
  Cost : Int
deriving DecidableEq, Inhabited
def cBigram (x : Bigram) : List AV := [Sv x.First, Sv x.Second, I x.Cost]
def fBigram (xs : List Bigram) (i : Nat) : List AV := cBigram (at_ xs i)
def slBigram (fr : Bool) (xs : List Bigram) : AV := .sl fr 3 xs.length (fBigram xs)
theorem tagcBigram (t : Bool) (x : Bigram) : taggedL t (cBigram x) := by simp [cBigram, taggedL, tagged]
theorem tagBigram (t : Bool) (xs : List Bigram) : tagged t (slBigram t xs) := by simp only [slBigram, tagged]; exact ⟨trivial, fun i _ => tagcBigram t _⟩
theorem lenBigram (fr : Bool) (xs : List Bigram) : lenA noOb (slBigram fr xs) = some xs.length := rfl
abbrev bxBigram (x : Bigram) : Ob := .box [Sv x.First, Sv x.Second, I x.Cost]
abbrev agBigram (x : Bigram) : AV := .agg [Sv x.First, Sv x.Second, I x.Cost]
abbrev tABigram (xs : List Bigram) : Ob := .arr 3 xs.length (fBigram xs)
def cLBigram (fr : Bool) (x : List Bigram) : List AV := [slBigram fr x]
def fLBigram (fr : Bool) (xs : List (List Bigram)) (i : Nat) : List AV := cLBigram fr (at_ xs i)
def slLBigram (fr : Bool) (xs : List (List Bigram)) : AV := .sl fr 1 xs.length (fLBigram fr xs)
theorem tagcLBigram (t : Bool) (x : List Bigram) : taggedL t (cLBigram t x) := by simp [cLBigram, taggedL, tagged, tagBigram]
theorem tagLBigram (t : Bool) (xs : List (List Bigram)) : tagged t (slLBigram t xs) := by simp only [slLBigram, tagged]; exact ⟨trivial, fun i _ => tagcLBigram t _⟩
theorem lenLBigram (fr : Bool) (xs : List (List Bigram)) : lenA noOb (slLBigram fr xs) = some xs.length := rfl
theorem idsLBigram (fr : Bool) (x : List Bigram) : AV.idsL (cLBigram fr x) = [] := rfl
theorem leLBigram (fr : Bool) (x : List Bigram) (ob : Nat → Option Ob) : leL ob false (cLBigram fr x) (cLBigram false x) := (And.intro (And.intro (fun h => by cases h) (And.intro rfl (And.intro rfl (fun i _ => .inl rfl)))) rfl)
abbrev tALBigram (fr : Bool) (xs : List (List Bigram)) : Ob := .arr 1 xs.length (fLBigram fr xs)
structure Model where
  Default : Int
  Bigrams : List Bigram
deriving DecidableEq, Inhabited
def cModel (fr : Bool) (x : Model) : List AV := [I x.Default, slBigram fr x.Bigrams]
def fModel (fr : Bool) (xs : List Model) (i : Nat) : List AV := cModel fr (at_ xs i)
def slModel (fr : Bool) (xs : List Model) : AV := .sl fr 2 xs.length (fModel fr xs)
theorem tagcModel (t : Bool) (x : Model) : taggedL t (cModel t x) := by simp [cModel, taggedL, tagged, tagBigram]
theorem tagModel (t : Bool) (xs : List Model) : tagged t (slModel t xs) := by simp only [slModel, tagged]; exact ⟨trivial, fun i _ => tagcModel t _⟩
theorem lenModel (fr : Bool) (xs : List Model) : lenA noOb (slModel fr xs) = some xs.length := rfl
theorem idsModel (fr : Bool) (x : Model) : AV.idsL (cModel fr x) = [] := rfl
theorem leModel (fr : Bool) (x : Model) (ob : Nat → Option Ob) : leL ob false (cModel fr x) (cModel false x) := (And.intro rfl (And.intro (And.intro (fun h => by cases h) (And.intro rfl (And.intro rfl (fun i _ => .inl rfl)))) rfl))
abbrev bxModel (x : Model) : Ob := .box [I x.Default, slBigram false x.Bigrams]
abbrev agModel (x : Model) : AV := .agg [I x.Default, slBigram false x.Bigrams]
abbrev bxModelT (x : Model) : Ob := .box [I x.Default, slBigram true x.Bigrams]
abbrev agModelT (x : Model) : AV := .agg [I x.Default, slBigram true x.Bigrams]
abbrev tAModel (fr : Bool) (xs : List Model) : Ob := .arr 2 xs.length (fModel fr xs)
structure Found where
  Word : ByteArray
  Path : Int
  Own : Int
deriving DecidableEq, Inhabited
def cFound (x : Found) : List AV := [Sv x.Word, I x.Path, I x.Own]
def fFound (xs : List Found) (i : Nat) : List AV := cFound (at_ xs i)
def slFound (fr : Bool) (xs : List Found) : AV := .sl fr 3 xs.length (fFound xs)
theorem tagcFound (t : Bool) (x : Found) : taggedL t (cFound x) := by simp [cFound, taggedL, tagged]
theorem tagFound (t : Bool) (xs : List Found) : tagged t (slFound t xs) := by simp only [slFound, tagged]; exact ⟨trivial, fun i _ => tagcFound t _⟩
theorem lenFound (fr : Bool) (xs : List Found) : lenA noOb (slFound fr xs) = some xs.length := rfl
abbrev bxFound (x : Found) : Ob := .box [Sv x.Word, I x.Path, I x.Own]
abbrev agFound (x : Found) : AV := .agg [Sv x.Word, I x.Path, I x.Own]
abbrev tAFound (xs : List Found) : Ob := .arr 3 xs.length (fFound xs)
structure wordAt where
  word : ByteArray
  cost : Int
deriving DecidableEq, Inhabited
def cwordAt (x : wordAt) : List AV := [Sv x.word, I x.cost]
def fwordAt (xs : List wordAt) (i : Nat) : List AV := cwordAt (at_ xs i)
def slwordAt (fr : Bool) (xs : List wordAt) : AV := .sl fr 2 xs.length (fwordAt xs)
theorem tagcwordAt (t : Bool) (x : wordAt) : taggedL t (cwordAt x) := by simp [cwordAt, taggedL, tagged]
theorem tagwordAt (t : Bool) (xs : List wordAt) : tagged t (slwordAt t xs) := by simp only [slwordAt, tagged]; exact ⟨trivial, fun i _ => tagcwordAt t _⟩
theorem lenwordAt (fr : Bool) (xs : List wordAt) : lenA noOb (slwordAt fr xs) = some xs.length := rfl
abbrev bxwordAt (x : wordAt) : Ob := .box [Sv x.word, I x.cost]
abbrev agwordAt (x : wordAt) : AV := .agg [Sv x.word, I x.cost]
abbrev tAwordAt (xs : List wordAt) : Ob := .arr 2 xs.length (fwordAt xs)
def cLReading (fr : Bool) (x : List Reading) : List AV := [slReading fr x]
def fLReading (fr : Bool) (xs : List (List Reading)) (i : Nat) : List AV := cLReading fr (at_ xs i)
def slLReading (fr : Bool) (xs : List (List Reading)) : AV := .sl fr 1 xs.length (fLReading fr xs)
theorem tagcLReading (t : Bool) (x : List Reading) : taggedL t (cLReading t x) := by simp [cLReading, taggedL, tagged, tagReading]
theorem tagLReading (t : Bool) (xs : List (List Reading)) : tagged t (slLReading t xs) := by simp only [slLReading, tagged]; exact ⟨trivial, fun i _ => tagcLReading t _⟩
theorem lenLReading (fr : Bool) (xs : List (List Reading)) : lenA noOb (slLReading fr xs) = some xs.length := rfl
theorem idsLReading (fr : Bool) (x : List Reading) : AV.idsL (cLReading fr x) = [] := rfl
theorem leLReading (fr : Bool) (x : List Reading) (ob : Nat → Option Ob) : leL ob false (cLReading fr x) (cLReading false x) := (And.intro (And.intro (fun h => by cases h) (And.intro rfl (And.intro rfl (fun i _ => .inl rfl)))) rfl)
abbrev tALReading (fr : Bool) (xs : List (List Reading)) : Ob := .arr 1 xs.length (fLReading fr xs)

-- laws.a2Long
theorem a2Long_ok (code : List Int) (more : List Int) : Con Tryz.prog 4 [slU8 false code, slU8 false more] true (Bv (decide (3000 < (code.length : Int) ∨ 3000 < (more.length : Int)))) := by
  refine fn_ok (fn := Tryz.f4) (nt := 13) Tryz.func4 rfl rfl rfl rfl (by simp [taggedL, tagged, tagU8]) fun B hB => ?_
  refine aw_lens (x := slU8 false code) 0 rfl (fun len_code => ?_)
  simp [LenOK, LenL, cU8, fU8, slU8] at len_code
  refine aw_lens (x := slU8 false more) 1 rfl (fun len_more => ?_)
  simp [LenOK, LenL, cU8, fU8, slU8] at len_more
  refine aR [] [0, 1] [] [slU8 false code, slU8 false more] [] [] hB trivial ?_
  refine aw_seq ?_
  by_cases h1 : 3000 < (code.length : Int)
  ·refine aw_r [(2, .dec true)] [4] [] [Bv true] [] [3000 < (code.length : Int)] hB ⟨h1, trivial⟩ ?_
   refine ae_then ?_
   refine aw_ret ?_
   refine ae_ret hB (Bv true) (by kernel_rfl) (.inl (by refine congrArg Bv ?_; simp [*])) rfl (fun _ => trivial)
  refine aw_r [(2, .dec false)] [4] [] [Bv (decide (3000 < (more.length : Int)))] [] [¬ (3000 < (code.length : Int))] hB ⟨h1, trivial⟩ ?_
  refine ae_then ?_
  refine aw_ret ?_
  refine ae_ret hB (Bv (decide (3000 < (more.length : Int)))) (by kernel_rfl) (.inl (by refine congrArg Bv ?_; simp [*])) rfl (fun _ => trivial)



def same {α : Type} [DecidableEq α] (x y : α) : Bool := decide (x = y)

theorem at_mem {α : Type} [Inhabited α] {xs : List α} {i : Nat} (h : i < xs.length) : at_ xs i ∈ xs := by rw [at_eq h]; exact List.getElem_mem h


def allN (n : Nat) (p : Nat → Bool) : Bool := (List.range n).all p
def anyN (n : Nat) (p : Nat → Bool) : Bool := !(allN n fun j => !(p j))
theorem allN_iff {n : Nat} {p : Nat → Bool} : allN n p = true ↔ ∀ j, j < n → p j = true := by simp [allN, List.all_eq_true]
theorem allN_at {n : Nat} {p : Nat → Bool} (h : ∀ j, j < n → p j = true) : allN n p = true := allN_iff.2 h
theorem allN_get {n : Nat} {p : Nat → Bool} (h : allN n p = true) {k : Nat} (hk : k < n) : p k = true := allN_iff.1 h k hk
theorem allN_not {n : Nat} {p : Nat → Bool} {k : Nat} (hk : k < n) (h : p k = false) : allN n p = false := by
  rw [← Bool.not_eq_true, allN_iff]; intro h'; rw [h' k hk] at h; cases h
theorem anyN_at {n : Nat} {p : Nat → Bool} {k : Nat} (hk : k < n) (h : p k = true) : anyN n p = true := by
  unfold anyN; rw [allN_not hk (by simp [h])]; rfl
theorem anyN_none {n : Nat} {p : Nat → Bool} (h : ∀ j, j < n → p j = false) : anyN n p = false := by
  unfold anyN; rw [allN_at (fun j hj => by simp [h j hj])]; rfl

def okSrc (s : l00Src) : Prop := (∀ j, j < s.code.length → 0 ≤ at_ s.code j ∧ at_ s.code j ≤ 255) ∧ 0 ≤ s.atx ∧ s.code.length ≤ 4611686018427387904
theorem and_255 (a : Int) : 0 ≤ bitsI .and .u64 a 255 ∧ bitsI .and .u64 a 255 ≤ 255 := by
  obtain ⟨n, hn⟩ : ∃ n : Nat, n = (BitVec.ofInt 64 a &&& BitVec.ofInt 64 255).toNat := ⟨_, rfl⟩
  have h : n ≤ 255 := by rw [hn, BitVec.toNat_and]; exact Nat.and_le_right
  have e : bitsI .and .u64 a 255 = IntKind.u64.wrap (n : Int) := by rw [hn]; rfl
  have w : IntKind.u64.wrap (n : Int) = n := wrap_in (inR_u64 (by omega) (by omega))
  rw [e, w]; omega


-- spec.l00From
theorem l00From_ok (code : List Int) : ∃ (s' : l00Src), (s'.code = code ∧ s'.atx = 0) ∧ CallOK Tryz.prog 16 [slU8 false code] (lookO []) false (.ref 7001 0) (lookO [(7001, bxl00Src s')]) := by
  have hh : ∃ r : l00Src, ((r.code = code ∧ r.atx = 0) ∧ (True)) ∧ CallOK Tryz.prog 16 [slU8 false code] (lookO []) false (.ref 7001 0) (lookO [(7001, bxl00Src r)]) := by
    refine fn_okX (Φ := fun r : l00Src => (r.code = code ∧ r.atx = 0) ∧ (True)) [] (fun r => [(7001, bxl00Src r)]) (fn := Tryz.f16) (nt := 6) Tryz.func16 rfl rfl (args := [slU8 false code]) rfl (allcons (.inl ⟨rfl, tagU8 false _⟩) allnil) (res := fun r => .ref 7001 0) ?_
    refine xR [] [0] [] [slU8 false code] [] [] trivial ?_
    refine xR [(2, .new 7001)] [2] [7001] [.ref 7001 0] [some (.box [slU8 false code, I 0, .val (.int .u64 0)])] [] trivial ?_
    refine x_ret ?_
    refine xe_end (l00Src.mk code 0 0) (show ((l00Src.mk code 0 0).code = code ∧ (l00Src.mk code 0 0).atx = 0) ∧ (True) from ⟨(by first | rfl | (exact ⟨rfl, rfl⟩)), trivial⟩) (⟨.inl rfl, trivial⟩) (.ref 7001 0) (by kernel_rfl) (.inl rfl) (fun h => by cases h) (fun h => by cases h)
  obtain ⟨s', ⟨hh0, _⟩, hc⟩ := hh
  exact ⟨s', hh0, hc⟩



-- spec.l00Src).next
theorem next_ok (s : l00Src) (hs : okSrc s) (ha : s.atx ≤ 4000000000000000000) : ∃ (v : Int) (s' : l00Src), (0 ≤ v ∧ v ≤ 255) ∧ (okSrc s') ∧ (s'.code = s.code) ∧ (s.atx + 1 ≤ s'.atx ∧ s'.atx ≤ s.atx + 1) ∧ CallOK Tryz.prog 56 [.ref 7001 0] (lookO [(7001, bxl00Src s)]) true (I v) (lookO [(7001, bxl00Src s')]) := by
  have hs0 := hs.2.1
  have hs1 := hs.2.2
  have hh : ∃ r : Int × l00Src, ((0 ≤ r.1 ∧ r.1 ≤ 255) ∧ (okSrc r.2) ∧ (r.2.code = s.code) ∧ (s.atx + 1 ≤ r.2.atx ∧ r.2.atx ≤ s.atx + 1) ∧ (True)) ∧ CallOK Tryz.prog 56 [.ref 7001 0] (lookO [(7001, bxl00Src s)]) true (I r.1) (lookO [(7001, bxl00Src r.2)]) := by
    refine fn_okX (Φ := fun r : Int × l00Src => (0 ≤ r.1 ∧ r.1 ≤ 255) ∧ (okSrc r.2) ∧ (r.2.code = s.code) ∧ (s.atx + 1 ≤ r.2.atx ∧ r.2.atx ≤ s.atx + 1) ∧ (True)) [(7001, bxl00Src s)] (fun r => [(7001, bxl00Src r.2)]) (fn := Tryz.f56) (nt := 62) Tryz.func56 rfl rfl (args := [.ref 7001 0]) rfl (allcons (.inr trivial) allnil) (res := fun r => I r.1) ?_
    refine xR [] [0] [7001] [.ref 7001 0] [some (bxl00Src s)] [] trivial ?_
    refine xR [] [0, 3] [7001] [.ref 7001 0, I 0] [some (bxl00Src s)] [] trivial ?_
    refine x_seq ?_
    refine x_seq ?_
    by_cases h1 : s.atx < (s.code.length : Int)
    ·have hbt := hs.1 s.atx.toNat (by omega)
     refine x_r [(9, .dec true)] [0, 3, 13] [7001] [.ref 7001 0, I 0, Bv true] [some (bxl00Src s)] [s.atx < (s.code.length : Int)] ⟨h1, trivial⟩ ?_
     refine xe_then ?_
     refine x_true rfl ?_
     refine x_r [] [0, 3] [7001] [.ref 7001 0, I (at_ s.code s.atx.toNat)] [some (bxl00Src s)] [(0 : Int) ≤ s.atx ∧ s.atx < (s.code.length : Int), inR .i64 (at_ s.code s.atx.toNat)] ⟨⟨(by omega), (by omega)⟩, (inR_i64 (by omega) (by omega)), trivial⟩ ?_
     refine xe_then ?_
     refine xR [] [0, 3] [7001] [.ref 7001 0, I (at_ s.code s.atx.toNat)] [some (.box [slU8 false s.code, I (s.atx + 1), .val (.int .u64 s.seed)])] [inR .i64 (s.atx + 1)] ⟨(inR_i64 (by omega) (by omega)), trivial⟩ ?_
     refine xR [(5, .wrap), (8, .wrap), (9, .wrap)] [0, 3] [7001] [.ref 7001 0, I (at_ s.code s.atx.toNat)] [some (.box [slU8 false s.code, I (s.atx + 1), .val (.int .u64 (IntKind.u64.wrap ((IntKind.u64.wrap ((IntKind.u64.wrap (s.seed * 6364136223846793005)) + (at_ s.code s.atx.toNat))) + 1442695040888963407)))])] [inR .u64 (at_ s.code s.atx.toNat)] ⟨(inR_u64 (by omega) (by omega)), trivial⟩ ?_
     refine x_seq ?_
     refine x_seq ?_
     by_cases h2 : (s.atx + 1) ≤ (s.code.length : Int)
     ·refine x_r [(9, .dec true)] [0, 3, 53] [7001] [.ref 7001 0, I (at_ s.code s.atx.toNat), Bv true] [some (.box [slU8 false s.code, I (s.atx + 1), .val (.int .u64 (IntKind.u64.wrap ((IntKind.u64.wrap ((IntKind.u64.wrap (s.seed * 6364136223846793005)) + (at_ s.code s.atx.toNat))) + 1442695040888963407)))])] [(s.atx + 1) ≤ (s.code.length : Int)] ⟨h2, trivial⟩ ?_
      refine xe_then ?_
      refine x_true rfl ?_
      refine xR [] [2] [7001] [I (at_ s.code s.atx.toNat)] [some (.box [slU8 false s.code, I (s.atx + 1), .val (.int .u64 (IntKind.u64.wrap ((IntKind.u64.wrap ((IntKind.u64.wrap (s.seed * 6364136223846793005)) + (at_ s.code s.atx.toNat))) + 1442695040888963407)))])] [] trivial ?_
      refine x_ret ?_
      refine xe_ret_then ?_
      refine xe_end ((at_ s.code s.atx.toNat), (l00Src.mk s.code (s.atx + 1) (IntKind.u64.wrap ((IntKind.u64.wrap ((IntKind.u64.wrap (s.seed * 6364136223846793005)) + (at_ s.code s.atx.toNat))) + 1442695040888963407)))) (show (0 ≤ (at_ s.code s.atx.toNat) ∧ (at_ s.code s.atx.toNat) ≤ 255) ∧ (okSrc (l00Src.mk s.code (s.atx + 1) (IntKind.u64.wrap ((IntKind.u64.wrap ((IntKind.u64.wrap (s.seed * 6364136223846793005)) + (at_ s.code s.atx.toNat))) + 1442695040888963407)))) ∧ ((l00Src.mk s.code (s.atx + 1) (IntKind.u64.wrap ((IntKind.u64.wrap ((IntKind.u64.wrap (s.seed * 6364136223846793005)) + (at_ s.code s.atx.toNat))) + 1442695040888963407))).code = s.code) ∧ (s.atx + 1 ≤ (l00Src.mk s.code (s.atx + 1) (IntKind.u64.wrap ((IntKind.u64.wrap ((IntKind.u64.wrap (s.seed * 6364136223846793005)) + (at_ s.code s.atx.toNat))) + 1442695040888963407))).atx ∧ (l00Src.mk s.code (s.atx + 1) (IntKind.u64.wrap ((IntKind.u64.wrap ((IntKind.u64.wrap (s.seed * 6364136223846793005)) + (at_ s.code s.atx.toNat))) + 1442695040888963407))).atx ≤ s.atx + 1) ∧ (True) from ⟨(by first | omega | rfl | assumption | (dsimp only; first | omega | rfl | assumption) | (simp only [*]; done) | exact ⟨hs.1, (by dsimp only; omega), hs1⟩), (by first | omega | rfl | assumption | (dsimp only; first | omega | rfl | assumption) | (simp only [*]; done) | exact ⟨hs.1, (by dsimp only; omega), hs1⟩), (by first | omega | rfl | assumption | (dsimp only; first | omega | rfl | assumption) | (simp only [*]; done) | exact ⟨hs.1, (by dsimp only; omega), hs1⟩), (by first | omega | rfl | assumption | (dsimp only; first | omega | rfl | assumption) | (simp only [*]; done) | exact ⟨hs.1, (by dsimp only; omega), hs1⟩), trivial⟩) (⟨.inl rfl, trivial⟩) (I (at_ s.code s.atx.toNat)) (by kernel_rfl) (.inl rfl) (fun _ => rfl) (fun _ => trivial)
     refine x_r [(9, .dec false)] [0, 3, 53] [7001] [.ref 7001 0, I (at_ s.code s.atx.toNat), Bv false] [some (.box [slU8 false s.code, I (s.atx + 1), .val (.int .u64 (IntKind.u64.wrap ((IntKind.u64.wrap ((IntKind.u64.wrap (s.seed * 6364136223846793005)) + (at_ s.code s.atx.toNat))) + 1442695040888963407)))])] [¬ ((s.atx + 1) ≤ (s.code.length : Int))] ⟨h2, trivial⟩ ?_
     refine xe_then ?_
     refine x_false rfl ?_
     refine x_skip ?_
     refine xe_then ?_
     refine x_seq ?_
     have hb1 := and_255 ((IntKind.u64.wrap ((IntKind.u64.wrap ((IntKind.u64.wrap (s.seed * 6364136223846793005)) + (at_ s.code s.atx.toNat))) + 1442695040888963407)) / 1099511627776)
     refine x_r [] [2] [7001] [I (bitsI .and .u64 ((IntKind.u64.wrap ((IntKind.u64.wrap ((IntKind.u64.wrap (s.seed * 6364136223846793005)) + (at_ s.code s.atx.toNat))) + 1442695040888963407)) / 1099511627776) 255)] [some (.box [slU8 false s.code, I (s.atx + 1), .val (.int .u64 (IntKind.u64.wrap ((IntKind.u64.wrap ((IntKind.u64.wrap (s.seed * 6364136223846793005)) + (at_ s.code s.atx.toNat))) + 1442695040888963407)))])] [(0 : Int) ≤ 40 ∧ (40 : Int) ≤ ((IntKind.bits .u64 : Nat) : Int), inR .i64 (bitsI .and .u64 ((IntKind.u64.wrap ((IntKind.u64.wrap ((IntKind.u64.wrap (s.seed * 6364136223846793005)) + (at_ s.code s.atx.toNat))) + 1442695040888963407)) / 1099511627776) 255)] ⟨⟨(by decide), (by decide)⟩, (inR_i64 (by omega) (by omega)), trivial⟩ ?_
     refine xe_then ?_
     refine x_ret ?_
     refine xe_end ((bitsI .and .u64 ((IntKind.u64.wrap ((IntKind.u64.wrap ((IntKind.u64.wrap (s.seed * 6364136223846793005)) + (at_ s.code s.atx.toNat))) + 1442695040888963407)) / 1099511627776) 255), (l00Src.mk s.code (s.atx + 1) (IntKind.u64.wrap ((IntKind.u64.wrap ((IntKind.u64.wrap (s.seed * 6364136223846793005)) + (at_ s.code s.atx.toNat))) + 1442695040888963407)))) (show (0 ≤ (bitsI .and .u64 ((IntKind.u64.wrap ((IntKind.u64.wrap ((IntKind.u64.wrap (s.seed * 6364136223846793005)) + (at_ s.code s.atx.toNat))) + 1442695040888963407)) / 1099511627776) 255) ∧ (bitsI .and .u64 ((IntKind.u64.wrap ((IntKind.u64.wrap ((IntKind.u64.wrap (s.seed * 6364136223846793005)) + (at_ s.code s.atx.toNat))) + 1442695040888963407)) / 1099511627776) 255) ≤ 255) ∧ (okSrc (l00Src.mk s.code (s.atx + 1) (IntKind.u64.wrap ((IntKind.u64.wrap ((IntKind.u64.wrap (s.seed * 6364136223846793005)) + (at_ s.code s.atx.toNat))) + 1442695040888963407)))) ∧ ((l00Src.mk s.code (s.atx + 1) (IntKind.u64.wrap ((IntKind.u64.wrap ((IntKind.u64.wrap (s.seed * 6364136223846793005)) + (at_ s.code s.atx.toNat))) + 1442695040888963407))).code = s.code) ∧ (s.atx + 1 ≤ (l00Src.mk s.code (s.atx + 1) (IntKind.u64.wrap ((IntKind.u64.wrap ((IntKind.u64.wrap (s.seed * 6364136223846793005)) + (at_ s.code s.atx.toNat))) + 1442695040888963407))).atx ∧ (l00Src.mk s.code (s.atx + 1) (IntKind.u64.wrap ((IntKind.u64.wrap ((IntKind.u64.wrap (s.seed * 6364136223846793005)) + (at_ s.code s.atx.toNat))) + 1442695040888963407))).atx ≤ s.atx + 1) ∧ (True) from ⟨(by first | omega | rfl | assumption | (dsimp only; first | omega | rfl | assumption) | (simp only [*]; done) | exact ⟨hs.1, (by dsimp only; omega), hs1⟩), (by first | omega | rfl | assumption | (dsimp only; first | omega | rfl | assumption) | (simp only [*]; done) | exact ⟨hs.1, (by dsimp only; omega), hs1⟩), (by first | omega | rfl | assumption | (dsimp only; first | omega | rfl | assumption) | (simp only [*]; done) | exact ⟨hs.1, (by dsimp only; omega), hs1⟩), (by first | omega | rfl | assumption | (dsimp only; first | omega | rfl | assumption) | (simp only [*]; done) | exact ⟨hs.1, (by dsimp only; omega), hs1⟩), trivial⟩) (⟨.inl rfl, trivial⟩) (I (bitsI .and .u64 ((IntKind.u64.wrap ((IntKind.u64.wrap ((IntKind.u64.wrap (s.seed * 6364136223846793005)) + (at_ s.code s.atx.toNat))) + 1442695040888963407)) / 1099511627776) 255)) (by kernel_rfl) (.inl rfl) (fun _ => rfl) (fun _ => trivial)
    refine x_r [(9, .dec false)] [0, 3, 13] [7001] [.ref 7001 0, I 0, Bv false] [some (bxl00Src s)] [¬ (s.atx < (s.code.length : Int))] ⟨h1, trivial⟩ ?_
    refine xe_then ?_
    refine x_false rfl ?_
    refine x_skip ?_
    refine xe_then ?_
    refine xR [] [0, 3] [7001] [.ref 7001 0, I 0] [some (.box [slU8 false s.code, I (s.atx + 1), .val (.int .u64 s.seed)])] [inR .i64 (s.atx + 1)] ⟨(inR_i64 (by omega) (by omega)), trivial⟩ ?_
    refine xR [(5, .wrap), (8, .wrap), (9, .wrap)] [0, 3] [7001] [.ref 7001 0, I 0] [some (.box [slU8 false s.code, I (s.atx + 1), .val (.int .u64 (IntKind.u64.wrap ((IntKind.u64.wrap ((IntKind.u64.wrap (s.seed * 6364136223846793005)) + 0)) + 1442695040888963407)))])] [inR .u64 0] ⟨(inR_u64 (by omega) (by omega)), trivial⟩ ?_
    refine x_seq ?_
    refine x_seq ?_
    by_cases h3 : (s.atx + 1) ≤ (s.code.length : Int)
    ·refine x_r [(9, .dec true)] [0, 3, 53] [7001] [.ref 7001 0, I 0, Bv true] [some (.box [slU8 false s.code, I (s.atx + 1), .val (.int .u64 (IntKind.u64.wrap ((IntKind.u64.wrap ((IntKind.u64.wrap (s.seed * 6364136223846793005)) + 0)) + 1442695040888963407)))])] [(s.atx + 1) ≤ (s.code.length : Int)] ⟨h3, trivial⟩ ?_
     refine xe_then ?_
     refine x_true rfl ?_
     refine xR [] [2] [7001] [I 0] [some (.box [slU8 false s.code, I (s.atx + 1), .val (.int .u64 (IntKind.u64.wrap ((IntKind.u64.wrap ((IntKind.u64.wrap (s.seed * 6364136223846793005)) + 0)) + 1442695040888963407)))])] [] trivial ?_
     refine x_ret ?_
     refine xe_ret_then ?_
     refine xe_end (0, (l00Src.mk s.code (s.atx + 1) (IntKind.u64.wrap ((IntKind.u64.wrap ((IntKind.u64.wrap (s.seed * 6364136223846793005)) + 0)) + 1442695040888963407)))) (show (0 ≤ 0 ∧ 0 ≤ 255) ∧ (okSrc (l00Src.mk s.code (s.atx + 1) (IntKind.u64.wrap ((IntKind.u64.wrap ((IntKind.u64.wrap (s.seed * 6364136223846793005)) + 0)) + 1442695040888963407)))) ∧ ((l00Src.mk s.code (s.atx + 1) (IntKind.u64.wrap ((IntKind.u64.wrap ((IntKind.u64.wrap (s.seed * 6364136223846793005)) + 0)) + 1442695040888963407))).code = s.code) ∧ (s.atx + 1 ≤ (l00Src.mk s.code (s.atx + 1) (IntKind.u64.wrap ((IntKind.u64.wrap ((IntKind.u64.wrap (s.seed * 6364136223846793005)) + 0)) + 1442695040888963407))).atx ∧ (l00Src.mk s.code (s.atx + 1) (IntKind.u64.wrap ((IntKind.u64.wrap ((IntKind.u64.wrap (s.seed * 6364136223846793005)) + 0)) + 1442695040888963407))).atx ≤ s.atx + 1) ∧ (True) from ⟨(by first | omega | rfl | assumption | (dsimp only; first | omega | rfl | assumption) | (simp only [*]; done) | exact ⟨hs.1, (by dsimp only; omega), hs1⟩), (by first | omega | rfl | assumption | (dsimp only; first | omega | rfl | assumption) | (simp only [*]; done) | exact ⟨hs.1, (by dsimp only; omega), hs1⟩), (by first | omega | rfl | assumption | (dsimp only; first | omega | rfl | assumption) | (simp only [*]; done) | exact ⟨hs.1, (by dsimp only; omega), hs1⟩), (by first | omega | rfl | assumption | (dsimp only; first | omega | rfl | assumption) | (simp only [*]; done) | exact ⟨hs.1, (by dsimp only; omega), hs1⟩), trivial⟩) (⟨.inl rfl, trivial⟩) (I 0) (by kernel_rfl) (.inl rfl) (fun _ => rfl) (fun _ => trivial)
    refine x_r [(9, .dec false)] [0, 3, 53] [7001] [.ref 7001 0, I 0, Bv false] [some (.box [slU8 false s.code, I (s.atx + 1), .val (.int .u64 (IntKind.u64.wrap ((IntKind.u64.wrap ((IntKind.u64.wrap (s.seed * 6364136223846793005)) + 0)) + 1442695040888963407)))])] [¬ ((s.atx + 1) ≤ (s.code.length : Int))] ⟨h3, trivial⟩ ?_
    refine xe_then ?_
    refine x_false rfl ?_
    refine x_skip ?_
    refine xe_then ?_
    refine x_seq ?_
    have hb2 := and_255 ((IntKind.u64.wrap ((IntKind.u64.wrap ((IntKind.u64.wrap (s.seed * 6364136223846793005)) + 0)) + 1442695040888963407)) / 1099511627776)
    refine x_r [] [2] [7001] [I (bitsI .and .u64 ((IntKind.u64.wrap ((IntKind.u64.wrap ((IntKind.u64.wrap (s.seed * 6364136223846793005)) + 0)) + 1442695040888963407)) / 1099511627776) 255)] [some (.box [slU8 false s.code, I (s.atx + 1), .val (.int .u64 (IntKind.u64.wrap ((IntKind.u64.wrap ((IntKind.u64.wrap (s.seed * 6364136223846793005)) + 0)) + 1442695040888963407)))])] [(0 : Int) ≤ 40 ∧ (40 : Int) ≤ ((IntKind.bits .u64 : Nat) : Int), inR .i64 (bitsI .and .u64 ((IntKind.u64.wrap ((IntKind.u64.wrap ((IntKind.u64.wrap (s.seed * 6364136223846793005)) + 0)) + 1442695040888963407)) / 1099511627776) 255)] ⟨⟨(by decide), (by decide)⟩, (inR_i64 (by omega) (by omega)), trivial⟩ ?_
    refine xe_then ?_
    refine x_ret ?_
    refine xe_end ((bitsI .and .u64 ((IntKind.u64.wrap ((IntKind.u64.wrap ((IntKind.u64.wrap (s.seed * 6364136223846793005)) + 0)) + 1442695040888963407)) / 1099511627776) 255), (l00Src.mk s.code (s.atx + 1) (IntKind.u64.wrap ((IntKind.u64.wrap ((IntKind.u64.wrap (s.seed * 6364136223846793005)) + 0)) + 1442695040888963407)))) (show (0 ≤ (bitsI .and .u64 ((IntKind.u64.wrap ((IntKind.u64.wrap ((IntKind.u64.wrap (s.seed * 6364136223846793005)) + 0)) + 1442695040888963407)) / 1099511627776) 255) ∧ (bitsI .and .u64 ((IntKind.u64.wrap ((IntKind.u64.wrap ((IntKind.u64.wrap (s.seed * 6364136223846793005)) + 0)) + 1442695040888963407)) / 1099511627776) 255) ≤ 255) ∧ (okSrc (l00Src.mk s.code (s.atx + 1) (IntKind.u64.wrap ((IntKind.u64.wrap ((IntKind.u64.wrap (s.seed * 6364136223846793005)) + 0)) + 1442695040888963407)))) ∧ ((l00Src.mk s.code (s.atx + 1) (IntKind.u64.wrap ((IntKind.u64.wrap ((IntKind.u64.wrap (s.seed * 6364136223846793005)) + 0)) + 1442695040888963407))).code = s.code) ∧ (s.atx + 1 ≤ (l00Src.mk s.code (s.atx + 1) (IntKind.u64.wrap ((IntKind.u64.wrap ((IntKind.u64.wrap (s.seed * 6364136223846793005)) + 0)) + 1442695040888963407))).atx ∧ (l00Src.mk s.code (s.atx + 1) (IntKind.u64.wrap ((IntKind.u64.wrap ((IntKind.u64.wrap (s.seed * 6364136223846793005)) + 0)) + 1442695040888963407))).atx ≤ s.atx + 1) ∧ (True) from ⟨(by first | omega | rfl | assumption | (dsimp only; first | omega | rfl | assumption) | (simp only [*]; done) | exact ⟨hs.1, (by dsimp only; omega), hs1⟩), (by first | omega | rfl | assumption | (dsimp only; first | omega | rfl | assumption) | (simp only [*]; done) | exact ⟨hs.1, (by dsimp only; omega), hs1⟩), (by first | omega | rfl | assumption | (dsimp only; first | omega | rfl | assumption) | (simp only [*]; done) | exact ⟨hs.1, (by dsimp only; omega), hs1⟩), (by first | omega | rfl | assumption | (dsimp only; first | omega | rfl | assumption) | (simp only [*]; done) | exact ⟨hs.1, (by dsimp only; omega), hs1⟩), trivial⟩) (⟨.inl rfl, trivial⟩) (I (bitsI .and .u64 ((IntKind.u64.wrap ((IntKind.u64.wrap ((IntKind.u64.wrap (s.seed * 6364136223846793005)) + 0)) + 1442695040888963407)) / 1099511627776) 255)) (by kernel_rfl) (.inl rfl) (fun _ => rfl) (fun _ => trivial)
  obtain ⟨⟨v, s'⟩, ⟨hh0, hh1, hh2, hh3, _⟩, hc⟩ := hh
  exact ⟨v, s', hh0, hh1, hh2, hh3, hc⟩



-- spec.l00Src).pick
theorem pick_ok (s : l00Src) (n : Int) (hs : okSrc s) (ha : s.atx ≤ 3999999999999999990) : ∃ (v : Int) (s' : l00Src), (0 ≤ v ∧ (v < n ∨ v = 0)) ∧ (okSrc s') ∧ (s'.code = s.code) ∧ (s.atx + 0 ≤ s'.atx ∧ s'.atx ≤ s.atx + 2) ∧ CallOK Tryz.prog 31 [.ref 7001 0, I n] (lookO [(7001, bxl00Src s)]) true (I v) (lookO [(7001, bxl00Src s')]) := by
  have hs0 := hs.2.1
  have hs1 := hs.2.2
  have hh : ∃ r : Int × l00Src, ((0 ≤ r.1 ∧ (r.1 < n ∨ r.1 = 0)) ∧ (okSrc r.2) ∧ (r.2.code = s.code) ∧ (s.atx + 0 ≤ r.2.atx ∧ r.2.atx ≤ s.atx + 2) ∧ (True)) ∧ CallOK Tryz.prog 31 [.ref 7001 0, I n] (lookO [(7001, bxl00Src s)]) true (I r.1) (lookO [(7001, bxl00Src r.2)]) := by
    refine fn_okX (Φ := fun r : Int × l00Src => (0 ≤ r.1 ∧ (r.1 < n ∨ r.1 = 0)) ∧ (okSrc r.2) ∧ (r.2.code = s.code) ∧ (s.atx + 0 ≤ r.2.atx ∧ r.2.atx ≤ s.atx + 2) ∧ (True)) [(7001, bxl00Src s)] (fun r => [(7001, bxl00Src r.2)]) (fn := Tryz.f31) (nt := 20) Tryz.func31 rfl rfl (args := [.ref 7001 0, I n]) rfl (allcons (.inr trivial) (allcons (.inl ⟨rfl, trivial⟩) allnil)) (res := fun r => I r.1) ?_
    refine xR [] [0, 1] [7001] [.ref 7001 0, I n] [some (bxl00Src s)] [] trivial ?_
    refine x_seq ?_
    refine x_seq ?_
    by_cases h1 : n ≤ 1
    ·refine x_r [(1, .dec true)] [0, 1, 7] [7001] [.ref 7001 0, I n, Bv true] [some (bxl00Src s)] [n ≤ 1] ⟨h1, trivial⟩ ?_
     refine xe_then ?_
     refine x_true rfl ?_
     refine xR [] [4] [7001] [I 0] [some (bxl00Src s)] [] trivial ?_
     refine x_ret ?_
     refine xe_ret_then ?_
     refine xe_end (0, s) (show (0 ≤ 0 ∧ (0 < n ∨ 0 = 0)) ∧ (okSrc s) ∧ (s.code = s.code) ∧ (s.atx + 0 ≤ s.atx ∧ s.atx ≤ s.atx + 2) ∧ (True) from ⟨(by first | omega | rfl | assumption | (dsimp only; first | omega | rfl | assumption) | (simp only [*]; done) | exact ⟨Int.emod_nonneg _ (by omega), .inl (Int.emod_lt_of_pos _ (by omega))⟩), (by first | omega | rfl | assumption | (dsimp only; first | omega | rfl | assumption) | (simp only [*]; done) | exact ⟨Int.emod_nonneg _ (by omega), .inl (Int.emod_lt_of_pos _ (by omega))⟩), (by first | omega | rfl | assumption | (dsimp only; first | omega | rfl | assumption) | (simp only [*]; done) | exact ⟨Int.emod_nonneg _ (by omega), .inl (Int.emod_lt_of_pos _ (by omega))⟩), (by first | omega | rfl | assumption | (dsimp only; first | omega | rfl | assumption) | (simp only [*]; done) | exact ⟨Int.emod_nonneg _ (by omega), .inl (Int.emod_lt_of_pos _ (by omega))⟩), trivial⟩) (⟨.inl rfl, trivial⟩) (I 0) (by kernel_rfl) (.inl rfl) (fun _ => rfl) (fun _ => trivial)
    refine x_r [(1, .dec false)] [0, 1, 7] [7001] [.ref 7001 0, I n, Bv false] [some (bxl00Src s)] [¬ (n ≤ 1)] ⟨h1, trivial⟩ ?_
    refine xe_then ?_
    refine x_false rfl ?_
    refine x_skip ?_
    refine xe_then ?_
    refine x_seq ?_
    obtain ⟨v_1, s'_1, hx1_0, hx1_1, hx1_2, hx1_3, hc1⟩ := next_ok s (by first | assumption | (simp only [okSrc] at *; simp_all; done)) (by omega)
    refine x_r [(1, .lend [(7001, bxl00Src s, bxl00Src s'_1)] [] [(true, .any)] true (I v_1))] [0, 1, 5] [7001] [.ref 7001 0, I n, I v_1] [some (bxl00Src s'_1)] [CallOK Tryz.prog 56 [.ref 7001 0] (lookO [(7001, bxl00Src s)]) true (I v_1) (lookO [(7001, bxl00Src s'_1)]) ∧ (((bxl00Src s : Ob) = bxl00Src s ∨ obLe noOb true (bxl00Src s) (bxl00Src s)) ∧ taggedO false (bxl00Src s)) ∧ True] ⟨⟨hc1, ⟨.inl rfl, (by simp [taggedO, taggedL, tagged, tagU8])⟩, trivial⟩, trivial⟩ ?_
    refine xe_then ?_
    refine x_seq ?_
    refine x_seq ?_
    by_cases h2 : 200 < n
    ·refine x_r [(1, .dec true)] [0, 1, 5, 11] [7001] [.ref 7001 0, I n, I v_1, Bv true] [some (bxl00Src s'_1)] [200 < n] ⟨h2, trivial⟩ ?_
     refine xe_then ?_
     refine x_true rfl ?_
     obtain ⟨v_2, s'_2, hx2_0, hx2_1, hx2_2, hx2_3, hc2⟩ := next_ok s'_1 (by first | assumption | (simp only [okSrc] at *; simp_all; done)) (by omega)
     refine x_r [(3, .lend [(7001, bxl00Src s'_1, bxl00Src s'_2)] [] [(true, .any)] true (I v_2))] [1, 5] [7001] [I n, I ((v_1 * 256) + v_2)] [some (bxl00Src s'_2)] [inR .i64 (v_1 * 256), CallOK Tryz.prog 56 [.ref 7001 0] (lookO [(7001, bxl00Src s'_1)]) true (I v_2) (lookO [(7001, bxl00Src s'_2)]) ∧ (((bxl00Src s'_1 : Ob) = bxl00Src s'_1 ∨ obLe noOb true (bxl00Src s'_1) (bxl00Src s'_1)) ∧ taggedO false (bxl00Src s'_1)) ∧ True, inR .i64 ((v_1 * 256) + v_2)] ⟨(inR_i64 (by omega) (by omega)), ⟨hc2, ⟨.inl rfl, (by simp [taggedO, taggedL, tagged, tagU8])⟩, trivial⟩, (inR_i64 (by omega) (by omega)), trivial⟩ ?_
     refine xe_then ?_
     refine xR [(2, .nn)] [4] [7001] [I (((v_1 * 256) + v_2) % n)] [some (bxl00Src s'_2)] [(0 : Int) ≤ ((v_1 * 256) + v_2) ∧ (0 : Int) < n] ⟨⟨(by omega), (by omega)⟩, trivial⟩ ?_
     refine x_ret ?_
     refine xe_end ((((v_1 * 256) + v_2) % n), s'_2) (show (0 ≤ (((v_1 * 256) + v_2) % n) ∧ ((((v_1 * 256) + v_2) % n) < n ∨ (((v_1 * 256) + v_2) % n) = 0)) ∧ (okSrc s'_2) ∧ (s'_2.code = s.code) ∧ (s.atx + 0 ≤ s'_2.atx ∧ s'_2.atx ≤ s.atx + 2) ∧ (True) from ⟨(by first | omega | rfl | assumption | (dsimp only; first | omega | rfl | assumption) | (simp only [*]; done) | exact ⟨Int.emod_nonneg _ (by omega), .inl (Int.emod_lt_of_pos _ (by omega))⟩), (by first | omega | rfl | assumption | (dsimp only; first | omega | rfl | assumption) | (simp only [*]; done) | exact ⟨Int.emod_nonneg _ (by omega), .inl (Int.emod_lt_of_pos _ (by omega))⟩), (by first | omega | rfl | assumption | (dsimp only; first | omega | rfl | assumption) | (simp only [*]; done) | exact ⟨Int.emod_nonneg _ (by omega), .inl (Int.emod_lt_of_pos _ (by omega))⟩), (by first | omega | rfl | assumption | (dsimp only; first | omega | rfl | assumption) | (simp only [*]; done) | exact ⟨Int.emod_nonneg _ (by omega), .inl (Int.emod_lt_of_pos _ (by omega))⟩), trivial⟩) (⟨.inl rfl, trivial⟩) (I (((v_1 * 256) + v_2) % n)) (by kernel_rfl) (.inl rfl) (fun _ => rfl) (fun _ => trivial)
    refine x_r [(1, .dec false)] [0, 1, 5, 11] [7001] [.ref 7001 0, I n, I v_1, Bv false] [some (bxl00Src s'_1)] [¬ (200 < n)] ⟨h2, trivial⟩ ?_
    refine xe_then ?_
    refine x_false rfl ?_
    refine x_skip ?_
    refine xe_then ?_
    refine xR [(2, .nn)] [4] [7001] [I (v_1 % n)] [some (bxl00Src s'_1)] [(0 : Int) ≤ v_1 ∧ (0 : Int) < n] ⟨⟨(by omega), (by omega)⟩, trivial⟩ ?_
    refine x_ret ?_
    refine xe_end ((v_1 % n), s'_1) (show (0 ≤ (v_1 % n) ∧ ((v_1 % n) < n ∨ (v_1 % n) = 0)) ∧ (okSrc s'_1) ∧ (s'_1.code = s.code) ∧ (s.atx + 0 ≤ s'_1.atx ∧ s'_1.atx ≤ s.atx + 2) ∧ (True) from ⟨(by first | omega | rfl | assumption | (dsimp only; first | omega | rfl | assumption) | (simp only [*]; done) | exact ⟨Int.emod_nonneg _ (by omega), .inl (Int.emod_lt_of_pos _ (by omega))⟩), (by first | omega | rfl | assumption | (dsimp only; first | omega | rfl | assumption) | (simp only [*]; done) | exact ⟨Int.emod_nonneg _ (by omega), .inl (Int.emod_lt_of_pos _ (by omega))⟩), (by first | omega | rfl | assumption | (dsimp only; first | omega | rfl | assumption) | (simp only [*]; done) | exact ⟨Int.emod_nonneg _ (by omega), .inl (Int.emod_lt_of_pos _ (by omega))⟩), (by first | omega | rfl | assumption | (dsimp only; first | omega | rfl | assumption) | (simp only [*]; done) | exact ⟨Int.emod_nonneg _ (by omega), .inl (Int.emod_lt_of_pos _ (by omega))⟩), trivial⟩) (⟨.inl rfl, trivial⟩) (I (v_1 % n)) (by kernel_rfl) (.inl rfl) (fun _ => rfl) (fun _ => trivial)
  obtain ⟨⟨v, s'⟩, ⟨hh0, hh1, hh2, hh3, _⟩, hc⟩ := hh
  exact ⟨v, s', hh0, hh1, hh2, hh3, hc⟩



-- spec.l00Min
theorem l00Min_ok (a : Int) (b : Int) : Con Tryz.prog 32 [I a, I b] true (I (min a b)) := by
  refine fn_ok (fn := Tryz.f32) (nt := 10) Tryz.func32 rfl rfl rfl rfl (by simp [taggedL, tagged]) fun B hB => ?_
  refine aR [] [0, 1] [] [I a, I b] [] [] hB trivial ?_
  refine aw_seq ?_
  refine aw_seq ?_
  by_cases h1 : a < b
  ·refine aw_r [(2, .dec true)] [0, 1, 7] [] [I a, I b, Bv true] [] [a < b] hB ⟨h1, trivial⟩ ?_
   refine ae_then ?_
   refine aw_true rfl ?_
   refine aR [] [4] [] [I a] [] [] hB trivial ?_
   refine aw_ret ?_
   refine ae_ret_then ?_
   refine ae_ret hB (I a) (by kernel_rfl) (.inl (by refine congrArg I ?_; omega)) rfl (fun _ => trivial)
  refine aw_r [(2, .dec false)] [0, 1, 7] [] [I a, I b, Bv false] [] [¬ (a < b)] hB ⟨h1, trivial⟩ ?_
  refine ae_then ?_
  refine aw_false rfl ?_
  refine aw_skip ?_
  refine ae_then ?_
  refine aR [] [4] [] [I b] [] [] hB trivial ?_
  refine aw_ret ?_
  refine ae_ret hB (I b) (by kernel_rfl) (.inl (by refine congrArg I ?_; omega)) rfl (fun _ => trivial)



-- spec.l00Src).text
theorem text_ok (s : l00Src) (list : List ByteArray) (hs : okSrc s) (ha : s.atx ≤ 3999999999999999980) (hl : (0 < list.length ∧ list.length ≤ 1000) ∧ ∀ z ∈ list, z.size ≤ 16) : ∃ (v : ByteArray) (s' : l00Src), (v.size ≤ 16) ∧ (okSrc s') ∧ (s'.code = s.code) ∧ (s.atx + 0 ≤ s'.atx ∧ s'.atx ≤ s.atx + 2) ∧ (v ∈ list) ∧ CallOK Tryz.prog 33 [.ref 7001 0, slS false list] (lookO [(7001, bxl00Src s)]) true (Sv v) (lookO [(7001, bxl00Src s')]) := by
  have hh : ∃ r : ByteArray × l00Src, ((r.1.size ≤ 16) ∧ (okSrc r.2) ∧ (r.2.code = s.code) ∧ (s.atx + 0 ≤ r.2.atx ∧ r.2.atx ≤ s.atx + 2) ∧ (r.1 ∈ list) ∧ (True)) ∧ CallOK Tryz.prog 33 [.ref 7001 0, slS false list] (lookO [(7001, bxl00Src s)]) true (Sv r.1) (lookO [(7001, bxl00Src r.2)]) := by
    refine fn_okX (Φ := fun r : ByteArray × l00Src => (r.1.size ≤ 16) ∧ (okSrc r.2) ∧ (r.2.code = s.code) ∧ (s.atx + 0 ≤ r.2.atx ∧ r.2.atx ≤ s.atx + 2) ∧ (r.1 ∈ list) ∧ (True)) [(7001, bxl00Src s)] (fun r => [(7001, bxl00Src r.2)]) (fn := Tryz.f33) (nt := 12) Tryz.func33 rfl rfl (args := [.ref 7001 0, slS false list]) rfl (allcons (.inr trivial) (allcons (.inl ⟨rfl, tagS false _⟩) allnil)) (res := fun r => Sv r.1) ?_
    refine xR [] [0, 1] [7001] [.ref 7001 0, slS false list] [some (bxl00Src s)] [] trivial ?_
    refine x_seq ?_
    obtain ⟨v_1, s'_1, hx1_0, hx1_1, hx1_2, hx1_3, hc1⟩ := pick_ok s (list.length : Int) (by first | assumption | (simp only [okSrc] at *; simp_all; done)) (by omega)
    refine x_r [(4, .lend [(7001, bxl00Src s, bxl00Src s'_1)] [] [(true, .any), (true, .any)] true (I v_1))] [4] [7001] [Sv (at_ list v_1.toNat)] [some (bxl00Src s'_1)] [CallOK Tryz.prog 31 [.ref 7001 0, I (list.length : Int)] (lookO [(7001, bxl00Src s)]) true (I v_1) (lookO [(7001, bxl00Src s'_1)]) ∧ (((bxl00Src s : Ob) = bxl00Src s ∨ obLe noOb true (bxl00Src s) (bxl00Src s)) ∧ taggedO false (bxl00Src s)) ∧ True, (0 : Int) ≤ v_1 ∧ v_1 < (list.length : Int)] ⟨⟨hc1, ⟨.inl rfl, (by simp [taggedO, taggedL, tagged, tagU8])⟩, trivial⟩, ⟨(by omega), (by omega)⟩, trivial⟩ ?_
    refine xe_then ?_
    refine x_ret ?_
    refine xe_end ((at_ list v_1.toNat), s'_1) (show ((at_ list v_1.toNat).size ≤ 16) ∧ (okSrc s'_1) ∧ (s'_1.code = s.code) ∧ (s.atx + 0 ≤ s'_1.atx ∧ s'_1.atx ≤ s.atx + 2) ∧ ((at_ list v_1.toNat) ∈ list) ∧ (True) from ⟨(by first | omega | rfl | assumption | (dsimp only; first | omega | rfl | assumption) | (simp only [*]; done) | (exact at_mem (by omega)) | (exact hl.2 _ (at_mem (by omega))) | (simp_all; done)), (by first | omega | rfl | assumption | (dsimp only; first | omega | rfl | assumption) | (simp only [*]; done) | (exact at_mem (by omega)) | (exact hl.2 _ (at_mem (by omega))) | (simp_all; done)), (by first | omega | rfl | assumption | (dsimp only; first | omega | rfl | assumption) | (simp only [*]; done) | (exact at_mem (by omega)) | (exact hl.2 _ (at_mem (by omega))) | (simp_all; done)), (by first | omega | rfl | assumption | (dsimp only; first | omega | rfl | assumption) | (simp only [*]; done) | (exact at_mem (by omega)) | (exact hl.2 _ (at_mem (by omega))) | (simp_all; done)), (by first | omega | rfl | assumption | (dsimp only; first | omega | rfl | assumption) | (simp only [*]; done) | (exact at_mem (by omega)) | (exact hl.2 _ (at_mem (by omega))) | (simp_all; done)), trivial⟩) (⟨.inl rfl, trivial⟩) (Sv (at_ list v_1.toNat)) (by kernel_rfl) (.inl rfl) (fun _ => rfl) (fun _ => trivial)
  obtain ⟨⟨v, s'⟩, ⟨hh0, hh1, hh2, hh3, hh4, _⟩, hc⟩ := hh
  exact ⟨v, s', hh0, hh1, hh2, hh3, hh4, hc⟩



def inB (a l h : Int) : Bool := decide (l ≤ a ∧ a ≤ h)
theorem inB_iff {a l h : Int} : inB a l h = true ↔ l ≤ a ∧ a ≤ h := by simp [inB]
theorem bAt_bd (s : ByteArray) (i : Nat) : 0 ≤ bAt s i ∧ bAt s i ≤ 255 := by
  unfold bAt
  have := (s.data.toList.getD i 0).toNat_lt
  omega


-- spec.l00In
theorem l00In_ok (n : Int) (low : Int) (high : Int) : Con Tryz.prog 43 [I n, I low, I high] true (Bv (inB n low high)) := by
  refine fn_ok (fn := Tryz.f43) (nt := 15) Tryz.func43 rfl rfl rfl rfl (by simp [taggedL, tagged]) fun B hB => ?_
  refine aR [] [0, 1, 2] [] [I n, I low, I high] [] [] hB trivial ?_
  refine aw_seq ?_
  by_cases h1 : low ≤ n
  ·refine aw_r [(2, .dec true)] [6] [] [Bv (decide (n ≤ high))] [] [low ≤ n] hB ⟨h1, trivial⟩ ?_
   refine ae_then ?_
   refine aw_ret ?_
   refine ae_ret hB (Bv (decide (n ≤ high))) (by kernel_rfl) (.inl (by first | rfl | (refine congrArg Bv ?_; simp [inB, *]; done) | (refine congrArg Bv ?_; simp [inB, *]; omega) | (refine congrArg Bv ?_; simp_all [inB]; done) | (refine congrArg Bv ?_; simp_all [inB]; omega))) rfl (fun _ => trivial)
  refine aw_r [(2, .dec false)] [6] [] [Bv false] [] [¬ (low ≤ n)] hB ⟨h1, trivial⟩ ?_
  refine ae_then ?_
  refine aw_ret ?_
  refine ae_ret hB (Bv false) (by kernel_rfl) (.inl (by first | rfl | (refine congrArg Bv ?_; simp [inB, *]; done) | (refine congrArg Bv ?_; simp [inB, *]; omega) | (refine congrArg Bv ?_; simp_all [inB]; done) | (refine congrArg Bv ?_; simp_all [inB]; omega))) rfl (fun _ => trivial)



def cmpS (a b : ByteArray) : Int := if sless a b = true then -1 else if sless a b = false ∧ a ≠ b then 1 else 0
def orL : List Int → Int
  | [] => 0
  | x :: r => if x = 0 then orL r else x
theorem orL_at [Inhabited Int] {xs : List Int} : ∀ {k : Nat}, k < xs.length → (∀ j, j < k → at_ xs j = 0) → at_ xs k ≠ 0 → orL xs = at_ xs k := by
  induction xs with
  | nil => intro k h; simp at h
  | cons x r ih =>
    intro k h h0 hk
    cases k with
    | zero => have e : at_ (x :: r) 0 = x := rfl; rw [e] at hk ⊢; exact if_neg hk
    | succ k =>
      have e : at_ (x :: r) (k + 1) = at_ r k := by simp [at_]
      have e0 : x = 0 := h0 0 (by omega)
      rw [e] at hk ⊢
      unfold orL; rw [if_pos e0]
      refine ih (by simpa using h) (fun j hj => ?_) hk
      have := h0 (j + 1) (by omega)
      simpa [at_] using this
theorem orL_none [Inhabited Int] {xs : List Int} : (∀ j, j < xs.length → at_ xs j = 0) → orL xs = 0 := by
  induction xs with
  | nil => intro _; rfl
  | cons x r ih =>
    intro h
    have e0 : x = 0 := h 0 (by simp)
    unfold orL; rw [if_pos e0]
    refine ih fun j hj => ?_
    have := h (j + 1) (by simp; omega)
    simpa [at_] using this


theorem at_set_same {α : Type} [Inhabited α] {xs : List α} {i : Nat} {x : α} (h : i < xs.length) : at_ (xs.set i x) i = x := by simp [at_, h]
theorem at_set_oth {α : Type} [Inhabited α] {xs : List α} {i j : Nat} {x : α} (h : i ≠ j) : at_ (xs.set j x) i = at_ xs i := by
  have h' : ¬ j = i := fun e => h e.symm
  simp [at_, List.getElem?_set, h']


def cmpI (a b : Int) : Int := if a < b then -1 else if b < a then 1 else 0
theorem cmpI_neg {a b : Int} : cmpI a b < 0 ↔ a < b := by unfold cmpI; split <;> (try split) <;> omega
theorem cmpI_zero {a b : Int} : cmpI a b = 0 ↔ a = b := by unfold cmpI; split <;> (try split) <;> omega
def shfL {α : Type} (p : List α) (x : α) (j : Nat) : List α := p.take j ++ x :: p.drop j
theorem shf_len {α : Type} {p : List α} {x : α} {j : Nat} (h : j ≤ p.length) : (shfL p x j).length = p.length + 1 := by
  simp [shfL]; omega
def posL {α : Type} [Inhabited α] (c : α → α → Int) (x : α) (p : List α) : Nat → Nat
  | 0 => 0
  | j + 1 => if c x (at_ p j) < 0 then posL c x p j else j + 1
theorem posL_le {α : Type} [Inhabited α] (c : α → α → Int) (x : α) (p : List α) : ∀ j : Nat, posL c x p j ≤ j
  | 0 => Nat.le_refl _
  | j + 1 => by unfold posL; split; exact Nat.le_succ_of_le (posL_le c x p j); exact Nat.le_refl _
def insL {α : Type} [Inhabited α] (c : α → α → Int) (p : List α) (x : α) : List α := shfL p x (posL c x p p.length)
def isoL {α : Type} [Inhabited α] (c : α → α → Int) (xs : List α) : Nat → List α
  | 0 => []
  | k + 1 => insL c (isoL c xs k) (at_ xs k)
theorem isoL_len {α : Type} [Inhabited α] (c : α → α → Int) (xs : List α) : ∀ k : Nat, (isoL c xs k).length = k
  | 0 => rfl
  | k + 1 => by unfold isoL insL; rw [shf_len (posL_le _ _ _ _), isoL_len c xs k]
theorem shf_perm {α : Type} (p : List α) (x : α) (j : Nat) : List.Perm (shfL p x j) (p ++ [x]) := by
  unfold shfL
  refine List.perm_middle.trans ?_
  rw [List.take_append_drop]
  exact (List.perm_append_singleton x p).symm
theorem isoL_perm {α : Type} [Inhabited α] (c : α → α → Int) (xs : List α) : ∀ k : Nat, k ≤ xs.length → List.Perm (isoL c xs k) (xs.take k)
  | 0, _ => by simp [isoL]
  | k + 1, h => by
    rw [List.take_succ_eq_append_getElem (by omega), ← at_eq (by omega)]
    exact (shf_perm _ _ _).trans ((isoL_perm c xs k (by omega)).append_right _)
def ordR {α : Type} (c : α → α → Int) (B : α → α → Prop) (x y : α) : Prop := c x y < 0 ∨ c x y = 0 ∧ B x y
structure CmpW {α : Type} (c : α → α → Int) : Prop where
  anti : ∀ x y, c x y < 0 ↔ 0 < c y x
  trans : ∀ x y z, c x y ≤ 0 → c y z < 0 → c x z < 0
theorem CmpW.refl {α : Type} {c : α → α → Int} (h : CmpW c) (x : α) : c x x = 0 := by have := h.anti x x; omega
theorem CmpW.zero {α : Type} {c : α → α → Int} (h : CmpW c) {x y : α} (e : c x y = 0) : c y x = 0 := by have h1 := h.anti x y; have h2 := h.anti y x; omega
theorem CmpW.le {α : Type} {c : α → α → Int} (h : CmpW c) {x y z : α} (h1 : c x y ≤ 0) (h2 : c y z ≤ 0) : c x z ≤ 0 := by
  rcases Int.lt_or_le 0 (c x z) with g | g
  · have q := (h.anti z x).2 g
    have q2 : c y x < 0 := h.trans y z x h2 q
    have := (h.anti y x).1 q2; omega
  · exact g
theorem pos_lo {α : Type} [Inhabited α] {c : α → α → Int} {x : α} {p : List α} : ∀ (n k : Nat), posL c x p n ≤ k → k < n → c x (at_ p k) < 0
  | 0, k, _, h => absurd h (Nat.not_lt_zero _)
  | n + 1, k, h1, h2 => by
    unfold posL at h1
    split at h1
    · rename_i g
      by_cases e : k = n
      · subst e; exact g
      · exact pos_lo n k h1 (by omega)
    · omega
theorem pos_at {α : Type} [Inhabited α] {c : α → α → Int} {x : α} {p : List α} : ∀ n : Nat, posL c x p n = 0 ∨ ¬ c x (at_ p (posL c x p n - 1)) < 0
  | 0 => .inl rfl
  | n + 1 => by
    unfold posL
    split
    · exact pos_at n
    · right; assumption
theorem isoL_ord {α : Type} [Inhabited α] {c : α → α → Int} (hc : CmpW c) {B : α → α → Prop} {xs : List α} (hB : xs.Pairwise B) : ∀ k : Nat, k ≤ xs.length → (isoL c xs k).Pairwise (ordR c B)
  | 0, _ => by simp [isoL]
  | k + 1, h => by
    have ih := isoL_ord hc hB k (by omega)
    have hp := isoL_perm c xs k (by omega)
    have hl := isoL_len c xs k
    obtain ⟨p, hpe⟩ : ∃ p, p = isoL c xs k := ⟨_, rfl⟩
    obtain ⟨x, hx⟩ : ∃ x, x = at_ xs k := ⟨_, rfl⟩
    rw [isoL, ← hpe, ← hx]
    rw [← hpe] at ih hp hl
    have hbx : ∀ y ∈ p, B y x := fun y hy => by
      have hm := hp.mem_iff.1 hy
      obtain ⟨i, hi, e⟩ := List.getElem_of_mem hm
      rw [List.length_take] at hi
      rw [List.getElem_take] at e
      rw [← e, hx, at_eq (by omega)]
      exact (List.pairwise_iff_getElem.1 hB) i k (by omega) (by omega) (by omega)
    unfold insL shfL
    have hj := posL_le c x p p.length
    have lo := fun k hk hk2 => pos_lo (c := c) (x := x) (p := p) p.length k hk hk2
    have hi := pos_at (c := c) (x := x) (p := p) p.length
    generalize posL c x p p.length = j at hj lo hi ⊢
    have hle : ∀ y ∈ p.take j, c y x ≤ 0 := fun y hy => by
      obtain ⟨i, hi2, e⟩ := List.getElem_of_mem hy
      rw [List.length_take] at hi2
      rw [List.getElem_take] at e
      rcases hi with e0 | e0
      · omega
      · have h3 : c (at_ p (j - 1)) x ≤ 0 := by
          rcases Int.lt_or_le 0 (c (at_ p (j - 1)) x) with g | g
          · exact absurd ((hc.anti _ _).2 g) e0
          · exact g
        rw [← e]
        by_cases ei : i = j - 1
        · have : p[i] = at_ p (j - 1) := by rw [at_eq (by omega)]; congr 1
          rw [this]; exact h3
        · have q := (List.pairwise_iff_getElem.1 ih) i (j - 1) (by omega) (by omega) (by omega)
          rw [← at_eq (show j - 1 < p.length by omega)] at q
          refine hc.le ?_ h3
          rcases q with q | q
          · omega
          · omega
    have hgt : ∀ y ∈ p.drop j, c x y < 0 := fun y hy => by
      obtain ⟨i, hi2, e⟩ := List.getElem_of_mem hy
      rw [List.length_drop] at hi2
      rw [List.getElem_drop] at e
      rw [← e, ← at_eq (by omega)]
      exact lo _ (by omega) (by omega)
    rw [List.pairwise_append]
    refine ⟨ih.sublist (List.take_sublist _ _), List.pairwise_cons.2 ⟨fun y hy => .inl (hgt y hy), ih.sublist (List.drop_sublist _ _)⟩, fun a ha b hb => ?_⟩
    rcases List.mem_cons.1 hb with e | e
    · subst e
      have := hle a ha
      by_cases z : c a b = 0
      · exact .inr ⟨z, hbx a (List.mem_of_mem_take ha)⟩
      · exact .inl (by omega)
    · exact .inl (hc.trans a x b (hle a ha) (hgt b e))

theorem bl_irr : ∀ x : List UInt8, Op.bytesLess x x = false
  | [] => rfl
  | a :: x => by
    have h : ¬ a < a := fun q => by have := UInt8.lt_iff_toNat_lt.1 q; omega
    simp [Op.bytesLess, bl_irr x, h]
theorem bl_asym : ∀ x y : List UInt8, Op.bytesLess x y = true → Op.bytesLess y x = false
  | [], [], h => by simp [Op.bytesLess] at h
  | [], _ :: _, _ => by simp [Op.bytesLess]
  | _ :: _, [], h => by simp [Op.bytesLess] at h
  | a :: x, b :: y, h => by
    simp only [Op.bytesLess, Bool.or_eq_true, Bool.and_eq_true, decide_eq_true_eq, beq_iff_eq] at h
    rcases h with h | ⟨h, h2⟩
    · have q := UInt8.lt_iff_toNat_lt.1 h
      have n1 : ¬ b < a := fun z => by have := UInt8.lt_iff_toNat_lt.1 z; omega
      have n2 : ¬ b = a := fun z => by subst z; omega
      simp [Op.bytesLess, n1, n2]
    · subst h
      have n1 : ¬ a < a := fun z => by have := UInt8.lt_iff_toNat_lt.1 z; omega
      simp [Op.bytesLess, n1, bl_asym x y h2]
theorem bl_trans : ∀ x y z : List UInt8, Op.bytesLess x y = true → Op.bytesLess y z = true → Op.bytesLess x z = true
  | _, _, [], _, h => by simp [Op.bytesLess] at h
  | _, [], _ :: _, h, _ => by simp [Op.bytesLess] at h
  | [], _ :: _, _ :: _, _, _ => by simp [Op.bytesLess]
  | a :: x, b :: y, c :: z, h1, h2 => by
    simp only [Op.bytesLess, Bool.or_eq_true, Bool.and_eq_true, decide_eq_true_eq, beq_iff_eq] at h1 h2 ⊢
    rcases h1 with h1 | ⟨h1, g1⟩ <;> rcases h2 with h2 | ⟨h2, g2⟩
    · left; have := UInt8.lt_iff_toNat_lt.1 h1; have := UInt8.lt_iff_toNat_lt.1 h2; exact UInt8.lt_iff_toNat_lt.2 (by omega)
    · left; rw [← h2]; exact h1
    · left; rw [h1]; exact h2
    · right; exact ⟨h1.trans h2, bl_trans x y z g1 g2⟩
theorem bl_tri : ∀ x y : List UInt8, Op.bytesLess x y = false → x ≠ y → Op.bytesLess y x = true
  | [], [], _, h => absurd rfl h
  | [], _ :: _, h, _ => by simp [Op.bytesLess] at h
  | _ :: _, [], _, _ => by simp [Op.bytesLess]
  | a :: x, b :: y, h, hn => by
    simp only [Op.bytesLess, Bool.or_eq_false_iff, decide_eq_false_iff_not] at h
    simp only [Op.bytesLess, Bool.or_eq_true, Bool.and_eq_true, decide_eq_true_eq, beq_iff_eq]
    by_cases e : a = b
    · subst e
      right
      refine ⟨rfl, bl_tri x y ?_ fun q => hn (by rw [q])⟩
      have := h.2
      simpa using this
    · left
      have q : ¬ a.toNat < b.toNat := fun z => h.1 (UInt8.lt_iff_toNat_lt.2 z)
      have q2 : a.toNat ≠ b.toNat := fun z => e (UInt8.toNat_inj.1 z)
      exact UInt8.lt_iff_toNat_lt.2 (by omega)
theorem sl_tri {a b : ByteArray} (h : sless a b = false) (hn : a ≠ b) : sless b a = true := by
  unfold sless at *
  refine bl_tri _ _ h fun q => hn ?_
  rw [Lib.toList_data, Lib.toList_data] at q
  cases a; cases b
  simp only [ByteArray.mk.injEq]
  exact Array.toList_inj.1 q
theorem sl_asym {a b : ByteArray} (h : sless a b = true) : sless b a = false := bl_asym _ _ h
theorem sl_irr (a : ByteArray) : sless a a = false := bl_irr _
theorem sl_trans {a b c : ByteArray} (h1 : sless a b = true) (h2 : sless b c = true) : sless a c = true := bl_trans _ _ _ h1 h2
theorem sl_ne {a b : ByteArray} (h : sless a b = true) : a ≠ b := fun e => by subst e; rw [sl_irr] at h; cases h
theorem cmpS_neg {a b : ByteArray} : cmpS a b < 0 ↔ sless a b = true := by
  unfold cmpS
  by_cases h : sless a b = true
  · rw [if_pos h]; simp [h]
  · rw [if_neg h]; split <;> simp [h]
theorem cmpS_zero {a b : ByteArray} : cmpS a b = 0 ↔ a = b := by
  unfold cmpS
  by_cases h : sless a b = true
  · rw [if_pos h]; have := sl_ne h; simp [this]
  · rw [if_neg h]
    have h' : sless a b = false := by simpa using h
    by_cases e : a = b
    · subst e; simp
    · rw [if_pos ⟨h', e⟩]; simp [e]
theorem cmpS_pos {a b : ByteArray} : 0 < cmpS a b ↔ sless b a = true := by
  constructor
  · intro h
    have n1 : ¬ cmpS a b < 0 := by omega
    have n2 : ¬ cmpS a b = 0 := by omega
    rw [cmpS_neg] at n1; rw [cmpS_zero] at n2
    exact sl_tri (by simpa using n1) n2
  · intro h
    have n1 : ¬ cmpS a b < 0 := fun q => by rw [cmpS_neg] at q; have := sl_asym q; rw [h] at this; cases this
    have n2 : ¬ cmpS a b = 0 := fun q => by rw [cmpS_zero] at q; exact sl_ne h q.symm
    omega
theorem cmpS_w : CmpW cmpS := ⟨fun x y => by rw [cmpS_neg, cmpS_pos], fun x y z h1 h2 => by
  rw [cmpS_neg] at *
  by_cases e : cmpS x y = 0
  · rw [cmpS_zero] at e; subst e; exact h2
  · exact sl_trans (cmpS_neg.1 (by omega)) h2⟩
theorem cmpI_w : CmpW cmpI := ⟨fun x y => by unfold cmpI; split <;> (try split) <;> (try split) <;> omega, fun x y z h1 h2 => by
  rw [cmpI_neg] at *
  have := @cmpI_neg y x
  have := @cmpI_zero x y
  have := @cmpI_neg x y
  omega⟩
theorem CmpW.lex {α β : Type} {f : β → α} {c : α → α → Int} {d : β → β → Int} (hc : CmpW c) (hd : CmpW d) : CmpW fun x y : β => if c (f x) (f y) = 0 then d x y else c (f x) (f y) := ⟨fun x y => by
    have a1 := hc.anti (f x) (f y)
    have a2 := hc.anti (f y) (f x)
    have b1 := hd.anti x y
    show (if c (f x) (f y) = 0 then d x y else c (f x) (f y)) < 0 ↔ 0 < (if c (f y) (f x) = 0 then d y x else c (f y) (f x))
    by_cases e : c (f x) (f y) = 0
    · rw [if_pos e, if_pos (hc.zero e)]; exact b1
    · rw [if_neg e, if_neg (fun q => e (hc.zero q))]; exact a1, fun x y z h1 h2 => by
    replace h1 : (if c (f x) (f y) = 0 then d x y else c (f x) (f y)) ≤ 0 := h1
    replace h2 : (if c (f y) (f z) = 0 then d y z else c (f y) (f z)) < 0 := h2
    show (if c (f x) (f z) = 0 then d x z else c (f x) (f z)) < 0
    by_cases e1 : c (f x) (f y) = 0
    · rw [if_pos e1] at h1
      by_cases e2 : c (f y) (f z) = 0
      · rw [if_pos e2] at h2
        have l1 := hc.le (x := f x) (y := f y) (z := f z) (by omega) (by omega)
        have l2 := hc.le (x := f z) (y := f y) (z := f x) (by have := hc.zero e2; omega) (by have := hc.zero e1; omega)
        have a := hc.anti (f x) (f z)
        have a2 := hc.anti (f z) (f x)
        rw [if_pos (by omega)]
        exact hd.trans x y z h1 h2
      · rw [if_neg e2] at h2
        have := hc.trans (f x) (f y) (f z) (by omega) h2
        rw [if_neg (by omega)]; exact this
    · rw [if_neg e1] at h1
      have h1' : c (f x) (f y) < 0 := by omega
      have hz : c (f y) (f z) ≤ 0 := by
        by_cases e2 : c (f y) (f z) = 0
        · omega
        · rw [if_neg e2] at h2; omega
      have l := hc.le (x := f x) (y := f y) (z := f z) (by omega) hz
      have n : c (f x) (f z) ≠ 0 := fun q => by
        have q2 := hc.zero q
        have := hc.trans (f z) (f x) (f y) (by omega) h1'
        have a := hc.anti (f z) (f y)
        omega
      rw [if_neg n]; omega⟩
theorem CmpW.map {α β : Type} {c : α → α → Int} (hc : CmpW c) (f : β → α) : CmpW fun x y : β => c (f x) (f y) := ⟨fun x y => hc.anti _ _, fun x y z => hc.trans _ _ _⟩


theorem pw_get {α : Type} [Inhabited α] {R : α → α → Prop} {xs : List α} (h : xs.Pairwise R) {i j : Nat} (hij : i < j) (hj : j < xs.length) : R (at_ xs i) (at_ xs j) := by
  rw [at_eq (by omega), at_eq hj]
  exact (List.pairwise_iff_getElem.1 h) i j (by omega) hj hij
theorem ins_ok {α : Type} [Inhabited α] {c : α → α → Int} (hw : CmpW c) {xs : List α} (hp : xs.Pairwise fun x y => c x y < 0) {e : α} {k : Nat} (hk : k ≤ xs.length) (hlo : k = 0 ∨ ¬ 0 < c (at_ xs (k - 1)) e) (hhi : ∀ j : Nat, k ≤ j → j < xs.length → 0 < c (at_ xs j) e) (hne : ∀ x ∈ xs, c x e ≠ 0) :
    (xs.take k ++ [e] ++ xs.drop k).Pairwise fun x y => c x y < 0 := by
  have hle : ∀ x ∈ xs.take k, c x e < 0 := fun x hx => by
    obtain ⟨i, hi, q⟩ := List.getElem_of_mem hx
    rw [List.length_take] at hi
    rw [List.getElem_take] at q
    rcases hlo with e0 | e0
    · omega
    · have hm := hne _ (at_mem (show k - 1 < xs.length by omega))
      have h1 : c (at_ xs (k - 1)) e < 0 := by omega
      rw [← q, ← at_eq (by omega)]
      by_cases ei : i = k - 1
      · rw [ei]; exact h1
      · exact hw.trans _ _ _ (by have := pw_get hp (show i < k - 1 by omega) (by omega); omega) h1
  have hgt : ∀ y ∈ xs.drop k, c e y < 0 := fun y hy => by
    obtain ⟨i, hi, q⟩ := List.getElem_of_mem hy
    rw [List.length_drop] at hi
    rw [List.getElem_drop] at q
    rw [← q, ← at_eq (by omega)]
    exact (hw.anti _ _).2 (hhi _ (by omega) (by omega))
  rw [List.append_assoc, List.pairwise_append]
  refine ⟨hp.sublist (List.take_sublist _ _), ?_, fun a ha b hb => ?_⟩
  · rw [List.singleton_append]
    exact List.pairwise_cons.2 ⟨hgt, hp.sublist (List.drop_sublist _ _)⟩
  · rw [List.singleton_append] at hb
    rcases List.mem_cons.1 hb with q | q
    · subst q; exact hle a ha
    · have h1 := hle a ha
      exact hw.trans a e b (by omega) (hgt b q)
theorem ins_mem {α : Type} {xs : List α} {e x : α} {k : Nat} : x ∈ xs.take k ++ [e] ++ xs.drop k ↔ x = e ∨ x ∈ xs := by
  constructor
  · intro h
    rw [List.append_assoc, List.mem_append, List.singleton_append, List.mem_cons] at h
    rcases h with h | h | h
    · exact .inr (List.mem_of_mem_take h)
    · exact .inl h
    · exact .inr (List.mem_of_mem_drop h)
  · intro h
    rw [List.append_assoc, List.mem_append, List.singleton_append, List.mem_cons]
    rcases h with h | h
    · exact .inr (.inl h)
    · rw [← List.take_append_drop k xs, List.mem_append] at h
      rcases h with h | h
      · exact .inl h
      · exact .inr (.inr h)
theorem ins_len {α : Type} {xs : List α} {e : α} {k : Nat} (hk : k ≤ xs.length) : (xs.take k ++ [e] ++ xs.drop k).length = xs.length + 1 := by simp; omega


def labB (n : Int) : Bool := decide ((97 ≤ n ∧ n ≤ 122) ∨ (48 ≤ n ∧ n ≤ 57) ∨ n = 43 ∨ n = 45 ∨ n = 42 ∨ n = 47 ∨ n = 61 ∨ n = 40 ∨ n = 41 ∨ n = 46 ∨ n = 44)
def okLabel (s : ByteArray) : Bool := decide (s.size = 1) && labB (bAt s 0)


def cmpE (a b : Edge) : Int := orL [cmpI a.From b.From, cmpI a.To b.To, cmpS a.Label b.Label]
theorem cmpE_eq (a b : Edge) : cmpE a b = if cmpI a.From b.From = 0 then (if cmpI a.To b.To = 0 then cmpS a.Label b.Label else cmpI a.To b.To) else cmpI a.From b.From := by
  unfold cmpE orL orL orL orL
  by_cases h1 : cmpI a.From b.From = 0
  · rw [if_pos h1, if_pos h1]
    by_cases h2 : cmpI a.To b.To = 0
    · rw [if_pos h2, if_pos h2]; split
      · rename_i h3; exact h3.symm
      · rfl
    · rw [if_neg h2, if_neg h2]
  · rw [if_neg h1, if_neg h1]
theorem cmpE_w : CmpW cmpE := by
  have h : cmpE = fun x y => if cmpI x.From y.From = 0 then (fun x y : Edge => if cmpI x.To y.To = 0 then (fun x y : Edge => cmpS x.Label y.Label) x y else cmpI x.To y.To) x y else cmpI x.From y.From := funext fun a => funext fun b => cmpE_eq a b
  rw [h]
  exact CmpW.lex (f := Edge.From) cmpI_w (CmpW.lex (f := Edge.To) cmpI_w (cmpS_w.map Edge.Label))
def okEd (l : Lattice) (e : Edge) : Prop := (0 ≤ e.From ∧ e.From < e.To ∧ e.To < l.Nodes) ∧ (0 ≤ e.Cost ∧ e.Cost ≤ 1000000) ∧ okLabel e.Label = true
def okLat (l : Lattice) : Prop := (1 ≤ l.Nodes ∧ l.Nodes ≤ 20) ∧ l.Edges.length ≤ 200 ∧ (∀ i : Nat, i < l.Edges.length → okEd l (at_ l.Edges i)) ∧ l.Edges.Pairwise fun x y => cmpE x y < 0
theorem lab_size {s : ByteArray} (h : okLabel s = true) : s.size = 1 := by simp only [okLabel, Bool.and_eq_true, decide_eq_true_eq] at h; exact h.1


-- spec.l15Ends
theorem l15Ends_ok (l : Lattice) (e : Edge) (he : okEd l e) (hn : l.Nodes ≤ 20) : Con Tryz.prog 44 [.ptr false [I l.Nodes, slEdge false l.Edges], .ptr false [I e.From, I e.To, Sv e.Label, I e.Cost]] true (Bv true) := by
  have h1 := he.1
  have h2 := he.2.1
  refine fn_ok (fn := Tryz.f44) (nt := 40) Tryz.func44 rfl rfl rfl rfl (by simp [taggedL, tagged, tagEdge]) fun B hB => ?_
  refine aw_lens (x := .ptr false [I l.Nodes, slEdge false l.Edges]) 0 rfl (fun len_l => ?_)
  simp [LenOK, LenL, cEdge, fEdge, slEdge] at len_l
  refine aR [] [0, 1] [] [.ptr false [I l.Nodes, slEdge false l.Edges], .ptr false [I e.From, I e.To, Sv e.Label, I e.Cost]] [] [] hB trivial ?_
  refine aR [(4, .dec true), (14, .dec true), (26, .dec true), (33, .call [(true, .any), (true, .any), (true, .any)] true (Bv (inB e.Cost 0 1000000)))] [4] [] [Bv (inB e.Cost 0 1000000)] [] [0 ≤ e.From, e.From < e.To, inR .i64 (l.Nodes - 1), e.To ≤ (l.Nodes - 1), Con Tryz.prog 43 [I e.Cost, I 0, I 1000000] true (Bv (inB e.Cost 0 1000000)) ∧ True] hB ⟨(by omega), (by omega), (inR_i64 (by omega) (by omega)), (by omega), ⟨(l00In_ok e.Cost 0 1000000), trivial⟩, trivial⟩ ?_
  refine aw_ret ?_
  refine ae_ret hB (Bv (inB e.Cost 0 1000000)) (by kernel_rfl) (.inl (by first | rfl | (simp [inB]; omega))) rfl (fun _ => trivial)



-- spec.l01Small
theorem l01Small_ok (c : Int) : Con Tryz.prog 68 [.val (.int .u8 c)] true (Bv (inB c 97 122)) := by
  refine fn_ok (fn := Tryz.f68) (nt := 9) Tryz.func68 rfl rfl rfl rfl (by simp [taggedL, tagged]) fun B hB => ?_
  refine aR [] [0] [] [.val (.int .u8 c)] [] [] hB trivial ?_
  refine aw_seq ?_
  by_cases h1 : 97 ≤ c
  ·refine aw_r [(1, .dec true)] [2] [] [Bv (decide (c ≤ 122))] [] [97 ≤ c] hB ⟨h1, trivial⟩ ?_
   refine ae_then ?_
   refine aw_ret ?_
   refine ae_ret hB (Bv (decide (c ≤ 122))) (by kernel_rfl) (.inl (by first | rfl | (refine congrArg Bv ?_; simp [inB, *]; done) | (refine congrArg Bv ?_; simp [inB, *]; omega) | (refine congrArg Bv ?_; simp_all [inB]; done) | (refine congrArg Bv ?_; simp_all [inB]; omega))) rfl (fun _ => trivial)
  refine aw_r [(1, .dec false)] [2] [] [Bv false] [] [¬ (97 ≤ c)] hB ⟨h1, trivial⟩ ?_
  refine ae_then ?_
  refine aw_ret ?_
  refine ae_ret hB (Bv false) (by kernel_rfl) (.inl (by first | rfl | (refine congrArg Bv ?_; simp [inB, *]; done) | (refine congrArg Bv ?_; simp [inB, *]; omega) | (refine congrArg Bv ?_; simp_all [inB]; done) | (refine congrArg Bv ?_; simp_all [inB]; omega))) rfl (fun _ => trivial)



-- spec.l11Label
theorem l11Label_ok (c : Int) : Con Tryz.prog 66 [.val (.int .u8 c)] true (Bv (labB c)) := by
  refine fn_ok (fn := Tryz.f66) (nt := 24) Tryz.func66 rfl rfl rfl rfl (by simp [taggedL, tagged]) fun B hB => ?_
  refine aR [] [0] [] [.val (.int .u8 c)] [] [] hB trivial ?_
  refine aw_seq ?_
  refine aR [] [0, 3] [] [.val (.int .u8 c), .val (.int .u8 c)] [] [] hB trivial ?_
  refine aw_block ?_
  refine aw_seq ?_
  refine aw_seq ?_
  by_cases h1 : c = 43
  ·refine aw_r [(0, .dec true)] [0, 3, 4] [] [.val (.int .u8 c), .val (.int .u8 c), Bv true] [] [c = 43] hB ⟨h1, trivial⟩ ?_
   refine ae_then ?_
   refine aw_true rfl ?_
   refine aw_skip ?_
   refine ae_then ?_
   refine aw_true rfl ?_
   refine aR [] [2] [] [Bv true] [] [] hB trivial ?_
   refine aw_ret ?_
   refine ae_ret_block (ae_ret_then ?_)
   refine ae_ret hB (Bv true) (by kernel_rfl) (.inl (by first | rfl | (refine congrArg Bv ?_; simp [labB, inB, *]; done) | (refine congrArg Bv ?_; simp [labB, inB, *]; omega) | (refine congrArg Bv ?_; simp_all [labB, inB]; done) | (refine congrArg Bv ?_; simp_all [labB, inB]; omega))) rfl (fun _ => trivial)
  refine aw_r [(0, .dec false)] [0, 3, 4] [] [.val (.int .u8 c), .val (.int .u8 c), Bv false] [] [¬ (c = 43)] hB ⟨h1, trivial⟩ ?_
  refine ae_then ?_
  refine aw_false rfl ?_
  refine aw_seq ?_
  by_cases h2 : c = 45
  ·refine aw_r [(0, .dec true)] [0, 3, 4] [] [.val (.int .u8 c), .val (.int .u8 c), Bv true] [] [c = 45] hB ⟨h2, trivial⟩ ?_
   refine ae_then ?_
   refine aw_true rfl ?_
   refine aw_skip ?_
   refine ae_then ?_
   refine aw_true rfl ?_
   refine aR [] [2] [] [Bv true] [] [] hB trivial ?_
   refine aw_ret ?_
   refine ae_ret_block (ae_ret_then ?_)
   refine ae_ret hB (Bv true) (by kernel_rfl) (.inl (by first | rfl | (refine congrArg Bv ?_; simp [labB, inB, *]; done) | (refine congrArg Bv ?_; simp [labB, inB, *]; omega) | (refine congrArg Bv ?_; simp_all [labB, inB]; done) | (refine congrArg Bv ?_; simp_all [labB, inB]; omega))) rfl (fun _ => trivial)
  refine aw_r [(0, .dec false)] [0, 3, 4] [] [.val (.int .u8 c), .val (.int .u8 c), Bv false] [] [¬ (c = 45)] hB ⟨h2, trivial⟩ ?_
  refine ae_then ?_
  refine aw_false rfl ?_
  refine aw_seq ?_
  by_cases h3 : c = 42
  ·refine aw_r [(0, .dec true)] [0, 3, 4] [] [.val (.int .u8 c), .val (.int .u8 c), Bv true] [] [c = 42] hB ⟨h3, trivial⟩ ?_
   refine ae_then ?_
   refine aw_true rfl ?_
   refine aw_skip ?_
   refine ae_then ?_
   refine aw_true rfl ?_
   refine aR [] [2] [] [Bv true] [] [] hB trivial ?_
   refine aw_ret ?_
   refine ae_ret_block (ae_ret_then ?_)
   refine ae_ret hB (Bv true) (by kernel_rfl) (.inl (by first | rfl | (refine congrArg Bv ?_; simp [labB, inB, *]; done) | (refine congrArg Bv ?_; simp [labB, inB, *]; omega) | (refine congrArg Bv ?_; simp_all [labB, inB]; done) | (refine congrArg Bv ?_; simp_all [labB, inB]; omega))) rfl (fun _ => trivial)
  refine aw_r [(0, .dec false)] [0, 3, 4] [] [.val (.int .u8 c), .val (.int .u8 c), Bv false] [] [¬ (c = 42)] hB ⟨h3, trivial⟩ ?_
  refine ae_then ?_
  refine aw_false rfl ?_
  refine aw_seq ?_
  by_cases h4 : c = 47
  ·refine aw_r [(0, .dec true)] [0, 3, 4] [] [.val (.int .u8 c), .val (.int .u8 c), Bv true] [] [c = 47] hB ⟨h4, trivial⟩ ?_
   refine ae_then ?_
   refine aw_true rfl ?_
   refine aw_skip ?_
   refine ae_then ?_
   refine aw_true rfl ?_
   refine aR [] [2] [] [Bv true] [] [] hB trivial ?_
   refine aw_ret ?_
   refine ae_ret_block (ae_ret_then ?_)
   refine ae_ret hB (Bv true) (by kernel_rfl) (.inl (by first | rfl | (refine congrArg Bv ?_; simp [labB, inB, *]; done) | (refine congrArg Bv ?_; simp [labB, inB, *]; omega) | (refine congrArg Bv ?_; simp_all [labB, inB]; done) | (refine congrArg Bv ?_; simp_all [labB, inB]; omega))) rfl (fun _ => trivial)
  refine aw_r [(0, .dec false)] [0, 3, 4] [] [.val (.int .u8 c), .val (.int .u8 c), Bv false] [] [¬ (c = 47)] hB ⟨h4, trivial⟩ ?_
  refine ae_then ?_
  refine aw_false rfl ?_
  refine aw_seq ?_
  by_cases h5 : c = 61
  ·refine aw_r [(0, .dec true)] [0, 3, 4] [] [.val (.int .u8 c), .val (.int .u8 c), Bv true] [] [c = 61] hB ⟨h5, trivial⟩ ?_
   refine ae_then ?_
   refine aw_true rfl ?_
   refine aw_skip ?_
   refine ae_then ?_
   refine aw_true rfl ?_
   refine aR [] [2] [] [Bv true] [] [] hB trivial ?_
   refine aw_ret ?_
   refine ae_ret_block (ae_ret_then ?_)
   refine ae_ret hB (Bv true) (by kernel_rfl) (.inl (by first | rfl | (refine congrArg Bv ?_; simp [labB, inB, *]; done) | (refine congrArg Bv ?_; simp [labB, inB, *]; omega) | (refine congrArg Bv ?_; simp_all [labB, inB]; done) | (refine congrArg Bv ?_; simp_all [labB, inB]; omega))) rfl (fun _ => trivial)
  refine aw_r [(0, .dec false)] [0, 3, 4] [] [.val (.int .u8 c), .val (.int .u8 c), Bv false] [] [¬ (c = 61)] hB ⟨h5, trivial⟩ ?_
  refine ae_then ?_
  refine aw_false rfl ?_
  refine aw_seq ?_
  by_cases h6 : c = 40
  ·refine aw_r [(0, .dec true)] [0, 3, 4] [] [.val (.int .u8 c), .val (.int .u8 c), Bv true] [] [c = 40] hB ⟨h6, trivial⟩ ?_
   refine ae_then ?_
   refine aw_true rfl ?_
   refine aw_skip ?_
   refine ae_then ?_
   refine aw_true rfl ?_
   refine aR [] [2] [] [Bv true] [] [] hB trivial ?_
   refine aw_ret ?_
   refine ae_ret_block (ae_ret_then ?_)
   refine ae_ret hB (Bv true) (by kernel_rfl) (.inl (by first | rfl | (refine congrArg Bv ?_; simp [labB, inB, *]; done) | (refine congrArg Bv ?_; simp [labB, inB, *]; omega) | (refine congrArg Bv ?_; simp_all [labB, inB]; done) | (refine congrArg Bv ?_; simp_all [labB, inB]; omega))) rfl (fun _ => trivial)
  refine aw_r [(0, .dec false)] [0, 3, 4] [] [.val (.int .u8 c), .val (.int .u8 c), Bv false] [] [¬ (c = 40)] hB ⟨h6, trivial⟩ ?_
  refine ae_then ?_
  refine aw_false rfl ?_
  refine aw_seq ?_
  by_cases h7 : c = 41
  ·refine aw_r [(0, .dec true)] [0, 3, 4] [] [.val (.int .u8 c), .val (.int .u8 c), Bv true] [] [c = 41] hB ⟨h7, trivial⟩ ?_
   refine ae_then ?_
   refine aw_true rfl ?_
   refine aw_skip ?_
   refine ae_then ?_
   refine aw_true rfl ?_
   refine aR [] [2] [] [Bv true] [] [] hB trivial ?_
   refine aw_ret ?_
   refine ae_ret_block (ae_ret_then ?_)
   refine ae_ret hB (Bv true) (by kernel_rfl) (.inl (by first | rfl | (refine congrArg Bv ?_; simp [labB, inB, *]; done) | (refine congrArg Bv ?_; simp [labB, inB, *]; omega) | (refine congrArg Bv ?_; simp_all [labB, inB]; done) | (refine congrArg Bv ?_; simp_all [labB, inB]; omega))) rfl (fun _ => trivial)
  refine aw_r [(0, .dec false)] [0, 3, 4] [] [.val (.int .u8 c), .val (.int .u8 c), Bv false] [] [¬ (c = 41)] hB ⟨h7, trivial⟩ ?_
  refine ae_then ?_
  refine aw_false rfl ?_
  refine aw_seq ?_
  by_cases h8 : c = 46
  ·refine aw_r [(0, .dec true)] [0, 3, 4] [] [.val (.int .u8 c), .val (.int .u8 c), Bv true] [] [c = 46] hB ⟨h8, trivial⟩ ?_
   refine ae_then ?_
   refine aw_true rfl ?_
   refine aw_skip ?_
   refine ae_then ?_
   refine aw_true rfl ?_
   refine aR [] [2] [] [Bv true] [] [] hB trivial ?_
   refine aw_ret ?_
   refine ae_ret_block (ae_ret_then ?_)
   refine ae_ret hB (Bv true) (by kernel_rfl) (.inl (by first | rfl | (refine congrArg Bv ?_; simp [labB, inB, *]; done) | (refine congrArg Bv ?_; simp [labB, inB, *]; omega) | (refine congrArg Bv ?_; simp_all [labB, inB]; done) | (refine congrArg Bv ?_; simp_all [labB, inB]; omega))) rfl (fun _ => trivial)
  refine aw_r [(0, .dec false)] [0, 3, 4] [] [.val (.int .u8 c), .val (.int .u8 c), Bv false] [] [¬ (c = 46)] hB ⟨h8, trivial⟩ ?_
  refine ae_then ?_
  refine aw_false rfl ?_
  by_cases h9 : c = 44
  ·refine aw_r [(0, .dec true)] [0, 4] [] [.val (.int .u8 c), Bv true] [] [c = 44] hB ⟨h9, trivial⟩ ?_
   refine ae_then ?_
   refine aw_true rfl ?_
   refine aR [] [2] [] [Bv true] [] [] hB trivial ?_
   refine aw_ret ?_
   refine ae_ret_block (ae_ret_then ?_)
   refine ae_ret hB (Bv true) (by kernel_rfl) (.inl (by first | rfl | (refine congrArg Bv ?_; simp [labB, inB, *]; done) | (refine congrArg Bv ?_; simp [labB, inB, *]; omega) | (refine congrArg Bv ?_; simp_all [labB, inB]; done) | (refine congrArg Bv ?_; simp_all [labB, inB]; omega))) rfl (fun _ => trivial)
  refine aw_r [(0, .dec false)] [0, 4] [] [.val (.int .u8 c), Bv false] [] [¬ (c = 44)] hB ⟨h9, trivial⟩ ?_
  refine ae_then ?_
  refine aw_false rfl ?_
  refine aw_skip ?_
  refine ae_block 0 ?_
  refine ae_then ?_
  refine aw_seq ?_
  rcases Bool.eq_false_or_eq_true (inB c 97 122) with h10 | h10
  ·refine aw_r [(1, .call [(true, .any)] true (Bv true))] [2] [] [Bv true] [] [Con Tryz.prog 68 [.val (.int .u8 c)] true (Bv true) ∧ True] hB ⟨⟨(con_bool h10 (l01Small_ok c)), trivial⟩, trivial⟩ ?_
   refine ae_then ?_
   refine aw_ret ?_
   refine ae_ret hB (Bv true) (by kernel_rfl) (.inl (by first | rfl | (refine congrArg Bv ?_; simp [labB, inB, *]; done) | (refine congrArg Bv ?_; simp [labB, inB, *]; omega) | (refine congrArg Bv ?_; simp_all [labB, inB]; done) | (refine congrArg Bv ?_; simp_all [labB, inB]; omega))) rfl (fun _ => trivial)
  by_cases h11 : 48 ≤ c
  ·refine aw_r [(1, .call [(true, .any)] true (Bv false)), (4, .dec true)] [2] [] [Bv (decide (c ≤ 57))] [] [Con Tryz.prog 68 [.val (.int .u8 c)] true (Bv false) ∧ True, 48 ≤ c] hB ⟨⟨(con_bool h10 (l01Small_ok c)), trivial⟩, h11, trivial⟩ ?_
   refine ae_then ?_
   refine aw_ret ?_
   refine ae_ret hB (Bv (decide (c ≤ 57))) (by kernel_rfl) (.inl (by first | rfl | (refine congrArg Bv ?_; simp [labB, inB, *]; done) | (refine congrArg Bv ?_; simp [labB, inB, *]; omega) | (refine congrArg Bv ?_; simp_all [labB, inB]; done) | (refine congrArg Bv ?_; simp_all [labB, inB]; omega))) rfl (fun _ => trivial)
  refine aw_r [(1, .call [(true, .any)] true (Bv false)), (4, .dec false)] [2] [] [Bv false] [] [Con Tryz.prog 68 [.val (.int .u8 c)] true (Bv false) ∧ True, ¬ (48 ≤ c)] hB ⟨⟨(con_bool h10 (l01Small_ok c)), trivial⟩, h11, trivial⟩ ?_
  refine ae_then ?_
  refine aw_ret ?_
  refine ae_ret hB (Bv false) (by kernel_rfl) (.inl (by first | rfl | (refine congrArg Bv ?_; simp [labB, inB, *]; done) | (refine congrArg Bv ?_; simp [labB, inB, *]; omega) | (refine congrArg Bv ?_; simp_all [labB, inB]; done) | (refine congrArg Bv ?_; simp_all [labB, inB]; omega))) rfl (fun _ => trivial)



-- spec.IsLabel
theorem specIsLabel_ok (s : ByteArray) (ok : s.size ≤ 9223372036854775807) : Con Tryz.prog 45 [Sv s] true (Bv (okLabel s)) := by
  refine fn_ok (fn := Tryz.f45) (nt := 11) Tryz.func45 rfl rfl rfl rfl (by simp [taggedL, tagged]) fun B hB => ?_
  refine aR [] [0] [] [Sv s] [] [] hB trivial ?_
  refine aw_seq ?_
  by_cases h1 : (s.size : Int) = 1
  ·refine aw_r [(2, .dec true), (6, .call [(true, .any)] true (Bv (labB (bAt s 0))))] [2] [] [Bv (labB (bAt s 0))] [] [(s.size : Int) = 1, (0 : Int) ≤ 0 ∧ 0 < (s.size : Int), Con Tryz.prog 66 [.val (.int .u8 (bAt s 0))] true (Bv (labB (bAt s 0))) ∧ True] hB ⟨h1, ⟨(by omega), (by omega)⟩, ⟨(l11Label_ok (bAt s 0)), trivial⟩, trivial⟩ ?_
   refine ae_then ?_
   refine aw_ret ?_
   refine ae_ret hB (Bv (labB (bAt s 0))) (by kernel_rfl) (.inl (by first | rfl | (refine congrArg Bv ?_; simp [okLabel, *]; done) | (refine congrArg Bv ?_; simp [okLabel, *]; omega) | (refine congrArg Bv ?_; simp_all [okLabel]; done) | (refine congrArg Bv ?_; simp_all [okLabel]; omega))) rfl (fun _ => trivial)
  refine aw_r [(2, .dec false)] [2] [] [Bv false] [] [¬ ((s.size : Int) = 1)] hB ⟨h1, trivial⟩ ?_
  refine ae_then ?_
  refine aw_ret ?_
  refine ae_ret hB (Bv false) (by kernel_rfl) (.inl (by first | rfl | (refine congrArg Bv ?_; simp [okLabel, *]; done) | (refine congrArg Bv ?_; simp [okLabel, *]; omega) | (refine congrArg Bv ?_; simp_all [okLabel]; done) | (refine congrArg Bv ?_; simp_all [okLabel]; omega))) rfl (fun _ => trivial)



-- spec.l15Sign
theorem l15Sign_ok (a : Int) (b : Int) : Con Tryz.prog 67 [I a, I b] true (I (cmpI a b)) := by
  refine fn_ok (fn := Tryz.f67) (nt := 13) Tryz.func67 rfl rfl rfl rfl (by simp [taggedL, tagged]) fun B hB => ?_
  refine aR [] [0, 1] [] [I a, I b] [] [] hB trivial ?_
  refine aw_seq ?_
  refine aw_block ?_
  refine aw_seq ?_
  by_cases h1 : a < b
  ·refine aw_r [(2, .dec true)] [0, 1, 5] [] [I a, I b, Bv true] [] [a < b] hB ⟨h1, trivial⟩ ?_
   refine ae_then ?_
   refine aw_true rfl ?_
   refine aR [] [4] [] [I (-1)] [] [] hB trivial ?_
   refine aw_ret ?_
   refine ae_ret_block (ae_ret_then ?_)
   refine ae_ret hB (I (-1)) (by kernel_rfl) (.inl (by refine congrArg I ?_; unfold cmpI; first | (rw [if_pos (by omega)]; done) | (rw [if_neg (by omega), if_pos (by omega)]; done) | (rw [if_neg (by omega), if_neg (by omega)]; done))) rfl (fun _ => trivial)
  refine aw_r [(2, .dec false)] [0, 1, 5] [] [I a, I b, Bv false] [] [¬ (a < b)] hB ⟨h1, trivial⟩ ?_
  refine ae_then ?_
  refine aw_false rfl ?_
  refine aw_seq ?_
  by_cases h2 : b < a
  ·refine aw_r [(2, .dec true)] [9] [] [Bv true] [] [b < a] hB ⟨h2, trivial⟩ ?_
   refine ae_then ?_
   refine aw_true rfl ?_
   refine aR [] [4] [] [I 1] [] [] hB trivial ?_
   refine aw_ret ?_
   refine ae_ret_block (ae_ret_then ?_)
   refine ae_ret hB (I 1) (by kernel_rfl) (.inl (by refine congrArg I ?_; unfold cmpI; first | (rw [if_pos (by omega)]; done) | (rw [if_neg (by omega), if_pos (by omega)]; done) | (rw [if_neg (by omega), if_neg (by omega)]; done))) rfl (fun _ => trivial)
  refine aw_r [(2, .dec false)] [9] [] [Bv false] [] [¬ (b < a)] hB ⟨h2, trivial⟩ ?_
  refine ae_then ?_
  refine aw_false rfl ?_
  refine aw_skip ?_
  refine ae_block 0 ?_
  refine ae_then ?_
  refine aR [] [4] [] [I 0] [] [] hB trivial ?_
  refine aw_ret ?_
  refine ae_ret hB (I 0) (by kernel_rfl) (.inl (by refine congrArg I ?_; unfold cmpI; first | (rw [if_pos (by omega)]; done) | (rw [if_neg (by omega), if_pos (by omega)]; done) | (rw [if_neg (by omega), if_neg (by omega)]; done))) rfl (fun _ => trivial)



-- spec.l15Order
theorem l15Order_ok (a : Edge) (b : Edge) : Con Tryz.prog 46 [.ptr false [I a.From, I a.To, Sv a.Label, I a.Cost], .ptr false [I b.From, I b.To, Sv b.Label, I b.Cost]] true (I (cmpE a b)) := by
  refine fn_ok (fn := Tryz.f46) (nt := 61) Tryz.func46 rfl rfl rfl rfl (by simp [taggedL, tagged]) fun B hB => ?_
  refine aR [] [0, 1] [] [.ptr false [I a.From, I a.To, Sv a.Label, I a.Cost], .ptr false [I b.From, I b.To, Sv b.Label, I b.Cost]] [] [] hB trivial ?_
  refine aw_seq ?_
  refine aw_seq ?_
  by_cases h1 : a.From = b.From
  ·refine aw_r [(8, .dec false)] [0, 1, 13] [] [.ptr false [I a.From, I a.To, Sv a.Label, I a.Cost], .ptr false [I b.From, I b.To, Sv b.Label, I b.Cost], Bv false] [] [¬ (a.From ≠ b.From)] hB ⟨(fun hq => hq h1), trivial⟩ ?_
   refine ae_then ?_
   refine aw_false rfl ?_
   refine aw_skip ?_
   refine ae_then ?_
   refine aw_seq ?_
   refine aw_seq ?_
   by_cases h2 : a.To = b.To
   ·refine aw_r [(8, .dec false)] [0, 1, 31] [] [.ptr false [I a.From, I a.To, Sv a.Label, I a.Cost], .ptr false [I b.From, I b.To, Sv b.Label, I b.Cost], Bv false] [] [¬ (a.To ≠ b.To)] hB ⟨(fun hq => hq h2), trivial⟩ ?_
    refine ae_then ?_
    refine aw_false rfl ?_
    refine aw_skip ?_
    refine ae_then ?_
    refine aw_seq ?_
    refine aw_block ?_
    refine aw_seq ?_
    by_cases h3 : sless a.Label b.Label = true
    ·refine aw_r [(8, .dec true)] [0, 1, 41] [] [.ptr false [I a.From, I a.To, Sv a.Label, I a.Cost], .ptr false [I b.From, I b.To, Sv b.Label, I b.Cost], Bv true] [] [sless a.Label b.Label = true] hB ⟨h3, trivial⟩ ?_
     refine ae_then ?_
     refine aw_true rfl ?_
     refine aR [] [4] [] [I (-1)] [] [] hB trivial ?_
     refine aw_ret ?_
     refine ae_ret_block (ae_ret_then ?_)
     refine ae_ret hB (I (-1)) (by kernel_rfl) (.inl (by refine congrArg I ?_; rw [cmpE_eq]; simp only [cmpI_zero, *]; first | rfl | (simp; done) | (unfold cmpS; simp [*]; done) | (have hq : a.Label = b.Label := by (by_cases q : a.Label = b.Label; (exact q); (simp_all))); (simp [cmpS_zero.2 hq]))) rfl (fun _ => trivial)
    refine aw_r [(8, .dec false)] [0, 1, 41] [] [.ptr false [I a.From, I a.To, Sv a.Label, I a.Cost], .ptr false [I b.From, I b.To, Sv b.Label, I b.Cost], Bv false] [] [¬ (sless a.Label b.Label = true)] hB ⟨h3, trivial⟩ ?_
    refine ae_then ?_
    refine aw_false rfl ?_
    refine aw_seq ?_
    by_cases h4 : sless a.Label b.Label = false ∧ a.Label ≠ b.Label
    ·refine aw_r [(8, .dec true)] [51] [] [Bv true] [] [sless a.Label b.Label = false ∧ a.Label ≠ b.Label] hB ⟨h4, trivial⟩ ?_
     refine ae_then ?_
     refine aw_true rfl ?_
     refine aR [] [4] [] [I 1] [] [] hB trivial ?_
     refine aw_ret ?_
     refine ae_ret_block (ae_ret_then ?_)
     refine ae_ret hB (I 1) (by kernel_rfl) (.inl (by refine congrArg I ?_; rw [cmpE_eq]; simp only [cmpI_zero, *]; first | rfl | (simp; done) | (unfold cmpS; simp [*]; done) | (have hq : a.Label = b.Label := by (by_cases q : a.Label = b.Label; (exact q); (simp_all))); (simp [cmpS_zero.2 hq]))) rfl (fun _ => trivial)
    refine aw_r [(8, .dec false)] [51] [] [Bv false] [] [¬ (sless a.Label b.Label = false ∧ a.Label ≠ b.Label)] hB ⟨h4, trivial⟩ ?_
    refine ae_then ?_
    refine aw_false rfl ?_
    refine aw_skip ?_
    refine ae_block 0 ?_
    refine ae_then ?_
    refine aR [] [4] [] [I 0] [] [] hB trivial ?_
    refine aw_ret ?_
    refine ae_ret hB (I 0) (by kernel_rfl) (.inl (by refine congrArg I ?_; rw [cmpE_eq]; simp only [cmpI_zero, *]; first | rfl | (simp; done) | (unfold cmpS; simp [*]; done) | (have hq : a.Label = b.Label := by (by_cases q : a.Label = b.Label; (exact q); (simp_all))); (simp [cmpS_zero.2 hq]))) rfl (fun _ => trivial)
   refine aw_r [(8, .dec true)] [0, 1, 31] [] [.ptr false [I a.From, I a.To, Sv a.Label, I a.Cost], .ptr false [I b.From, I b.To, Sv b.Label, I b.Cost], Bv true] [] [a.To ≠ b.To] hB ⟨h2, trivial⟩ ?_
   refine ae_then ?_
   refine aw_true rfl ?_
   refine aR [(8, .call [(true, .any), (true, .any)] true (I (cmpI a.To b.To)))] [4] [] [I (cmpI a.To b.To)] [] [Con Tryz.prog 67 [I a.To, I b.To] true (I (cmpI a.To b.To)) ∧ True] hB ⟨⟨(l15Sign_ok a.To b.To), trivial⟩, trivial⟩ ?_
   refine aw_ret ?_
   refine ae_ret_then ?_
   refine ae_ret hB (I (cmpI a.To b.To)) (by kernel_rfl) (.inl (by refine congrArg I ?_; rw [cmpE_eq]; simp only [cmpI_zero, *]; first | rfl | (simp; done) | (unfold cmpS; simp [*]; done) | (have hq : a.Label = b.Label := by (by_cases q : a.Label = b.Label; (exact q); (simp_all))); (simp [cmpS_zero.2 hq]))) rfl (fun _ => trivial)
  refine aw_r [(8, .dec true)] [0, 1, 13] [] [.ptr false [I a.From, I a.To, Sv a.Label, I a.Cost], .ptr false [I b.From, I b.To, Sv b.Label, I b.Cost], Bv true] [] [a.From ≠ b.From] hB ⟨h1, trivial⟩ ?_
  refine ae_then ?_
  refine aw_true rfl ?_
  refine aR [(8, .call [(true, .any), (true, .any)] true (I (cmpI a.From b.From)))] [4] [] [I (cmpI a.From b.From)] [] [Con Tryz.prog 67 [I a.From, I b.From] true (I (cmpI a.From b.From)) ∧ True] hB ⟨⟨(l15Sign_ok a.From b.From), trivial⟩, trivial⟩ ?_
  refine aw_ret ?_
  refine ae_ret_then ?_
  refine ae_ret hB (I (cmpI a.From b.From)) (by kernel_rfl) (.inl (by refine congrArg I ?_; rw [cmpE_eq]; simp only [cmpI_zero, *]; first | rfl | (simp; done) | (unfold cmpS; simp [*]; done) | (have hq : a.Label = b.Label := by (by_cases q : a.Label = b.Label; (exact q); (simp_all))); (simp [cmpS_zero.2 hq]))) rfl (fun _ => trivial)



-- spec.l15Ok
theorem l15Ok_ok (l : Lattice) (hl : okLat l) : Con Tryz.prog 22 [.ptr false [I l.Nodes, slEdge false l.Edges]] true (Bv true) := by
  have hn := hl.1
  have hc := hl.2.1
  refine fn_ok (fn := Tryz.f22) (nt := 69) Tryz.func22 rfl rfl rfl rfl (by simp [taggedL, tagged, tagEdge]) fun B hB => ?_
  refine aw_lens (x := .ptr false [I l.Nodes, slEdge false l.Edges]) 0 rfl (fun len_l => ?_)
  simp [LenOK, LenL, cEdge, fEdge, slEdge] at len_l
  refine aR [] [0] [] [.ptr false [I l.Nodes, slEdge false l.Edges]] [] [] hB trivial ?_
  refine aw_seq ?_
  refine aR [(4, .call [(true, .any), (true, .any), (true, .any)] true (Bv true)), (12, .dec false)] [0, 17] [] [.ptr false [I l.Nodes, slEdge false l.Edges], Bv false] [] [Con Tryz.prog 43 [I l.Nodes, I 1, I 20] true (Bv true) ∧ True, ¬ (200 < (l.Edges.length : Int))] hB ⟨⟨(con_bool (inB_iff.2 hl.1) (l00In_ok l.Nodes 1 20)), trivial⟩, (by omega), trivial⟩ ?_
  refine aw_false rfl ?_
  refine aw_skip ?_
  refine ae_then ?_
  refine aw_seq ?_
  refine aR [] [0, 3] [] [.ptr false [I l.Nodes, slEdge false l.Edges], I 0] [] [] hB trivial ?_
  refine aw_block ?_
  refine aw_loop (fun gn gσ => ∃ (i : Int), gn = ((l.Edges.length : Int) - i).toNat ∧ (0 ≤ i ∧ i ≤ (l.Edges.length : Int)) ∧ gσ = mkS [(0, .ptr false [I l.Nodes, slEdge false l.Edges]), (3, I i)] []) (((l.Edges.length : Int) - 0).toNat) ⟨0, rfl, (by omega), rfl⟩ (fun gn gσ hI => ?_)
  obtain ⟨i, rfl, hi0, rfl⟩ := hI
  refine aw_seq ?_
  refine aw_seq ?_
  by_cases h1 : i < (l.Edges.length : Int)
  ·have hi : i.toNat < l.Edges.length := by omega
   have hed := hl.2.2.1 _ hi
   refine aw_r [(6, .dec true)] [0, 3, 24] [] [.ptr false [I l.Nodes, slEdge false l.Edges], I i, Bv true] [] [i < (l.Edges.length : Int)] hB ⟨h1, trivial⟩ ?_
   refine ae_then ?_
   refine aw_true rfl ?_
   refine aw_skip ?_
   refine ae_then ?_
   refine aw_seq ?_
   refine aw_block ?_
   refine aw_seq ?_
   by_cases h2 : 0 < i
   ·have hpr := pw_get hl.2.2.2 (show (i - 1).toNat < i.toNat by omega) hi
    refine aw_r [(7, .call [(true, .any), (true, .any)] true (Bv true)), (18, .call [(true, .any)] true (Bv true)), (23, .dec true), (38, .call [(true, .any), (true, .any)] true (I (cmpE (at_ l.Edges ((i - 1).toNat)) (at_ l.Edges i.toNat)))), (39, .dec false)] [0, 3, 68] [] [.ptr false [I l.Nodes, slEdge false l.Edges], I i, Bv false] [] [(0 : Int) ≤ i ∧ i < (l.Edges.length : Int), Con Tryz.prog 44 [.ptr false [I l.Nodes, slEdge false l.Edges], .ptr false [I ((at_ l.Edges i.toNat).From), I ((at_ l.Edges i.toNat).To), Sv ((at_ l.Edges i.toNat).Label), I ((at_ l.Edges i.toNat).Cost)]] true (Bv true) ∧ True, (0 : Int) ≤ i ∧ i < (l.Edges.length : Int), Con Tryz.prog 45 [Sv ((at_ l.Edges i.toNat).Label)] true (Bv true) ∧ True, 0 < i, inR .i64 (i - 1), (0 : Int) ≤ (i - 1) ∧ (i - 1) < (l.Edges.length : Int), (0 : Int) ≤ i ∧ i < (l.Edges.length : Int), Con Tryz.prog 46 [.ptr false [I ((at_ l.Edges ((i - 1).toNat)).From), I ((at_ l.Edges ((i - 1).toNat)).To), Sv ((at_ l.Edges ((i - 1).toNat)).Label), I ((at_ l.Edges ((i - 1).toNat)).Cost)], .ptr false [I ((at_ l.Edges i.toNat).From), I ((at_ l.Edges i.toNat).To), Sv ((at_ l.Edges i.toNat).Label), I ((at_ l.Edges i.toNat).Cost)]] true (I (cmpE (at_ l.Edges ((i - 1).toNat)) (at_ l.Edges i.toNat))) ∧ True, ¬ (0 ≤ (cmpE (at_ l.Edges ((i - 1).toNat)) (at_ l.Edges i.toNat)))] hB ⟨⟨(by omega), (by omega)⟩, ⟨(l15Ends_ok l (at_ l.Edges i.toNat) hed (by omega)), trivial⟩, ⟨(by omega), (by omega)⟩, ⟨(con_bool hed.2.2 (specIsLabel_ok ((at_ l.Edges i.toNat).Label) (by have := lab_size hed.2.2; omega))), trivial⟩, h2, (inR_i64 (by omega) (by omega)), ⟨(by omega), (by omega)⟩, ⟨(by omega), (by omega)⟩, ⟨(l15Order_ok (at_ l.Edges ((i - 1).toNat)) (at_ l.Edges i.toNat)), trivial⟩, (by omega), trivial⟩ ?_
    refine ae_then ?_
    refine aw_false rfl ?_
    refine aw_skip ?_
    refine ae_block 1 ?_
    refine ae_then ?_
    refine aw_r [] [0, 3] [] [.ptr false [I l.Nodes, slEdge false l.Edges], I (i + 1)] [] [inR .i64 (i + 1)] hB ⟨(inR_i64 (by omega) (by omega)), trivial⟩ ?_
    exact ae_again _ (by omega) ⟨(i + 1), rfl, (by omega), rfl⟩
   refine aw_r [(7, .call [(true, .any), (true, .any)] true (Bv true)), (18, .call [(true, .any)] true (Bv true)), (23, .dec false)] [0, 3, 68] [] [.ptr false [I l.Nodes, slEdge false l.Edges], I i, Bv false] [] [(0 : Int) ≤ i ∧ i < (l.Edges.length : Int), Con Tryz.prog 44 [.ptr false [I l.Nodes, slEdge false l.Edges], .ptr false [I ((at_ l.Edges i.toNat).From), I ((at_ l.Edges i.toNat).To), Sv ((at_ l.Edges i.toNat).Label), I ((at_ l.Edges i.toNat).Cost)]] true (Bv true) ∧ True, (0 : Int) ≤ i ∧ i < (l.Edges.length : Int), Con Tryz.prog 45 [Sv ((at_ l.Edges i.toNat).Label)] true (Bv true) ∧ True, ¬ (0 < i)] hB ⟨⟨(by omega), (by omega)⟩, ⟨(l15Ends_ok l (at_ l.Edges i.toNat) hed (by omega)), trivial⟩, ⟨(by omega), (by omega)⟩, ⟨(con_bool hed.2.2 (specIsLabel_ok ((at_ l.Edges i.toNat).Label) (by have := lab_size hed.2.2; omega))), trivial⟩, h2, trivial⟩ ?_
   refine ae_then ?_
   refine aw_false rfl ?_
   refine aw_skip ?_
   refine ae_block 1 ?_
   refine ae_then ?_
   refine aw_r [] [0, 3] [] [.ptr false [I l.Nodes, slEdge false l.Edges], I (i + 1)] [] [inR .i64 (i + 1)] hB ⟨(inR_i64 (by omega) (by omega)), trivial⟩ ?_
   exact ae_again _ (by omega) ⟨(i + 1), rfl, (by omega), rfl⟩
  refine aw_r [(6, .dec false)] [0, 3, 24] [] [.ptr false [I l.Nodes, slEdge false l.Edges], I i, Bv false] [] [¬ (i < (l.Edges.length : Int))] hB ⟨h1, trivial⟩ ?_
  refine ae_then ?_
  refine aw_false rfl ?_
  refine aw_exit ?_
  refine ae_exit_then ?_
  refine ae_exit_then ?_
  refine ae_exit_same ?_
  refine ae_then ?_
  refine aR [] [2] [] [Bv true] [] [] hB trivial ?_
  refine aw_ret ?_
  refine ae_ret hB (Bv true) (by kernel_rfl) (.inl rfl) rfl (fun _ => trivial)



theorem okLat_put {l : Lattice} {e : Edge} {v : List Edge} (h : okLat l) (he : okEd l e) (hl : v.length = l.Edges.length + 1) (h2 : l.Edges.length < 200) (hm : ∀ x ∈ v, x = e ∨ x ∈ l.Edges) (hp : v.Pairwise fun x y => cmpE x y < 0) : okLat ⟨l.Nodes, v⟩ := by
  refine ⟨h.1, by show v.length ≤ 200; omega, fun i hi => ?_, hp⟩
  rcases hm _ (at_mem hi) with q | q
  · show okEd _ (at_ v i); rw [q]; exact he
  · obtain ⟨j, hj, e2⟩ := List.getElem_of_mem q
    have := h.2.2.1 j hj
    rw [at_eq hj, e2] at this
    exact this
theorem okLat_nil {n : Int} (h : 1 ≤ n ∧ n ≤ 20) : okLat ⟨n, []⟩ := ⟨h, Nat.zero_le _, fun i hi => absurd hi (Nat.not_lt_zero _), List.Pairwise.nil⟩


-- spec.l15Put
theorem l15Put_ok (list : List Edge) (e : Edge) (hp : list.Pairwise fun x_ y_ => cmpE x_ y_ < 0) (hne : ∀ x ∈ list, cmpE x e ≠ 0) (hll : list.length ≤ 1000) : ∃ (v : List Edge), (v.length = list.length + 1) ∧ (∀ x ∈ v, x = e ∨ x ∈ list) ∧ (v.Pairwise fun x_ y_ => cmpE x_ y_ < 0) ∧ Con Tryz.prog 57 [slEdge false list, agEdge e] true (slEdge true v) := by
  have hh : ∃ r : (List Edge), ((r.length = list.length + 1) ∧ (∀ x ∈ r, x = e ∨ x ∈ list) ∧ (r.Pairwise fun x_ y_ => cmpE x_ y_ < 0) ∧ (True)) ∧ CallOK Tryz.prog 57 [slEdge false list, agEdge e] (lookO []) true (slEdge true r) (lookO []) := by
    refine fn_okX (Φ := fun r : (List Edge) => (r.length = list.length + 1) ∧ (∀ x ∈ r, x = e ∨ x ∈ list) ∧ (r.Pairwise fun x_ y_ => cmpE x_ y_ < 0) ∧ (True)) [] (fun r => []) (fn := Tryz.f57) (nt := 35) Tryz.func57 rfl rfl (args := [slEdge false list, agEdge e]) rfl (allcons (.inl ⟨rfl, tagEdge false _⟩) (allcons (.inl ⟨rfl, by simp [tagged, taggedL]⟩) allnil)) (res := fun r => slEdge true r) ?_
    refine xR [(0, .new 3)] [0, 3] [3] [slEdge false list, .ref 3 0] [some (bxEdge e)] [] trivial ?_
    refine xR [] [0, 3, 5] [3] [slEdge false list, .ref 3 0, I (list.length : Int)] [some (bxEdge e)] [] trivial ?_
    refine x_seq ?_
    refine x_block ?_
    refine x_loop (X := Int) (fun x => mkS [(0, slEdge false list), (3, .ref 3 0), (5, I x)] [(3, bxEdge e)]) (fun x => (0 ≤ x ∧ x ≤ (list.length : Int)) ∧ (∀ j : Nat, x ≤ (j : Int) → j < list.length → 0 < cmpE (at_ list j) e) ∧ True) (fun x => x.toNat) (list.length : Int) rfl (show (0 ≤ (list.length : Int) ∧ (list.length : Int) ≤ (list.length : Int)) ∧ (∀ j : Nat, (list.length : Int) ≤ (j : Int) → j < list.length → 0 < cmpE (at_ list j) e) ∧ True from ⟨(by omega), (by intro j h1 h2; omega), trivial⟩) (fun x hI => ?_)
    obtain ⟨k, hxx⟩ : ∃ k : Int, k = x := ⟨x, rfl⟩
    subst hxx
    obtain ⟨hk0, hhi, _⟩ : (0 ≤ k ∧ k ≤ (list.length : Int)) ∧ (∀ j : Nat, k ≤ (j : Int) → j < list.length → 0 < cmpE (at_ list j) e) ∧ True := hI
    show XW _ _ _ _ (mkS [(0, slEdge false list), (3, .ref 3 0), (5, I k)] [(3, bxEdge e)]) _ _
    refine x_seq ?_
    refine x_seq ?_
    by_cases h1 : 0 < k
    ·have hkl : (k - 1).toNat < list.length := by omega
     by_cases h2 : 0 < (cmpE (at_ list ((k - 1).toNat)) e)
     ·have hgn : ∀ j : Nat, k - 1 ≤ (j : Int) → j < list.length → 0 < cmpE (at_ list j) e := fun j q1 q2 => by by_cases q : (j : Int) = k - 1; (rw [show j = (k - 1).toNat from by omega]; exact h2); (exact hhi j (by omega) q2)
      refine x_r [(1, .dec true), (7, .call [(true, .any), (false, .ptr false [I e.From, I e.To, Sv e.Label, I e.Cost])] true (I (cmpE (at_ list ((k - 1).toNat)) e))), (8, .dec true)] [0, 3, 5, 18] [3] [slEdge false list, .ref 3 0, I k, Bv true] [some (bxEdge e)] [0 < k, inR .i64 (k - 1), (0 : Int) ≤ (k - 1) ∧ (k - 1) < (list.length : Int), Con Tryz.prog 46 [.ptr false [I ((at_ list ((k - 1).toNat)).From), I ((at_ list ((k - 1).toNat)).To), Sv ((at_ list ((k - 1).toNat)).Label), I ((at_ list ((k - 1).toNat)).Cost)], .ptr false [I e.From, I e.To, Sv e.Label, I e.Cost]] true (I (cmpE (at_ list ((k - 1).toNat)) e)) ∧ ((false = true → true = true) ∧ AV.idsL [I e.From, I e.To, Sv e.Label, I e.Cost] = [] ∧ (valOf (I e.From) = valOf (I e.From)) ∧ (valOf (I e.To) = valOf (I e.To)) ∧ (valOf (Sv e.Label) = valOf (Sv e.Label)) ∧ (valOf (I e.Cost) = valOf (I e.Cost)) ∧ ([] : List AV) = []) ∧ True, 0 < (cmpE (at_ list ((k - 1).toNat)) e)] ⟨h1, (inR_i64 (by omega) (by omega)), ⟨(by omega), (by omega)⟩, ⟨(l15Order_ok (at_ list ((k - 1).toNat)) e), ⟨(fun h => by cases h), rfl, ⟨rfl, ⟨rfl, ⟨rfl, ⟨rfl, rfl⟩⟩⟩⟩⟩, trivial⟩, h2, trivial⟩ ?_
      refine xe_then ?_
      refine x_true rfl ?_
      refine x_skip ?_
      refine xe_then ?_
      refine x_block ?_
      refine x_r [] [0, 3, 5] [3] [slEdge false list, .ref 3 0, I (k - 1)] [some (bxEdge e)] [inR .i64 (k - 1)] ⟨(inR_i64 (by omega) (by omega)), trivial⟩ ?_
      refine xe_block 1 ?_
      exact xe_again (k - 1) rfl (show (0 ≤ (k - 1) ∧ (k - 1) ≤ (list.length : Int)) ∧ (∀ j : Nat, (k - 1) ≤ (j : Int) → j < list.length → 0 < cmpE (at_ list j) e) ∧ True from ⟨(by omega), (by exact hgn), trivial⟩) (by first | (show ((k - 1).toNat : Nat) < k.toNat; omega) | (dsimp only; omega))
     have hlo : k.toNat = 0 ∨ ¬ 0 < cmpE (at_ list (k.toNat - 1)) e := Or.inr (by rw [show k.toNat - 1 = (k - 1).toNat from by omega]; exact h2)
     refine x_r [(1, .dec true), (7, .call [(true, .any), (false, .ptr false [I e.From, I e.To, Sv e.Label, I e.Cost])] true (I (cmpE (at_ list ((k - 1).toNat)) e))), (8, .dec false)] [0, 3, 5, 18] [3] [slEdge false list, .ref 3 0, I k, Bv false] [some (bxEdge e)] [0 < k, inR .i64 (k - 1), (0 : Int) ≤ (k - 1) ∧ (k - 1) < (list.length : Int), Con Tryz.prog 46 [.ptr false [I ((at_ list ((k - 1).toNat)).From), I ((at_ list ((k - 1).toNat)).To), Sv ((at_ list ((k - 1).toNat)).Label), I ((at_ list ((k - 1).toNat)).Cost)], .ptr false [I e.From, I e.To, Sv e.Label, I e.Cost]] true (I (cmpE (at_ list ((k - 1).toNat)) e)) ∧ ((false = true → true = true) ∧ AV.idsL [I e.From, I e.To, Sv e.Label, I e.Cost] = [] ∧ (valOf (I e.From) = valOf (I e.From)) ∧ (valOf (I e.To) = valOf (I e.To)) ∧ (valOf (Sv e.Label) = valOf (Sv e.Label)) ∧ (valOf (I e.Cost) = valOf (I e.Cost)) ∧ ([] : List AV) = []) ∧ True, ¬ (0 < (cmpE (at_ list ((k - 1).toNat)) e))] ⟨h1, (inR_i64 (by omega) (by omega)), ⟨(by omega), (by omega)⟩, ⟨(l15Order_ok (at_ list ((k - 1).toNat)) e), ⟨(fun h => by cases h), rfl, ⟨rfl, ⟨rfl, ⟨rfl, ⟨rfl, rfl⟩⟩⟩⟩⟩, trivial⟩, h2, trivial⟩ ?_
     refine xe_then ?_
     refine x_false rfl ?_
     refine x_exit ?_
     refine xe_exit_then ?_
     refine xe_loop_exit ?_
     refine xe_exit_same ?_
     refine xe_then ?_
     refine xR [(0, .new 21), (4, .new 25)] [0, 3, 5, 6] [3, 25] [slEdge false list, .ref 3 0, I k, .arr 25] [some (bxEdge e), some (.arr 4 (0 + (k.toNat - 0)) (catF 0 (litF [] 4) (cutF 0 (fEdge list))))] [(0 : Int) ≤ 0 ∧ (0 : Int) ≤ k ∧ k ≤ (list.length : Int), (0 + (k.toNat - 0)) * 40 ≤ 140737488355328] ⟨⟨(by omega), (by omega), (by omega)⟩, (by omega), trivial⟩ ?_
     refine xR [(2, .new 28), (3, .new 29)] [0, 5, 6] [29] [slEdge false list, I k, .arr 29] [some (.arr 4 ((0 + (k.toNat - 0)) + 1) (catF (0 + (k.toNat - 0)) (catF 0 (litF [] 4) (cutF 0 (fEdge list))) (litF [I e.From, I e.To, Sv e.Label, I e.Cost] 4)))] [((0 + (k.toNat - 0)) + 1) * 40 ≤ 140737488355328] ⟨(by omega), trivial⟩ ?_
     refine xR [(4, .new 34)] [4] [34] [.arr 34] [some (.arr 4 (((0 + (k.toNat - 0)) + 1) + ((list.length : Int).toNat - k.toNat)) (catF ((0 + (k.toNat - 0)) + 1) (catF (0 + (k.toNat - 0)) (catF 0 (litF [] 4) (cutF 0 (fEdge list))) (litF [I e.From, I e.To, Sv e.Label, I e.Cost] 4)) (cutF k.toNat (fEdge list))))] [(0 : Int) ≤ k ∧ k ≤ (list.length : Int) ∧ (list.length : Int) ≤ (list.length : Int), (((0 + (k.toNat - 0)) + 1) + ((list.length : Int).toNat - k.toNat)) * 40 ≤ 140737488355328] ⟨⟨(by omega), (by omega), (by omega)⟩, (by omega), trivial⟩ ?_
     refine x_ret ?_
     refine xe_end (((list.take k.toNat) ++ [e]) ++ (list.drop k.toNat)) (show ((((list.take k.toNat) ++ [e]) ++ (list.drop k.toNat)).length = list.length + 1) ∧ (∀ x ∈ (((list.take k.toNat) ++ [e]) ++ (list.drop k.toNat)), x = e ∨ x ∈ list) ∧ ((((list.take k.toNat) ++ [e]) ++ (list.drop k.toNat)).Pairwise fun x_ y_ => cmpE x_ y_ < 0) ∧ (True) from ⟨(by first | exact ins_len (by omega) | exact fun x hx => ins_mem.1 hx | exact ins_ok cmpE_w hp (by omega) hlo (fun j h1 h2 => hhi j (by omega) h2) hne), (by first | exact ins_len (by omega) | exact fun x hx => ins_mem.1 hx | exact ins_ok cmpE_w hp (by omega) hlo (fun j h1 h2 => hhi j (by omega) h2) hne), (by first | exact ins_len (by omega) | exact fun x hx => ins_mem.1 hx | exact ins_ok cmpE_w hp (by omega) hlo (fun j h1 h2 => hhi j (by omega) h2) hne), trivial⟩) (trivial) (.arr 34) (by kernel_rfl) (.inr ⟨(fun _ => rfl), rfl, (by first | rfl | (simp; done) | (simp; omega) | omega), fun i_ hi_ => .inl (cat_two (enc := cEdge) (xs := ((list.take k.toNat) ++ [e])) (ys := (list.drop k.toNat)) (by first | rfl | (simp; done) | (simp; omega)) (fun i_ hi_ => (cat_two (enc := cEdge) (xs := (list.take k.toNat)) (ys := [e]) (by first | rfl | (simp; done) | (simp; omega)) (fun i_ hi_ => ((cat_nil i_).trans ((fun i_ hi_ => (cut_take (enc := cEdge) hi_)) i_ hi_))) (fun i_ hi_ => (match i_, hi_ with | 0, _ => rfl | (i + 1), h => absurd h (by simp))) i_ hi_)) (fun i_ hi_ => (cut_drop (enc := cEdge) hi_)) i_ hi_)⟩) (fun _ => rfl) (fun _ => (tagEdge true _))
    have hlo : k.toNat = 0 ∨ ¬ 0 < cmpE (at_ list (k.toNat - 1)) e := Or.inl (by omega)
    refine x_r [(1, .dec false)] [0, 3, 5, 18] [3] [slEdge false list, .ref 3 0, I k, Bv false] [some (bxEdge e)] [¬ (0 < k)] ⟨h1, trivial⟩ ?_
    refine xe_then ?_
    refine x_false rfl ?_
    refine x_exit ?_
    refine xe_exit_then ?_
    refine xe_loop_exit ?_
    refine xe_exit_same ?_
    refine xe_then ?_
    refine xR [(0, .new 21), (4, .new 25)] [0, 3, 5, 6] [3, 25] [slEdge false list, .ref 3 0, I k, .arr 25] [some (bxEdge e), some (.arr 4 (0 + (k.toNat - 0)) (catF 0 (litF [] 4) (cutF 0 (fEdge list))))] [(0 : Int) ≤ 0 ∧ (0 : Int) ≤ k ∧ k ≤ (list.length : Int), (0 + (k.toNat - 0)) * 40 ≤ 140737488355328] ⟨⟨(by omega), (by omega), (by omega)⟩, (by omega), trivial⟩ ?_
    refine xR [(2, .new 28), (3, .new 29)] [0, 5, 6] [29] [slEdge false list, I k, .arr 29] [some (.arr 4 ((0 + (k.toNat - 0)) + 1) (catF (0 + (k.toNat - 0)) (catF 0 (litF [] 4) (cutF 0 (fEdge list))) (litF [I e.From, I e.To, Sv e.Label, I e.Cost] 4)))] [((0 + (k.toNat - 0)) + 1) * 40 ≤ 140737488355328] ⟨(by omega), trivial⟩ ?_
    refine xR [(4, .new 34)] [4] [34] [.arr 34] [some (.arr 4 (((0 + (k.toNat - 0)) + 1) + ((list.length : Int).toNat - k.toNat)) (catF ((0 + (k.toNat - 0)) + 1) (catF (0 + (k.toNat - 0)) (catF 0 (litF [] 4) (cutF 0 (fEdge list))) (litF [I e.From, I e.To, Sv e.Label, I e.Cost] 4)) (cutF k.toNat (fEdge list))))] [(0 : Int) ≤ k ∧ k ≤ (list.length : Int) ∧ (list.length : Int) ≤ (list.length : Int), (((0 + (k.toNat - 0)) + 1) + ((list.length : Int).toNat - k.toNat)) * 40 ≤ 140737488355328] ⟨⟨(by omega), (by omega), (by omega)⟩, (by omega), trivial⟩ ?_
    refine x_ret ?_
    refine xe_end (((list.take k.toNat) ++ [e]) ++ (list.drop k.toNat)) (show ((((list.take k.toNat) ++ [e]) ++ (list.drop k.toNat)).length = list.length + 1) ∧ (∀ x ∈ (((list.take k.toNat) ++ [e]) ++ (list.drop k.toNat)), x = e ∨ x ∈ list) ∧ ((((list.take k.toNat) ++ [e]) ++ (list.drop k.toNat)).Pairwise fun x_ y_ => cmpE x_ y_ < 0) ∧ (True) from ⟨(by first | exact ins_len (by omega) | exact fun x hx => ins_mem.1 hx | exact ins_ok cmpE_w hp (by omega) hlo (fun j h1 h2 => hhi j (by omega) h2) hne), (by first | exact ins_len (by omega) | exact fun x hx => ins_mem.1 hx | exact ins_ok cmpE_w hp (by omega) hlo (fun j h1 h2 => hhi j (by omega) h2) hne), (by first | exact ins_len (by omega) | exact fun x hx => ins_mem.1 hx | exact ins_ok cmpE_w hp (by omega) hlo (fun j h1 h2 => hhi j (by omega) h2) hne), trivial⟩) (trivial) (.arr 34) (by kernel_rfl) (.inr ⟨(fun _ => rfl), rfl, (by first | rfl | (simp; done) | (simp; omega) | omega), fun i_ hi_ => .inl (cat_two (enc := cEdge) (xs := ((list.take k.toNat) ++ [e])) (ys := (list.drop k.toNat)) (by first | rfl | (simp; done) | (simp; omega)) (fun i_ hi_ => (cat_two (enc := cEdge) (xs := (list.take k.toNat)) (ys := [e]) (by first | rfl | (simp; done) | (simp; omega)) (fun i_ hi_ => ((cat_nil i_).trans ((fun i_ hi_ => (cut_take (enc := cEdge) hi_)) i_ hi_))) (fun i_ hi_ => (match i_, hi_ with | 0, _ => rfl | (i + 1), h => absurd h (by simp))) i_ hi_)) (fun i_ hi_ => (cut_drop (enc := cEdge) hi_)) i_ hi_)⟩) (fun _ => rfl) (fun _ => (tagEdge true _))
  obtain ⟨v, ⟨hh0, hh1, hh2, _⟩, hc⟩ := hh
  exact ⟨v, hh0, hh1, hh2, hc⟩



-- spec.AddEdge
theorem specAddEdge_ok (l : Lattice) (e : Edge) (hl : okLat l) (he : okEd l e) : ∃ (v : Lattice) (c : Int), (c = 0 → okLat v ∧ v.Nodes = l.Nodes ∧ ∀ x ∈ v.Edges, x = e ∨ x ∈ l.Edges) ∧ (0 ≤ c ∧ c ≤ 20) ∧ Con Tryz.prog 34 [agLattice l, agEdge e] true (.tup [agLatticeT v, I c]) := by
  have hn := hl.1
  have hc := hl.2.1
  have hh : ∃ r : Lattice × Int, ((r.2 = 0 → okLat r.1 ∧ r.1.Nodes = l.Nodes ∧ ∀ x ∈ r.1.Edges, x = e ∨ x ∈ l.Edges) ∧ (0 ≤ r.2 ∧ r.2 ≤ 20) ∧ (True)) ∧ CallOK Tryz.prog 34 [agLattice l, agEdge e] (lookO []) true (.tup [agLatticeT r.1, I r.2]) (lookO []) := by
    refine fn_okX (Φ := fun r : Lattice × Int => (r.2 = 0 → okLat r.1 ∧ r.1.Nodes = l.Nodes ∧ ∀ x ∈ r.1.Edges, x = e ∨ x ∈ l.Edges) ∧ (0 ≤ r.2 ∧ r.2 ≤ 20) ∧ (True)) [] (fun r => []) (fn := Tryz.f34) (nt := 44) Tryz.func34 rfl rfl (args := [agLattice l, agEdge e]) rfl (allcons (.inl ⟨rfl, by simp [tagged, taggedL, tagEdge]⟩) (allcons (.inl ⟨rfl, by simp [tagged, taggedL]⟩) allnil)) (res := fun r => .tup [agLatticeT r.1, I r.2]) ?_
    refine xR [(0, .new 2), (1, .new 3), (2, .new 4)] [2, 3, 4] [2, 3, 4] [.ref 2 0, .ref 3 0, .ref 4 0] [some (bxLattice l), some (bxEdge e), some (.box [I 0, nilA])] [] trivial ?_
    refine x_seq ?_
    refine xR [(0, .call [(false, .ptr false [I l.Nodes, slEdge false l.Edges])] true (Bv true))] [2, 3, 4, 8] [2, 3, 4] [.ref 2 0, .ref 3 0, .ref 4 0, Bv false] [some (bxLattice l), some (bxEdge e), some (.box [I 0, nilA])] [Con Tryz.prog 22 [.ptr false [I l.Nodes, slEdge false l.Edges]] true (Bv true) ∧ ((false = true → true = true) ∧ AV.idsL [I l.Nodes, slEdge false l.Edges] = [] ∧ (valOf (I l.Nodes) = valOf (I l.Nodes)) ∧ ((false = true → false = true) ∧ 4 = 4 ∧ l.Edges.length = l.Edges.length ∧ ∀ i_, i_ < l.Edges.length → (fEdge l.Edges) i_ = (fEdge l.Edges) i_ ∨ (AV.idsL ((fEdge l.Edges) i_) = [] ∧ leL (fun _ => none) false ((fEdge l.Edges) i_) ((fEdge l.Edges) i_))) ∧ ([] : List AV) = []) ∧ True] ⟨⟨(l15Ok_ok l hl), ⟨(fun h => by cases h), rfl, ⟨rfl, ⟨⟨(fun h => by cases h), rfl, rfl, fun i _ => .inl rfl⟩, rfl⟩⟩⟩, trivial⟩, trivial⟩ ?_
    refine x_false rfl ?_
    refine x_skip ?_
    refine xe_then ?_
    refine x_seq ?_
    refine xR [(0, .call [(false, .ptr false [I l.Nodes, slEdge false l.Edges]), (false, .ptr false [I e.From, I e.To, Sv e.Label, I e.Cost])] true (Bv true))] [2, 3, 4, 11] [2, 3, 4] [.ref 2 0, .ref 3 0, .ref 4 0, Bv false] [some (bxLattice l), some (bxEdge e), some (.box [I 0, nilA])] [Con Tryz.prog 44 [.ptr false [I l.Nodes, slEdge false l.Edges], .ptr false [I e.From, I e.To, Sv e.Label, I e.Cost]] true (Bv true) ∧ ((false = true → true = true) ∧ AV.idsL [I l.Nodes, slEdge false l.Edges] = [] ∧ (valOf (I l.Nodes) = valOf (I l.Nodes)) ∧ ((false = true → false = true) ∧ 4 = 4 ∧ l.Edges.length = l.Edges.length ∧ ∀ i_, i_ < l.Edges.length → (fEdge l.Edges) i_ = (fEdge l.Edges) i_ ∨ (AV.idsL ((fEdge l.Edges) i_) = [] ∧ leL (fun _ => none) false ((fEdge l.Edges) i_) ((fEdge l.Edges) i_))) ∧ ([] : List AV) = []) ∧ ((false = true → true = true) ∧ AV.idsL [I e.From, I e.To, Sv e.Label, I e.Cost] = [] ∧ (valOf (I e.From) = valOf (I e.From)) ∧ (valOf (I e.To) = valOf (I e.To)) ∧ (valOf (Sv e.Label) = valOf (Sv e.Label)) ∧ (valOf (I e.Cost) = valOf (I e.Cost)) ∧ ([] : List AV) = []) ∧ True] ⟨⟨(l15Ends_ok l e he (by omega)), ⟨(fun h => by cases h), rfl, ⟨rfl, ⟨⟨(fun h => by cases h), rfl, rfl, fun i _ => .inl rfl⟩, rfl⟩⟩⟩, ⟨(fun h => by cases h), rfl, ⟨rfl, ⟨rfl, ⟨rfl, ⟨rfl, rfl⟩⟩⟩⟩⟩, trivial⟩, trivial⟩ ?_
    refine x_false rfl ?_
    refine x_skip ?_
    refine xe_then ?_
    refine x_seq ?_
    refine xR [(2, .call [(true, .any)] true (Bv true))] [2, 3, 4, 16] [2, 3, 4] [.ref 2 0, .ref 3 0, .ref 4 0, Bv false] [some (bxLattice l), some (bxEdge e), some (.box [I 0, nilA])] [Con Tryz.prog 45 [Sv e.Label] true (Bv true) ∧ True] ⟨⟨(con_bool he.2.2 (specIsLabel_ok e.Label (by have := lab_size he.2.2; omega))), trivial⟩, trivial⟩ ?_
    refine x_false rfl ?_
    refine x_skip ?_
    refine xe_then ?_
    refine x_seq ?_
    refine xR [] [2, 3, 4, 6] [2, 3, 4] [.ref 2 0, .ref 3 0, .ref 4 0, I 0] [some (bxLattice l), some (bxEdge e), some (.box [I 0, nilA])] [] trivial ?_
    refine x_block ?_
    refine x_loop (X := Int) (fun x => mkS [(2, .ref 2 0), (3, .ref 3 0), (4, .ref 4 0), (6, I x)] [(2, bxLattice l), (3, bxEdge e), (4, .box [I 0, nilA])]) (fun x => (0 ≤ x ∧ x ≤ (l.Edges.length : Int)) ∧ (∀ j : Nat, (j : Int) < x → cmpE (at_ l.Edges j) e ≠ 0) ∧ True) (fun x => ((l.Edges.length : Int) - x).toNat) 0 rfl (show (0 ≤ (0 : Int) ∧ (0 : Int) ≤ (l.Edges.length : Int)) ∧ (∀ j : Nat, (j : Int) < (0 : Int) → cmpE (at_ l.Edges j) e ≠ 0) ∧ True from ⟨(by omega), (by intro j hj; omega), trivial⟩) (fun x hI => ?_)
    obtain ⟨i, hxx⟩ : ∃ i : Int, i = x := ⟨x, rfl⟩
    subst hxx
    obtain ⟨hi0, hz0, _⟩ : (0 ≤ i ∧ i ≤ (l.Edges.length : Int)) ∧ (∀ j : Nat, (j : Int) < i → cmpE (at_ l.Edges j) e ≠ 0) ∧ True := hI
    show XW _ _ _ _ (mkS [(2, .ref 2 0), (3, .ref 3 0), (4, .ref 4 0), (6, I i)] [(2, bxLattice l), (3, bxEdge e), (4, .box [I 0, nilA])]) _ _
    refine x_seq ?_
    refine x_seq ?_
    by_cases h1 : i < (l.Edges.length : Int)
    ·have hi : i.toNat < l.Edges.length := by omega
     refine x_r [(4, .dec true)] [2, 3, 4, 6, 22] [2, 3, 4] [.ref 2 0, .ref 3 0, .ref 4 0, I i, Bv true] [some (bxLattice l), some (bxEdge e), some (.box [I 0, nilA])] [i < (l.Edges.length : Int)] ⟨h1, trivial⟩ ?_
     refine xe_then ?_
     refine x_true rfl ?_
     refine x_skip ?_
     refine xe_then ?_
     refine x_seq ?_
     refine x_block ?_
     refine x_seq ?_
     by_cases h2 : (cmpE (at_ l.Edges i.toNat) e) = 0
     ·refine x_r [(4, .call [(true, .any), (false, .ptr false [I e.From, I e.To, Sv e.Label, I e.Cost])] true (I (cmpE (at_ l.Edges i.toNat) e))), (5, .dec true)] [2, 3, 4, 6, 30] [2, 3, 4] [.ref 2 0, .ref 3 0, .ref 4 0, I i, Bv true] [some (bxLattice l), some (bxEdge e), some (.box [I 0, nilA])] [(0 : Int) ≤ i ∧ i < (l.Edges.length : Int), Con Tryz.prog 46 [.ptr false [I ((at_ l.Edges i.toNat).From), I ((at_ l.Edges i.toNat).To), Sv ((at_ l.Edges i.toNat).Label), I ((at_ l.Edges i.toNat).Cost)], .ptr false [I e.From, I e.To, Sv e.Label, I e.Cost]] true (I (cmpE (at_ l.Edges i.toNat) e)) ∧ ((false = true → true = true) ∧ AV.idsL [I e.From, I e.To, Sv e.Label, I e.Cost] = [] ∧ (valOf (I e.From) = valOf (I e.From)) ∧ (valOf (I e.To) = valOf (I e.To)) ∧ (valOf (Sv e.Label) = valOf (Sv e.Label)) ∧ (valOf (I e.Cost) = valOf (I e.Cost)) ∧ ([] : List AV) = []) ∧ True, (cmpE (at_ l.Edges i.toNat) e) = 0] ⟨⟨(by omega), (by omega)⟩, ⟨(l15Order_ok (at_ l.Edges i.toNat) e), ⟨(fun h => by cases h), rfl, ⟨rfl, ⟨rfl, ⟨rfl, ⟨rfl, rfl⟩⟩⟩⟩⟩, trivial⟩, h2, trivial⟩ ?_
      refine xe_then ?_
      refine x_true rfl ?_
      refine xR [] [4, 5] [4] [.ref 4 0, I 4] [some (.box [I 0, nilA])] [] trivial ?_
      refine x_ret ?_
      refine xe_ret_block (xe_ret_then (xe_loop_ret (xe_ret_block (xe_ret_then ?_))))
      refine xe_end ((Lattice.mk 0 ([] : List Edge)), 4) (show (4 = 0 → okLat (Lattice.mk 0 ([] : List Edge)) ∧ (Lattice.mk 0 ([] : List Edge)).Nodes = l.Nodes ∧ ∀ x ∈ (Lattice.mk 0 ([] : List Edge)).Edges, x = e ∨ x ∈ l.Edges) ∧ (0 ≤ 4 ∧ 4 ≤ 20) ∧ (True) from ⟨(by first | omega | (exact fun q => absurd q (by decide)) | exact fun _ => ⟨hput, rfl, hpm⟩), (by first | omega | (exact fun q => absurd q (by decide)) | exact fun _ => ⟨hput, rfl, hpm⟩), trivial⟩) (trivial) (.tup [.agg [I 0, nilA], I 4]) (by kernel_rfl) (.inr ⟨⟨rfl, ⟨⟨rfl, rfl⟩, rfl⟩⟩, ⟨rfl, rfl⟩⟩) (fun _ => rfl) (fun _ => (by simp [tagged, taggedL, tagEdge]))
     refine x_r [(4, .call [(true, .any), (false, .ptr false [I e.From, I e.To, Sv e.Label, I e.Cost])] true (I (cmpE (at_ l.Edges i.toNat) e))), (5, .dec false)] [2, 3, 4, 6, 30] [2, 3, 4] [.ref 2 0, .ref 3 0, .ref 4 0, I i, Bv false] [some (bxLattice l), some (bxEdge e), some (.box [I 0, nilA])] [(0 : Int) ≤ i ∧ i < (l.Edges.length : Int), Con Tryz.prog 46 [.ptr false [I ((at_ l.Edges i.toNat).From), I ((at_ l.Edges i.toNat).To), Sv ((at_ l.Edges i.toNat).Label), I ((at_ l.Edges i.toNat).Cost)], .ptr false [I e.From, I e.To, Sv e.Label, I e.Cost]] true (I (cmpE (at_ l.Edges i.toNat) e)) ∧ ((false = true → true = true) ∧ AV.idsL [I e.From, I e.To, Sv e.Label, I e.Cost] = [] ∧ (valOf (I e.From) = valOf (I e.From)) ∧ (valOf (I e.To) = valOf (I e.To)) ∧ (valOf (Sv e.Label) = valOf (Sv e.Label)) ∧ (valOf (I e.Cost) = valOf (I e.Cost)) ∧ ([] : List AV) = []) ∧ True, ¬ ((cmpE (at_ l.Edges i.toNat) e) = 0)] ⟨⟨(by omega), (by omega)⟩, ⟨(l15Order_ok (at_ l.Edges i.toNat) e), ⟨(fun h => by cases h), rfl, ⟨rfl, ⟨rfl, ⟨rfl, ⟨rfl, rfl⟩⟩⟩⟩⟩, trivial⟩, h2, trivial⟩ ?_
     refine xe_then ?_
     refine x_false rfl ?_
     refine x_skip ?_
     refine xe_block 1 ?_
     refine xe_then ?_
     refine x_r [] [2, 3, 4, 6] [2, 3, 4] [.ref 2 0, .ref 3 0, .ref 4 0, I (i + 1)] [some (bxLattice l), some (bxEdge e), some (.box [I 0, nilA])] [inR .i64 (i + 1)] ⟨(inR_i64 (by omega) (by omega)), trivial⟩ ?_
     exact xe_again (i + 1) rfl (show (0 ≤ (i + 1) ∧ (i + 1) ≤ (l.Edges.length : Int)) ∧ (∀ j : Nat, (j : Int) < (i + 1) → cmpE (at_ l.Edges j) e ≠ 0) ∧ True from ⟨(by omega), (by intro j hj; by_cases ej : j = i.toNat; (subst ej; assumption); exact hz0 j (by omega)), trivial⟩) (by first | (show (((l.Edges.length : Int) - (i + 1)).toNat : Nat) < ((l.Edges.length : Int) - i).toNat; omega) | (dsimp only; omega))
    have hne : ∀ x ∈ l.Edges, cmpE x e ≠ 0 := fun x hx => by obtain ⟨j, hj, q⟩ := List.getElem_of_mem hx; rw [← q, ← at_eq hj]; exact hz0 j (by omega)
    refine x_r [(4, .dec false)] [2, 3, 4, 6, 22] [2, 3, 4] [.ref 2 0, .ref 3 0, .ref 4 0, I i, Bv false] [some (bxLattice l), some (bxEdge e), some (.box [I 0, nilA])] [¬ (i < (l.Edges.length : Int))] ⟨h1, trivial⟩ ?_
    refine xe_then ?_
    refine x_false rfl ?_
    refine x_exit ?_
    refine xe_exit_then ?_
    refine xe_loop_exit ?_
    refine xe_exit_same ?_
    refine xe_then ?_
    refine x_seq ?_
    refine x_seq ?_
    by_cases h3 : 200 ≤ (l.Edges.length : Int)
    ·refine x_r [(3, .dec true)] [2, 3, 4, 35] [2, 3, 4] [.ref 2 0, .ref 3 0, .ref 4 0, Bv true] [some (bxLattice l), some (bxEdge e), some (.box [I 0, nilA])] [200 ≤ (l.Edges.length : Int)] ⟨h3, trivial⟩ ?_
     refine xe_then ?_
     refine x_true rfl ?_
     refine xR [] [4, 5] [4] [.ref 4 0, I 5] [some (.box [I 0, nilA])] [] trivial ?_
     refine x_ret ?_
     refine xe_ret_then ?_
     refine xe_end ((Lattice.mk 0 ([] : List Edge)), 5) (show (5 = 0 → okLat (Lattice.mk 0 ([] : List Edge)) ∧ (Lattice.mk 0 ([] : List Edge)).Nodes = l.Nodes ∧ ∀ x ∈ (Lattice.mk 0 ([] : List Edge)).Edges, x = e ∨ x ∈ l.Edges) ∧ (0 ≤ 5 ∧ 5 ≤ 20) ∧ (True) from ⟨(by first | omega | (exact fun q => absurd q (by decide)) | exact fun _ => ⟨hput, rfl, hpm⟩), (by first | omega | (exact fun q => absurd q (by decide)) | exact fun _ => ⟨hput, rfl, hpm⟩), trivial⟩) (trivial) (.tup [.agg [I 0, nilA], I 5]) (by kernel_rfl) (.inr ⟨⟨rfl, ⟨⟨rfl, rfl⟩, rfl⟩⟩, ⟨rfl, rfl⟩⟩) (fun _ => rfl) (fun _ => (by simp [tagged, taggedL, tagEdge]))
    refine x_r [(3, .dec false)] [2, 3, 4, 35] [2, 3, 4] [.ref 2 0, .ref 3 0, .ref 4 0, Bv false] [some (bxLattice l), some (bxEdge e), some (.box [I 0, nilA])] [¬ (200 ≤ (l.Edges.length : Int))] ⟨h3, trivial⟩ ?_
    refine xe_then ?_
    refine x_false rfl ?_
    refine x_skip ?_
    refine xe_then ?_
    refine x_seq ?_
    obtain ⟨v_1, hx1_0, hx1_1, hx1_2, hc1⟩ := l15Put_ok l.Edges e hl.2.2.2 hne (by omega)
    have hput := okLat_put hl he hx1_0 (by omega) hx1_1 hx1_2
    have hpm := hx1_1
    refine x_r [(5, .call [(true, .any), (true, .any)] true (slEdge true v_1))] [4, 5] [4] [.ref 4 0, I 0] [some (.box [I l.Nodes, slEdge true v_1])] [Con Tryz.prog 57 [slEdge false l.Edges, agEdge e] true (slEdge true v_1) ∧ True] ⟨⟨hc1, trivial⟩, trivial⟩ ?_
    refine xe_then ?_
    refine x_ret ?_
    refine xe_end ((Lattice.mk l.Nodes v_1), 0) (show (0 = 0 → okLat (Lattice.mk l.Nodes v_1) ∧ (Lattice.mk l.Nodes v_1).Nodes = l.Nodes ∧ ∀ x ∈ (Lattice.mk l.Nodes v_1).Edges, x = e ∨ x ∈ l.Edges) ∧ (0 ≤ 0 ∧ 0 ≤ 20) ∧ (True) from ⟨(by first | omega | (exact fun q => absurd q (by decide)) | exact fun _ => ⟨hput, rfl, hpm⟩), (by first | omega | (exact fun q => absurd q (by decide)) | exact fun _ => ⟨hput, rfl, hpm⟩), trivial⟩) (trivial) (.tup [.agg [I l.Nodes, slEdge true v_1], I 0]) (by kernel_rfl) (.inl rfl) (fun _ => rfl) (fun _ => (by simp [tagged, taggedL, tagEdge]))
  obtain ⟨⟨v, c⟩, ⟨hh0, hh1, _⟩, hc⟩ := hh
  exact ⟨v, c, hh0, hh1, hc⟩



def cmpR (a b : Reading) : Int := orL [cmpI a.Cost b.Cost, cmpI (a.Text.size : Int) (b.Text.size : Int), cmpS a.Text b.Text]
theorem cmpR_eq (a b : Reading) : cmpR a b = if cmpI a.Cost b.Cost = 0 then (if cmpI (a.Text.size : Int) (b.Text.size : Int) = 0 then cmpS a.Text b.Text else cmpI (a.Text.size : Int) (b.Text.size : Int)) else cmpI a.Cost b.Cost := by
  unfold cmpR orL orL orL orL
  by_cases h1 : cmpI a.Cost b.Cost = 0
  · rw [if_pos h1, if_pos h1]
    by_cases h2 : cmpI (a.Text.size : Int) (b.Text.size : Int) = 0
    · rw [if_pos h2, if_pos h2]; split
      · rename_i h3; exact h3.symm
      · rfl
    · rw [if_neg h2, if_neg h2]
  · rw [if_neg h1, if_neg h1]
theorem cmpR_w : CmpW cmpR := by
  have h : cmpR = fun x y => if cmpI x.Cost y.Cost = 0 then (fun x y : Reading => if cmpI (x.Text.size : Int) (y.Text.size : Int) = 0 then (fun x y : Reading => cmpS x.Text y.Text) x y else cmpI (x.Text.size : Int) (y.Text.size : Int)) x y else cmpI x.Cost y.Cost := funext fun a => funext fun b => cmpR_eq a b
  rw [h]
  exact CmpW.lex (f := Reading.Cost) cmpI_w (CmpW.lex (f := fun x : Reading => (x.Text.size : Int)) cmpI_w (cmpS_w.map Reading.Text))
theorem rd_ext {a b : Reading} (h1 : a.Text = b.Text) (h2 : a.Cost = b.Cost) : a = b := by cases a; cases b; simp_all
theorem cmpR_tot (a b : Reading) (h : cmpR a b = 0) : a = b := by
  rw [cmpR_eq] at h
  by_cases h1 : cmpI a.Cost b.Cost = 0
  · rw [if_pos h1] at h
    by_cases h2 : cmpI (a.Text.size : Int) (b.Text.size : Int) = 0
    · rw [if_pos h2, cmpS_zero] at h; rw [cmpI_zero] at h1; exact rd_ext h h1
    · rw [if_neg h2] at h; exact absurd h h2
  · rw [if_neg h1] at h; exact absurd h h1
theorem cmpR_cost {a b : Reading} (h : cmpR a b ≤ 0) : a.Cost ≤ b.Cost := by
  rw [cmpR_eq] at h
  by_cases h1 : cmpI a.Cost b.Cost = 0
  · rw [cmpI_zero] at h1; omega
  · rw [if_neg h1] at h
    have := @cmpI_neg a.Cost b.Cost
    omega
def rdr (e : Edge) (r : Reading) : Reading := ⟨r.Text ++ e.Label, r.Cost + e.Cost⟩
theorem toList_app (a b : ByteArray) : (a ++ b).toList = a.toList ++ b.toList := by
  rw [Lib.toList_data, Lib.toList_data, Lib.toList_data, ByteArray.data_append, Array.toList_append]
theorem toList_len (a : ByteArray) : a.toList.length = a.size := by rw [Lib.toList_data]; rfl
theorem ba_inj {a b : ByteArray} (h : a.toList = b.toList) : a = b := by
  rw [Lib.toList_data, Lib.toList_data] at h
  cases a; cases b
  simp only [ByteArray.mk.injEq]
  exact Array.toList_inj.1 h
theorem app_inj {a b c d : ByteArray} (h : a ++ c = b ++ d) (hs : c.size = d.size) : a = b ∧ c = d := by
  have q := congrArg ByteArray.toList h
  rw [toList_app, toList_app] at q
  have l := congrArg List.length q
  simp only [List.length_append, toList_len] at l
  have z := List.append_inj q (by rw [toList_len, toList_len]; omega)
  exact ⟨ba_inj z.1, ba_inj z.2⟩
theorem nd_le {α : Type} [DecidableEq α] : ∀ {xs ys : List α}, xs.Nodup → (∀ x ∈ xs, x ∈ ys) → xs.length ≤ ys.length
  | [], ys, _, _ => Nat.zero_le _
  | x :: r, ys, hn, hs => by
    rw [List.nodup_cons] at hn
    have hx := hs x List.mem_cons_self
    have ih := nd_le (xs := r) (ys := ys.erase x) hn.2 fun y hy => (List.mem_erase_of_ne (fun e => hn.1 (by rw [← e]; exact hy))).2 (hs y (List.mem_cons_of_mem _ hy))
    rw [List.length_erase_of_mem hx] at ih
    have : 0 < ys.length := List.length_pos_of_mem hx
    simp only [List.length_cons]; omega


def fstK (k : Nat) (P : Reading → Prop) (L : List Reading) : Prop := (L.Pairwise fun x y => cmpR x y < 0) ∧ L.length ≤ k ∧ (∀ r ∈ L, P r ∧ ∀ q, P q → q.Text = r.Text → r.Cost ≤ q.Cost) ∧ ∀ q, P q → (∃ r ∈ L, r.Text = q.Text) ∨ (L.length = k ∧ ∀ r ∈ L, cmpR r q < 0)
theorem fst_congr {k : Nat} {P Q : Reading → Prop} {L : List Reading} (h : fstK k P L) (e : ∀ x, P x ↔ Q x) : fstK k Q L :=
  ⟨h.1, h.2.1, fun r hr => ⟨(e r).1 (h.2.2.1 r hr).1, fun q hq => (h.2.2.1 r hr).2 q ((e q).2 hq)⟩, fun q hq => h.2.2.2 q ((e q).2 hq)⟩
def hasT (L : List Reading) (t : ByteArray) : Bool := memB t (L.map Reading.Text)
theorem hasT_iff {L : List Reading} {t : ByteArray} : hasT L t = true ↔ ∃ r ∈ L, r.Text = t := by
  unfold hasT; rw [memB_iff, List.mem_map]
def frI (k : Nat) (ys : List Reading) : Nat → List Reading
  | 0 => []
  | i + 1 => if (frI k ys i).length < k ∧ hasT (frI k ys i) (at_ ys i).Text = false then frI k ys i ++ [at_ ys i] else frI k ys i
def frL (k : Nat) (xs : List Reading) : List Reading := frI k (isoL cmpR xs xs.length) xs.length
theorem frI_len (k : Nat) (ys : List Reading) : ∀ i : Nat, (frI k ys i).length ≤ k ∧ (frI k ys i).length ≤ i
  | 0 => ⟨Nat.zero_le _, Nat.le_refl _⟩
  | i + 1 => by
    have ih := frI_len k ys i
    unfold frI
    split
    · rw [List.length_append]; simp; omega
    · omega
theorem frI_fst (k : Nat) {ys : List Reading} (hs : ys.Pairwise fun x y => ¬ cmpR y x < 0) : ∀ i : Nat, i ≤ ys.length → fstK k (· ∈ ys.take i) (frI k ys i)
  | 0, _ => ⟨List.Pairwise.nil, Nat.zero_le _, fun r hr => (by cases hr), fun q hq => (by simp at hq)⟩
  | i + 1, hi => by
    have h := frI_fst k hs i (by omega)
    have hl := frI_len k ys i
    have ht : ∀ q, q ∈ ys.take (i + 1) ↔ q ∈ ys.take i ∨ q = at_ ys i := fun q => by
      rw [List.take_succ_eq_append_getElem (by omega), ← at_eq (by omega)]; simp
    have hle : ∀ q ∈ ys.take i, cmpR q (at_ ys i) ≤ 0 := fun q hq => by
      obtain ⟨j, hj, e⟩ := List.getElem_of_mem hq
      rw [List.length_take] at hj
      rw [List.getElem_take] at e
      have a := pw_get hs (show j < i by omega) (by omega)
      have e2 : at_ ys j = q := by rw [at_eq (by omega)]; exact e
      rw [e2] at a
      have b := cmpR_w.anti (at_ ys i) q
      have c := cmpR_w.anti q (at_ ys i)
      omega
    have hcase : frI k ys (i + 1) = if (frI k ys i).length < k ∧ hasT (frI k ys i) (at_ ys i).Text = false then frI k ys i ++ [at_ ys i] else frI k ys i := rfl
    rw [hcase]
    generalize at_ ys i = x at ht hle ⊢
    have hlt : ∀ r ∈ frI k ys i, hasT (frI k ys i) x.Text = false → cmpR r x < 0 := fun r hr hn => by
      have a := hle r (h.2.2.1 r hr).1
      by_cases e : cmpR r x = 0
      · have := cmpR_tot r x e
        subst this
        have : hasT (frI k ys i) r.Text = true := hasT_iff.2 ⟨r, hr, rfl⟩
        rw [this] at hn; cases hn
      · omega
    refine fst_congr (P := fun q => q ∈ ys.take i ∨ q = x) ?_ fun q => (ht q).symm
    generalize frI k ys i = L at h hl hlt ⊢
    by_cases hb : L.length < k ∧ hasT L x.Text = false
    · rw [if_pos hb]
      refine ⟨?_, by rw [List.length_append]; simp; omega, fun r hr => ?_, fun q hq => ?_⟩
      · rw [List.pairwise_append]
        exact ⟨h.1, List.pairwise_singleton _ _, fun a ha b hb2 => by rw [List.mem_singleton] at hb2; subst hb2; exact hlt a ha hb.2⟩
      · rcases List.mem_append.1 hr with hr2 | hr
        · refine ⟨.inl (h.2.2.1 r hr2).1, fun q hq e => ?_⟩
          rcases hq with hq | hq
          · exact (h.2.2.1 r hr2).2 q hq e
          · rw [hq]
            exact cmpR_cost (Int.le_of_lt (hlt r hr2 hb.2))
        · rw [List.mem_singleton] at hr
          subst hr
          refine ⟨.inr rfl, fun q hq e => ?_⟩
          rcases hq with hq | hq
          · rcases h.2.2.2 q hq with ⟨r2, hr2, e2⟩ | w
            · have : hasT L r.Text = true := hasT_iff.2 ⟨r2, hr2, e2.trans e⟩
              rw [this] at hb; cases hb.2
            · omega
          · rw [hq]; exact Int.le_refl _
      · rcases hq with hq | hq
        · rcases h.2.2.2 q hq with ⟨r2, hr2, e2⟩ | w
          · exact .inl ⟨r2, List.mem_append_left _ hr2, e2⟩
          · omega
        · exact .inl ⟨x, by simp, by rw [hq]⟩
    · rw [if_neg hb]
      refine ⟨h.1, h.2.1, fun r hr => ⟨.inl (h.2.2.1 r hr).1, fun q hq e => ?_⟩, fun q hq => ?_⟩
      · rcases hq with hq | hq
        · exact (h.2.2.1 r hr).2 q hq e
        · rw [hq]; exact cmpR_cost (hle r (h.2.2.1 r hr).1)
      · rcases hq with hq | hq
        · exact h.2.2.2 q hq
        · by_cases hT : hasT L x.Text = false
          · right
            exact ⟨by have : ¬ L.length < k := fun q => hb ⟨q, hT⟩
                      omega, fun r hr => by rw [hq]; exact hlt r hr hT⟩
          · left
            obtain ⟨r, hr, e⟩ := hasT_iff.1 (by simpa using hT)
            exact ⟨r, hr, by rw [hq]; exact e⟩
theorem isoR_srt (xs : List Reading) : (isoL cmpR xs xs.length).Pairwise fun x y => ¬ cmpR y x < 0 := (isoL_ord (c := cmpR) cmpR_w (B := fun _ _ => True) (xs := xs) (List.pairwise_of_forall fun _ _ => trivial) xs.length (Nat.le_refl _)).imp fun {x y} q => by
  have a1 := cmpR_w.anti x y
  have a2 := cmpR_w.anti y x
  rcases q with q | q
  · omega
  · have := q.1; omega
theorem isoR_mem {xs : List Reading} {x : Reading} : x ∈ isoL cmpR xs xs.length ↔ x ∈ xs := by
  have p := isoL_perm cmpR xs xs.length (Nat.le_refl _)
  rw [List.take_of_length_le (Nat.le_refl _)] at p
  exact p.mem_iff
theorem frL_fst (k : Nat) (xs : List Reading) : fstK k (· ∈ xs) (frL k xs) := by
  have l := isoL_len cmpR xs xs.length
  have h := frI_fst k (isoR_srt xs) xs.length (by omega)
  refine fst_congr h fun x => ?_
  rw [List.take_of_length_le (by omega)]
  exact isoR_mem
theorem fr_y {k : Nat} {ys out : List Reading} {ks : List ByteArray} {i : Nat} (hou : out = frI k ys i) (hks : ks = out.map Reading.Text) (h2 : out.length < k) (h3 : ¬ (at_ ys i).Text ∈ ks) : out ++ [at_ ys i] = frI k ys (i + 1) := by
  subst hks
  have : hasT out (at_ ys i).Text = false := Bool.eq_false_iff.2 fun e => h3 (memB_iff.1 e)
  show _ = (if _ then _ else _)
  rw [← hou, if_pos ⟨h2, this⟩]
theorem fr_n1 {k : Nat} {ys out : List Reading} {i : Nat} (hou : out = frI k ys i) (h2 : ¬ out.length < k) : out = frI k ys (i + 1) := by
  show _ = (if _ then _ else _)
  rw [← hou, if_neg fun q => h2 q.1]
theorem fr_n2 {k : Nat} {ys out : List Reading} {ks : List ByteArray} {i : Nat} (hou : out = frI k ys i) (hks : ks = out.map Reading.Text) (h3 : (at_ ys i).Text ∈ ks) : out = frI k ys (i + 1) := by
  subst hks
  have : hasT out (at_ ys i).Text = true := memB_iff.2 h3
  show _ = (if _ then _ else _)
  rw [← hou, if_neg fun q => by rw [this] at q; cases q.2]
theorem frL_len (k : Nat) (xs : List Reading) : (frL k xs).length ≤ k ∧ (frL k xs).length ≤ xs.length := frI_len k _ _
theorem frL_mem {k : Nat} {xs : List Reading} {x : Reading} (h : x ∈ frL k xs) : x ∈ xs := ((frL_fst k xs).2.2.1 x h).1


def rowE (l : Lattice) (c : List Int) (ch : ByteArray) : Nat → List Int × Bool
  | 0 => (List.replicate l.Nodes.toNat 1099511627776, false)
  | k + 1 => if (at_ l.Edges k).Label = ch ∧ at_ c (at_ l.Edges k).From.toNat < 1099511627776 then ((rowE l c ch k).1.set (at_ l.Edges k).To.toNat (min (at_ (rowE l c ch k).1 (at_ l.Edges k).To.toNat) (at_ c (at_ l.Edges k).From.toNat + (at_ l.Edges k).Cost)), true) else rowE l c ch k
def chA (w : ByteArray) (k : Nat) : ByteArray := w.extract k (k + 1)
def tcRow (l : Lattice) (w : ByteArray) : Nat → List Int
  | 0 => (List.replicate l.Nodes.toNat 1099511627776).set 0 0
  | k + 1 => (rowE l (tcRow l w k) (chA w k) l.Edges.length).1
def tcA (l : Lattice) (w : ByteArray) (k : Nat) : Bool := (rowE l (tcRow l w k) (chA w k) l.Edges.length).2
def tcF (l : Lattice) (w : ByteArray) : Int := if (anyN w.size fun k => !(tcA l w k)) = true then 1099511627776 else at_ (tcRow l w w.size) (l.Nodes - 1).toNat
def okRow (n : Nat) (b : Int) (c : List Int) : Prop := c.length = n ∧ ∀ j : Nat, j < n → 0 ≤ at_ c j ∧ (at_ c j ≤ b ∨ at_ c j = 1099511627776)
theorem row_set {n : Nat} {b x : Int} {c : List Int} {k : Nat} (h : okRow n b c) (hx : 0 ≤ x ∧ (x ≤ b ∨ x = 1099511627776)) : okRow n b (c.set k x) := ⟨by rw [List.length_set]; exact h.1, fun j hj => by
  by_cases e : j = k
  · subst e; rw [at_set_same (by rw [h.1]; exact hj)]; exact hx
  · rw [at_set_oth e]; exact h.2 j hj⟩
theorem row_far (n : Nat) (b : Int) : okRow n b (List.replicate n 1099511627776) := ⟨List.length_replicate, fun j hj => by rw [at_eq (by rw [List.length_replicate]; exact hj), List.getElem_replicate]; omega⟩
theorem rowE_ok {l : Lattice} (hl : okLat l) {b : Int} (hb : 0 ≤ b) {c : List Int} (hc : okRow l.Nodes.toNat b c) (ch : ByteArray) : ∀ k : Nat, k ≤ l.Edges.length → okRow l.Nodes.toNat (b + 1000000) (rowE l c ch k).1
  | 0, _ => row_far _ _
  | k + 1, hk => by
    have ih := rowE_ok hl hb hc ch k (by omega)
    have he := hl.2.2.1 k (by omega)
    unfold rowE
    split
    · rename_i q
      have h1 := hc.2 (at_ l.Edges k).From.toNat (by have := he.1; omega)
      have h2 := ih.2 (at_ l.Edges k).To.toNat (by have := he.1; omega)
      have h3 := he.2.1
      exact row_set ih (by omega)
    · exact ih
theorem tcRow_ok {l : Lattice} (hl : okLat l) (w : ByteArray) : ∀ k : Nat, okRow l.Nodes.toNat (1000000 * k) (tcRow l w k)
  | 0 => row_set (row_far _ _) (by omega)
  | k + 1 => by
    have := rowE_ok hl (by omega) (tcRow_ok hl w k) (chA w k) l.Edges.length (Nat.le_refl _)
    rw [show (1000000 * ((k + 1 : Nat) : Int)) = 1000000 * (k : Int) + 1000000 from by omega]; exact this
theorem tcF_bd {l : Lattice} (hl : okLat l) (w : ByteArray) : 0 ≤ tcF l w ∧ (tcF l w ≤ 1000000 * w.size ∨ tcF l w = 1099511627776) := by
  unfold tcF
  split
  · omega
  · have := (tcRow_ok hl w w.size).2 (l.Nodes - 1).toNat (by have := hl.1; omega)
    exact this
def farN (n : Nat) (k : Nat) : List Int := List.replicate k 1099511627776 ++ List.replicate (n - k) 0
theorem far_0 {n m : Nat} (h : m = n) : List.replicate m (0 : Int) = farN n 0 := by simp [farN, h]
theorem far_next {n k : Nat} (h : k < n) : (farN n k).set k 1099511627776 = farN n (k + 1) := by
  unfold farN
  rw [List.set_append_right _ _ (by simp)]
  rw [List.length_replicate, Nat.sub_self, show n - k = (n - (k + 1)) + 1 from by omega, List.replicate_succ, List.set_cons_zero, List.replicate_succ', List.append_assoc]
  rfl
theorem far_all (n : Nat) : farN n n = List.replicate n 1099511627776 := by simp [farN]


def exr (p : ByteArray → Bool) (e : Edge) (src : List Reading) (j : Nat) : List Reading := ((src.take j).map (rdr e)).filter fun r => p r.Text
theorem exr_next {p : ByteArray → Bool} {e : Edge} {src : List Reading} {j : Nat} (h : j < src.length) : exr p e src (j + 1) = exr p e src j ++ if p ((at_ src j).Text ++ e.Label) = true then [rdr e (at_ src j)] else [] := by
  unfold exr
  rw [List.take_succ_eq_append_getElem h, ← at_eq h, List.map_append, List.filter_append]
  congr 1
  simp only [List.map_cons, List.map_nil, List.filter_cons, List.filter_nil]
  rfl
theorem exr_len (p : ByteArray → Bool) (e : Edge) (src : List Reading) (j : Nat) : (exr p e src j).length ≤ j ∧ (exr p e src j).length ≤ src.length := by
  have := List.length_filter_le (fun r : Reading => p r.Text) ((src.take j).map (rdr e))
  unfold exr
  simp only [List.length_map, List.length_take] at this
  omega
def tbE (p : ByteArray → Bool) (l : Lattice) (n : Nat) (T0 : List (List Reading)) : Nat → List (List Reading)
  | 0 => T0
  | i + 1 => if (at_ l.Edges i).From = (n : Int) then (tbE p l n T0 i).set (at_ l.Edges i).To.toNat (at_ (tbE p l n T0 i) (at_ l.Edges i).To.toNat ++ exr p (at_ l.Edges i) (at_ (tbE p l n T0 i) n) (at_ (tbE p l n T0 i) n).length) else tbE p l n T0 i
def tbN (F : List Reading → List Reading) (p : ByteArray → Bool) (l : Lattice) (T0 : List (List Reading)) : Nat → List (List Reading)
  | 0 => T0
  | n + 1 => tbE p l n ((tbN F p l T0 n).set n (F (at_ (tbN F p l T0 n) n))) l.Edges.length
theorem tbE_ok {p : ByteArray → Bool} {l : Lattice} (hl : okLat l) {n : Nat} (hn : (n : Int) < l.Nodes) {T0 : List (List Reading)} (h0 : T0.length = l.Nodes.toNat) : ∀ i : Nat, i ≤ l.Edges.length → (tbE p l n T0 i).length = l.Nodes.toNat ∧ (∀ j, j ≤ n → at_ (tbE p l n T0 i) j = at_ T0 j) ∧ ∀ j, n < j → j < l.Nodes.toNat → ∀ x, x ∈ at_ (tbE p l n T0 i) j ↔ x ∈ at_ T0 j ∨ ∃ i' : Nat, i' < i ∧ (at_ l.Edges i').From = (n : Int) ∧ (at_ l.Edges i').To = (j : Int) ∧ p x.Text = true ∧ ∃ r ∈ at_ T0 n, x = rdr (at_ l.Edges i') r
  | 0, _ => ⟨h0, fun j _ => rfl, fun j _ _ x => ⟨.inl, fun q => q.elim id fun ⟨i', h, _⟩ => absurd h (Nat.not_lt_zero _)⟩⟩
  | i + 1, hi => by
    have ih := tbE_ok (p := p) hl hn h0 i (by omega)
    have he := (hl.2.2.1 i (by omega)).1
    have hc : tbE p l n T0 (i + 1) = if (at_ l.Edges i).From = (n : Int) then (tbE p l n T0 i).set (at_ l.Edges i).To.toNat (at_ (tbE p l n T0 i) (at_ l.Edges i).To.toNat ++ exr p (at_ l.Edges i) (at_ (tbE p l n T0 i) n) (at_ (tbE p l n T0 i) n).length) else tbE p l n T0 i := rfl
    rw [hc, ih.2.1 n (Nat.le_refl _)]
    by_cases hf : (at_ l.Edges i).From = (n : Int)
    · rw [if_pos hf]
      refine ⟨by rw [List.length_set]; exact ih.1, fun j hj => by rw [at_set_oth (by omega)]; exact ih.2.1 j hj, fun j hj1 hj2 x => ?_⟩
      by_cases ej : j = (at_ l.Edges i).To.toNat
      · rw [← ej, at_set_same (by rw [ih.1]; exact hj2), List.mem_append, ih.2.2 j hj1 hj2 x]
        have hx : x ∈ exr p (at_ l.Edges i) (at_ T0 n) (at_ T0 n).length ↔ p x.Text = true ∧ ∃ r ∈ at_ T0 n, x = rdr (at_ l.Edges i) r := by
          unfold exr
          rw [List.take_length, List.mem_filter, List.mem_map]
          exact ⟨fun ⟨⟨r, a, b⟩, c⟩ => ⟨c, r, a, b.symm⟩, fun ⟨c, r, a, b⟩ => ⟨⟨r, a, b.symm⟩, c⟩⟩
        rw [hx]
        constructor
        · rintro ((q | ⟨i', a, b⟩) | q)
          · exact .inl q
          · exact .inr ⟨i', by omega, b⟩
          · exact .inr ⟨i, by omega, hf, by omega, q⟩
        · rintro (q | ⟨i', a, b⟩)
          · exact .inl (.inl q)
          · by_cases e : i' = i
            · subst e; exact .inr b.2.2
            · exact .inl (.inr ⟨i', by omega, b⟩)
      · rw [at_set_oth ej, ih.2.2 j hj1 hj2 x]
        constructor
        · rintro (q | ⟨i', a, b⟩)
          · exact .inl q
          · exact .inr ⟨i', by omega, b⟩
        · rintro (q | ⟨i', a, b⟩)
          · exact .inl q
          · by_cases e : i' = i
            · subst e; exact absurd b.2.1 (by omega)
            · exact .inr ⟨i', by omega, b⟩
    · rw [if_neg hf]
      refine ⟨ih.1, ih.2.1, fun j hj1 hj2 x => ?_⟩
      rw [ih.2.2 j hj1 hj2 x]
      constructor
      · rintro (q | ⟨i', a, b⟩)
        · exact .inl q
        · exact .inr ⟨i', by omega, b⟩
      · rintro (q | ⟨i', a, b⟩)
        · exact .inl q
        · by_cases e : i' = i
          · subst e; exact absurd b.1 hf
          · exact .inr ⟨i', by omega, b⟩
theorem tbN_ok {F : List Reading → List Reading} {p : ByteArray → Bool} {l : Lattice} (hl : okLat l) {T0 : List (List Reading)} (h0 : T0.length = l.Nodes.toNat) : ∀ n : Nat, (n : Int) ≤ l.Nodes → (tbN F p l T0 n).length = l.Nodes.toNat ∧ (∀ j, j < n → at_ (tbN F p l T0 n) j = F (at_ (tbN F p l T0 j) j)) ∧ ∀ j, n ≤ j → j < l.Nodes.toNat → ∀ x, x ∈ at_ (tbN F p l T0 n) j ↔ x ∈ at_ T0 j ∨ ∃ e ∈ l.Edges, e.From < (n : Int) ∧ e.To = (j : Int) ∧ p x.Text = true ∧ ∃ r ∈ at_ (tbN F p l T0 n) e.From.toNat, x = rdr e r
  | 0, _ => ⟨h0, fun j h => absurd h (Nat.not_lt_zero _), fun j _ _ x => ⟨.inl, fun q => q.elim id fun ⟨e, he, h, _⟩ => by
      obtain ⟨i, hi, q⟩ := List.getElem_of_mem he
      have := (hl.2.2.1 i hi).1
      rw [at_eq hi, q] at this
      omega⟩⟩
  | n + 1, hn => by
    have ih := tbN_ok (F := F) (p := p) hl h0 n (by omega)
    have hT : ((tbN F p l T0 n).set n (F (at_ (tbN F p l T0 n) n))).length = l.Nodes.toNat := by rw [List.length_set]; exact ih.1
    have hE := tbE_ok (p := p) hl (n := n) (by omega) hT l.Edges.length (Nat.le_refl _)
    show (tbE p l n _ _).length = _ ∧ (∀ j, j < n + 1 → at_ (tbE p l n ((tbN F p l T0 n).set n (F (at_ (tbN F p l T0 n) n))) l.Edges.length) j = _) ∧ ∀ j, n + 1 ≤ j → j < l.Nodes.toNat → ∀ x, x ∈ at_ (tbE p l n ((tbN F p l T0 n).set n (F (at_ (tbN F p l T0 n) n))) l.Edges.length) j ↔ x ∈ at_ T0 j ∨ ∃ e ∈ l.Edges, e.From < ((n + 1 : Nat) : Int) ∧ e.To = (j : Int) ∧ p x.Text = true ∧ ∃ r ∈ at_ (tbE p l n ((tbN F p l T0 n).set n (F (at_ (tbN F p l T0 n) n))) l.Edges.length) e.From.toNat, x = rdr e r
    generalize tbE p l n ((tbN F p l T0 n).set n (F (at_ (tbN F p l T0 n) n))) l.Edges.length = T at hE ⊢
    have hrow : ∀ j, j < n + 1 → at_ T j = F (at_ (tbN F p l T0 j) j) := fun j hj => by
      rw [hE.2.1 j (by omega)]
      by_cases e : j = n
      · subst e; rw [at_set_same (by rw [ih.1]; omega)]
      · rw [at_set_oth e]; exact ih.2.1 j (by omega)
    refine ⟨hE.1, hrow, fun j hj1 hj2 x => ?_⟩
    rw [hE.2.2 j (by omega) hj2 x, at_set_oth (by omega), ih.2.2 j (by omega) hj2 x, at_set_same (by rw [ih.1]; omega)]
    have hfr : ∀ e : Edge, 0 ≤ e.From → e.From < (n : Int) → at_ T e.From.toNat = at_ (tbN F p l T0 n) e.From.toNat := fun e h1 h2 => by
      rw [hrow _ (by omega), ih.2.1 _ (by omega)]
    have hnn : at_ T n = F (at_ (tbN F p l T0 n) n) := hrow n (by omega)
    have hed : ∀ e ∈ l.Edges, 0 ≤ e.From := fun e he => by
      obtain ⟨i, hi, q⟩ := List.getElem_of_mem he
      have := (hl.2.2.1 i hi).1
      rw [at_eq hi, q] at this
      omega
    constructor
    · rintro ((q | ⟨e, he, a, b, c, r, d⟩) | ⟨i', hi', a, b, c, r, d⟩)
      · exact .inl q
      · exact .inr ⟨e, he, by omega, b, c, r, by rw [hfr e (hed e he) a]; exact d.1, d.2⟩
      · exact .inr ⟨at_ l.Edges i', at_mem hi', by omega, b, c, r, by rw [a, Int.toNat_natCast, hnn]; exact d.1, d.2⟩
    · rintro (q | ⟨e, he, a, b, c, r, d⟩)
      · exact .inl (.inl q)
      · by_cases ef : e.From = (n : Int)
        · right
          obtain ⟨i', hi', q⟩ := List.getElem_of_mem he
          rw [← at_eq hi'] at q
          refine ⟨i', hi', by rw [q]; exact ef, by rw [q]; exact b, c, r, ?_, by rw [q]; exact d.2⟩
          have := d.1
          rw [ef, Int.toNat_natCast, hnn] at this
          exact this
        · refine .inl (.inr ⟨e, he, by omega, b, c, r, ?_, d.2⟩)
          rw [← hfr e (hed e he) (by omega)]; exact d.1
def rd0 : Reading := ⟨⟨#[]⟩, 0⟩
def tb0 (l : Lattice) : List (List Reading) := (List.replicate l.Nodes.toNat []).set 0 [rd0]
theorem tb0_len (l : Lattice) : (tb0 l).length = l.Nodes.toNat := by unfold tb0; rw [List.length_set, List.length_replicate]
theorem at_rep {α : Type} [Inhabited α] {x : α} {n j : Nat} (h : j < n) : at_ (List.replicate n x) j = x := by rw [at_eq (by rw [List.length_replicate]; exact h), List.getElem_replicate]
theorem tb0_mem {l : Lattice} (hl : okLat l) {j : Nat} (hj : j < l.Nodes.toNat) (x : Reading) : x ∈ at_ (tb0 l) j ↔ j = 0 ∧ x = rd0 := by
  unfold tb0
  by_cases e : j = 0
  · subst e
    rw [at_set_same (by rw [List.length_replicate]; exact hj)]; simp
  · rw [at_set_oth e, at_rep hj]; simp [e]
def allT (l : Lattice) : List (List Reading) := tbN id (fun _ => true) l (tb0 l) l.Nodes.toNat
def pth (l : Lattice) (j : Nat) (x : Reading) : Prop := x ∈ at_ (allT l) j
theorem tb_fix {F : List Reading → List Reading} {p : ByteArray → Bool} {l : Lattice} (hl : okLat l) {T0 : List (List Reading)} (h0 : T0.length = l.Nodes.toNat) {N : Nat} (hN : (N : Int) ≤ l.Nodes) {j : Nat} (hj : j < N) : at_ (tbN F p l T0 N) j = F (at_ (tbN F p l T0 j) j) ∧ ∀ x, x ∈ at_ (tbN F p l T0 j) j ↔ x ∈ at_ T0 j ∨ ∃ e ∈ l.Edges, e.To = (j : Int) ∧ p x.Text = true ∧ ∃ r ∈ at_ (tbN F p l T0 N) e.From.toNat, x = rdr e r := by
  have a := tbN_ok (F := F) (p := p) hl h0 N hN
  have b := tbN_ok (F := F) (p := p) hl h0 j (by omega)
  refine ⟨a.2.1 j hj, fun x => ?_⟩
  rw [b.2.2 j (Nat.le_refl _) (by omega) x]
  have hed : ∀ e ∈ l.Edges, 0 ≤ e.From ∧ e.From < e.To := fun e he => by
    obtain ⟨i, hi, q⟩ := List.getElem_of_mem he
    have := (hl.2.2.1 i hi).1
    rw [at_eq hi, q] at this
    omega
  have hfr : ∀ e ∈ l.Edges, e.From < (j : Int) → at_ (tbN F p l T0 j) e.From.toNat = at_ (tbN F p l T0 N) e.From.toNat := fun e he h => by
    have := hed e he
    rw [b.2.1 _ (by omega), a.2.1 _ (by omega)]
  constructor
  · rintro (q | ⟨e, he, h1, h2, h3, r, h4⟩)
    · exact .inl q
    · exact .inr ⟨e, he, h2, h3, r, by rw [← hfr e he h1]; exact h4.1, h4.2⟩
  · rintro (q | ⟨e, he, h2, h3, r, h4⟩)
    · exact .inl q
    · have := hed e he
      exact .inr ⟨e, he, by omega, h2, h3, r, by rw [hfr e he (by omega)]; exact h4.1, h4.2⟩
theorem pth_iff {l : Lattice} (hl : okLat l) {j : Nat} (hj : j < l.Nodes.toNat) (x : Reading) : pth l j x ↔ (j = 0 ∧ x = rd0) ∨ ∃ e ∈ l.Edges, e.To = (j : Int) ∧ ∃ r, pth l e.From.toNat r ∧ x = rdr e r := by
  have h := tb_fix (F := id) (p := fun _ => true) hl (tb0_len l) (N := l.Nodes.toNat) (by omega) hj
  unfold pth allT
  rw [h.1]
  show x ∈ at_ (tbN id (fun _ => true) l (tb0 l) j) j ↔ _
  rw [h.2 x, tb0_mem hl hj]
  exact ⟨fun q => q.elim .inl fun ⟨e, a, b, _, r, c⟩ => .inr ⟨e, a, b, r, c⟩, fun q => q.elim .inl fun ⟨e, a, b, r, c⟩ => .inr ⟨e, a, b, rfl, r, c⟩⟩
theorem ed_ok {l : Lattice} (hl : okLat l) {e : Edge} (he : e ∈ l.Edges) : okEd l e := by
  obtain ⟨i, hi, q⟩ := List.getElem_of_mem he
  have := hl.2.2.1 i hi
  rw [at_eq hi, q] at this
  exact this
theorem pth_bd {l : Lattice} (hl : okLat l) : ∀ (m j : Nat), j ≤ m → j < l.Nodes.toNat → ∀ x, pth l j x → x.Text.size ≤ j ∧ 0 ≤ x.Cost ∧ x.Cost ≤ 1000000 * x.Text.size
  | 0, j, hm, hj, x, h => by
    rcases (pth_iff hl hj x).1 h with ⟨_, q⟩ | ⟨e, he, a, _⟩
    · subst q; exact ⟨Nat.zero_le _, Int.le_refl _, by show (0 : Int) ≤ 1000000 * ((0 : Nat) : Int); omega⟩
    · have := (ed_ok hl he).1; omega
  | m + 1, j, hm, hj, x, h => by
    rcases (pth_iff hl hj x).1 h with ⟨_, q⟩ | ⟨e, he, a, r, hr, q⟩
    · subst q; exact ⟨Nat.zero_le _, Int.le_refl _, by show (0 : Int) ≤ 1000000 * ((0 : Nat) : Int); omega⟩
    · have b := ed_ok hl he
      have b1 := b.1
      have c := pth_bd hl m e.From.toNat (by omega) (by omega) r hr
      have s := lab_size b.2.2
      have e1 : x.Text.size = r.Text.size + 1 := by rw [q]; show (r.Text ++ e.Label).size = _; rw [ByteArray.size_append, s]
      have e2 : x.Cost = r.Cost + e.Cost := by rw [q]; rfl
      have := b.1
      have := b.2.1
      refine ⟨by omega, by omega, ?_⟩
      rw [e1, e2]; omega

def okRd (j : Nat) (x : Reading) : Prop := x.Text.size ≤ j ∧ 0 ≤ x.Cost ∧ x.Cost ≤ 1000000 * (j : Int)
def okT (l : Lattice) (B : Nat) (T : List (List Reading)) : Prop := T.length = l.Nodes.toNat ∧ ∀ j, j < l.Nodes.toNat → (at_ T j).length ≤ B ∧ ∀ x ∈ at_ T j, okRd j x
theorem okT_mono {l : Lattice} {A B : Nat} {T : List (List Reading)} (h : okT l A T) (hab : A ≤ B) : okT l B T := ⟨h.1, fun j hj => ⟨Nat.le_trans (h.2 j hj).1 hab, (h.2 j hj).2⟩⟩
def exT (p : ByteArray → Bool) (T : List (List Reading)) (e : Edge) (n j : Nat) : List (List Reading) := T.set e.To.toNat (at_ T e.To.toNat ++ exr p e (at_ T n) j)
theorem okT_0 {l : Lattice} (hl : okLat l) : okT l 1 (tb0 l) := ⟨tb0_len l, fun j hj => by
  unfold tb0
  by_cases e : j = 0
  · subst e
    rw [at_set_same (by rw [List.length_replicate]; exact hj)]
    refine ⟨Nat.le_refl _, fun x hx => ?_⟩
    rw [List.mem_singleton] at hx
    subst hx
    exact ⟨Nat.le_refl _, Int.le_refl _, by show (0 : Int) ≤ 1000000 * ((0 : Nat) : Int); omega⟩
  · rw [at_set_oth e, at_rep hj]
    exact ⟨Nat.zero_le _, fun x hx => (by cases hx)⟩⟩


def cntE (l : Lattice) (n i : Nat) : Nat := ((l.Edges.take i).filter fun e => decide (e.From = (n : Int))).length
def degL (l : Lattice) : Prop := l.Nodes ≤ 6 ∧ ∀ n : Nat, (l.Edges.filter fun e => decide (e.From = (n : Int))).length ≤ 4
def pAny (_ : ByteArray) : Bool := true
def pcV (T : List (List Reading)) : List Int := T.map fun r => (r.length : Int)

theorem ed_nodup {xs : List Edge} (h : xs.Pairwise fun x y => cmpE x y < 0) : xs.Nodup := h.imp fun {x y} q e => by rw [e, cmpE_w.refl] at q; omega
theorem deg_add {xs v : List Edge} {e : Edge} {n : Nat} (hv : v.Pairwise fun x y => cmpE x y < 0) (hm : ∀ x ∈ v, x = e ∨ x ∈ xs) : (v.filter fun x => decide (x.From = (n : Int))).length ≤ (xs.filter fun x => decide (x.From = (n : Int))).length + if e.From = (n : Int) then 1 else 0 := by
  have := nd_le (xs := v.filter fun x => decide (x.From = (n : Int))) (ys := (e :: xs).filter fun x => decide (x.From = (n : Int))) ((ed_nodup hv).sublist List.filter_sublist) fun x hx => by
    rw [List.mem_filter] at hx ⊢
    exact ⟨(hm x hx.1).elim (fun q => by rw [q]; exact List.mem_cons_self) (fun q => List.mem_cons_of_mem _ q), hx.2⟩
  rw [List.filter_cons] at this
  by_cases q : e.From = (n : Int)
  · rw [if_pos q]; rw [if_pos (decide_eq_true q)] at this; simpa using this
  · rw [if_neg q]; rw [if_neg (fun z => q (of_decide_eq_true z))] at this; exact this
def degI (l : Lattice) (n m : Int) : Prop := ∀ j : Nat, ((l.Edges.filter fun x => decide (x.From = (j : Int))).length : Int) ≤ if (j : Int) < n then 4 else if (j : Int) = n then m else 0
theorem degI_0 {n : Int} : degI ⟨n, []⟩ 0 0 := fun j => by
  show ((0 : Nat) : Int) ≤ _
  split
  · omega
  · split <;> omega
theorem degI_mono {l : Lattice} {n a b : Int} (h : degI l n a) (hab : a ≤ b) : degI l n b := fun j => by
  have := h j
  split at this
  · rename_i q; rw [if_pos q]; exact this
  · rename_i q; rw [if_neg q]; split at this
    · rename_i q2; rw [if_pos q2]; omega
    · rename_i q2; rw [if_neg q2]; exact this
theorem degI_next {l : Lattice} {n : Int} (h : degI l n 4) : degI l (n + 1) 0 := fun j => by
  have := h j
  by_cases q : (j : Int) < n + 1
  · rw [if_pos q]
    split at this
    · exact this
    · split at this <;> omega
  · rw [if_neg q]
    rw [if_neg (by omega), if_neg (by omega)] at this
    split <;> exact this
theorem degI_put {l v : Lattice} {e : Edge} {n m : Int} (h : degI l n m) (hv : okLat v) (hm : ∀ x ∈ v.Edges, x = e ∨ x ∈ l.Edges) (he : e.From = n) : degI v n (m + 1) := fun j => by
  have a := deg_add (n := j) hv.2.2.2 hm
  have b := h j
  by_cases q : (j : Int) = n
  · rw [if_neg (by omega), if_pos q] at b ⊢
    rw [if_pos (by omega)] at a
    omega
  · rw [if_neg (by omega)] at a
    split at b
    · rename_i q2; rw [if_pos q2]; omega
    · rename_i q2; rw [if_neg q2, if_neg q]; (try rw [if_neg q] at b); omega
theorem degI_end {l : Lattice} {n : Int} (h : degI l n 4) (h6 : l.Nodes ≤ 6) : degL l := ⟨h6, fun j => by
  have := h j
  split at this
  · omega
  · split at this <;> omega⟩


-- spec.l15Draw
theorem l15Draw_ok (s : l00Src) (most : Int) (hs : okSrc s) (ha : s.atx ≤ 3999999999999996000) (hmo : 0 ≤ most ∧ most ≤ 6) : ∃ (v : Lattice) (s' : l00Src), (okSrc s') ∧ (s'.code = s.code) ∧ (s.atx + 0 ≤ s'.atx ∧ s'.atx ≤ s.atx + 400) ∧ (okLat v) ∧ (degL v) ∧ CallOK Tryz.prog 17 [.ref 7001 0, I most] (lookO [(7001, bxl00Src s)]) true (agLatticeT v) (lookO [(7001, bxl00Src s')]) := by
  have hh : ∃ r : Lattice × l00Src, ((okSrc r.2) ∧ (r.2.code = s.code) ∧ (s.atx + 0 ≤ r.2.atx ∧ r.2.atx ≤ s.atx + 400) ∧ (okLat r.1) ∧ (degL r.1) ∧ (True)) ∧ CallOK Tryz.prog 17 [.ref 7001 0, I most] (lookO [(7001, bxl00Src s)]) true (agLatticeT r.1) (lookO [(7001, bxl00Src r.2)]) := by
    refine fn_okX (Φ := fun r : Lattice × l00Src => (okSrc r.2) ∧ (r.2.code = s.code) ∧ (s.atx + 0 ≤ r.2.atx ∧ r.2.atx ≤ s.atx + 400) ∧ (okLat r.1) ∧ (degL r.1) ∧ (True)) [(7001, bxl00Src s)] (fun r => [(7001, bxl00Src r.2)]) (fn := Tryz.f17) (nt := 57) Tryz.func17 rfl rfl (args := [.ref 7001 0, I most]) rfl (allcons (.inr trivial) (allcons (.inl ⟨rfl, trivial⟩) allnil)) (res := fun r => agLatticeT r.1) ?_
    refine xR [(0, .new 4)] [0, 1, 4] [4, 7001] [.ref 7001 0, I most, .ref 4 0] [some (.box [I 0, nilA]), some (bxl00Src s)] [] trivial ?_
    refine x_seq ?_
    obtain ⟨v_1, s'_1, hx1_0, hx1_1, hx1_2, hx1_3, hc1⟩ := pick_ok s most (by first | assumption | (simp only [okSrc] at *; simp_all; done)) (by omega)
    refine x_r [(2, .lend [(7001, bxl00Src s, bxl00Src s'_1)] [] [(true, .any), (true, .any)] true (I v_1)), (5, .new 5)] [0, 4, 5] [4, 5, 7001] [.ref 7001 0, .ref 4 0, .ref 5 0] [some (.box [I 0, nilA]), some (.box [I (1 + v_1), nilA]), some (bxl00Src s'_1)] [CallOK Tryz.prog 31 [.ref 7001 0, I most] (lookO [(7001, bxl00Src s)]) true (I v_1) (lookO [(7001, bxl00Src s'_1)]) ∧ (((bxl00Src s : Ob) = bxl00Src s ∨ obLe noOb true (bxl00Src s) (bxl00Src s)) ∧ taggedO false (bxl00Src s)) ∧ True, inR .i64 (1 + v_1)] ⟨⟨hc1, ⟨.inl rfl, (by simp [taggedO, taggedL, tagged, tagU8])⟩, trivial⟩, (inR_i64 (by omega) (by omega)), trivial⟩ ?_
    refine xe_then ?_
    refine x_seq ?_
    refine xR [] [0, 4, 5, 6] [4, 5, 7001] [.ref 7001 0, .ref 4 0, .ref 5 0, I 0] [some (.box [I 0, nilA]), some (.box [I (1 + v_1), nilA]), some (bxl00Src s'_1)] [] trivial ?_
    refine x_block ?_
    refine x_weak [] (T := [(0, .ref 7001 0), (4, .ref 4 0), (5, .ref 5 0), (6, I 0)]) (O := [(4, .box [I 0, nilA]), (5, .box [I ((Lattice.mk (1 + v_1) ([] : List Edge)).Nodes), .sl true 4 ((Lattice.mk (1 + v_1) ([] : List Edge)).Edges.length) (fEdge ((Lattice.mk (1 + v_1) ([] : List Edge)).Edges))]), (7001, bxl00Src s'_1)]) rfl (⟨.inl rfl, .inl rfl, .inl rfl, .inl rfl, trivial⟩) (⟨.inl rfl, .inr ⟨(by first | rfl | (simp [valOf]; done) | (simp [valOf]; omega)), ⟨⟨rfl, rfl⟩, rfl⟩⟩, .inl rfl, trivial⟩) ?_
    refine x_loop (X := Int × Lattice × l00Src) (fun x => mkS [(0, .ref 7001 0), (4, .ref 4 0), (5, .ref 5 0), (6, I x.1)] [(4, .box [I 0, nilA]), (5, bxLatticeT x.2.1), (7001, bxl00Src x.2.2)]) (fun x => (okSrc x.2.2 ∧ x.2.2.code = s.code ∧ s.atx ≤ x.2.2.atx ∧ x.2.2.atx ≤ s.atx + 10 + 50 * x.1) ∧ (0 ≤ x.1 ∧ x.1 ≤ 6) ∧ (okLat x.2.1) ∧ (x.2.1.Nodes ≤ 6 ∧ (x.1 < x.2.1.Nodes)) ∧ (degI x.2.1 x.1 0) ∧ True) (fun x => (x.2.1.Nodes - x.1).toNat) (0, (Lattice.mk (1 + v_1) ([] : List Edge)), s'_1) rfl (show (okSrc s'_1 ∧ s'_1.code = s.code ∧ s.atx ≤ s'_1.atx ∧ s'_1.atx ≤ s.atx + 10 + 50 * (0 : Int)) ∧ (0 ≤ (0 : Int) ∧ (0 : Int) ≤ 6) ∧ (okLat (Lattice.mk (1 + v_1) ([] : List Edge))) ∧ ((Lattice.mk (1 + v_1) ([] : List Edge)).Nodes ≤ 6 ∧ ((0 : Int) < (Lattice.mk (1 + v_1) ([] : List Edge)).Nodes)) ∧ (degI (Lattice.mk (1 + v_1) ([] : List Edge)) (0 : Int) 0) ∧ True from ⟨(by exact ⟨by assumption, by first | assumption | rfl | (simp only [*]; done), by omega, by omega⟩), (by omega), (by exact okLat_nil (by omega)), (by (dsimp only; omega)), (by exact degI_0), trivial⟩) (fun x hI => ?_)
    obtain ⟨n, out, src⟩ := x
    obtain ⟨hs0, hn0, hla, hno, hdg, _⟩ : (okSrc src ∧ src.code = s.code ∧ s.atx ≤ src.atx ∧ src.atx ≤ s.atx + 10 + 50 * n) ∧ (0 ≤ n ∧ n ≤ 6) ∧ (okLat out) ∧ (out.Nodes ≤ 6 ∧ (n < out.Nodes)) ∧ (degI out n 0) ∧ True := hI
    show XW _ _ _ _ (mkS [(0, .ref 7001 0), (4, .ref 4 0), (5, .ref 5 0), (6, I n)] [(4, .box [I 0, nilA]), (5, bxLatticeT out), (7001, bxl00Src src)]) _ _
    refine x_seq ?_
    refine x_seq ?_
    by_cases h1 : (n + 1) < out.Nodes
    ·refine x_r [(4, .dec true)] [0, 4, 5, 6, 21] [4, 5, 7001] [.ref 7001 0, .ref 4 0, .ref 5 0, I n, Bv true] [some (.box [I 0, nilA]), some (bxLatticeT out), some (bxl00Src src)] [inR .i64 (n + 1), (n + 1) < out.Nodes] ⟨(inR_i64 (by omega) (by omega)), h1, trivial⟩ ?_
     refine xe_then ?_
     refine x_true rfl ?_
     refine x_skip ?_
     refine xe_then ?_
     refine x_seq ?_
     refine x_block ?_
     refine x_seq ?_
     obtain ⟨v_2, s'_2, hx2_0, hx2_1, hx2_2, hx2_3, hc2⟩ := pick_ok src 5 (by first | assumption | (simp only [okSrc] at *; simp_all; done)) (by omega)
     refine x_r [(1, .lend [(7001, bxl00Src src, bxl00Src s'_2)] [] [(true, .any), (true, .any)] true (I v_2))] [0, 4, 5, 6, 7] [4, 5, 7001] [.ref 7001 0, .ref 4 0, .ref 5 0, I n, I v_2] [some (.box [I 0, nilA]), some (bxLatticeT out), some (bxl00Src s'_2)] [CallOK Tryz.prog 31 [.ref 7001 0, I 5] (lookO [(7001, bxl00Src src)]) true (I v_2) (lookO [(7001, bxl00Src s'_2)]) ∧ (((bxl00Src src : Ob) = bxl00Src src ∨ obLe noOb true (bxl00Src src) (bxl00Src src)) ∧ taggedO false (bxl00Src src)) ∧ True] ⟨⟨hc2, ⟨.inl rfl, (by simp [taggedO, taggedL, tagged, tagU8])⟩, trivial⟩, trivial⟩ ?_
     refine xe_then ?_
     refine x_block ?_
     refine x_loop (X := Int × Lattice × l00Src) (fun x => mkS [(0, .ref 7001 0), (4, .ref 4 0), (5, .ref 5 0), (6, I n), (7, I x.1)] [(4, .box [I 0, nilA]), (5, bxLatticeT x.2.1), (7001, bxl00Src x.2.2)]) (fun x => (okSrc x.2.2 ∧ x.2.2.code = s.code ∧ s.atx ≤ x.2.2.atx ∧ x.2.2.atx ≤ s.atx + 12 + 50 * n + 8 * (5 - x.1)) ∧ (0 ≤ x.1 ∧ x.1 ≤ 4) ∧ (okLat x.2.1) ∧ (x.2.1.Nodes = out.Nodes) ∧ (degI x.2.1 n (4 - x.1)) ∧ True) (fun x => x.1.toNat) (v_2, out, s'_2) rfl (show (okSrc s'_2 ∧ s'_2.code = s.code ∧ s.atx ≤ s'_2.atx ∧ s'_2.atx ≤ s.atx + 12 + 50 * n + 8 * (5 - v_2)) ∧ (0 ≤ v_2 ∧ v_2 ≤ 4) ∧ (okLat out) ∧ (out.Nodes = out.Nodes) ∧ (degI out n (4 - v_2)) ∧ True from ⟨(by exact ⟨by assumption, by first | assumption | rfl | (simp only [*]; done), by omega, by omega⟩), (by omega), (by assumption), (by rfl), (by exact degI_mono hdg (by omega)), trivial⟩) (fun x hI => ?_)
     obtain ⟨k, out', src'⟩ := x
     obtain ⟨hs0, hk0, hla, hno2, hdg, _⟩ : (okSrc src' ∧ src'.code = s.code ∧ s.atx ≤ src'.atx ∧ src'.atx ≤ s.atx + 12 + 50 * n + 8 * (5 - k)) ∧ (0 ≤ k ∧ k ≤ 4) ∧ (okLat out') ∧ (out'.Nodes = out.Nodes) ∧ (degI out' n (4 - k)) ∧ True := hI
     show XW _ _ _ _ (mkS [(0, .ref 7001 0), (4, .ref 4 0), (5, .ref 5 0), (6, I n), (7, I k)] [(4, .box [I 0, nilA]), (5, bxLatticeT out'), (7001, bxl00Src src')]) _ _
     refine x_seq ?_
     refine x_seq ?_
     by_cases h2 : 0 < k
     ·refine x_r [(1, .dec true)] [0, 4, 5, 6, 7, 27] [4, 5, 7001] [.ref 7001 0, .ref 4 0, .ref 5 0, I n, I k, Bv true] [some (.box [I 0, nilA]), some (bxLatticeT out'), some (bxl00Src src')] [0 < k] ⟨h2, trivial⟩ ?_
      refine xe_then ?_
      refine x_true rfl ?_
      refine x_skip ?_
      refine xe_then ?_
      refine x_seq ?_
      refine x_block ?_
      refine x_seq ?_
      obtain ⟨v_3, s'_3, hx3_0, hx3_1, hx3_2, hx3_3, hc3⟩ := pick_ok src' 2 (by first | assumption | (simp only [okSrc] at *; simp_all; done)) (by omega)
      refine x_r [(3, .lend [(7001, bxl00Src src', bxl00Src s'_3)] [] [(true, .any), (true, .any)] true (I v_3))] [0, 4, 5, 6, 7, 8] [4, 5, 7001] [.ref 7001 0, .ref 4 0, .ref 5 0, I n, I k, I ((n + 1) + v_3)] [some (.box [I 0, nilA]), some (bxLatticeT out'), some (bxl00Src s'_3)] [inR .i64 (n + 1), CallOK Tryz.prog 31 [.ref 7001 0, I 2] (lookO [(7001, bxl00Src src')]) true (I v_3) (lookO [(7001, bxl00Src s'_3)]) ∧ (((bxl00Src src' : Ob) = bxl00Src src' ∨ obLe noOb true (bxl00Src src') (bxl00Src src')) ∧ taggedO false (bxl00Src src')) ∧ True, inR .i64 ((n + 1) + v_3)] ⟨(inR_i64 (by omega) (by omega)), ⟨hc3, ⟨.inl rfl, (by simp [taggedO, taggedL, tagged, tagU8])⟩, trivial⟩, (inR_i64 (by omega) (by omega)), trivial⟩ ?_
      refine xe_then ?_
      refine x_seq ?_
      obtain ⟨v_4, s'_4, hx4_0, hx4_1, hx4_2, hx4_3, hx4_4, hc4⟩ := text_ok s'_3 ([(⟨#[97]⟩ : ByteArray), (⟨#[110]⟩ : ByteArray), (⟨#[116]⟩ : ByteArray), (⟨#[101]⟩ : ByteArray), (⟨#[115]⟩ : ByteArray), (⟨#[105]⟩ : ByteArray)]) (by first | assumption | (simp only [okSrc] at *; simp_all; done)) (by omega) (by decide)
      have hlab : okLabel v_4 = true := by have q := hx4_4; simp only [List.mem_cons, List.not_mem_nil, or_false] at q; rcases q with q | q | q | q | q | q <;> rw [q] <;> decide
      obtain ⟨v_5, s'_5, hx5_0, hx5_1, hx5_2, hx5_3, hc5⟩ := pick_ok s'_4 40 (by first | assumption | (simp only [okSrc] at *; simp_all; done)) (by omega)
      refine x_r [(5, .call [(true, .any), (true, .any)] true (I (min ((n + 1) + v_3) (out'.Nodes - 1)))), (7, .new 42), (8, .lend [(7001, bxl00Src s'_3, bxl00Src s'_4)] [] [(true, .any), (false, slS false ([(⟨#[97]⟩ : ByteArray), (⟨#[110]⟩ : ByteArray), (⟨#[116]⟩ : ByteArray), (⟨#[101]⟩ : ByteArray), (⟨#[115]⟩ : ByteArray), (⟨#[105]⟩ : ByteArray)]))] true (Sv v_4)), (10, .lend [(7001, bxl00Src s'_4, bxl00Src s'_5)] [] [(true, .any), (true, .any)] true (I v_5)), (12, .new 9)] [0, 4, 5, 6, 7, 9] [4, 5, 9, 7001] [.ref 7001 0, .ref 4 0, .ref 5 0, I n, I k, .ref 9 0] [some (.box [I 0, nilA]), some (bxLatticeT out'), some (.box [I n, I (min ((n + 1) + v_3) (out'.Nodes - 1)), Sv v_4, I v_5]), some (bxl00Src s'_5)] [inR .i64 (out'.Nodes - 1), Con Tryz.prog 32 [I ((n + 1) + v_3), I (out'.Nodes - 1)] true (I (min ((n + 1) + v_3) (out'.Nodes - 1))) ∧ True, CallOK Tryz.prog 33 [.ref 7001 0, slS false ([(⟨#[97]⟩ : ByteArray), (⟨#[110]⟩ : ByteArray), (⟨#[116]⟩ : ByteArray), (⟨#[101]⟩ : ByteArray), (⟨#[115]⟩ : ByteArray), (⟨#[105]⟩ : ByteArray)])] (lookO [(7001, bxl00Src s'_3)]) true (Sv v_4) (lookO [(7001, bxl00Src s'_4)]) ∧ ((false = true → true = true) ∧ 1 = 1 ∧ 6 = (([(⟨#[97]⟩ : ByteArray), (⟨#[110]⟩ : ByteArray), (⟨#[116]⟩ : ByteArray), (⟨#[101]⟩ : ByteArray), (⟨#[115]⟩ : ByteArray), (⟨#[105]⟩ : ByteArray)]).length) ∧ ∀ i_, i_ < (([(⟨#[97]⟩ : ByteArray), (⟨#[110]⟩ : ByteArray), (⟨#[116]⟩ : ByteArray), (⟨#[101]⟩ : ByteArray), (⟨#[115]⟩ : ByteArray), (⟨#[105]⟩ : ByteArray)]).length) → (litF [Sv (⟨#[97]⟩ : ByteArray), Sv (⟨#[110]⟩ : ByteArray), Sv (⟨#[116]⟩ : ByteArray), Sv (⟨#[101]⟩ : ByteArray), Sv (⟨#[115]⟩ : ByteArray), Sv (⟨#[105]⟩ : ByteArray)] 1) i_ = (fS ([(⟨#[97]⟩ : ByteArray), (⟨#[110]⟩ : ByteArray), (⟨#[116]⟩ : ByteArray), (⟨#[101]⟩ : ByteArray), (⟨#[115]⟩ : ByteArray), (⟨#[105]⟩ : ByteArray)])) i_ ∨ (AV.idsL ((fS ([(⟨#[97]⟩ : ByteArray), (⟨#[110]⟩ : ByteArray), (⟨#[116]⟩ : ByteArray), (⟨#[101]⟩ : ByteArray), (⟨#[115]⟩ : ByteArray), (⟨#[105]⟩ : ByteArray)])) i_) = [] ∧ leL (fun _ => none) false ((litF [Sv (⟨#[97]⟩ : ByteArray), Sv (⟨#[110]⟩ : ByteArray), Sv (⟨#[116]⟩ : ByteArray), Sv (⟨#[101]⟩ : ByteArray), Sv (⟨#[115]⟩ : ByteArray), Sv (⟨#[105]⟩ : ByteArray)] 1) i_) ((fS ([(⟨#[97]⟩ : ByteArray), (⟨#[110]⟩ : ByteArray), (⟨#[116]⟩ : ByteArray), (⟨#[101]⟩ : ByteArray), (⟨#[115]⟩ : ByteArray), (⟨#[105]⟩ : ByteArray)])) i_))) ∧ (((bxl00Src s'_3 : Ob) = bxl00Src s'_3 ∨ obLe noOb true (bxl00Src s'_3) (bxl00Src s'_3)) ∧ taggedO false (bxl00Src s'_3)) ∧ True, CallOK Tryz.prog 31 [.ref 7001 0, I 40] (lookO [(7001, bxl00Src s'_4)]) true (I v_5) (lookO [(7001, bxl00Src s'_5)]) ∧ (((bxl00Src s'_4 : Ob) = bxl00Src s'_4 ∨ obLe noOb true (bxl00Src s'_4) (bxl00Src s'_4)) ∧ taggedO false (bxl00Src s'_4)) ∧ True] ⟨(inR_i64 (by omega) (by omega)), ⟨(l00Min_ok ((n + 1) + v_3) (out'.Nodes - 1)), trivial⟩, ⟨hc4, ⟨(fun h => by cases h), rfl, (by first | rfl | (simp; done) | (simp; omega) | omega), fun i_ hi_ => .inl (match i_, hi_ with | 0, _ => rfl | 1, _ => rfl | 2, _ => rfl | 3, _ => rfl | 4, _ => rfl | 5, _ => rfl | (i + 6), h => absurd h (by simp))⟩, ⟨.inl rfl, (by simp [taggedO, taggedL, tagged, tagU8])⟩, trivial⟩, ⟨hc5, ⟨.inl rfl, (by simp [taggedO, taggedL, tagged, tagU8])⟩, trivial⟩, trivial⟩ ?_
      refine xe_then ?_
      refine x_seq ?_
      obtain ⟨v_6, c_6, hx6_0, hx6_1, hc6⟩ := specAddEdge_ok out' (Edge.mk n (min ((n + 1) + v_3) (out'.Nodes - 1)) v_4 v_5) hla (show okEd _ _ from ⟨⟨by dsimp only; omega, by dsimp only; omega, by dsimp only; omega⟩, ⟨by dsimp only; omega, by dsimp only; omega⟩, hlab⟩)
      have hadd := hx6_0
      refine x_r [(2, .call [(false, agLattice out'), (true, .any)] true (.tup [agLatticeT v_6, I c_6])), (6, .new 10)] [0, 4, 5, 6, 7, 10, 11] [4, 5, 10, 7001] [.ref 7001 0, .ref 4 0, .ref 5 0, I n, I k, .ref 10 0, I c_6] [some (.box [I 0, nilA]), some (bxLatticeT out'), some (bxLatticeT v_6), some (bxl00Src s'_5)] [Con Tryz.prog 34 [agLattice out', .agg [I n, I (min ((n + 1) + v_3) (out'.Nodes - 1)), Sv v_4, I v_5]] true (.tup [agLatticeT v_6, I c_6]) ∧ ((valOf (I out'.Nodes) = valOf (I out'.Nodes)) ∧ ((false = true → true = true) ∧ 4 = 4 ∧ out'.Edges.length = out'.Edges.length ∧ ∀ i_, i_ < out'.Edges.length → (fEdge out'.Edges) i_ = (fEdge out'.Edges) i_ ∨ (AV.idsL ((fEdge out'.Edges) i_) = [] ∧ leL (fun _ => none) false ((fEdge out'.Edges) i_) ((fEdge out'.Edges) i_))) ∧ ([] : List AV) = []) ∧ True] ⟨⟨hc6, ⟨rfl, ⟨⟨(fun h => by cases h), rfl, rfl, fun i _ => .inl rfl⟩, rfl⟩⟩, trivial⟩, trivial⟩ ?_
      refine xe_then ?_
      refine x_seq ?_
      by_cases h3 : c_6 = 0
      ·refine x_r [(1, .dec true)] [0, 4, 5, 6, 7, 10, 54] [4, 5, 10, 7001] [.ref 7001 0, .ref 4 0, .ref 5 0, I n, I k, .ref 10 0, Bv true] [some (.box [I 0, nilA]), some (bxLatticeT out'), some (bxLatticeT v_6), some (bxl00Src s'_5)] [c_6 = 0] ⟨h3, trivial⟩ ?_
       refine xe_then ?_
       refine x_true rfl ?_
       refine x_r [] [0, 4, 5, 6, 7] [4, 5, 7001] [.ref 7001 0, .ref 4 0, .ref 5 0, I n, I k] [some (.box [I 0, nilA]), some (bxLatticeT v_6), some (bxl00Src s'_5)] [] trivial ?_
       refine xe_block 3 ?_
       refine xe_then ?_
       refine x_r [] [0, 4, 5, 6, 7] [4, 5, 7001] [.ref 7001 0, .ref 4 0, .ref 5 0, I n, I (k - 1)] [some (.box [I 0, nilA]), some (bxLatticeT v_6), some (bxl00Src s'_5)] [inR .i64 (k - 1)] ⟨(inR_i64 (by omega) (by omega)), trivial⟩ ?_
       exact xe_again ((k - 1), v_6, s'_5) rfl (show (okSrc s'_5 ∧ s'_5.code = s.code ∧ s.atx ≤ s'_5.atx ∧ s'_5.atx ≤ s.atx + 12 + 50 * n + 8 * (5 - (k - 1))) ∧ (0 ≤ (k - 1) ∧ (k - 1) ≤ 4) ∧ (okLat v_6) ∧ (v_6.Nodes = out.Nodes) ∧ (degI v_6 n (4 - (k - 1))) ∧ True from ⟨(by exact ⟨by assumption, by first | assumption | rfl | (simp only [*]; done), by omega, by omega⟩), (by omega), (by first | exact (hadd (by omega)).1 | assumption), (by first | exact (hadd (by omega)).2.1.trans hno2 | assumption), (by first | exact degI_mono (degI_put hdg (hadd (by omega)).1 (hadd (by omega)).2.2 rfl) (by omega) | exact degI_mono hdg (by omega)), trivial⟩) (by first | (show ((k - 1).toNat : Nat) < k.toNat; omega) | (dsimp only; omega))
      refine x_r [(1, .dec false)] [0, 4, 5, 6, 7, 10, 54] [4, 5, 10, 7001] [.ref 7001 0, .ref 4 0, .ref 5 0, I n, I k, .ref 10 0, Bv false] [some (.box [I 0, nilA]), some (bxLatticeT out'), some (bxLatticeT v_6), some (bxl00Src s'_5)] [¬ (c_6 = 0)] ⟨h3, trivial⟩ ?_
      refine xe_then ?_
      refine x_false rfl ?_
      refine x_skip ?_
      refine xe_block 3 ?_
      refine xe_then ?_
      refine x_r [] [0, 4, 5, 6, 7] [4, 5, 7001] [.ref 7001 0, .ref 4 0, .ref 5 0, I n, I (k - 1)] [some (.box [I 0, nilA]), some (bxLatticeT out'), some (bxl00Src s'_5)] [inR .i64 (k - 1)] ⟨(inR_i64 (by omega) (by omega)), trivial⟩ ?_
      exact xe_again ((k - 1), out', s'_5) rfl (show (okSrc s'_5 ∧ s'_5.code = s.code ∧ s.atx ≤ s'_5.atx ∧ s'_5.atx ≤ s.atx + 12 + 50 * n + 8 * (5 - (k - 1))) ∧ (0 ≤ (k - 1) ∧ (k - 1) ≤ 4) ∧ (okLat out') ∧ (out'.Nodes = out.Nodes) ∧ (degI out' n (4 - (k - 1))) ∧ True from ⟨(by exact ⟨by assumption, by first | assumption | rfl | (simp only [*]; done), by omega, by omega⟩), (by omega), (by first | exact (hadd (by omega)).1 | assumption), (by first | exact (hadd (by omega)).2.1.trans hno2 | assumption), (by first | exact degI_mono (degI_put hdg (hadd (by omega)).1 (hadd (by omega)).2.2 rfl) (by omega) | exact degI_mono hdg (by omega)), trivial⟩) (by first | (show ((k - 1).toNat : Nat) < k.toNat; omega) | (dsimp only; omega))
     refine x_r [(1, .dec false)] [0, 4, 5, 6, 7, 27] [4, 5, 7001] [.ref 7001 0, .ref 4 0, .ref 5 0, I n, I k, Bv false] [some (.box [I 0, nilA]), some (bxLatticeT out'), some (bxl00Src src')] [¬ (0 < k)] ⟨h2, trivial⟩ ?_
     refine xe_then ?_
     refine x_false rfl ?_
     refine x_exit ?_
     refine xe_exit_then ?_
     refine xe_loop_exit ?_
     refine xe_exit_same ?_
     refine xe_block 1 ?_
     refine xe_then ?_
     refine x_r [] [0, 4, 5, 6] [4, 5, 7001] [.ref 7001 0, .ref 4 0, .ref 5 0, I (n + 1)] [some (.box [I 0, nilA]), some (bxLatticeT out'), some (bxl00Src src')] [inR .i64 (n + 1)] ⟨(inR_i64 (by omega) (by omega)), trivial⟩ ?_
     exact xe_again ((n + 1), out', src') rfl (show (okSrc src' ∧ src'.code = s.code ∧ s.atx ≤ src'.atx ∧ src'.atx ≤ s.atx + 10 + 50 * (n + 1)) ∧ (0 ≤ (n + 1) ∧ (n + 1) ≤ 6) ∧ (okLat out') ∧ (out'.Nodes ≤ 6 ∧ ((n + 1) < out'.Nodes)) ∧ (degI out' (n + 1) 0) ∧ True from ⟨(by first | exact ⟨hs0.1, hs0.2.1, by omega, by omega⟩ | (exact ⟨by assumption, by first | assumption | rfl | (simp only [*]; done), by omega, by omega⟩)), (by omega), (by assumption), (by omega), (by exact degI_next (degI_mono hdg (by omega))), trivial⟩) (by first | (show ((out'.Nodes - (n + 1)).toNat : Nat) < (out.Nodes - n).toNat; omega) | (dsimp only; omega))
    refine x_r [(4, .dec false)] [0, 4, 5, 6, 21] [4, 5, 7001] [.ref 7001 0, .ref 4 0, .ref 5 0, I n, Bv false] [some (.box [I 0, nilA]), some (bxLatticeT out), some (bxl00Src src)] [inR .i64 (n + 1), ¬ ((n + 1) < out.Nodes)] ⟨(inR_i64 (by omega) (by omega)), h1, trivial⟩ ?_
    refine xe_then ?_
    refine x_false rfl ?_
    refine x_exit ?_
    refine xe_exit_then ?_
    refine xe_loop_exit ?_
    refine xe_exit_same ?_
    refine xe_then ?_
    refine xR [] [4] [4, 7001] [.ref 4 0] [some (bxLatticeT out), some (bxl00Src src)] [] trivial ?_
    refine x_ret ?_
    refine xe_end (out, src) (show (okSrc src) ∧ (src.code = s.code) ∧ (s.atx + 0 ≤ src.atx ∧ src.atx ≤ s.atx + 400) ∧ (okLat out) ∧ (degL out) ∧ (True) from ⟨(by first | omega | assumption | exact hs0.1 | exact hs0.2.1 | exact degI_end (degI_mono hdg (by omega)) (by omega)), (by first | omega | assumption | exact hs0.1 | exact hs0.2.1 | exact degI_end (degI_mono hdg (by omega)) (by omega)), (by first | omega | assumption | exact hs0.1 | exact hs0.2.1 | exact degI_end (degI_mono hdg (by omega)) (by omega)), (by first | omega | assumption | exact hs0.1 | exact hs0.2.1 | exact degI_end (degI_mono hdg (by omega)) (by omega)), (by first | omega | assumption | exact hs0.1 | exact hs0.2.1 | exact degI_end (degI_mono hdg (by omega)) (by omega)), trivial⟩) (⟨.inl rfl, trivial⟩) (agLatticeT out) (by kernel_rfl) (.inl rfl) (fun _ => rfl) (fun _ => (by simp [tagged, taggedL, tagEdge]))
  obtain ⟨⟨v, s'⟩, ⟨hh0, hh1, hh2, hh3, hh4, _⟩, hc⟩ := hh
  exact ⟨v, s', hh0, hh1, hh2, hh3, hh4, hc⟩



def letB (n : Int) : Bool := inB n 97 122
def okWord (s : ByteArray) : Bool := decide (1 ≤ s.size ∧ s.size ≤ 10) && allN s.size (fun j => letB (bAt s j))
theorem okWord_iff {s : ByteArray} : okWord s = true ↔ (1 ≤ s.size ∧ s.size ≤ 10) ∧ ∀ j : Nat, j < s.size → letB (bAt s j) = true := by
  unfold okWord
  rw [Bool.and_eq_true, decide_eq_true_eq]
  exact ⟨fun h => ⟨h.1, fun j hj => allN_get h.2 hj⟩, fun h => ⟨h.1, allN_at h.2⟩⟩
theorem okWord_no {s : ByteArray} {j : Nat} (hj : j < s.size) (h : letB (bAt s j) = false) : okWord s = false := Bool.eq_false_iff.2 fun q => by rw [(okWord_iff.1 q).2 j hj] at h; cases h
theorem okWord_sz {s : ByteArray} (h : ∀ j : Nat, j < s.size → letB (bAt s j) = true) : okWord s = decide (1 ≤ s.size ∧ s.size ≤ 10) := by unfold okWord; rw [allN_at h, Bool.and_true]
def cmpN (a b : Entry) : Int := cmpS a.Word b.Word
theorem cmpN_w : CmpW cmpN := cmpS_w.map Entry.Word
def okEnt (e : Entry) : Prop := okWord e.Word = true ∧ (0 ≤ e.Cost ∧ e.Cost ≤ 1000000)
def okLex (x : Lexicon) : Prop := x.Entries.length ≤ 60 ∧ (∀ e ∈ x.Entries, okEnt e) ∧ x.Entries.Pairwise fun x y => cmpN x y < 0
def cmpG (a b : Bigram) : Int := orL [cmpS a.First b.First, cmpS a.Second b.Second]
def okBig (b : Bigram) : Prop := okWord b.Second = true ∧ (b.First = ⟨#[]⟩ ∨ okWord b.First = true) ∧ (0 ≤ b.Cost ∧ b.Cost ≤ 1000000)
def okMod (m : Model) : Prop := (0 ≤ m.Default ∧ m.Default ≤ 1000000) ∧ m.Bigrams.length ≤ 60 ∧ (∀ b ∈ m.Bigrams, okBig b) ∧ m.Bigrams.Pairwise fun x y => cmpG x y < 0


-- spec.l16Words
theorem l16Words_ok : ∃ (v : List ByteArray), ((0 < v.length ∧ v.length ≤ 1000) ∧ ∀ z ∈ v, z.size ≤ 16) ∧ (∀ z ∈ v, okWord z = true) ∧ Con Tryz.prog 35 [] true (slS true v) := by
  have hh : ∃ r : (List ByteArray), (((0 < r.length ∧ r.length ≤ 1000) ∧ ∀ z ∈ r, z.size ≤ 16) ∧ (∀ z ∈ r, okWord z = true) ∧ (True)) ∧ CallOK Tryz.prog 35 [] (lookO []) true (slS true r) (lookO []) := by
    refine fn_okX (Φ := fun r : (List ByteArray) => ((0 < r.length ∧ r.length ≤ 1000) ∧ ∀ z ∈ r, z.size ≤ 16) ∧ (∀ z ∈ r, okWord z = true) ∧ (True)) [] (fun r => []) (fn := Tryz.f35) (nt := 2) Tryz.func35 rfl rfl (args := []) rfl allnil (res := fun r => slS true r) ?_
    refine xR [] [] [] [] [] [] trivial ?_
    refine xR [(0, .new 1)] [0] [1] [.arr 1] [some (.arr 1 24 (litF [Sv (⟨#[97]⟩ : ByteArray), Sv (⟨#[97, 110]⟩ : ByteArray), Sv (⟨#[97, 110, 116]⟩ : ByteArray), Sv (⟨#[97, 116]⟩ : ByteArray), Sv (⟨#[97, 116, 101]⟩ : ByteArray), Sv (⟨#[101, 97, 116]⟩ : ByteArray), Sv (⟨#[101]⟩ : ByteArray), Sv (⟨#[101, 110]⟩ : ByteArray), Sv (⟨#[105]⟩ : ByteArray), Sv (⟨#[105, 110]⟩ : ByteArray), Sv (⟨#[105, 115]⟩ : ByteArray), Sv (⟨#[105, 116]⟩ : ByteArray), Sv (⟨#[110, 101, 115, 116]⟩ : ByteArray), Sv (⟨#[110, 101, 116]⟩ : ByteArray), Sv (⟨#[115, 101, 116]⟩ : ByteArray), Sv (⟨#[115, 105, 116]⟩ : ByteArray), Sv (⟨#[115, 97, 116]⟩ : ByteArray), Sv (⟨#[115, 105, 116, 101]⟩ : ByteArray), Sv (⟨#[116, 101, 97]⟩ : ByteArray), Sv (⟨#[116, 101, 110]⟩ : ByteArray), Sv (⟨#[116, 101, 115, 116]⟩ : ByteArray), Sv (⟨#[116, 105, 101]⟩ : ByteArray), Sv (⟨#[116, 105, 110]⟩ : ByteArray), Sv (⟨#[116, 105]⟩ : ByteArray)] 1))] [] trivial ?_
    refine x_ret ?_
    refine xe_end ([(⟨#[97]⟩ : ByteArray), (⟨#[97, 110]⟩ : ByteArray), (⟨#[97, 110, 116]⟩ : ByteArray), (⟨#[97, 116]⟩ : ByteArray), (⟨#[97, 116, 101]⟩ : ByteArray), (⟨#[101, 97, 116]⟩ : ByteArray), (⟨#[101]⟩ : ByteArray), (⟨#[101, 110]⟩ : ByteArray), (⟨#[105]⟩ : ByteArray), (⟨#[105, 110]⟩ : ByteArray), (⟨#[105, 115]⟩ : ByteArray), (⟨#[105, 116]⟩ : ByteArray), (⟨#[110, 101, 115, 116]⟩ : ByteArray), (⟨#[110, 101, 116]⟩ : ByteArray), (⟨#[115, 101, 116]⟩ : ByteArray), (⟨#[115, 105, 116]⟩ : ByteArray), (⟨#[115, 97, 116]⟩ : ByteArray), (⟨#[115, 105, 116, 101]⟩ : ByteArray), (⟨#[116, 101, 97]⟩ : ByteArray), (⟨#[116, 101, 110]⟩ : ByteArray), (⟨#[116, 101, 115, 116]⟩ : ByteArray), (⟨#[116, 105, 101]⟩ : ByteArray), (⟨#[116, 105, 110]⟩ : ByteArray), (⟨#[116, 105]⟩ : ByteArray)]) (show ((0 < ([(⟨#[97]⟩ : ByteArray), (⟨#[97, 110]⟩ : ByteArray), (⟨#[97, 110, 116]⟩ : ByteArray), (⟨#[97, 116]⟩ : ByteArray), (⟨#[97, 116, 101]⟩ : ByteArray), (⟨#[101, 97, 116]⟩ : ByteArray), (⟨#[101]⟩ : ByteArray), (⟨#[101, 110]⟩ : ByteArray), (⟨#[105]⟩ : ByteArray), (⟨#[105, 110]⟩ : ByteArray), (⟨#[105, 115]⟩ : ByteArray), (⟨#[105, 116]⟩ : ByteArray), (⟨#[110, 101, 115, 116]⟩ : ByteArray), (⟨#[110, 101, 116]⟩ : ByteArray), (⟨#[115, 101, 116]⟩ : ByteArray), (⟨#[115, 105, 116]⟩ : ByteArray), (⟨#[115, 97, 116]⟩ : ByteArray), (⟨#[115, 105, 116, 101]⟩ : ByteArray), (⟨#[116, 101, 97]⟩ : ByteArray), (⟨#[116, 101, 110]⟩ : ByteArray), (⟨#[116, 101, 115, 116]⟩ : ByteArray), (⟨#[116, 105, 101]⟩ : ByteArray), (⟨#[116, 105, 110]⟩ : ByteArray), (⟨#[116, 105]⟩ : ByteArray)]).length ∧ ([(⟨#[97]⟩ : ByteArray), (⟨#[97, 110]⟩ : ByteArray), (⟨#[97, 110, 116]⟩ : ByteArray), (⟨#[97, 116]⟩ : ByteArray), (⟨#[97, 116, 101]⟩ : ByteArray), (⟨#[101, 97, 116]⟩ : ByteArray), (⟨#[101]⟩ : ByteArray), (⟨#[101, 110]⟩ : ByteArray), (⟨#[105]⟩ : ByteArray), (⟨#[105, 110]⟩ : ByteArray), (⟨#[105, 115]⟩ : ByteArray), (⟨#[105, 116]⟩ : ByteArray), (⟨#[110, 101, 115, 116]⟩ : ByteArray), (⟨#[110, 101, 116]⟩ : ByteArray), (⟨#[115, 101, 116]⟩ : ByteArray), (⟨#[115, 105, 116]⟩ : ByteArray), (⟨#[115, 97, 116]⟩ : ByteArray), (⟨#[115, 105, 116, 101]⟩ : ByteArray), (⟨#[116, 101, 97]⟩ : ByteArray), (⟨#[116, 101, 110]⟩ : ByteArray), (⟨#[116, 101, 115, 116]⟩ : ByteArray), (⟨#[116, 105, 101]⟩ : ByteArray), (⟨#[116, 105, 110]⟩ : ByteArray), (⟨#[116, 105]⟩ : ByteArray)]).length ≤ 1000) ∧ ∀ z ∈ ([(⟨#[97]⟩ : ByteArray), (⟨#[97, 110]⟩ : ByteArray), (⟨#[97, 110, 116]⟩ : ByteArray), (⟨#[97, 116]⟩ : ByteArray), (⟨#[97, 116, 101]⟩ : ByteArray), (⟨#[101, 97, 116]⟩ : ByteArray), (⟨#[101]⟩ : ByteArray), (⟨#[101, 110]⟩ : ByteArray), (⟨#[105]⟩ : ByteArray), (⟨#[105, 110]⟩ : ByteArray), (⟨#[105, 115]⟩ : ByteArray), (⟨#[105, 116]⟩ : ByteArray), (⟨#[110, 101, 115, 116]⟩ : ByteArray), (⟨#[110, 101, 116]⟩ : ByteArray), (⟨#[115, 101, 116]⟩ : ByteArray), (⟨#[115, 105, 116]⟩ : ByteArray), (⟨#[115, 97, 116]⟩ : ByteArray), (⟨#[115, 105, 116, 101]⟩ : ByteArray), (⟨#[116, 101, 97]⟩ : ByteArray), (⟨#[116, 101, 110]⟩ : ByteArray), (⟨#[116, 101, 115, 116]⟩ : ByteArray), (⟨#[116, 105, 101]⟩ : ByteArray), (⟨#[116, 105, 110]⟩ : ByteArray), (⟨#[116, 105]⟩ : ByteArray)]), z.size ≤ 16) ∧ (∀ z ∈ ([(⟨#[97]⟩ : ByteArray), (⟨#[97, 110]⟩ : ByteArray), (⟨#[97, 110, 116]⟩ : ByteArray), (⟨#[97, 116]⟩ : ByteArray), (⟨#[97, 116, 101]⟩ : ByteArray), (⟨#[101, 97, 116]⟩ : ByteArray), (⟨#[101]⟩ : ByteArray), (⟨#[101, 110]⟩ : ByteArray), (⟨#[105]⟩ : ByteArray), (⟨#[105, 110]⟩ : ByteArray), (⟨#[105, 115]⟩ : ByteArray), (⟨#[105, 116]⟩ : ByteArray), (⟨#[110, 101, 115, 116]⟩ : ByteArray), (⟨#[110, 101, 116]⟩ : ByteArray), (⟨#[115, 101, 116]⟩ : ByteArray), (⟨#[115, 105, 116]⟩ : ByteArray), (⟨#[115, 97, 116]⟩ : ByteArray), (⟨#[115, 105, 116, 101]⟩ : ByteArray), (⟨#[116, 101, 97]⟩ : ByteArray), (⟨#[116, 101, 110]⟩ : ByteArray), (⟨#[116, 101, 115, 116]⟩ : ByteArray), (⟨#[116, 105, 101]⟩ : ByteArray), (⟨#[116, 105, 110]⟩ : ByteArray), (⟨#[116, 105]⟩ : ByteArray)]), okWord z = true) ∧ (True) from ⟨(by decide), (by decide), trivial⟩) (trivial) (.arr 1) (by kernel_rfl) (.inr ⟨(fun _ => rfl), rfl, (by first | rfl | (simp; done) | (simp; omega) | omega), fun i_ hi_ => .inl (match i_, hi_ with | 0, _ => rfl | 1, _ => rfl | 2, _ => rfl | 3, _ => rfl | 4, _ => rfl | 5, _ => rfl | 6, _ => rfl | 7, _ => rfl | 8, _ => rfl | 9, _ => rfl | 10, _ => rfl | 11, _ => rfl | 12, _ => rfl | 13, _ => rfl | 14, _ => rfl | 15, _ => rfl | 16, _ => rfl | 17, _ => rfl | 18, _ => rfl | 19, _ => rfl | 20, _ => rfl | 21, _ => rfl | 22, _ => rfl | 23, _ => rfl | (i + 24), h => absurd h (by simp))⟩) (fun _ => rfl) (fun _ => (tagS true _))
  obtain ⟨v, ⟨hh0, hh1, _⟩, hc⟩ := hh
  exact ⟨v, hh0, hh1, hc⟩



theorem flt_pw {α : Type} {R : α → α → Prop} {xs : List α} (p : α → Bool) (h : xs.Pairwise R) : (xs.filter p).Pairwise R := h.sublist List.filter_sublist
theorem flt_next {α : Type} [Inhabited α] {xs : List α} {p : α → Bool} {k : Nat} (h : k < xs.length) : (xs.take (k + 1)).filter p = (xs.take k).filter p ++ (if p (at_ xs k) = true then [at_ xs k] else []) := by
  rw [List.take_add_one, List.getElem?_eq_getElem h, ← at_eq h, List.filter_append]
  simp only [Option.toList, List.filter_cons, List.filter_nil]


-- spec.l16Without
theorem l16Without_ok (lx : Lexicon) (word : ByteArray) (hlx : lx.Entries.length ≤ 1000) : ∃ (v : List Entry), (v = lx.Entries.filter fun e => !decide (e.Word = word)) ∧ Con Tryz.prog 37 [.ptr false [slEntry false lx.Entries], Sv word] true (slEntry true v) := by
  have hh : ∃ r : (List Entry), ((r = lx.Entries.filter fun e => !decide (e.Word = word)) ∧ (True)) ∧ CallOK Tryz.prog 37 [.ptr false [slEntry false lx.Entries], Sv word] (lookO []) true (slEntry true r) (lookO []) := by
    refine fn_okX (Φ := fun r : (List Entry) => (r = lx.Entries.filter fun e => !decide (e.Word = word)) ∧ (True)) [] (fun r => []) (fn := Tryz.f37) (nt := 38) Tryz.func37 rfl rfl (args := [.ptr false [slEntry false lx.Entries], Sv word]) rfl (allcons (.inl ⟨rfl, by simp [tagged, taggedL, tagEntry]⟩) (allcons (.inl ⟨rfl, trivial⟩) allnil)) (res := fun r => slEntry true r) ?_
    refine xR [] [0, 1] [] [.ptr false [slEntry false lx.Entries], Sv word] [] [] trivial ?_
    refine xR [(0, .new 7)] [0, 1, 5] [7] [.ptr false [slEntry false lx.Entries], Sv word, .arr 7] [some (.arr 2 0 (litF [] 2))] [] trivial ?_
    refine x_seq ?_
    refine xR [] [0, 1, 5, 6] [7] [.ptr false [slEntry false lx.Entries], Sv word, .arr 7, I 0] [some (.arr 2 0 (litF [] 2))] [] trivial ?_
    refine x_block ?_
    refine x_weak [] (T := [(0, .ptr false [slEntry false lx.Entries]), (1, Sv word), (5, .arr 7), (6, I 0)]) (O := [(7, tAEntry ([] : List Entry))]) rfl (⟨.inl rfl, .inl rfl, .inl rfl, .inl rfl, trivial⟩) (⟨.inr ⟨rfl, (by first | rfl | (simp; done) | (simp; omega) | omega), fun i_ hi_ => absurd hi_ (Nat.not_lt_zero _)⟩, trivial⟩) ?_
    refine x_loop (X := (List Entry) × Int) (fun x => mkS [(0, .ptr false [slEntry false lx.Entries]), (1, Sv word), (5, .arr 7), (6, I x.2)] [(7, tAEntry x.1)]) (fun x => (0 ≤ x.2 ∧ x.2 ≤ (lx.Entries.length : Int)) ∧ ((x.1.length : Int) ≤ x.2) ∧ (x.1 = (lx.Entries.take x.2.toNat).filter fun e => !decide (e.Word = word)) ∧ True) (fun x => ((lx.Entries.length : Int) - x.2).toNat) (([] : List Entry), 0) rfl (show (0 ≤ (0 : Int) ∧ (0 : Int) ≤ (lx.Entries.length : Int)) ∧ ((([] : List Entry).length : Int) ≤ (0 : Int)) ∧ (([] : List Entry) = (lx.Entries.take (0 : Int).toNat).filter fun e => !decide (e.Word = word)) ∧ True from ⟨(by omega), (by (simp; try omega)), (by rfl), trivial⟩) (fun x hI => ?_)
    obtain ⟨out, i⟩ := x
    obtain ⟨hi0, hol, hou, _⟩ : (0 ≤ i ∧ i ≤ (lx.Entries.length : Int)) ∧ ((out.length : Int) ≤ i) ∧ (out = (lx.Entries.take i.toNat).filter fun e => !decide (e.Word = word)) ∧ True := hI
    show XW _ _ _ _ (mkS [(0, .ptr false [slEntry false lx.Entries]), (1, Sv word), (5, .arr 7), (6, I i)] [(7, tAEntry out)]) _ _
    refine x_seq ?_
    refine x_seq ?_
    by_cases h1 : i < (lx.Entries.length : Int)
    ·have hi : i.toNat < lx.Entries.length := by omega
     refine x_r [(6, .dec true)] [0, 1, 5, 6, 14] [7] [.ptr false [slEntry false lx.Entries], Sv word, .arr 7, I i, Bv true] [some (tAEntry out)] [i < (lx.Entries.length : Int)] ⟨h1, trivial⟩ ?_
     refine xe_then ?_
     refine x_true rfl ?_
     refine x_skip ?_
     refine xe_then ?_
     refine x_seq ?_
     refine x_block ?_
     refine x_seq ?_
     by_cases h2 : ((at_ lx.Entries i.toNat).Word) = word
     ·refine x_r [(9, .dec false)] [0, 1, 5, 6, 26] [7] [.ptr false [slEntry false lx.Entries], Sv word, .arr 7, I i, Bv false] [some (tAEntry out)] [(0 : Int) ≤ i ∧ i < (lx.Entries.length : Int), ¬ (((at_ lx.Entries i.toNat).Word) ≠ word)] ⟨⟨(by omega), (by omega)⟩, (fun hq => hq h2), trivial⟩ ?_
      refine xe_then ?_
      refine x_false rfl ?_
      refine x_skip ?_
      refine xe_block 1 ?_
      refine xe_then ?_
      refine x_r [] [0, 1, 5, 6] [7] [.ptr false [slEntry false lx.Entries], Sv word, .arr 7, I (i + 1)] [some (tAEntry out)] [inR .i64 (i + 1)] ⟨(inR_i64 (by omega) (by omega)), trivial⟩ ?_
      exact xe_again (out, (i + 1)) rfl (show (0 ≤ (i + 1) ∧ (i + 1) ≤ (lx.Entries.length : Int)) ∧ ((out.length : Int) ≤ (i + 1)) ∧ (out = (lx.Entries.take (i + 1).toNat).filter fun e => !decide (e.Word = word)) ∧ True from ⟨(by omega), (by first | omega | (simp; omega)), (by rw [show (i + 1).toNat = i.toNat + 1 from by omega, flt_next hi, hou]; simp [*]), trivial⟩) (by first | (show (((lx.Entries.length : Int) - (i + 1)).toNat : Nat) < ((lx.Entries.length : Int) - i).toNat; omega) | (dsimp only; omega))
     refine x_r [(9, .dec true)] [0, 1, 5, 6, 26] [7] [.ptr false [slEntry false lx.Entries], Sv word, .arr 7, I i, Bv true] [some (tAEntry out)] [(0 : Int) ≤ i ∧ i < (lx.Entries.length : Int), ((at_ lx.Entries i.toNat).Word) ≠ word] ⟨⟨(by omega), (by omega)⟩, h2, trivial⟩ ?_
     refine xe_then ?_
     refine x_true rfl ?_
     refine x_r [(8, .new 35), (9, .new 36)] [0, 1, 5, 6] [36] [.ptr false [slEntry false lx.Entries], Sv word, .arr 36, I i] [some (.arr 2 (out.length + 1) (catF out.length (fEntry out) (litF [Sv ((at_ lx.Entries i.toNat).Word), I ((at_ lx.Entries i.toNat).Cost)] 2)))] [(0 : Int) ≤ i ∧ i < (lx.Entries.length : Int), (out.length + 1) * 24 ≤ 140737488355328] ⟨⟨(by omega), (by omega)⟩, (by omega), trivial⟩ ?_
     refine xe_block 1 ?_
     refine xe_then ?_
     refine x_r [] [0, 1, 5, 6] [36] [.ptr false [slEntry false lx.Entries], Sv word, .arr 36, I (i + 1)] [some (.arr 2 (out.length + 1) (catF out.length (fEntry out) (litF [Sv ((at_ lx.Entries i.toNat).Word), I ((at_ lx.Entries i.toNat).Cost)] 2)))] [inR .i64 (i + 1)] ⟨(inR_i64 (by omega) (by omega)), trivial⟩ ?_
     refine xe_weak [(7, 36)] (T := [(0, .ptr false [slEntry false lx.Entries]), (1, Sv word), (5, .arr 7), (6, I (i + 1))]) (O := [(7, tAEntry (out ++ [(at_ lx.Entries i.toNat)]))]) rfl (⟨.inl rfl, .inl rfl, .inl rfl, .inl rfl, trivial⟩) (⟨.inr ⟨rfl, (by first | rfl | (simp; done) | (simp; omega) | omega), fun i_ hi_ => .inl (cat_snoc (enc := cEntry) (xs := out) rfl i_ hi_)⟩, trivial⟩) (xe_again ((out ++ [(at_ lx.Entries i.toNat)]), (i + 1)) rfl (show (0 ≤ (i + 1) ∧ (i + 1) ≤ (lx.Entries.length : Int)) ∧ (((out ++ [(at_ lx.Entries i.toNat)]).length : Int) ≤ (i + 1)) ∧ ((out ++ [(at_ lx.Entries i.toNat)]) = (lx.Entries.take (i + 1).toNat).filter fun e => !decide (e.Word = word)) ∧ True from ⟨(by omega), (by first | omega | (simp; omega)), (by rw [show (i + 1).toNat = i.toNat + 1 from by omega, flt_next hi, hou]; simp [*]), trivial⟩) (by first | (show (((lx.Entries.length : Int) - (i + 1)).toNat : Nat) < ((lx.Entries.length : Int) - i).toNat; omega) | (dsimp only; omega)))
    refine x_r [(6, .dec false)] [0, 1, 5, 6, 14] [7] [.ptr false [slEntry false lx.Entries], Sv word, .arr 7, I i, Bv false] [some (tAEntry out)] [¬ (i < (lx.Entries.length : Int))] ⟨h1, trivial⟩ ?_
    refine xe_then ?_
    refine x_false rfl ?_
    refine x_exit ?_
    refine xe_exit_then ?_
    refine xe_loop_exit ?_
    refine xe_exit_same ?_
    refine xe_then ?_
    refine xR [] [4] [7] [.arr 7] [some (tAEntry out)] [] trivial ?_
    refine x_ret ?_
    refine xe_end out (show (out = lx.Entries.filter fun e => !decide (e.Word = word)) ∧ (True) from ⟨(by rw [hou, show i.toNat = lx.Entries.length from by omega, List.take_length]), trivial⟩) (trivial) (.arr 7) (by kernel_rfl) (.inr ⟨(fun _ => rfl), rfl, rfl, fun i _ => .inl rfl⟩) (fun _ => rfl) (fun _ => (tagEntry true _))
  obtain ⟨v, ⟨hh0, _⟩, hc⟩ := hh
  exact ⟨v, hh0, hc⟩



-- spec.l16Put
theorem l16Put_ok (list : List Entry) (e : Entry) (hp : list.Pairwise fun x_ y_ => cmpN x_ y_ < 0) (hne : ∀ x ∈ list, cmpN x e ≠ 0) (hll : list.length ≤ 1000) : ∃ (v : List Entry), (v.length = list.length + 1) ∧ (∀ x ∈ v, x = e ∨ x ∈ list) ∧ (v.Pairwise fun x_ y_ => cmpN x_ y_ < 0) ∧ Con Tryz.prog 36 [slEntry false list, agEntry e] true (slEntry true v) := by
  have hh : ∃ r : (List Entry), ((r.length = list.length + 1) ∧ (∀ x ∈ r, x = e ∨ x ∈ list) ∧ (r.Pairwise fun x_ y_ => cmpN x_ y_ < 0) ∧ (True)) ∧ CallOK Tryz.prog 36 [slEntry false list, agEntry e] (lookO []) true (slEntry true r) (lookO []) := by
    refine fn_okX (Φ := fun r : (List Entry) => (r.length = list.length + 1) ∧ (∀ x ∈ r, x = e ∨ x ∈ list) ∧ (r.Pairwise fun x_ y_ => cmpN x_ y_ < 0) ∧ (True)) [] (fun r => []) (fn := Tryz.f36) (nt := 38) Tryz.func36 rfl rfl (args := [slEntry false list, agEntry e]) rfl (allcons (.inl ⟨rfl, tagEntry false _⟩) (allcons (.inl ⟨rfl, by simp [tagged, taggedL]⟩) allnil)) (res := fun r => slEntry true r) ?_
    refine xR [(0, .new 3)] [0, 3] [3] [slEntry false list, .ref 3 0] [some (bxEntry e)] [] trivial ?_
    refine xR [] [0, 3, 5] [3] [slEntry false list, .ref 3 0, I (list.length : Int)] [some (bxEntry e)] [] trivial ?_
    refine x_seq ?_
    refine x_block ?_
    refine x_loop (X := Int) (fun x => mkS [(0, slEntry false list), (3, .ref 3 0), (5, I x)] [(3, bxEntry e)]) (fun x => (0 ≤ x ∧ x ≤ (list.length : Int)) ∧ (∀ j : Nat, x ≤ (j : Int) → j < list.length → 0 < cmpN (at_ list j) e) ∧ True) (fun x => x.toNat) (list.length : Int) rfl (show (0 ≤ (list.length : Int) ∧ (list.length : Int) ≤ (list.length : Int)) ∧ (∀ j : Nat, (list.length : Int) ≤ (j : Int) → j < list.length → 0 < cmpN (at_ list j) e) ∧ True from ⟨(by omega), (by intro j h1 h2; omega), trivial⟩) (fun x hI => ?_)
    obtain ⟨k, hxx⟩ : ∃ k : Int, k = x := ⟨x, rfl⟩
    subst hxx
    obtain ⟨hk0, hhi, _⟩ : (0 ≤ k ∧ k ≤ (list.length : Int)) ∧ (∀ j : Nat, k ≤ (j : Int) → j < list.length → 0 < cmpN (at_ list j) e) ∧ True := hI
    show XW _ _ _ _ (mkS [(0, slEntry false list), (3, .ref 3 0), (5, I k)] [(3, bxEntry e)]) _ _
    refine x_seq ?_
    refine x_seq ?_
    by_cases h1 : 0 < k
    ·have hkl : (k - 1).toNat < list.length := by omega
     by_cases h2 : sless ((at_ list ((k - 1).toNat)).Word) e.Word = false ∧ ((at_ list ((k - 1).toNat)).Word) ≠ e.Word
     ·have hgn : ∀ j : Nat, k - 1 ≤ (j : Int) → j < list.length → 0 < cmpN (at_ list j) e := fun j q1 q2 => by by_cases q : (j : Int) = k - 1; (rw [show j = (k - 1).toNat from by omega]; exact (show 0 < cmpN _ _ from cmpS_pos.2 (sl_tri h2.1 h2.2))); (exact hhi j (by omega) q2)
      refine x_r [(1, .dec true), (11, .dec true)] [0, 3, 5, 21] [3] [slEntry false list, .ref 3 0, I k, Bv true] [some (bxEntry e)] [0 < k, inR .i64 (k - 1), (0 : Int) ≤ (k - 1) ∧ (k - 1) < (list.length : Int), sless ((at_ list ((k - 1).toNat)).Word) e.Word = false ∧ ((at_ list ((k - 1).toNat)).Word) ≠ e.Word] ⟨h1, (inR_i64 (by omega) (by omega)), ⟨(by omega), (by omega)⟩, h2, trivial⟩ ?_
      refine xe_then ?_
      refine x_true rfl ?_
      refine x_skip ?_
      refine xe_then ?_
      refine x_block ?_
      refine x_r [] [0, 3, 5] [3] [slEntry false list, .ref 3 0, I (k - 1)] [some (bxEntry e)] [inR .i64 (k - 1)] ⟨(inR_i64 (by omega) (by omega)), trivial⟩ ?_
      refine xe_block 1 ?_
      exact xe_again (k - 1) rfl (show (0 ≤ (k - 1) ∧ (k - 1) ≤ (list.length : Int)) ∧ (∀ j : Nat, (k - 1) ≤ (j : Int) → j < list.length → 0 < cmpN (at_ list j) e) ∧ True from ⟨(by omega), (by exact hgn), trivial⟩) (by first | (show ((k - 1).toNat : Nat) < k.toNat; omega) | (dsimp only; omega))
     have hlo : k.toNat = 0 ∨ ¬ 0 < cmpN (at_ list (k.toNat - 1)) e := Or.inr (by rw [show k.toNat - 1 = (k - 1).toNat from by omega]; exact (fun q => h2 ⟨sl_asym (cmpS_pos.1 q), fun z => sl_ne (cmpS_pos.1 q) z.symm⟩))
     refine x_r [(1, .dec true), (11, .dec false)] [0, 3, 5, 21] [3] [slEntry false list, .ref 3 0, I k, Bv false] [some (bxEntry e)] [0 < k, inR .i64 (k - 1), (0 : Int) ≤ (k - 1) ∧ (k - 1) < (list.length : Int), ¬ (sless ((at_ list ((k - 1).toNat)).Word) e.Word = false ∧ ((at_ list ((k - 1).toNat)).Word) ≠ e.Word)] ⟨h1, (inR_i64 (by omega) (by omega)), ⟨(by omega), (by omega)⟩, h2, trivial⟩ ?_
     refine xe_then ?_
     refine x_false rfl ?_
     refine x_exit ?_
     refine xe_exit_then ?_
     refine xe_loop_exit ?_
     refine xe_exit_same ?_
     refine xe_then ?_
     refine xR [(0, .new 24), (4, .new 28)] [0, 3, 5, 6] [3, 28] [slEntry false list, .ref 3 0, I k, .arr 28] [some (bxEntry e), some (.arr 2 (0 + (k.toNat - 0)) (catF 0 (litF [] 2) (cutF 0 (fEntry list))))] [(0 : Int) ≤ 0 ∧ (0 : Int) ≤ k ∧ k ≤ (list.length : Int), (0 + (k.toNat - 0)) * 24 ≤ 140737488355328] ⟨⟨(by omega), (by omega), (by omega)⟩, (by omega), trivial⟩ ?_
     refine xR [(2, .new 31), (3, .new 32)] [0, 5, 6] [32] [slEntry false list, I k, .arr 32] [some (.arr 2 ((0 + (k.toNat - 0)) + 1) (catF (0 + (k.toNat - 0)) (catF 0 (litF [] 2) (cutF 0 (fEntry list))) (litF [Sv e.Word, I e.Cost] 2)))] [((0 + (k.toNat - 0)) + 1) * 24 ≤ 140737488355328] ⟨(by omega), trivial⟩ ?_
     refine xR [(4, .new 37)] [4] [37] [.arr 37] [some (.arr 2 (((0 + (k.toNat - 0)) + 1) + ((list.length : Int).toNat - k.toNat)) (catF ((0 + (k.toNat - 0)) + 1) (catF (0 + (k.toNat - 0)) (catF 0 (litF [] 2) (cutF 0 (fEntry list))) (litF [Sv e.Word, I e.Cost] 2)) (cutF k.toNat (fEntry list))))] [(0 : Int) ≤ k ∧ k ≤ (list.length : Int) ∧ (list.length : Int) ≤ (list.length : Int), (((0 + (k.toNat - 0)) + 1) + ((list.length : Int).toNat - k.toNat)) * 24 ≤ 140737488355328] ⟨⟨(by omega), (by omega), (by omega)⟩, (by omega), trivial⟩ ?_
     refine x_ret ?_
     refine xe_end (((list.take k.toNat) ++ [e]) ++ (list.drop k.toNat)) (show ((((list.take k.toNat) ++ [e]) ++ (list.drop k.toNat)).length = list.length + 1) ∧ (∀ x ∈ (((list.take k.toNat) ++ [e]) ++ (list.drop k.toNat)), x = e ∨ x ∈ list) ∧ ((((list.take k.toNat) ++ [e]) ++ (list.drop k.toNat)).Pairwise fun x_ y_ => cmpN x_ y_ < 0) ∧ (True) from ⟨(by first | exact ins_len (by omega) | exact fun x hx => ins_mem.1 hx | exact ins_ok cmpN_w hp (by omega) hlo (fun j h1 h2 => hhi j (by omega) h2) hne), (by first | exact ins_len (by omega) | exact fun x hx => ins_mem.1 hx | exact ins_ok cmpN_w hp (by omega) hlo (fun j h1 h2 => hhi j (by omega) h2) hne), (by first | exact ins_len (by omega) | exact fun x hx => ins_mem.1 hx | exact ins_ok cmpN_w hp (by omega) hlo (fun j h1 h2 => hhi j (by omega) h2) hne), trivial⟩) (trivial) (.arr 37) (by kernel_rfl) (.inr ⟨(fun _ => rfl), rfl, (by first | rfl | (simp; done) | (simp; omega) | omega), fun i_ hi_ => .inl (cat_two (enc := cEntry) (xs := ((list.take k.toNat) ++ [e])) (ys := (list.drop k.toNat)) (by first | rfl | (simp; done) | (simp; omega)) (fun i_ hi_ => (cat_two (enc := cEntry) (xs := (list.take k.toNat)) (ys := [e]) (by first | rfl | (simp; done) | (simp; omega)) (fun i_ hi_ => ((cat_nil i_).trans ((fun i_ hi_ => (cut_take (enc := cEntry) hi_)) i_ hi_))) (fun i_ hi_ => (match i_, hi_ with | 0, _ => rfl | (i + 1), h => absurd h (by simp))) i_ hi_)) (fun i_ hi_ => (cut_drop (enc := cEntry) hi_)) i_ hi_)⟩) (fun _ => rfl) (fun _ => (tagEntry true _))
    have hlo : k.toNat = 0 ∨ ¬ 0 < cmpN (at_ list (k.toNat - 1)) e := Or.inl (by omega)
    refine x_r [(1, .dec false)] [0, 3, 5, 21] [3] [slEntry false list, .ref 3 0, I k, Bv false] [some (bxEntry e)] [¬ (0 < k)] ⟨h1, trivial⟩ ?_
    refine xe_then ?_
    refine x_false rfl ?_
    refine x_exit ?_
    refine xe_exit_then ?_
    refine xe_loop_exit ?_
    refine xe_exit_same ?_
    refine xe_then ?_
    refine xR [(0, .new 24), (4, .new 28)] [0, 3, 5, 6] [3, 28] [slEntry false list, .ref 3 0, I k, .arr 28] [some (bxEntry e), some (.arr 2 (0 + (k.toNat - 0)) (catF 0 (litF [] 2) (cutF 0 (fEntry list))))] [(0 : Int) ≤ 0 ∧ (0 : Int) ≤ k ∧ k ≤ (list.length : Int), (0 + (k.toNat - 0)) * 24 ≤ 140737488355328] ⟨⟨(by omega), (by omega), (by omega)⟩, (by omega), trivial⟩ ?_
    refine xR [(2, .new 31), (3, .new 32)] [0, 5, 6] [32] [slEntry false list, I k, .arr 32] [some (.arr 2 ((0 + (k.toNat - 0)) + 1) (catF (0 + (k.toNat - 0)) (catF 0 (litF [] 2) (cutF 0 (fEntry list))) (litF [Sv e.Word, I e.Cost] 2)))] [((0 + (k.toNat - 0)) + 1) * 24 ≤ 140737488355328] ⟨(by omega), trivial⟩ ?_
    refine xR [(4, .new 37)] [4] [37] [.arr 37] [some (.arr 2 (((0 + (k.toNat - 0)) + 1) + ((list.length : Int).toNat - k.toNat)) (catF ((0 + (k.toNat - 0)) + 1) (catF (0 + (k.toNat - 0)) (catF 0 (litF [] 2) (cutF 0 (fEntry list))) (litF [Sv e.Word, I e.Cost] 2)) (cutF k.toNat (fEntry list))))] [(0 : Int) ≤ k ∧ k ≤ (list.length : Int) ∧ (list.length : Int) ≤ (list.length : Int), (((0 + (k.toNat - 0)) + 1) + ((list.length : Int).toNat - k.toNat)) * 24 ≤ 140737488355328] ⟨⟨(by omega), (by omega), (by omega)⟩, (by omega), trivial⟩ ?_
    refine x_ret ?_
    refine xe_end (((list.take k.toNat) ++ [e]) ++ (list.drop k.toNat)) (show ((((list.take k.toNat) ++ [e]) ++ (list.drop k.toNat)).length = list.length + 1) ∧ (∀ x ∈ (((list.take k.toNat) ++ [e]) ++ (list.drop k.toNat)), x = e ∨ x ∈ list) ∧ ((((list.take k.toNat) ++ [e]) ++ (list.drop k.toNat)).Pairwise fun x_ y_ => cmpN x_ y_ < 0) ∧ (True) from ⟨(by first | exact ins_len (by omega) | exact fun x hx => ins_mem.1 hx | exact ins_ok cmpN_w hp (by omega) hlo (fun j h1 h2 => hhi j (by omega) h2) hne), (by first | exact ins_len (by omega) | exact fun x hx => ins_mem.1 hx | exact ins_ok cmpN_w hp (by omega) hlo (fun j h1 h2 => hhi j (by omega) h2) hne), (by first | exact ins_len (by omega) | exact fun x hx => ins_mem.1 hx | exact ins_ok cmpN_w hp (by omega) hlo (fun j h1 h2 => hhi j (by omega) h2) hne), trivial⟩) (trivial) (.arr 37) (by kernel_rfl) (.inr ⟨(fun _ => rfl), rfl, (by first | rfl | (simp; done) | (simp; omega) | omega), fun i_ hi_ => .inl (cat_two (enc := cEntry) (xs := ((list.take k.toNat) ++ [e])) (ys := (list.drop k.toNat)) (by first | rfl | (simp; done) | (simp; omega)) (fun i_ hi_ => (cat_two (enc := cEntry) (xs := (list.take k.toNat)) (ys := [e]) (by first | rfl | (simp; done) | (simp; omega)) (fun i_ hi_ => ((cat_nil i_).trans ((fun i_ hi_ => (cut_take (enc := cEntry) hi_)) i_ hi_))) (fun i_ hi_ => (match i_, hi_ with | 0, _ => rfl | (i + 1), h => absurd h (by simp))) i_ hi_)) (fun i_ hi_ => (cut_drop (enc := cEntry) hi_)) i_ hi_)⟩) (fun _ => rfl) (fun _ => (tagEntry true _))
  obtain ⟨v, ⟨hh0, hh1, hh2, _⟩, hc⟩ := hh
  exact ⟨v, hh0, hh1, hh2, hc⟩



theorem lex_put {x : Lexicon} {e : Entry} {v : List Entry} (h : okLex x) (he : okEnt e) (h2 : x.Entries.length < 60) (hl : v.length = (x.Entries.filter fun y => !decide (y.Word = e.Word)).length + 1) (hm : ∀ y ∈ v, y = e ∨ y ∈ x.Entries.filter fun y => !decide (y.Word = e.Word)) (hp : v.Pairwise fun x y => cmpN x y < 0) : okLex ⟨v⟩ ∧ (v.length : Int) ≤ x.Entries.length + 1 := by
  have q := List.length_filter_le (fun y : Entry => !decide (y.Word = e.Word)) x.Entries
  refine ⟨⟨by show v.length ≤ 60; omega, fun y hy => ?_, hp⟩, by omega⟩
  rcases hm y hy with z | z
  · rw [z]; exact he
  · exact h.2.1 y (List.mem_filter.1 z).1
theorem lex_ne {xs : List Entry} {e : Entry} {w : ByteArray} (hw : w = e.Word) : ∀ y ∈ xs.filter (fun y => !decide (y.Word = w)), cmpN y e ≠ 0 := fun y hy q => by
  have h := (List.mem_filter.1 hy).2
  rw [cmpN, cmpS_zero] at q
  rw [hw] at h
  simp [q] at h
theorem okLex_nil : okLex ⟨[]⟩ := ⟨Nat.zero_le _, fun _ h => (by cases h), List.Pairwise.nil⟩
def lpI (list out : List Bigram) (e : Bigram) (put : Bool) (i : Nat) : Prop := (out.Pairwise fun x y => cmpG x y < 0) ∧ (∀ x ∈ out, x = e ∨ x ∈ list) ∧ out.length ≤ i + put.toNat ∧ (put = false → ∀ x ∈ out, cmpG x e < 0) ∧ ∀ x ∈ out, ∀ j, i ≤ j → j < list.length → cmpG x (at_ list j) < 0
def lpJ (list out : List Bigram) (e : Bigram) (put : Bool) (i : Nat) : Prop := (out.Pairwise fun x y => cmpG x y < 0) ∧ (∀ x ∈ out, x = e ∨ x ∈ list) ∧ out.length ≤ i + put.toNat ∧ (put = false → (∀ x ∈ out, cmpG x e < 0) ∧ cmpG (at_ list i) e < 0) ∧ (∀ x ∈ out, ∀ j, i + 1 ≤ j → j < list.length → cmpG x (at_ list j) < 0) ∧ (cmpG (at_ list i) e ≠ 0 → ∀ x ∈ out, cmpG x (at_ list i) < 0)

-- spec.l16Draw
theorem l16Draw_ok (s : l00Src) (most : Int) (hs : okSrc s) (ha : s.atx ≤ 3999999999999996000) (hmo : 0 ≤ most ∧ most ≤ 20) : ∃ (v : Lexicon) (s' : l00Src), (okSrc s') ∧ (s'.code = s.code) ∧ (s.atx + 0 ≤ s'.atx ∧ s'.atx ≤ s.atx + 400) ∧ (okLex v) ∧ CallOK Tryz.prog 18 [.ref 7001 0, I most] (lookO [(7001, bxl00Src s)]) true (.agg [slEntry true v.Entries]) (lookO [(7001, bxl00Src s')]) := by
  have hh : ∃ r : Lexicon × l00Src, ((okSrc r.2) ∧ (r.2.code = s.code) ∧ (s.atx + 0 ≤ r.2.atx ∧ r.2.atx ≤ s.atx + 400) ∧ (okLex r.1) ∧ (True)) ∧ CallOK Tryz.prog 18 [.ref 7001 0, I most] (lookO [(7001, bxl00Src s)]) true (.agg [slEntry true r.1.Entries]) (lookO [(7001, bxl00Src r.2)]) := by
    refine fn_okX (Φ := fun r : Lexicon × l00Src => (okSrc r.2) ∧ (r.2.code = s.code) ∧ (s.atx + 0 ≤ r.2.atx ∧ r.2.atx ≤ s.atx + 400) ∧ (okLex r.1) ∧ (True)) [(7001, bxl00Src s)] (fun r => [(7001, bxl00Src r.2)]) (fn := Tryz.f18) (nt := 30) Tryz.func18 rfl rfl (args := [.ref 7001 0, I most]) rfl (allcons (.inr trivial) (allcons (.inl ⟨rfl, trivial⟩) allnil)) (res := fun r => .agg [slEntry true r.1.Entries]) ?_
    refine xR [(0, .new 4)] [0, 1, 4] [4, 7001] [.ref 7001 0, I most, .ref 4 0] [some (.box [nilA]), some (bxl00Src s)] [] trivial ?_
    refine xR [(1, .new 5)] [0, 1, 4, 5] [4, 5, 7001] [.ref 7001 0, I most, .ref 4 0, .ref 5 0] [some (.box [nilA]), some (.box [nilA]), some (bxl00Src s)] [] trivial ?_
    refine x_seq ?_
    refine x_seq ?_
    obtain ⟨v_1, s'_1, hx1_0, hx1_1, hx1_2, hx1_3, hc1⟩ := pick_ok s (most + 1) (by first | assumption | (simp only [okSrc] at *; simp_all; done)) (by omega)
    refine x_r [(3, .lend [(7001, bxl00Src s, bxl00Src s'_1)] [] [(true, .any), (true, .any)] true (I v_1))] [0, 4, 5, 6] [4, 5, 7001] [.ref 7001 0, .ref 4 0, .ref 5 0, I v_1] [some (.box [nilA]), some (.box [nilA]), some (bxl00Src s'_1)] [inR .i64 (most + 1), CallOK Tryz.prog 31 [.ref 7001 0, I (most + 1)] (lookO [(7001, bxl00Src s)]) true (I v_1) (lookO [(7001, bxl00Src s'_1)]) ∧ (((bxl00Src s : Ob) = bxl00Src s ∨ obLe noOb true (bxl00Src s) (bxl00Src s)) ∧ taggedO false (bxl00Src s)) ∧ True] ⟨(inR_i64 (by omega) (by omega)), ⟨hc1, ⟨.inl rfl, (by simp [taggedO, taggedL, tagged, tagU8])⟩, trivial⟩, trivial⟩ ?_
    refine xe_then ?_
    refine x_block ?_
    refine x_weak [] (T := [(0, .ref 7001 0), (4, .ref 4 0), (5, .ref 5 0), (6, I v_1)]) (O := [(4, .box [nilA]), (5, .box [.sl true 2 ((Lexicon.mk ([] : List Entry)).Entries.length) (fEntry ((Lexicon.mk ([] : List Entry)).Entries))]), (7001, bxl00Src s'_1)]) rfl (⟨.inl rfl, .inl rfl, .inl rfl, .inl rfl, trivial⟩) (⟨.inl rfl, .inr ⟨⟨rfl, rfl⟩, rfl⟩, .inl rfl, trivial⟩) ?_
    refine x_loop (X := Int × Lexicon × l00Src) (fun x => mkS [(0, .ref 7001 0), (4, .ref 4 0), (5, .ref 5 0), (6, I x.1)] [(4, .box [nilA]), (5, .box [slEntry true x.2.1.Entries]), (7001, bxl00Src x.2.2)]) (fun x => (okSrc x.2.2 ∧ x.2.2.code = s.code ∧ s.atx ≤ x.2.2.atx ∧ x.2.2.atx ≤ s.atx + 10 + 10 * (most - x.1)) ∧ (0 ≤ x.1 ∧ x.1 ≤ most) ∧ (okLex x.2.1) ∧ ((x.2.1.Entries.length : Int) + x.1 ≤ most) ∧ True) (fun x => x.1.toNat) (v_1, (Lexicon.mk ([] : List Entry)), s'_1) rfl (show (okSrc s'_1 ∧ s'_1.code = s.code ∧ s.atx ≤ s'_1.atx ∧ s'_1.atx ≤ s.atx + 10 + 10 * (most - v_1)) ∧ (0 ≤ v_1 ∧ v_1 ≤ most) ∧ (okLex (Lexicon.mk ([] : List Entry))) ∧ (((Lexicon.mk ([] : List Entry)).Entries.length : Int) + v_1 ≤ most) ∧ True from ⟨(by exact ⟨by assumption, by first | assumption | rfl | (simp only [*]; done), by omega, by omega⟩), (by omega), (by exact okLex_nil), (by (simp; omega)), trivial⟩) (fun x hI => ?_)
    obtain ⟨k, out, src⟩ := x
    obtain ⟨hs0, hk0, hla, hno, _⟩ : (okSrc src ∧ src.code = s.code ∧ s.atx ≤ src.atx ∧ src.atx ≤ s.atx + 10 + 10 * (most - k)) ∧ (0 ≤ k ∧ k ≤ most) ∧ (okLex out) ∧ ((out.Entries.length : Int) + k ≤ most) ∧ True := hI
    show XW _ _ _ _ (mkS [(0, .ref 7001 0), (4, .ref 4 0), (5, .ref 5 0), (6, I k)] [(4, .box [nilA]), (5, .box [slEntry true out.Entries]), (7001, bxl00Src src)]) _ _
    refine x_seq ?_
    refine x_seq ?_
    by_cases h1 : 0 < k
    ·refine x_r [(1, .dec true)] [0, 4, 5, 6, 14] [4, 5, 7001] [.ref 7001 0, .ref 4 0, .ref 5 0, I k, Bv true] [some (.box [nilA]), some (.box [slEntry true out.Entries]), some (bxl00Src src)] [0 < k] ⟨h1, trivial⟩ ?_
     refine xe_then ?_
     refine x_true rfl ?_
     refine x_skip ?_
     refine xe_then ?_
     refine x_seq ?_
     refine x_block ?_
     refine x_seq ?_
     obtain ⟨v_2, hx2_0, hx2_1, hc2⟩ := l16Words_ok
     have hwa := hx2_0
     have hwb := hx2_1
     obtain ⟨v_3, s'_3, hx3_0, hx3_1, hx3_2, hx3_3, hx3_4, hc3⟩ := text_ok src v_2 (by first | assumption | (simp only [okSrc] at *; simp_all; done)) (by omega) hwa
     have hw_v_3 : okWord v_3 = true := hwb _ hx3_4
     obtain ⟨v_4, s'_4, hx4_0, hx4_1, hx4_2, hx4_3, hc4⟩ := pick_ok s'_3 30 (by first | assumption | (simp only [okSrc] at *; simp_all; done)) (by omega)
     refine x_r [(1, .call [] true (slS true v_2)), (2, .lend [(7001, bxl00Src src, bxl00Src s'_3)] [] [(true, .any), (false, slS false v_2)] true (Sv v_3)), (4, .lend [(7001, bxl00Src s'_3, bxl00Src s'_4)] [] [(true, .any), (true, .any)] true (I v_4)), (6, .new 7)] [0, 4, 5, 6, 7] [4, 5, 7, 7001] [.ref 7001 0, .ref 4 0, .ref 5 0, I k, .ref 7 0] [some (.box [nilA]), some (.box [slEntry true out.Entries]), some (.box [Sv v_3, I v_4]), some (bxl00Src s'_4)] [Con Tryz.prog 35 [] true (slS true v_2) ∧ True, CallOK Tryz.prog 33 [.ref 7001 0, slS false v_2] (lookO [(7001, bxl00Src src)]) true (Sv v_3) (lookO [(7001, bxl00Src s'_3)]) ∧ ((false = true → true = true) ∧ 1 = 1 ∧ v_2.length = v_2.length ∧ ∀ i_, i_ < v_2.length → (fS v_2) i_ = (fS v_2) i_ ∨ (AV.idsL ((fS v_2) i_) = [] ∧ leL (fun _ => none) false ((fS v_2) i_) ((fS v_2) i_))) ∧ (((bxl00Src src : Ob) = bxl00Src src ∨ obLe noOb true (bxl00Src src) (bxl00Src src)) ∧ taggedO false (bxl00Src src)) ∧ True, CallOK Tryz.prog 31 [.ref 7001 0, I 30] (lookO [(7001, bxl00Src s'_3)]) true (I v_4) (lookO [(7001, bxl00Src s'_4)]) ∧ (((bxl00Src s'_3 : Ob) = bxl00Src s'_3 ∨ obLe noOb true (bxl00Src s'_3) (bxl00Src s'_3)) ∧ taggedO false (bxl00Src s'_3)) ∧ True] ⟨⟨hc2, trivial⟩, ⟨hc3, ⟨(fun h => by cases h), rfl, rfl, fun i _ => .inl rfl⟩, ⟨.inl rfl, (by simp [taggedO, taggedL, tagged, tagU8])⟩, trivial⟩, ⟨hc4, ⟨.inl rfl, (by simp [taggedO, taggedL, tagged, tagU8])⟩, trivial⟩, trivial⟩ ?_
     refine xe_then ?_
     obtain ⟨v_5, hx5_0, hc5⟩ := l16Without_ok out v_3 (by omega)
     have hwv := hx5_0
     have hwl : v_5.length ≤ out.Entries.length := by rw [hwv]; exact List.length_filter_le _ _
     have hpw : v_5.Pairwise (fun x y => cmpN x y < 0) := by rw [hwv]; exact flt_pw _ hla.2.2
     obtain ⟨v_6, hx6_0, hx6_1, hx6_2, hc6⟩ := l16Put_ok v_5 (Entry.mk v_3 v_4) hpw (by rw [hwv]; exact lex_ne rfl) (by omega)
     have hput := lex_put hla (e := (Entry.mk v_3 v_4)) ⟨by first | assumption | (dsimp only; assumption), by dsimp only; omega⟩ (by omega) (by rw [← hwv]; exact hx6_0) (by rw [← hwv]; exact hx6_1) hx6_2
     refine x_r [(2, .call [(false, .ptr false [slEntry false out.Entries]), (true, .any)] true (slEntry true v_5)), (4, .call [(false, slEntry false v_5), (true, .any)] true (slEntry true v_6))] [0, 4, 5, 6] [4, 5, 7001] [.ref 7001 0, .ref 4 0, .ref 5 0, I k] [some (.box [nilA]), some (.box [slEntry true v_6]), some (bxl00Src s'_4)] [Con Tryz.prog 37 [.ptr false [slEntry false out.Entries], Sv v_3] true (slEntry true v_5) ∧ ((false = true → true = true) ∧ AV.idsL [slEntry false out.Entries] = [] ∧ ((false = true → true = true) ∧ 2 = 2 ∧ out.Entries.length = out.Entries.length ∧ ∀ i_, i_ < out.Entries.length → (fEntry out.Entries) i_ = (fEntry out.Entries) i_ ∨ (AV.idsL ((fEntry out.Entries) i_) = [] ∧ leL (fun _ => none) false ((fEntry out.Entries) i_) ((fEntry out.Entries) i_))) ∧ ([] : List AV) = []) ∧ True, Con Tryz.prog 36 [slEntry false v_5, .agg [Sv v_3, I v_4]] true (slEntry true v_6) ∧ ((false = true → true = true) ∧ 2 = 2 ∧ v_5.length = v_5.length ∧ ∀ i_, i_ < v_5.length → (fEntry v_5) i_ = (fEntry v_5) i_ ∨ (AV.idsL ((fEntry v_5) i_) = [] ∧ leL (fun _ => none) false ((fEntry v_5) i_) ((fEntry v_5) i_))) ∧ True] ⟨⟨hc5, ⟨(fun h => by cases h), rfl, ⟨⟨(fun h => by cases h), rfl, rfl, fun i _ => .inl rfl⟩, rfl⟩⟩, trivial⟩, ⟨hc6, ⟨(fun h => by cases h), rfl, rfl, fun i _ => .inl rfl⟩, trivial⟩, trivial⟩ ?_
     refine xe_block 1 ?_
     refine xe_then ?_
     refine x_r [] [0, 4, 5, 6] [4, 5, 7001] [.ref 7001 0, .ref 4 0, .ref 5 0, I (k - 1)] [some (.box [nilA]), some (.box [slEntry true v_6]), some (bxl00Src s'_4)] [inR .i64 (k - 1)] ⟨(inR_i64 (by omega) (by omega)), trivial⟩ ?_
     refine xe_weak [] (T := [(0, .ref 7001 0), (4, .ref 4 0), (5, .ref 5 0), (6, I (k - 1))]) (O := [(4, .box [nilA]), (5, .box [.sl true 2 ((Lexicon.mk v_6).Entries.length) (fEntry ((Lexicon.mk v_6).Entries))]), (7001, bxl00Src s'_4)]) rfl (⟨.inl rfl, .inl rfl, .inl rfl, .inl rfl, trivial⟩) (⟨.inl rfl, .inr ⟨⟨(fun _ => rfl), rfl, (by first | rfl | (simp; done) | (simp; omega) | omega), fun i_ hi_ => .inl (by first | rfl | fail)⟩, rfl⟩, .inl rfl, trivial⟩) (xe_again ((k - 1), (Lexicon.mk v_6), s'_4) rfl (show (okSrc s'_4 ∧ s'_4.code = s.code ∧ s.atx ≤ s'_4.atx ∧ s'_4.atx ≤ s.atx + 10 + 10 * (most - (k - 1))) ∧ (0 ≤ (k - 1) ∧ (k - 1) ≤ most) ∧ (okLex (Lexicon.mk v_6)) ∧ (((Lexicon.mk v_6).Entries.length : Int) + (k - 1) ≤ most) ∧ True from ⟨(by exact ⟨by assumption, by first | assumption | rfl | (simp only [*]; done), by omega, by omega⟩), (by omega), (by exact hput.1), (by (have := hput.2; dsimp only; omega)), trivial⟩) (by first | (show ((k - 1).toNat : Nat) < k.toNat; omega) | (dsimp only; omega)))
    refine x_r [(1, .dec false)] [0, 4, 5, 6, 14] [4, 5, 7001] [.ref 7001 0, .ref 4 0, .ref 5 0, I k, Bv false] [some (.box [nilA]), some (.box [slEntry true out.Entries]), some (bxl00Src src)] [¬ (0 < k)] ⟨h1, trivial⟩ ?_
    refine xe_then ?_
    refine x_false rfl ?_
    refine x_exit ?_
    refine xe_exit_then ?_
    refine xe_loop_exit ?_
    refine xe_exit_same ?_
    refine xe_then ?_
    refine xR [] [4] [4, 7001] [.ref 4 0] [some (.box [slEntry true out.Entries]), some (bxl00Src src)] [] trivial ?_
    refine x_ret ?_
    refine xe_end (out, src) (show (okSrc src) ∧ (src.code = s.code) ∧ (s.atx + 0 ≤ src.atx ∧ src.atx ≤ s.atx + 400) ∧ (okLex out) ∧ (True) from ⟨(by first | omega | assumption | exact hs0.1 | exact hs0.2.1), (by first | omega | assumption | exact hs0.1 | exact hs0.2.1), (by first | omega | assumption | exact hs0.1 | exact hs0.2.1), (by first | omega | assumption | exact hs0.1 | exact hs0.2.1), trivial⟩) (⟨.inl rfl, trivial⟩) (.agg [slEntry true out.Entries]) (by kernel_rfl) (.inl rfl) (fun _ => rfl) (fun _ => (by simp [tagged, taggedL, tagEntry]))
  obtain ⟨⟨v, s'⟩, ⟨hh0, hh1, hh2, hh3, _⟩, hc⟩ := hh
  exact ⟨v, s', hh0, hh1, hh2, hh3, hc⟩



-- spec.A2Search
theorem A2Search_ok (code : List Int) (hc : (∀ j, j < code.length → 0 ≤ at_ code j ∧ at_ code j ≤ 255) ∧ code.length ≤ 4611686018427387904) : ∃ (v : Lattice) (q : Lexicon), (okLat v) ∧ (okLex q) ∧ Con Tryz.prog 5 [slU8 false code] true (.tup [agLatticeT v, .agg [slEntry true q.Entries]]) := by
  have hh : ∃ r : Lattice × Lexicon, ((okLat r.1) ∧ (okLex r.2) ∧ (True)) ∧ CallOK Tryz.prog 5 [slU8 false code] (lookO []) true (.tup [agLatticeT r.1, .agg [slEntry true r.2.Entries]]) (lookO []) := by
    refine fn_okX (Φ := fun r : Lattice × Lexicon => (okLat r.1) ∧ (okLex r.2) ∧ (True)) [] (fun r => []) (fn := Tryz.f5) (nt := 13) Tryz.func5 rfl rfl (args := [slU8 false code]) rfl (allcons (.inl ⟨rfl, tagU8 false _⟩) allnil) (res := fun r => .tup [agLatticeT r.1, .agg [slEntry true r.2.Entries]]) ?_
    refine xR [(0, .new 2), (1, .new 3)] [0, 2, 3] [2, 3] [slU8 false code, .ref 2 0, .ref 3 0] [some (.box [I 0, nilA]), some (.box [nilA])] [] trivial ?_
    refine x_seq ?_
    obtain ⟨s'_1, hx1_0, hc1⟩ := l00From_ok code
    have hsrc : okSrc s'_1 := ⟨by rw [hx1_0.1]; exact hc.1, by rw [hx1_0.2]; decide, by rw [hx1_0.1]; exact hc.2⟩
    have hat0 := hx1_0.2
    refine x_r [(1, .lend [] [(7001, bxl00Src s'_1)] [(true, .any)] false (.ref 7001 0))] [2, 3, 4] [2, 3, 7001] [.ref 2 0, .ref 3 0, .ref 7001 0] [some (.box [I 0, nilA]), some (.box [nilA]), some (bxl00Src s'_1)] [CallOK Tryz.prog 16 [slU8 false code] (lookO []) false (.ref 7001 0) (lookO [(7001, bxl00Src s'_1)]) ∧ True] ⟨⟨hc1, trivial⟩, trivial⟩ ?_
    refine xe_then ?_
    refine x_seq ?_
    obtain ⟨v_2, s'_2, hx2_0, hx2_1, hx2_2, hx2_3, hx2_4, hc2⟩ := l15Draw_ok s'_1 6 (by first | assumption | (simp only [okSrc] at *; simp_all; done)) (by omega) (by omega)
    refine x_r [(1, .lend [(7001, bxl00Src s'_1, bxl00Src s'_2)] [] [(true, .any), (true, .any)] true (agLatticeT v_2)), (2, .new 5)] [2, 3, 4, 5] [2, 3, 5, 7001] [.ref 2 0, .ref 3 0, .ref 7001 0, .ref 5 0] [some (.box [I 0, nilA]), some (.box [nilA]), some (bxLatticeT v_2), some (bxl00Src s'_2)] [CallOK Tryz.prog 17 [.ref 7001 0, I 6] (lookO [(7001, bxl00Src s'_1)]) true (agLatticeT v_2) (lookO [(7001, bxl00Src s'_2)]) ∧ (((bxl00Src s'_1 : Ob) = bxl00Src s'_1 ∨ obLe noOb true (bxl00Src s'_1) (bxl00Src s'_1)) ∧ taggedO false (bxl00Src s'_1)) ∧ True] ⟨⟨hc2, ⟨.inl rfl, (by simp [taggedO, taggedL, tagged, tagU8])⟩, trivial⟩, trivial⟩ ?_
    refine xe_then ?_
    refine x_seq ?_
    obtain ⟨v_3, s'_3, hx3_0, hx3_1, hx3_2, hx3_3, hc3⟩ := l16Draw_ok s'_2 14 (by first | assumption | (simp only [okSrc] at *; simp_all; done)) (by omega) (by omega)
    refine x_r [(2, .lend [(7001, bxl00Src s'_2, bxl00Src s'_3)] [] [(true, .any), (true, .any)] true (.agg [slEntry true v_3.Entries]))] [2, 3] [2, 3] [.ref 2 0, .ref 3 0] [some (bxLatticeT v_2), some (.box [slEntry true v_3.Entries])] [CallOK Tryz.prog 18 [.ref 7001 0, I 14] (lookO [(7001, bxl00Src s'_2)]) true (.agg [slEntry true v_3.Entries]) (lookO [(7001, bxl00Src s'_3)]) ∧ (((bxl00Src s'_2 : Ob) = bxl00Src s'_2 ∨ obLe noOb true (bxl00Src s'_2) (bxl00Src s'_2)) ∧ taggedO false (bxl00Src s'_2)) ∧ True] ⟨⟨hc3, ⟨.inl rfl, (by simp [taggedO, taggedL, tagged, tagU8])⟩, trivial⟩, trivial⟩ ?_
    refine xe_then ?_
    refine x_ret ?_
    refine xe_end (v_2, v_3) (show (okLat v_2) ∧ (okLex v_3) ∧ (True) from ⟨(by assumption), (by assumption), trivial⟩) (trivial) (.tup [agLatticeT v_2, .agg [slEntry true v_3.Entries]]) (by kernel_rfl) (.inl rfl) (fun _ => rfl) (fun _ => (by simp [tagged, taggedL, tagEdge, tagEntry]))
  obtain ⟨⟨v, q⟩, ⟨hh0, hh1, _⟩, hc⟩ := hh
  exact ⟨v, q, hh0, hh1, hc⟩



def a2AtI (code : List Int) (i n : Int) : Int := if (code.length : Int) ≤ i ∨ n < 1 then 0 else at_ code i.toNat % n
theorem a2At_bd (code : List Int) (i : Int) {n : Int} (hn : 1 ≤ n) : 0 ≤ a2AtI code i n ∧ a2AtI code i n < n := by
  unfold a2AtI
  split
  · omega
  · exact ⟨Int.emod_nonneg _ (by omega), Int.emod_lt_of_pos _ (by omega)⟩


-- laws.a2At
theorem a2At_ok (code : List Int) (i : Int) (n : Int) (hc : (∀ j, j < code.length → 0 ≤ at_ code j ∧ at_ code j ≤ 255)) (ha : 0 ≤ i) : Con Tryz.prog 6 [slU8 false code, I i, I n] true (I (a2AtI code i n)) := by
  refine fn_ok (fn := Tryz.f6) (nt := 22) Tryz.func6 rfl rfl rfl rfl (by simp [taggedL, tagged, tagU8]) fun B hB => ?_
  refine aw_lens (x := slU8 false code) 0 rfl (fun len_code => ?_)
  simp [LenOK, LenL, cU8, fU8, slU8] at len_code
  refine aR [] [0, 1, 2] [] [slU8 false code, I i, I n] [] [] hB trivial ?_
  refine aw_seq ?_
  refine aw_seq ?_
  by_cases h1 : (code.length : Int) ≤ i
  ·refine aw_r [(3, .dec true)] [0, 1, 2, 14] [] [slU8 false code, I i, I n, Bv true] [] [(code.length : Int) ≤ i] hB ⟨h1, trivial⟩ ?_
   refine ae_then ?_
   refine aw_true rfl ?_
   refine aR [] [6] [] [I 0] [] [] hB trivial ?_
   refine aw_ret ?_
   refine ae_ret_then ?_
   refine ae_ret hB (I 0) (by kernel_rfl) (.inl (by simp [a2AtI, *])) rfl (fun _ => trivial)
  have hq := hc i.toNat (by omega)
  by_cases h2 : n < 1
  ·refine aw_r [(3, .dec false), (6, .dec true)] [0, 1, 2, 14] [] [slU8 false code, I i, I n, Bv true] [] [¬ ((code.length : Int) ≤ i), n < 1] hB ⟨h1, h2, trivial⟩ ?_
   refine ae_then ?_
   refine aw_true rfl ?_
   refine aR [] [6] [] [I 0] [] [] hB trivial ?_
   refine aw_ret ?_
   refine ae_ret_then ?_
   refine ae_ret hB (I 0) (by kernel_rfl) (.inl (by simp [a2AtI, *])) rfl (fun _ => trivial)
  refine aw_r [(3, .dec false), (6, .dec false)] [0, 1, 2, 14] [] [slU8 false code, I i, I n, Bv false] [] [¬ ((code.length : Int) ≤ i), ¬ (n < 1)] hB ⟨h1, h2, trivial⟩ ?_
  refine ae_then ?_
  refine aw_false rfl ?_
  refine aw_skip ?_
  refine ae_then ?_
  refine aR [(6, .nn)] [6] [] [I ((at_ code i.toNat) % n)] [] [(0 : Int) ≤ i ∧ i < (code.length : Int), inR .i64 (at_ code i.toNat), (0 : Int) ≤ (at_ code i.toNat) ∧ (0 : Int) < n] hB ⟨⟨(by omega), (by omega)⟩, (inR_i64 (by omega) (by omega)), ⟨(by omega), (by omega)⟩, trivial⟩ ?_
  refine aw_ret ?_
  refine ae_ret hB (I ((at_ code i.toNat) % n)) (by kernel_rfl) (.inl (by simp [a2AtI, *])) rfl (fun _ => trivial)



-- impl.within
theorem within_ok (n : Int) (low : Int) (high : Int) : Con Tryz.prog 28 [I n, I low, I high] true (Bv (inB n low high)) := by
  refine fn_ok (fn := Tryz.f28) (nt := 15) Tryz.func28 rfl rfl rfl rfl (by simp [taggedL, tagged]) fun B hB => ?_
  refine aR [] [0, 1, 2] [] [I n, I low, I high] [] [] hB trivial ?_
  refine aw_seq ?_
  by_cases h1 : low ≤ n
  ·refine aw_r [(2, .dec true)] [6] [] [Bv (decide (n ≤ high))] [] [low ≤ n] hB ⟨h1, trivial⟩ ?_
   refine ae_then ?_
   refine aw_ret ?_
   refine ae_ret hB (Bv (decide (n ≤ high))) (by kernel_rfl) (.inl (by first | rfl | (refine congrArg Bv ?_; simp [inB, *]; done) | (refine congrArg Bv ?_; simp [inB, *]; omega) | (refine congrArg Bv ?_; simp_all [inB]; done) | (refine congrArg Bv ?_; simp_all [inB]; omega))) rfl (fun _ => trivial)
  refine aw_r [(2, .dec false)] [6] [] [Bv false] [] [¬ (low ≤ n)] hB ⟨h1, trivial⟩ ?_
  refine ae_then ?_
  refine aw_ret ?_
  refine ae_ret hB (Bv false) (by kernel_rfl) (.inl (by first | rfl | (refine congrArg Bv ?_; simp [inB, *]; done) | (refine congrArg Bv ?_; simp [inB, *]; omega) | (refine congrArg Bv ?_; simp_all [inB]; done) | (refine congrArg Bv ?_; simp_all [inB]; omega))) rfl (fun _ => trivial)



-- impl.isCost
theorem isCost_ok (n : Int) : Con Tryz.prog 55 [I n] true (Bv (inB n 0 1000000)) := by
  refine fn_ok (fn := Tryz.f55) (nt := 5) Tryz.func55 rfl rfl rfl rfl (by simp [taggedL, tagged]) fun B hB => ?_
  refine aR [] [0] [] [I n] [] [] hB trivial ?_
  refine aR [(1, .call [(true, .any), (true, .any), (true, .any)] true (Bv (inB n 0 1000000)))] [2] [] [Bv (inB n 0 1000000)] [] [Con Tryz.prog 28 [I n, I 0, I 1000000] true (Bv (inB n 0 1000000)) ∧ True] hB ⟨⟨(within_ok n 0 1000000), trivial⟩, trivial⟩ ?_
  refine aw_ret ?_
  refine ae_ret hB (Bv (inB n 0 1000000)) (by kernel_rfl) (.inl rfl) rfl (fun _ => trivial)



-- impl.fitsNodes
theorem fitsNodes_ok (l : Lattice) (e : Edge) (he : okEd l e) (hn : l.Nodes ≤ 20) : Con Tryz.prog 51 [agLattice l, agEdge e] true (Bv true) := by
  have h1 := he.1
  have h2 := he.2.1
  refine fn_ok (fn := Tryz.f51) (nt := 27) Tryz.func51 rfl rfl rfl rfl (by simp [taggedL, tagged, tagEdge]) fun B hB => ?_
  refine aw_lens (x := agLattice l) 0 rfl (fun len_l => ?_)
  simp [LenOK, LenL, cEdge, fEdge, slEdge] at len_l
  refine aR [(0, .new 2), (1, .new 3)] [2, 3] [2, 3] [.ref 2 0, .ref 3 0] [some (bxLattice l), some (bxEdge e)] [] hB trivial ?_
  refine aR [(2, .dec true), (8, .dec true), (15, .dec true), (20, .call [(true, .any)] true (Bv (inB e.Cost 0 1000000)))] [4] [] [Bv (inB e.Cost 0 1000000)] [] [0 ≤ e.From, e.From < e.To, e.To < l.Nodes, Con Tryz.prog 55 [I e.Cost] true (Bv (inB e.Cost 0 1000000)) ∧ True] hB ⟨(by omega), (by omega), (by omega), ⟨(isCost_ok e.Cost), trivial⟩, trivial⟩ ?_
  refine aw_ret ?_
  refine ae_ret hB (Bv (inB e.Cost 0 1000000)) (by kernel_rfl) (.inl (by first | rfl | (simp [inB]; omega))) rfl (fun _ => trivial)



-- impl.isLetter
theorem isLetter_ok (c : Int) : Con Tryz.prog 74 [.val (.int .u8 c)] true (Bv (inB c 97 122)) := by
  refine fn_ok (fn := Tryz.f74) (nt := 9) Tryz.func74 rfl rfl rfl rfl (by simp [taggedL, tagged]) fun B hB => ?_
  refine aR [] [0] [] [.val (.int .u8 c)] [] [] hB trivial ?_
  refine aw_seq ?_
  by_cases h1 : 97 ≤ c
  ·refine aw_r [(1, .dec true)] [2] [] [Bv (decide (c ≤ 122))] [] [97 ≤ c] hB ⟨h1, trivial⟩ ?_
   refine ae_then ?_
   refine aw_ret ?_
   refine ae_ret hB (Bv (decide (c ≤ 122))) (by kernel_rfl) (.inl (by first | rfl | (refine congrArg Bv ?_; simp [inB, *]; done) | (refine congrArg Bv ?_; simp [inB, *]; omega) | (refine congrArg Bv ?_; simp_all [inB]; done) | (refine congrArg Bv ?_; simp_all [inB]; omega))) rfl (fun _ => trivial)
  refine aw_r [(1, .dec false)] [2] [] [Bv false] [] [¬ (97 ≤ c)] hB ⟨h1, trivial⟩ ?_
  refine ae_then ?_
  refine aw_ret ?_
  refine ae_ret hB (Bv false) (by kernel_rfl) (.inl (by first | rfl | (refine congrArg Bv ?_; simp [inB, *]; done) | (refine congrArg Bv ?_; simp [inB, *]; omega) | (refine congrArg Bv ?_; simp_all [inB]; done) | (refine congrArg Bv ?_; simp_all [inB]; omega))) rfl (fun _ => trivial)



def hasB (s : ByteArray) (n : Int) : Bool := s.data.toList.any fun x => decide ((x.toNat : Int) = n)
theorem one_byte {t : ByteArray} (h : t.size = 1) : ∃ c, t = ⟨#[c]⟩ := by
  obtain ⟨⟨l⟩⟩ := t
  cases l with
  | nil => cases h
  | cons c l =>
    cases l with
    | nil => exact ⟨c, rfl⟩
    | cons d l => simp [ByteArray.size] at h
theorem has_index (l : List UInt8) (c : UInt8) : decide (0 ≤ Lib.indexByte l c) = l.any fun x => decide ((x.toNat : Int) = bAt ⟨#[c]⟩ 0) := by
  rw [← Lib.contains_iff_indexByte, Bool.eq_iff_iff]
  simp [bAt, List.contains_iff_mem]
  constructor
  · intro h; exact ⟨c, h, rfl⟩
  · rintro ⟨x, hx, e⟩
    have : x = c := UInt8.toNat_inj.1 (by omega)
    exact this ▸ hx


-- strings.Contains
theorem contains_ok (s t : ByteArray) (h : t.size = 1) : Con Tryz.prog 75 [Sv s, Sv t] true (Bv (hasB s (bAt t 0))) := by
  obtain ⟨c, rfl⟩ := one_byte h
  refine con_of_calls (vals := [.string s, .string ⟨#[c]⟩]) fun w _ => ?_
  refine (Tryz.strings_Contains_one s c w).mono ?_
  rintro e w' ⟨rfl, rfl⟩
  refine ⟨?_, Below.refl _ _⟩
  simp only [has_index, hasB]



-- impl.IsLabel
theorem implIsLabel_ok (s : ByteArray) (ok : s.size ≤ 9223372036854775807) : Con Tryz.prog 52 [Sv s] true (Bv (okLabel s)) := by
  refine fn_ok (fn := Tryz.f52) (nt := 15) Tryz.func52 rfl rfl rfl rfl (by simp [taggedL, tagged]) fun B hB => ?_
  refine aR [] [0] [] [Sv s] [] [] hB trivial ?_
  refine aw_seq ?_
  by_cases h1 : (s.size : Int) = 1
  ·rcases Bool.eq_false_or_eq_true (inB (bAt s 0) 97 122) with h2 | h2
   ·refine aw_r [(2, .dec true), (6, .call [(true, .any)] true (Bv true))] [2] [] [Bv true] [] [(s.size : Int) = 1, (0 : Int) ≤ 0 ∧ 0 < (s.size : Int), Con Tryz.prog 74 [.val (.int .u8 (bAt s 0))] true (Bv true) ∧ True] hB ⟨h1, ⟨(by omega), (by omega)⟩, ⟨(con_bool h2 (isLetter_ok (bAt s 0))), trivial⟩, trivial⟩ ?_
    refine ae_then ?_
    refine aw_ret ?_
    refine ae_ret hB (Bv true) (by kernel_rfl) (.inl (by first | (refine congrArg Bv ?_; simp_all [okLabel, labB, inB]; done) | (refine congrArg Bv ?_; have hbd := bAt_bd s 0; rw [Bool.eq_iff_iff]; simp_all [okLabel, hasB, labB, inB]; omega))) rfl (fun _ => trivial)
   refine aw_r [(2, .dec true), (6, .call [(true, .any)] true (Bv false)), (9, .call [(true, .any), (true, .any)] true (Bv (hasB (⟨#[48, 49, 50, 51, 52, 53, 54, 55, 56, 57, 43, 45, 42, 47, 61, 40, 41, 46, 44]⟩ : ByteArray) (bAt s 0))))] [2] [] [Bv (hasB (⟨#[48, 49, 50, 51, 52, 53, 54, 55, 56, 57, 43, 45, 42, 47, 61, 40, 41, 46, 44]⟩ : ByteArray) (bAt s 0))] [] [(s.size : Int) = 1, (0 : Int) ≤ 0 ∧ 0 < (s.size : Int), Con Tryz.prog 74 [.val (.int .u8 (bAt s 0))] true (Bv false) ∧ True, Con Tryz.prog 75 [Sv (⟨#[48, 49, 50, 51, 52, 53, 54, 55, 56, 57, 43, 45, 42, 47, 61, 40, 41, 46, 44]⟩ : ByteArray), Sv s] true (Bv (hasB (⟨#[48, 49, 50, 51, 52, 53, 54, 55, 56, 57, 43, 45, 42, 47, 61, 40, 41, 46, 44]⟩ : ByteArray) (bAt s 0))) ∧ True] hB ⟨h1, ⟨(by omega), (by omega)⟩, ⟨(con_bool h2 (isLetter_ok (bAt s 0))), trivial⟩, ⟨(contains_ok (⟨#[48, 49, 50, 51, 52, 53, 54, 55, 56, 57, 43, 45, 42, 47, 61, 40, 41, 46, 44]⟩ : ByteArray) s (by omega)), trivial⟩, trivial⟩ ?_
   refine ae_then ?_
   refine aw_ret ?_
   refine ae_ret hB (Bv (hasB (⟨#[48, 49, 50, 51, 52, 53, 54, 55, 56, 57, 43, 45, 42, 47, 61, 40, 41, 46, 44]⟩ : ByteArray) (bAt s 0))) (by kernel_rfl) (.inl (by first | (refine congrArg Bv ?_; simp_all [okLabel, labB, inB]; done) | (refine congrArg Bv ?_; have hbd := bAt_bd s 0; rw [Bool.eq_iff_iff]; simp_all [okLabel, hasB, labB, inB]; omega))) rfl (fun _ => trivial)
  refine aw_r [(2, .dec false)] [2] [] [Bv false] [] [¬ ((s.size : Int) = 1)] hB ⟨h1, trivial⟩ ?_
  refine ae_then ?_
  refine aw_ret ?_
  refine ae_ret hB (Bv false) (by kernel_rfl) (.inl (by first | (refine congrArg Bv ?_; simp_all [okLabel, labB, inB]; done) | (refine congrArg Bv ?_; have hbd := bAt_bd s 0; rw [Bool.eq_iff_iff]; simp_all [okLabel, hasB, labB, inB]; omega))) rfl (fun _ => trivial)



-- cmp.isNaN[int64]
theorem isNaNI_ok (x : Int) : Con Tryz.prog 77 [I x] true (Bv false) := by
  refine fn_ok (fn := Tryz.f77) (nt := 6) Tryz.func77 rfl rfl rfl rfl (by simp [taggedL, tagged]) fun B hB => ?_
  refine aR [] [0] [] [I x] [] [] hB trivial ?_
  refine aR [(2, .dec false)] [2] [] [Bv false] [] [¬ (x ≠ x)] hB ⟨(fun hq => hq rfl), trivial⟩ ?_
  refine aw_ret ?_
  refine ae_ret hB (Bv false) (by kernel_rfl) (.inl rfl) rfl (fun _ => trivial)


end Go.Proofs.YtppknhfdmmnmoaaGreat.Ax
