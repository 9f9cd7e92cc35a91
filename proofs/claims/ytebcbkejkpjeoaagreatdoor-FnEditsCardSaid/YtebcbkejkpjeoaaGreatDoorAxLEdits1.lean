/- Contracts that the statement FnEdits reaches, part 1. No conditions. -/
import Derived.Test.YtebcbkejkpjeoaaGreatDoorAxO
import Derived.Test.YtebcbkejkpjeoaaGreatDoorShelf
import Derived.Test.YtebcbkejkpjeoaaGreatDoorTie
import Derived.Test.YtebcbkejkpjeoaaGreatDoorCards
import Derived.LaidMore
import Derived.Lay
import Derived.OpenShut
import Derived.SevenTiedAt
import Derived.Shelf.Strings.SlTrimAscii
import Derived.Stop.Joined
namespace Go.Proofs.YtebcbkejkpjeoaaGreatDoor.Ax
open Go.RowKit Go.ChangeShapes Go.WideShapes
set_option linter.unusedVariables false
set_option linter.unusedSimpArgs false


def cU8 (x : Int) : List AV := [.val (.int .u8 x)]
def fU8 (xs : List Int) (i : Nat) : List AV := cU8 (at_ xs i)
def slU8 (fr : Bool) (xs : List Int) : AV := .sl fr 1 xs.length (fU8 xs)
theorem tagcU8 (t : Bool) (x : Int) : taggedL t (cU8 x) := by simp [cU8, taggedL, tagged]
theorem tagU8 (t : Bool) (xs : List Int) : tagged t (slU8 t xs) := by simp only [slU8, tagged]; exact ⟨trivial, fun i _ => tagcU8 t _⟩
theorem lenU8 (fr : Bool) (xs : List Int) : lenA noOb (slU8 fr xs) = some xs.length := rfl
def cS (x : ByteArray) : List AV := [Sv x]
def fS (xs : List ByteArray) (i : Nat) : List AV := cS (at_ xs i)
def slS (fr : Bool) (xs : List ByteArray) : AV := .sl fr 1 xs.length (fS xs)
theorem tagcS (t : Bool) (x : ByteArray) : taggedL t (cS x) := by simp [cS, taggedL, tagged]
theorem tagS (t : Bool) (xs : List ByteArray) : tagged t (slS t xs) := by simp only [slS, tagged]; exact ⟨trivial, fun i _ => tagcS t _⟩
theorem lenS (fr : Bool) (xs : List ByteArray) : lenA noOb (slS fr xs) = some xs.length := rfl
def cI (x : Int) : List AV := [I x]
def fI (xs : List Int) (i : Nat) : List AV := cI (at_ xs i)
def slI (fr : Bool) (xs : List Int) : AV := .sl fr 1 xs.length (fI xs)
theorem tagcI (t : Bool) (x : Int) : taggedL t (cI x) := by simp [cI, taggedL, tagged]
theorem tagI (t : Bool) (xs : List Int) : tagged t (slI t xs) := by simp only [slI, tagged]; exact ⟨trivial, fun i _ => tagcI t _⟩
theorem lenI (fr : Bool) (xs : List Int) : lenA noOb (slI fr xs) = some xs.length := rfl
structure CellRow where
  Text : ByteArray
  X : Int
  Y : Int
  Cell : Int
deriving DecidableEq, Inhabited
def cCellRow (x : CellRow) : List AV := [Sv x.Text, I x.X, I x.Y, I x.Cell]
def fCellRow (xs : List CellRow) (i : Nat) : List AV := cCellRow (at_ xs i)
def slCellRow (fr : Bool) (xs : List CellRow) : AV := .sl fr 4 xs.length (fCellRow xs)
theorem tagcCellRow (t : Bool) (x : CellRow) : taggedL t (cCellRow x) := by simp [cCellRow, taggedL, tagged]
theorem tagCellRow (t : Bool) (xs : List CellRow) : tagged t (slCellRow t xs) := by simp only [slCellRow, tagged]; exact ⟨trivial, fun i _ => tagcCellRow t _⟩
theorem lenCellRow (fr : Bool) (xs : List CellRow) : lenA noOb (slCellRow fr xs) = some xs.length := rfl
abbrev bxCellRow (x : CellRow) : Ob := .box [Sv x.Text, I x.X, I x.Y, I x.Cell]
abbrev agCellRow (x : CellRow) : AV := .agg [Sv x.Text, I x.X, I x.Y, I x.Cell]
structure Edit where
  Kind : Int
  From : Int
  To : Int
deriving DecidableEq, Inhabited
def cEdit (x : Edit) : List AV := [I x.Kind, I x.From, I x.To]
def fEdit (xs : List Edit) (i : Nat) : List AV := cEdit (at_ xs i)
def slEdit (fr : Bool) (xs : List Edit) : AV := .sl fr 3 xs.length (fEdit xs)
theorem tagcEdit (t : Bool) (x : Edit) : taggedL t (cEdit x) := by simp [cEdit, taggedL, tagged]
theorem tagEdit (t : Bool) (xs : List Edit) : tagged t (slEdit t xs) := by simp only [slEdit, tagged]; exact ⟨trivial, fun i _ => tagcEdit t _⟩
theorem lenEdit (fr : Bool) (xs : List Edit) : lenA noOb (slEdit fr xs) = some xs.length := rfl
abbrev bxEdit (x : Edit) : Ob := .box [I x.Kind, I x.From, I x.To]
abbrev agEdit (x : Edit) : AV := .agg [I x.Kind, I x.From, I x.To]
def cLU8 (fr : Bool) (x : List Int) : List AV := [slU8 fr x]
def fLU8 (fr : Bool) (xs : List (List Int)) (i : Nat) : List AV := cLU8 fr (at_ xs i)
def slLU8 (fr : Bool) (xs : List (List Int)) : AV := .sl fr 1 xs.length (fLU8 fr xs)
theorem tagcLU8 (t : Bool) (x : List Int) : taggedL t (cLU8 t x) := by simp [cLU8, taggedL, tagged, tagU8]
theorem tagLU8 (t : Bool) (xs : List (List Int)) : tagged t (slLU8 t xs) := by simp only [slLU8, tagged]; exact ⟨trivial, fun i _ => tagcLU8 t _⟩
theorem lenLU8 (fr : Bool) (xs : List (List Int)) : lenA noOb (slLU8 fr xs) = some xs.length := rfl
theorem idsLU8 (fr : Bool) (x : List Int) : AV.idsL (cLU8 fr x) = [] := rfl
theorem leLU8 (fr : Bool) (x : List Int) (ob : Nat → Option Ob) : leL ob false (cLU8 fr x) (cLU8 false x) := (And.intro (And.intro (fun h => by cases h) (And.intro rfl (And.intro rfl (fun i _ => .inl rfl)))) rfl)
def cU64 (x : Int) : List AV := [.val (.int .u64 x)]
def fU64 (xs : List Int) (i : Nat) : List AV := cU64 (at_ xs i)
def slU64 (fr : Bool) (xs : List Int) : AV := .sl fr 1 xs.length (fU64 xs)
theorem tagcU64 (t : Bool) (x : Int) : taggedL t (cU64 x) := by simp [cU64, taggedL, tagged]
theorem tagU64 (t : Bool) (xs : List Int) : tagged t (slU64 t xs) := by simp only [slU64, tagged]; exact ⟨trivial, fun i _ => tagcU64 t _⟩
theorem lenU64 (fr : Bool) (xs : List Int) : lenA noOb (slU64 fr xs) = some xs.length := rfl
structure l00Src where
  code : List Int
  atx : Int
  seed : Int
deriving DecidableEq, Inhabited
def cl00Src (fr : Bool) (x : l00Src) : List AV := [slU8 fr x.code, I x.atx, .val (.int .u64 x.seed)]
def fl00Src (fr : Bool) (xs : List l00Src) (i : Nat) : List AV := cl00Src fr (at_ xs i)
def sll00Src (fr : Bool) (xs : List l00Src) : AV := .sl fr 3 xs.length (fl00Src fr xs)
theorem tagcl00Src (t : Bool) (x : l00Src) : taggedL t (cl00Src t x) := by simp [cl00Src, taggedL, tagged, tagU8]
theorem tagl00Src (t : Bool) (xs : List l00Src) : tagged t (sll00Src t xs) := by simp only [sll00Src, tagged]; exact ⟨trivial, fun i _ => tagcl00Src t _⟩
theorem lenl00Src (fr : Bool) (xs : List l00Src) : lenA noOb (sll00Src fr xs) = some xs.length := rfl
theorem idsl00Src (fr : Bool) (x : l00Src) : AV.idsL (cl00Src fr x) = [] := rfl
theorem lel00Src (fr : Bool) (x : l00Src) (ob : Nat → Option Ob) : leL ob false (cl00Src fr x) (cl00Src false x) := (And.intro (And.intro (fun h => by cases h) (And.intro rfl (And.intro rfl (fun i _ => .inl rfl)))) (And.intro rfl (And.intro rfl rfl)))
abbrev bxl00Src (x : l00Src) : Ob := .box [slU8 false x.code, I x.atx, .val (.int .u64 x.seed)]
abbrev agl00Src (x : l00Src) : AV := .agg [slU8 false x.code, I x.atx, .val (.int .u64 x.seed)]
abbrev bxl00SrcT (x : l00Src) : Ob := .box [slU8 true x.code, I x.atx, .val (.int .u64 x.seed)]
abbrev agl00SrcT (x : l00Src) : AV := .agg [slU8 true x.code, I x.atx, .val (.int .u64 x.seed)]
structure Point where
  X : Int
  Y : Int
  T : Int
deriving DecidableEq, Inhabited
def cPoint (x : Point) : List AV := [I x.X, I x.Y, I x.T]
def fPoint (xs : List Point) (i : Nat) : List AV := cPoint (at_ xs i)
def slPoint (fr : Bool) (xs : List Point) : AV := .sl fr 3 xs.length (fPoint xs)
theorem tagcPoint (t : Bool) (x : Point) : taggedL t (cPoint x) := by simp [cPoint, taggedL, tagged]
theorem tagPoint (t : Bool) (xs : List Point) : tagged t (slPoint t xs) := by simp only [slPoint, tagged]; exact ⟨trivial, fun i _ => tagcPoint t _⟩
theorem lenPoint (fr : Bool) (xs : List Point) : lenA noOb (slPoint fr xs) = some xs.length := rfl
abbrev bxPoint (x : Point) : Ob := .box [I x.X, I x.Y, I x.T]
abbrev agPoint (x : Point) : AV := .agg [I x.X, I x.Y, I x.T]
def cLPoint (fr : Bool) (x : List Point) : List AV := [slPoint fr x]
def fLPoint (fr : Bool) (xs : List (List Point)) (i : Nat) : List AV := cLPoint fr (at_ xs i)
def slLPoint (fr : Bool) (xs : List (List Point)) : AV := .sl fr 1 xs.length (fLPoint fr xs)
theorem tagcLPoint (t : Bool) (x : List Point) : taggedL t (cLPoint t x) := by simp [cLPoint, taggedL, tagged, tagPoint]
theorem tagLPoint (t : Bool) (xs : List (List Point)) : tagged t (slLPoint t xs) := by simp only [slLPoint, tagged]; exact ⟨trivial, fun i _ => tagcLPoint t _⟩
theorem lenLPoint (fr : Bool) (xs : List (List Point)) : lenA noOb (slLPoint fr xs) = some xs.length := rfl
theorem idsLPoint (fr : Bool) (x : List Point) : AV.idsL (cLPoint fr x) = [] := rfl
theorem leLPoint (fr : Bool) (x : List Point) (ob : Nat → Option Ob) : leL ob false (cLPoint fr x) (cLPoint false x) := (And.intro (And.intro (fun h => by cases h) (And.intro rfl (And.intro rfl (fun i _ => .inl rfl)))) rfl)
structure Stroke where
  Points : List Point
deriving DecidableEq, Inhabited
def cStroke (fr : Bool) (x : Stroke) : List AV := [slPoint fr x.Points]
def fStroke (fr : Bool) (xs : List Stroke) (i : Nat) : List AV := cStroke fr (at_ xs i)
def slStroke (fr : Bool) (xs : List Stroke) : AV := .sl fr 1 xs.length (fStroke fr xs)
theorem tagcStroke (t : Bool) (x : Stroke) : taggedL t (cStroke t x) := by simp [cStroke, taggedL, tagged, tagPoint]
theorem tagStroke (t : Bool) (xs : List Stroke) : tagged t (slStroke t xs) := by simp only [slStroke, tagged]; exact ⟨trivial, fun i _ => tagcStroke t _⟩
theorem lenStroke (fr : Bool) (xs : List Stroke) : lenA noOb (slStroke fr xs) = some xs.length := rfl
theorem idsStroke (fr : Bool) (x : Stroke) : AV.idsL (cStroke fr x) = [] := rfl
theorem leStroke (fr : Bool) (x : Stroke) (ob : Nat → Option Ob) : leL ob false (cStroke fr x) (cStroke false x) := (And.intro (And.intro (fun h => by cases h) (And.intro rfl (And.intro rfl (fun i _ => .inl rfl)))) rfl)
def cLStroke (fr : Bool) (x : List Stroke) : List AV := [slStroke fr x]
def fLStroke (fr : Bool) (xs : List (List Stroke)) (i : Nat) : List AV := cLStroke fr (at_ xs i)
def slLStroke (fr : Bool) (xs : List (List Stroke)) : AV := .sl fr 1 xs.length (fLStroke fr xs)
theorem tagcLStroke (t : Bool) (x : List Stroke) : taggedL t (cLStroke t x) := by simp [cLStroke, taggedL, tagged, tagStroke]
theorem tagLStroke (t : Bool) (xs : List (List Stroke)) : tagged t (slLStroke t xs) := by simp only [slLStroke, tagged]; exact ⟨trivial, fun i _ => tagcLStroke t _⟩
theorem lenLStroke (fr : Bool) (xs : List (List Stroke)) : lenA noOb (slLStroke fr xs) = some xs.length := rfl
theorem idsLStroke (fr : Bool) (x : List Stroke) : AV.idsL (cLStroke fr x) = [] := rfl
theorem leLStroke (fr : Bool) (x : List Stroke) (ob : Nat → Option Ob) : leL ob false (cLStroke fr x) (cLStroke false x) := (And.intro (And.intro (fun h => by cases h) (And.intro rfl (And.intro rfl (fun i _ => .inr ⟨idsStroke _ _, leStroke _ _ _⟩)))) rfl)
structure Ink where
  Strokes : List Stroke
deriving DecidableEq, Inhabited
def cInk (fr : Bool) (x : Ink) : List AV := [slStroke fr x.Strokes]
def fInk (fr : Bool) (xs : List Ink) (i : Nat) : List AV := cInk fr (at_ xs i)
def slInk (fr : Bool) (xs : List Ink) : AV := .sl fr 1 xs.length (fInk fr xs)
theorem tagcInk (t : Bool) (x : Ink) : taggedL t (cInk t x) := by simp [cInk, taggedL, tagged, tagStroke]
theorem tagInk (t : Bool) (xs : List Ink) : tagged t (slInk t xs) := by simp only [slInk, tagged]; exact ⟨trivial, fun i _ => tagcInk t _⟩
theorem lenInk (fr : Bool) (xs : List Ink) : lenA noOb (slInk fr xs) = some xs.length := rfl
theorem idsInk (fr : Bool) (x : Ink) : AV.idsL (cInk fr x) = [] := rfl
theorem leInk (fr : Bool) (x : Ink) (ob : Nat → Option Ob) : leL ob false (cInk fr x) (cInk false x) := (And.intro (And.intro (fun h => by cases h) (And.intro rfl (And.intro rfl (fun i _ => .inr ⟨idsStroke _ _, leStroke _ _ _⟩)))) rfl)
structure Box where
  X1 : Int
  Y1 : Int
  X2 : Int
  Y2 : Int
deriving DecidableEq, Inhabited
def cBox (x : Box) : List AV := [I x.X1, I x.Y1, I x.X2, I x.Y2]
def fBox (xs : List Box) (i : Nat) : List AV := cBox (at_ xs i)
def slBox (fr : Bool) (xs : List Box) : AV := .sl fr 4 xs.length (fBox xs)
theorem tagcBox (t : Bool) (x : Box) : taggedL t (cBox x) := by simp [cBox, taggedL, tagged]
theorem tagBox (t : Bool) (xs : List Box) : tagged t (slBox t xs) := by simp only [slBox, tagged]; exact ⟨trivial, fun i _ => tagcBox t _⟩
theorem lenBox (fr : Bool) (xs : List Box) : lenA noOb (slBox fr xs) = some xs.length := rfl
abbrev bxBox (x : Box) : Ob := .box [I x.X1, I x.Y1, I x.X2, I x.Y2]
abbrev agBox (x : Box) : AV := .agg [I x.X1, I x.Y1, I x.X2, I x.Y2]

-- laws.f6big
theorem f6big_ok (code : List Int) : Con Tryz.prog 5 [slU8 false code] true (Bv (decide (4096 < (code.length : Int)))) := by
  refine fn_ok (fn := Tryz.f5) (nt := 6) Tryz.func5 rfl rfl rfl rfl (by simp [taggedL, tagged, tagU8]) fun B hB => ?_
  refine aw_lens (x := slU8 false code) 0 rfl (fun len_code => ?_)
  simp [LenOK, LenL, cU8, fU8, slU8] at len_code
  refine aw_seq ?_
  refine aw_reg [] [0] [] [slU8 false code] [] [] (by kernel_rfl) hB trivial ?_
  refine ae_then ?_
  refine aw_seq ?_
  refine aw_reg [] [2] [] [Bv (decide (4096 < (code.length : Int)))] [] [] (by kernel_rfl) hB trivial ?_
  refine ae_then ?_
  refine aw_ret ?_
  refine ae_ret hB (Bv (decide (4096 < (code.length : Int)))) (by kernel_rfl) (.inl rfl) rfl (fun _ => trivial)


theorem set_at {α : Type} [Inhabited α] {ys xs : List α} {i : Int} (hl : ys.length = xs.length) (hi : i.toNat < xs.length) (h : ∀ j : Nat, (j : Int) < i → at_ ys j = at_ xs j) (j : Nat) (hj : j ≤ i.toNat) : at_ (ys.set i.toNat (at_ xs i.toNat)) j = at_ xs j := by
  by_cases e : i.toNat = j
  · subst e; simp [at_, hl, hi]
  · have := h j (by omega)
    simp only [at_] at this ⊢
    rw [← this]
    simp [e]
/-- Whether two things are the same. -/
def same {α : Type} [DecidableEq α] (x y : α) : Bool := decide (x = y)
theorem same_iff {α : Type} [DecidableEq α] {x y : α} : same x y = true ↔ x = y := by simp [same]
theorem ext_at {α : Type} [Inhabited α] {xs ys : List α} (hl : xs.length = ys.length) (h : ∀ j : Nat, j < xs.length → at_ xs j = at_ ys j) : xs = ys := by
  apply List.ext_getElem hl
  intro i h1 h2
  rw [← at_eq h1, ← at_eq h2]
  exact h i h1

theorem at_mem {α : Type} [Inhabited α] {xs : List α} {i : Nat} (h : i < xs.length) : at_ xs i ∈ xs := by rw [at_eq h]; exact List.getElem_mem h

/-- Whether p holds of all numbers below n. -/
def allN (n : Nat) (p : Nat → Bool) : Bool := (List.range n).all p
def anyN (n : Nat) (p : Nat → Bool) : Bool := !(allN n fun j => !(p j))
theorem allN_iff {n : Nat} {p : Nat → Bool} : allN n p = true ↔ ∀ j, j < n → p j = true := by simp [allN, List.all_eq_true]
theorem allN_at {n : Nat} {p : Nat → Bool} (h : ∀ j, j < n → p j = true) : allN n p = true := allN_iff.2 h
theorem allN_get {n : Nat} {p : Nat → Bool} (h : allN n p = true) {k : Nat} (hk : k < n) : p k = true := allN_iff.1 h k hk
theorem allN_not {n : Nat} {p : Nat → Bool} {k : Nat} (hk : k < n) (h : p k = false) : allN n p = false := by
  rw [← Bool.not_eq_true, allN_iff]; intro h'; rw [h' k hk] at h; cases h
theorem anyN_not (n : Nat) (p : Nat → Bool) : anyN n (fun j => !(p j)) = !(allN n p) := by simp [anyN]
theorem anyN_at {n : Nat} {p : Nat → Bool} {k : Nat} (hk : k < n) (h : p k = true) : anyN n p = true := by
  unfold anyN; rw [allN_not hk (by simp [h])]; rfl
theorem anyN_none {n : Nat} {p : Nat → Bool} (h : ∀ j, j < n → p j = false) : anyN n p = false := by
  unfold anyN; rw [allN_at (fun j hj => by simp [h j hj])]; rfl
theorem anyN_iff {n : Nat} {p : Nat → Bool} : anyN n p = true ↔ ∃ j, j < n ∧ p j = true := by
  constructor
  · intro h
    apply Classical.byContradiction
    intro hn
    rw [anyN_none (fun j hj => by rw [← Bool.not_eq_true]; exact fun hp => hn ⟨j, hj, hp⟩)] at h
    cases h
  · rintro ⟨j, hj, hp⟩; exact anyN_at hj hp
theorem up_to {n : Int} {p : Nat → Prop} {i : Int} (hi : 0 ≤ i) (h : ∀ j : Nat, (j : Int) < i → p j) (hp : p i.toNat) : ∀ j : Nat, (j : Int) < i + 1 → p j := fun j hj => by
  by_cases e : j = i.toNat
  · subst e; exact hp
  · exact h j (by omega)

/-- The source of choices is in order: its bytes are bytes, and its place is a number. -/
def okSrc (s : l00Src) : Prop := (∀ j, j < s.code.length → 0 ≤ at_ s.code j ∧ at_ s.code j ≤ 255) ∧ 0 ≤ s.atx ∧ s.code.length ≤ 4611686018427387904
theorem u64_wrap (n : Int) : 0 ≤ IntKind.u64.wrap n ∧ IntKind.u64.wrap n ≤ 18446744073709551615 := by
  simp only [IntKind.wrap, IntKind.signed, IntKind.bits]
  simp
  omega
theorem and_255 (a : Int) : 0 ≤ bitsI .and .u64 a 255 ∧ bitsI .and .u64 a 255 ≤ 255 := by
  obtain ⟨n, hn⟩ : ∃ n : Nat, n = (BitVec.ofInt 64 a &&& BitVec.ofInt 64 255).toNat := ⟨_, rfl⟩
  have h : n ≤ 255 := by rw [hn, BitVec.toNat_and]; exact Nat.and_le_right
  have e : bitsI .and .u64 a 255 = IntKind.u64.wrap (n : Int) := by rw [hn]; rfl
  have w : IntKind.u64.wrap (n : Int) = n := wrap_in (inR_u64 (by omega) (by omega))
  rw [e, w]; omega

-- spec.l00From
theorem l00From_ok (code : List Int) : ∃ (s' : l00Src), (s'.code = code ∧ s'.atx = 0) ∧ CallOK Tryz.prog 30 [slU8 false code] (lookO []) false (.ref 7001 0) (lookO [(7001, bxl00Src s')]) := by
  have hh : ∃ r : l00Src, ((r.code = code ∧ r.atx = 0) ∧ (True)) ∧ CallOK Tryz.prog 30 [slU8 false code] (lookO []) false (.ref 7001 0) (lookO [(7001, bxl00Src r)]) := by
    refine fn_okX (Φ := fun r : l00Src => (r.code = code ∧ r.atx = 0) ∧ (True)) [] (fun r => [(7001, bxl00Src r)]) (fn := Tryz.f30) (nt := 6) Tryz.func30 rfl rfl (args := [slU8 false code]) rfl (allcons (.inl ⟨rfl, tagU8 false _⟩) allnil) (res := fun r => .ref 7001 0) ?_
    refine x_seq ?_
    refine x_reg [] [0] [] [slU8 false code] [] [] (by kernel_rfl) trivial ?_
    refine xe_then ?_
    refine x_seq ?_
    refine x_reg [(2, .new 7001)] [2] [7001] [.ref 7001 0] [some (.box [slU8 false code, I 0, .val (.int .u64 0)])] [] (by kernel_rfl) trivial ?_
    refine xe_then ?_
    refine x_ret ?_
    refine xe_end (l00Src.mk code 0 0) (show ((l00Src.mk code 0 0).code = code ∧ (l00Src.mk code 0 0).atx = 0) ∧ (True) from ⟨(by first | rfl | (exact ⟨rfl, rfl⟩)), trivial⟩) (⟨.inl rfl, trivial⟩) (.ref 7001 0) (by kernel_rfl) (.inl rfl) (fun h => by cases h) (fun h => by cases h)
  obtain ⟨s', ⟨hh0, _⟩, hc⟩ := hh
  exact ⟨s', hh0, hc⟩


-- spec.l00Src).next
theorem next_ok (s : l00Src) (hs : okSrc s) (ha : s.atx ≤ 4000000000000000000) : ∃ (v : Int) (s' : l00Src), (0 ≤ v ∧ v ≤ 255) ∧ (okSrc s') ∧ (s'.code = s.code) ∧ (s.atx + 1 ≤ s'.atx ∧ s'.atx ≤ s.atx + 1) ∧ CallOK Tryz.prog 77 [.ref 7001 0] (lookO [(7001, bxl00Src s)]) true (I v) (lookO [(7001, bxl00Src s')]) := by
  have hs0 := hs.2.1
  have hs1 := hs.2.2
  have hh : ∃ r : Int × l00Src, ((0 ≤ r.1 ∧ r.1 ≤ 255) ∧ (okSrc r.2) ∧ (r.2.code = s.code) ∧ (s.atx + 1 ≤ r.2.atx ∧ r.2.atx ≤ s.atx + 1) ∧ (True)) ∧ CallOK Tryz.prog 77 [.ref 7001 0] (lookO [(7001, bxl00Src s)]) true (I r.1) (lookO [(7001, bxl00Src r.2)]) := by
    refine fn_okX (Φ := fun r : Int × l00Src => (0 ≤ r.1 ∧ r.1 ≤ 255) ∧ (okSrc r.2) ∧ (r.2.code = s.code) ∧ (s.atx + 1 ≤ r.2.atx ∧ r.2.atx ≤ s.atx + 1) ∧ (True)) [(7001, bxl00Src s)] (fun r => [(7001, bxl00Src r.2)]) (fn := Tryz.f77) (nt := 62) Tryz.func77 rfl rfl (args := [.ref 7001 0]) rfl (allcons (.inr trivial) allnil) (res := fun r => I r.1) ?_
    refine x_seq ?_
    refine x_reg [] [0] [7001] [.ref 7001 0] [some (bxl00Src s)] [] (by kernel_rfl) trivial ?_
    refine xe_then ?_
    refine x_seq ?_
    refine x_reg [] [0, 3] [7001] [.ref 7001 0, I 0] [some (bxl00Src s)] [] (by kernel_rfl) trivial ?_
    refine xe_then ?_
    refine x_seq ?_
    refine x_seq ?_
    by_cases h1 : s.atx < (s.code.length : Int)
    ·have hbt := hs.1 s.atx.toNat (by omega)
     refine x_reg [(9, .dec true)] [0, 3, 13] [7001] [.ref 7001 0, I 0, Bv true] [some (bxl00Src s)] [s.atx < (s.code.length : Int)] (by kernel_rfl) ⟨h1, trivial⟩ ?_
     refine xe_then ?_
     refine x_true rfl ?_
     refine x_reg [] [0, 3] [7001] [.ref 7001 0, I (at_ s.code s.atx.toNat)] [some (bxl00Src s)] [(0 : Int) ≤ s.atx ∧ s.atx < (s.code.length : Int), inR .i64 (at_ s.code s.atx.toNat)] (by kernel_rfl) ⟨⟨(by omega), (by omega)⟩, (inR_i64 (by omega) (by omega)), trivial⟩ ?_
     refine xe_then ?_
     refine x_seq ?_
     refine x_reg [] [0, 3] [7001] [.ref 7001 0, I (at_ s.code s.atx.toNat)] [some (.box [slU8 false s.code, I (s.atx + 1), .val (.int .u64 s.seed)])] [inR .i64 (s.atx + 1)] (by kernel_rfl) ⟨(inR_i64 (by omega) (by omega)), trivial⟩ ?_
     refine xe_then ?_
     refine x_seq ?_
     refine x_reg [(5, .wrap), (8, .wrap), (9, .wrap)] [0, 3] [7001] [.ref 7001 0, I (at_ s.code s.atx.toNat)] [some (.box [slU8 false s.code, I (s.atx + 1), .val (.int .u64 (IntKind.u64.wrap ((IntKind.u64.wrap ((IntKind.u64.wrap (s.seed * 6364136223846793005)) + (at_ s.code s.atx.toNat))) + 1442695040888963407)))])] [inR .u64 (at_ s.code s.atx.toNat)] (by kernel_rfl) ⟨(inR_u64 (by omega) (by omega)), trivial⟩ ?_
     refine xe_then ?_
     refine x_seq ?_
     refine x_seq ?_
     by_cases h2 : (s.atx + 1) ≤ (s.code.length : Int)
     ·refine x_reg [(9, .dec true)] [0, 3, 53] [7001] [.ref 7001 0, I (at_ s.code s.atx.toNat), Bv true] [some (.box [slU8 false s.code, I (s.atx + 1), .val (.int .u64 (IntKind.u64.wrap ((IntKind.u64.wrap ((IntKind.u64.wrap (s.seed * 6364136223846793005)) + (at_ s.code s.atx.toNat))) + 1442695040888963407)))])] [(s.atx + 1) ≤ (s.code.length : Int)] (by kernel_rfl) ⟨h2, trivial⟩ ?_
      refine xe_then ?_
      refine x_true rfl ?_
      refine x_seq ?_
      refine x_reg [] [2] [7001] [I (at_ s.code s.atx.toNat)] [some (.box [slU8 false s.code, I (s.atx + 1), .val (.int .u64 (IntKind.u64.wrap ((IntKind.u64.wrap ((IntKind.u64.wrap (s.seed * 6364136223846793005)) + (at_ s.code s.atx.toNat))) + 1442695040888963407)))])] [] (by kernel_rfl) trivial ?_
      refine xe_then ?_
      refine x_ret ?_
      refine xe_ret_then ?_
      refine xe_end ((at_ s.code s.atx.toNat), (l00Src.mk s.code (s.atx + 1) (IntKind.u64.wrap ((IntKind.u64.wrap ((IntKind.u64.wrap (s.seed * 6364136223846793005)) + (at_ s.code s.atx.toNat))) + 1442695040888963407)))) (show (0 ≤ (at_ s.code s.atx.toNat) ∧ (at_ s.code s.atx.toNat) ≤ 255) ∧ (okSrc (l00Src.mk s.code (s.atx + 1) (IntKind.u64.wrap ((IntKind.u64.wrap ((IntKind.u64.wrap (s.seed * 6364136223846793005)) + (at_ s.code s.atx.toNat))) + 1442695040888963407)))) ∧ ((l00Src.mk s.code (s.atx + 1) (IntKind.u64.wrap ((IntKind.u64.wrap ((IntKind.u64.wrap (s.seed * 6364136223846793005)) + (at_ s.code s.atx.toNat))) + 1442695040888963407))).code = s.code) ∧ (s.atx + 1 ≤ (l00Src.mk s.code (s.atx + 1) (IntKind.u64.wrap ((IntKind.u64.wrap ((IntKind.u64.wrap (s.seed * 6364136223846793005)) + (at_ s.code s.atx.toNat))) + 1442695040888963407))).atx ∧ (l00Src.mk s.code (s.atx + 1) (IntKind.u64.wrap ((IntKind.u64.wrap ((IntKind.u64.wrap (s.seed * 6364136223846793005)) + (at_ s.code s.atx.toNat))) + 1442695040888963407))).atx ≤ s.atx + 1) ∧ (True) from ⟨(by first | omega | rfl | assumption | (dsimp only; first | omega | rfl | assumption) | (simp only [*]; done) | exact ⟨hs.1, (by dsimp only; omega), hs1⟩), (by first | omega | rfl | assumption | (dsimp only; first | omega | rfl | assumption) | (simp only [*]; done) | exact ⟨hs.1, (by dsimp only; omega), hs1⟩), (by first | omega | rfl | assumption | (dsimp only; first | omega | rfl | assumption) | (simp only [*]; done) | exact ⟨hs.1, (by dsimp only; omega), hs1⟩), (by first | omega | rfl | assumption | (dsimp only; first | omega | rfl | assumption) | (simp only [*]; done) | exact ⟨hs.1, (by dsimp only; omega), hs1⟩), trivial⟩) (⟨.inl rfl, trivial⟩) (I (at_ s.code s.atx.toNat)) (by kernel_rfl) (.inl rfl) (fun _ => rfl) (fun _ => trivial)
     ·refine x_reg [(9, .dec false)] [0, 3, 53] [7001] [.ref 7001 0, I (at_ s.code s.atx.toNat), Bv false] [some (.box [slU8 false s.code, I (s.atx + 1), .val (.int .u64 (IntKind.u64.wrap ((IntKind.u64.wrap ((IntKind.u64.wrap (s.seed * 6364136223846793005)) + (at_ s.code s.atx.toNat))) + 1442695040888963407)))])] [¬ ((s.atx + 1) ≤ (s.code.length : Int))] (by kernel_rfl) ⟨h2, trivial⟩ ?_
      refine xe_then ?_
      refine x_false rfl ?_
      refine x_skip ?_
      refine xe_then ?_
      refine x_seq ?_
      have hb1 := and_255 ((IntKind.u64.wrap ((IntKind.u64.wrap ((IntKind.u64.wrap (s.seed * 6364136223846793005)) + (at_ s.code s.atx.toNat))) + 1442695040888963407)) / 1099511627776)
      refine x_reg [] [2] [7001] [I (bitsI .and .u64 ((IntKind.u64.wrap ((IntKind.u64.wrap ((IntKind.u64.wrap (s.seed * 6364136223846793005)) + (at_ s.code s.atx.toNat))) + 1442695040888963407)) / 1099511627776) 255)] [some (.box [slU8 false s.code, I (s.atx + 1), .val (.int .u64 (IntKind.u64.wrap ((IntKind.u64.wrap ((IntKind.u64.wrap (s.seed * 6364136223846793005)) + (at_ s.code s.atx.toNat))) + 1442695040888963407)))])] [(0 : Int) ≤ 40 ∧ (40 : Int) ≤ ((IntKind.bits .u64 : Nat) : Int), inR .i64 (bitsI .and .u64 ((IntKind.u64.wrap ((IntKind.u64.wrap ((IntKind.u64.wrap (s.seed * 6364136223846793005)) + (at_ s.code s.atx.toNat))) + 1442695040888963407)) / 1099511627776) 255)] (by kernel_rfl) ⟨⟨(by decide), (by decide)⟩, (inR_i64 (by omega) (by omega)), trivial⟩ ?_
      refine xe_then ?_
      refine x_ret ?_
      refine xe_end ((bitsI .and .u64 ((IntKind.u64.wrap ((IntKind.u64.wrap ((IntKind.u64.wrap (s.seed * 6364136223846793005)) + (at_ s.code s.atx.toNat))) + 1442695040888963407)) / 1099511627776) 255), (l00Src.mk s.code (s.atx + 1) (IntKind.u64.wrap ((IntKind.u64.wrap ((IntKind.u64.wrap (s.seed * 6364136223846793005)) + (at_ s.code s.atx.toNat))) + 1442695040888963407)))) (show (0 ≤ (bitsI .and .u64 ((IntKind.u64.wrap ((IntKind.u64.wrap ((IntKind.u64.wrap (s.seed * 6364136223846793005)) + (at_ s.code s.atx.toNat))) + 1442695040888963407)) / 1099511627776) 255) ∧ (bitsI .and .u64 ((IntKind.u64.wrap ((IntKind.u64.wrap ((IntKind.u64.wrap (s.seed * 6364136223846793005)) + (at_ s.code s.atx.toNat))) + 1442695040888963407)) / 1099511627776) 255) ≤ 255) ∧ (okSrc (l00Src.mk s.code (s.atx + 1) (IntKind.u64.wrap ((IntKind.u64.wrap ((IntKind.u64.wrap (s.seed * 6364136223846793005)) + (at_ s.code s.atx.toNat))) + 1442695040888963407)))) ∧ ((l00Src.mk s.code (s.atx + 1) (IntKind.u64.wrap ((IntKind.u64.wrap ((IntKind.u64.wrap (s.seed * 6364136223846793005)) + (at_ s.code s.atx.toNat))) + 1442695040888963407))).code = s.code) ∧ (s.atx + 1 ≤ (l00Src.mk s.code (s.atx + 1) (IntKind.u64.wrap ((IntKind.u64.wrap ((IntKind.u64.wrap (s.seed * 6364136223846793005)) + (at_ s.code s.atx.toNat))) + 1442695040888963407))).atx ∧ (l00Src.mk s.code (s.atx + 1) (IntKind.u64.wrap ((IntKind.u64.wrap ((IntKind.u64.wrap (s.seed * 6364136223846793005)) + (at_ s.code s.atx.toNat))) + 1442695040888963407))).atx ≤ s.atx + 1) ∧ (True) from ⟨(by first | omega | rfl | assumption | (dsimp only; first | omega | rfl | assumption) | (simp only [*]; done) | exact ⟨hs.1, (by dsimp only; omega), hs1⟩), (by first | omega | rfl | assumption | (dsimp only; first | omega | rfl | assumption) | (simp only [*]; done) | exact ⟨hs.1, (by dsimp only; omega), hs1⟩), (by first | omega | rfl | assumption | (dsimp only; first | omega | rfl | assumption) | (simp only [*]; done) | exact ⟨hs.1, (by dsimp only; omega), hs1⟩), (by first | omega | rfl | assumption | (dsimp only; first | omega | rfl | assumption) | (simp only [*]; done) | exact ⟨hs.1, (by dsimp only; omega), hs1⟩), trivial⟩) (⟨.inl rfl, trivial⟩) (I (bitsI .and .u64 ((IntKind.u64.wrap ((IntKind.u64.wrap ((IntKind.u64.wrap (s.seed * 6364136223846793005)) + (at_ s.code s.atx.toNat))) + 1442695040888963407)) / 1099511627776) 255)) (by kernel_rfl) (.inl rfl) (fun _ => rfl) (fun _ => trivial)
    ·refine x_reg [(9, .dec false)] [0, 3, 13] [7001] [.ref 7001 0, I 0, Bv false] [some (bxl00Src s)] [¬ (s.atx < (s.code.length : Int))] (by kernel_rfl) ⟨h1, trivial⟩ ?_
     refine xe_then ?_
     refine x_false rfl ?_
     refine x_skip ?_
     refine xe_then ?_
     refine x_seq ?_
     refine x_reg [] [0, 3] [7001] [.ref 7001 0, I 0] [some (.box [slU8 false s.code, I (s.atx + 1), .val (.int .u64 s.seed)])] [inR .i64 (s.atx + 1)] (by kernel_rfl) ⟨(inR_i64 (by omega) (by omega)), trivial⟩ ?_
     refine xe_then ?_
     refine x_seq ?_
     refine x_reg [(5, .wrap), (8, .wrap), (9, .wrap)] [0, 3] [7001] [.ref 7001 0, I 0] [some (.box [slU8 false s.code, I (s.atx + 1), .val (.int .u64 (IntKind.u64.wrap ((IntKind.u64.wrap ((IntKind.u64.wrap (s.seed * 6364136223846793005)) + 0)) + 1442695040888963407)))])] [inR .u64 0] (by kernel_rfl) ⟨(inR_u64 (by omega) (by omega)), trivial⟩ ?_
     refine xe_then ?_
     refine x_seq ?_
     refine x_seq ?_
     by_cases h3 : (s.atx + 1) ≤ (s.code.length : Int)
     ·refine x_reg [(9, .dec true)] [0, 3, 53] [7001] [.ref 7001 0, I 0, Bv true] [some (.box [slU8 false s.code, I (s.atx + 1), .val (.int .u64 (IntKind.u64.wrap ((IntKind.u64.wrap ((IntKind.u64.wrap (s.seed * 6364136223846793005)) + 0)) + 1442695040888963407)))])] [(s.atx + 1) ≤ (s.code.length : Int)] (by kernel_rfl) ⟨h3, trivial⟩ ?_
      refine xe_then ?_
      refine x_true rfl ?_
      refine x_seq ?_
      refine x_reg [] [2] [7001] [I 0] [some (.box [slU8 false s.code, I (s.atx + 1), .val (.int .u64 (IntKind.u64.wrap ((IntKind.u64.wrap ((IntKind.u64.wrap (s.seed * 6364136223846793005)) + 0)) + 1442695040888963407)))])] [] (by kernel_rfl) trivial ?_
      refine xe_then ?_
      refine x_ret ?_
      refine xe_ret_then ?_
      refine xe_end (0, (l00Src.mk s.code (s.atx + 1) (IntKind.u64.wrap ((IntKind.u64.wrap ((IntKind.u64.wrap (s.seed * 6364136223846793005)) + 0)) + 1442695040888963407)))) (show (0 ≤ 0 ∧ 0 ≤ 255) ∧ (okSrc (l00Src.mk s.code (s.atx + 1) (IntKind.u64.wrap ((IntKind.u64.wrap ((IntKind.u64.wrap (s.seed * 6364136223846793005)) + 0)) + 1442695040888963407)))) ∧ ((l00Src.mk s.code (s.atx + 1) (IntKind.u64.wrap ((IntKind.u64.wrap ((IntKind.u64.wrap (s.seed * 6364136223846793005)) + 0)) + 1442695040888963407))).code = s.code) ∧ (s.atx + 1 ≤ (l00Src.mk s.code (s.atx + 1) (IntKind.u64.wrap ((IntKind.u64.wrap ((IntKind.u64.wrap (s.seed * 6364136223846793005)) + 0)) + 1442695040888963407))).atx ∧ (l00Src.mk s.code (s.atx + 1) (IntKind.u64.wrap ((IntKind.u64.wrap ((IntKind.u64.wrap (s.seed * 6364136223846793005)) + 0)) + 1442695040888963407))).atx ≤ s.atx + 1) ∧ (True) from ⟨(by first | omega | rfl | assumption | (dsimp only; first | omega | rfl | assumption) | (simp only [*]; done) | exact ⟨hs.1, (by dsimp only; omega), hs1⟩), (by first | omega | rfl | assumption | (dsimp only; first | omega | rfl | assumption) | (simp only [*]; done) | exact ⟨hs.1, (by dsimp only; omega), hs1⟩), (by first | omega | rfl | assumption | (dsimp only; first | omega | rfl | assumption) | (simp only [*]; done) | exact ⟨hs.1, (by dsimp only; omega), hs1⟩), (by first | omega | rfl | assumption | (dsimp only; first | omega | rfl | assumption) | (simp only [*]; done) | exact ⟨hs.1, (by dsimp only; omega), hs1⟩), trivial⟩) (⟨.inl rfl, trivial⟩) (I 0) (by kernel_rfl) (.inl rfl) (fun _ => rfl) (fun _ => trivial)
     ·refine x_reg [(9, .dec false)] [0, 3, 53] [7001] [.ref 7001 0, I 0, Bv false] [some (.box [slU8 false s.code, I (s.atx + 1), .val (.int .u64 (IntKind.u64.wrap ((IntKind.u64.wrap ((IntKind.u64.wrap (s.seed * 6364136223846793005)) + 0)) + 1442695040888963407)))])] [¬ ((s.atx + 1) ≤ (s.code.length : Int))] (by kernel_rfl) ⟨h3, trivial⟩ ?_
      refine xe_then ?_
      refine x_false rfl ?_
      refine x_skip ?_
      refine xe_then ?_
      refine x_seq ?_
      have hb2 := and_255 ((IntKind.u64.wrap ((IntKind.u64.wrap ((IntKind.u64.wrap (s.seed * 6364136223846793005)) + 0)) + 1442695040888963407)) / 1099511627776)
      refine x_reg [] [2] [7001] [I (bitsI .and .u64 ((IntKind.u64.wrap ((IntKind.u64.wrap ((IntKind.u64.wrap (s.seed * 6364136223846793005)) + 0)) + 1442695040888963407)) / 1099511627776) 255)] [some (.box [slU8 false s.code, I (s.atx + 1), .val (.int .u64 (IntKind.u64.wrap ((IntKind.u64.wrap ((IntKind.u64.wrap (s.seed * 6364136223846793005)) + 0)) + 1442695040888963407)))])] [(0 : Int) ≤ 40 ∧ (40 : Int) ≤ ((IntKind.bits .u64 : Nat) : Int), inR .i64 (bitsI .and .u64 ((IntKind.u64.wrap ((IntKind.u64.wrap ((IntKind.u64.wrap (s.seed * 6364136223846793005)) + 0)) + 1442695040888963407)) / 1099511627776) 255)] (by kernel_rfl) ⟨⟨(by decide), (by decide)⟩, (inR_i64 (by omega) (by omega)), trivial⟩ ?_
      refine xe_then ?_
      refine x_ret ?_
      refine xe_end ((bitsI .and .u64 ((IntKind.u64.wrap ((IntKind.u64.wrap ((IntKind.u64.wrap (s.seed * 6364136223846793005)) + 0)) + 1442695040888963407)) / 1099511627776) 255), (l00Src.mk s.code (s.atx + 1) (IntKind.u64.wrap ((IntKind.u64.wrap ((IntKind.u64.wrap (s.seed * 6364136223846793005)) + 0)) + 1442695040888963407)))) (show (0 ≤ (bitsI .and .u64 ((IntKind.u64.wrap ((IntKind.u64.wrap ((IntKind.u64.wrap (s.seed * 6364136223846793005)) + 0)) + 1442695040888963407)) / 1099511627776) 255) ∧ (bitsI .and .u64 ((IntKind.u64.wrap ((IntKind.u64.wrap ((IntKind.u64.wrap (s.seed * 6364136223846793005)) + 0)) + 1442695040888963407)) / 1099511627776) 255) ≤ 255) ∧ (okSrc (l00Src.mk s.code (s.atx + 1) (IntKind.u64.wrap ((IntKind.u64.wrap ((IntKind.u64.wrap (s.seed * 6364136223846793005)) + 0)) + 1442695040888963407)))) ∧ ((l00Src.mk s.code (s.atx + 1) (IntKind.u64.wrap ((IntKind.u64.wrap ((IntKind.u64.wrap (s.seed * 6364136223846793005)) + 0)) + 1442695040888963407))).code = s.code) ∧ (s.atx + 1 ≤ (l00Src.mk s.code (s.atx + 1) (IntKind.u64.wrap ((IntKind.u64.wrap ((IntKind.u64.wrap (s.seed * 6364136223846793005)) + 0)) + 1442695040888963407))).atx ∧ (l00Src.mk s.code (s.atx + 1) (IntKind.u64.wrap ((IntKind.u64.wrap ((IntKind.u64.wrap (s.seed * 6364136223846793005)) + 0)) + 1442695040888963407))).atx ≤ s.atx + 1) ∧ (True) from ⟨(by first | omega | rfl | assumption | (dsimp only; first | omega | rfl | assumption) | (simp only [*]; done) | exact ⟨hs.1, (by dsimp only; omega), hs1⟩), (by first | omega | rfl | assumption | (dsimp only; first | omega | rfl | assumption) | (simp only [*]; done) | exact ⟨hs.1, (by dsimp only; omega), hs1⟩), (by first | omega | rfl | assumption | (dsimp only; first | omega | rfl | assumption) | (simp only [*]; done) | exact ⟨hs.1, (by dsimp only; omega), hs1⟩), (by first | omega | rfl | assumption | (dsimp only; first | omega | rfl | assumption) | (simp only [*]; done) | exact ⟨hs.1, (by dsimp only; omega), hs1⟩), trivial⟩) (⟨.inl rfl, trivial⟩) (I (bitsI .and .u64 ((IntKind.u64.wrap ((IntKind.u64.wrap ((IntKind.u64.wrap (s.seed * 6364136223846793005)) + 0)) + 1442695040888963407)) / 1099511627776) 255)) (by kernel_rfl) (.inl rfl) (fun _ => rfl) (fun _ => trivial)
  obtain ⟨⟨v, s'⟩, ⟨hh0, hh1, hh2, hh3, _⟩, hc⟩ := hh
  exact ⟨v, s', hh0, hh1, hh2, hh3, hc⟩


-- spec.l00Src).pick
theorem pick_ok (s : l00Src) (n : Int) (hs : okSrc s) (ha : s.atx ≤ 3999999999999999990) : ∃ (v : Int) (s' : l00Src), (0 ≤ v ∧ (v < n ∨ v = 0)) ∧ (okSrc s') ∧ (s'.code = s.code) ∧ (s.atx + 0 ≤ s'.atx ∧ s'.atx ≤ s.atx + 2) ∧ CallOK Tryz.prog 39 [.ref 7001 0, I n] (lookO [(7001, bxl00Src s)]) true (I v) (lookO [(7001, bxl00Src s')]) := by
  have hs0 := hs.2.1
  have hs1 := hs.2.2
  have hh : ∃ r : Int × l00Src, ((0 ≤ r.1 ∧ (r.1 < n ∨ r.1 = 0)) ∧ (okSrc r.2) ∧ (r.2.code = s.code) ∧ (s.atx + 0 ≤ r.2.atx ∧ r.2.atx ≤ s.atx + 2) ∧ (True)) ∧ CallOK Tryz.prog 39 [.ref 7001 0, I n] (lookO [(7001, bxl00Src s)]) true (I r.1) (lookO [(7001, bxl00Src r.2)]) := by
    refine fn_okX (Φ := fun r : Int × l00Src => (0 ≤ r.1 ∧ (r.1 < n ∨ r.1 = 0)) ∧ (okSrc r.2) ∧ (r.2.code = s.code) ∧ (s.atx + 0 ≤ r.2.atx ∧ r.2.atx ≤ s.atx + 2) ∧ (True)) [(7001, bxl00Src s)] (fun r => [(7001, bxl00Src r.2)]) (fn := Tryz.f39) (nt := 20) Tryz.func39 rfl rfl (args := [.ref 7001 0, I n]) rfl (allcons (.inr trivial) (allcons (.inl ⟨rfl, trivial⟩) allnil)) (res := fun r => I r.1) ?_
    refine x_seq ?_
    refine x_reg [] [0, 1] [7001] [.ref 7001 0, I n] [some (bxl00Src s)] [] (by kernel_rfl) trivial ?_
    refine xe_then ?_
    refine x_seq ?_
    refine x_seq ?_
    by_cases h1 : n ≤ 1
    ·refine x_reg [(1, .dec true)] [0, 1, 7] [7001] [.ref 7001 0, I n, Bv true] [some (bxl00Src s)] [n ≤ 1] (by kernel_rfl) ⟨h1, trivial⟩ ?_
     refine xe_then ?_
     refine x_true rfl ?_
     refine x_seq ?_
     refine x_reg [] [4] [7001] [I 0] [some (bxl00Src s)] [] (by kernel_rfl) trivial ?_
     refine xe_then ?_
     refine x_ret ?_
     refine xe_ret_then ?_
     refine xe_end (0, s) (show (0 ≤ 0 ∧ (0 < n ∨ 0 = 0)) ∧ (okSrc s) ∧ (s.code = s.code) ∧ (s.atx + 0 ≤ s.atx ∧ s.atx ≤ s.atx + 2) ∧ (True) from ⟨(by first | omega | rfl | assumption | (dsimp only; first | omega | rfl | assumption) | (simp only [*]; done) | exact ⟨Int.emod_nonneg _ (by omega), .inl (Int.emod_lt_of_pos _ (by omega))⟩), (by first | omega | rfl | assumption | (dsimp only; first | omega | rfl | assumption) | (simp only [*]; done) | exact ⟨Int.emod_nonneg _ (by omega), .inl (Int.emod_lt_of_pos _ (by omega))⟩), (by first | omega | rfl | assumption | (dsimp only; first | omega | rfl | assumption) | (simp only [*]; done) | exact ⟨Int.emod_nonneg _ (by omega), .inl (Int.emod_lt_of_pos _ (by omega))⟩), (by first | omega | rfl | assumption | (dsimp only; first | omega | rfl | assumption) | (simp only [*]; done) | exact ⟨Int.emod_nonneg _ (by omega), .inl (Int.emod_lt_of_pos _ (by omega))⟩), trivial⟩) (⟨.inl rfl, trivial⟩) (I 0) (by kernel_rfl) (.inl rfl) (fun _ => rfl) (fun _ => trivial)
    ·refine x_reg [(1, .dec false)] [0, 1, 7] [7001] [.ref 7001 0, I n, Bv false] [some (bxl00Src s)] [¬ (n ≤ 1)] (by kernel_rfl) ⟨h1, trivial⟩ ?_
     refine xe_then ?_
     refine x_false rfl ?_
     refine x_skip ?_
     refine xe_then ?_
     refine x_seq ?_
     obtain ⟨v_1, s'_1, hx1_0, hx1_1, hx1_2, hx1_3, hc1⟩ := next_ok s (by first | assumption | (simp only [okSrc] at *; simp_all; done)) (by omega)
     refine x_reg [(1, .lend [(7001, bxl00Src s, bxl00Src s'_1)] [] [(true, .ref 7001 0)] true (I v_1))] [0, 1, 5] [7001] [.ref 7001 0, I n, I v_1] [some (bxl00Src s'_1)] [CallOK Tryz.prog 77 [.ref 7001 0] (lookO [(7001, bxl00Src s)]) true (I v_1) (lookO [(7001, bxl00Src s'_1)]) ∧ ((.ref 7001 0 : AV) = .ref 7001 0) ∧ (((bxl00Src s : Ob) = bxl00Src s ∨ obLe noOb true (bxl00Src s) (bxl00Src s)) ∧ taggedO false (bxl00Src s)) ∧ True] (by kernel_rfl) ⟨⟨hc1, rfl, ⟨.inl rfl, (by simp [taggedO, taggedL, tagged, tagU8])⟩, trivial⟩, trivial⟩ ?_
     refine xe_then ?_
     refine x_seq ?_
     refine x_seq ?_
     by_cases h2 : 200 < n
     ·refine x_reg [(1, .dec true)] [0, 1, 5, 11] [7001] [.ref 7001 0, I n, I v_1, Bv true] [some (bxl00Src s'_1)] [200 < n] (by kernel_rfl) ⟨h2, trivial⟩ ?_
      refine xe_then ?_
      refine x_true rfl ?_
      obtain ⟨v_2, s'_2, hx2_0, hx2_1, hx2_2, hx2_3, hc2⟩ := next_ok s'_1 (by first | assumption | (simp only [okSrc] at *; simp_all; done)) (by omega)
      refine x_reg [(3, .lend [(7001, bxl00Src s'_1, bxl00Src s'_2)] [] [(true, .ref 7001 0)] true (I v_2))] [1, 5] [7001] [I n, I ((v_1 * 256) + v_2)] [some (bxl00Src s'_2)] [inR .i64 (v_1 * 256), CallOK Tryz.prog 77 [.ref 7001 0] (lookO [(7001, bxl00Src s'_1)]) true (I v_2) (lookO [(7001, bxl00Src s'_2)]) ∧ ((.ref 7001 0 : AV) = .ref 7001 0) ∧ (((bxl00Src s'_1 : Ob) = bxl00Src s'_1 ∨ obLe noOb true (bxl00Src s'_1) (bxl00Src s'_1)) ∧ taggedO false (bxl00Src s'_1)) ∧ True, inR .i64 ((v_1 * 256) + v_2)] (by kernel_rfl) ⟨(inR_i64 (by omega) (by omega)), ⟨hc2, rfl, ⟨.inl rfl, (by simp [taggedO, taggedL, tagged, tagU8])⟩, trivial⟩, (inR_i64 (by omega) (by omega)), trivial⟩ ?_
      refine xe_then ?_
      refine x_seq ?_
      refine x_reg [(2, .nn)] [4] [7001] [I (((v_1 * 256) + v_2) % n)] [some (bxl00Src s'_2)] [(0 : Int) ≤ ((v_1 * 256) + v_2) ∧ (0 : Int) < n] (by kernel_rfl) ⟨⟨(by omega), (by omega)⟩, trivial⟩ ?_
      refine xe_then ?_
      refine x_ret ?_
      refine xe_end ((((v_1 * 256) + v_2) % n), s'_2) (show (0 ≤ (((v_1 * 256) + v_2) % n) ∧ ((((v_1 * 256) + v_2) % n) < n ∨ (((v_1 * 256) + v_2) % n) = 0)) ∧ (okSrc s'_2) ∧ (s'_2.code = s.code) ∧ (s.atx + 0 ≤ s'_2.atx ∧ s'_2.atx ≤ s.atx + 2) ∧ (True) from ⟨(by first | omega | rfl | assumption | (dsimp only; first | omega | rfl | assumption) | (simp only [*]; done) | exact ⟨Int.emod_nonneg _ (by omega), .inl (Int.emod_lt_of_pos _ (by omega))⟩), (by first | omega | rfl | assumption | (dsimp only; first | omega | rfl | assumption) | (simp only [*]; done) | exact ⟨Int.emod_nonneg _ (by omega), .inl (Int.emod_lt_of_pos _ (by omega))⟩), (by first | omega | rfl | assumption | (dsimp only; first | omega | rfl | assumption) | (simp only [*]; done) | exact ⟨Int.emod_nonneg _ (by omega), .inl (Int.emod_lt_of_pos _ (by omega))⟩), (by first | omega | rfl | assumption | (dsimp only; first | omega | rfl | assumption) | (simp only [*]; done) | exact ⟨Int.emod_nonneg _ (by omega), .inl (Int.emod_lt_of_pos _ (by omega))⟩), trivial⟩) (⟨.inl rfl, trivial⟩) (I (((v_1 * 256) + v_2) % n)) (by kernel_rfl) (.inl rfl) (fun _ => rfl) (fun _ => trivial)
     ·refine x_reg [(1, .dec false)] [0, 1, 5, 11] [7001] [.ref 7001 0, I n, I v_1, Bv false] [some (bxl00Src s'_1)] [¬ (200 < n)] (by kernel_rfl) ⟨h2, trivial⟩ ?_
      refine xe_then ?_
      refine x_false rfl ?_
      refine x_skip ?_
      refine xe_then ?_
      refine x_seq ?_
      refine x_reg [(2, .nn)] [4] [7001] [I (v_1 % n)] [some (bxl00Src s'_1)] [(0 : Int) ≤ v_1 ∧ (0 : Int) < n] (by kernel_rfl) ⟨⟨(by omega), (by omega)⟩, trivial⟩ ?_
      refine xe_then ?_
      refine x_ret ?_
      refine xe_end ((v_1 % n), s'_1) (show (0 ≤ (v_1 % n) ∧ ((v_1 % n) < n ∨ (v_1 % n) = 0)) ∧ (okSrc s'_1) ∧ (s'_1.code = s.code) ∧ (s.atx + 0 ≤ s'_1.atx ∧ s'_1.atx ≤ s.atx + 2) ∧ (True) from ⟨(by first | omega | rfl | assumption | (dsimp only; first | omega | rfl | assumption) | (simp only [*]; done) | exact ⟨Int.emod_nonneg _ (by omega), .inl (Int.emod_lt_of_pos _ (by omega))⟩), (by first | omega | rfl | assumption | (dsimp only; first | omega | rfl | assumption) | (simp only [*]; done) | exact ⟨Int.emod_nonneg _ (by omega), .inl (Int.emod_lt_of_pos _ (by omega))⟩), (by first | omega | rfl | assumption | (dsimp only; first | omega | rfl | assumption) | (simp only [*]; done) | exact ⟨Int.emod_nonneg _ (by omega), .inl (Int.emod_lt_of_pos _ (by omega))⟩), (by first | omega | rfl | assumption | (dsimp only; first | omega | rfl | assumption) | (simp only [*]; done) | exact ⟨Int.emod_nonneg _ (by omega), .inl (Int.emod_lt_of_pos _ (by omega))⟩), trivial⟩) (⟨.inl rfl, trivial⟩) (I (v_1 % n)) (by kernel_rfl) (.inl rfl) (fun _ => rfl) (fun _ => trivial)
  obtain ⟨⟨v, s'⟩, ⟨hh0, hh1, hh2, hh3, _⟩, hc⟩ := hh
  exact ⟨v, s', hh0, hh1, hh2, hh3, hc⟩


-- spec.l00Src).text
theorem text_ok (s : l00Src) (list : List ByteArray) (hs : okSrc s) (ha : s.atx ≤ 3999999999999999980) (hl : (0 < list.length ∧ list.length ≤ 1000) ∧ ∀ z ∈ list, z.size ≤ 16) : ∃ (v : ByteArray) (s' : l00Src), (v.size ≤ 16) ∧ (okSrc s') ∧ (s'.code = s.code) ∧ (s.atx + 0 ≤ s'.atx ∧ s'.atx ≤ s.atx + 2) ∧ CallOK Tryz.prog 58 [.ref 7001 0, slS false list] (lookO [(7001, bxl00Src s)]) true (Sv v) (lookO [(7001, bxl00Src s')]) := by
  have hh : ∃ r : ByteArray × l00Src, ((r.1.size ≤ 16) ∧ (okSrc r.2) ∧ (r.2.code = s.code) ∧ (s.atx + 0 ≤ r.2.atx ∧ r.2.atx ≤ s.atx + 2) ∧ (True)) ∧ CallOK Tryz.prog 58 [.ref 7001 0, slS false list] (lookO [(7001, bxl00Src s)]) true (Sv r.1) (lookO [(7001, bxl00Src r.2)]) := by
    refine fn_okX (Φ := fun r : ByteArray × l00Src => (r.1.size ≤ 16) ∧ (okSrc r.2) ∧ (r.2.code = s.code) ∧ (s.atx + 0 ≤ r.2.atx ∧ r.2.atx ≤ s.atx + 2) ∧ (True)) [(7001, bxl00Src s)] (fun r => [(7001, bxl00Src r.2)]) (fn := Tryz.f58) (nt := 12) Tryz.func58 rfl rfl (args := [.ref 7001 0, slS false list]) rfl (allcons (.inr trivial) (allcons (.inl ⟨rfl, tagS false _⟩) allnil)) (res := fun r => Sv r.1) ?_
    refine x_seq ?_
    refine x_reg [] [0, 1] [7001] [.ref 7001 0, slS false list] [some (bxl00Src s)] [] (by kernel_rfl) trivial ?_
    refine xe_then ?_
    refine x_seq ?_
    obtain ⟨v_1, s'_1, hx1_0, hx1_1, hx1_2, hx1_3, hc1⟩ := pick_ok s (list.length : Int) (by first | assumption | (simp only [okSrc] at *; simp_all; done)) (by omega)
    refine x_reg [(4, .lend [(7001, bxl00Src s, bxl00Src s'_1)] [] [(true, .ref 7001 0), (true, I (list.length : Int))] true (I v_1))] [4] [7001] [Sv (at_ list v_1.toNat)] [some (bxl00Src s'_1)] [CallOK Tryz.prog 39 [.ref 7001 0, I (list.length : Int)] (lookO [(7001, bxl00Src s)]) true (I v_1) (lookO [(7001, bxl00Src s'_1)]) ∧ ((.ref 7001 0 : AV) = .ref 7001 0) ∧ ((I (list.length : Int) : AV) = I (list.length : Int)) ∧ (((bxl00Src s : Ob) = bxl00Src s ∨ obLe noOb true (bxl00Src s) (bxl00Src s)) ∧ taggedO false (bxl00Src s)) ∧ True, (0 : Int) ≤ v_1 ∧ v_1 < (list.length : Int)] (by kernel_rfl) ⟨⟨hc1, rfl, rfl, ⟨.inl rfl, (by simp [taggedO, taggedL, tagged, tagU8])⟩, trivial⟩, ⟨(by omega), (by omega)⟩, trivial⟩ ?_
    refine xe_then ?_
    refine x_ret ?_
    refine xe_end ((at_ list v_1.toNat), s'_1) (show ((at_ list v_1.toNat).size ≤ 16) ∧ (okSrc s'_1) ∧ (s'_1.code = s.code) ∧ (s.atx + 0 ≤ s'_1.atx ∧ s'_1.atx ≤ s.atx + 2) ∧ (True) from ⟨(by first | omega | rfl | assumption | (dsimp only; first | omega | rfl | assumption) | (simp only [*]; done) | (exact hl.2 _ (at_mem (by omega))) | (simp_all; done)), (by first | omega | rfl | assumption | (dsimp only; first | omega | rfl | assumption) | (simp only [*]; done) | (exact hl.2 _ (at_mem (by omega))) | (simp_all; done)), (by first | omega | rfl | assumption | (dsimp only; first | omega | rfl | assumption) | (simp only [*]; done) | (exact hl.2 _ (at_mem (by omega))) | (simp_all; done)), (by first | omega | rfl | assumption | (dsimp only; first | omega | rfl | assumption) | (simp only [*]; done) | (exact hl.2 _ (at_mem (by omega))) | (simp_all; done)), trivial⟩) (⟨.inl rfl, trivial⟩) (Sv (at_ list v_1.toNat)) (by kernel_rfl) (.inl rfl) (fun _ => rfl) (fun _ => trivial)
  obtain ⟨⟨v, s'⟩, ⟨hh0, hh1, hh2, hh3, _⟩, hc⟩ := hh
  exact ⟨v, s', hh0, hh1, hh2, hh3, hc⟩


def inB (a l h : Int) : Bool := decide (l ≤ a ∧ a ≤ h)
theorem inB_iff {a l h : Int} : inB a l h = true ↔ l ≤ a ∧ a ≤ h := by simp [inB]
theorem bAt_bd (s : ByteArray) (i : Nat) : 0 ≤ bAt s i ∧ bAt s i ≤ 255 := by
  unfold bAt
  have := (s.data.toList.getD i 0).toNat_lt
  omega

/-- A text without what t has at its ends. -/
def trimB (s t : ByteArray) : ByteArray := ⟨(Lib.trimS s.data.toList t.data.toList).toArray⟩
theorem dropWhile_nil {α : Type} {p : α → Bool} : ∀ {l : List α}, l.dropWhile p = [] ↔ ∀ x ∈ l, p x = true
  | [] => by simp
  | x :: l => by
    rw [List.dropWhile_cons]
    cases h : p x with
    | true => simp only [if_true]; rw [dropWhile_nil]; simp [h]
    | false => simp [h]
theorem dropWhile_head {α : Type} {p : α → Bool} : ∀ {l : List α} {x : α} {r : List α}, l.dropWhile p = x :: r → p x = false
  | [], _, _, h => by simp at h
  | y :: l, x, r, h => by
    rw [List.dropWhile_cons] at h
    cases hp : p y with
    | true => rw [hp] at h; exact dropWhile_head h
    | false => rw [hp] at h; simp at h; rw [← h.1]; exact hp
theorem trimS_nil {l cs : List UInt8} : Lib.trimS l cs = [] ↔ ∀ x ∈ l, cs.contains x = true := by
  unfold Lib.trimS Lib.trimLeftS Lib.trimRightS
  constructor
  · intro h
    rw [dropWhile_nil] at h
    cases e : l.reverse.dropWhile (cs.contains ·) with
    | nil => rw [dropWhile_nil] at e; intro x hx; exact e x (by simpa using hx)
    | cons x r =>
      have h1 := dropWhile_head e
      have h2 := h x (by rw [e]; simp)
      rw [h2] at h1; cases h1
  · intro h
    have e : l.reverse.dropWhile (cs.contains ·) = [] := dropWhile_nil.2 fun x hx => h x (by simpa using hx)
    rw [e]; rfl
theorem allB_iff {s : ByteArray} {p : Int → Bool} : allN s.size (fun j => p (bAt s j)) = true ↔ ∀ x ∈ s.data.toList, p x.toNat = true := by
  rw [allN_iff]
  have hl : s.size = s.data.toList.length := by rw [Array.length_toList]; rfl
  constructor
  · intro h x hx
    obtain ⟨i, hi, rfl⟩ := List.getElem_of_mem hx
    have := h i (by omega)
    rw [bAt, List.getD_eq_getElem?_getD, List.getElem?_eq_getElem hi] at this
    exact this
  · intro h j hj
    rw [bAt, List.getD_eq_getElem?_getD, List.getElem?_eq_getElem (by omega)]
    exact h _ (List.getElem_mem _)
theorem trim_all {T : ByteArray} {p : Int → Bool} (hT : ∀ x : UInt8, T.data.toList.contains x = p x.toNat) (s : ByteArray) : trimB s T = ⟨#[]⟩ ↔ allN s.size (fun j => p (bAt s j)) = true := by
  rw [allB_iff]
  constructor
  · intro h x hx
    have h' : Lib.trimS s.data.toList T.data.toList = [] := by
      have := congrArg (fun b => b.data.toList) h
      simpa [trimB] using this
    rw [← hT]
    exact trimS_nil.1 h' x hx
  · intro h
    have : Lib.trimS s.data.toList T.data.toList = [] := trimS_nil.2 fun x hx => by rw [hT]; exact h x hx
    unfold trimB
    rw [this]

def cellB (n : Int) : Bool := inB n 97 122 || (inB n 48 57 || decide (n = 32))
/-- Whether a text is made of small letters, digits and blanks. -/
def lettersB (s : ByteArray) : Bool := allN s.size (fun j => cellB (bAt s j))
def okRow (l : CellRow) : Bool := lettersB l.Text && (decide ((l.Text.size : Int) ≤ 60) && (inB l.X 0 4095 && (inB l.Y 0 4095 && inB l.Cell 2 60)))
theorem okRow_iff {l : CellRow} : okRow l = true ↔ lettersB l.Text = true ∧ (l.Text.size : Int) ≤ 60 ∧ (0 ≤ l.X ∧ l.X ≤ 4095) ∧ (0 ≤ l.Y ∧ l.Y ≤ 4095) ∧ (2 ≤ l.Cell ∧ l.Cell ≤ 60) := by simp [okRow, inB, and_assoc]
theorem lettersB_iff {s : ByteArray} : lettersB s = true ↔ ∀ x ∈ s.data.toList, cellB x.toNat = true := by
  unfold lettersB
  rw [allN_iff]
  have hl : s.size = s.data.toList.length := by rw [Array.length_toList]; rfl
  constructor
  · intro h x hx
    obtain ⟨i, hi, rfl⟩ := List.getElem_of_mem hx
    have := h i (by omega)
    rw [bAt, List.getD_eq_getElem?_getD, List.getElem?_eq_getElem hi] at this
    exact this
  · intro h j hj
    rw [bAt, List.getD_eq_getElem?_getD, List.getElem?_eq_getElem (by omega)]
    exact h _ (List.getElem_mem _)
def cellsT : ByteArray := ⟨#[97, 98, 99, 100, 101, 102, 103, 104, 105, 106, 107, 108, 109, 110, 111, 112, 113, 114, 115, 116, 117, 118, 119, 120, 121, 122, 48, 49, 50, 51, 52, 53, 54, 55, 56, 57, 32]⟩
set_option maxRecDepth 100000 in
theorem cellsT_has (x : UInt8) : cellsT.data.toList.contains x = cellB x.toNat := by
  have h1 : cellsT.data.toList.contains x = (cellsT.data.toList.map fun y => y.toNat).contains x.toNat := by
    rw [Bool.eq_iff_iff]
    simp only [List.contains_iff_mem, List.mem_map]
    constructor
    · intro h; exact ⟨x, h, rfl⟩
    · rintro ⟨y, hy, e⟩; rw [← UInt8.toNat_inj.1 e]; exact hy
  rw [h1]
  generalize x.toNat = n
  have h2 : (cellsT.data.toList.map fun y => y.toNat) = [97, 98, 99, 100, 101, 102, 103, 104, 105, 106, 107, 108, 109, 110, 111, 112, 113, 114, 115, 116, 117, 118, 119, 120, 121, 122, 48, 49, 50, 51, 52, 53, 54, 55, 56, 57, 32] := by rfl
  rw [h2, Bool.eq_iff_iff]
  simp [cellB, inB]
  omega
theorem trim_cells (s : ByteArray) : trimB s cellsT = ⟨#[]⟩ ↔ lettersB s = true := by
  rw [lettersB_iff]
  constructor
  · intro h x hx
    have h' : Lib.trimS s.data.toList cellsT.data.toList = [] := by
      have := congrArg (fun b => b.data.toList) h
      simpa [trimB] using this
    rw [← cellsT_has]
    exact trimS_nil.1 h' x hx
  · intro h
    have : Lib.trimS s.data.toList cellsT.data.toList = [] := trimS_nil.2 fun x hx => by rw [cellsT_has]; exact h x hx
    unfold trimB
    rw [this]

-- spec.l23Row
theorem l23Row_ok (s : l00Src) (hs : okSrc s) (ha : s.atx ≤ 3999999999999999900) : ∃ (l : CellRow) (s' : l00Src), (l.Text.size ≤ 200) ∧ (-1 ≤ l.X ∧ l.X ≤ 4096) ∧ (-1 ≤ l.Y ∧ l.Y ≤ 4096) ∧ (1 ≤ l.Cell ∧ l.Cell ≤ 61) ∧ (okSrc s') ∧ (s'.code = s.code) ∧ (s.atx + 0 ≤ s'.atx ∧ s'.atx ≤ s.atx + 60) ∧ CallOK Tryz.prog 31 [.ref 7001 0] (lookO [(7001, bxl00Src s)]) true (agCellRow l) (lookO [(7001, bxl00Src s')]) := by
  have hh : ∃ r : CellRow × l00Src, ((r.1.Text.size ≤ 200) ∧ (-1 ≤ r.1.X ∧ r.1.X ≤ 4096) ∧ (-1 ≤ r.1.Y ∧ r.1.Y ≤ 4096) ∧ (1 ≤ r.1.Cell ∧ r.1.Cell ≤ 61) ∧ (okSrc r.2) ∧ (r.2.code = s.code) ∧ (s.atx + 0 ≤ r.2.atx ∧ r.2.atx ≤ s.atx + 60) ∧ (True)) ∧ CallOK Tryz.prog 31 [.ref 7001 0] (lookO [(7001, bxl00Src s)]) true (agCellRow r.1) (lookO [(7001, bxl00Src r.2)]) := by
    refine fn_okX (Φ := fun r : CellRow × l00Src => (r.1.Text.size ≤ 200) ∧ (-1 ≤ r.1.X ∧ r.1.X ≤ 4096) ∧ (-1 ≤ r.1.Y ∧ r.1.Y ≤ 4096) ∧ (1 ≤ r.1.Cell ∧ r.1.Cell ≤ 61) ∧ (okSrc r.2) ∧ (r.2.code = s.code) ∧ (s.atx + 0 ≤ r.2.atx ∧ r.2.atx ≤ s.atx + 60) ∧ (True)) [(7001, bxl00Src s)] (fun r => [(7001, bxl00Src r.2)]) (fn := Tryz.f31) (nt := 37) Tryz.func31 rfl rfl (args := [.ref 7001 0]) rfl (allcons (.inr trivial) allnil) (res := fun r => agCellRow r.1) ?_
    refine x_seq ?_
    refine x_reg [(0, .new 2)] [0, 2] [2, 7001] [.ref 7001 0, .ref 2 0] [some (.box [Sv (⟨#[]⟩ : ByteArray), I 0, I 0, I 0]), some (bxl00Src s)] [] (by kernel_rfl) trivial ?_
    refine xe_then ?_
    refine x_seq ?_
    obtain ⟨v_1, s'_1, hx1_0, hx1_1, hx1_2, hx1_3, hc1⟩ := pick_ok s 40 (by first | assumption | (simp only [okSrc] at *; simp_all; done)) (by omega)
    obtain ⟨v_2, s'_2, hx2_0, hx2_1, hx2_2, hx2_3, hc2⟩ := pick_ok s'_1 20 (by first | assumption | (simp only [okSrc] at *; simp_all; done)) (by omega)
    obtain ⟨v_3, s'_3, hx3_0, hx3_1, hx3_2, hx3_3, hc3⟩ := pick_ok s'_2 20 (by first | assumption | (simp only [okSrc] at *; simp_all; done)) (by omega)
    refine x_reg [(1, .lend [(7001, bxl00Src s, bxl00Src s'_1)] [] [(true, .ref 7001 0), (true, I 40)] true (I v_1)), (4, .lend [(7001, bxl00Src s'_1, bxl00Src s'_2)] [] [(true, .ref 7001 0), (true, I 20)] true (I v_2)), (7, .lend [(7001, bxl00Src s'_2, bxl00Src s'_3)] [] [(true, .ref 7001 0), (true, I 20)] true (I v_3)), (10, .new 3)] [0, 2, 3] [2, 3, 7001] [.ref 7001 0, .ref 2 0, .ref 3 0] [some (.box [Sv (⟨#[]⟩ : ByteArray), I 0, I 0, I 0]), some (.box [Sv (⟨#[]⟩ : ByteArray), I (100 + v_1), I (200 + v_2), I (10 + v_3)]), some (bxl00Src s'_3)] [CallOK Tryz.prog 39 [.ref 7001 0, I 40] (lookO [(7001, bxl00Src s)]) true (I v_1) (lookO [(7001, bxl00Src s'_1)]) ∧ ((.ref 7001 0 : AV) = .ref 7001 0) ∧ ((I 40 : AV) = I 40) ∧ (((bxl00Src s : Ob) = bxl00Src s ∨ obLe noOb true (bxl00Src s) (bxl00Src s)) ∧ taggedO false (bxl00Src s)) ∧ True, inR .i64 (100 + v_1), CallOK Tryz.prog 39 [.ref 7001 0, I 20] (lookO [(7001, bxl00Src s'_1)]) true (I v_2) (lookO [(7001, bxl00Src s'_2)]) ∧ ((.ref 7001 0 : AV) = .ref 7001 0) ∧ ((I 20 : AV) = I 20) ∧ (((bxl00Src s'_1 : Ob) = bxl00Src s'_1 ∨ obLe noOb true (bxl00Src s'_1) (bxl00Src s'_1)) ∧ taggedO false (bxl00Src s'_1)) ∧ True, inR .i64 (200 + v_2), CallOK Tryz.prog 39 [.ref 7001 0, I 20] (lookO [(7001, bxl00Src s'_2)]) true (I v_3) (lookO [(7001, bxl00Src s'_3)]) ∧ ((.ref 7001 0 : AV) = .ref 7001 0) ∧ ((I 20 : AV) = I 20) ∧ (((bxl00Src s'_2 : Ob) = bxl00Src s'_2 ∨ obLe noOb true (bxl00Src s'_2) (bxl00Src s'_2)) ∧ taggedO false (bxl00Src s'_2)) ∧ True, inR .i64 (10 + v_3)] (by kernel_rfl) ⟨⟨hc1, rfl, rfl, ⟨.inl rfl, (by simp [taggedO, taggedL, tagged, tagU8])⟩, trivial⟩, (inR_i64 (by omega) (by omega)), ⟨hc2, rfl, rfl, ⟨.inl rfl, (by simp [taggedO, taggedL, tagged, tagU8])⟩, trivial⟩, (inR_i64 (by omega) (by omega)), ⟨hc3, rfl, rfl, ⟨.inl rfl, (by simp [taggedO, taggedL, tagged, tagU8])⟩, trivial⟩, (inR_i64 (by omega) (by omega)), trivial⟩ ?_
    refine xe_then ?_
    refine x_seq ?_
    refine x_seq ?_
    obtain ⟨v_4, s'_4, hx4_0, hx4_1, hx4_2, hx4_3, hc4⟩ := pick_ok s'_3 9 (by first | assumption | (simp only [okSrc] at *; simp_all; done)) (by omega)
    refine x_reg [(1, .lend [(7001, bxl00Src s'_3, bxl00Src s'_4)] [] [(true, .ref 7001 0), (true, I 9)] true (I v_4))] [0, 2, 3, 4] [2, 3, 7001] [.ref 7001 0, .ref 2 0, .ref 3 0, I v_4] [some (.box [Sv (⟨#[]⟩ : ByteArray), I 0, I 0, I 0]), some (.box [Sv (⟨#[]⟩ : ByteArray), I (100 + v_1), I (200 + v_2), I (10 + v_3)]), some (bxl00Src s'_4)] [CallOK Tryz.prog 39 [.ref 7001 0, I 9] (lookO [(7001, bxl00Src s'_3)]) true (I v_4) (lookO [(7001, bxl00Src s'_4)]) ∧ ((.ref 7001 0 : AV) = .ref 7001 0) ∧ ((I 9 : AV) = I 9) ∧ (((bxl00Src s'_3 : Ob) = bxl00Src s'_3 ∨ obLe noOb true (bxl00Src s'_3) (bxl00Src s'_3)) ∧ taggedO false (bxl00Src s'_3)) ∧ True] (by kernel_rfl) ⟨⟨hc4, rfl, rfl, ⟨.inl rfl, (by simp [taggedO, taggedL, tagged, tagU8])⟩, trivial⟩, trivial⟩ ?_
    refine xe_then ?_
    refine x_block ?_
    refine x_loop (X := Int × ByteArray × l00Src) (fun x => mkS [(0, .ref 7001 0), (2, .ref 2 0), (3, .ref 3 0), (4, I x.1)] [(2, .box [Sv (⟨#[]⟩ : ByteArray), I 0, I 0, I 0]), (3, .box [Sv x.2.1, I (100 + v_1), I (200 + v_2), I (10 + v_3)]), (7001, bxl00Src x.2.2)]) (fun x => (okSrc x.2.2 ∧ x.2.2.code = s.code ∧ s.atx ≤ x.2.2.atx ∧ x.2.2.atx ≤ s.atx + 10 + 4 * (9 - x.1)) ∧ (0 ≤ x.1 ∧ x.1 ≤ 9) ∧ ((x.2.1.size : Int) ≤ 16 * (9 - x.1)) ∧ True) (fun x => x.1.toNat) (v_4, (⟨#[]⟩ : ByteArray), s'_4) rfl (show (okSrc s'_4 ∧ s'_4.code = s.code ∧ s.atx ≤ s'_4.atx ∧ s'_4.atx ≤ s.atx + 10 + 4 * (9 - v_4)) ∧ (0 ≤ v_4 ∧ v_4 ≤ 9) ∧ (((⟨#[]⟩ : ByteArray).size : Int) ≤ 16 * (9 - v_4)) ∧ True from ⟨(by exact ⟨by assumption, by first | assumption | rfl | (simp only [*]; done), by omega, by omega⟩), (by omega), (by rw [show (⟨#[]⟩ : ByteArray).size = 0 from rfl]; omega), trivial⟩) (fun x hI => ?_)
    obtain ⟨k, tx, src⟩ := x
    obtain ⟨hs0, hk0, hl0, _⟩ : (okSrc src ∧ src.code = s.code ∧ s.atx ≤ src.atx ∧ src.atx ≤ s.atx + 10 + 4 * (9 - k)) ∧ (0 ≤ k ∧ k ≤ 9) ∧ ((tx.size : Int) ≤ 16 * (9 - k)) ∧ True := hI
    show XW _ _ _ _ (mkS [(0, .ref 7001 0), (2, .ref 2 0), (3, .ref 3 0), (4, I k)] [(2, .box [Sv (⟨#[]⟩ : ByteArray), I 0, I 0, I 0]), (3, .box [Sv tx, I (100 + v_1), I (200 + v_2), I (10 + v_3)]), (7001, bxl00Src src)]) _ _
    refine x_seq ?_
    refine x_seq ?_
    by_cases h1 : 0 < k
    ·refine x_reg [(1, .dec true)] [0, 2, 3, 4, 18] [2, 3, 7001] [.ref 7001 0, .ref 2 0, .ref 3 0, I k, Bv true] [some (.box [Sv (⟨#[]⟩ : ByteArray), I 0, I 0, I 0]), some (.box [Sv tx, I (100 + v_1), I (200 + v_2), I (10 + v_3)]), some (bxl00Src src)] [0 < k] (by kernel_rfl) ⟨h1, trivial⟩ ?_
     refine xe_then ?_
     refine x_true rfl ?_
     refine x_skip ?_
     refine xe_then ?_
     refine x_seq ?_
     refine x_block ?_
     obtain ⟨v_5, s'_5, hx5_0, hx5_1, hx5_2, hx5_3, hc5⟩ := text_ok src ([(⟨#[97]⟩ : ByteArray), (⟨#[98]⟩ : ByteArray), (⟨#[105, 110, 107]⟩ : ByteArray), (⟨#[32]⟩ : ByteArray), (⟨#[55]⟩ : ByteArray)]) (by first | assumption | (simp only [okSrc] at *; simp_all; done)) (by omega) (by decide)
     refine x_reg [(3, .new 24), (4, .lend [(7001, bxl00Src src, bxl00Src s'_5)] [] [(true, .ref 7001 0), (false, slS false ([(⟨#[97]⟩ : ByteArray), (⟨#[98]⟩ : ByteArray), (⟨#[105, 110, 107]⟩ : ByteArray), (⟨#[32]⟩ : ByteArray), (⟨#[55]⟩ : ByteArray)]))] true (Sv v_5))] [0, 2, 3, 4] [2, 3, 7001] [.ref 7001 0, .ref 2 0, .ref 3 0, I k] [some (.box [Sv (⟨#[]⟩ : ByteArray), I 0, I 0, I 0]), some (.box [Sv (tx ++ v_5), I (100 + v_1), I (200 + v_2), I (10 + v_3)]), some (bxl00Src s'_5)] [CallOK Tryz.prog 58 [.ref 7001 0, slS false ([(⟨#[97]⟩ : ByteArray), (⟨#[98]⟩ : ByteArray), (⟨#[105, 110, 107]⟩ : ByteArray), (⟨#[32]⟩ : ByteArray), (⟨#[55]⟩ : ByteArray)])] (lookO [(7001, bxl00Src src)]) true (Sv v_5) (lookO [(7001, bxl00Src s'_5)]) ∧ ((.ref 7001 0 : AV) = .ref 7001 0) ∧ ((false = true → true = true) ∧ 1 = 1 ∧ 5 = (([(⟨#[97]⟩ : ByteArray), (⟨#[98]⟩ : ByteArray), (⟨#[105, 110, 107]⟩ : ByteArray), (⟨#[32]⟩ : ByteArray), (⟨#[55]⟩ : ByteArray)]).length) ∧ ∀ i, i < (([(⟨#[97]⟩ : ByteArray), (⟨#[98]⟩ : ByteArray), (⟨#[105, 110, 107]⟩ : ByteArray), (⟨#[32]⟩ : ByteArray), (⟨#[55]⟩ : ByteArray)]).length) → (litF [Sv (⟨#[97]⟩ : ByteArray), Sv (⟨#[98]⟩ : ByteArray), Sv (⟨#[105, 110, 107]⟩ : ByteArray), Sv (⟨#[32]⟩ : ByteArray), Sv (⟨#[55]⟩ : ByteArray)] 1) i = (fS ([(⟨#[97]⟩ : ByteArray), (⟨#[98]⟩ : ByteArray), (⟨#[105, 110, 107]⟩ : ByteArray), (⟨#[32]⟩ : ByteArray), (⟨#[55]⟩ : ByteArray)])) i ∨ (AV.idsL ((fS ([(⟨#[97]⟩ : ByteArray), (⟨#[98]⟩ : ByteArray), (⟨#[105, 110, 107]⟩ : ByteArray), (⟨#[32]⟩ : ByteArray), (⟨#[55]⟩ : ByteArray)])) i) = [] ∧ leL (fun _ => none) false ((litF [Sv (⟨#[97]⟩ : ByteArray), Sv (⟨#[98]⟩ : ByteArray), Sv (⟨#[105, 110, 107]⟩ : ByteArray), Sv (⟨#[32]⟩ : ByteArray), Sv (⟨#[55]⟩ : ByteArray)] 1) i) ((fS ([(⟨#[97]⟩ : ByteArray), (⟨#[98]⟩ : ByteArray), (⟨#[105, 110, 107]⟩ : ByteArray), (⟨#[32]⟩ : ByteArray), (⟨#[55]⟩ : ByteArray)])) i))) ∧ (((bxl00Src src : Ob) = bxl00Src src ∨ obLe noOb true (bxl00Src src) (bxl00Src src)) ∧ taggedO false (bxl00Src src)) ∧ True, tx.size + v_5.size ≤ 9223372036854775807] (by kernel_rfl) ⟨⟨hc5, rfl, ⟨(fun h => by cases h), rfl, (by first | rfl | (simp; done) | (simp; omega) | omega), fun i hi => .inl (match i, hi with | 0, _ => rfl | 1, _ => rfl | 2, _ => rfl | 3, _ => rfl | 4, _ => rfl | (i + 5), h => absurd h (by simp))⟩, ⟨.inl rfl, (by simp [taggedO, taggedL, tagged, tagU8])⟩, trivial⟩, (by first | omega | (simp only [ByteArray.size_append, ByteArray.size_extract]; omega)), trivial⟩ ?_
     refine xe_block 1 ?_
     refine xe_then ?_
     refine x_reg [] [0, 2, 3, 4] [2, 3, 7001] [.ref 7001 0, .ref 2 0, .ref 3 0, I (k - 1)] [some (.box [Sv (⟨#[]⟩ : ByteArray), I 0, I 0, I 0]), some (.box [Sv (tx ++ v_5), I (100 + v_1), I (200 + v_2), I (10 + v_3)]), some (bxl00Src s'_5)] [inR .i64 (k - 1)] (by kernel_rfl) ⟨(inR_i64 (by omega) (by omega)), trivial⟩ ?_
     exact xe_again ((k - 1), (tx ++ v_5), s'_5) rfl (show (okSrc s'_5 ∧ s'_5.code = s.code ∧ s.atx ≤ s'_5.atx ∧ s'_5.atx ≤ s.atx + 10 + 4 * (9 - (k - 1))) ∧ (0 ≤ (k - 1) ∧ (k - 1) ≤ 9) ∧ (((tx ++ v_5).size : Int) ≤ 16 * (9 - (k - 1))) ∧ True from ⟨(by exact ⟨by assumption, by first | assumption | rfl | (simp only [*]; done), by omega, by omega⟩), (by omega), (by simp only [ByteArray.size_append]; omega), trivial⟩) (by show ((k - 1).toNat : Nat) < k.toNat; omega)
    ·refine x_reg [(1, .dec false)] [0, 2, 3, 4, 18] [2, 3, 7001] [.ref 7001 0, .ref 2 0, .ref 3 0, I k, Bv false] [some (.box [Sv (⟨#[]⟩ : ByteArray), I 0, I 0, I 0]), some (.box [Sv tx, I (100 + v_1), I (200 + v_2), I (10 + v_3)]), some (bxl00Src src)] [¬ (0 < k)] (by kernel_rfl) ⟨h1, trivial⟩ ?_
     refine xe_then ?_
     refine x_false rfl ?_
     refine x_exit ?_
     refine xe_exit_then ?_
     refine xe_loop_exit ?_
     refine xe_exit_same ?_
     refine xe_then ?_
     refine x_seq ?_
     refine x_seq ?_
     by_cases h2 : 60 < (tx.size : Int)
     ·refine x_reg [(3, .dec true)] [2, 3, 31] [2, 3, 7001] [.ref 2 0, .ref 3 0, Bv true] [some (.box [Sv (⟨#[]⟩ : ByteArray), I 0, I 0, I 0]), some (.box [Sv tx, I (100 + v_1), I (200 + v_2), I (10 + v_3)]), some (bxl00Src src)] [60 < (tx.size : Int)] (by kernel_rfl) ⟨h2, trivial⟩ ?_
      refine xe_then ?_
      refine x_true rfl ?_
      refine x_reg [] [2, 3] [2, 3, 7001] [.ref 2 0, .ref 3 0] [some (.box [Sv (⟨#[]⟩ : ByteArray), I 0, I 0, I 0]), some (.box [Sv (tx.extract 0 60), I (100 + v_1), I (200 + v_2), I (10 + v_3)]), some (bxl00Src src)] [(0 : Int) ≤ 0 ∧ (0 : Int) ≤ 60 ∧ 60 ≤ (tx.size : Int)] (by kernel_rfl) ⟨⟨(by omega), (by omega), (by omega)⟩, trivial⟩ ?_
      refine xe_then ?_
      refine x_seq ?_
      refine x_reg [] [2] [2, 7001] [.ref 2 0] [some (.box [Sv (tx.extract 0 60), I (100 + v_1), I (200 + v_2), I (10 + v_3)]), some (bxl00Src src)] [] (by kernel_rfl) trivial ?_
      refine xe_then ?_
      refine x_ret ?_
      refine xe_end ((CellRow.mk (tx.extract 0 60) (100 + v_1) (200 + v_2) (10 + v_3)), src) (show ((CellRow.mk (tx.extract 0 60) (100 + v_1) (200 + v_2) (10 + v_3)).Text.size ≤ 200) ∧ (-1 ≤ (CellRow.mk (tx.extract 0 60) (100 + v_1) (200 + v_2) (10 + v_3)).X ∧ (CellRow.mk (tx.extract 0 60) (100 + v_1) (200 + v_2) (10 + v_3)).X ≤ 4096) ∧ (-1 ≤ (CellRow.mk (tx.extract 0 60) (100 + v_1) (200 + v_2) (10 + v_3)).Y ∧ (CellRow.mk (tx.extract 0 60) (100 + v_1) (200 + v_2) (10 + v_3)).Y ≤ 4096) ∧ (1 ≤ (CellRow.mk (tx.extract 0 60) (100 + v_1) (200 + v_2) (10 + v_3)).Cell ∧ (CellRow.mk (tx.extract 0 60) (100 + v_1) (200 + v_2) (10 + v_3)).Cell ≤ 61) ∧ (okSrc src) ∧ (src.code = s.code) ∧ (s.atx + 0 ≤ src.atx ∧ src.atx ≤ s.atx + 60) ∧ (True) from ⟨(by first | omega | assumption | rfl | (simp only [ByteArray.size_append, ByteArray.size_extract]; omega) | (simp; done) | (simp_all; done)), (by first | omega | assumption | rfl | (simp only [ByteArray.size_append, ByteArray.size_extract]; omega) | (simp; done) | (simp_all; done)), (by first | omega | assumption | rfl | (simp only [ByteArray.size_append, ByteArray.size_extract]; omega) | (simp; done) | (simp_all; done)), (by first | omega | assumption | rfl | (simp only [ByteArray.size_append, ByteArray.size_extract]; omega) | (simp; done) | (simp_all; done)), (by first | omega | assumption | rfl | (simp only [ByteArray.size_append, ByteArray.size_extract]; omega) | (simp; done) | (simp_all; done)), (by first | omega | assumption | rfl | (simp only [ByteArray.size_append, ByteArray.size_extract]; omega) | (simp; done) | (simp_all; done)), (by first | omega | assumption | rfl | (simp only [ByteArray.size_append, ByteArray.size_extract]; omega) | (simp; done) | (simp_all; done)), trivial⟩) (⟨.inl rfl, trivial⟩) (.agg [Sv (tx.extract 0 60), I (100 + v_1), I (200 + v_2), I (10 + v_3)]) (by kernel_rfl) (.inl rfl) (fun _ => rfl) (fun _ => (by simp [tagged, taggedL]))
     ·refine x_reg [(3, .dec false)] [2, 3, 31] [2, 3, 7001] [.ref 2 0, .ref 3 0, Bv false] [some (.box [Sv (⟨#[]⟩ : ByteArray), I 0, I 0, I 0]), some (.box [Sv tx, I (100 + v_1), I (200 + v_2), I (10 + v_3)]), some (bxl00Src src)] [¬ (60 < (tx.size : Int))] (by kernel_rfl) ⟨h2, trivial⟩ ?_
      refine xe_then ?_
      refine x_false rfl ?_
      refine x_skip ?_
      refine xe_then ?_
      refine x_seq ?_
      refine x_reg [] [2] [2, 7001] [.ref 2 0] [some (.box [Sv tx, I (100 + v_1), I (200 + v_2), I (10 + v_3)]), some (bxl00Src src)] [] (by kernel_rfl) trivial ?_
      refine xe_then ?_
      refine x_ret ?_
      refine xe_end ((CellRow.mk tx (100 + v_1) (200 + v_2) (10 + v_3)), src) (show ((CellRow.mk tx (100 + v_1) (200 + v_2) (10 + v_3)).Text.size ≤ 200) ∧ (-1 ≤ (CellRow.mk tx (100 + v_1) (200 + v_2) (10 + v_3)).X ∧ (CellRow.mk tx (100 + v_1) (200 + v_2) (10 + v_3)).X ≤ 4096) ∧ (-1 ≤ (CellRow.mk tx (100 + v_1) (200 + v_2) (10 + v_3)).Y ∧ (CellRow.mk tx (100 + v_1) (200 + v_2) (10 + v_3)).Y ≤ 4096) ∧ (1 ≤ (CellRow.mk tx (100 + v_1) (200 + v_2) (10 + v_3)).Cell ∧ (CellRow.mk tx (100 + v_1) (200 + v_2) (10 + v_3)).Cell ≤ 61) ∧ (okSrc src) ∧ (src.code = s.code) ∧ (s.atx + 0 ≤ src.atx ∧ src.atx ≤ s.atx + 60) ∧ (True) from ⟨(by first | omega | assumption | rfl | (simp only [ByteArray.size_append, ByteArray.size_extract]; omega) | (simp; done) | (simp_all; done)), (by first | omega | assumption | rfl | (simp only [ByteArray.size_append, ByteArray.size_extract]; omega) | (simp; done) | (simp_all; done)), (by first | omega | assumption | rfl | (simp only [ByteArray.size_append, ByteArray.size_extract]; omega) | (simp; done) | (simp_all; done)), (by first | omega | assumption | rfl | (simp only [ByteArray.size_append, ByteArray.size_extract]; omega) | (simp; done) | (simp_all; done)), (by first | omega | assumption | rfl | (simp only [ByteArray.size_append, ByteArray.size_extract]; omega) | (simp; done) | (simp_all; done)), (by first | omega | assumption | rfl | (simp only [ByteArray.size_append, ByteArray.size_extract]; omega) | (simp; done) | (simp_all; done)), (by first | omega | assumption | rfl | (simp only [ByteArray.size_append, ByteArray.size_extract]; omega) | (simp; done) | (simp_all; done)), trivial⟩) (⟨.inl rfl, trivial⟩) (.agg [Sv tx, I (100 + v_1), I (200 + v_2), I (10 + v_3)]) (by kernel_rfl) (.inl rfl) (fun _ => rfl) (fun _ => (by simp [tagged, taggedL]))
  obtain ⟨⟨l, s'⟩, ⟨hh0, hh1, hh2, hh3, hh4, hh5, hh6, _⟩, hc⟩ := hh
  exact ⟨l, s', hh0, hh1, hh2, hh3, hh4, hh5, hh6, hc⟩


-- spec.l00Src).among
theorem among_ok (s : l00Src) (list : List Int) (hs : okSrc s) (ha : s.atx ≤ 3999999999999999980) (hl : 0 < list.length ∧ list.length ≤ 1000) : ∃ (v : Int) (s' : l00Src), (v ∈ list) ∧ (okSrc s') ∧ (s'.code = s.code) ∧ (s.atx + 0 ≤ s'.atx ∧ s'.atx ≤ s.atx + 2) ∧ CallOK Tryz.prog 42 [.ref 7001 0, slI false list] (lookO [(7001, bxl00Src s)]) true (I v) (lookO [(7001, bxl00Src s')]) := by
  have hh : ∃ r : Int × l00Src, ((r.1 ∈ list) ∧ (okSrc r.2) ∧ (r.2.code = s.code) ∧ (s.atx + 0 ≤ r.2.atx ∧ r.2.atx ≤ s.atx + 2) ∧ (True)) ∧ CallOK Tryz.prog 42 [.ref 7001 0, slI false list] (lookO [(7001, bxl00Src s)]) true (I r.1) (lookO [(7001, bxl00Src r.2)]) := by
    refine fn_okX (Φ := fun r : Int × l00Src => (r.1 ∈ list) ∧ (okSrc r.2) ∧ (r.2.code = s.code) ∧ (s.atx + 0 ≤ r.2.atx ∧ r.2.atx ≤ s.atx + 2) ∧ (True)) [(7001, bxl00Src s)] (fun r => [(7001, bxl00Src r.2)]) (fn := Tryz.f42) (nt := 12) Tryz.func42 rfl rfl (args := [.ref 7001 0, slI false list]) rfl (allcons (.inr trivial) (allcons (.inl ⟨rfl, tagI false _⟩) allnil)) (res := fun r => I r.1) ?_
    refine x_seq ?_
    refine x_reg [] [0, 1] [7001] [.ref 7001 0, slI false list] [some (bxl00Src s)] [] (by kernel_rfl) trivial ?_
    refine xe_then ?_
    refine x_seq ?_
    obtain ⟨v_1, s'_1, hx1_0, hx1_1, hx1_2, hx1_3, hc1⟩ := pick_ok s (list.length : Int) (by first | assumption | (simp only [okSrc] at *; simp_all; done)) (by omega)
    refine x_reg [(4, .lend [(7001, bxl00Src s, bxl00Src s'_1)] [] [(true, .ref 7001 0), (true, I (list.length : Int))] true (I v_1))] [4] [7001] [I (at_ list v_1.toNat)] [some (bxl00Src s'_1)] [CallOK Tryz.prog 39 [.ref 7001 0, I (list.length : Int)] (lookO [(7001, bxl00Src s)]) true (I v_1) (lookO [(7001, bxl00Src s'_1)]) ∧ ((.ref 7001 0 : AV) = .ref 7001 0) ∧ ((I (list.length : Int) : AV) = I (list.length : Int)) ∧ (((bxl00Src s : Ob) = bxl00Src s ∨ obLe noOb true (bxl00Src s) (bxl00Src s)) ∧ taggedO false (bxl00Src s)) ∧ True, (0 : Int) ≤ v_1 ∧ v_1 < (list.length : Int)] (by kernel_rfl) ⟨⟨hc1, rfl, rfl, ⟨.inl rfl, (by simp [taggedO, taggedL, tagged, tagU8])⟩, trivial⟩, ⟨(by omega), (by omega)⟩, trivial⟩ ?_
    refine xe_then ?_
    refine x_ret ?_
    refine xe_end ((at_ list v_1.toNat), s'_1) (show ((at_ list v_1.toNat) ∈ list) ∧ (okSrc s'_1) ∧ (s'_1.code = s.code) ∧ (s.atx + 0 ≤ s'_1.atx ∧ s'_1.atx ≤ s.atx + 2) ∧ (True) from ⟨(by first | omega | rfl | assumption | (dsimp only; first | omega | rfl | assumption) | (simp only [*]; done) | (exact at_mem (by omega)) | (simp_all; done)), (by first | omega | rfl | assumption | (dsimp only; first | omega | rfl | assumption) | (simp only [*]; done) | (exact at_mem (by omega)) | (simp_all; done)), (by first | omega | rfl | assumption | (dsimp only; first | omega | rfl | assumption) | (simp only [*]; done) | (exact at_mem (by omega)) | (simp_all; done)), (by first | omega | rfl | assumption | (dsimp only; first | omega | rfl | assumption) | (simp only [*]; done) | (exact at_mem (by omega)) | (simp_all; done)), trivial⟩) (⟨.inl rfl, trivial⟩) (I (at_ list v_1.toNat)) (by kernel_rfl) (.inl rfl) (fun _ => rfl) (fun _ => trivial)
  obtain ⟨⟨v, s'⟩, ⟨hh0, hh1, hh2, hh3, _⟩, hc⟩ := hh
  exact ⟨v, s', hh0, hh1, hh2, hh3, hc⟩


-- spec.l23Bent
theorem l23Bent_ok (s : l00Src) (hs : okSrc s) (ha : s.atx ≤ 3999999999999999800) : ∃ (l : CellRow) (s' : l00Src), (l.Text.size ≤ 300) ∧ (-1 ≤ l.X ∧ l.X ≤ 4096) ∧ (-1 ≤ l.Y ∧ l.Y ≤ 4096) ∧ (1 ≤ l.Cell ∧ l.Cell ≤ 61) ∧ (okSrc s') ∧ (s'.code = s.code) ∧ (s.atx + 0 ≤ s'.atx ∧ s'.atx ≤ s.atx + 80) ∧ CallOK Tryz.prog 40 [.ref 7001 0] (lookO [(7001, bxl00Src s)]) true (agCellRow l) (lookO [(7001, bxl00Src s')]) := by
  have hh : ∃ r : CellRow × l00Src, ((r.1.Text.size ≤ 300) ∧ (-1 ≤ r.1.X ∧ r.1.X ≤ 4096) ∧ (-1 ≤ r.1.Y ∧ r.1.Y ≤ 4096) ∧ (1 ≤ r.1.Cell ∧ r.1.Cell ≤ 61) ∧ (okSrc r.2) ∧ (r.2.code = s.code) ∧ (s.atx + 0 ≤ r.2.atx ∧ r.2.atx ≤ s.atx + 80) ∧ (True)) ∧ CallOK Tryz.prog 40 [.ref 7001 0] (lookO [(7001, bxl00Src s)]) true (agCellRow r.1) (lookO [(7001, bxl00Src r.2)]) := by
    refine fn_okX (Φ := fun r : CellRow × l00Src => (r.1.Text.size ≤ 300) ∧ (-1 ≤ r.1.X ∧ r.1.X ≤ 4096) ∧ (-1 ≤ r.1.Y ∧ r.1.Y ≤ 4096) ∧ (1 ≤ r.1.Cell ∧ r.1.Cell ≤ 61) ∧ (okSrc r.2) ∧ (r.2.code = s.code) ∧ (s.atx + 0 ≤ r.2.atx ∧ r.2.atx ≤ s.atx + 80) ∧ (True)) [(7001, bxl00Src s)] (fun r => [(7001, bxl00Src r.2)]) (fn := Tryz.f40) (nt := 51) Tryz.func40 rfl rfl (args := [.ref 7001 0]) rfl (allcons (.inr trivial) allnil) (res := fun r => agCellRow r.1) ?_
    refine x_seq ?_
    refine x_reg [(0, .new 2)] [0, 2] [2, 7001] [.ref 7001 0, .ref 2 0] [some (.box [Sv (⟨#[]⟩ : ByteArray), I 0, I 0, I 0]), some (bxl00Src s)] [] (by kernel_rfl) trivial ?_
    refine xe_then ?_
    refine x_seq ?_
    obtain ⟨l_1, s'_1, hx1_0, hx1_1, hx1_2, hx1_3, hx1_4, hx1_5, hx1_6, hc1⟩ := l23Row_ok s (by first | assumption | (simp only [okSrc] at *; simp_all; done)) (by omega)
    refine x_reg [(1, .lend [(7001, bxl00Src s, bxl00Src s'_1)] [] [(true, .ref 7001 0)] true (agCellRow l_1)), (2, .new 3)] [0, 2, 3] [2, 3, 7001] [.ref 7001 0, .ref 2 0, .ref 3 0] [some (.box [Sv (⟨#[]⟩ : ByteArray), I 0, I 0, I 0]), some (bxCellRow l_1), some (bxl00Src s'_1)] [CallOK Tryz.prog 31 [.ref 7001 0] (lookO [(7001, bxl00Src s)]) true (agCellRow l_1) (lookO [(7001, bxl00Src s'_1)]) ∧ ((.ref 7001 0 : AV) = .ref 7001 0) ∧ (((bxl00Src s : Ob) = bxl00Src s ∨ obLe noOb true (bxl00Src s) (bxl00Src s)) ∧ taggedO false (bxl00Src s)) ∧ True] (by kernel_rfl) ⟨⟨hc1, rfl, ⟨.inl rfl, (by simp [taggedO, taggedL, tagged, tagU8])⟩, trivial⟩, trivial⟩ ?_
    refine xe_then ?_
    refine x_seq ?_
    refine x_seq ?_
    obtain ⟨v_2, s'_2, hx2_0, hx2_1, hx2_2, hx2_3, hc2⟩ := pick_ok s'_1 24 (by first | assumption | (simp only [okSrc] at *; simp_all; done)) (by omega)
    refine x_reg [(1, .lend [(7001, bxl00Src s'_1, bxl00Src s'_2)] [] [(true, .ref 7001 0), (true, I 24)] true (I v_2))] [0, 2, 3, 8] [2, 3, 7001] [.ref 7001 0, .ref 2 0, .ref 3 0, I v_2] [some (.box [Sv (⟨#[]⟩ : ByteArray), I 0, I 0, I 0]), some (bxCellRow l_1), some (bxl00Src s'_2)] [CallOK Tryz.prog 39 [.ref 7001 0, I 24] (lookO [(7001, bxl00Src s'_1)]) true (I v_2) (lookO [(7001, bxl00Src s'_2)]) ∧ ((.ref 7001 0 : AV) = .ref 7001 0) ∧ ((I 24 : AV) = I 24) ∧ (((bxl00Src s'_1 : Ob) = bxl00Src s'_1 ∨ obLe noOb true (bxl00Src s'_1) (bxl00Src s'_1)) ∧ taggedO false (bxl00Src s'_1)) ∧ True] (by kernel_rfl) ⟨⟨hc2, rfl, rfl, ⟨.inl rfl, (by simp [taggedO, taggedL, tagged, tagU8])⟩, trivial⟩, trivial⟩ ?_
    refine xe_then ?_
    refine x_block ?_
    refine x_seq ?_
    by_cases h1 : v_2 = 0
    ·refine x_reg [(0, .dec true)] [0, 2, 3, 8, 9] [2, 3, 7001] [.ref 7001 0, .ref 2 0, .ref 3 0, I v_2, Bv true] [some (.box [Sv (⟨#[]⟩ : ByteArray), I 0, I 0, I 0]), some (bxCellRow l_1), some (bxl00Src s'_2)] [v_2 = 0] (by kernel_rfl) ⟨h1, trivial⟩ ?_
     refine xe_then ?_
     refine x_true rfl ?_
     obtain ⟨v_3, s'_3, hx3_0, hx3_1, hx3_2, hx3_3, hc3⟩ := text_ok s'_2 ([(⟨#[65]⟩ : ByteArray), (⟨#[45]⟩ : ByteArray), (⟨#[97, 98]⟩ : ByteArray)]) (by first | assumption | (simp only [okSrc] at *; simp_all; done)) (by omega) (by decide)
     refine x_reg [(3, .new 14), (4, .lend [(7001, bxl00Src s'_2, bxl00Src s'_3)] [] [(true, .ref 7001 0), (false, slS false ([(⟨#[65]⟩ : ByteArray), (⟨#[45]⟩ : ByteArray), (⟨#[97, 98]⟩ : ByteArray)]))] true (Sv v_3))] [2, 3] [2, 3, 7001] [.ref 2 0, .ref 3 0] [some (.box [Sv (⟨#[]⟩ : ByteArray), I 0, I 0, I 0]), some (.box [Sv (l_1.Text ++ v_3), I l_1.X, I l_1.Y, I l_1.Cell]), some (bxl00Src s'_3)] [CallOK Tryz.prog 58 [.ref 7001 0, slS false ([(⟨#[65]⟩ : ByteArray), (⟨#[45]⟩ : ByteArray), (⟨#[97, 98]⟩ : ByteArray)])] (lookO [(7001, bxl00Src s'_2)]) true (Sv v_3) (lookO [(7001, bxl00Src s'_3)]) ∧ ((.ref 7001 0 : AV) = .ref 7001 0) ∧ ((false = true → true = true) ∧ 1 = 1 ∧ 3 = (([(⟨#[65]⟩ : ByteArray), (⟨#[45]⟩ : ByteArray), (⟨#[97, 98]⟩ : ByteArray)]).length) ∧ ∀ i, i < (([(⟨#[65]⟩ : ByteArray), (⟨#[45]⟩ : ByteArray), (⟨#[97, 98]⟩ : ByteArray)]).length) → (litF [Sv (⟨#[65]⟩ : ByteArray), Sv (⟨#[45]⟩ : ByteArray), Sv (⟨#[97, 98]⟩ : ByteArray)] 1) i = (fS ([(⟨#[65]⟩ : ByteArray), (⟨#[45]⟩ : ByteArray), (⟨#[97, 98]⟩ : ByteArray)])) i ∨ (AV.idsL ((fS ([(⟨#[65]⟩ : ByteArray), (⟨#[45]⟩ : ByteArray), (⟨#[97, 98]⟩ : ByteArray)])) i) = [] ∧ leL (fun _ => none) false ((litF [Sv (⟨#[65]⟩ : ByteArray), Sv (⟨#[45]⟩ : ByteArray), Sv (⟨#[97, 98]⟩ : ByteArray)] 1) i) ((fS ([(⟨#[65]⟩ : ByteArray), (⟨#[45]⟩ : ByteArray), (⟨#[97, 98]⟩ : ByteArray)])) i))) ∧ (((bxl00Src s'_2 : Ob) = bxl00Src s'_2 ∨ obLe noOb true (bxl00Src s'_2) (bxl00Src s'_2)) ∧ taggedO false (bxl00Src s'_2)) ∧ True, l_1.Text.size + v_3.size ≤ 9223372036854775807] (by kernel_rfl) ⟨⟨hc3, rfl, ⟨(fun h => by cases h), rfl, (by first | rfl | (simp; done) | (simp; omega) | omega), fun i hi => .inl (match i, hi with | 0, _ => rfl | 1, _ => rfl | 2, _ => rfl | (i + 3), h => absurd h (by simp))⟩, ⟨.inl rfl, (by simp [taggedO, taggedL, tagged, tagU8])⟩, trivial⟩, (by first | omega | (simp only [ByteArray.size_append, ByteArray.size_extract]; omega)), trivial⟩ ?_
     refine xe_block 0 ?_
     refine xe_then ?_
     refine x_seq ?_
     refine x_reg [] [2] [2, 7001] [.ref 2 0] [some (.box [Sv (l_1.Text ++ v_3), I l_1.X, I l_1.Y, I l_1.Cell]), some (bxl00Src s'_3)] [] (by kernel_rfl) trivial ?_
     refine xe_then ?_
     refine x_ret ?_
     refine xe_end ((CellRow.mk (l_1.Text ++ v_3) l_1.X l_1.Y l_1.Cell), s'_3) (show ((CellRow.mk (l_1.Text ++ v_3) l_1.X l_1.Y l_1.Cell).Text.size ≤ 300) ∧ (-1 ≤ (CellRow.mk (l_1.Text ++ v_3) l_1.X l_1.Y l_1.Cell).X ∧ (CellRow.mk (l_1.Text ++ v_3) l_1.X l_1.Y l_1.Cell).X ≤ 4096) ∧ (-1 ≤ (CellRow.mk (l_1.Text ++ v_3) l_1.X l_1.Y l_1.Cell).Y ∧ (CellRow.mk (l_1.Text ++ v_3) l_1.X l_1.Y l_1.Cell).Y ≤ 4096) ∧ (1 ≤ (CellRow.mk (l_1.Text ++ v_3) l_1.X l_1.Y l_1.Cell).Cell ∧ (CellRow.mk (l_1.Text ++ v_3) l_1.X l_1.Y l_1.Cell).Cell ≤ 61) ∧ (okSrc s'_3) ∧ (s'_3.code = s.code) ∧ (s.atx + 0 ≤ s'_3.atx ∧ s'_3.atx ≤ s.atx + 80) ∧ (True) from ⟨(by first | omega | assumption | rfl | (simp only [ByteArray.size_append, ByteArray.size_extract]; omega) | (simp; done) | (simp_all; done)), (by first | omega | assumption | rfl | (simp only [ByteArray.size_append, ByteArray.size_extract]; omega) | (simp; done) | (simp_all; done)), (by first | omega | assumption | rfl | (simp only [ByteArray.size_append, ByteArray.size_extract]; omega) | (simp; done) | (simp_all; done)), (by first | omega | assumption | rfl | (simp only [ByteArray.size_append, ByteArray.size_extract]; omega) | (simp; done) | (simp_all; done)), (by first | omega | assumption | rfl | (simp only [ByteArray.size_append, ByteArray.size_extract]; omega) | (simp; done) | (simp_all; done)), (by first | omega | assumption | rfl | (simp only [ByteArray.size_append, ByteArray.size_extract]; omega) | (simp; done) | (simp_all; done)), (by first | omega | assumption | rfl | (simp only [ByteArray.size_append, ByteArray.size_extract]; omega) | (simp; done) | (simp_all; done)), trivial⟩) (⟨.inl rfl, trivial⟩) (.agg [Sv (l_1.Text ++ v_3), I l_1.X, I l_1.Y, I l_1.Cell]) (by kernel_rfl) (.inl rfl) (fun _ => rfl) (fun _ => (by simp [tagged, taggedL]))
    ·refine x_reg [(0, .dec false)] [0, 2, 3, 8, 9] [2, 3, 7001] [.ref 7001 0, .ref 2 0, .ref 3 0, I v_2, Bv false] [some (.box [Sv (⟨#[]⟩ : ByteArray), I 0, I 0, I 0]), some (bxCellRow l_1), some (bxl00Src s'_2)] [¬ (v_2 = 0)] (by kernel_rfl) ⟨h1, trivial⟩ ?_
     refine xe_then ?_
     refine x_false rfl ?_
     refine x_seq ?_
     by_cases h2 : v_2 = 1
     ·refine x_reg [(0, .dec true)] [0, 2, 3, 8, 18] [2, 3, 7001] [.ref 7001 0, .ref 2 0, .ref 3 0, I v_2, Bv true] [some (.box [Sv (⟨#[]⟩ : ByteArray), I 0, I 0, I 0]), some (bxCellRow l_1), some (bxl00Src s'_2)] [v_2 = 1] (by kernel_rfl) ⟨h2, trivial⟩ ?_
      refine xe_then ?_
      refine x_true rfl ?_
      obtain ⟨v_4, s'_4, hx4_0, hx4_1, hx4_2, hx4_3, hc4⟩ := among_ok s'_2 ([(-1), 0, 4095, 4096]) (by first | assumption | (simp only [okSrc] at *; simp_all; done)) (by omega) (by simp)
      have ham_v_4 : v_4 = (-1) ∨ v_4 = 0 ∨ v_4 = 4095 ∨ v_4 = 4096 := by simpa using hx4_0
      refine x_reg [(1, .new 21), (2, .lend [(7001, bxl00Src s'_2, bxl00Src s'_4)] [] [(true, .ref 7001 0), (false, slI false ([(-1), 0, 4095, 4096]))] true (I v_4))] [2, 3] [2, 3, 7001] [.ref 2 0, .ref 3 0] [some (.box [Sv (⟨#[]⟩ : ByteArray), I 0, I 0, I 0]), some (.box [Sv l_1.Text, I v_4, I l_1.Y, I l_1.Cell]), some (bxl00Src s'_4)] [CallOK Tryz.prog 42 [.ref 7001 0, slI false ([(-1), 0, 4095, 4096])] (lookO [(7001, bxl00Src s'_2)]) true (I v_4) (lookO [(7001, bxl00Src s'_4)]) ∧ ((.ref 7001 0 : AV) = .ref 7001 0) ∧ ((false = true → true = true) ∧ 1 = 1 ∧ 4 = (([(-1), 0, 4095, 4096]).length) ∧ ∀ i, i < (([(-1), 0, 4095, 4096]).length) → (litF [I (-1), I 0, I 4095, I 4096] 1) i = (fI ([(-1), 0, 4095, 4096])) i ∨ (AV.idsL ((fI ([(-1), 0, 4095, 4096])) i) = [] ∧ leL (fun _ => none) false ((litF [I (-1), I 0, I 4095, I 4096] 1) i) ((fI ([(-1), 0, 4095, 4096])) i))) ∧ (((bxl00Src s'_2 : Ob) = bxl00Src s'_2 ∨ obLe noOb true (bxl00Src s'_2) (bxl00Src s'_2)) ∧ taggedO false (bxl00Src s'_2)) ∧ True] (by kernel_rfl) ⟨⟨hc4, rfl, ⟨(fun h => by cases h), rfl, (by first | rfl | (simp; done) | (simp; omega) | omega), fun i hi => .inl (match i, hi with | 0, _ => rfl | 1, _ => rfl | 2, _ => rfl | 3, _ => rfl | (i + 4), h => absurd h (by simp))⟩, ⟨.inl rfl, (by simp [taggedO, taggedL, tagged, tagU8])⟩, trivial⟩, trivial⟩ ?_
      refine xe_block 0 ?_
      refine xe_then ?_
      refine x_seq ?_
      refine x_reg [] [2] [2, 7001] [.ref 2 0] [some (.box [Sv l_1.Text, I v_4, I l_1.Y, I l_1.Cell]), some (bxl00Src s'_4)] [] (by kernel_rfl) trivial ?_
      refine xe_then ?_
      refine x_ret ?_
      refine xe_end ((CellRow.mk l_1.Text v_4 l_1.Y l_1.Cell), s'_4) (show ((CellRow.mk l_1.Text v_4 l_1.Y l_1.Cell).Text.size ≤ 300) ∧ (-1 ≤ (CellRow.mk l_1.Text v_4 l_1.Y l_1.Cell).X ∧ (CellRow.mk l_1.Text v_4 l_1.Y l_1.Cell).X ≤ 4096) ∧ (-1 ≤ (CellRow.mk l_1.Text v_4 l_1.Y l_1.Cell).Y ∧ (CellRow.mk l_1.Text v_4 l_1.Y l_1.Cell).Y ≤ 4096) ∧ (1 ≤ (CellRow.mk l_1.Text v_4 l_1.Y l_1.Cell).Cell ∧ (CellRow.mk l_1.Text v_4 l_1.Y l_1.Cell).Cell ≤ 61) ∧ (okSrc s'_4) ∧ (s'_4.code = s.code) ∧ (s.atx + 0 ≤ s'_4.atx ∧ s'_4.atx ≤ s.atx + 80) ∧ (True) from ⟨(by first | omega | assumption | rfl | (simp only [ByteArray.size_append, ByteArray.size_extract]; omega) | (simp; done) | (simp_all; done)), (by first | omega | assumption | rfl | (simp only [ByteArray.size_append, ByteArray.size_extract]; omega) | (simp; done) | (simp_all; done)), (by first | omega | assumption | rfl | (simp only [ByteArray.size_append, ByteArray.size_extract]; omega) | (simp; done) | (simp_all; done)), (by first | omega | assumption | rfl | (simp only [ByteArray.size_append, ByteArray.size_extract]; omega) | (simp; done) | (simp_all; done)), (by first | omega | assumption | rfl | (simp only [ByteArray.size_append, ByteArray.size_extract]; omega) | (simp; done) | (simp_all; done)), (by first | omega | assumption | rfl | (simp only [ByteArray.size_append, ByteArray.size_extract]; omega) | (simp; done) | (simp_all; done)), (by first | omega | assumption | rfl | (simp only [ByteArray.size_append, ByteArray.size_extract]; omega) | (simp; done) | (simp_all; done)), trivial⟩) (⟨.inl rfl, trivial⟩) (.agg [Sv l_1.Text, I v_4, I l_1.Y, I l_1.Cell]) (by kernel_rfl) (.inl rfl) (fun _ => rfl) (fun _ => (by simp [tagged, taggedL]))
     ·refine x_reg [(0, .dec false)] [0, 2, 3, 8, 18] [2, 3, 7001] [.ref 7001 0, .ref 2 0, .ref 3 0, I v_2, Bv false] [some (.box [Sv (⟨#[]⟩ : ByteArray), I 0, I 0, I 0]), some (bxCellRow l_1), some (bxl00Src s'_2)] [¬ (v_2 = 1)] (by kernel_rfl) ⟨h2, trivial⟩ ?_
      refine xe_then ?_
      refine x_false rfl ?_
      refine x_seq ?_
      by_cases h3 : v_2 = 2
      ·refine x_reg [(0, .dec true)] [0, 2, 3, 8, 24] [2, 3, 7001] [.ref 7001 0, .ref 2 0, .ref 3 0, I v_2, Bv true] [some (.box [Sv (⟨#[]⟩ : ByteArray), I 0, I 0, I 0]), some (bxCellRow l_1), some (bxl00Src s'_2)] [v_2 = 2] (by kernel_rfl) ⟨h3, trivial⟩ ?_
       refine xe_then ?_
       refine x_true rfl ?_
       obtain ⟨v_5, s'_5, hx5_0, hx5_1, hx5_2, hx5_3, hc5⟩ := among_ok s'_2 ([1, 2, 60, 61]) (by first | assumption | (simp only [okSrc] at *; simp_all; done)) (by omega) (by simp)
       have ham_v_5 : v_5 = 1 ∨ v_5 = 2 ∨ v_5 = 60 ∨ v_5 = 61 := by simpa using hx5_0
       refine x_reg [(1, .new 27), (2, .lend [(7001, bxl00Src s'_2, bxl00Src s'_5)] [] [(true, .ref 7001 0), (false, slI false ([1, 2, 60, 61]))] true (I v_5))] [2, 3] [2, 3, 7001] [.ref 2 0, .ref 3 0] [some (.box [Sv (⟨#[]⟩ : ByteArray), I 0, I 0, I 0]), some (.box [Sv l_1.Text, I l_1.X, I l_1.Y, I v_5]), some (bxl00Src s'_5)] [CallOK Tryz.prog 42 [.ref 7001 0, slI false ([1, 2, 60, 61])] (lookO [(7001, bxl00Src s'_2)]) true (I v_5) (lookO [(7001, bxl00Src s'_5)]) ∧ ((.ref 7001 0 : AV) = .ref 7001 0) ∧ ((false = true → true = true) ∧ 1 = 1 ∧ 4 = (([1, 2, 60, 61]).length) ∧ ∀ i, i < (([1, 2, 60, 61]).length) → (litF [I 1, I 2, I 60, I 61] 1) i = (fI ([1, 2, 60, 61])) i ∨ (AV.idsL ((fI ([1, 2, 60, 61])) i) = [] ∧ leL (fun _ => none) false ((litF [I 1, I 2, I 60, I 61] 1) i) ((fI ([1, 2, 60, 61])) i))) ∧ (((bxl00Src s'_2 : Ob) = bxl00Src s'_2 ∨ obLe noOb true (bxl00Src s'_2) (bxl00Src s'_2)) ∧ taggedO false (bxl00Src s'_2)) ∧ True] (by kernel_rfl) ⟨⟨hc5, rfl, ⟨(fun h => by cases h), rfl, (by first | rfl | (simp; done) | (simp; omega) | omega), fun i hi => .inl (match i, hi with | 0, _ => rfl | 1, _ => rfl | 2, _ => rfl | 3, _ => rfl | (i + 4), h => absurd h (by simp))⟩, ⟨.inl rfl, (by simp [taggedO, taggedL, tagged, tagU8])⟩, trivial⟩, trivial⟩ ?_
       refine xe_block 0 ?_
       refine xe_then ?_
       refine x_seq ?_
       refine x_reg [] [2] [2, 7001] [.ref 2 0] [some (.box [Sv l_1.Text, I l_1.X, I l_1.Y, I v_5]), some (bxl00Src s'_5)] [] (by kernel_rfl) trivial ?_
       refine xe_then ?_
       refine x_ret ?_
       refine xe_end ((CellRow.mk l_1.Text l_1.X l_1.Y v_5), s'_5) (show ((CellRow.mk l_1.Text l_1.X l_1.Y v_5).Text.size ≤ 300) ∧ (-1 ≤ (CellRow.mk l_1.Text l_1.X l_1.Y v_5).X ∧ (CellRow.mk l_1.Text l_1.X l_1.Y v_5).X ≤ 4096) ∧ (-1 ≤ (CellRow.mk l_1.Text l_1.X l_1.Y v_5).Y ∧ (CellRow.mk l_1.Text l_1.X l_1.Y v_5).Y ≤ 4096) ∧ (1 ≤ (CellRow.mk l_1.Text l_1.X l_1.Y v_5).Cell ∧ (CellRow.mk l_1.Text l_1.X l_1.Y v_5).Cell ≤ 61) ∧ (okSrc s'_5) ∧ (s'_5.code = s.code) ∧ (s.atx + 0 ≤ s'_5.atx ∧ s'_5.atx ≤ s.atx + 80) ∧ (True) from ⟨(by first | omega | assumption | rfl | (simp only [ByteArray.size_append, ByteArray.size_extract]; omega) | (simp; done) | (simp_all; done)), (by first | omega | assumption | rfl | (simp only [ByteArray.size_append, ByteArray.size_extract]; omega) | (simp; done) | (simp_all; done)), (by first | omega | assumption | rfl | (simp only [ByteArray.size_append, ByteArray.size_extract]; omega) | (simp; done) | (simp_all; done)), (by first | omega | assumption | rfl | (simp only [ByteArray.size_append, ByteArray.size_extract]; omega) | (simp; done) | (simp_all; done)), (by first | omega | assumption | rfl | (simp only [ByteArray.size_append, ByteArray.size_extract]; omega) | (simp; done) | (simp_all; done)), (by first | omega | assumption | rfl | (simp only [ByteArray.size_append, ByteArray.size_extract]; omega) | (simp; done) | (simp_all; done)), (by first | omega | assumption | rfl | (simp only [ByteArray.size_append, ByteArray.size_extract]; omega) | (simp; done) | (simp_all; done)), trivial⟩) (⟨.inl rfl, trivial⟩) (.agg [Sv l_1.Text, I l_1.X, I l_1.Y, I v_5]) (by kernel_rfl) (.inl rfl) (fun _ => rfl) (fun _ => (by simp [tagged, taggedL]))
      ·refine x_reg [(0, .dec false)] [0, 2, 3, 8, 24] [2, 3, 7001] [.ref 7001 0, .ref 2 0, .ref 3 0, I v_2, Bv false] [some (.box [Sv (⟨#[]⟩ : ByteArray), I 0, I 0, I 0]), some (bxCellRow l_1), some (bxl00Src s'_2)] [¬ (v_2 = 2)] (by kernel_rfl) ⟨h3, trivial⟩ ?_
       refine xe_then ?_
       refine x_false rfl ?_
       refine x_seq ?_
       by_cases h4 : v_2 = 3
       ·refine x_reg [(0, .dec true)] [0, 2, 3, 8, 30] [2, 3, 7001] [.ref 7001 0, .ref 2 0, .ref 3 0, I v_2, Bv true] [some (.box [Sv (⟨#[]⟩ : ByteArray), I 0, I 0, I 0]), some (bxCellRow l_1), some (bxl00Src s'_2)] [v_2 = 3] (by kernel_rfl) ⟨h4, trivial⟩ ?_
        refine xe_then ?_
        refine x_true rfl ?_
        refine x_seq ?_
        refine x_reg [] [0, 2, 3] [2, 3, 7001] [.ref 7001 0, .ref 2 0, .ref 3 0] [some (.box [Sv (⟨#[]⟩ : ByteArray), I 0, I 0, I 0]), some (.box [Sv (⟨#[]⟩ : ByteArray), I l_1.X, I l_1.Y, I l_1.Cell]), some (bxl00Src s'_2)] [] (by kernel_rfl) trivial ?_
        refine xe_then ?_
        refine x_seq ?_
        obtain ⟨v_6, s'_6, hx6_0, hx6_1, hx6_2, hx6_3, hc6⟩ := pick_ok s'_2 2 (by first | assumption | (simp only [okSrc] at *; simp_all; done)) (by omega)
        refine x_reg [(1, .lend [(7001, bxl00Src s'_2, bxl00Src s'_6)] [] [(true, .ref 7001 0), (true, I 2)] true (I v_6))] [2, 3, 4] [2, 3, 7001] [.ref 2 0, .ref 3 0, I (60 + v_6)] [some (.box [Sv (⟨#[]⟩ : ByteArray), I 0, I 0, I 0]), some (.box [Sv (⟨#[]⟩ : ByteArray), I l_1.X, I l_1.Y, I l_1.Cell]), some (bxl00Src s'_6)] [CallOK Tryz.prog 39 [.ref 7001 0, I 2] (lookO [(7001, bxl00Src s'_2)]) true (I v_6) (lookO [(7001, bxl00Src s'_6)]) ∧ ((.ref 7001 0 : AV) = .ref 7001 0) ∧ ((I 2 : AV) = I 2) ∧ (((bxl00Src s'_2 : Ob) = bxl00Src s'_2 ∨ obLe noOb true (bxl00Src s'_2) (bxl00Src s'_2)) ∧ taggedO false (bxl00Src s'_2)) ∧ True, inR .i64 (60 + v_6)] (by kernel_rfl) ⟨⟨hc6, rfl, rfl, ⟨.inl rfl, (by simp [taggedO, taggedL, tagged, tagU8])⟩, trivial⟩, (inR_i64 (by omega) (by omega)), trivial⟩ ?_
        refine xe_then ?_
        refine x_block ?_
        refine x_loop (X := Int × ByteArray) (fun x => mkS [(2, .ref 2 0), (3, .ref 3 0), (4, I x.1)] [(2, .box [Sv (⟨#[]⟩ : ByteArray), I 0, I 0, I 0]), (3, .box [Sv x.2, I l_1.X, I l_1.Y, I l_1.Cell]), (7001, bxl00Src s'_6)]) (fun x => (0 ≤ x.1 ∧ x.1 ≤ 61) ∧ ((x.2.size : Int) ≤ 61 - x.1) ∧ True) (fun x => x.1.toNat) ((60 + v_6), (⟨#[]⟩ : ByteArray)) rfl (show (0 ≤ (60 + v_6) ∧ (60 + v_6) ≤ 61) ∧ (((⟨#[]⟩ : ByteArray).size : Int) ≤ 61 - (60 + v_6)) ∧ True from ⟨(by omega), (by rw [show (⟨#[]⟩ : ByteArray).size = 0 from rfl]; omega), trivial⟩) (fun x hI => ?_)
        obtain ⟨k, tx⟩ := x
        obtain ⟨hk0, hl0, _⟩ : (0 ≤ k ∧ k ≤ 61) ∧ ((tx.size : Int) ≤ 61 - k) ∧ True := hI
        show XW _ _ _ _ (mkS [(2, .ref 2 0), (3, .ref 3 0), (4, I k)] [(2, .box [Sv (⟨#[]⟩ : ByteArray), I 0, I 0, I 0]), (3, .box [Sv tx, I l_1.X, I l_1.Y, I l_1.Cell]), (7001, bxl00Src s'_6)]) _ _
        refine x_seq ?_
        refine x_seq ?_
        by_cases h5 : 0 < k
        ·refine x_reg [(1, .dec true)] [2, 3, 4, 37] [2, 3, 7001] [.ref 2 0, .ref 3 0, I k, Bv true] [some (.box [Sv (⟨#[]⟩ : ByteArray), I 0, I 0, I 0]), some (.box [Sv tx, I l_1.X, I l_1.Y, I l_1.Cell]), some (bxl00Src s'_6)] [0 < k] (by kernel_rfl) ⟨h5, trivial⟩ ?_
         refine xe_then ?_
         refine x_true rfl ?_
         refine x_skip ?_
         refine xe_then ?_
         refine x_seq ?_
         refine x_block ?_
         refine x_reg [] [2, 3, 4] [2, 3, 7001] [.ref 2 0, .ref 3 0, I k] [some (.box [Sv (⟨#[]⟩ : ByteArray), I 0, I 0, I 0]), some (.box [Sv (tx ++ (⟨#[101]⟩ : ByteArray)), I l_1.X, I l_1.Y, I l_1.Cell]), some (bxl00Src s'_6)] [tx.size + (⟨#[101]⟩ : ByteArray).size ≤ 9223372036854775807] (by kernel_rfl) ⟨(by have e0 : (⟨#[101]⟩ : ByteArray).size = 1 := rfl; first | omega | (simp only [ByteArray.size_append, ByteArray.size_extract]; omega)), trivial⟩ ?_
         refine xe_block 2 ?_
         refine xe_then ?_
         refine x_reg [] [2, 3, 4] [2, 3, 7001] [.ref 2 0, .ref 3 0, I (k - 1)] [some (.box [Sv (⟨#[]⟩ : ByteArray), I 0, I 0, I 0]), some (.box [Sv (tx ++ (⟨#[101]⟩ : ByteArray)), I l_1.X, I l_1.Y, I l_1.Cell]), some (bxl00Src s'_6)] [inR .i64 (k - 1)] (by kernel_rfl) ⟨(inR_i64 (by omega) (by omega)), trivial⟩ ?_
         exact xe_again ((k - 1), (tx ++ (⟨#[101]⟩ : ByteArray))) rfl (show (0 ≤ (k - 1) ∧ (k - 1) ≤ 61) ∧ (((tx ++ (⟨#[101]⟩ : ByteArray)).size : Int) ≤ 61 - (k - 1)) ∧ True from ⟨(by omega), (by simp only [ByteArray.size_append]; rw [show (⟨#[101]⟩ : ByteArray).size = 1 from rfl]; omega), trivial⟩) (by show ((k - 1).toNat : Nat) < k.toNat; omega)
        ·refine x_reg [(1, .dec false)] [2, 3, 4, 37] [2, 3, 7001] [.ref 2 0, .ref 3 0, I k, Bv false] [some (.box [Sv (⟨#[]⟩ : ByteArray), I 0, I 0, I 0]), some (.box [Sv tx, I l_1.X, I l_1.Y, I l_1.Cell]), some (bxl00Src s'_6)] [¬ (0 < k)] (by kernel_rfl) ⟨h5, trivial⟩ ?_
         refine xe_then ?_
         refine x_false rfl ?_
         refine x_exit ?_
         refine xe_exit_then ?_
         refine xe_loop_exit ?_
         refine xe_exit_same ?_
         refine xe_block 0 ?_
         refine xe_then ?_
         refine x_seq ?_
         refine x_reg [] [2] [2, 7001] [.ref 2 0] [some (.box [Sv tx, I l_1.X, I l_1.Y, I l_1.Cell]), some (bxl00Src s'_6)] [] (by kernel_rfl) trivial ?_
         refine xe_then ?_
         refine x_ret ?_
         refine xe_end ((CellRow.mk tx l_1.X l_1.Y l_1.Cell), s'_6) (show ((CellRow.mk tx l_1.X l_1.Y l_1.Cell).Text.size ≤ 300) ∧ (-1 ≤ (CellRow.mk tx l_1.X l_1.Y l_1.Cell).X ∧ (CellRow.mk tx l_1.X l_1.Y l_1.Cell).X ≤ 4096) ∧ (-1 ≤ (CellRow.mk tx l_1.X l_1.Y l_1.Cell).Y ∧ (CellRow.mk tx l_1.X l_1.Y l_1.Cell).Y ≤ 4096) ∧ (1 ≤ (CellRow.mk tx l_1.X l_1.Y l_1.Cell).Cell ∧ (CellRow.mk tx l_1.X l_1.Y l_1.Cell).Cell ≤ 61) ∧ (okSrc s'_6) ∧ (s'_6.code = s.code) ∧ (s.atx + 0 ≤ s'_6.atx ∧ s'_6.atx ≤ s.atx + 80) ∧ (True) from ⟨(by first | omega | assumption | rfl | (simp only [ByteArray.size_append, ByteArray.size_extract]; omega) | (simp; done) | (simp_all; done)), (by first | omega | assumption | rfl | (simp only [ByteArray.size_append, ByteArray.size_extract]; omega) | (simp; done) | (simp_all; done)), (by first | omega | assumption | rfl | (simp only [ByteArray.size_append, ByteArray.size_extract]; omega) | (simp; done) | (simp_all; done)), (by first | omega | assumption | rfl | (simp only [ByteArray.size_append, ByteArray.size_extract]; omega) | (simp; done) | (simp_all; done)), (by first | omega | assumption | rfl | (simp only [ByteArray.size_append, ByteArray.size_extract]; omega) | (simp; done) | (simp_all; done)), (by first | omega | assumption | rfl | (simp only [ByteArray.size_append, ByteArray.size_extract]; omega) | (simp; done) | (simp_all; done)), (by first | omega | assumption | rfl | (simp only [ByteArray.size_append, ByteArray.size_extract]; omega) | (simp; done) | (simp_all; done)), trivial⟩) (⟨.inl rfl, trivial⟩) (.agg [Sv tx, I l_1.X, I l_1.Y, I l_1.Cell]) (by kernel_rfl) (.inl rfl) (fun _ => rfl) (fun _ => (by simp [tagged, taggedL]))
       ·refine x_reg [(0, .dec false)] [0, 2, 3, 8, 30] [2, 3, 7001] [.ref 7001 0, .ref 2 0, .ref 3 0, I v_2, Bv false] [some (.box [Sv (⟨#[]⟩ : ByteArray), I 0, I 0, I 0]), some (bxCellRow l_1), some (bxl00Src s'_2)] [¬ (v_2 = 3)] (by kernel_rfl) ⟨h4, trivial⟩ ?_
        refine xe_then ?_
        refine x_false rfl ?_
        refine x_seq ?_
        by_cases h6 : v_2 = 4
        ·refine x_reg [(0, .dec true)] [0, 2, 3, 44] [2, 3, 7001] [.ref 7001 0, .ref 2 0, .ref 3 0, Bv true] [some (.box [Sv (⟨#[]⟩ : ByteArray), I 0, I 0, I 0]), some (bxCellRow l_1), some (bxl00Src s'_2)] [v_2 = 4] (by kernel_rfl) ⟨h6, trivial⟩ ?_
         refine xe_then ?_
         refine x_true rfl ?_
         obtain ⟨v_7, s'_7, hx7_0, hx7_1, hx7_2, hx7_3, hc7⟩ := among_ok s'_2 ([(-1), 4095, 4096]) (by first | assumption | (simp only [okSrc] at *; simp_all; done)) (by omega) (by simp)
         have ham_v_7 : v_7 = (-1) ∨ v_7 = 4095 ∨ v_7 = 4096 := by simpa using hx7_0
         refine x_reg [(1, .new 47), (2, .lend [(7001, bxl00Src s'_2, bxl00Src s'_7)] [] [(true, .ref 7001 0), (false, slI false ([(-1), 4095, 4096]))] true (I v_7))] [2, 3] [2, 3, 7001] [.ref 2 0, .ref 3 0] [some (.box [Sv (⟨#[]⟩ : ByteArray), I 0, I 0, I 0]), some (.box [Sv l_1.Text, I l_1.X, I v_7, I l_1.Cell]), some (bxl00Src s'_7)] [CallOK Tryz.prog 42 [.ref 7001 0, slI false ([(-1), 4095, 4096])] (lookO [(7001, bxl00Src s'_2)]) true (I v_7) (lookO [(7001, bxl00Src s'_7)]) ∧ ((.ref 7001 0 : AV) = .ref 7001 0) ∧ ((false = true → true = true) ∧ 1 = 1 ∧ 3 = (([(-1), 4095, 4096]).length) ∧ ∀ i, i < (([(-1), 4095, 4096]).length) → (litF [I (-1), I 4095, I 4096] 1) i = (fI ([(-1), 4095, 4096])) i ∨ (AV.idsL ((fI ([(-1), 4095, 4096])) i) = [] ∧ leL (fun _ => none) false ((litF [I (-1), I 4095, I 4096] 1) i) ((fI ([(-1), 4095, 4096])) i))) ∧ (((bxl00Src s'_2 : Ob) = bxl00Src s'_2 ∨ obLe noOb true (bxl00Src s'_2) (bxl00Src s'_2)) ∧ taggedO false (bxl00Src s'_2)) ∧ True] (by kernel_rfl) ⟨⟨hc7, rfl, ⟨(fun h => by cases h), rfl, (by first | rfl | (simp; done) | (simp; omega) | omega), fun i hi => .inl (match i, hi with | 0, _ => rfl | 1, _ => rfl | 2, _ => rfl | (i + 3), h => absurd h (by simp))⟩, ⟨.inl rfl, (by simp [taggedO, taggedL, tagged, tagU8])⟩, trivial⟩, trivial⟩ ?_
         refine xe_block 0 ?_
         refine xe_then ?_
         refine x_seq ?_
         refine x_reg [] [2] [2, 7001] [.ref 2 0] [some (.box [Sv l_1.Text, I l_1.X, I v_7, I l_1.Cell]), some (bxl00Src s'_7)] [] (by kernel_rfl) trivial ?_
         refine xe_then ?_
         refine x_ret ?_
         refine xe_end ((CellRow.mk l_1.Text l_1.X v_7 l_1.Cell), s'_7) (show ((CellRow.mk l_1.Text l_1.X v_7 l_1.Cell).Text.size ≤ 300) ∧ (-1 ≤ (CellRow.mk l_1.Text l_1.X v_7 l_1.Cell).X ∧ (CellRow.mk l_1.Text l_1.X v_7 l_1.Cell).X ≤ 4096) ∧ (-1 ≤ (CellRow.mk l_1.Text l_1.X v_7 l_1.Cell).Y ∧ (CellRow.mk l_1.Text l_1.X v_7 l_1.Cell).Y ≤ 4096) ∧ (1 ≤ (CellRow.mk l_1.Text l_1.X v_7 l_1.Cell).Cell ∧ (CellRow.mk l_1.Text l_1.X v_7 l_1.Cell).Cell ≤ 61) ∧ (okSrc s'_7) ∧ (s'_7.code = s.code) ∧ (s.atx + 0 ≤ s'_7.atx ∧ s'_7.atx ≤ s.atx + 80) ∧ (True) from ⟨(by first | omega | assumption | rfl | (simp only [ByteArray.size_append, ByteArray.size_extract]; omega) | (simp; done) | (simp_all; done)), (by first | omega | assumption | rfl | (simp only [ByteArray.size_append, ByteArray.size_extract]; omega) | (simp; done) | (simp_all; done)), (by first | omega | assumption | rfl | (simp only [ByteArray.size_append, ByteArray.size_extract]; omega) | (simp; done) | (simp_all; done)), (by first | omega | assumption | rfl | (simp only [ByteArray.size_append, ByteArray.size_extract]; omega) | (simp; done) | (simp_all; done)), (by first | omega | assumption | rfl | (simp only [ByteArray.size_append, ByteArray.size_extract]; omega) | (simp; done) | (simp_all; done)), (by first | omega | assumption | rfl | (simp only [ByteArray.size_append, ByteArray.size_extract]; omega) | (simp; done) | (simp_all; done)), (by first | omega | assumption | rfl | (simp only [ByteArray.size_append, ByteArray.size_extract]; omega) | (simp; done) | (simp_all; done)), trivial⟩) (⟨.inl rfl, trivial⟩) (.agg [Sv l_1.Text, I l_1.X, I v_7, I l_1.Cell]) (by kernel_rfl) (.inl rfl) (fun _ => rfl) (fun _ => (by simp [tagged, taggedL]))
        ·refine x_reg [(0, .dec false)] [0, 2, 3, 44] [2, 3, 7001] [.ref 7001 0, .ref 2 0, .ref 3 0, Bv false] [some (.box [Sv (⟨#[]⟩ : ByteArray), I 0, I 0, I 0]), some (bxCellRow l_1), some (bxl00Src s'_2)] [¬ (v_2 = 4)] (by kernel_rfl) ⟨h6, trivial⟩ ?_
         refine xe_then ?_
         refine x_false rfl ?_
         refine x_skip ?_
         refine xe_block 0 ?_
         refine xe_then ?_
         refine x_seq ?_
         refine x_reg [] [2] [2, 7001] [.ref 2 0] [some (bxCellRow l_1), some (bxl00Src s'_2)] [] (by kernel_rfl) trivial ?_
         refine xe_then ?_
         refine x_ret ?_
         refine xe_end (l_1, s'_2) (show (l_1.Text.size ≤ 300) ∧ (-1 ≤ l_1.X ∧ l_1.X ≤ 4096) ∧ (-1 ≤ l_1.Y ∧ l_1.Y ≤ 4096) ∧ (1 ≤ l_1.Cell ∧ l_1.Cell ≤ 61) ∧ (okSrc s'_2) ∧ (s'_2.code = s.code) ∧ (s.atx + 0 ≤ s'_2.atx ∧ s'_2.atx ≤ s.atx + 80) ∧ (True) from ⟨(by first | omega | assumption | rfl | (simp only [ByteArray.size_append, ByteArray.size_extract]; omega) | (simp; done) | (simp_all; done)), (by first | omega | assumption | rfl | (simp only [ByteArray.size_append, ByteArray.size_extract]; omega) | (simp; done) | (simp_all; done)), (by first | omega | assumption | rfl | (simp only [ByteArray.size_append, ByteArray.size_extract]; omega) | (simp; done) | (simp_all; done)), (by first | omega | assumption | rfl | (simp only [ByteArray.size_append, ByteArray.size_extract]; omega) | (simp; done) | (simp_all; done)), (by first | omega | assumption | rfl | (simp only [ByteArray.size_append, ByteArray.size_extract]; omega) | (simp; done) | (simp_all; done)), (by first | omega | assumption | rfl | (simp only [ByteArray.size_append, ByteArray.size_extract]; omega) | (simp; done) | (simp_all; done)), (by first | omega | assumption | rfl | (simp only [ByteArray.size_append, ByteArray.size_extract]; omega) | (simp; done) | (simp_all; done)), trivial⟩) (⟨.inl rfl, trivial⟩) (agCellRow l_1) (by kernel_rfl) (.inl rfl) (fun _ => rfl) (fun _ => (by simp [tagged, taggedL]))
  obtain ⟨⟨l, s'⟩, ⟨hh0, hh1, hh2, hh3, hh4, hh5, hh6, _⟩, hc⟩ := hh
  exact ⟨l, s', hh0, hh1, hh2, hh3, hh4, hh5, hh6, hc⟩


-- spec.l00Src).one
theorem one_ok (s : l00Src) (n : Int) (hs : okSrc s) (ha : s.atx ≤ 3999999999999999980) : ∃ (v : Bool) (s' : l00Src), (okSrc s') ∧ (s'.code = s.code) ∧ (s.atx + 0 ≤ s'.atx ∧ s'.atx ≤ s.atx + 2) ∧ CallOK Tryz.prog 41 [.ref 7001 0, I n] (lookO [(7001, bxl00Src s)]) true (Bv v) (lookO [(7001, bxl00Src s')]) := by
  have hh : ∃ r : Bool × l00Src, ((okSrc r.2) ∧ (r.2.code = s.code) ∧ (s.atx + 0 ≤ r.2.atx ∧ r.2.atx ≤ s.atx + 2) ∧ (True)) ∧ CallOK Tryz.prog 41 [.ref 7001 0, I n] (lookO [(7001, bxl00Src s)]) true (Bv r.1) (lookO [(7001, bxl00Src r.2)]) := by
    refine fn_okX (Φ := fun r : Bool × l00Src => (okSrc r.2) ∧ (r.2.code = s.code) ∧ (s.atx + 0 ≤ r.2.atx ∧ r.2.atx ≤ s.atx + 2) ∧ (True)) [(7001, bxl00Src s)] (fun r => [(7001, bxl00Src r.2)]) (fn := Tryz.f41) (nt := 9) Tryz.func41 rfl rfl (args := [.ref 7001 0, I n]) rfl (allcons (.inr trivial) (allcons (.inl ⟨rfl, trivial⟩) allnil)) (res := fun r => Bv r.1) ?_
    refine x_seq ?_
    refine x_reg [] [0, 1] [7001] [.ref 7001 0, I n] [some (bxl00Src s)] [] (by kernel_rfl) trivial ?_
    refine xe_then ?_
    refine x_seq ?_
    obtain ⟨v_1, s'_1, hx1_0, hx1_1, hx1_2, hx1_3, hc1⟩ := pick_ok s n (by first | assumption | (simp only [okSrc] at *; simp_all; done)) (by omega)
    refine x_reg [(2, .lend [(7001, bxl00Src s, bxl00Src s'_1)] [] [(true, .ref 7001 0), (true, I n)] true (I v_1))] [4] [7001] [Bv (decide (v_1 = 0))] [some (bxl00Src s'_1)] [CallOK Tryz.prog 39 [.ref 7001 0, I n] (lookO [(7001, bxl00Src s)]) true (I v_1) (lookO [(7001, bxl00Src s'_1)]) ∧ ((.ref 7001 0 : AV) = .ref 7001 0) ∧ ((I n : AV) = I n) ∧ (((bxl00Src s : Ob) = bxl00Src s ∨ obLe noOb true (bxl00Src s) (bxl00Src s)) ∧ taggedO false (bxl00Src s)) ∧ True] (by kernel_rfl) ⟨⟨hc1, rfl, rfl, ⟨.inl rfl, (by simp [taggedO, taggedL, tagged, tagU8])⟩, trivial⟩, trivial⟩ ?_
    refine xe_then ?_
    refine x_ret ?_
    refine xe_end (decide (v_1 = 0), s'_1) (show (okSrc s'_1) ∧ (s'_1.code = s.code) ∧ (s.atx + 0 ≤ s'_1.atx ∧ s'_1.atx ≤ s.atx + 2) ∧ (True) from ⟨(by first | omega | rfl | assumption | (dsimp only; first | omega | rfl | assumption) | (simp only [*]; done) | (simp_all; done)), (by first | omega | rfl | assumption | (dsimp only; first | omega | rfl | assumption) | (simp only [*]; done) | (simp_all; done)), (by first | omega | rfl | assumption | (dsimp only; first | omega | rfl | assumption) | (simp only [*]; done) | (simp_all; done)), trivial⟩) (⟨.inl rfl, trivial⟩) (Bv (decide (v_1 = 0))) (by kernel_rfl) (.inl rfl) (fun _ => rfl) (fun _ => trivial)
  obtain ⟨⟨v, s'⟩, ⟨hh0, hh1, hh2, _⟩, hc⟩ := hh
  exact ⟨v, s', hh0, hh1, hh2, hc⟩


-- spec.l23Ask
theorem l23Ask_ok (code : List Int) (hc : (∀ j, j < code.length → 0 ≤ at_ code j ∧ at_ code j ≤ 255) ∧ code.length ≤ 4611686018427387904) : ∃ (l : CellRow) (e : Edit) (v : ByteArray), (l.Text.size ≤ 300) ∧ (v.size ≤ 16) ∧ Con Tryz.prog 51 [slU8 false code] true (.tup [agCellRow l, agEdit e, Sv v]) := by
  have hh : ∃ r : CellRow × Edit × ByteArray, ((r.1.Text.size ≤ 300) ∧ (r.2.2.size ≤ 16) ∧ (True)) ∧ CallOK Tryz.prog 51 [slU8 false code] (lookO []) true (.tup [agCellRow r.1, agEdit r.2.1, Sv r.2.2]) (lookO []) := by
    refine fn_okX (Φ := fun r : CellRow × Edit × ByteArray => (r.1.Text.size ≤ 300) ∧ (r.2.2.size ≤ 16) ∧ (True)) [] (fun r => []) (fn := Tryz.f51) (nt := 77) Tryz.func51 rfl rfl (args := [slU8 false code]) rfl (allcons (.inl ⟨rfl, tagU8 false _⟩) allnil) (res := fun r => .tup [agCellRow r.1, agEdit r.2.1, Sv r.2.2]) ?_
    refine x_seq ?_
    refine x_reg [(0, .new 2), (1, .new 3)] [0, 2, 3] [2, 3] [slU8 false code, .ref 2 0, .ref 3 0] [some (.box [Sv (⟨#[]⟩ : ByteArray), I 0, I 0, I 0]), some (.box [I 0, I 0, I 0])] [] (by kernel_rfl) trivial ?_
    refine xe_then ?_
    refine x_seq ?_
    obtain ⟨s'_1, hx1_0, hc1⟩ := l00From_ok code
    have hsrc : okSrc s'_1 := ⟨by rw [hx1_0.1]; exact hc.1, by rw [hx1_0.2]; decide, by rw [hx1_0.1]; exact hc.2⟩
    have hat0 := hx1_0.2
    refine x_reg [(1, .lend [] [(7001, bxl00Src s'_1)] [(true, slU8 false code)] false (.ref 7001 0))] [2, 3, 5] [2, 3, 7001] [.ref 2 0, .ref 3 0, .ref 7001 0] [some (.box [Sv (⟨#[]⟩ : ByteArray), I 0, I 0, I 0]), some (.box [I 0, I 0, I 0]), some (bxl00Src s'_1)] [CallOK Tryz.prog 30 [slU8 false code] (lookO []) false (.ref 7001 0) (lookO [(7001, bxl00Src s'_1)]) ∧ ((slU8 false code : AV) = slU8 false code) ∧ True] (by kernel_rfl) ⟨⟨hc1, rfl, trivial⟩, trivial⟩ ?_
    refine xe_then ?_
    refine x_seq ?_
    obtain ⟨l_2, s'_2, hx2_0, hx2_1, hx2_2, hx2_3, hx2_4, hx2_5, hx2_6, hc2⟩ := l23Bent_ok s'_1 (by first | assumption | (simp only [okSrc] at *; simp_all; done)) (by omega)
    refine x_reg [(1, .lend [(7001, bxl00Src s'_1, bxl00Src s'_2)] [] [(true, .ref 7001 0)] true (agCellRow l_2)), (2, .new 6)] [2, 3, 5, 6] [2, 3, 6, 7001] [.ref 2 0, .ref 3 0, .ref 7001 0, .ref 6 0] [some (.box [Sv (⟨#[]⟩ : ByteArray), I 0, I 0, I 0]), some (.box [I 0, I 0, I 0]), some (bxCellRow l_2), some (bxl00Src s'_2)] [CallOK Tryz.prog 40 [.ref 7001 0] (lookO [(7001, bxl00Src s'_1)]) true (agCellRow l_2) (lookO [(7001, bxl00Src s'_2)]) ∧ ((.ref 7001 0 : AV) = .ref 7001 0) ∧ (((bxl00Src s'_1 : Ob) = bxl00Src s'_1 ∨ obLe noOb true (bxl00Src s'_1) (bxl00Src s'_1)) ∧ taggedO false (bxl00Src s'_1)) ∧ True] (by kernel_rfl) ⟨⟨hc2, rfl, ⟨.inl rfl, (by simp [taggedO, taggedL, tagged, tagU8])⟩, trivial⟩, trivial⟩ ?_
    refine xe_then ?_
    refine x_seq ?_
    refine x_reg [] [2, 3, 5, 6, 7] [2, 3, 6, 7001] [.ref 2 0, .ref 3 0, .ref 7001 0, .ref 6 0, I (l_2.Text.size : Int)] [some (.box [Sv (⟨#[]⟩ : ByteArray), I 0, I 0, I 0]), some (.box [I 0, I 0, I 0]), some (bxCellRow l_2), some (bxl00Src s'_2)] [] (by kernel_rfl) trivial ?_
    refine xe_then ?_
    refine x_seq ?_
    obtain ⟨v_3, s'_3, hx3_0, hx3_1, hx3_2, hx3_3, hc3⟩ := pick_ok s'_2 3 (by first | assumption | (simp only [okSrc] at *; simp_all; done)) (by omega)
    obtain ⟨v_4, s'_4, hx4_0, hx4_1, hx4_2, hx4_3, hc4⟩ := pick_ok s'_3 ((l_2.Text.size : Int) + 1) (by first | assumption | (simp only [okSrc] at *; simp_all; done)) (by omega)
    refine x_reg [(1, .lend [(7001, bxl00Src s'_2, bxl00Src s'_3)] [] [(true, .ref 7001 0), (true, I 3)] true (I v_3)), (6, .lend [(7001, bxl00Src s'_3, bxl00Src s'_4)] [] [(true, .ref 7001 0), (true, I ((l_2.Text.size : Int) + 1))] true (I v_4)), (8, .new 8)] [2, 3, 5, 6, 7, 8] [2, 3, 6, 8, 7001] [.ref 2 0, .ref 3 0, .ref 7001 0, .ref 6 0, I (l_2.Text.size : Int), .ref 8 0] [some (.box [Sv (⟨#[]⟩ : ByteArray), I 0, I 0, I 0]), some (.box [I 0, I 0, I 0]), some (bxCellRow l_2), some (.box [I (1 + v_3), I v_4, I 0]), some (bxl00Src s'_4)] [CallOK Tryz.prog 39 [.ref 7001 0, I 3] (lookO [(7001, bxl00Src s'_2)]) true (I v_3) (lookO [(7001, bxl00Src s'_3)]) ∧ ((.ref 7001 0 : AV) = .ref 7001 0) ∧ ((I 3 : AV) = I 3) ∧ (((bxl00Src s'_2 : Ob) = bxl00Src s'_2 ∨ obLe noOb true (bxl00Src s'_2) (bxl00Src s'_2)) ∧ taggedO false (bxl00Src s'_2)) ∧ True, inR .i64 (1 + v_3), inR .i64 ((l_2.Text.size : Int) + 1), CallOK Tryz.prog 39 [.ref 7001 0, I ((l_2.Text.size : Int) + 1)] (lookO [(7001, bxl00Src s'_3)]) true (I v_4) (lookO [(7001, bxl00Src s'_4)]) ∧ ((.ref 7001 0 : AV) = .ref 7001 0) ∧ ((I ((l_2.Text.size : Int) + 1) : AV) = I ((l_2.Text.size : Int) + 1)) ∧ (((bxl00Src s'_3 : Ob) = bxl00Src s'_3 ∨ obLe noOb true (bxl00Src s'_3) (bxl00Src s'_3)) ∧ taggedO false (bxl00Src s'_3)) ∧ True] (by kernel_rfl) ⟨⟨hc3, rfl, rfl, ⟨.inl rfl, (by simp [taggedO, taggedL, tagged, tagU8])⟩, trivial⟩, (inR_i64 (by omega) (by omega)), (inR_i64 (by omega) (by omega)), ⟨hc4, rfl, rfl, ⟨.inl rfl, (by simp [taggedO, taggedL, tagged, tagU8])⟩, trivial⟩, trivial⟩ ?_
    refine xe_then ?_
    refine x_seq ?_
    obtain ⟨v_5, s'_5, hx5_0, hx5_1, hx5_2, hx5_3, hc5⟩ := pick_ok s'_4 (((l_2.Text.size : Int) - v_4) + 1) (by first | assumption | (simp only [okSrc] at *; simp_all; done)) (by omega)
    refine x_reg [(8, .lend [(7001, bxl00Src s'_4, bxl00Src s'_5)] [] [(true, .ref 7001 0), (true, I (((l_2.Text.size : Int) - v_4) + 1))] true (I v_5))] [2, 3, 5, 6, 7, 8] [2, 3, 6, 8, 7001] [.ref 2 0, .ref 3 0, .ref 7001 0, .ref 6 0, I (l_2.Text.size : Int), .ref 8 0] [some (.box [Sv (⟨#[]⟩ : ByteArray), I 0, I 0, I 0]), some (.box [I 0, I 0, I 0]), some (bxCellRow l_2), some (.box [I (1 + v_3), I v_4, I (v_4 + v_5)]), some (bxl00Src s'_5)] [inR .i64 ((l_2.Text.size : Int) - v_4), inR .i64 (((l_2.Text.size : Int) - v_4) + 1), CallOK Tryz.prog 39 [.ref 7001 0, I (((l_2.Text.size : Int) - v_4) + 1)] (lookO [(7001, bxl00Src s'_4)]) true (I v_5) (lookO [(7001, bxl00Src s'_5)]) ∧ ((.ref 7001 0 : AV) = .ref 7001 0) ∧ ((I (((l_2.Text.size : Int) - v_4) + 1) : AV) = I (((l_2.Text.size : Int) - v_4) + 1)) ∧ (((bxl00Src s'_4 : Ob) = bxl00Src s'_4 ∨ obLe noOb true (bxl00Src s'_4) (bxl00Src s'_4)) ∧ taggedO false (bxl00Src s'_4)) ∧ True, inR .i64 (v_4 + v_5)] (by kernel_rfl) ⟨(inR_i64 (by omega) (by omega)), (inR_i64 (by omega) (by omega)), ⟨hc5, rfl, rfl, ⟨.inl rfl, (by simp [taggedO, taggedL, tagged, tagU8])⟩, trivial⟩, (inR_i64 (by omega) (by omega)), trivial⟩ ?_
    refine xe_then ?_
    refine x_seq ?_
    refine x_seq ?_
    by_cases h1 : (1 + v_3) = 3
    ·obtain ⟨v_6, s'_6, hx6_0, hx6_1, hx6_2, hc6⟩ := one_ok s'_5 8 (by first | assumption | (simp only [okSrc] at *; simp_all; done)) (by omega)
     rcases Bool.eq_false_or_eq_true v_6 with h2 | h2
     ·subst h2
      refine x_reg [(2, .dec true), (5, .lend [(7001, bxl00Src s'_5, bxl00Src s'_6)] [] [(true, .ref 7001 0), (true, I 8)] true (Bv true))] [2, 3, 5, 6, 7, 8, 42] [2, 3, 6, 8, 7001] [.ref 2 0, .ref 3 0, .ref 7001 0, .ref 6 0, I (l_2.Text.size : Int), .ref 8 0, Bv false] [some (.box [Sv (⟨#[]⟩ : ByteArray), I 0, I 0, I 0]), some (.box [I 0, I 0, I 0]), some (bxCellRow l_2), some (.box [I (1 + v_3), I v_4, I (v_4 + v_5)]), some (bxl00Src s'_6)] [(1 + v_3) = 3, CallOK Tryz.prog 41 [.ref 7001 0, I 8] (lookO [(7001, bxl00Src s'_5)]) true (Bv true) (lookO [(7001, bxl00Src s'_6)]) ∧ ((.ref 7001 0 : AV) = .ref 7001 0) ∧ ((I 8 : AV) = I 8) ∧ (((bxl00Src s'_5 : Ob) = bxl00Src s'_5 ∨ obLe noOb true (bxl00Src s'_5) (bxl00Src s'_5)) ∧ taggedO false (bxl00Src s'_5)) ∧ True] (by kernel_rfl) ⟨h1, ⟨hc6, rfl, rfl, ⟨.inl rfl, (by simp [taggedO, taggedL, tagged, tagU8])⟩, trivial⟩, trivial⟩ ?_
      refine xe_then ?_
      refine x_false rfl ?_
      refine x_skip ?_
      refine xe_then ?_
      refine x_seq ?_
      refine x_seq ?_
      obtain ⟨v_7, s'_7, hx7_0, hx7_1, hx7_2, hx7_3, hc7⟩ := pick_ok s'_6 20 (by first | assumption | (simp only [okSrc] at *; simp_all; done)) (by omega)
      refine x_reg [(1, .lend [(7001, bxl00Src s'_6, bxl00Src s'_7)] [] [(true, .ref 7001 0), (true, I 20)] true (I v_7))] [2, 3, 5, 6, 7, 8, 47] [2, 3, 6, 8, 7001] [.ref 2 0, .ref 3 0, .ref 7001 0, .ref 6 0, I (l_2.Text.size : Int), .ref 8 0, I v_7] [some (.box [Sv (⟨#[]⟩ : ByteArray), I 0, I 0, I 0]), some (.box [I 0, I 0, I 0]), some (bxCellRow l_2), some (.box [I (1 + v_3), I v_4, I (v_4 + v_5)]), some (bxl00Src s'_7)] [CallOK Tryz.prog 39 [.ref 7001 0, I 20] (lookO [(7001, bxl00Src s'_6)]) true (I v_7) (lookO [(7001, bxl00Src s'_7)]) ∧ ((.ref 7001 0 : AV) = .ref 7001 0) ∧ ((I 20 : AV) = I 20) ∧ (((bxl00Src s'_6 : Ob) = bxl00Src s'_6 ∨ obLe noOb true (bxl00Src s'_6) (bxl00Src s'_6)) ∧ taggedO false (bxl00Src s'_6)) ∧ True] (by kernel_rfl) ⟨⟨hc7, rfl, rfl, ⟨.inl rfl, (by simp [taggedO, taggedL, tagged, tagU8])⟩, trivial⟩, trivial⟩ ?_
      refine xe_then ?_
      refine x_block ?_
      refine x_seq ?_
      by_cases h3 : v_7 = 0
      ·refine x_reg [(0, .dec true)] [2, 3, 5, 6, 7, 8, 47, 48] [2, 3, 6, 8, 7001] [.ref 2 0, .ref 3 0, .ref 7001 0, .ref 6 0, I (l_2.Text.size : Int), .ref 8 0, I v_7, Bv true] [some (.box [Sv (⟨#[]⟩ : ByteArray), I 0, I 0, I 0]), some (.box [I 0, I 0, I 0]), some (bxCellRow l_2), some (.box [I (1 + v_3), I v_4, I (v_4 + v_5)]), some (bxl00Src s'_7)] [v_7 = 0] (by kernel_rfl) ⟨h3, trivial⟩ ?_
       refine xe_then ?_
       refine x_true rfl ?_
       obtain ⟨v_8, s'_8, hx8_0, hx8_1, hx8_2, hx8_3, hc8⟩ := among_ok s'_7 ([0, 4]) (by first | assumption | (simp only [okSrc] at *; simp_all; done)) (by omega) (by simp)
       have ham_v_8 : v_8 = 0 ∨ v_8 = 4 := by simpa using hx8_0
       refine x_reg [(1, .new 51), (2, .lend [(7001, bxl00Src s'_7, bxl00Src s'_8)] [] [(true, .ref 7001 0), (false, slI false ([0, 4]))] true (I v_8))] [2, 3, 5, 6, 8] [2, 3, 6, 8, 7001] [.ref 2 0, .ref 3 0, .ref 7001 0, .ref 6 0, .ref 8 0] [some (.box [Sv (⟨#[]⟩ : ByteArray), I 0, I 0, I 0]), some (.box [I 0, I 0, I 0]), some (bxCellRow l_2), some (.box [I v_8, I v_4, I (v_4 + v_5)]), some (bxl00Src s'_8)] [CallOK Tryz.prog 42 [.ref 7001 0, slI false ([0, 4])] (lookO [(7001, bxl00Src s'_7)]) true (I v_8) (lookO [(7001, bxl00Src s'_8)]) ∧ ((.ref 7001 0 : AV) = .ref 7001 0) ∧ ((false = true → true = true) ∧ 1 = 1 ∧ 2 = (([0, 4]).length) ∧ ∀ i, i < (([0, 4]).length) → (litF [I 0, I 4] 1) i = (fI ([0, 4])) i ∨ (AV.idsL ((fI ([0, 4])) i) = [] ∧ leL (fun _ => none) false ((litF [I 0, I 4] 1) i) ((fI ([0, 4])) i))) ∧ (((bxl00Src s'_7 : Ob) = bxl00Src s'_7 ∨ obLe noOb true (bxl00Src s'_7) (bxl00Src s'_7)) ∧ taggedO false (bxl00Src s'_7)) ∧ True] (by kernel_rfl) ⟨⟨hc8, rfl, ⟨(fun h => by cases h), rfl, (by first | rfl | (simp; done) | (simp; omega) | omega), fun i hi => .inl (match i, hi with | 0, _ => rfl | 1, _ => rfl | (i + 2), h => absurd h (by simp))⟩, ⟨.inl rfl, (by simp [taggedO, taggedL, tagged, tagU8])⟩, trivial⟩, trivial⟩ ?_
       refine xe_block 0 ?_
       refine xe_then ?_
       refine x_seq ?_
       obtain ⟨v_9, s'_9, hx9_0, hx9_1, hx9_2, hx9_3, hc9⟩ := text_ok s'_8 ([(⟨#[]⟩ : ByteArray), (⟨#[110, 101, 119]⟩ : ByteArray), (⟨#[120]⟩ : ByteArray), (⟨#[116, 119, 111, 32, 119, 111, 114, 100, 115]⟩ : ByteArray), (⟨#[55]⟩ : ByteArray), (⟨#[65]⟩ : ByteArray)]) (by first | assumption | (simp only [okSrc] at *; simp_all; done)) (by omega) (by decide)
       refine x_reg [(3, .new 75), (4, .lend [(7001, bxl00Src s'_8, bxl00Src s'_9)] [] [(true, .ref 7001 0), (false, slS false ([(⟨#[]⟩ : ByteArray), (⟨#[110, 101, 119]⟩ : ByteArray), (⟨#[120]⟩ : ByteArray), (⟨#[116, 119, 111, 32, 119, 111, 114, 100, 115]⟩ : ByteArray), (⟨#[55]⟩ : ByteArray), (⟨#[65]⟩ : ByteArray)]))] true (Sv v_9))] [2, 3, 4] [2, 3] [.ref 2 0, .ref 3 0, Sv v_9] [some (bxCellRow l_2), some (.box [I v_8, I v_4, I (v_4 + v_5)])] [CallOK Tryz.prog 58 [.ref 7001 0, slS false ([(⟨#[]⟩ : ByteArray), (⟨#[110, 101, 119]⟩ : ByteArray), (⟨#[120]⟩ : ByteArray), (⟨#[116, 119, 111, 32, 119, 111, 114, 100, 115]⟩ : ByteArray), (⟨#[55]⟩ : ByteArray), (⟨#[65]⟩ : ByteArray)])] (lookO [(7001, bxl00Src s'_8)]) true (Sv v_9) (lookO [(7001, bxl00Src s'_9)]) ∧ ((.ref 7001 0 : AV) = .ref 7001 0) ∧ ((false = true → true = true) ∧ 1 = 1 ∧ 6 = (([(⟨#[]⟩ : ByteArray), (⟨#[110, 101, 119]⟩ : ByteArray), (⟨#[120]⟩ : ByteArray), (⟨#[116, 119, 111, 32, 119, 111, 114, 100, 115]⟩ : ByteArray), (⟨#[55]⟩ : ByteArray), (⟨#[65]⟩ : ByteArray)]).length) ∧ ∀ i, i < (([(⟨#[]⟩ : ByteArray), (⟨#[110, 101, 119]⟩ : ByteArray), (⟨#[120]⟩ : ByteArray), (⟨#[116, 119, 111, 32, 119, 111, 114, 100, 115]⟩ : ByteArray), (⟨#[55]⟩ : ByteArray), (⟨#[65]⟩ : ByteArray)]).length) → (litF [Sv (⟨#[]⟩ : ByteArray), Sv (⟨#[110, 101, 119]⟩ : ByteArray), Sv (⟨#[120]⟩ : ByteArray), Sv (⟨#[116, 119, 111, 32, 119, 111, 114, 100, 115]⟩ : ByteArray), Sv (⟨#[55]⟩ : ByteArray), Sv (⟨#[65]⟩ : ByteArray)] 1) i = (fS ([(⟨#[]⟩ : ByteArray), (⟨#[110, 101, 119]⟩ : ByteArray), (⟨#[120]⟩ : ByteArray), (⟨#[116, 119, 111, 32, 119, 111, 114, 100, 115]⟩ : ByteArray), (⟨#[55]⟩ : ByteArray), (⟨#[65]⟩ : ByteArray)])) i ∨ (AV.idsL ((fS ([(⟨#[]⟩ : ByteArray), (⟨#[110, 101, 119]⟩ : ByteArray), (⟨#[120]⟩ : ByteArray), (⟨#[116, 119, 111, 32, 119, 111, 114, 100, 115]⟩ : ByteArray), (⟨#[55]⟩ : ByteArray), (⟨#[65]⟩ : ByteArray)])) i) = [] ∧ leL (fun _ => none) false ((litF [Sv (⟨#[]⟩ : ByteArray), Sv (⟨#[110, 101, 119]⟩ : ByteArray), Sv (⟨#[120]⟩ : ByteArray), Sv (⟨#[116, 119, 111, 32, 119, 111, 114, 100, 115]⟩ : ByteArray), Sv (⟨#[55]⟩ : ByteArray), Sv (⟨#[65]⟩ : ByteArray)] 1) i) ((fS ([(⟨#[]⟩ : ByteArray), (⟨#[110, 101, 119]⟩ : ByteArray), (⟨#[120]⟩ : ByteArray), (⟨#[116, 119, 111, 32, 119, 111, 114, 100, 115]⟩ : ByteArray), (⟨#[55]⟩ : ByteArray), (⟨#[65]⟩ : ByteArray)])) i))) ∧ (((bxl00Src s'_8 : Ob) = bxl00Src s'_8 ∨ obLe noOb true (bxl00Src s'_8) (bxl00Src s'_8)) ∧ taggedO false (bxl00Src s'_8)) ∧ True] (by kernel_rfl) ⟨⟨hc9, rfl, ⟨(fun h => by cases h), rfl, (by first | rfl | (simp; done) | (simp; omega) | omega), fun i hi => .inl (match i, hi with | 0, _ => rfl | 1, _ => rfl | 2, _ => rfl | 3, _ => rfl | 4, _ => rfl | 5, _ => rfl | (i + 6), h => absurd h (by simp))⟩, ⟨.inl rfl, (by simp [taggedO, taggedL, tagged, tagU8])⟩, trivial⟩, trivial⟩ ?_
       refine xe_then ?_
       refine x_ret ?_
       refine xe_end (l_2, (Edit.mk v_8 v_4 (v_4 + v_5)), v_9) (show (l_2.Text.size ≤ 300) ∧ (v_9.size ≤ 16) ∧ (True) from ⟨(by first | omega | assumption | rfl | (simp; done) | (simp; omega) | (simp_all; done)), (by first | omega | assumption | rfl | (simp; done) | (simp; omega) | (simp_all; done)), trivial⟩) (trivial) (.tup [agCellRow l_2, .agg [I v_8, I v_4, I (v_4 + v_5)], Sv v_9]) (by kernel_rfl) (.inl rfl) (fun _ => rfl) (fun _ => (by simp [tagged, taggedL]))
      ·refine x_reg [(0, .dec false)] [2, 3, 5, 6, 7, 8, 47, 48] [2, 3, 6, 8, 7001] [.ref 2 0, .ref 3 0, .ref 7001 0, .ref 6 0, I (l_2.Text.size : Int), .ref 8 0, I v_7, Bv false] [some (.box [Sv (⟨#[]⟩ : ByteArray), I 0, I 0, I 0]), some (.box [I 0, I 0, I 0]), some (bxCellRow l_2), some (.box [I (1 + v_3), I v_4, I (v_4 + v_5)]), some (bxl00Src s'_7)] [¬ (v_7 = 0)] (by kernel_rfl) ⟨h3, trivial⟩ ?_
       refine xe_then ?_
       refine x_false rfl ?_
       refine x_seq ?_
       by_cases h4 : v_7 = 1
       ·refine x_reg [(0, .dec true)] [2, 3, 5, 6, 7, 8, 47, 54] [2, 3, 6, 8, 7001] [.ref 2 0, .ref 3 0, .ref 7001 0, .ref 6 0, I (l_2.Text.size : Int), .ref 8 0, I v_7, Bv true] [some (.box [Sv (⟨#[]⟩ : ByteArray), I 0, I 0, I 0]), some (.box [I 0, I 0, I 0]), some (bxCellRow l_2), some (.box [I (1 + v_3), I v_4, I (v_4 + v_5)]), some (bxl00Src s'_7)] [v_7 = 1] (by kernel_rfl) ⟨h4, trivial⟩ ?_
        refine xe_then ?_
        refine x_true rfl ?_
        obtain ⟨v_10, s'_10, hx10_0, hx10_1, hx10_2, hx10_3, hc10⟩ := among_ok s'_7 ([(-1), (l_2.Text.size : Int), ((l_2.Text.size : Int) + 1)]) (by first | assumption | (simp only [okSrc] at *; simp_all; done)) (by omega) (by simp)
        have ham_v_10 : v_10 = (-1) ∨ v_10 = (l_2.Text.size : Int) ∨ v_10 = ((l_2.Text.size : Int) + 1) := by simpa using hx10_0
        refine x_reg [(4, .new 60), (5, .lend [(7001, bxl00Src s'_7, bxl00Src s'_10)] [] [(true, .ref 7001 0), (false, slI false ([(-1), (l_2.Text.size : Int), ((l_2.Text.size : Int) + 1)]))] true (I v_10))] [2, 3, 5, 6, 8] [2, 3, 6, 8, 7001] [.ref 2 0, .ref 3 0, .ref 7001 0, .ref 6 0, .ref 8 0] [some (.box [Sv (⟨#[]⟩ : ByteArray), I 0, I 0, I 0]), some (.box [I 0, I 0, I 0]), some (bxCellRow l_2), some (.box [I (1 + v_3), I v_10, I (v_4 + v_5)]), some (bxl00Src s'_10)] [inR .i64 ((l_2.Text.size : Int) + 1), CallOK Tryz.prog 42 [.ref 7001 0, slI false ([(-1), (l_2.Text.size : Int), ((l_2.Text.size : Int) + 1)])] (lookO [(7001, bxl00Src s'_7)]) true (I v_10) (lookO [(7001, bxl00Src s'_10)]) ∧ ((.ref 7001 0 : AV) = .ref 7001 0) ∧ ((false = true → true = true) ∧ 1 = 1 ∧ 3 = (([(-1), (l_2.Text.size : Int), ((l_2.Text.size : Int) + 1)]).length) ∧ ∀ i, i < (([(-1), (l_2.Text.size : Int), ((l_2.Text.size : Int) + 1)]).length) → (litF [I (-1), I (l_2.Text.size : Int), I ((l_2.Text.size : Int) + 1)] 1) i = (fI ([(-1), (l_2.Text.size : Int), ((l_2.Text.size : Int) + 1)])) i ∨ (AV.idsL ((fI ([(-1), (l_2.Text.size : Int), ((l_2.Text.size : Int) + 1)])) i) = [] ∧ leL (fun _ => none) false ((litF [I (-1), I (l_2.Text.size : Int), I ((l_2.Text.size : Int) + 1)] 1) i) ((fI ([(-1), (l_2.Text.size : Int), ((l_2.Text.size : Int) + 1)])) i))) ∧ (((bxl00Src s'_7 : Ob) = bxl00Src s'_7 ∨ obLe noOb true (bxl00Src s'_7) (bxl00Src s'_7)) ∧ taggedO false (bxl00Src s'_7)) ∧ True] (by kernel_rfl) ⟨(inR_i64 (by omega) (by omega)), ⟨hc10, rfl, ⟨(fun h => by cases h), rfl, (by first | rfl | (simp; done) | (simp; omega) | omega), fun i hi => .inl (match i, hi with | 0, _ => rfl | 1, _ => rfl | 2, _ => rfl | (i + 3), h => absurd h (by simp))⟩, ⟨.inl rfl, (by simp [taggedO, taggedL, tagged, tagU8])⟩, trivial⟩, trivial⟩ ?_
        refine xe_block 0 ?_
        refine xe_then ?_
        refine x_seq ?_
        obtain ⟨v_11, s'_11, hx11_0, hx11_1, hx11_2, hx11_3, hc11⟩ := text_ok s'_10 ([(⟨#[]⟩ : ByteArray), (⟨#[110, 101, 119]⟩ : ByteArray), (⟨#[120]⟩ : ByteArray), (⟨#[116, 119, 111, 32, 119, 111, 114, 100, 115]⟩ : ByteArray), (⟨#[55]⟩ : ByteArray), (⟨#[65]⟩ : ByteArray)]) (by first | assumption | (simp only [okSrc] at *; simp_all; done)) (by omega) (by decide)
        refine x_reg [(3, .new 75), (4, .lend [(7001, bxl00Src s'_10, bxl00Src s'_11)] [] [(true, .ref 7001 0), (false, slS false ([(⟨#[]⟩ : ByteArray), (⟨#[110, 101, 119]⟩ : ByteArray), (⟨#[120]⟩ : ByteArray), (⟨#[116, 119, 111, 32, 119, 111, 114, 100, 115]⟩ : ByteArray), (⟨#[55]⟩ : ByteArray), (⟨#[65]⟩ : ByteArray)]))] true (Sv v_11))] [2, 3, 4] [2, 3] [.ref 2 0, .ref 3 0, Sv v_11] [some (bxCellRow l_2), some (.box [I (1 + v_3), I v_10, I (v_4 + v_5)])] [CallOK Tryz.prog 58 [.ref 7001 0, slS false ([(⟨#[]⟩ : ByteArray), (⟨#[110, 101, 119]⟩ : ByteArray), (⟨#[120]⟩ : ByteArray), (⟨#[116, 119, 111, 32, 119, 111, 114, 100, 115]⟩ : ByteArray), (⟨#[55]⟩ : ByteArray), (⟨#[65]⟩ : ByteArray)])] (lookO [(7001, bxl00Src s'_10)]) true (Sv v_11) (lookO [(7001, bxl00Src s'_11)]) ∧ ((.ref 7001 0 : AV) = .ref 7001 0) ∧ ((false = true → true = true) ∧ 1 = 1 ∧ 6 = (([(⟨#[]⟩ : ByteArray), (⟨#[110, 101, 119]⟩ : ByteArray), (⟨#[120]⟩ : ByteArray), (⟨#[116, 119, 111, 32, 119, 111, 114, 100, 115]⟩ : ByteArray), (⟨#[55]⟩ : ByteArray), (⟨#[65]⟩ : ByteArray)]).length) ∧ ∀ i, i < (([(⟨#[]⟩ : ByteArray), (⟨#[110, 101, 119]⟩ : ByteArray), (⟨#[120]⟩ : ByteArray), (⟨#[116, 119, 111, 32, 119, 111, 114, 100, 115]⟩ : ByteArray), (⟨#[55]⟩ : ByteArray), (⟨#[65]⟩ : ByteArray)]).length) → (litF [Sv (⟨#[]⟩ : ByteArray), Sv (⟨#[110, 101, 119]⟩ : ByteArray), Sv (⟨#[120]⟩ : ByteArray), Sv (⟨#[116, 119, 111, 32, 119, 111, 114, 100, 115]⟩ : ByteArray), Sv (⟨#[55]⟩ : ByteArray), Sv (⟨#[65]⟩ : ByteArray)] 1) i = (fS ([(⟨#[]⟩ : ByteArray), (⟨#[110, 101, 119]⟩ : ByteArray), (⟨#[120]⟩ : ByteArray), (⟨#[116, 119, 111, 32, 119, 111, 114, 100, 115]⟩ : ByteArray), (⟨#[55]⟩ : ByteArray), (⟨#[65]⟩ : ByteArray)])) i ∨ (AV.idsL ((fS ([(⟨#[]⟩ : ByteArray), (⟨#[110, 101, 119]⟩ : ByteArray), (⟨#[120]⟩ : ByteArray), (⟨#[116, 119, 111, 32, 119, 111, 114, 100, 115]⟩ : ByteArray), (⟨#[55]⟩ : ByteArray), (⟨#[65]⟩ : ByteArray)])) i) = [] ∧ leL (fun _ => none) false ((litF [Sv (⟨#[]⟩ : ByteArray), Sv (⟨#[110, 101, 119]⟩ : ByteArray), Sv (⟨#[120]⟩ : ByteArray), Sv (⟨#[116, 119, 111, 32, 119, 111, 114, 100, 115]⟩ : ByteArray), Sv (⟨#[55]⟩ : ByteArray), Sv (⟨#[65]⟩ : ByteArray)] 1) i) ((fS ([(⟨#[]⟩ : ByteArray), (⟨#[110, 101, 119]⟩ : ByteArray), (⟨#[120]⟩ : ByteArray), (⟨#[116, 119, 111, 32, 119, 111, 114, 100, 115]⟩ : ByteArray), (⟨#[55]⟩ : ByteArray), (⟨#[65]⟩ : ByteArray)])) i))) ∧ (((bxl00Src s'_10 : Ob) = bxl00Src s'_10 ∨ obLe noOb true (bxl00Src s'_10) (bxl00Src s'_10)) ∧ taggedO false (bxl00Src s'_10)) ∧ True] (by kernel_rfl) ⟨⟨hc11, rfl, ⟨(fun h => by cases h), rfl, (by first | rfl | (simp; done) | (simp; omega) | omega), fun i hi => .inl (match i, hi with | 0, _ => rfl | 1, _ => rfl | 2, _ => rfl | 3, _ => rfl | 4, _ => rfl | 5, _ => rfl | (i + 6), h => absurd h (by simp))⟩, ⟨.inl rfl, (by simp [taggedO, taggedL, tagged, tagU8])⟩, trivial⟩, trivial⟩ ?_
        refine xe_then ?_
        refine x_ret ?_
        refine xe_end (l_2, (Edit.mk (1 + v_3) v_10 (v_4 + v_5)), v_11) (show (l_2.Text.size ≤ 300) ∧ (v_11.size ≤ 16) ∧ (True) from ⟨(by first | omega | assumption | rfl | (simp; done) | (simp; omega) | (simp_all; done)), (by first | omega | assumption | rfl | (simp; done) | (simp; omega) | (simp_all; done)), trivial⟩) (trivial) (.tup [agCellRow l_2, .agg [I (1 + v_3), I v_10, I (v_4 + v_5)], Sv v_11]) (by kernel_rfl) (.inl rfl) (fun _ => rfl) (fun _ => (by simp [tagged, taggedL]))
       ·refine x_reg [(0, .dec false)] [2, 3, 5, 6, 7, 8, 47, 54] [2, 3, 6, 8, 7001] [.ref 2 0, .ref 3 0, .ref 7001 0, .ref 6 0, I (l_2.Text.size : Int), .ref 8 0, I v_7, Bv false] [some (.box [Sv (⟨#[]⟩ : ByteArray), I 0, I 0, I 0]), some (.box [I 0, I 0, I 0]), some (bxCellRow l_2), some (.box [I (1 + v_3), I v_4, I (v_4 + v_5)]), some (bxl00Src s'_7)] [¬ (v_7 = 1)] (by kernel_rfl) ⟨h4, trivial⟩ ?_
        refine xe_then ?_
        refine x_false rfl ?_
        refine x_seq ?_
        by_cases h5 : v_7 = 2
        ·refine x_reg [(0, .dec true)] [2, 3, 5, 6, 7, 8, 63] [2, 3, 6, 8, 7001] [.ref 2 0, .ref 3 0, .ref 7001 0, .ref 6 0, I (l_2.Text.size : Int), .ref 8 0, Bv true] [some (.box [Sv (⟨#[]⟩ : ByteArray), I 0, I 0, I 0]), some (.box [I 0, I 0, I 0]), some (bxCellRow l_2), some (.box [I (1 + v_3), I v_4, I (v_4 + v_5)]), some (bxl00Src s'_7)] [v_7 = 2] (by kernel_rfl) ⟨h5, trivial⟩ ?_
         refine xe_then ?_
         refine x_true rfl ?_
         obtain ⟨v_12, s'_12, hx12_0, hx12_1, hx12_2, hx12_3, hc12⟩ := among_ok s'_7 ([(-1), (l_2.Text.size : Int), ((l_2.Text.size : Int) + 1)]) (by first | assumption | (simp only [okSrc] at *; simp_all; done)) (by omega) (by simp)
         have ham_v_12 : v_12 = (-1) ∨ v_12 = (l_2.Text.size : Int) ∨ v_12 = ((l_2.Text.size : Int) + 1) := by simpa using hx12_0
         refine x_reg [(4, .new 69), (5, .lend [(7001, bxl00Src s'_7, bxl00Src s'_12)] [] [(true, .ref 7001 0), (false, slI false ([(-1), (l_2.Text.size : Int), ((l_2.Text.size : Int) + 1)]))] true (I v_12))] [2, 3, 5, 6, 8] [2, 3, 6, 8, 7001] [.ref 2 0, .ref 3 0, .ref 7001 0, .ref 6 0, .ref 8 0] [some (.box [Sv (⟨#[]⟩ : ByteArray), I 0, I 0, I 0]), some (.box [I 0, I 0, I 0]), some (bxCellRow l_2), some (.box [I (1 + v_3), I v_4, I v_12]), some (bxl00Src s'_12)] [inR .i64 ((l_2.Text.size : Int) + 1), CallOK Tryz.prog 42 [.ref 7001 0, slI false ([(-1), (l_2.Text.size : Int), ((l_2.Text.size : Int) + 1)])] (lookO [(7001, bxl00Src s'_7)]) true (I v_12) (lookO [(7001, bxl00Src s'_12)]) ∧ ((.ref 7001 0 : AV) = .ref 7001 0) ∧ ((false = true → true = true) ∧ 1 = 1 ∧ 3 = (([(-1), (l_2.Text.size : Int), ((l_2.Text.size : Int) + 1)]).length) ∧ ∀ i, i < (([(-1), (l_2.Text.size : Int), ((l_2.Text.size : Int) + 1)]).length) → (litF [I (-1), I (l_2.Text.size : Int), I ((l_2.Text.size : Int) + 1)] 1) i = (fI ([(-1), (l_2.Text.size : Int), ((l_2.Text.size : Int) + 1)])) i ∨ (AV.idsL ((fI ([(-1), (l_2.Text.size : Int), ((l_2.Text.size : Int) + 1)])) i) = [] ∧ leL (fun _ => none) false ((litF [I (-1), I (l_2.Text.size : Int), I ((l_2.Text.size : Int) + 1)] 1) i) ((fI ([(-1), (l_2.Text.size : Int), ((l_2.Text.size : Int) + 1)])) i))) ∧ (((bxl00Src s'_7 : Ob) = bxl00Src s'_7 ∨ obLe noOb true (bxl00Src s'_7) (bxl00Src s'_7)) ∧ taggedO false (bxl00Src s'_7)) ∧ True] (by kernel_rfl) ⟨(inR_i64 (by omega) (by omega)), ⟨hc12, rfl, ⟨(fun h => by cases h), rfl, (by first | rfl | (simp; done) | (simp; omega) | omega), fun i hi => .inl (match i, hi with | 0, _ => rfl | 1, _ => rfl | 2, _ => rfl | (i + 3), h => absurd h (by simp))⟩, ⟨.inl rfl, (by simp [taggedO, taggedL, tagged, tagU8])⟩, trivial⟩, trivial⟩ ?_
         refine xe_block 0 ?_
         refine xe_then ?_
         refine x_seq ?_
         obtain ⟨v_13, s'_13, hx13_0, hx13_1, hx13_2, hx13_3, hc13⟩ := text_ok s'_12 ([(⟨#[]⟩ : ByteArray), (⟨#[110, 101, 119]⟩ : ByteArray), (⟨#[120]⟩ : ByteArray), (⟨#[116, 119, 111, 32, 119, 111, 114, 100, 115]⟩ : ByteArray), (⟨#[55]⟩ : ByteArray), (⟨#[65]⟩ : ByteArray)]) (by first | assumption | (simp only [okSrc] at *; simp_all; done)) (by omega) (by decide)
         refine x_reg [(3, .new 75), (4, .lend [(7001, bxl00Src s'_12, bxl00Src s'_13)] [] [(true, .ref 7001 0), (false, slS false ([(⟨#[]⟩ : ByteArray), (⟨#[110, 101, 119]⟩ : ByteArray), (⟨#[120]⟩ : ByteArray), (⟨#[116, 119, 111, 32, 119, 111, 114, 100, 115]⟩ : ByteArray), (⟨#[55]⟩ : ByteArray), (⟨#[65]⟩ : ByteArray)]))] true (Sv v_13))] [2, 3, 4] [2, 3] [.ref 2 0, .ref 3 0, Sv v_13] [some (bxCellRow l_2), some (.box [I (1 + v_3), I v_4, I v_12])] [CallOK Tryz.prog 58 [.ref 7001 0, slS false ([(⟨#[]⟩ : ByteArray), (⟨#[110, 101, 119]⟩ : ByteArray), (⟨#[120]⟩ : ByteArray), (⟨#[116, 119, 111, 32, 119, 111, 114, 100, 115]⟩ : ByteArray), (⟨#[55]⟩ : ByteArray), (⟨#[65]⟩ : ByteArray)])] (lookO [(7001, bxl00Src s'_12)]) true (Sv v_13) (lookO [(7001, bxl00Src s'_13)]) ∧ ((.ref 7001 0 : AV) = .ref 7001 0) ∧ ((false = true → true = true) ∧ 1 = 1 ∧ 6 = (([(⟨#[]⟩ : ByteArray), (⟨#[110, 101, 119]⟩ : ByteArray), (⟨#[120]⟩ : ByteArray), (⟨#[116, 119, 111, 32, 119, 111, 114, 100, 115]⟩ : ByteArray), (⟨#[55]⟩ : ByteArray), (⟨#[65]⟩ : ByteArray)]).length) ∧ ∀ i, i < (([(⟨#[]⟩ : ByteArray), (⟨#[110, 101, 119]⟩ : ByteArray), (⟨#[120]⟩ : ByteArray), (⟨#[116, 119, 111, 32, 119, 111, 114, 100, 115]⟩ : ByteArray), (⟨#[55]⟩ : ByteArray), (⟨#[65]⟩ : ByteArray)]).length) → (litF [Sv (⟨#[]⟩ : ByteArray), Sv (⟨#[110, 101, 119]⟩ : ByteArray), Sv (⟨#[120]⟩ : ByteArray), Sv (⟨#[116, 119, 111, 32, 119, 111, 114, 100, 115]⟩ : ByteArray), Sv (⟨#[55]⟩ : ByteArray), Sv (⟨#[65]⟩ : ByteArray)] 1) i = (fS ([(⟨#[]⟩ : ByteArray), (⟨#[110, 101, 119]⟩ : ByteArray), (⟨#[120]⟩ : ByteArray), (⟨#[116, 119, 111, 32, 119, 111, 114, 100, 115]⟩ : ByteArray), (⟨#[55]⟩ : ByteArray), (⟨#[65]⟩ : ByteArray)])) i ∨ (AV.idsL ((fS ([(⟨#[]⟩ : ByteArray), (⟨#[110, 101, 119]⟩ : ByteArray), (⟨#[120]⟩ : ByteArray), (⟨#[116, 119, 111, 32, 119, 111, 114, 100, 115]⟩ : ByteArray), (⟨#[55]⟩ : ByteArray), (⟨#[65]⟩ : ByteArray)])) i) = [] ∧ leL (fun _ => none) false ((litF [Sv (⟨#[]⟩ : ByteArray), Sv (⟨#[110, 101, 119]⟩ : ByteArray), Sv (⟨#[120]⟩ : ByteArray), Sv (⟨#[116, 119, 111, 32, 119, 111, 114, 100, 115]⟩ : ByteArray), Sv (⟨#[55]⟩ : ByteArray), Sv (⟨#[65]⟩ : ByteArray)] 1) i) ((fS ([(⟨#[]⟩ : ByteArray), (⟨#[110, 101, 119]⟩ : ByteArray), (⟨#[120]⟩ : ByteArray), (⟨#[116, 119, 111, 32, 119, 111, 114, 100, 115]⟩ : ByteArray), (⟨#[55]⟩ : ByteArray), (⟨#[65]⟩ : ByteArray)])) i))) ∧ (((bxl00Src s'_12 : Ob) = bxl00Src s'_12 ∨ obLe noOb true (bxl00Src s'_12) (bxl00Src s'_12)) ∧ taggedO false (bxl00Src s'_12)) ∧ True] (by kernel_rfl) ⟨⟨hc13, rfl, ⟨(fun h => by cases h), rfl, (by first | rfl | (simp; done) | (simp; omega) | omega), fun i hi => .inl (match i, hi with | 0, _ => rfl | 1, _ => rfl | 2, _ => rfl | 3, _ => rfl | 4, _ => rfl | 5, _ => rfl | (i + 6), h => absurd h (by simp))⟩, ⟨.inl rfl, (by simp [taggedO, taggedL, tagged, tagU8])⟩, trivial⟩, trivial⟩ ?_
         refine xe_then ?_
         refine x_ret ?_
         refine xe_end (l_2, (Edit.mk (1 + v_3) v_4 v_12), v_13) (show (l_2.Text.size ≤ 300) ∧ (v_13.size ≤ 16) ∧ (True) from ⟨(by first | omega | assumption | rfl | (simp; done) | (simp; omega) | (simp_all; done)), (by first | omega | assumption | rfl | (simp; done) | (simp; omega) | (simp_all; done)), trivial⟩) (trivial) (.tup [agCellRow l_2, .agg [I (1 + v_3), I v_4, I v_12], Sv v_13]) (by kernel_rfl) (.inl rfl) (fun _ => rfl) (fun _ => (by simp [tagged, taggedL]))
        ·refine x_reg [(0, .dec false)] [2, 3, 5, 6, 7, 8, 63] [2, 3, 6, 8, 7001] [.ref 2 0, .ref 3 0, .ref 7001 0, .ref 6 0, I (l_2.Text.size : Int), .ref 8 0, Bv false] [some (.box [Sv (⟨#[]⟩ : ByteArray), I 0, I 0, I 0]), some (.box [I 0, I 0, I 0]), some (bxCellRow l_2), some (.box [I (1 + v_3), I v_4, I (v_4 + v_5)]), some (bxl00Src s'_7)] [¬ (v_7 = 2)] (by kernel_rfl) ⟨h5, trivial⟩ ?_
         refine xe_then ?_
         refine x_false rfl ?_
         refine x_skip ?_
         refine xe_block 0 ?_
         refine xe_then ?_
         refine x_seq ?_
         obtain ⟨v_14, s'_14, hx14_0, hx14_1, hx14_2, hx14_3, hc14⟩ := text_ok s'_7 ([(⟨#[]⟩ : ByteArray), (⟨#[110, 101, 119]⟩ : ByteArray), (⟨#[120]⟩ : ByteArray), (⟨#[116, 119, 111, 32, 119, 111, 114, 100, 115]⟩ : ByteArray), (⟨#[55]⟩ : ByteArray), (⟨#[65]⟩ : ByteArray)]) (by first | assumption | (simp only [okSrc] at *; simp_all; done)) (by omega) (by decide)
         refine x_reg [(3, .new 75), (4, .lend [(7001, bxl00Src s'_7, bxl00Src s'_14)] [] [(true, .ref 7001 0), (false, slS false ([(⟨#[]⟩ : ByteArray), (⟨#[110, 101, 119]⟩ : ByteArray), (⟨#[120]⟩ : ByteArray), (⟨#[116, 119, 111, 32, 119, 111, 114, 100, 115]⟩ : ByteArray), (⟨#[55]⟩ : ByteArray), (⟨#[65]⟩ : ByteArray)]))] true (Sv v_14))] [2, 3, 4] [2, 3] [.ref 2 0, .ref 3 0, Sv v_14] [some (bxCellRow l_2), some (.box [I (1 + v_3), I v_4, I (v_4 + v_5)])] [CallOK Tryz.prog 58 [.ref 7001 0, slS false ([(⟨#[]⟩ : ByteArray), (⟨#[110, 101, 119]⟩ : ByteArray), (⟨#[120]⟩ : ByteArray), (⟨#[116, 119, 111, 32, 119, 111, 114, 100, 115]⟩ : ByteArray), (⟨#[55]⟩ : ByteArray), (⟨#[65]⟩ : ByteArray)])] (lookO [(7001, bxl00Src s'_7)]) true (Sv v_14) (lookO [(7001, bxl00Src s'_14)]) ∧ ((.ref 7001 0 : AV) = .ref 7001 0) ∧ ((false = true → true = true) ∧ 1 = 1 ∧ 6 = (([(⟨#[]⟩ : ByteArray), (⟨#[110, 101, 119]⟩ : ByteArray), (⟨#[120]⟩ : ByteArray), (⟨#[116, 119, 111, 32, 119, 111, 114, 100, 115]⟩ : ByteArray), (⟨#[55]⟩ : ByteArray), (⟨#[65]⟩ : ByteArray)]).length) ∧ ∀ i, i < (([(⟨#[]⟩ : ByteArray), (⟨#[110, 101, 119]⟩ : ByteArray), (⟨#[120]⟩ : ByteArray), (⟨#[116, 119, 111, 32, 119, 111, 114, 100, 115]⟩ : ByteArray), (⟨#[55]⟩ : ByteArray), (⟨#[65]⟩ : ByteArray)]).length) → (litF [Sv (⟨#[]⟩ : ByteArray), Sv (⟨#[110, 101, 119]⟩ : ByteArray), Sv (⟨#[120]⟩ : ByteArray), Sv (⟨#[116, 119, 111, 32, 119, 111, 114, 100, 115]⟩ : ByteArray), Sv (⟨#[55]⟩ : ByteArray), Sv (⟨#[65]⟩ : ByteArray)] 1) i = (fS ([(⟨#[]⟩ : ByteArray), (⟨#[110, 101, 119]⟩ : ByteArray), (⟨#[120]⟩ : ByteArray), (⟨#[116, 119, 111, 32, 119, 111, 114, 100, 115]⟩ : ByteArray), (⟨#[55]⟩ : ByteArray), (⟨#[65]⟩ : ByteArray)])) i ∨ (AV.idsL ((fS ([(⟨#[]⟩ : ByteArray), (⟨#[110, 101, 119]⟩ : ByteArray), (⟨#[120]⟩ : ByteArray), (⟨#[116, 119, 111, 32, 119, 111, 114, 100, 115]⟩ : ByteArray), (⟨#[55]⟩ : ByteArray), (⟨#[65]⟩ : ByteArray)])) i) = [] ∧ leL (fun _ => none) false ((litF [Sv (⟨#[]⟩ : ByteArray), Sv (⟨#[110, 101, 119]⟩ : ByteArray), Sv (⟨#[120]⟩ : ByteArray), Sv (⟨#[116, 119, 111, 32, 119, 111, 114, 100, 115]⟩ : ByteArray), Sv (⟨#[55]⟩ : ByteArray), Sv (⟨#[65]⟩ : ByteArray)] 1) i) ((fS ([(⟨#[]⟩ : ByteArray), (⟨#[110, 101, 119]⟩ : ByteArray), (⟨#[120]⟩ : ByteArray), (⟨#[116, 119, 111, 32, 119, 111, 114, 100, 115]⟩ : ByteArray), (⟨#[55]⟩ : ByteArray), (⟨#[65]⟩ : ByteArray)])) i))) ∧ (((bxl00Src s'_7 : Ob) = bxl00Src s'_7 ∨ obLe noOb true (bxl00Src s'_7) (bxl00Src s'_7)) ∧ taggedO false (bxl00Src s'_7)) ∧ True] (by kernel_rfl) ⟨⟨hc14, rfl, ⟨(fun h => by cases h), rfl, (by first | rfl | (simp; done) | (simp; omega) | omega), fun i hi => .inl (match i, hi with | 0, _ => rfl | 1, _ => rfl | 2, _ => rfl | 3, _ => rfl | 4, _ => rfl | 5, _ => rfl | (i + 6), h => absurd h (by simp))⟩, ⟨.inl rfl, (by simp [taggedO, taggedL, tagged, tagU8])⟩, trivial⟩, trivial⟩ ?_
         refine xe_then ?_
         refine x_ret ?_
         refine xe_end (l_2, (Edit.mk (1 + v_3) v_4 (v_4 + v_5)), v_14) (show (l_2.Text.size ≤ 300) ∧ (v_14.size ≤ 16) ∧ (True) from ⟨(by first | omega | assumption | rfl | (simp; done) | (simp; omega) | (simp_all; done)), (by first | omega | assumption | rfl | (simp; done) | (simp; omega) | (simp_all; done)), trivial⟩) (trivial) (.tup [agCellRow l_2, .agg [I (1 + v_3), I v_4, I (v_4 + v_5)], Sv v_14]) (by kernel_rfl) (.inl rfl) (fun _ => rfl) (fun _ => (by simp [tagged, taggedL]))
     ·subst h2
      refine x_reg [(2, .dec true), (5, .lend [(7001, bxl00Src s'_5, bxl00Src s'_6)] [] [(true, .ref 7001 0), (true, I 8)] true (Bv false))] [2, 3, 5, 6, 7, 8, 42] [2, 3, 6, 8, 7001] [.ref 2 0, .ref 3 0, .ref 7001 0, .ref 6 0, I (l_2.Text.size : Int), .ref 8 0, Bv true] [some (.box [Sv (⟨#[]⟩ : ByteArray), I 0, I 0, I 0]), some (.box [I 0, I 0, I 0]), some (bxCellRow l_2), some (.box [I (1 + v_3), I v_4, I (v_4 + v_5)]), some (bxl00Src s'_6)] [(1 + v_3) = 3, CallOK Tryz.prog 41 [.ref 7001 0, I 8] (lookO [(7001, bxl00Src s'_5)]) true (Bv false) (lookO [(7001, bxl00Src s'_6)]) ∧ ((.ref 7001 0 : AV) = .ref 7001 0) ∧ ((I 8 : AV) = I 8) ∧ (((bxl00Src s'_5 : Ob) = bxl00Src s'_5 ∨ obLe noOb true (bxl00Src s'_5) (bxl00Src s'_5)) ∧ taggedO false (bxl00Src s'_5)) ∧ True] (by kernel_rfl) ⟨h1, ⟨hc6, rfl, rfl, ⟨.inl rfl, (by simp [taggedO, taggedL, tagged, tagU8])⟩, trivial⟩, trivial⟩ ?_
      refine xe_then ?_
      refine x_true rfl ?_
      refine x_reg [] [2, 3, 5, 6, 7, 8] [2, 3, 6, 8, 7001] [.ref 2 0, .ref 3 0, .ref 7001 0, .ref 6 0, I (l_2.Text.size : Int), .ref 8 0] [some (.box [Sv (⟨#[]⟩ : ByteArray), I 0, I 0, I 0]), some (.box [I 0, I 0, I 0]), some (bxCellRow l_2), some (.box [I (1 + v_3), I v_4, I v_4]), some (bxl00Src s'_6)] [] (by kernel_rfl) trivial ?_
      refine xe_then ?_
      refine x_seq ?_
      refine x_seq ?_
      obtain ⟨v_15, s'_15, hx15_0, hx15_1, hx15_2, hx15_3, hc15⟩ := pick_ok s'_6 20 (by first | assumption | (simp only [okSrc] at *; simp_all; done)) (by omega)
      refine x_reg [(1, .lend [(7001, bxl00Src s'_6, bxl00Src s'_15)] [] [(true, .ref 7001 0), (true, I 20)] true (I v_15))] [2, 3, 5, 6, 7, 8, 47] [2, 3, 6, 8, 7001] [.ref 2 0, .ref 3 0, .ref 7001 0, .ref 6 0, I (l_2.Text.size : Int), .ref 8 0, I v_15] [some (.box [Sv (⟨#[]⟩ : ByteArray), I 0, I 0, I 0]), some (.box [I 0, I 0, I 0]), some (bxCellRow l_2), some (.box [I (1 + v_3), I v_4, I v_4]), some (bxl00Src s'_15)] [CallOK Tryz.prog 39 [.ref 7001 0, I 20] (lookO [(7001, bxl00Src s'_6)]) true (I v_15) (lookO [(7001, bxl00Src s'_15)]) ∧ ((.ref 7001 0 : AV) = .ref 7001 0) ∧ ((I 20 : AV) = I 20) ∧ (((bxl00Src s'_6 : Ob) = bxl00Src s'_6 ∨ obLe noOb true (bxl00Src s'_6) (bxl00Src s'_6)) ∧ taggedO false (bxl00Src s'_6)) ∧ True] (by kernel_rfl) ⟨⟨hc15, rfl, rfl, ⟨.inl rfl, (by simp [taggedO, taggedL, tagged, tagU8])⟩, trivial⟩, trivial⟩ ?_
      refine xe_then ?_
      refine x_block ?_
      refine x_seq ?_
      by_cases h6 : v_15 = 0
      ·refine x_reg [(0, .dec true)] [2, 3, 5, 6, 7, 8, 47, 48] [2, 3, 6, 8, 7001] [.ref 2 0, .ref 3 0, .ref 7001 0, .ref 6 0, I (l_2.Text.size : Int), .ref 8 0, I v_15, Bv true] [some (.box [Sv (⟨#[]⟩ : ByteArray), I 0, I 0, I 0]), some (.box [I 0, I 0, I 0]), some (bxCellRow l_2), some (.box [I (1 + v_3), I v_4, I v_4]), some (bxl00Src s'_15)] [v_15 = 0] (by kernel_rfl) ⟨h6, trivial⟩ ?_
       refine xe_then ?_
       refine x_true rfl ?_
       obtain ⟨v_16, s'_16, hx16_0, hx16_1, hx16_2, hx16_3, hc16⟩ := among_ok s'_15 ([0, 4]) (by first | assumption | (simp only [okSrc] at *; simp_all; done)) (by omega) (by simp)
       have ham_v_16 : v_16 = 0 ∨ v_16 = 4 := by simpa using hx16_0
       refine x_reg [(1, .new 51), (2, .lend [(7001, bxl00Src s'_15, bxl00Src s'_16)] [] [(true, .ref 7001 0), (false, slI false ([0, 4]))] true (I v_16))] [2, 3, 5, 6, 8] [2, 3, 6, 8, 7001] [.ref 2 0, .ref 3 0, .ref 7001 0, .ref 6 0, .ref 8 0] [some (.box [Sv (⟨#[]⟩ : ByteArray), I 0, I 0, I 0]), some (.box [I 0, I 0, I 0]), some (bxCellRow l_2), some (.box [I v_16, I v_4, I v_4]), some (bxl00Src s'_16)] [CallOK Tryz.prog 42 [.ref 7001 0, slI false ([0, 4])] (lookO [(7001, bxl00Src s'_15)]) true (I v_16) (lookO [(7001, bxl00Src s'_16)]) ∧ ((.ref 7001 0 : AV) = .ref 7001 0) ∧ ((false = true → true = true) ∧ 1 = 1 ∧ 2 = (([0, 4]).length) ∧ ∀ i, i < (([0, 4]).length) → (litF [I 0, I 4] 1) i = (fI ([0, 4])) i ∨ (AV.idsL ((fI ([0, 4])) i) = [] ∧ leL (fun _ => none) false ((litF [I 0, I 4] 1) i) ((fI ([0, 4])) i))) ∧ (((bxl00Src s'_15 : Ob) = bxl00Src s'_15 ∨ obLe noOb true (bxl00Src s'_15) (bxl00Src s'_15)) ∧ taggedO false (bxl00Src s'_15)) ∧ True] (by kernel_rfl) ⟨⟨hc16, rfl, ⟨(fun h => by cases h), rfl, (by first | rfl | (simp; done) | (simp; omega) | omega), fun i hi => .inl (match i, hi with | 0, _ => rfl | 1, _ => rfl | (i + 2), h => absurd h (by simp))⟩, ⟨.inl rfl, (by simp [taggedO, taggedL, tagged, tagU8])⟩, trivial⟩, trivial⟩ ?_
       refine xe_block 0 ?_
       refine xe_then ?_
       refine x_seq ?_
       obtain ⟨v_17, s'_17, hx17_0, hx17_1, hx17_2, hx17_3, hc17⟩ := text_ok s'_16 ([(⟨#[]⟩ : ByteArray), (⟨#[110, 101, 119]⟩ : ByteArray), (⟨#[120]⟩ : ByteArray), (⟨#[116, 119, 111, 32, 119, 111, 114, 100, 115]⟩ : ByteArray), (⟨#[55]⟩ : ByteArray), (⟨#[65]⟩ : ByteArray)]) (by first | assumption | (simp only [okSrc] at *; simp_all; done)) (by omega) (by decide)
       refine x_reg [(3, .new 75), (4, .lend [(7001, bxl00Src s'_16, bxl00Src s'_17)] [] [(true, .ref 7001 0), (false, slS false ([(⟨#[]⟩ : ByteArray), (⟨#[110, 101, 119]⟩ : ByteArray), (⟨#[120]⟩ : ByteArray), (⟨#[116, 119, 111, 32, 119, 111, 114, 100, 115]⟩ : ByteArray), (⟨#[55]⟩ : ByteArray), (⟨#[65]⟩ : ByteArray)]))] true (Sv v_17))] [2, 3, 4] [2, 3] [.ref 2 0, .ref 3 0, Sv v_17] [some (bxCellRow l_2), some (.box [I v_16, I v_4, I v_4])] [CallOK Tryz.prog 58 [.ref 7001 0, slS false ([(⟨#[]⟩ : ByteArray), (⟨#[110, 101, 119]⟩ : ByteArray), (⟨#[120]⟩ : ByteArray), (⟨#[116, 119, 111, 32, 119, 111, 114, 100, 115]⟩ : ByteArray), (⟨#[55]⟩ : ByteArray), (⟨#[65]⟩ : ByteArray)])] (lookO [(7001, bxl00Src s'_16)]) true (Sv v_17) (lookO [(7001, bxl00Src s'_17)]) ∧ ((.ref 7001 0 : AV) = .ref 7001 0) ∧ ((false = true → true = true) ∧ 1 = 1 ∧ 6 = (([(⟨#[]⟩ : ByteArray), (⟨#[110, 101, 119]⟩ : ByteArray), (⟨#[120]⟩ : ByteArray), (⟨#[116, 119, 111, 32, 119, 111, 114, 100, 115]⟩ : ByteArray), (⟨#[55]⟩ : ByteArray), (⟨#[65]⟩ : ByteArray)]).length) ∧ ∀ i, i < (([(⟨#[]⟩ : ByteArray), (⟨#[110, 101, 119]⟩ : ByteArray), (⟨#[120]⟩ : ByteArray), (⟨#[116, 119, 111, 32, 119, 111, 114, 100, 115]⟩ : ByteArray), (⟨#[55]⟩ : ByteArray), (⟨#[65]⟩ : ByteArray)]).length) → (litF [Sv (⟨#[]⟩ : ByteArray), Sv (⟨#[110, 101, 119]⟩ : ByteArray), Sv (⟨#[120]⟩ : ByteArray), Sv (⟨#[116, 119, 111, 32, 119, 111, 114, 100, 115]⟩ : ByteArray), Sv (⟨#[55]⟩ : ByteArray), Sv (⟨#[65]⟩ : ByteArray)] 1) i = (fS ([(⟨#[]⟩ : ByteArray), (⟨#[110, 101, 119]⟩ : ByteArray), (⟨#[120]⟩ : ByteArray), (⟨#[116, 119, 111, 32, 119, 111, 114, 100, 115]⟩ : ByteArray), (⟨#[55]⟩ : ByteArray), (⟨#[65]⟩ : ByteArray)])) i ∨ (AV.idsL ((fS ([(⟨#[]⟩ : ByteArray), (⟨#[110, 101, 119]⟩ : ByteArray), (⟨#[120]⟩ : ByteArray), (⟨#[116, 119, 111, 32, 119, 111, 114, 100, 115]⟩ : ByteArray), (⟨#[55]⟩ : ByteArray), (⟨#[65]⟩ : ByteArray)])) i) = [] ∧ leL (fun _ => none) false ((litF [Sv (⟨#[]⟩ : ByteArray), Sv (⟨#[110, 101, 119]⟩ : ByteArray), Sv (⟨#[120]⟩ : ByteArray), Sv (⟨#[116, 119, 111, 32, 119, 111, 114, 100, 115]⟩ : ByteArray), Sv (⟨#[55]⟩ : ByteArray), Sv (⟨#[65]⟩ : ByteArray)] 1) i) ((fS ([(⟨#[]⟩ : ByteArray), (⟨#[110, 101, 119]⟩ : ByteArray), (⟨#[120]⟩ : ByteArray), (⟨#[116, 119, 111, 32, 119, 111, 114, 100, 115]⟩ : ByteArray), (⟨#[55]⟩ : ByteArray), (⟨#[65]⟩ : ByteArray)])) i))) ∧ (((bxl00Src s'_16 : Ob) = bxl00Src s'_16 ∨ obLe noOb true (bxl00Src s'_16) (bxl00Src s'_16)) ∧ taggedO false (bxl00Src s'_16)) ∧ True] (by kernel_rfl) ⟨⟨hc17, rfl, ⟨(fun h => by cases h), rfl, (by first | rfl | (simp; done) | (simp; omega) | omega), fun i hi => .inl (match i, hi with | 0, _ => rfl | 1, _ => rfl | 2, _ => rfl | 3, _ => rfl | 4, _ => rfl | 5, _ => rfl | (i + 6), h => absurd h (by simp))⟩, ⟨.inl rfl, (by simp [taggedO, taggedL, tagged, tagU8])⟩, trivial⟩, trivial⟩ ?_
       refine xe_then ?_
       refine x_ret ?_
       refine xe_end (l_2, (Edit.mk v_16 v_4 v_4), v_17) (show (l_2.Text.size ≤ 300) ∧ (v_17.size ≤ 16) ∧ (True) from ⟨(by first | omega | assumption | rfl | (simp; done) | (simp; omega) | (simp_all; done)), (by first | omega | assumption | rfl | (simp; done) | (simp; omega) | (simp_all; done)), trivial⟩) (trivial) (.tup [agCellRow l_2, .agg [I v_16, I v_4, I v_4], Sv v_17]) (by kernel_rfl) (.inl rfl) (fun _ => rfl) (fun _ => (by simp [tagged, taggedL]))
      ·refine x_reg [(0, .dec false)] [2, 3, 5, 6, 7, 8, 47, 48] [2, 3, 6, 8, 7001] [.ref 2 0, .ref 3 0, .ref 7001 0, .ref 6 0, I (l_2.Text.size : Int), .ref 8 0, I v_15, Bv false] [some (.box [Sv (⟨#[]⟩ : ByteArray), I 0, I 0, I 0]), some (.box [I 0, I 0, I 0]), some (bxCellRow l_2), some (.box [I (1 + v_3), I v_4, I v_4]), some (bxl00Src s'_15)] [¬ (v_15 = 0)] (by kernel_rfl) ⟨h6, trivial⟩ ?_
       refine xe_then ?_
       refine x_false rfl ?_
       refine x_seq ?_
       by_cases h7 : v_15 = 1
       ·refine x_reg [(0, .dec true)] [2, 3, 5, 6, 7, 8, 47, 54] [2, 3, 6, 8, 7001] [.ref 2 0, .ref 3 0, .ref 7001 0, .ref 6 0, I (l_2.Text.size : Int), .ref 8 0, I v_15, Bv true] [some (.box [Sv (⟨#[]⟩ : ByteArray), I 0, I 0, I 0]), some (.box [I 0, I 0, I 0]), some (bxCellRow l_2), some (.box [I (1 + v_3), I v_4, I v_4]), some (bxl00Src s'_15)] [v_15 = 1] (by kernel_rfl) ⟨h7, trivial⟩ ?_
        refine xe_then ?_
        refine x_true rfl ?_
        obtain ⟨v_18, s'_18, hx18_0, hx18_1, hx18_2, hx18_3, hc18⟩ := among_ok s'_15 ([(-1), (l_2.Text.size : Int), ((l_2.Text.size : Int) + 1)]) (by first | assumption | (simp only [okSrc] at *; simp_all; done)) (by omega) (by simp)
        have ham_v_18 : v_18 = (-1) ∨ v_18 = (l_2.Text.size : Int) ∨ v_18 = ((l_2.Text.size : Int) + 1) := by simpa using hx18_0
        refine x_reg [(4, .new 60), (5, .lend [(7001, bxl00Src s'_15, bxl00Src s'_18)] [] [(true, .ref 7001 0), (false, slI false ([(-1), (l_2.Text.size : Int), ((l_2.Text.size : Int) + 1)]))] true (I v_18))] [2, 3, 5, 6, 8] [2, 3, 6, 8, 7001] [.ref 2 0, .ref 3 0, .ref 7001 0, .ref 6 0, .ref 8 0] [some (.box [Sv (⟨#[]⟩ : ByteArray), I 0, I 0, I 0]), some (.box [I 0, I 0, I 0]), some (bxCellRow l_2), some (.box [I (1 + v_3), I v_18, I v_4]), some (bxl00Src s'_18)] [inR .i64 ((l_2.Text.size : Int) + 1), CallOK Tryz.prog 42 [.ref 7001 0, slI false ([(-1), (l_2.Text.size : Int), ((l_2.Text.size : Int) + 1)])] (lookO [(7001, bxl00Src s'_15)]) true (I v_18) (lookO [(7001, bxl00Src s'_18)]) ∧ ((.ref 7001 0 : AV) = .ref 7001 0) ∧ ((false = true → true = true) ∧ 1 = 1 ∧ 3 = (([(-1), (l_2.Text.size : Int), ((l_2.Text.size : Int) + 1)]).length) ∧ ∀ i, i < (([(-1), (l_2.Text.size : Int), ((l_2.Text.size : Int) + 1)]).length) → (litF [I (-1), I (l_2.Text.size : Int), I ((l_2.Text.size : Int) + 1)] 1) i = (fI ([(-1), (l_2.Text.size : Int), ((l_2.Text.size : Int) + 1)])) i ∨ (AV.idsL ((fI ([(-1), (l_2.Text.size : Int), ((l_2.Text.size : Int) + 1)])) i) = [] ∧ leL (fun _ => none) false ((litF [I (-1), I (l_2.Text.size : Int), I ((l_2.Text.size : Int) + 1)] 1) i) ((fI ([(-1), (l_2.Text.size : Int), ((l_2.Text.size : Int) + 1)])) i))) ∧ (((bxl00Src s'_15 : Ob) = bxl00Src s'_15 ∨ obLe noOb true (bxl00Src s'_15) (bxl00Src s'_15)) ∧ taggedO false (bxl00Src s'_15)) ∧ True] (by kernel_rfl) ⟨(inR_i64 (by omega) (by omega)), ⟨hc18, rfl, ⟨(fun h => by cases h), rfl, (by first | rfl | (simp; done) | (simp; omega) | omega), fun i hi => .inl (match i, hi with | 0, _ => rfl | 1, _ => rfl | 2, _ => rfl | (i + 3), h => absurd h (by simp))⟩, ⟨.inl rfl, (by simp [taggedO, taggedL, tagged, tagU8])⟩, trivial⟩, trivial⟩ ?_
        refine xe_block 0 ?_
        refine xe_then ?_
        refine x_seq ?_
        obtain ⟨v_19, s'_19, hx19_0, hx19_1, hx19_2, hx19_3, hc19⟩ := text_ok s'_18 ([(⟨#[]⟩ : ByteArray), (⟨#[110, 101, 119]⟩ : ByteArray), (⟨#[120]⟩ : ByteArray), (⟨#[116, 119, 111, 32, 119, 111, 114, 100, 115]⟩ : ByteArray), (⟨#[55]⟩ : ByteArray), (⟨#[65]⟩ : ByteArray)]) (by first | assumption | (simp only [okSrc] at *; simp_all; done)) (by omega) (by decide)
        refine x_reg [(3, .new 75), (4, .lend [(7001, bxl00Src s'_18, bxl00Src s'_19)] [] [(true, .ref 7001 0), (false, slS false ([(⟨#[]⟩ : ByteArray), (⟨#[110, 101, 119]⟩ : ByteArray), (⟨#[120]⟩ : ByteArray), (⟨#[116, 119, 111, 32, 119, 111, 114, 100, 115]⟩ : ByteArray), (⟨#[55]⟩ : ByteArray), (⟨#[65]⟩ : ByteArray)]))] true (Sv v_19))] [2, 3, 4] [2, 3] [.ref 2 0, .ref 3 0, Sv v_19] [some (bxCellRow l_2), some (.box [I (1 + v_3), I v_18, I v_4])] [CallOK Tryz.prog 58 [.ref 7001 0, slS false ([(⟨#[]⟩ : ByteArray), (⟨#[110, 101, 119]⟩ : ByteArray), (⟨#[120]⟩ : ByteArray), (⟨#[116, 119, 111, 32, 119, 111, 114, 100, 115]⟩ : ByteArray), (⟨#[55]⟩ : ByteArray), (⟨#[65]⟩ : ByteArray)])] (lookO [(7001, bxl00Src s'_18)]) true (Sv v_19) (lookO [(7001, bxl00Src s'_19)]) ∧ ((.ref 7001 0 : AV) = .ref 7001 0) ∧ ((false = true → true = true) ∧ 1 = 1 ∧ 6 = (([(⟨#[]⟩ : ByteArray), (⟨#[110, 101, 119]⟩ : ByteArray), (⟨#[120]⟩ : ByteArray), (⟨#[116, 119, 111, 32, 119, 111, 114, 100, 115]⟩ : ByteArray), (⟨#[55]⟩ : ByteArray), (⟨#[65]⟩ : ByteArray)]).length) ∧ ∀ i, i < (([(⟨#[]⟩ : ByteArray), (⟨#[110, 101, 119]⟩ : ByteArray), (⟨#[120]⟩ : ByteArray), (⟨#[116, 119, 111, 32, 119, 111, 114, 100, 115]⟩ : ByteArray), (⟨#[55]⟩ : ByteArray), (⟨#[65]⟩ : ByteArray)]).length) → (litF [Sv (⟨#[]⟩ : ByteArray), Sv (⟨#[110, 101, 119]⟩ : ByteArray), Sv (⟨#[120]⟩ : ByteArray), Sv (⟨#[116, 119, 111, 32, 119, 111, 114, 100, 115]⟩ : ByteArray), Sv (⟨#[55]⟩ : ByteArray), Sv (⟨#[65]⟩ : ByteArray)] 1) i = (fS ([(⟨#[]⟩ : ByteArray), (⟨#[110, 101, 119]⟩ : ByteArray), (⟨#[120]⟩ : ByteArray), (⟨#[116, 119, 111, 32, 119, 111, 114, 100, 115]⟩ : ByteArray), (⟨#[55]⟩ : ByteArray), (⟨#[65]⟩ : ByteArray)])) i ∨ (AV.idsL ((fS ([(⟨#[]⟩ : ByteArray), (⟨#[110, 101, 119]⟩ : ByteArray), (⟨#[120]⟩ : ByteArray), (⟨#[116, 119, 111, 32, 119, 111, 114, 100, 115]⟩ : ByteArray), (⟨#[55]⟩ : ByteArray), (⟨#[65]⟩ : ByteArray)])) i) = [] ∧ leL (fun _ => none) false ((litF [Sv (⟨#[]⟩ : ByteArray), Sv (⟨#[110, 101, 119]⟩ : ByteArray), Sv (⟨#[120]⟩ : ByteArray), Sv (⟨#[116, 119, 111, 32, 119, 111, 114, 100, 115]⟩ : ByteArray), Sv (⟨#[55]⟩ : ByteArray), Sv (⟨#[65]⟩ : ByteArray)] 1) i) ((fS ([(⟨#[]⟩ : ByteArray), (⟨#[110, 101, 119]⟩ : ByteArray), (⟨#[120]⟩ : ByteArray), (⟨#[116, 119, 111, 32, 119, 111, 114, 100, 115]⟩ : ByteArray), (⟨#[55]⟩ : ByteArray), (⟨#[65]⟩ : ByteArray)])) i))) ∧ (((bxl00Src s'_18 : Ob) = bxl00Src s'_18 ∨ obLe noOb true (bxl00Src s'_18) (bxl00Src s'_18)) ∧ taggedO false (bxl00Src s'_18)) ∧ True] (by kernel_rfl) ⟨⟨hc19, rfl, ⟨(fun h => by cases h), rfl, (by first | rfl | (simp; done) | (simp; omega) | omega), fun i hi => .inl (match i, hi with | 0, _ => rfl | 1, _ => rfl | 2, _ => rfl | 3, _ => rfl | 4, _ => rfl | 5, _ => rfl | (i + 6), h => absurd h (by simp))⟩, ⟨.inl rfl, (by simp [taggedO, taggedL, tagged, tagU8])⟩, trivial⟩, trivial⟩ ?_
        refine xe_then ?_
        refine x_ret ?_
        refine xe_end (l_2, (Edit.mk (1 + v_3) v_18 v_4), v_19) (show (l_2.Text.size ≤ 300) ∧ (v_19.size ≤ 16) ∧ (True) from ⟨(by first | omega | assumption | rfl | (simp; done) | (simp; omega) | (simp_all; done)), (by first | omega | assumption | rfl | (simp; done) | (simp; omega) | (simp_all; done)), trivial⟩) (trivial) (.tup [agCellRow l_2, .agg [I (1 + v_3), I v_18, I v_4], Sv v_19]) (by kernel_rfl) (.inl rfl) (fun _ => rfl) (fun _ => (by simp [tagged, taggedL]))
       ·refine x_reg [(0, .dec false)] [2, 3, 5, 6, 7, 8, 47, 54] [2, 3, 6, 8, 7001] [.ref 2 0, .ref 3 0, .ref 7001 0, .ref 6 0, I (l_2.Text.size : Int), .ref 8 0, I v_15, Bv false] [some (.box [Sv (⟨#[]⟩ : ByteArray), I 0, I 0, I 0]), some (.box [I 0, I 0, I 0]), some (bxCellRow l_2), some (.box [I (1 + v_3), I v_4, I v_4]), some (bxl00Src s'_15)] [¬ (v_15 = 1)] (by kernel_rfl) ⟨h7, trivial⟩ ?_
        refine xe_then ?_
        refine x_false rfl ?_
        refine x_seq ?_
        by_cases h8 : v_15 = 2
        ·refine x_reg [(0, .dec true)] [2, 3, 5, 6, 7, 8, 63] [2, 3, 6, 8, 7001] [.ref 2 0, .ref 3 0, .ref 7001 0, .ref 6 0, I (l_2.Text.size : Int), .ref 8 0, Bv true] [some (.box [Sv (⟨#[]⟩ : ByteArray), I 0, I 0, I 0]), some (.box [I 0, I 0, I 0]), some (bxCellRow l_2), some (.box [I (1 + v_3), I v_4, I v_4]), some (bxl00Src s'_15)] [v_15 = 2] (by kernel_rfl) ⟨h8, trivial⟩ ?_
         refine xe_then ?_
         refine x_true rfl ?_
         obtain ⟨v_20, s'_20, hx20_0, hx20_1, hx20_2, hx20_3, hc20⟩ := among_ok s'_15 ([(-1), (l_2.Text.size : Int), ((l_2.Text.size : Int) + 1)]) (by first | assumption | (simp only [okSrc] at *; simp_all; done)) (by omega) (by simp)
         have ham_v_20 : v_20 = (-1) ∨ v_20 = (l_2.Text.size : Int) ∨ v_20 = ((l_2.Text.size : Int) + 1) := by simpa using hx20_0
         refine x_reg [(4, .new 69), (5, .lend [(7001, bxl00Src s'_15, bxl00Src s'_20)] [] [(true, .ref 7001 0), (false, slI false ([(-1), (l_2.Text.size : Int), ((l_2.Text.size : Int) + 1)]))] true (I v_20))] [2, 3, 5, 6, 8] [2, 3, 6, 8, 7001] [.ref 2 0, .ref 3 0, .ref 7001 0, .ref 6 0, .ref 8 0] [some (.box [Sv (⟨#[]⟩ : ByteArray), I 0, I 0, I 0]), some (.box [I 0, I 0, I 0]), some (bxCellRow l_2), some (.box [I (1 + v_3), I v_4, I v_20]), some (bxl00Src s'_20)] [inR .i64 ((l_2.Text.size : Int) + 1), CallOK Tryz.prog 42 [.ref 7001 0, slI false ([(-1), (l_2.Text.size : Int), ((l_2.Text.size : Int) + 1)])] (lookO [(7001, bxl00Src s'_15)]) true (I v_20) (lookO [(7001, bxl00Src s'_20)]) ∧ ((.ref 7001 0 : AV) = .ref 7001 0) ∧ ((false = true → true = true) ∧ 1 = 1 ∧ 3 = (([(-1), (l_2.Text.size : Int), ((l_2.Text.size : Int) + 1)]).length) ∧ ∀ i, i < (([(-1), (l_2.Text.size : Int), ((l_2.Text.size : Int) + 1)]).length) → (litF [I (-1), I (l_2.Text.size : Int), I ((l_2.Text.size : Int) + 1)] 1) i = (fI ([(-1), (l_2.Text.size : Int), ((l_2.Text.size : Int) + 1)])) i ∨ (AV.idsL ((fI ([(-1), (l_2.Text.size : Int), ((l_2.Text.size : Int) + 1)])) i) = [] ∧ leL (fun _ => none) false ((litF [I (-1), I (l_2.Text.size : Int), I ((l_2.Text.size : Int) + 1)] 1) i) ((fI ([(-1), (l_2.Text.size : Int), ((l_2.Text.size : Int) + 1)])) i))) ∧ (((bxl00Src s'_15 : Ob) = bxl00Src s'_15 ∨ obLe noOb true (bxl00Src s'_15) (bxl00Src s'_15)) ∧ taggedO false (bxl00Src s'_15)) ∧ True] (by kernel_rfl) ⟨(inR_i64 (by omega) (by omega)), ⟨hc20, rfl, ⟨(fun h => by cases h), rfl, (by first | rfl | (simp; done) | (simp; omega) | omega), fun i hi => .inl (match i, hi with | 0, _ => rfl | 1, _ => rfl | 2, _ => rfl | (i + 3), h => absurd h (by simp))⟩, ⟨.inl rfl, (by simp [taggedO, taggedL, tagged, tagU8])⟩, trivial⟩, trivial⟩ ?_
         refine xe_block 0 ?_
         refine xe_then ?_
         refine x_seq ?_
         obtain ⟨v_21, s'_21, hx21_0, hx21_1, hx21_2, hx21_3, hc21⟩ := text_ok s'_20 ([(⟨#[]⟩ : ByteArray), (⟨#[110, 101, 119]⟩ : ByteArray), (⟨#[120]⟩ : ByteArray), (⟨#[116, 119, 111, 32, 119, 111, 114, 100, 115]⟩ : ByteArray), (⟨#[55]⟩ : ByteArray), (⟨#[65]⟩ : ByteArray)]) (by first | assumption | (simp only [okSrc] at *; simp_all; done)) (by omega) (by decide)
         refine x_reg [(3, .new 75), (4, .lend [(7001, bxl00Src s'_20, bxl00Src s'_21)] [] [(true, .ref 7001 0), (false, slS false ([(⟨#[]⟩ : ByteArray), (⟨#[110, 101, 119]⟩ : ByteArray), (⟨#[120]⟩ : ByteArray), (⟨#[116, 119, 111, 32, 119, 111, 114, 100, 115]⟩ : ByteArray), (⟨#[55]⟩ : ByteArray), (⟨#[65]⟩ : ByteArray)]))] true (Sv v_21))] [2, 3, 4] [2, 3] [.ref 2 0, .ref 3 0, Sv v_21] [some (bxCellRow l_2), some (.box [I (1 + v_3), I v_4, I v_20])] [CallOK Tryz.prog 58 [.ref 7001 0, slS false ([(⟨#[]⟩ : ByteArray), (⟨#[110, 101, 119]⟩ : ByteArray), (⟨#[120]⟩ : ByteArray), (⟨#[116, 119, 111, 32, 119, 111, 114, 100, 115]⟩ : ByteArray), (⟨#[55]⟩ : ByteArray), (⟨#[65]⟩ : ByteArray)])] (lookO [(7001, bxl00Src s'_20)]) true (Sv v_21) (lookO [(7001, bxl00Src s'_21)]) ∧ ((.ref 7001 0 : AV) = .ref 7001 0) ∧ ((false = true → true = true) ∧ 1 = 1 ∧ 6 = (([(⟨#[]⟩ : ByteArray), (⟨#[110, 101, 119]⟩ : ByteArray), (⟨#[120]⟩ : ByteArray), (⟨#[116, 119, 111, 32, 119, 111, 114, 100, 115]⟩ : ByteArray), (⟨#[55]⟩ : ByteArray), (⟨#[65]⟩ : ByteArray)]).length) ∧ ∀ i, i < (([(⟨#[]⟩ : ByteArray), (⟨#[110, 101, 119]⟩ : ByteArray), (⟨#[120]⟩ : ByteArray), (⟨#[116, 119, 111, 32, 119, 111, 114, 100, 115]⟩ : ByteArray), (⟨#[55]⟩ : ByteArray), (⟨#[65]⟩ : ByteArray)]).length) → (litF [Sv (⟨#[]⟩ : ByteArray), Sv (⟨#[110, 101, 119]⟩ : ByteArray), Sv (⟨#[120]⟩ : ByteArray), Sv (⟨#[116, 119, 111, 32, 119, 111, 114, 100, 115]⟩ : ByteArray), Sv (⟨#[55]⟩ : ByteArray), Sv (⟨#[65]⟩ : ByteArray)] 1) i = (fS ([(⟨#[]⟩ : ByteArray), (⟨#[110, 101, 119]⟩ : ByteArray), (⟨#[120]⟩ : ByteArray), (⟨#[116, 119, 111, 32, 119, 111, 114, 100, 115]⟩ : ByteArray), (⟨#[55]⟩ : ByteArray), (⟨#[65]⟩ : ByteArray)])) i ∨ (AV.idsL ((fS ([(⟨#[]⟩ : ByteArray), (⟨#[110, 101, 119]⟩ : ByteArray), (⟨#[120]⟩ : ByteArray), (⟨#[116, 119, 111, 32, 119, 111, 114, 100, 115]⟩ : ByteArray), (⟨#[55]⟩ : ByteArray), (⟨#[65]⟩ : ByteArray)])) i) = [] ∧ leL (fun _ => none) false ((litF [Sv (⟨#[]⟩ : ByteArray), Sv (⟨#[110, 101, 119]⟩ : ByteArray), Sv (⟨#[120]⟩ : ByteArray), Sv (⟨#[116, 119, 111, 32, 119, 111, 114, 100, 115]⟩ : ByteArray), Sv (⟨#[55]⟩ : ByteArray), Sv (⟨#[65]⟩ : ByteArray)] 1) i) ((fS ([(⟨#[]⟩ : ByteArray), (⟨#[110, 101, 119]⟩ : ByteArray), (⟨#[120]⟩ : ByteArray), (⟨#[116, 119, 111, 32, 119, 111, 114, 100, 115]⟩ : ByteArray), (⟨#[55]⟩ : ByteArray), (⟨#[65]⟩ : ByteArray)])) i))) ∧ (((bxl00Src s'_20 : Ob) = bxl00Src s'_20 ∨ obLe noOb true (bxl00Src s'_20) (bxl00Src s'_20)) ∧ taggedO false (bxl00Src s'_20)) ∧ True] (by kernel_rfl) ⟨⟨hc21, rfl, ⟨(fun h => by cases h), rfl, (by first | rfl | (simp; done) | (simp; omega) | omega), fun i hi => .inl (match i, hi with | 0, _ => rfl | 1, _ => rfl | 2, _ => rfl | 3, _ => rfl | 4, _ => rfl | 5, _ => rfl | (i + 6), h => absurd h (by simp))⟩, ⟨.inl rfl, (by simp [taggedO, taggedL, tagged, tagU8])⟩, trivial⟩, trivial⟩ ?_
         refine xe_then ?_
         refine x_ret ?_
         refine xe_end (l_2, (Edit.mk (1 + v_3) v_4 v_20), v_21) (show (l_2.Text.size ≤ 300) ∧ (v_21.size ≤ 16) ∧ (True) from ⟨(by first | omega | assumption | rfl | (simp; done) | (simp; omega) | (simp_all; done)), (by first | omega | assumption | rfl | (simp; done) | (simp; omega) | (simp_all; done)), trivial⟩) (trivial) (.tup [agCellRow l_2, .agg [I (1 + v_3), I v_4, I v_20], Sv v_21]) (by kernel_rfl) (.inl rfl) (fun _ => rfl) (fun _ => (by simp [tagged, taggedL]))
        ·refine x_reg [(0, .dec false)] [2, 3, 5, 6, 7, 8, 63] [2, 3, 6, 8, 7001] [.ref 2 0, .ref 3 0, .ref 7001 0, .ref 6 0, I (l_2.Text.size : Int), .ref 8 0, Bv false] [some (.box [Sv (⟨#[]⟩ : ByteArray), I 0, I 0, I 0]), some (.box [I 0, I 0, I 0]), some (bxCellRow l_2), some (.box [I (1 + v_3), I v_4, I v_4]), some (bxl00Src s'_15)] [¬ (v_15 = 2)] (by kernel_rfl) ⟨h8, trivial⟩ ?_
         refine xe_then ?_
         refine x_false rfl ?_
         refine x_skip ?_
         refine xe_block 0 ?_
         refine xe_then ?_
         refine x_seq ?_
         obtain ⟨v_22, s'_22, hx22_0, hx22_1, hx22_2, hx22_3, hc22⟩ := text_ok s'_15 ([(⟨#[]⟩ : ByteArray), (⟨#[110, 101, 119]⟩ : ByteArray), (⟨#[120]⟩ : ByteArray), (⟨#[116, 119, 111, 32, 119, 111, 114, 100, 115]⟩ : ByteArray), (⟨#[55]⟩ : ByteArray), (⟨#[65]⟩ : ByteArray)]) (by first | assumption | (simp only [okSrc] at *; simp_all; done)) (by omega) (by decide)
         refine x_reg [(3, .new 75), (4, .lend [(7001, bxl00Src s'_15, bxl00Src s'_22)] [] [(true, .ref 7001 0), (false, slS false ([(⟨#[]⟩ : ByteArray), (⟨#[110, 101, 119]⟩ : ByteArray), (⟨#[120]⟩ : ByteArray), (⟨#[116, 119, 111, 32, 119, 111, 114, 100, 115]⟩ : ByteArray), (⟨#[55]⟩ : ByteArray), (⟨#[65]⟩ : ByteArray)]))] true (Sv v_22))] [2, 3, 4] [2, 3] [.ref 2 0, .ref 3 0, Sv v_22] [some (bxCellRow l_2), some (.box [I (1 + v_3), I v_4, I v_4])] [CallOK Tryz.prog 58 [.ref 7001 0, slS false ([(⟨#[]⟩ : ByteArray), (⟨#[110, 101, 119]⟩ : ByteArray), (⟨#[120]⟩ : ByteArray), (⟨#[116, 119, 111, 32, 119, 111, 114, 100, 115]⟩ : ByteArray), (⟨#[55]⟩ : ByteArray), (⟨#[65]⟩ : ByteArray)])] (lookO [(7001, bxl00Src s'_15)]) true (Sv v_22) (lookO [(7001, bxl00Src s'_22)]) ∧ ((.ref 7001 0 : AV) = .ref 7001 0) ∧ ((false = true → true = true) ∧ 1 = 1 ∧ 6 = (([(⟨#[]⟩ : ByteArray), (⟨#[110, 101, 119]⟩ : ByteArray), (⟨#[120]⟩ : ByteArray), (⟨#[116, 119, 111, 32, 119, 111, 114, 100, 115]⟩ : ByteArray), (⟨#[55]⟩ : ByteArray), (⟨#[65]⟩ : ByteArray)]).length) ∧ ∀ i, i < (([(⟨#[]⟩ : ByteArray), (⟨#[110, 101, 119]⟩ : ByteArray), (⟨#[120]⟩ : ByteArray), (⟨#[116, 119, 111, 32, 119, 111, 114, 100, 115]⟩ : ByteArray), (⟨#[55]⟩ : ByteArray), (⟨#[65]⟩ : ByteArray)]).length) → (litF [Sv (⟨#[]⟩ : ByteArray), Sv (⟨#[110, 101, 119]⟩ : ByteArray), Sv (⟨#[120]⟩ : ByteArray), Sv (⟨#[116, 119, 111, 32, 119, 111, 114, 100, 115]⟩ : ByteArray), Sv (⟨#[55]⟩ : ByteArray), Sv (⟨#[65]⟩ : ByteArray)] 1) i = (fS ([(⟨#[]⟩ : ByteArray), (⟨#[110, 101, 119]⟩ : ByteArray), (⟨#[120]⟩ : ByteArray), (⟨#[116, 119, 111, 32, 119, 111, 114, 100, 115]⟩ : ByteArray), (⟨#[55]⟩ : ByteArray), (⟨#[65]⟩ : ByteArray)])) i ∨ (AV.idsL ((fS ([(⟨#[]⟩ : ByteArray), (⟨#[110, 101, 119]⟩ : ByteArray), (⟨#[120]⟩ : ByteArray), (⟨#[116, 119, 111, 32, 119, 111, 114, 100, 115]⟩ : ByteArray), (⟨#[55]⟩ : ByteArray), (⟨#[65]⟩ : ByteArray)])) i) = [] ∧ leL (fun _ => none) false ((litF [Sv (⟨#[]⟩ : ByteArray), Sv (⟨#[110, 101, 119]⟩ : ByteArray), Sv (⟨#[120]⟩ : ByteArray), Sv (⟨#[116, 119, 111, 32, 119, 111, 114, 100, 115]⟩ : ByteArray), Sv (⟨#[55]⟩ : ByteArray), Sv (⟨#[65]⟩ : ByteArray)] 1) i) ((fS ([(⟨#[]⟩ : ByteArray), (⟨#[110, 101, 119]⟩ : ByteArray), (⟨#[120]⟩ : ByteArray), (⟨#[116, 119, 111, 32, 119, 111, 114, 100, 115]⟩ : ByteArray), (⟨#[55]⟩ : ByteArray), (⟨#[65]⟩ : ByteArray)])) i))) ∧ (((bxl00Src s'_15 : Ob) = bxl00Src s'_15 ∨ obLe noOb true (bxl00Src s'_15) (bxl00Src s'_15)) ∧ taggedO false (bxl00Src s'_15)) ∧ True] (by kernel_rfl) ⟨⟨hc22, rfl, ⟨(fun h => by cases h), rfl, (by first | rfl | (simp; done) | (simp; omega) | omega), fun i hi => .inl (match i, hi with | 0, _ => rfl | 1, _ => rfl | 2, _ => rfl | 3, _ => rfl | 4, _ => rfl | 5, _ => rfl | (i + 6), h => absurd h (by simp))⟩, ⟨.inl rfl, (by simp [taggedO, taggedL, tagged, tagU8])⟩, trivial⟩, trivial⟩ ?_
         refine xe_then ?_
         refine x_ret ?_
         refine xe_end (l_2, (Edit.mk (1 + v_3) v_4 v_4), v_22) (show (l_2.Text.size ≤ 300) ∧ (v_22.size ≤ 16) ∧ (True) from ⟨(by first | omega | assumption | rfl | (simp; done) | (simp; omega) | (simp_all; done)), (by first | omega | assumption | rfl | (simp; done) | (simp; omega) | (simp_all; done)), trivial⟩) (trivial) (.tup [agCellRow l_2, .agg [I (1 + v_3), I v_4, I v_4], Sv v_22]) (by kernel_rfl) (.inl rfl) (fun _ => rfl) (fun _ => (by simp [tagged, taggedL]))
    ·refine x_reg [(2, .dec false)] [2, 3, 5, 6, 7, 8, 42] [2, 3, 6, 8, 7001] [.ref 2 0, .ref 3 0, .ref 7001 0, .ref 6 0, I (l_2.Text.size : Int), .ref 8 0, Bv false] [some (.box [Sv (⟨#[]⟩ : ByteArray), I 0, I 0, I 0]), some (.box [I 0, I 0, I 0]), some (bxCellRow l_2), some (.box [I (1 + v_3), I v_4, I (v_4 + v_5)]), some (bxl00Src s'_5)] [¬ ((1 + v_3) = 3)] (by kernel_rfl) ⟨h1, trivial⟩ ?_
     refine xe_then ?_
     refine x_false rfl ?_
     refine x_skip ?_
     refine xe_then ?_
     refine x_seq ?_
     refine x_seq ?_
     obtain ⟨v_23, s'_23, hx23_0, hx23_1, hx23_2, hx23_3, hc23⟩ := pick_ok s'_5 20 (by first | assumption | (simp only [okSrc] at *; simp_all; done)) (by omega)
     refine x_reg [(1, .lend [(7001, bxl00Src s'_5, bxl00Src s'_23)] [] [(true, .ref 7001 0), (true, I 20)] true (I v_23))] [2, 3, 5, 6, 7, 8, 47] [2, 3, 6, 8, 7001] [.ref 2 0, .ref 3 0, .ref 7001 0, .ref 6 0, I (l_2.Text.size : Int), .ref 8 0, I v_23] [some (.box [Sv (⟨#[]⟩ : ByteArray), I 0, I 0, I 0]), some (.box [I 0, I 0, I 0]), some (bxCellRow l_2), some (.box [I (1 + v_3), I v_4, I (v_4 + v_5)]), some (bxl00Src s'_23)] [CallOK Tryz.prog 39 [.ref 7001 0, I 20] (lookO [(7001, bxl00Src s'_5)]) true (I v_23) (lookO [(7001, bxl00Src s'_23)]) ∧ ((.ref 7001 0 : AV) = .ref 7001 0) ∧ ((I 20 : AV) = I 20) ∧ (((bxl00Src s'_5 : Ob) = bxl00Src s'_5 ∨ obLe noOb true (bxl00Src s'_5) (bxl00Src s'_5)) ∧ taggedO false (bxl00Src s'_5)) ∧ True] (by kernel_rfl) ⟨⟨hc23, rfl, rfl, ⟨.inl rfl, (by simp [taggedO, taggedL, tagged, tagU8])⟩, trivial⟩, trivial⟩ ?_
     refine xe_then ?_
     refine x_block ?_
     refine x_seq ?_
     by_cases h9 : v_23 = 0
     ·refine x_reg [(0, .dec true)] [2, 3, 5, 6, 7, 8, 47, 48] [2, 3, 6, 8, 7001] [.ref 2 0, .ref 3 0, .ref 7001 0, .ref 6 0, I (l_2.Text.size : Int), .ref 8 0, I v_23, Bv true] [some (.box [Sv (⟨#[]⟩ : ByteArray), I 0, I 0, I 0]), some (.box [I 0, I 0, I 0]), some (bxCellRow l_2), some (.box [I (1 + v_3), I v_4, I (v_4 + v_5)]), some (bxl00Src s'_23)] [v_23 = 0] (by kernel_rfl) ⟨h9, trivial⟩ ?_
      refine xe_then ?_
      refine x_true rfl ?_
      obtain ⟨v_24, s'_24, hx24_0, hx24_1, hx24_2, hx24_3, hc24⟩ := among_ok s'_23 ([0, 4]) (by first | assumption | (simp only [okSrc] at *; simp_all; done)) (by omega) (by simp)
      have ham_v_24 : v_24 = 0 ∨ v_24 = 4 := by simpa using hx24_0
      refine x_reg [(1, .new 51), (2, .lend [(7001, bxl00Src s'_23, bxl00Src s'_24)] [] [(true, .ref 7001 0), (false, slI false ([0, 4]))] true (I v_24))] [2, 3, 5, 6, 8] [2, 3, 6, 8, 7001] [.ref 2 0, .ref 3 0, .ref 7001 0, .ref 6 0, .ref 8 0] [some (.box [Sv (⟨#[]⟩ : ByteArray), I 0, I 0, I 0]), some (.box [I 0, I 0, I 0]), some (bxCellRow l_2), some (.box [I v_24, I v_4, I (v_4 + v_5)]), some (bxl00Src s'_24)] [CallOK Tryz.prog 42 [.ref 7001 0, slI false ([0, 4])] (lookO [(7001, bxl00Src s'_23)]) true (I v_24) (lookO [(7001, bxl00Src s'_24)]) ∧ ((.ref 7001 0 : AV) = .ref 7001 0) ∧ ((false = true → true = true) ∧ 1 = 1 ∧ 2 = (([0, 4]).length) ∧ ∀ i, i < (([0, 4]).length) → (litF [I 0, I 4] 1) i = (fI ([0, 4])) i ∨ (AV.idsL ((fI ([0, 4])) i) = [] ∧ leL (fun _ => none) false ((litF [I 0, I 4] 1) i) ((fI ([0, 4])) i))) ∧ (((bxl00Src s'_23 : Ob) = bxl00Src s'_23 ∨ obLe noOb true (bxl00Src s'_23) (bxl00Src s'_23)) ∧ taggedO false (bxl00Src s'_23)) ∧ True] (by kernel_rfl) ⟨⟨hc24, rfl, ⟨(fun h => by cases h), rfl, (by first | rfl | (simp; done) | (simp; omega) | omega), fun i hi => .inl (match i, hi with | 0, _ => rfl | 1, _ => rfl | (i + 2), h => absurd h (by simp))⟩, ⟨.inl rfl, (by simp [taggedO, taggedL, tagged, tagU8])⟩, trivial⟩, trivial⟩ ?_
      refine xe_block 0 ?_
      refine xe_then ?_
      refine x_seq ?_
      obtain ⟨v_25, s'_25, hx25_0, hx25_1, hx25_2, hx25_3, hc25⟩ := text_ok s'_24 ([(⟨#[]⟩ : ByteArray), (⟨#[110, 101, 119]⟩ : ByteArray), (⟨#[120]⟩ : ByteArray), (⟨#[116, 119, 111, 32, 119, 111, 114, 100, 115]⟩ : ByteArray), (⟨#[55]⟩ : ByteArray), (⟨#[65]⟩ : ByteArray)]) (by first | assumption | (simp only [okSrc] at *; simp_all; done)) (by omega) (by decide)
      refine x_reg [(3, .new 75), (4, .lend [(7001, bxl00Src s'_24, bxl00Src s'_25)] [] [(true, .ref 7001 0), (false, slS false ([(⟨#[]⟩ : ByteArray), (⟨#[110, 101, 119]⟩ : ByteArray), (⟨#[120]⟩ : ByteArray), (⟨#[116, 119, 111, 32, 119, 111, 114, 100, 115]⟩ : ByteArray), (⟨#[55]⟩ : ByteArray), (⟨#[65]⟩ : ByteArray)]))] true (Sv v_25))] [2, 3, 4] [2, 3] [.ref 2 0, .ref 3 0, Sv v_25] [some (bxCellRow l_2), some (.box [I v_24, I v_4, I (v_4 + v_5)])] [CallOK Tryz.prog 58 [.ref 7001 0, slS false ([(⟨#[]⟩ : ByteArray), (⟨#[110, 101, 119]⟩ : ByteArray), (⟨#[120]⟩ : ByteArray), (⟨#[116, 119, 111, 32, 119, 111, 114, 100, 115]⟩ : ByteArray), (⟨#[55]⟩ : ByteArray), (⟨#[65]⟩ : ByteArray)])] (lookO [(7001, bxl00Src s'_24)]) true (Sv v_25) (lookO [(7001, bxl00Src s'_25)]) ∧ ((.ref 7001 0 : AV) = .ref 7001 0) ∧ ((false = true → true = true) ∧ 1 = 1 ∧ 6 = (([(⟨#[]⟩ : ByteArray), (⟨#[110, 101, 119]⟩ : ByteArray), (⟨#[120]⟩ : ByteArray), (⟨#[116, 119, 111, 32, 119, 111, 114, 100, 115]⟩ : ByteArray), (⟨#[55]⟩ : ByteArray), (⟨#[65]⟩ : ByteArray)]).length) ∧ ∀ i, i < (([(⟨#[]⟩ : ByteArray), (⟨#[110, 101, 119]⟩ : ByteArray), (⟨#[120]⟩ : ByteArray), (⟨#[116, 119, 111, 32, 119, 111, 114, 100, 115]⟩ : ByteArray), (⟨#[55]⟩ : ByteArray), (⟨#[65]⟩ : ByteArray)]).length) → (litF [Sv (⟨#[]⟩ : ByteArray), Sv (⟨#[110, 101, 119]⟩ : ByteArray), Sv (⟨#[120]⟩ : ByteArray), Sv (⟨#[116, 119, 111, 32, 119, 111, 114, 100, 115]⟩ : ByteArray), Sv (⟨#[55]⟩ : ByteArray), Sv (⟨#[65]⟩ : ByteArray)] 1) i = (fS ([(⟨#[]⟩ : ByteArray), (⟨#[110, 101, 119]⟩ : ByteArray), (⟨#[120]⟩ : ByteArray), (⟨#[116, 119, 111, 32, 119, 111, 114, 100, 115]⟩ : ByteArray), (⟨#[55]⟩ : ByteArray), (⟨#[65]⟩ : ByteArray)])) i ∨ (AV.idsL ((fS ([(⟨#[]⟩ : ByteArray), (⟨#[110, 101, 119]⟩ : ByteArray), (⟨#[120]⟩ : ByteArray), (⟨#[116, 119, 111, 32, 119, 111, 114, 100, 115]⟩ : ByteArray), (⟨#[55]⟩ : ByteArray), (⟨#[65]⟩ : ByteArray)])) i) = [] ∧ leL (fun _ => none) false ((litF [Sv (⟨#[]⟩ : ByteArray), Sv (⟨#[110, 101, 119]⟩ : ByteArray), Sv (⟨#[120]⟩ : ByteArray), Sv (⟨#[116, 119, 111, 32, 119, 111, 114, 100, 115]⟩ : ByteArray), Sv (⟨#[55]⟩ : ByteArray), Sv (⟨#[65]⟩ : ByteArray)] 1) i) ((fS ([(⟨#[]⟩ : ByteArray), (⟨#[110, 101, 119]⟩ : ByteArray), (⟨#[120]⟩ : ByteArray), (⟨#[116, 119, 111, 32, 119, 111, 114, 100, 115]⟩ : ByteArray), (⟨#[55]⟩ : ByteArray), (⟨#[65]⟩ : ByteArray)])) i))) ∧ (((bxl00Src s'_24 : Ob) = bxl00Src s'_24 ∨ obLe noOb true (bxl00Src s'_24) (bxl00Src s'_24)) ∧ taggedO false (bxl00Src s'_24)) ∧ True] (by kernel_rfl) ⟨⟨hc25, rfl, ⟨(fun h => by cases h), rfl, (by first | rfl | (simp; done) | (simp; omega) | omega), fun i hi => .inl (match i, hi with | 0, _ => rfl | 1, _ => rfl | 2, _ => rfl | 3, _ => rfl | 4, _ => rfl | 5, _ => rfl | (i + 6), h => absurd h (by simp))⟩, ⟨.inl rfl, (by simp [taggedO, taggedL, tagged, tagU8])⟩, trivial⟩, trivial⟩ ?_
      refine xe_then ?_
      refine x_ret ?_
      refine xe_end (l_2, (Edit.mk v_24 v_4 (v_4 + v_5)), v_25) (show (l_2.Text.size ≤ 300) ∧ (v_25.size ≤ 16) ∧ (True) from ⟨(by first | omega | assumption | rfl | (simp; done) | (simp; omega) | (simp_all; done)), (by first | omega | assumption | rfl | (simp; done) | (simp; omega) | (simp_all; done)), trivial⟩) (trivial) (.tup [agCellRow l_2, .agg [I v_24, I v_4, I (v_4 + v_5)], Sv v_25]) (by kernel_rfl) (.inl rfl) (fun _ => rfl) (fun _ => (by simp [tagged, taggedL]))
     ·refine x_reg [(0, .dec false)] [2, 3, 5, 6, 7, 8, 47, 48] [2, 3, 6, 8, 7001] [.ref 2 0, .ref 3 0, .ref 7001 0, .ref 6 0, I (l_2.Text.size : Int), .ref 8 0, I v_23, Bv false] [some (.box [Sv (⟨#[]⟩ : ByteArray), I 0, I 0, I 0]), some (.box [I 0, I 0, I 0]), some (bxCellRow l_2), some (.box [I (1 + v_3), I v_4, I (v_4 + v_5)]), some (bxl00Src s'_23)] [¬ (v_23 = 0)] (by kernel_rfl) ⟨h9, trivial⟩ ?_
      refine xe_then ?_
      refine x_false rfl ?_
      refine x_seq ?_
      by_cases h10 : v_23 = 1
      ·refine x_reg [(0, .dec true)] [2, 3, 5, 6, 7, 8, 47, 54] [2, 3, 6, 8, 7001] [.ref 2 0, .ref 3 0, .ref 7001 0, .ref 6 0, I (l_2.Text.size : Int), .ref 8 0, I v_23, Bv true] [some (.box [Sv (⟨#[]⟩ : ByteArray), I 0, I 0, I 0]), some (.box [I 0, I 0, I 0]), some (bxCellRow l_2), some (.box [I (1 + v_3), I v_4, I (v_4 + v_5)]), some (bxl00Src s'_23)] [v_23 = 1] (by kernel_rfl) ⟨h10, trivial⟩ ?_
       refine xe_then ?_
       refine x_true rfl ?_
       obtain ⟨v_26, s'_26, hx26_0, hx26_1, hx26_2, hx26_3, hc26⟩ := among_ok s'_23 ([(-1), (l_2.Text.size : Int), ((l_2.Text.size : Int) + 1)]) (by first | assumption | (simp only [okSrc] at *; simp_all; done)) (by omega) (by simp)
       have ham_v_26 : v_26 = (-1) ∨ v_26 = (l_2.Text.size : Int) ∨ v_26 = ((l_2.Text.size : Int) + 1) := by simpa using hx26_0
       refine x_reg [(4, .new 60), (5, .lend [(7001, bxl00Src s'_23, bxl00Src s'_26)] [] [(true, .ref 7001 0), (false, slI false ([(-1), (l_2.Text.size : Int), ((l_2.Text.size : Int) + 1)]))] true (I v_26))] [2, 3, 5, 6, 8] [2, 3, 6, 8, 7001] [.ref 2 0, .ref 3 0, .ref 7001 0, .ref 6 0, .ref 8 0] [some (.box [Sv (⟨#[]⟩ : ByteArray), I 0, I 0, I 0]), some (.box [I 0, I 0, I 0]), some (bxCellRow l_2), some (.box [I (1 + v_3), I v_26, I (v_4 + v_5)]), some (bxl00Src s'_26)] [inR .i64 ((l_2.Text.size : Int) + 1), CallOK Tryz.prog 42 [.ref 7001 0, slI false ([(-1), (l_2.Text.size : Int), ((l_2.Text.size : Int) + 1)])] (lookO [(7001, bxl00Src s'_23)]) true (I v_26) (lookO [(7001, bxl00Src s'_26)]) ∧ ((.ref 7001 0 : AV) = .ref 7001 0) ∧ ((false = true → true = true) ∧ 1 = 1 ∧ 3 = (([(-1), (l_2.Text.size : Int), ((l_2.Text.size : Int) + 1)]).length) ∧ ∀ i, i < (([(-1), (l_2.Text.size : Int), ((l_2.Text.size : Int) + 1)]).length) → (litF [I (-1), I (l_2.Text.size : Int), I ((l_2.Text.size : Int) + 1)] 1) i = (fI ([(-1), (l_2.Text.size : Int), ((l_2.Text.size : Int) + 1)])) i ∨ (AV.idsL ((fI ([(-1), (l_2.Text.size : Int), ((l_2.Text.size : Int) + 1)])) i) = [] ∧ leL (fun _ => none) false ((litF [I (-1), I (l_2.Text.size : Int), I ((l_2.Text.size : Int) + 1)] 1) i) ((fI ([(-1), (l_2.Text.size : Int), ((l_2.Text.size : Int) + 1)])) i))) ∧ (((bxl00Src s'_23 : Ob) = bxl00Src s'_23 ∨ obLe noOb true (bxl00Src s'_23) (bxl00Src s'_23)) ∧ taggedO false (bxl00Src s'_23)) ∧ True] (by kernel_rfl) ⟨(inR_i64 (by omega) (by omega)), ⟨hc26, rfl, ⟨(fun h => by cases h), rfl, (by first | rfl | (simp; done) | (simp; omega) | omega), fun i hi => .inl (match i, hi with | 0, _ => rfl | 1, _ => rfl | 2, _ => rfl | (i + 3), h => absurd h (by simp))⟩, ⟨.inl rfl, (by simp [taggedO, taggedL, tagged, tagU8])⟩, trivial⟩, trivial⟩ ?_
       refine xe_block 0 ?_
       refine xe_then ?_
       refine x_seq ?_
       obtain ⟨v_27, s'_27, hx27_0, hx27_1, hx27_2, hx27_3, hc27⟩ := text_ok s'_26 ([(⟨#[]⟩ : ByteArray), (⟨#[110, 101, 119]⟩ : ByteArray), (⟨#[120]⟩ : ByteArray), (⟨#[116, 119, 111, 32, 119, 111, 114, 100, 115]⟩ : ByteArray), (⟨#[55]⟩ : ByteArray), (⟨#[65]⟩ : ByteArray)]) (by first | assumption | (simp only [okSrc] at *; simp_all; done)) (by omega) (by decide)
       refine x_reg [(3, .new 75), (4, .lend [(7001, bxl00Src s'_26, bxl00Src s'_27)] [] [(true, .ref 7001 0), (false, slS false ([(⟨#[]⟩ : ByteArray), (⟨#[110, 101, 119]⟩ : ByteArray), (⟨#[120]⟩ : ByteArray), (⟨#[116, 119, 111, 32, 119, 111, 114, 100, 115]⟩ : ByteArray), (⟨#[55]⟩ : ByteArray), (⟨#[65]⟩ : ByteArray)]))] true (Sv v_27))] [2, 3, 4] [2, 3] [.ref 2 0, .ref 3 0, Sv v_27] [some (bxCellRow l_2), some (.box [I (1 + v_3), I v_26, I (v_4 + v_5)])] [CallOK Tryz.prog 58 [.ref 7001 0, slS false ([(⟨#[]⟩ : ByteArray), (⟨#[110, 101, 119]⟩ : ByteArray), (⟨#[120]⟩ : ByteArray), (⟨#[116, 119, 111, 32, 119, 111, 114, 100, 115]⟩ : ByteArray), (⟨#[55]⟩ : ByteArray), (⟨#[65]⟩ : ByteArray)])] (lookO [(7001, bxl00Src s'_26)]) true (Sv v_27) (lookO [(7001, bxl00Src s'_27)]) ∧ ((.ref 7001 0 : AV) = .ref 7001 0) ∧ ((false = true → true = true) ∧ 1 = 1 ∧ 6 = (([(⟨#[]⟩ : ByteArray), (⟨#[110, 101, 119]⟩ : ByteArray), (⟨#[120]⟩ : ByteArray), (⟨#[116, 119, 111, 32, 119, 111, 114, 100, 115]⟩ : ByteArray), (⟨#[55]⟩ : ByteArray), (⟨#[65]⟩ : ByteArray)]).length) ∧ ∀ i, i < (([(⟨#[]⟩ : ByteArray), (⟨#[110, 101, 119]⟩ : ByteArray), (⟨#[120]⟩ : ByteArray), (⟨#[116, 119, 111, 32, 119, 111, 114, 100, 115]⟩ : ByteArray), (⟨#[55]⟩ : ByteArray), (⟨#[65]⟩ : ByteArray)]).length) → (litF [Sv (⟨#[]⟩ : ByteArray), Sv (⟨#[110, 101, 119]⟩ : ByteArray), Sv (⟨#[120]⟩ : ByteArray), Sv (⟨#[116, 119, 111, 32, 119, 111, 114, 100, 115]⟩ : ByteArray), Sv (⟨#[55]⟩ : ByteArray), Sv (⟨#[65]⟩ : ByteArray)] 1) i = (fS ([(⟨#[]⟩ : ByteArray), (⟨#[110, 101, 119]⟩ : ByteArray), (⟨#[120]⟩ : ByteArray), (⟨#[116, 119, 111, 32, 119, 111, 114, 100, 115]⟩ : ByteArray), (⟨#[55]⟩ : ByteArray), (⟨#[65]⟩ : ByteArray)])) i ∨ (AV.idsL ((fS ([(⟨#[]⟩ : ByteArray), (⟨#[110, 101, 119]⟩ : ByteArray), (⟨#[120]⟩ : ByteArray), (⟨#[116, 119, 111, 32, 119, 111, 114, 100, 115]⟩ : ByteArray), (⟨#[55]⟩ : ByteArray), (⟨#[65]⟩ : ByteArray)])) i) = [] ∧ leL (fun _ => none) false ((litF [Sv (⟨#[]⟩ : ByteArray), Sv (⟨#[110, 101, 119]⟩ : ByteArray), Sv (⟨#[120]⟩ : ByteArray), Sv (⟨#[116, 119, 111, 32, 119, 111, 114, 100, 115]⟩ : ByteArray), Sv (⟨#[55]⟩ : ByteArray), Sv (⟨#[65]⟩ : ByteArray)] 1) i) ((fS ([(⟨#[]⟩ : ByteArray), (⟨#[110, 101, 119]⟩ : ByteArray), (⟨#[120]⟩ : ByteArray), (⟨#[116, 119, 111, 32, 119, 111, 114, 100, 115]⟩ : ByteArray), (⟨#[55]⟩ : ByteArray), (⟨#[65]⟩ : ByteArray)])) i))) ∧ (((bxl00Src s'_26 : Ob) = bxl00Src s'_26 ∨ obLe noOb true (bxl00Src s'_26) (bxl00Src s'_26)) ∧ taggedO false (bxl00Src s'_26)) ∧ True] (by kernel_rfl) ⟨⟨hc27, rfl, ⟨(fun h => by cases h), rfl, (by first | rfl | (simp; done) | (simp; omega) | omega), fun i hi => .inl (match i, hi with | 0, _ => rfl | 1, _ => rfl | 2, _ => rfl | 3, _ => rfl | 4, _ => rfl | 5, _ => rfl | (i + 6), h => absurd h (by simp))⟩, ⟨.inl rfl, (by simp [taggedO, taggedL, tagged, tagU8])⟩, trivial⟩, trivial⟩ ?_
       refine xe_then ?_
       refine x_ret ?_
       refine xe_end (l_2, (Edit.mk (1 + v_3) v_26 (v_4 + v_5)), v_27) (show (l_2.Text.size ≤ 300) ∧ (v_27.size ≤ 16) ∧ (True) from ⟨(by first | omega | assumption | rfl | (simp; done) | (simp; omega) | (simp_all; done)), (by first | omega | assumption | rfl | (simp; done) | (simp; omega) | (simp_all; done)), trivial⟩) (trivial) (.tup [agCellRow l_2, .agg [I (1 + v_3), I v_26, I (v_4 + v_5)], Sv v_27]) (by kernel_rfl) (.inl rfl) (fun _ => rfl) (fun _ => (by simp [tagged, taggedL]))
      ·refine x_reg [(0, .dec false)] [2, 3, 5, 6, 7, 8, 47, 54] [2, 3, 6, 8, 7001] [.ref 2 0, .ref 3 0, .ref 7001 0, .ref 6 0, I (l_2.Text.size : Int), .ref 8 0, I v_23, Bv false] [some (.box [Sv (⟨#[]⟩ : ByteArray), I 0, I 0, I 0]), some (.box [I 0, I 0, I 0]), some (bxCellRow l_2), some (.box [I (1 + v_3), I v_4, I (v_4 + v_5)]), some (bxl00Src s'_23)] [¬ (v_23 = 1)] (by kernel_rfl) ⟨h10, trivial⟩ ?_
       refine xe_then ?_
       refine x_false rfl ?_
       refine x_seq ?_
       by_cases h11 : v_23 = 2
       ·refine x_reg [(0, .dec true)] [2, 3, 5, 6, 7, 8, 63] [2, 3, 6, 8, 7001] [.ref 2 0, .ref 3 0, .ref 7001 0, .ref 6 0, I (l_2.Text.size : Int), .ref 8 0, Bv true] [some (.box [Sv (⟨#[]⟩ : ByteArray), I 0, I 0, I 0]), some (.box [I 0, I 0, I 0]), some (bxCellRow l_2), some (.box [I (1 + v_3), I v_4, I (v_4 + v_5)]), some (bxl00Src s'_23)] [v_23 = 2] (by kernel_rfl) ⟨h11, trivial⟩ ?_
        refine xe_then ?_
        refine x_true rfl ?_
        obtain ⟨v_28, s'_28, hx28_0, hx28_1, hx28_2, hx28_3, hc28⟩ := among_ok s'_23 ([(-1), (l_2.Text.size : Int), ((l_2.Text.size : Int) + 1)]) (by first | assumption | (simp only [okSrc] at *; simp_all; done)) (by omega) (by simp)
        have ham_v_28 : v_28 = (-1) ∨ v_28 = (l_2.Text.size : Int) ∨ v_28 = ((l_2.Text.size : Int) + 1) := by simpa using hx28_0
        refine x_reg [(4, .new 69), (5, .lend [(7001, bxl00Src s'_23, bxl00Src s'_28)] [] [(true, .ref 7001 0), (false, slI false ([(-1), (l_2.Text.size : Int), ((l_2.Text.size : Int) + 1)]))] true (I v_28))] [2, 3, 5, 6, 8] [2, 3, 6, 8, 7001] [.ref 2 0, .ref 3 0, .ref 7001 0, .ref 6 0, .ref 8 0] [some (.box [Sv (⟨#[]⟩ : ByteArray), I 0, I 0, I 0]), some (.box [I 0, I 0, I 0]), some (bxCellRow l_2), some (.box [I (1 + v_3), I v_4, I v_28]), some (bxl00Src s'_28)] [inR .i64 ((l_2.Text.size : Int) + 1), CallOK Tryz.prog 42 [.ref 7001 0, slI false ([(-1), (l_2.Text.size : Int), ((l_2.Text.size : Int) + 1)])] (lookO [(7001, bxl00Src s'_23)]) true (I v_28) (lookO [(7001, bxl00Src s'_28)]) ∧ ((.ref 7001 0 : AV) = .ref 7001 0) ∧ ((false = true → true = true) ∧ 1 = 1 ∧ 3 = (([(-1), (l_2.Text.size : Int), ((l_2.Text.size : Int) + 1)]).length) ∧ ∀ i, i < (([(-1), (l_2.Text.size : Int), ((l_2.Text.size : Int) + 1)]).length) → (litF [I (-1), I (l_2.Text.size : Int), I ((l_2.Text.size : Int) + 1)] 1) i = (fI ([(-1), (l_2.Text.size : Int), ((l_2.Text.size : Int) + 1)])) i ∨ (AV.idsL ((fI ([(-1), (l_2.Text.size : Int), ((l_2.Text.size : Int) + 1)])) i) = [] ∧ leL (fun _ => none) false ((litF [I (-1), I (l_2.Text.size : Int), I ((l_2.Text.size : Int) + 1)] 1) i) ((fI ([(-1), (l_2.Text.size : Int), ((l_2.Text.size : Int) + 1)])) i))) ∧ (((bxl00Src s'_23 : Ob) = bxl00Src s'_23 ∨ obLe noOb true (bxl00Src s'_23) (bxl00Src s'_23)) ∧ taggedO false (bxl00Src s'_23)) ∧ True] (by kernel_rfl) ⟨(inR_i64 (by omega) (by omega)), ⟨hc28, rfl, ⟨(fun h => by cases h), rfl, (by first | rfl | (simp; done) | (simp; omega) | omega), fun i hi => .inl (match i, hi with | 0, _ => rfl | 1, _ => rfl | 2, _ => rfl | (i + 3), h => absurd h (by simp))⟩, ⟨.inl rfl, (by simp [taggedO, taggedL, tagged, tagU8])⟩, trivial⟩, trivial⟩ ?_
        refine xe_block 0 ?_
        refine xe_then ?_
        refine x_seq ?_
        obtain ⟨v_29, s'_29, hx29_0, hx29_1, hx29_2, hx29_3, hc29⟩ := text_ok s'_28 ([(⟨#[]⟩ : ByteArray), (⟨#[110, 101, 119]⟩ : ByteArray), (⟨#[120]⟩ : ByteArray), (⟨#[116, 119, 111, 32, 119, 111, 114, 100, 115]⟩ : ByteArray), (⟨#[55]⟩ : ByteArray), (⟨#[65]⟩ : ByteArray)]) (by first | assumption | (simp only [okSrc] at *; simp_all; done)) (by omega) (by decide)
        refine x_reg [(3, .new 75), (4, .lend [(7001, bxl00Src s'_28, bxl00Src s'_29)] [] [(true, .ref 7001 0), (false, slS false ([(⟨#[]⟩ : ByteArray), (⟨#[110, 101, 119]⟩ : ByteArray), (⟨#[120]⟩ : ByteArray), (⟨#[116, 119, 111, 32, 119, 111, 114, 100, 115]⟩ : ByteArray), (⟨#[55]⟩ : ByteArray), (⟨#[65]⟩ : ByteArray)]))] true (Sv v_29))] [2, 3, 4] [2, 3] [.ref 2 0, .ref 3 0, Sv v_29] [some (bxCellRow l_2), some (.box [I (1 + v_3), I v_4, I v_28])] [CallOK Tryz.prog 58 [.ref 7001 0, slS false ([(⟨#[]⟩ : ByteArray), (⟨#[110, 101, 119]⟩ : ByteArray), (⟨#[120]⟩ : ByteArray), (⟨#[116, 119, 111, 32, 119, 111, 114, 100, 115]⟩ : ByteArray), (⟨#[55]⟩ : ByteArray), (⟨#[65]⟩ : ByteArray)])] (lookO [(7001, bxl00Src s'_28)]) true (Sv v_29) (lookO [(7001, bxl00Src s'_29)]) ∧ ((.ref 7001 0 : AV) = .ref 7001 0) ∧ ((false = true → true = true) ∧ 1 = 1 ∧ 6 = (([(⟨#[]⟩ : ByteArray), (⟨#[110, 101, 119]⟩ : ByteArray), (⟨#[120]⟩ : ByteArray), (⟨#[116, 119, 111, 32, 119, 111, 114, 100, 115]⟩ : ByteArray), (⟨#[55]⟩ : ByteArray), (⟨#[65]⟩ : ByteArray)]).length) ∧ ∀ i, i < (([(⟨#[]⟩ : ByteArray), (⟨#[110, 101, 119]⟩ : ByteArray), (⟨#[120]⟩ : ByteArray), (⟨#[116, 119, 111, 32, 119, 111, 114, 100, 115]⟩ : ByteArray), (⟨#[55]⟩ : ByteArray), (⟨#[65]⟩ : ByteArray)]).length) → (litF [Sv (⟨#[]⟩ : ByteArray), Sv (⟨#[110, 101, 119]⟩ : ByteArray), Sv (⟨#[120]⟩ : ByteArray), Sv (⟨#[116, 119, 111, 32, 119, 111, 114, 100, 115]⟩ : ByteArray), Sv (⟨#[55]⟩ : ByteArray), Sv (⟨#[65]⟩ : ByteArray)] 1) i = (fS ([(⟨#[]⟩ : ByteArray), (⟨#[110, 101, 119]⟩ : ByteArray), (⟨#[120]⟩ : ByteArray), (⟨#[116, 119, 111, 32, 119, 111, 114, 100, 115]⟩ : ByteArray), (⟨#[55]⟩ : ByteArray), (⟨#[65]⟩ : ByteArray)])) i ∨ (AV.idsL ((fS ([(⟨#[]⟩ : ByteArray), (⟨#[110, 101, 119]⟩ : ByteArray), (⟨#[120]⟩ : ByteArray), (⟨#[116, 119, 111, 32, 119, 111, 114, 100, 115]⟩ : ByteArray), (⟨#[55]⟩ : ByteArray), (⟨#[65]⟩ : ByteArray)])) i) = [] ∧ leL (fun _ => none) false ((litF [Sv (⟨#[]⟩ : ByteArray), Sv (⟨#[110, 101, 119]⟩ : ByteArray), Sv (⟨#[120]⟩ : ByteArray), Sv (⟨#[116, 119, 111, 32, 119, 111, 114, 100, 115]⟩ : ByteArray), Sv (⟨#[55]⟩ : ByteArray), Sv (⟨#[65]⟩ : ByteArray)] 1) i) ((fS ([(⟨#[]⟩ : ByteArray), (⟨#[110, 101, 119]⟩ : ByteArray), (⟨#[120]⟩ : ByteArray), (⟨#[116, 119, 111, 32, 119, 111, 114, 100, 115]⟩ : ByteArray), (⟨#[55]⟩ : ByteArray), (⟨#[65]⟩ : ByteArray)])) i))) ∧ (((bxl00Src s'_28 : Ob) = bxl00Src s'_28 ∨ obLe noOb true (bxl00Src s'_28) (bxl00Src s'_28)) ∧ taggedO false (bxl00Src s'_28)) ∧ True] (by kernel_rfl) ⟨⟨hc29, rfl, ⟨(fun h => by cases h), rfl, (by first | rfl | (simp; done) | (simp; omega) | omega), fun i hi => .inl (match i, hi with | 0, _ => rfl | 1, _ => rfl | 2, _ => rfl | 3, _ => rfl | 4, _ => rfl | 5, _ => rfl | (i + 6), h => absurd h (by simp))⟩, ⟨.inl rfl, (by simp [taggedO, taggedL, tagged, tagU8])⟩, trivial⟩, trivial⟩ ?_
        refine xe_then ?_
        refine x_ret ?_
        refine xe_end (l_2, (Edit.mk (1 + v_3) v_4 v_28), v_29) (show (l_2.Text.size ≤ 300) ∧ (v_29.size ≤ 16) ∧ (True) from ⟨(by first | omega | assumption | rfl | (simp; done) | (simp; omega) | (simp_all; done)), (by first | omega | assumption | rfl | (simp; done) | (simp; omega) | (simp_all; done)), trivial⟩) (trivial) (.tup [agCellRow l_2, .agg [I (1 + v_3), I v_4, I v_28], Sv v_29]) (by kernel_rfl) (.inl rfl) (fun _ => rfl) (fun _ => (by simp [tagged, taggedL]))
       ·refine x_reg [(0, .dec false)] [2, 3, 5, 6, 7, 8, 63] [2, 3, 6, 8, 7001] [.ref 2 0, .ref 3 0, .ref 7001 0, .ref 6 0, I (l_2.Text.size : Int), .ref 8 0, Bv false] [some (.box [Sv (⟨#[]⟩ : ByteArray), I 0, I 0, I 0]), some (.box [I 0, I 0, I 0]), some (bxCellRow l_2), some (.box [I (1 + v_3), I v_4, I (v_4 + v_5)]), some (bxl00Src s'_23)] [¬ (v_23 = 2)] (by kernel_rfl) ⟨h11, trivial⟩ ?_
        refine xe_then ?_
        refine x_false rfl ?_
        refine x_skip ?_
        refine xe_block 0 ?_
        refine xe_then ?_
        refine x_seq ?_
        obtain ⟨v_30, s'_30, hx30_0, hx30_1, hx30_2, hx30_3, hc30⟩ := text_ok s'_23 ([(⟨#[]⟩ : ByteArray), (⟨#[110, 101, 119]⟩ : ByteArray), (⟨#[120]⟩ : ByteArray), (⟨#[116, 119, 111, 32, 119, 111, 114, 100, 115]⟩ : ByteArray), (⟨#[55]⟩ : ByteArray), (⟨#[65]⟩ : ByteArray)]) (by first | assumption | (simp only [okSrc] at *; simp_all; done)) (by omega) (by decide)
        refine x_reg [(3, .new 75), (4, .lend [(7001, bxl00Src s'_23, bxl00Src s'_30)] [] [(true, .ref 7001 0), (false, slS false ([(⟨#[]⟩ : ByteArray), (⟨#[110, 101, 119]⟩ : ByteArray), (⟨#[120]⟩ : ByteArray), (⟨#[116, 119, 111, 32, 119, 111, 114, 100, 115]⟩ : ByteArray), (⟨#[55]⟩ : ByteArray), (⟨#[65]⟩ : ByteArray)]))] true (Sv v_30))] [2, 3, 4] [2, 3] [.ref 2 0, .ref 3 0, Sv v_30] [some (bxCellRow l_2), some (.box [I (1 + v_3), I v_4, I (v_4 + v_5)])] [CallOK Tryz.prog 58 [.ref 7001 0, slS false ([(⟨#[]⟩ : ByteArray), (⟨#[110, 101, 119]⟩ : ByteArray), (⟨#[120]⟩ : ByteArray), (⟨#[116, 119, 111, 32, 119, 111, 114, 100, 115]⟩ : ByteArray), (⟨#[55]⟩ : ByteArray), (⟨#[65]⟩ : ByteArray)])] (lookO [(7001, bxl00Src s'_23)]) true (Sv v_30) (lookO [(7001, bxl00Src s'_30)]) ∧ ((.ref 7001 0 : AV) = .ref 7001 0) ∧ ((false = true → true = true) ∧ 1 = 1 ∧ 6 = (([(⟨#[]⟩ : ByteArray), (⟨#[110, 101, 119]⟩ : ByteArray), (⟨#[120]⟩ : ByteArray), (⟨#[116, 119, 111, 32, 119, 111, 114, 100, 115]⟩ : ByteArray), (⟨#[55]⟩ : ByteArray), (⟨#[65]⟩ : ByteArray)]).length) ∧ ∀ i, i < (([(⟨#[]⟩ : ByteArray), (⟨#[110, 101, 119]⟩ : ByteArray), (⟨#[120]⟩ : ByteArray), (⟨#[116, 119, 111, 32, 119, 111, 114, 100, 115]⟩ : ByteArray), (⟨#[55]⟩ : ByteArray), (⟨#[65]⟩ : ByteArray)]).length) → (litF [Sv (⟨#[]⟩ : ByteArray), Sv (⟨#[110, 101, 119]⟩ : ByteArray), Sv (⟨#[120]⟩ : ByteArray), Sv (⟨#[116, 119, 111, 32, 119, 111, 114, 100, 115]⟩ : ByteArray), Sv (⟨#[55]⟩ : ByteArray), Sv (⟨#[65]⟩ : ByteArray)] 1) i = (fS ([(⟨#[]⟩ : ByteArray), (⟨#[110, 101, 119]⟩ : ByteArray), (⟨#[120]⟩ : ByteArray), (⟨#[116, 119, 111, 32, 119, 111, 114, 100, 115]⟩ : ByteArray), (⟨#[55]⟩ : ByteArray), (⟨#[65]⟩ : ByteArray)])) i ∨ (AV.idsL ((fS ([(⟨#[]⟩ : ByteArray), (⟨#[110, 101, 119]⟩ : ByteArray), (⟨#[120]⟩ : ByteArray), (⟨#[116, 119, 111, 32, 119, 111, 114, 100, 115]⟩ : ByteArray), (⟨#[55]⟩ : ByteArray), (⟨#[65]⟩ : ByteArray)])) i) = [] ∧ leL (fun _ => none) false ((litF [Sv (⟨#[]⟩ : ByteArray), Sv (⟨#[110, 101, 119]⟩ : ByteArray), Sv (⟨#[120]⟩ : ByteArray), Sv (⟨#[116, 119, 111, 32, 119, 111, 114, 100, 115]⟩ : ByteArray), Sv (⟨#[55]⟩ : ByteArray), Sv (⟨#[65]⟩ : ByteArray)] 1) i) ((fS ([(⟨#[]⟩ : ByteArray), (⟨#[110, 101, 119]⟩ : ByteArray), (⟨#[120]⟩ : ByteArray), (⟨#[116, 119, 111, 32, 119, 111, 114, 100, 115]⟩ : ByteArray), (⟨#[55]⟩ : ByteArray), (⟨#[65]⟩ : ByteArray)])) i))) ∧ (((bxl00Src s'_23 : Ob) = bxl00Src s'_23 ∨ obLe noOb true (bxl00Src s'_23) (bxl00Src s'_23)) ∧ taggedO false (bxl00Src s'_23)) ∧ True] (by kernel_rfl) ⟨⟨hc30, rfl, ⟨(fun h => by cases h), rfl, (by first | rfl | (simp; done) | (simp; omega) | omega), fun i hi => .inl (match i, hi with | 0, _ => rfl | 1, _ => rfl | 2, _ => rfl | 3, _ => rfl | 4, _ => rfl | 5, _ => rfl | (i + 6), h => absurd h (by simp))⟩, ⟨.inl rfl, (by simp [taggedO, taggedL, tagged, tagU8])⟩, trivial⟩, trivial⟩ ?_
        refine xe_then ?_
        refine x_ret ?_
        refine xe_end (l_2, (Edit.mk (1 + v_3) v_4 (v_4 + v_5)), v_30) (show (l_2.Text.size ≤ 300) ∧ (v_30.size ≤ 16) ∧ (True) from ⟨(by first | omega | assumption | rfl | (simp; done) | (simp; omega) | (simp_all; done)), (by first | omega | assumption | rfl | (simp; done) | (simp; omega) | (simp_all; done)), trivial⟩) (trivial) (.tup [agCellRow l_2, .agg [I (1 + v_3), I v_4, I (v_4 + v_5)], Sv v_30]) (by kernel_rfl) (.inl rfl) (fun _ => rfl) (fun _ => (by simp [tagged, taggedL]))
  obtain ⟨⟨l, e, v⟩, ⟨hh0, hh1, _⟩, hc⟩ := hh
  exact ⟨l, e, v, hh0, hh1, hc⟩


-- spec.DrawApplyEdit
theorem DrawApplyEdit_ok (code : List Int) (hc : (∀ j, j < code.length → 0 ≤ at_ code j ∧ at_ code j ≤ 255) ∧ code.length ≤ 4611686018427387904) : ∃ (l : CellRow) (e : Edit) (v : ByteArray), (l.Text.size ≤ 300) ∧ (v.size ≤ 16) ∧ Con Tryz.prog 22 [slU8 false code] true (.tup [agCellRow l, agEdit e, Sv v]) := by
  have hh : ∃ r : CellRow × Edit × ByteArray, ((r.1.Text.size ≤ 300) ∧ (r.2.2.size ≤ 16) ∧ (True)) ∧ CallOK Tryz.prog 22 [slU8 false code] (lookO []) true (.tup [agCellRow r.1, agEdit r.2.1, Sv r.2.2]) (lookO []) := by
    refine fn_okX (Φ := fun r : CellRow × Edit × ByteArray => (r.1.Text.size ≤ 300) ∧ (r.2.2.size ≤ 16) ∧ (True)) [] (fun r => []) (fn := Tryz.f22) (nt := 10) Tryz.func22 rfl rfl (args := [slU8 false code]) rfl (allcons (.inl ⟨rfl, tagU8 false _⟩) allnil) (res := fun r => .tup [agCellRow r.1, agEdit r.2.1, Sv r.2.2]) ?_
    refine x_seq ?_
    refine x_reg [(0, .new 2), (1, .new 3)] [0, 2, 3] [2, 3] [slU8 false code, .ref 2 0, .ref 3 0] [some (.box [Sv (⟨#[]⟩ : ByteArray), I 0, I 0, I 0]), some (.box [I 0, I 0, I 0])] [] (by kernel_rfl) trivial ?_
    refine xe_then ?_
    refine x_seq ?_
    obtain ⟨l_1, e_1, v_1, hx1_0, hx1_1, hc1⟩ := l23Ask_ok code (by assumption)
    refine x_reg [(1, .call [(true, slU8 false code)] true (.tup [agCellRow l_1, agEdit e_1, Sv v_1]))] [2, 3, 4] [2, 3] [.ref 2 0, .ref 3 0, Sv v_1] [some (bxCellRow l_1), some (bxEdit e_1)] [Con Tryz.prog 51 [slU8 false code] true (.tup [agCellRow l_1, agEdit e_1, Sv v_1]) ∧ ((slU8 false code : AV) = slU8 false code) ∧ True] (by kernel_rfl) ⟨⟨hc1, rfl, trivial⟩, trivial⟩ ?_
    refine xe_then ?_
    refine x_ret ?_
    refine xe_end (l_1, e_1, v_1) (show (l_1.Text.size ≤ 300) ∧ (v_1.size ≤ 16) ∧ (True) from ⟨(by first | omega | assumption | rfl | (simp; done) | (simp; omega) | (simp_all; done)), (by first | omega | assumption | rfl | (simp; done) | (simp; omega) | (simp_all; done)), trivial⟩) (trivial) (.tup [agCellRow l_1, agEdit e_1, Sv v_1]) (by kernel_rfl) (.inl rfl) (fun _ => rfl) (fun _ => (by simp [tagged, taggedL]))
  obtain ⟨⟨l, e, v⟩, ⟨hh0, hh1, _⟩, hc⟩ := hh
  exact ⟨l, e, v, hh0, hh1, hc⟩


-- strings.Trim
theorem trim_ok (s t : ByteArray) (hs : s.size ≤ 9223372036854775807) (hcs : t.size < 4294967281) (ha : t.data.toList.all (fun b => decide (b.toNat < 128)) = true) : Con Tryz.prog 79 [Sv s, Sv t] true (Sv (trimB s t)) := by
  refine con_of_calls (vals := [.string s, .string t]) fun w _ => ?_
  refine (Any.strings_Trim_laid Tryz.lays160 (by kernel_rfl) s t w hs hcs (ascii_of_all ha)).mono ?_
  rintro e w' ⟨rfl, hb⟩
  exact ⟨rfl, hb⟩


-- impl.areCells
theorem areCells_ok (text : ByteArray) (ok : text.size ≤ 9223372036854775807) : Con Tryz.prog 48 [Sv text] true (Bv (lettersB text)) := by
  refine fn_ok (fn := Tryz.f48) (nt := 6) Tryz.func48 rfl rfl rfl rfl (by simp [taggedL, tagged]) fun B hB => ?_
  refine aw_seq ?_
  refine aw_reg [] [0] [] [Sv text] [] [] (by kernel_rfl) hB trivial ?_
  refine ae_then ?_
  refine aw_seq ?_
  refine aw_reg [(1, .call [(true, Sv text), (true, Sv (⟨#[97, 98, 99, 100, 101, 102, 103, 104, 105, 106, 107, 108, 109, 110, 111, 112, 113, 114, 115, 116, 117, 118, 119, 120, 121, 122, 48, 49, 50, 51, 52, 53, 54, 55, 56, 57, 32]⟩ : ByteArray))] true (Sv (trimB text (⟨#[97, 98, 99, 100, 101, 102, 103, 104, 105, 106, 107, 108, 109, 110, 111, 112, 113, 114, 115, 116, 117, 118, 119, 120, 121, 122, 48, 49, 50, 51, 52, 53, 54, 55, 56, 57, 32]⟩ : ByteArray))))] [2] [] [Bv (decide ((trimB text (⟨#[97, 98, 99, 100, 101, 102, 103, 104, 105, 106, 107, 108, 109, 110, 111, 112, 113, 114, 115, 116, 117, 118, 119, 120, 121, 122, 48, 49, 50, 51, 52, 53, 54, 55, 56, 57, 32]⟩ : ByteArray)) = (⟨#[]⟩ : ByteArray)))] [] [Con Tryz.prog 79 [Sv text, Sv (⟨#[97, 98, 99, 100, 101, 102, 103, 104, 105, 106, 107, 108, 109, 110, 111, 112, 113, 114, 115, 116, 117, 118, 119, 120, 121, 122, 48, 49, 50, 51, 52, 53, 54, 55, 56, 57, 32]⟩ : ByteArray)] true (Sv (trimB text (⟨#[97, 98, 99, 100, 101, 102, 103, 104, 105, 106, 107, 108, 109, 110, 111, 112, 113, 114, 115, 116, 117, 118, 119, 120, 121, 122, 48, 49, 50, 51, 52, 53, 54, 55, 56, 57, 32]⟩ : ByteArray))) ∧ ((Sv text : AV) = Sv text) ∧ ((Sv (⟨#[97, 98, 99, 100, 101, 102, 103, 104, 105, 106, 107, 108, 109, 110, 111, 112, 113, 114, 115, 116, 117, 118, 119, 120, 121, 122, 48, 49, 50, 51, 52, 53, 54, 55, 56, 57, 32]⟩ : ByteArray) : AV) = Sv (⟨#[97, 98, 99, 100, 101, 102, 103, 104, 105, 106, 107, 108, 109, 110, 111, 112, 113, 114, 115, 116, 117, 118, 119, 120, 121, 122, 48, 49, 50, 51, 52, 53, 54, 55, 56, 57, 32]⟩ : ByteArray)) ∧ True] (by kernel_rfl) hB ⟨⟨(trim_ok text (⟨#[97, 98, 99, 100, 101, 102, 103, 104, 105, 106, 107, 108, 109, 110, 111, 112, 113, 114, 115, 116, 117, 118, 119, 120, 121, 122, 48, 49, 50, 51, 52, 53, 54, 55, 56, 57, 32]⟩ : ByteArray) ok (by decide) (by decide)), rfl, rfl, trivial⟩, trivial⟩ ?_
  refine ae_then ?_
  refine aw_ret ?_
  refine ae_ret hB (Bv (decide ((trimB text (⟨#[97, 98, 99, 100, 101, 102, 103, 104, 105, 106, 107, 108, 109, 110, 111, 112, 113, 114, 115, 116, 117, 118, 119, 120, 121, 122, 48, 49, 50, 51, 52, 53, 54, 55, 56, 57, 32]⟩ : ByteArray)) = (⟨#[]⟩ : ByteArray)))) (by kernel_rfl) (.inl (by refine congrArg Bv ?_; rw [Bool.eq_iff_iff, decide_eq_true_iff]; exact trim_cells text)) rfl (fun _ => trivial)


-- impl.within
theorem within_ok (n : Int) (low : Int) (high : Int) : Con Tryz.prog 44 [I n, I low, I high] true (Bv (inB n low high)) := by
  refine fn_ok (fn := Tryz.f44) (nt := 15) Tryz.func44 rfl rfl rfl rfl (by simp [taggedL, tagged]) fun B hB => ?_
  refine aw_seq ?_
  refine aw_reg [] [0, 1, 2] [] [I n, I low, I high] [] [] (by kernel_rfl) hB trivial ?_
  refine ae_then ?_
  refine aw_seq ?_
  by_cases h1 : low ≤ n
  ·refine aw_reg [(2, .dec true)] [6] [] [Bv (decide (n ≤ high))] [] [low ≤ n] (by kernel_rfl) hB ⟨h1, trivial⟩ ?_
   refine ae_then ?_
   refine aw_ret ?_
   refine ae_ret hB (Bv (decide (n ≤ high))) (by kernel_rfl) (.inl (by first | rfl | (refine congrArg Bv ?_; simp [inB, *]; done) | (refine congrArg Bv ?_; simp [inB, *]; omega) | (refine congrArg Bv ?_; simp_all [inB]; done) | (refine congrArg Bv ?_; simp_all [inB]; omega))) rfl (fun _ => trivial)
  ·refine aw_reg [(2, .dec false)] [6] [] [Bv false] [] [¬ (low ≤ n)] (by kernel_rfl) hB ⟨h1, trivial⟩ ?_
   refine ae_then ?_
   refine aw_ret ?_
   refine ae_ret hB (Bv false) (by kernel_rfl) (.inl (by first | rfl | (refine congrArg Bv ?_; simp [inB, *]; done) | (refine congrArg Bv ?_; simp [inB, *]; omega) | (refine congrArg Bv ?_; simp_all [inB]; done) | (refine congrArg Bv ?_; simp_all [inB]; omega))) rfl (fun _ => trivial)


-- impl.isCoord
theorem isCoord_ok (n : Int) : Con Tryz.prog 43 [I n] true (Bv (inB n 0 4095)) := by
  refine fn_ok (fn := Tryz.f43) (nt := 5) Tryz.func43 rfl rfl rfl rfl (by simp [taggedL, tagged]) fun B hB => ?_
  refine aw_seq ?_
  refine aw_reg [] [0] [] [I n] [] [] (by kernel_rfl) hB trivial ?_
  refine ae_then ?_
  refine aw_seq ?_
  refine aw_reg [(1, .call [(true, I n), (true, I 0), (true, I 4095)] true (Bv (inB n 0 4095)))] [2] [] [Bv (inB n 0 4095)] [] [Con Tryz.prog 44 [I n, I 0, I 4095] true (Bv (inB n 0 4095)) ∧ ((I n : AV) = I n) ∧ ((I 0 : AV) = I 0) ∧ ((I 4095 : AV) = I 4095) ∧ True] (by kernel_rfl) hB ⟨⟨(within_ok n 0 4095), rfl, rfl, rfl, trivial⟩, trivial⟩ ?_
  refine ae_then ?_
  refine aw_ret ?_
  refine ae_ret hB (Bv (inB n 0 4095)) (by kernel_rfl) (.inl rfl) rfl (fun _ => trivial)


-- impl.ValidCellRow
theorem ValidCellRow_ok (l : CellRow) (ok : l.Text.size ≤ 9223372036854775807) : Con Tryz.prog 17 [agCellRow l] true (Bv (okRow l)) := by
  refine fn_ok (fn := Tryz.f17) (nt := 27) Tryz.func17 rfl rfl rfl rfl (by simp [taggedL, tagged]) fun B hB => ?_
  refine aw_seq ?_
  refine aw_reg [(0, .new 1)] [1] [1] [.ref 1 0] [some (bxCellRow l)] [] (by kernel_rfl) hB trivial ?_
  refine ae_then ?_
  refine aw_seq ?_
  by_cases h1 : (l.Text.size : Int) ≤ 60
  ·rcases Bool.eq_false_or_eq_true (lettersB l.Text) with h2 | h2
   ·rcases Bool.eq_false_or_eq_true (inB l.X 0 4095) with h3 | h3
    ·rcases Bool.eq_false_or_eq_true (inB l.Y 0 4095) with h4 | h4
     ·refine aw_reg [(3, .dec true), (7, .call [(true, Sv l.Text)] true (Bv true)), (12, .call [(true, I l.X)] true (Bv true)), (17, .call [(true, I l.Y)] true (Bv true)), (22, .call [(true, I l.Cell), (true, I 2), (true, I 60)] true (Bv (inB l.Cell 2 60)))] [2] [] [Bv (inB l.Cell 2 60)] [] [(l.Text.size : Int) ≤ 60, Con Tryz.prog 48 [Sv l.Text] true (Bv true) ∧ ((Sv l.Text : AV) = Sv l.Text) ∧ True, Con Tryz.prog 43 [I l.X] true (Bv true) ∧ ((I l.X : AV) = I l.X) ∧ True, Con Tryz.prog 43 [I l.Y] true (Bv true) ∧ ((I l.Y : AV) = I l.Y) ∧ True, Con Tryz.prog 44 [I l.Cell, I 2, I 60] true (Bv (inB l.Cell 2 60)) ∧ ((I l.Cell : AV) = I l.Cell) ∧ ((I 2 : AV) = I 2) ∧ ((I 60 : AV) = I 60) ∧ True] (by kernel_rfl) hB ⟨h1, ⟨(con_bool h2 (areCells_ok l.Text ok)), rfl, trivial⟩, ⟨(con_bool h3 (isCoord_ok l.X)), rfl, trivial⟩, ⟨(con_bool h4 (isCoord_ok l.Y)), rfl, trivial⟩, ⟨(within_ok l.Cell 2 60), rfl, rfl, rfl, trivial⟩, trivial⟩ ?_
      refine ae_then ?_
      refine aw_ret ?_
      refine ae_ret hB (Bv (inB l.Cell 2 60)) (by kernel_rfl) (.inl (by first | rfl | (refine congrArg Bv ?_; simp [okRow, inB, *]; done) | (refine congrArg Bv ?_; simp [okRow, inB, *]; omega) | (refine congrArg Bv ?_; simp_all [okRow, inB]; done) | (refine congrArg Bv ?_; simp_all [okRow, inB]; omega))) rfl (fun _ => trivial)
     ·refine aw_reg [(3, .dec true), (7, .call [(true, Sv l.Text)] true (Bv true)), (12, .call [(true, I l.X)] true (Bv true)), (17, .call [(true, I l.Y)] true (Bv false))] [2] [] [Bv false] [] [(l.Text.size : Int) ≤ 60, Con Tryz.prog 48 [Sv l.Text] true (Bv true) ∧ ((Sv l.Text : AV) = Sv l.Text) ∧ True, Con Tryz.prog 43 [I l.X] true (Bv true) ∧ ((I l.X : AV) = I l.X) ∧ True, Con Tryz.prog 43 [I l.Y] true (Bv false) ∧ ((I l.Y : AV) = I l.Y) ∧ True] (by kernel_rfl) hB ⟨h1, ⟨(con_bool h2 (areCells_ok l.Text ok)), rfl, trivial⟩, ⟨(con_bool h3 (isCoord_ok l.X)), rfl, trivial⟩, ⟨(con_bool h4 (isCoord_ok l.Y)), rfl, trivial⟩, trivial⟩ ?_
      refine ae_then ?_
      refine aw_ret ?_
      refine ae_ret hB (Bv false) (by kernel_rfl) (.inl (by first | rfl | (refine congrArg Bv ?_; simp [okRow, inB, *]; done) | (refine congrArg Bv ?_; simp [okRow, inB, *]; omega) | (refine congrArg Bv ?_; simp_all [okRow, inB]; done) | (refine congrArg Bv ?_; simp_all [okRow, inB]; omega))) rfl (fun _ => trivial)
    ·refine aw_reg [(3, .dec true), (7, .call [(true, Sv l.Text)] true (Bv true)), (12, .call [(true, I l.X)] true (Bv false))] [2] [] [Bv false] [] [(l.Text.size : Int) ≤ 60, Con Tryz.prog 48 [Sv l.Text] true (Bv true) ∧ ((Sv l.Text : AV) = Sv l.Text) ∧ True, Con Tryz.prog 43 [I l.X] true (Bv false) ∧ ((I l.X : AV) = I l.X) ∧ True] (by kernel_rfl) hB ⟨h1, ⟨(con_bool h2 (areCells_ok l.Text ok)), rfl, trivial⟩, ⟨(con_bool h3 (isCoord_ok l.X)), rfl, trivial⟩, trivial⟩ ?_
     refine ae_then ?_
     refine aw_ret ?_
     refine ae_ret hB (Bv false) (by kernel_rfl) (.inl (by first | rfl | (refine congrArg Bv ?_; simp [okRow, inB, *]; done) | (refine congrArg Bv ?_; simp [okRow, inB, *]; omega) | (refine congrArg Bv ?_; simp_all [okRow, inB]; done) | (refine congrArg Bv ?_; simp_all [okRow, inB]; omega))) rfl (fun _ => trivial)
   ·refine aw_reg [(3, .dec true), (7, .call [(true, Sv l.Text)] true (Bv false))] [2] [] [Bv false] [] [(l.Text.size : Int) ≤ 60, Con Tryz.prog 48 [Sv l.Text] true (Bv false) ∧ ((Sv l.Text : AV) = Sv l.Text) ∧ True] (by kernel_rfl) hB ⟨h1, ⟨(con_bool h2 (areCells_ok l.Text ok)), rfl, trivial⟩, trivial⟩ ?_
    refine ae_then ?_
    refine aw_ret ?_
    refine ae_ret hB (Bv false) (by kernel_rfl) (.inl (by first | rfl | (refine congrArg Bv ?_; simp [okRow, inB, *]; done) | (refine congrArg Bv ?_; simp [okRow, inB, *]; omega) | (refine congrArg Bv ?_; simp_all [okRow, inB]; done) | (refine congrArg Bv ?_; simp_all [okRow, inB]; omega))) rfl (fun _ => trivial)
  ·refine aw_reg [(3, .dec false)] [2] [] [Bv false] [] [¬ ((l.Text.size : Int) ≤ 60)] (by kernel_rfl) hB ⟨h1, trivial⟩ ?_
   refine ae_then ?_
   refine aw_ret ?_
   refine ae_ret hB (Bv false) (by kernel_rfl) (.inl (by first | rfl | (refine congrArg Bv ?_; simp [okRow, inB, *]; done) | (refine congrArg Bv ?_; simp [okRow, inB, *]; omega) | (refine congrArg Bv ?_; simp_all [okRow, inB]; done) | (refine congrArg Bv ?_; simp_all [okRow, inB]; omega))) rfl (fun _ => trivial)


theorem ba_ext (s : ByteArray) (a b : Nat) : (s.extract a b).size = min b s.size - a := by simp [ByteArray.size_extract]
theorem ba_nil : (⟨#[]⟩ : ByteArray).size = 0 := rfl
/-- The code of an edit of a line. -/
def chkI (l : CellRow) (e : Edit) (ins : ByteArray) : Int :=
  if okRow l = true ∧ lettersB ins = true ∧ inB e.Kind 1 3 = true then
    (if (0 ≤ e.From ∧ e.From ≤ e.To) ∧ e.To ≤ (l.Text.size : Int) ∧ (e.Kind = 3 → e.From = e.To) then
      (if e.Kind ≠ 1 ∧ 60 < (l.Text.size : Int) + (ins.size : Int) - (e.To - e.From) then 5 else 0) else 2) else 1
section
variable {l : CellRow} {e : Edit} {ins : ByteArray}
theorem chk_1 (h : ¬ (okRow l = true ∧ lettersB ins = true ∧ inB e.Kind 1 3 = true)) : chkI l e ins = 1 := by rw [chkI, if_neg h]
theorem chk_2 (h1 : okRow l = true) (h2 : lettersB ins = true) (h3 : inB e.Kind 1 3 = true) (h : ¬ ((0 ≤ e.From ∧ e.From ≤ e.To) ∧ e.To ≤ (l.Text.size : Int) ∧ (e.Kind = 3 → e.From = e.To))) : chkI l e ins = 2 := by rw [chkI, if_pos ⟨h1, h2, h3⟩, if_neg h]
theorem chk_5 (h1 : okRow l = true) (h2 : lettersB ins = true) (h3 : inB e.Kind 1 3 = true) (h : (0 ≤ e.From ∧ e.From ≤ e.To) ∧ e.To ≤ (l.Text.size : Int) ∧ (e.Kind = 3 → e.From = e.To)) (h4 : e.Kind ≠ 1 ∧ 60 < (l.Text.size : Int) + (ins.size : Int) - (e.To - e.From)) : chkI l e ins = 5 := by rw [chkI, if_pos ⟨h1, h2, h3⟩, if_pos h, if_pos h4]
theorem chk_0 (h1 : okRow l = true) (h2 : lettersB ins = true) (h3 : inB e.Kind 1 3 = true) (h : (0 ≤ e.From ∧ e.From ≤ e.To) ∧ e.To ≤ (l.Text.size : Int) ∧ (e.Kind = 3 → e.From = e.To)) (h4 : ¬ (e.Kind ≠ 1 ∧ 60 < (l.Text.size : Int) + (ins.size : Int) - (e.To - e.From))) : chkI l e ins = 0 := by rw [chkI, if_pos ⟨h1, h2, h3⟩, if_pos h, if_neg h4]
theorem chk_ok (h : chkI l e ins = 0) : okRow l = true ∧ lettersB ins = true ∧ (1 ≤ e.Kind ∧ e.Kind ≤ 3) ∧ (0 ≤ e.From ∧ e.From ≤ e.To) ∧ e.To ≤ (l.Text.size : Int) ∧ (e.Kind = 3 → e.From = e.To) ∧ (e.Kind = 1 ∨ (l.Text.size : Int) + (ins.size : Int) - (e.To - e.From) ≤ 60) := by
  unfold chkI at h
  split at h
  · rename_i h1
    split at h
    · rename_i h2
      split at h
      · cases h
      · rename_i h3
        exact ⟨h1.1, h1.2.1, inB_iff.1 h1.2.2, h2.1, h2.2.1, h2.2.2, by omega⟩
    · cases h
  · cases h
def applyT (l : CellRow) (e : Edit) (ins : ByteArray) : ByteArray := l.Text.extract 0 e.From.toNat ++ (if e.Kind = 1 then ⟨#[]⟩ else ins) ++ l.Text.extract e.To.toNat l.Text.size
/-- A line after an edit. -/
def applyL (l : CellRow) (e : Edit) (ins : ByteArray) : CellRow := ⟨applyT l e ins, l.X, l.Y, l.Cell⟩
def applyRow (l : CellRow) (e : Edit) (ins : ByteArray) : CellRow := if chkI l e ins = 0 then applyL l e ins else ⟨⟨#[]⟩, 0, 0, 0⟩
theorem applyRow_eq (h : chkI l e ins = 0) : applyRow l e ins = applyL l e ins := if_pos h
theorem applyRow_ne {k : Int} (h : chkI l e ins = k) (hk : k ≠ 0) : applyRow l e ins = ⟨⟨#[]⟩, 0, 0, 0⟩ := if_neg (by rw [h]; exact hk)
def invE (l : CellRow) (e : Edit) (ins : ByteArray) : Edit := if chkI l e ins = 0 then (if e.Kind = 1 then ⟨3, e.From, e.From⟩ else if e.Kind = 3 then ⟨1, e.From, e.From + (ins.size : Int)⟩ else ⟨2, e.From, e.From + (ins.size : Int)⟩) else ⟨0, 0, 0⟩
def invT (l : CellRow) (e : Edit) (ins : ByteArray) : ByteArray := if chkI l e ins = 0 then (if e.Kind = 3 then ⟨#[]⟩ else l.Text.extract e.From.toNat e.To.toNat) else ⟨#[]⟩
end
end Go.Proofs.YtebcbkejkpjeoaaGreatDoor.Ax
