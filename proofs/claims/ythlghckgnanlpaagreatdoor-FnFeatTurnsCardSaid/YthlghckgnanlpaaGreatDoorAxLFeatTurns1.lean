/- Contracts that the statement FnFeatTurns reaches, part 1. No conditions. -/
import Derived.Test.YthlghckgnanlpaaGreatDoorAxO
import Derived.Test.YthlghckgnanlpaaGreatDoorShelf
import Derived.Test.YthlghckgnanlpaaGreatDoorTie
import Derived.Test.YthlghckgnanlpaaGreatDoorCards
import Derived.LaidMore
import Derived.Lay
import Derived.Lib.IndexBytes
import Derived.Lib.ItoaNum
import Derived.Lib.ParseIntBCases
import Derived.Lib.ParseIntBTie
import Derived.Lib.SplitLaws
import Derived.OpenShut
import Derived.SevenTiedAt
import Derived.Stop.Joined
import Derived.Test.YthlghckgnanlpaaGreatDoorAxBd
import Derived.Test.YthlghckgnanlpaaGreatDoorAxGr
import Derived.Test.YthlghckgnanlpaaGreatDoorAxY
namespace Go.Proofs.YthlghckgnanlpaaGreatDoor.Ax
open Go.RowKit Go.ChangeShapes Go.WideShapes
set_option linter.unusedVariables false
set_option linter.unusedSimpArgs false


def cU8 (x : Int) : List AV := [.val (.int .u8 x)]
def fU8 (xs : List Int) (i : Nat) : List AV := cU8 (at_ xs i)
def slU8 (fr : Bool) (xs : List Int) : AV := .sl fr 1 xs.length (fU8 xs)
theorem tagcU8 (t : Bool) (x : Int) : taggedL t (cU8 x) := by simp [cU8, taggedL, tagged]
theorem tagU8 (t : Bool) (xs : List Int) : tagged t (slU8 t xs) := by simp only [slU8, tagged]; exact ⟨trivial, fun i _ => tagcU8 t _⟩
theorem lenU8 (fr : Bool) (xs : List Int) : lenA noOb (slU8 fr xs) = some xs.length := rfl
abbrev tAU8 (xs : List Int) : Ob := .arr 1 xs.length (fU8 xs)
def cI (x : Int) : List AV := [I x]
def fI (xs : List Int) (i : Nat) : List AV := cI (at_ xs i)
def slI (fr : Bool) (xs : List Int) : AV := .sl fr 1 xs.length (fI xs)
theorem tagcI (t : Bool) (x : Int) : taggedL t (cI x) := by simp [cI, taggedL, tagged]
theorem tagI (t : Bool) (xs : List Int) : tagged t (slI t xs) := by simp only [slI, tagged]; exact ⟨trivial, fun i _ => tagcI t _⟩
theorem lenI (fr : Bool) (xs : List Int) : lenA noOb (slI fr xs) = some xs.length := rfl
abbrev tAI (xs : List Int) : Ob := .arr 1 xs.length (fI xs)
structure Feat where
  X : Int
  Y : Int
  D : Int
deriving DecidableEq, Inhabited
def cFeat (x : Feat) : List AV := [I x.X, I x.Y, I x.D]
def fFeat (xs : List Feat) (i : Nat) : List AV := cFeat (at_ xs i)
def slFeat (fr : Bool) (xs : List Feat) : AV := .sl fr 3 xs.length (fFeat xs)
theorem tagcFeat (t : Bool) (x : Feat) : taggedL t (cFeat x) := by simp [cFeat, taggedL, tagged]
theorem tagFeat (t : Bool) (xs : List Feat) : tagged t (slFeat t xs) := by simp only [slFeat, tagged]; exact ⟨trivial, fun i _ => tagcFeat t _⟩
theorem lenFeat (fr : Bool) (xs : List Feat) : lenA noOb (slFeat fr xs) = some xs.length := rfl
abbrev bxFeat (x : Feat) : Ob := .box [I x.X, I x.Y, I x.D]
abbrev agFeat (x : Feat) : AV := .agg [I x.X, I x.Y, I x.D]
abbrev tAFeat (xs : List Feat) : Ob := .arr 3 xs.length (fFeat xs)
def cLU8 (fr : Bool) (x : List Int) : List AV := [slU8 fr x]
def fLU8 (fr : Bool) (xs : List (List Int)) (i : Nat) : List AV := cLU8 fr (at_ xs i)
def slLU8 (fr : Bool) (xs : List (List Int)) : AV := .sl fr 1 xs.length (fLU8 fr xs)
theorem tagcLU8 (t : Bool) (x : List Int) : taggedL t (cLU8 t x) := by simp [cLU8, taggedL, tagged, tagU8]
theorem tagLU8 (t : Bool) (xs : List (List Int)) : tagged t (slLU8 t xs) := by simp only [slLU8, tagged]; exact ⟨trivial, fun i _ => tagcLU8 t _⟩
theorem lenLU8 (fr : Bool) (xs : List (List Int)) : lenA noOb (slLU8 fr xs) = some xs.length := rfl
theorem idsLU8 (fr : Bool) (x : List Int) : AV.idsL (cLU8 fr x) = [] := rfl
theorem leLU8 (fr : Bool) (x : List Int) (ob : Nat → Option Ob) : leL ob false (cLU8 fr x) (cLU8 false x) := (And.intro (And.intro (fun h => by cases h) (And.intro rfl (And.intro rfl (fun i _ => .inl rfl)))) rfl)
abbrev tALU8 (fr : Bool) (xs : List (List Int)) : Ob := .arr 1 xs.length (fLU8 fr xs)
def cU64 (x : Int) : List AV := [.val (.int .u64 x)]
def fU64 (xs : List Int) (i : Nat) : List AV := cU64 (at_ xs i)
def slU64 (fr : Bool) (xs : List Int) : AV := .sl fr 1 xs.length (fU64 xs)
theorem tagcU64 (t : Bool) (x : Int) : taggedL t (cU64 x) := by simp [cU64, taggedL, tagged]
theorem tagU64 (t : Bool) (xs : List Int) : tagged t (slU64 t xs) := by simp only [slU64, tagged]; exact ⟨trivial, fun i _ => tagcU64 t _⟩
theorem lenU64 (fr : Bool) (xs : List Int) : lenA noOb (slU64 fr xs) = some xs.length := rfl
abbrev tAU64 (xs : List Int) : Ob := .arr 1 xs.length (fU64 xs)
structure l00Src where
  code : List Int
  atx : Int
  seed : Int
deriving DecidableEq, Inhabited
def cl00Src (fr : Bool) (x : l00Src) : List AV := [slU8 fr x.code, I x.atx, .val (.int .u64 x.seed)]
def fl00Src (fr : Bool) (xs : List l00Src) (i : Nat) : List AV := cl00Src fr (at_ xs i)
def sll00Src (fr : Bool) (xs : List l00Src) : AV := .sl fr 3 xs.length (fl00Src fr xs)
theorem tagcl00Src (t : Bool) (x : l00Src) : taggedL t (cl00Src t x) := by simp [cl00Src, taggedL, tagged, tagU8]
theorem tagl00Src (t : Bool) (xs : List l00Src) : tagged t (sll00Src t xs) := by simp only [sll00Src, tagged]; exact ⟨trivial, fun i _ => tagcl00Src t _⟩
theorem lenl00Src (fr : Bool) (xs : List l00Src) : lenA noOb (sll00Src fr xs) = some xs.length := rfl
theorem idsl00Src (fr : Bool) (x : l00Src) : AV.idsL (cl00Src fr x) = [] := rfl
theorem lel00Src (fr : Bool) (x : l00Src) (ob : Nat → Option Ob) : leL ob false (cl00Src fr x) (cl00Src false x) := (And.intro (And.intro (fun h => by cases h) (And.intro rfl (And.intro rfl (fun i _ => .inl rfl)))) (And.intro rfl (And.intro rfl rfl)))
abbrev bxl00Src (x : l00Src) : Ob := .box [slU8 false x.code, I x.atx, .val (.int .u64 x.seed)]
abbrev agl00Src (x : l00Src) : AV := .agg [slU8 false x.code, I x.atx, .val (.int .u64 x.seed)]
abbrev bxl00SrcT (x : l00Src) : Ob := .box [slU8 true x.code, I x.atx, .val (.int .u64 x.seed)]
abbrev agl00SrcT (x : l00Src) : AV := .agg [slU8 true x.code, I x.atx, .val (.int .u64 x.seed)]
abbrev tAl00Src (fr : Bool) (xs : List l00Src) : Ob := .arr 3 xs.length (fl00Src fr xs)
structure Point where
  X : Int
  Y : Int
  T : Int
deriving DecidableEq, Inhabited
def cPoint (x : Point) : List AV := [I x.X, I x.Y, I x.T]
def fPoint (xs : List Point) (i : Nat) : List AV := cPoint (at_ xs i)
def slPoint (fr : Bool) (xs : List Point) : AV := .sl fr 3 xs.length (fPoint xs)
theorem tagcPoint (t : Bool) (x : Point) : taggedL t (cPoint x) := by simp [cPoint, taggedL, tagged]
theorem tagPoint (t : Bool) (xs : List Point) : tagged t (slPoint t xs) := by simp only [slPoint, tagged]; exact ⟨trivial, fun i _ => tagcPoint t _⟩
theorem lenPoint (fr : Bool) (xs : List Point) : lenA noOb (slPoint fr xs) = some xs.length := rfl
abbrev bxPoint (x : Point) : Ob := .box [I x.X, I x.Y, I x.T]
abbrev agPoint (x : Point) : AV := .agg [I x.X, I x.Y, I x.T]
abbrev tAPoint (xs : List Point) : Ob := .arr 3 xs.length (fPoint xs)
def cLPoint (fr : Bool) (x : List Point) : List AV := [slPoint fr x]
def fLPoint (fr : Bool) (xs : List (List Point)) (i : Nat) : List AV := cLPoint fr (at_ xs i)
def slLPoint (fr : Bool) (xs : List (List Point)) : AV := .sl fr 1 xs.length (fLPoint fr xs)
theorem tagcLPoint (t : Bool) (x : List Point) : taggedL t (cLPoint t x) := by simp [cLPoint, taggedL, tagged, tagPoint]
theorem tagLPoint (t : Bool) (xs : List (List Point)) : tagged t (slLPoint t xs) := by simp only [slLPoint, tagged]; exact ⟨trivial, fun i _ => tagcLPoint t _⟩
theorem lenLPoint (fr : Bool) (xs : List (List Point)) : lenA noOb (slLPoint fr xs) = some xs.length := rfl
theorem idsLPoint (fr : Bool) (x : List Point) : AV.idsL (cLPoint fr x) = [] := rfl
theorem leLPoint (fr : Bool) (x : List Point) (ob : Nat → Option Ob) : leL ob false (cLPoint fr x) (cLPoint false x) := (And.intro (And.intro (fun h => by cases h) (And.intro rfl (And.intro rfl (fun i _ => .inl rfl)))) rfl)
abbrev tALPoint (fr : Bool) (xs : List (List Point)) : Ob := .arr 1 xs.length (fLPoint fr xs)
structure Stroke where
  Points : List Point
deriving DecidableEq, Inhabited
def cStroke (fr : Bool) (x : Stroke) : List AV := [slPoint fr x.Points]
def fStroke (fr : Bool) (xs : List Stroke) (i : Nat) : List AV := cStroke fr (at_ xs i)
def slStroke (fr : Bool) (xs : List Stroke) : AV := .sl fr 1 xs.length (fStroke fr xs)
theorem tagcStroke (t : Bool) (x : Stroke) : taggedL t (cStroke t x) := by simp [cStroke, taggedL, tagged, tagPoint]
theorem tagStroke (t : Bool) (xs : List Stroke) : tagged t (slStroke t xs) := by simp only [slStroke, tagged]; exact ⟨trivial, fun i _ => tagcStroke t _⟩
theorem lenStroke (fr : Bool) (xs : List Stroke) : lenA noOb (slStroke fr xs) = some xs.length := rfl
theorem idsStroke (fr : Bool) (x : Stroke) : AV.idsL (cStroke fr x) = [] := rfl
theorem leStroke (fr : Bool) (x : Stroke) (ob : Nat → Option Ob) : leL ob false (cStroke fr x) (cStroke false x) := (And.intro (And.intro (fun h => by cases h) (And.intro rfl (And.intro rfl (fun i _ => .inl rfl)))) rfl)
abbrev tAStroke (fr : Bool) (xs : List Stroke) : Ob := .arr 1 xs.length (fStroke fr xs)
def cLStroke (fr : Bool) (x : List Stroke) : List AV := [slStroke fr x]
def fLStroke (fr : Bool) (xs : List (List Stroke)) (i : Nat) : List AV := cLStroke fr (at_ xs i)
def slLStroke (fr : Bool) (xs : List (List Stroke)) : AV := .sl fr 1 xs.length (fLStroke fr xs)
theorem tagcLStroke (t : Bool) (x : List Stroke) : taggedL t (cLStroke t x) := by simp [cLStroke, taggedL, tagged, tagStroke]
theorem tagLStroke (t : Bool) (xs : List (List Stroke)) : tagged t (slLStroke t xs) := by simp only [slLStroke, tagged]; exact ⟨trivial, fun i _ => tagcLStroke t _⟩
theorem lenLStroke (fr : Bool) (xs : List (List Stroke)) : lenA noOb (slLStroke fr xs) = some xs.length := rfl
theorem idsLStroke (fr : Bool) (x : List Stroke) : AV.idsL (cLStroke fr x) = [] := rfl
theorem leLStroke (fr : Bool) (x : List Stroke) (ob : Nat → Option Ob) : leL ob false (cLStroke fr x) (cLStroke false x) := (And.intro (And.intro (fun h => by cases h) (And.intro rfl (And.intro rfl (fun i _ => .inr ⟨idsStroke _ _, leStroke _ _ _⟩)))) rfl)
abbrev tALStroke (fr : Bool) (xs : List (List Stroke)) : Ob := .arr 1 xs.length (fLStroke fr xs)
structure Ink where
  Strokes : List Stroke
deriving DecidableEq, Inhabited
def cInk (fr : Bool) (x : Ink) : List AV := [slStroke fr x.Strokes]
def fInk (fr : Bool) (xs : List Ink) (i : Nat) : List AV := cInk fr (at_ xs i)
def slInk (fr : Bool) (xs : List Ink) : AV := .sl fr 1 xs.length (fInk fr xs)
theorem tagcInk (t : Bool) (x : Ink) : taggedL t (cInk t x) := by simp [cInk, taggedL, tagged, tagStroke]
theorem tagInk (t : Bool) (xs : List Ink) : tagged t (slInk t xs) := by simp only [slInk, tagged]; exact ⟨trivial, fun i _ => tagcInk t _⟩
theorem lenInk (fr : Bool) (xs : List Ink) : lenA noOb (slInk fr xs) = some xs.length := rfl
theorem idsInk (fr : Bool) (x : Ink) : AV.idsL (cInk fr x) = [] := rfl
theorem leInk (fr : Bool) (x : Ink) (ob : Nat → Option Ob) : leL ob false (cInk fr x) (cInk false x) := (And.intro (And.intro (fun h => by cases h) (And.intro rfl (And.intro rfl (fun i _ => .inr ⟨idsStroke _ _, leStroke _ _ _⟩)))) rfl)
abbrev tAInk (fr : Bool) (xs : List Ink) : Ob := .arr 1 xs.length (fInk fr xs)
structure Spot where
  X : Int
  Y : Int
deriving DecidableEq, Inhabited
def cSpot (x : Spot) : List AV := [I x.X, I x.Y]
def fSpot (xs : List Spot) (i : Nat) : List AV := cSpot (at_ xs i)
def slSpot (fr : Bool) (xs : List Spot) : AV := .sl fr 2 xs.length (fSpot xs)
theorem tagcSpot (t : Bool) (x : Spot) : taggedL t (cSpot x) := by simp [cSpot, taggedL, tagged]
theorem tagSpot (t : Bool) (xs : List Spot) : tagged t (slSpot t xs) := by simp only [slSpot, tagged]; exact ⟨trivial, fun i _ => tagcSpot t _⟩
theorem lenSpot (fr : Bool) (xs : List Spot) : lenA noOb (slSpot fr xs) = some xs.length := rfl
abbrev bxSpot (x : Spot) : Ob := .box [I x.X, I x.Y]
abbrev agSpot (x : Spot) : AV := .agg [I x.X, I x.Y]
abbrev tASpot (xs : List Spot) : Ob := .arr 2 xs.length (fSpot xs)
def cS (x : ByteArray) : List AV := [Sv x]
def fS (xs : List ByteArray) (i : Nat) : List AV := cS (at_ xs i)
def slS (fr : Bool) (xs : List ByteArray) : AV := .sl fr 1 xs.length (fS xs)
theorem tagcS (t : Bool) (x : ByteArray) : taggedL t (cS x) := by simp [cS, taggedL, tagged]
theorem tagS (t : Bool) (xs : List ByteArray) : tagged t (slS t xs) := by simp only [slS, tagged]; exact ⟨trivial, fun i _ => tagcS t _⟩
theorem lenS (fr : Bool) (xs : List ByteArray) : lenA noOb (slS fr xs) = some xs.length := rfl
abbrev tAS (xs : List ByteArray) : Ob := .arr 1 xs.length (fS xs)

-- laws.f6big
theorem f6big_ok (code : List Int) : Con Tryz.prog 29 [slU8 false code] true (Bv (decide (4096 < (code.length : Int)))) := by
  refine fn_ok (fn := Tryz.f29) (nt := 6) Tryz.func29 rfl rfl rfl rfl (by simp [taggedL, tagged, tagU8]) fun B hB => ?_
  refine aw_lens (x := slU8 false code) 0 rfl (fun len_code => ?_)
  simp [LenOK, LenL, cU8, fU8, slU8] at len_code
  refine aR [] [0] [] [slU8 false code] [] [] hB trivial ?_
  refine aR [] [2] [] [Bv (decide (4096 < (code.length : Int)))] [] [] hB trivial ?_
  refine aw_ret ?_
  refine ae_ret hB (Bv (decide (4096 < (code.length : Int)))) (by kernel_rfl) (.inl rfl) rfl (fun _ => trivial)


theorem set_at {α : Type} [Inhabited α] {ys xs : List α} {i : Int} (hl : ys.length = xs.length) (hi : i.toNat < xs.length) (h : ∀ j : Nat, (j : Int) < i → at_ ys j = at_ xs j) (j : Nat) (hj : j ≤ i.toNat) : at_ (ys.set i.toNat (at_ xs i.toNat)) j = at_ xs j := by
  by_cases e : i.toNat = j
  · subst e; simp [at_, hl, hi]
  · have := h j (by omega)
    simp only [at_] at this ⊢
    rw [← this]
    simp [e]
/-- Whether two things are the same. -/
def same {α : Type} [DecidableEq α] (x y : α) : Bool := decide (x = y)
theorem same_iff {α : Type} [DecidableEq α] {x y : α} : same x y = true ↔ x = y := by simp [same]
theorem ext_at {α : Type} [Inhabited α] {xs ys : List α} (hl : xs.length = ys.length) (h : ∀ j : Nat, j < xs.length → at_ xs j = at_ ys j) : xs = ys := by
  apply List.ext_getElem hl
  intro i h1 h2
  rw [← at_eq h1, ← at_eq h2]
  exact h i h1

theorem at_mem {α : Type} [Inhabited α] {xs : List α} {i : Nat} (h : i < xs.length) : at_ xs i ∈ xs := by rw [at_eq h]; exact List.getElem_mem h

/-- Whether p holds of all numbers below n. -/
def allN (n : Nat) (p : Nat → Bool) : Bool := (List.range n).all p
def anyN (n : Nat) (p : Nat → Bool) : Bool := !(allN n fun j => !(p j))
theorem allN_iff {n : Nat} {p : Nat → Bool} : allN n p = true ↔ ∀ j, j < n → p j = true := by simp [allN, List.all_eq_true]
theorem allN_at {n : Nat} {p : Nat → Bool} (h : ∀ j, j < n → p j = true) : allN n p = true := allN_iff.2 h
theorem allN_get {n : Nat} {p : Nat → Bool} (h : allN n p = true) {k : Nat} (hk : k < n) : p k = true := allN_iff.1 h k hk
theorem allN_not {n : Nat} {p : Nat → Bool} {k : Nat} (hk : k < n) (h : p k = false) : allN n p = false := by
  rw [← Bool.not_eq_true, allN_iff]; intro h'; rw [h' k hk] at h; cases h
theorem anyN_not (n : Nat) (p : Nat → Bool) : anyN n (fun j => !(p j)) = !(allN n p) := by simp [anyN]
theorem anyN_at {n : Nat} {p : Nat → Bool} {k : Nat} (hk : k < n) (h : p k = true) : anyN n p = true := by
  unfold anyN; rw [allN_not hk (by simp [h])]; rfl
theorem anyN_none {n : Nat} {p : Nat → Bool} (h : ∀ j, j < n → p j = false) : anyN n p = false := by
  unfold anyN; rw [allN_at (fun j hj => by simp [h j hj])]; rfl
theorem anyN_iff {n : Nat} {p : Nat → Bool} : anyN n p = true ↔ ∃ j, j < n ∧ p j = true := by
  constructor
  · intro h
    apply Classical.byContradiction
    intro hn
    rw [anyN_none (fun j hj => by rw [← Bool.not_eq_true]; exact fun hp => hn ⟨j, hj, hp⟩)] at h
    cases h
  · rintro ⟨j, hj, hp⟩; exact anyN_at hj hp
theorem up_to {n : Int} {p : Nat → Prop} {i : Int} (hi : 0 ≤ i) (h : ∀ j : Nat, (j : Int) < i → p j) (hp : p i.toNat) : ∀ j : Nat, (j : Int) < i + 1 → p j := fun j hj => by
  by_cases e : j = i.toNat
  · subst e; exact hp
  · exact h j (by omega)

/-- The source of choices is in order: its bytes are bytes, and its place is a number. -/
def okSrc (s : l00Src) : Prop := (∀ j, j < s.code.length → 0 ≤ at_ s.code j ∧ at_ s.code j ≤ 255) ∧ 0 ≤ s.atx ∧ s.code.length ≤ 4611686018427387904
theorem u64_wrap (n : Int) : 0 ≤ IntKind.u64.wrap n ∧ IntKind.u64.wrap n ≤ 18446744073709551615 := by
  simp only [IntKind.wrap, IntKind.signed, IntKind.bits]
  simp
  omega
theorem and_255 (a : Int) : 0 ≤ bitsI .and .u64 a 255 ∧ bitsI .and .u64 a 255 ≤ 255 := by
  obtain ⟨n, hn⟩ : ∃ n : Nat, n = (BitVec.ofInt 64 a &&& BitVec.ofInt 64 255).toNat := ⟨_, rfl⟩
  have h : n ≤ 255 := by rw [hn, BitVec.toNat_and]; exact Nat.and_le_right
  have e : bitsI .and .u64 a 255 = IntKind.u64.wrap (n : Int) := by rw [hn]; rfl
  have w : IntKind.u64.wrap (n : Int) = n := wrap_in (inR_u64 (by omega) (by omega))
  rw [e, w]; omega

-- spec.l00From
theorem l00From_ok (code : List Int) : ∃ (s' : l00Src), (s'.code = code ∧ s'.atx = 0) ∧ CallOK Tryz.prog 65 [slU8 false code] (lookO []) false (.ref 7001 0) (lookO [(7001, bxl00Src s')]) := by
  have hh : ∃ r : l00Src, ((r.code = code ∧ r.atx = 0) ∧ (True)) ∧ CallOK Tryz.prog 65 [slU8 false code] (lookO []) false (.ref 7001 0) (lookO [(7001, bxl00Src r)]) := by
    refine fn_okX (Φ := fun r : l00Src => (r.code = code ∧ r.atx = 0) ∧ (True)) [] (fun r => [(7001, bxl00Src r)]) (fn := Tryz.f65) (nt := 6) Tryz.func65 rfl rfl (args := [slU8 false code]) rfl (allcons (.inl ⟨rfl, tagU8 false _⟩) allnil) (res := fun r => .ref 7001 0) ?_
    refine xR [] [0] [] [slU8 false code] [] [] trivial ?_
    refine xR [(2, .new 7001)] [2] [7001] [.ref 7001 0] [some (.box [slU8 false code, I 0, .val (.int .u64 0)])] [] trivial ?_
    refine x_ret ?_
    refine xe_end (l00Src.mk code 0 0) (show ((l00Src.mk code 0 0).code = code ∧ (l00Src.mk code 0 0).atx = 0) ∧ (True) from ⟨(by first | rfl | (exact ⟨rfl, rfl⟩)), trivial⟩) (⟨.inl rfl, trivial⟩) (.ref 7001 0) (by kernel_rfl) (.inl rfl) (fun h => by cases h) (fun h => by cases h)
  obtain ⟨s', ⟨hh0, _⟩, hc⟩ := hh
  exact ⟨s', hh0, hc⟩


-- spec.l00Src).next
theorem next_ok (s : l00Src) (hs : okSrc s) (ha : s.atx ≤ 4000000000000000000) : ∃ (v : Int) (s' : l00Src), (0 ≤ v ∧ v ≤ 255) ∧ (okSrc s') ∧ (s'.code = s.code) ∧ (s.atx + 1 ≤ s'.atx ∧ s'.atx ≤ s.atx + 1) ∧ CallOK Tryz.prog 181 [.ref 7001 0] (lookO [(7001, bxl00Src s)]) true (I v) (lookO [(7001, bxl00Src s')]) := by
  have hs0 := hs.2.1
  have hs1 := hs.2.2
  have hh : ∃ r : Int × l00Src, ((0 ≤ r.1 ∧ r.1 ≤ 255) ∧ (okSrc r.2) ∧ (r.2.code = s.code) ∧ (s.atx + 1 ≤ r.2.atx ∧ r.2.atx ≤ s.atx + 1) ∧ (True)) ∧ CallOK Tryz.prog 181 [.ref 7001 0] (lookO [(7001, bxl00Src s)]) true (I r.1) (lookO [(7001, bxl00Src r.2)]) := by
    refine fn_okX (Φ := fun r : Int × l00Src => (0 ≤ r.1 ∧ r.1 ≤ 255) ∧ (okSrc r.2) ∧ (r.2.code = s.code) ∧ (s.atx + 1 ≤ r.2.atx ∧ r.2.atx ≤ s.atx + 1) ∧ (True)) [(7001, bxl00Src s)] (fun r => [(7001, bxl00Src r.2)]) (fn := Tryz.f181) (nt := 62) Tryz.func181 rfl rfl (args := [.ref 7001 0]) rfl (allcons (.inr trivial) allnil) (res := fun r => I r.1) ?_
    refine xR [] [0] [7001] [.ref 7001 0] [some (bxl00Src s)] [] trivial ?_
    refine xR [] [0, 3] [7001] [.ref 7001 0, I 0] [some (bxl00Src s)] [] trivial ?_
    refine x_seq ?_
    refine x_seq ?_
    by_cases h1 : s.atx < (s.code.length : Int)
    ·have hbt := hs.1 s.atx.toNat (by omega)
     refine x_r [(9, .dec true)] [0, 3, 13] [7001] [.ref 7001 0, I 0, Bv true] [some (bxl00Src s)] [s.atx < (s.code.length : Int)] ⟨h1, trivial⟩ ?_
     refine xe_then ?_
     refine x_true rfl ?_
     refine x_r [] [0, 3] [7001] [.ref 7001 0, I (at_ s.code s.atx.toNat)] [some (bxl00Src s)] [(0 : Int) ≤ s.atx ∧ s.atx < (s.code.length : Int), inR .i64 (at_ s.code s.atx.toNat)] ⟨⟨(by omega), (by omega)⟩, (inR_i64 (by omega) (by omega)), trivial⟩ ?_
     refine xe_then ?_
     refine xR [] [0, 3] [7001] [.ref 7001 0, I (at_ s.code s.atx.toNat)] [some (.box [slU8 false s.code, I (s.atx + 1), .val (.int .u64 s.seed)])] [inR .i64 (s.atx + 1)] ⟨(inR_i64 (by omega) (by omega)), trivial⟩ ?_
     refine xR [(5, .wrap), (8, .wrap), (9, .wrap)] [0, 3] [7001] [.ref 7001 0, I (at_ s.code s.atx.toNat)] [some (.box [slU8 false s.code, I (s.atx + 1), .val (.int .u64 (IntKind.u64.wrap ((IntKind.u64.wrap ((IntKind.u64.wrap (s.seed * 6364136223846793005)) + (at_ s.code s.atx.toNat))) + 1442695040888963407)))])] [inR .u64 (at_ s.code s.atx.toNat)] ⟨(inR_u64 (by omega) (by omega)), trivial⟩ ?_
     refine x_seq ?_
     refine x_seq ?_
     by_cases h2 : (s.atx + 1) ≤ (s.code.length : Int)
     ·refine x_r [(9, .dec true)] [0, 3, 53] [7001] [.ref 7001 0, I (at_ s.code s.atx.toNat), Bv true] [some (.box [slU8 false s.code, I (s.atx + 1), .val (.int .u64 (IntKind.u64.wrap ((IntKind.u64.wrap ((IntKind.u64.wrap (s.seed * 6364136223846793005)) + (at_ s.code s.atx.toNat))) + 1442695040888963407)))])] [(s.atx + 1) ≤ (s.code.length : Int)] ⟨h2, trivial⟩ ?_
      refine xe_then ?_
      refine x_true rfl ?_
      refine xR [] [2] [7001] [I (at_ s.code s.atx.toNat)] [some (.box [slU8 false s.code, I (s.atx + 1), .val (.int .u64 (IntKind.u64.wrap ((IntKind.u64.wrap ((IntKind.u64.wrap (s.seed * 6364136223846793005)) + (at_ s.code s.atx.toNat))) + 1442695040888963407)))])] [] trivial ?_
      refine x_ret ?_
      refine xe_ret_then ?_
      refine xe_end ((at_ s.code s.atx.toNat), (l00Src.mk s.code (s.atx + 1) (IntKind.u64.wrap ((IntKind.u64.wrap ((IntKind.u64.wrap (s.seed * 6364136223846793005)) + (at_ s.code s.atx.toNat))) + 1442695040888963407)))) (show (0 ≤ (at_ s.code s.atx.toNat) ∧ (at_ s.code s.atx.toNat) ≤ 255) ∧ (okSrc (l00Src.mk s.code (s.atx + 1) (IntKind.u64.wrap ((IntKind.u64.wrap ((IntKind.u64.wrap (s.seed * 6364136223846793005)) + (at_ s.code s.atx.toNat))) + 1442695040888963407)))) ∧ ((l00Src.mk s.code (s.atx + 1) (IntKind.u64.wrap ((IntKind.u64.wrap ((IntKind.u64.wrap (s.seed * 6364136223846793005)) + (at_ s.code s.atx.toNat))) + 1442695040888963407))).code = s.code) ∧ (s.atx + 1 ≤ (l00Src.mk s.code (s.atx + 1) (IntKind.u64.wrap ((IntKind.u64.wrap ((IntKind.u64.wrap (s.seed * 6364136223846793005)) + (at_ s.code s.atx.toNat))) + 1442695040888963407))).atx ∧ (l00Src.mk s.code (s.atx + 1) (IntKind.u64.wrap ((IntKind.u64.wrap ((IntKind.u64.wrap (s.seed * 6364136223846793005)) + (at_ s.code s.atx.toNat))) + 1442695040888963407))).atx ≤ s.atx + 1) ∧ (True) from ⟨(by first | omega | rfl | assumption | (dsimp only; first | omega | rfl | assumption) | (simp only [*]; done) | exact ⟨hs.1, (by dsimp only; omega), hs1⟩), (by first | omega | rfl | assumption | (dsimp only; first | omega | rfl | assumption) | (simp only [*]; done) | exact ⟨hs.1, (by dsimp only; omega), hs1⟩), (by first | omega | rfl | assumption | (dsimp only; first | omega | rfl | assumption) | (simp only [*]; done) | exact ⟨hs.1, (by dsimp only; omega), hs1⟩), (by first | omega | rfl | assumption | (dsimp only; first | omega | rfl | assumption) | (simp only [*]; done) | exact ⟨hs.1, (by dsimp only; omega), hs1⟩), trivial⟩) (⟨.inl rfl, trivial⟩) (I (at_ s.code s.atx.toNat)) (by kernel_rfl) (.inl rfl) (fun _ => rfl) (fun _ => trivial)
     refine x_r [(9, .dec false)] [0, 3, 53] [7001] [.ref 7001 0, I (at_ s.code s.atx.toNat), Bv false] [some (.box [slU8 false s.code, I (s.atx + 1), .val (.int .u64 (IntKind.u64.wrap ((IntKind.u64.wrap ((IntKind.u64.wrap (s.seed * 6364136223846793005)) + (at_ s.code s.atx.toNat))) + 1442695040888963407)))])] [¬ ((s.atx + 1) ≤ (s.code.length : Int))] ⟨h2, trivial⟩ ?_
     refine xe_then ?_
     refine x_false rfl ?_
     refine x_skip ?_
     refine xe_then ?_
     refine x_seq ?_
     have hb1 := and_255 ((IntKind.u64.wrap ((IntKind.u64.wrap ((IntKind.u64.wrap (s.seed * 6364136223846793005)) + (at_ s.code s.atx.toNat))) + 1442695040888963407)) / 1099511627776)
     refine x_r [] [2] [7001] [I (bitsI .and .u64 ((IntKind.u64.wrap ((IntKind.u64.wrap ((IntKind.u64.wrap (s.seed * 6364136223846793005)) + (at_ s.code s.atx.toNat))) + 1442695040888963407)) / 1099511627776) 255)] [some (.box [slU8 false s.code, I (s.atx + 1), .val (.int .u64 (IntKind.u64.wrap ((IntKind.u64.wrap ((IntKind.u64.wrap (s.seed * 6364136223846793005)) + (at_ s.code s.atx.toNat))) + 1442695040888963407)))])] [(0 : Int) ≤ 40 ∧ (40 : Int) ≤ ((IntKind.bits .u64 : Nat) : Int), inR .i64 (bitsI .and .u64 ((IntKind.u64.wrap ((IntKind.u64.wrap ((IntKind.u64.wrap (s.seed * 6364136223846793005)) + (at_ s.code s.atx.toNat))) + 1442695040888963407)) / 1099511627776) 255)] ⟨⟨(by decide), (by decide)⟩, (inR_i64 (by omega) (by omega)), trivial⟩ ?_
     refine xe_then ?_
     refine x_ret ?_
     refine xe_end ((bitsI .and .u64 ((IntKind.u64.wrap ((IntKind.u64.wrap ((IntKind.u64.wrap (s.seed * 6364136223846793005)) + (at_ s.code s.atx.toNat))) + 1442695040888963407)) / 1099511627776) 255), (l00Src.mk s.code (s.atx + 1) (IntKind.u64.wrap ((IntKind.u64.wrap ((IntKind.u64.wrap (s.seed * 6364136223846793005)) + (at_ s.code s.atx.toNat))) + 1442695040888963407)))) (show (0 ≤ (bitsI .and .u64 ((IntKind.u64.wrap ((IntKind.u64.wrap ((IntKind.u64.wrap (s.seed * 6364136223846793005)) + (at_ s.code s.atx.toNat))) + 1442695040888963407)) / 1099511627776) 255) ∧ (bitsI .and .u64 ((IntKind.u64.wrap ((IntKind.u64.wrap ((IntKind.u64.wrap (s.seed * 6364136223846793005)) + (at_ s.code s.atx.toNat))) + 1442695040888963407)) / 1099511627776) 255) ≤ 255) ∧ (okSrc (l00Src.mk s.code (s.atx + 1) (IntKind.u64.wrap ((IntKind.u64.wrap ((IntKind.u64.wrap (s.seed * 6364136223846793005)) + (at_ s.code s.atx.toNat))) + 1442695040888963407)))) ∧ ((l00Src.mk s.code (s.atx + 1) (IntKind.u64.wrap ((IntKind.u64.wrap ((IntKind.u64.wrap (s.seed * 6364136223846793005)) + (at_ s.code s.atx.toNat))) + 1442695040888963407))).code = s.code) ∧ (s.atx + 1 ≤ (l00Src.mk s.code (s.atx + 1) (IntKind.u64.wrap ((IntKind.u64.wrap ((IntKind.u64.wrap (s.seed * 6364136223846793005)) + (at_ s.code s.atx.toNat))) + 1442695040888963407))).atx ∧ (l00Src.mk s.code (s.atx + 1) (IntKind.u64.wrap ((IntKind.u64.wrap ((IntKind.u64.wrap (s.seed * 6364136223846793005)) + (at_ s.code s.atx.toNat))) + 1442695040888963407))).atx ≤ s.atx + 1) ∧ (True) from ⟨(by first | omega | rfl | assumption | (dsimp only; first | omega | rfl | assumption) | (simp only [*]; done) | exact ⟨hs.1, (by dsimp only; omega), hs1⟩), (by first | omega | rfl | assumption | (dsimp only; first | omega | rfl | assumption) | (simp only [*]; done) | exact ⟨hs.1, (by dsimp only; omega), hs1⟩), (by first | omega | rfl | assumption | (dsimp only; first | omega | rfl | assumption) | (simp only [*]; done) | exact ⟨hs.1, (by dsimp only; omega), hs1⟩), (by first | omega | rfl | assumption | (dsimp only; first | omega | rfl | assumption) | (simp only [*]; done) | exact ⟨hs.1, (by dsimp only; omega), hs1⟩), trivial⟩) (⟨.inl rfl, trivial⟩) (I (bitsI .and .u64 ((IntKind.u64.wrap ((IntKind.u64.wrap ((IntKind.u64.wrap (s.seed * 6364136223846793005)) + (at_ s.code s.atx.toNat))) + 1442695040888963407)) / 1099511627776) 255)) (by kernel_rfl) (.inl rfl) (fun _ => rfl) (fun _ => trivial)
    refine x_r [(9, .dec false)] [0, 3, 13] [7001] [.ref 7001 0, I 0, Bv false] [some (bxl00Src s)] [¬ (s.atx < (s.code.length : Int))] ⟨h1, trivial⟩ ?_
    refine xe_then ?_
    refine x_false rfl ?_
    refine x_skip ?_
    refine xe_then ?_
    refine xR [] [0, 3] [7001] [.ref 7001 0, I 0] [some (.box [slU8 false s.code, I (s.atx + 1), .val (.int .u64 s.seed)])] [inR .i64 (s.atx + 1)] ⟨(inR_i64 (by omega) (by omega)), trivial⟩ ?_
    refine xR [(5, .wrap), (8, .wrap), (9, .wrap)] [0, 3] [7001] [.ref 7001 0, I 0] [some (.box [slU8 false s.code, I (s.atx + 1), .val (.int .u64 (IntKind.u64.wrap ((IntKind.u64.wrap ((IntKind.u64.wrap (s.seed * 6364136223846793005)) + 0)) + 1442695040888963407)))])] [inR .u64 0] ⟨(inR_u64 (by omega) (by omega)), trivial⟩ ?_
    refine x_seq ?_
    refine x_seq ?_
    by_cases h3 : (s.atx + 1) ≤ (s.code.length : Int)
    ·refine x_r [(9, .dec true)] [0, 3, 53] [7001] [.ref 7001 0, I 0, Bv true] [some (.box [slU8 false s.code, I (s.atx + 1), .val (.int .u64 (IntKind.u64.wrap ((IntKind.u64.wrap ((IntKind.u64.wrap (s.seed * 6364136223846793005)) + 0)) + 1442695040888963407)))])] [(s.atx + 1) ≤ (s.code.length : Int)] ⟨h3, trivial⟩ ?_
     refine xe_then ?_
     refine x_true rfl ?_
     refine xR [] [2] [7001] [I 0] [some (.box [slU8 false s.code, I (s.atx + 1), .val (.int .u64 (IntKind.u64.wrap ((IntKind.u64.wrap ((IntKind.u64.wrap (s.seed * 6364136223846793005)) + 0)) + 1442695040888963407)))])] [] trivial ?_
     refine x_ret ?_
     refine xe_ret_then ?_
     refine xe_end (0, (l00Src.mk s.code (s.atx + 1) (IntKind.u64.wrap ((IntKind.u64.wrap ((IntKind.u64.wrap (s.seed * 6364136223846793005)) + 0)) + 1442695040888963407)))) (show (0 ≤ 0 ∧ 0 ≤ 255) ∧ (okSrc (l00Src.mk s.code (s.atx + 1) (IntKind.u64.wrap ((IntKind.u64.wrap ((IntKind.u64.wrap (s.seed * 6364136223846793005)) + 0)) + 1442695040888963407)))) ∧ ((l00Src.mk s.code (s.atx + 1) (IntKind.u64.wrap ((IntKind.u64.wrap ((IntKind.u64.wrap (s.seed * 6364136223846793005)) + 0)) + 1442695040888963407))).code = s.code) ∧ (s.atx + 1 ≤ (l00Src.mk s.code (s.atx + 1) (IntKind.u64.wrap ((IntKind.u64.wrap ((IntKind.u64.wrap (s.seed * 6364136223846793005)) + 0)) + 1442695040888963407))).atx ∧ (l00Src.mk s.code (s.atx + 1) (IntKind.u64.wrap ((IntKind.u64.wrap ((IntKind.u64.wrap (s.seed * 6364136223846793005)) + 0)) + 1442695040888963407))).atx ≤ s.atx + 1) ∧ (True) from ⟨(by first | omega | rfl | assumption | (dsimp only; first | omega | rfl | assumption) | (simp only [*]; done) | exact ⟨hs.1, (by dsimp only; omega), hs1⟩), (by first | omega | rfl | assumption | (dsimp only; first | omega | rfl | assumption) | (simp only [*]; done) | exact ⟨hs.1, (by dsimp only; omega), hs1⟩), (by first | omega | rfl | assumption | (dsimp only; first | omega | rfl | assumption) | (simp only [*]; done) | exact ⟨hs.1, (by dsimp only; omega), hs1⟩), (by first | omega | rfl | assumption | (dsimp only; first | omega | rfl | assumption) | (simp only [*]; done) | exact ⟨hs.1, (by dsimp only; omega), hs1⟩), trivial⟩) (⟨.inl rfl, trivial⟩) (I 0) (by kernel_rfl) (.inl rfl) (fun _ => rfl) (fun _ => trivial)
    refine x_r [(9, .dec false)] [0, 3, 53] [7001] [.ref 7001 0, I 0, Bv false] [some (.box [slU8 false s.code, I (s.atx + 1), .val (.int .u64 (IntKind.u64.wrap ((IntKind.u64.wrap ((IntKind.u64.wrap (s.seed * 6364136223846793005)) + 0)) + 1442695040888963407)))])] [¬ ((s.atx + 1) ≤ (s.code.length : Int))] ⟨h3, trivial⟩ ?_
    refine xe_then ?_
    refine x_false rfl ?_
    refine x_skip ?_
    refine xe_then ?_
    refine x_seq ?_
    have hb2 := and_255 ((IntKind.u64.wrap ((IntKind.u64.wrap ((IntKind.u64.wrap (s.seed * 6364136223846793005)) + 0)) + 1442695040888963407)) / 1099511627776)
    refine x_r [] [2] [7001] [I (bitsI .and .u64 ((IntKind.u64.wrap ((IntKind.u64.wrap ((IntKind.u64.wrap (s.seed * 6364136223846793005)) + 0)) + 1442695040888963407)) / 1099511627776) 255)] [some (.box [slU8 false s.code, I (s.atx + 1), .val (.int .u64 (IntKind.u64.wrap ((IntKind.u64.wrap ((IntKind.u64.wrap (s.seed * 6364136223846793005)) + 0)) + 1442695040888963407)))])] [(0 : Int) ≤ 40 ∧ (40 : Int) ≤ ((IntKind.bits .u64 : Nat) : Int), inR .i64 (bitsI .and .u64 ((IntKind.u64.wrap ((IntKind.u64.wrap ((IntKind.u64.wrap (s.seed * 6364136223846793005)) + 0)) + 1442695040888963407)) / 1099511627776) 255)] ⟨⟨(by decide), (by decide)⟩, (inR_i64 (by omega) (by omega)), trivial⟩ ?_
    refine xe_then ?_
    refine x_ret ?_
    refine xe_end ((bitsI .and .u64 ((IntKind.u64.wrap ((IntKind.u64.wrap ((IntKind.u64.wrap (s.seed * 6364136223846793005)) + 0)) + 1442695040888963407)) / 1099511627776) 255), (l00Src.mk s.code (s.atx + 1) (IntKind.u64.wrap ((IntKind.u64.wrap ((IntKind.u64.wrap (s.seed * 6364136223846793005)) + 0)) + 1442695040888963407)))) (show (0 ≤ (bitsI .and .u64 ((IntKind.u64.wrap ((IntKind.u64.wrap ((IntKind.u64.wrap (s.seed * 6364136223846793005)) + 0)) + 1442695040888963407)) / 1099511627776) 255) ∧ (bitsI .and .u64 ((IntKind.u64.wrap ((IntKind.u64.wrap ((IntKind.u64.wrap (s.seed * 6364136223846793005)) + 0)) + 1442695040888963407)) / 1099511627776) 255) ≤ 255) ∧ (okSrc (l00Src.mk s.code (s.atx + 1) (IntKind.u64.wrap ((IntKind.u64.wrap ((IntKind.u64.wrap (s.seed * 6364136223846793005)) + 0)) + 1442695040888963407)))) ∧ ((l00Src.mk s.code (s.atx + 1) (IntKind.u64.wrap ((IntKind.u64.wrap ((IntKind.u64.wrap (s.seed * 6364136223846793005)) + 0)) + 1442695040888963407))).code = s.code) ∧ (s.atx + 1 ≤ (l00Src.mk s.code (s.atx + 1) (IntKind.u64.wrap ((IntKind.u64.wrap ((IntKind.u64.wrap (s.seed * 6364136223846793005)) + 0)) + 1442695040888963407))).atx ∧ (l00Src.mk s.code (s.atx + 1) (IntKind.u64.wrap ((IntKind.u64.wrap ((IntKind.u64.wrap (s.seed * 6364136223846793005)) + 0)) + 1442695040888963407))).atx ≤ s.atx + 1) ∧ (True) from ⟨(by first | omega | rfl | assumption | (dsimp only; first | omega | rfl | assumption) | (simp only [*]; done) | exact ⟨hs.1, (by dsimp only; omega), hs1⟩), (by first | omega | rfl | assumption | (dsimp only; first | omega | rfl | assumption) | (simp only [*]; done) | exact ⟨hs.1, (by dsimp only; omega), hs1⟩), (by first | omega | rfl | assumption | (dsimp only; first | omega | rfl | assumption) | (simp only [*]; done) | exact ⟨hs.1, (by dsimp only; omega), hs1⟩), (by first | omega | rfl | assumption | (dsimp only; first | omega | rfl | assumption) | (simp only [*]; done) | exact ⟨hs.1, (by dsimp only; omega), hs1⟩), trivial⟩) (⟨.inl rfl, trivial⟩) (I (bitsI .and .u64 ((IntKind.u64.wrap ((IntKind.u64.wrap ((IntKind.u64.wrap (s.seed * 6364136223846793005)) + 0)) + 1442695040888963407)) / 1099511627776) 255)) (by kernel_rfl) (.inl rfl) (fun _ => rfl) (fun _ => trivial)
  obtain ⟨⟨v, s'⟩, ⟨hh0, hh1, hh2, hh3, _⟩, hc⟩ := hh
  exact ⟨v, s', hh0, hh1, hh2, hh3, hc⟩


-- spec.l00Src).pick
theorem pick_ok (s : l00Src) (n : Int) (hs : okSrc s) (ha : s.atx ≤ 3999999999999999990) : ∃ (v : Int) (s' : l00Src), (0 ≤ v ∧ (v < n ∨ v = 0)) ∧ (okSrc s') ∧ (s'.code = s.code) ∧ (s.atx + 0 ≤ s'.atx ∧ s'.atx ≤ s.atx + 2) ∧ CallOK Tryz.prog 107 [.ref 7001 0, I n] (lookO [(7001, bxl00Src s)]) true (I v) (lookO [(7001, bxl00Src s')]) := by
  have hs0 := hs.2.1
  have hs1 := hs.2.2
  have hh : ∃ r : Int × l00Src, ((0 ≤ r.1 ∧ (r.1 < n ∨ r.1 = 0)) ∧ (okSrc r.2) ∧ (r.2.code = s.code) ∧ (s.atx + 0 ≤ r.2.atx ∧ r.2.atx ≤ s.atx + 2) ∧ (True)) ∧ CallOK Tryz.prog 107 [.ref 7001 0, I n] (lookO [(7001, bxl00Src s)]) true (I r.1) (lookO [(7001, bxl00Src r.2)]) := by
    refine fn_okX (Φ := fun r : Int × l00Src => (0 ≤ r.1 ∧ (r.1 < n ∨ r.1 = 0)) ∧ (okSrc r.2) ∧ (r.2.code = s.code) ∧ (s.atx + 0 ≤ r.2.atx ∧ r.2.atx ≤ s.atx + 2) ∧ (True)) [(7001, bxl00Src s)] (fun r => [(7001, bxl00Src r.2)]) (fn := Tryz.f107) (nt := 20) Tryz.func107 rfl rfl (args := [.ref 7001 0, I n]) rfl (allcons (.inr trivial) (allcons (.inl ⟨rfl, trivial⟩) allnil)) (res := fun r => I r.1) ?_
    refine xR [] [0, 1] [7001] [.ref 7001 0, I n] [some (bxl00Src s)] [] trivial ?_
    refine x_seq ?_
    refine x_seq ?_
    by_cases h1 : n ≤ 1
    ·refine x_r [(1, .dec true)] [0, 1, 7] [7001] [.ref 7001 0, I n, Bv true] [some (bxl00Src s)] [n ≤ 1] ⟨h1, trivial⟩ ?_
     refine xe_then ?_
     refine x_true rfl ?_
     refine xR [] [4] [7001] [I 0] [some (bxl00Src s)] [] trivial ?_
     refine x_ret ?_
     refine xe_ret_then ?_
     refine xe_end (0, s) (show (0 ≤ 0 ∧ (0 < n ∨ 0 = 0)) ∧ (okSrc s) ∧ (s.code = s.code) ∧ (s.atx + 0 ≤ s.atx ∧ s.atx ≤ s.atx + 2) ∧ (True) from ⟨(by first | omega | rfl | assumption | (dsimp only; first | omega | rfl | assumption) | (simp only [*]; done) | exact ⟨Int.emod_nonneg _ (by omega), .inl (Int.emod_lt_of_pos _ (by omega))⟩), (by first | omega | rfl | assumption | (dsimp only; first | omega | rfl | assumption) | (simp only [*]; done) | exact ⟨Int.emod_nonneg _ (by omega), .inl (Int.emod_lt_of_pos _ (by omega))⟩), (by first | omega | rfl | assumption | (dsimp only; first | omega | rfl | assumption) | (simp only [*]; done) | exact ⟨Int.emod_nonneg _ (by omega), .inl (Int.emod_lt_of_pos _ (by omega))⟩), (by first | omega | rfl | assumption | (dsimp only; first | omega | rfl | assumption) | (simp only [*]; done) | exact ⟨Int.emod_nonneg _ (by omega), .inl (Int.emod_lt_of_pos _ (by omega))⟩), trivial⟩) (⟨.inl rfl, trivial⟩) (I 0) (by kernel_rfl) (.inl rfl) (fun _ => rfl) (fun _ => trivial)
    refine x_r [(1, .dec false)] [0, 1, 7] [7001] [.ref 7001 0, I n, Bv false] [some (bxl00Src s)] [¬ (n ≤ 1)] ⟨h1, trivial⟩ ?_
    refine xe_then ?_
    refine x_false rfl ?_
    refine x_skip ?_
    refine xe_then ?_
    refine x_seq ?_
    obtain ⟨v_1, s'_1, hx1_0, hx1_1, hx1_2, hx1_3, hc1⟩ := next_ok s (by first | assumption | (simp only [okSrc] at *; simp_all; done)) (by omega)
    refine x_r [(1, .lend [(7001, bxl00Src s, bxl00Src s'_1)] [] [(true, .any)] true (I v_1))] [0, 1, 5] [7001] [.ref 7001 0, I n, I v_1] [some (bxl00Src s'_1)] [CallOK Tryz.prog 181 [.ref 7001 0] (lookO [(7001, bxl00Src s)]) true (I v_1) (lookO [(7001, bxl00Src s'_1)]) ∧ (((bxl00Src s : Ob) = bxl00Src s ∨ obLe noOb true (bxl00Src s) (bxl00Src s)) ∧ taggedO false (bxl00Src s)) ∧ True] ⟨⟨hc1, ⟨.inl rfl, (by simp [taggedO, taggedL, tagged, tagU8])⟩, trivial⟩, trivial⟩ ?_
    refine xe_then ?_
    refine x_seq ?_
    refine x_seq ?_
    by_cases h2 : 200 < n
    ·refine x_r [(1, .dec true)] [0, 1, 5, 11] [7001] [.ref 7001 0, I n, I v_1, Bv true] [some (bxl00Src s'_1)] [200 < n] ⟨h2, trivial⟩ ?_
     refine xe_then ?_
     refine x_true rfl ?_
     obtain ⟨v_2, s'_2, hx2_0, hx2_1, hx2_2, hx2_3, hc2⟩ := next_ok s'_1 (by first | assumption | (simp only [okSrc] at *; simp_all; done)) (by omega)
     refine x_r [(3, .lend [(7001, bxl00Src s'_1, bxl00Src s'_2)] [] [(true, .any)] true (I v_2))] [1, 5] [7001] [I n, I ((v_1 * 256) + v_2)] [some (bxl00Src s'_2)] [inR .i64 (v_1 * 256), CallOK Tryz.prog 181 [.ref 7001 0] (lookO [(7001, bxl00Src s'_1)]) true (I v_2) (lookO [(7001, bxl00Src s'_2)]) ∧ (((bxl00Src s'_1 : Ob) = bxl00Src s'_1 ∨ obLe noOb true (bxl00Src s'_1) (bxl00Src s'_1)) ∧ taggedO false (bxl00Src s'_1)) ∧ True, inR .i64 ((v_1 * 256) + v_2)] ⟨(inR_i64 (by omega) (by omega)), ⟨hc2, ⟨.inl rfl, (by simp [taggedO, taggedL, tagged, tagU8])⟩, trivial⟩, (inR_i64 (by omega) (by omega)), trivial⟩ ?_
     refine xe_then ?_
     refine xR [(2, .nn)] [4] [7001] [I (((v_1 * 256) + v_2) % n)] [some (bxl00Src s'_2)] [(0 : Int) ≤ ((v_1 * 256) + v_2) ∧ (0 : Int) < n] ⟨⟨(by omega), (by omega)⟩, trivial⟩ ?_
     refine x_ret ?_
     refine xe_end ((((v_1 * 256) + v_2) % n), s'_2) (show (0 ≤ (((v_1 * 256) + v_2) % n) ∧ ((((v_1 * 256) + v_2) % n) < n ∨ (((v_1 * 256) + v_2) % n) = 0)) ∧ (okSrc s'_2) ∧ (s'_2.code = s.code) ∧ (s.atx + 0 ≤ s'_2.atx ∧ s'_2.atx ≤ s.atx + 2) ∧ (True) from ⟨(by first | omega | rfl | assumption | (dsimp only; first | omega | rfl | assumption) | (simp only [*]; done) | exact ⟨Int.emod_nonneg _ (by omega), .inl (Int.emod_lt_of_pos _ (by omega))⟩), (by first | omega | rfl | assumption | (dsimp only; first | omega | rfl | assumption) | (simp only [*]; done) | exact ⟨Int.emod_nonneg _ (by omega), .inl (Int.emod_lt_of_pos _ (by omega))⟩), (by first | omega | rfl | assumption | (dsimp only; first | omega | rfl | assumption) | (simp only [*]; done) | exact ⟨Int.emod_nonneg _ (by omega), .inl (Int.emod_lt_of_pos _ (by omega))⟩), (by first | omega | rfl | assumption | (dsimp only; first | omega | rfl | assumption) | (simp only [*]; done) | exact ⟨Int.emod_nonneg _ (by omega), .inl (Int.emod_lt_of_pos _ (by omega))⟩), trivial⟩) (⟨.inl rfl, trivial⟩) (I (((v_1 * 256) + v_2) % n)) (by kernel_rfl) (.inl rfl) (fun _ => rfl) (fun _ => trivial)
    refine x_r [(1, .dec false)] [0, 1, 5, 11] [7001] [.ref 7001 0, I n, I v_1, Bv false] [some (bxl00Src s'_1)] [¬ (200 < n)] ⟨h2, trivial⟩ ?_
    refine xe_then ?_
    refine x_false rfl ?_
    refine x_skip ?_
    refine xe_then ?_
    refine xR [(2, .nn)] [4] [7001] [I (v_1 % n)] [some (bxl00Src s'_1)] [(0 : Int) ≤ v_1 ∧ (0 : Int) < n] ⟨⟨(by omega), (by omega)⟩, trivial⟩ ?_
    refine x_ret ?_
    refine xe_end ((v_1 % n), s'_1) (show (0 ≤ (v_1 % n) ∧ ((v_1 % n) < n ∨ (v_1 % n) = 0)) ∧ (okSrc s'_1) ∧ (s'_1.code = s.code) ∧ (s.atx + 0 ≤ s'_1.atx ∧ s'_1.atx ≤ s.atx + 2) ∧ (True) from ⟨(by first | omega | rfl | assumption | (dsimp only; first | omega | rfl | assumption) | (simp only [*]; done) | exact ⟨Int.emod_nonneg _ (by omega), .inl (Int.emod_lt_of_pos _ (by omega))⟩), (by first | omega | rfl | assumption | (dsimp only; first | omega | rfl | assumption) | (simp only [*]; done) | exact ⟨Int.emod_nonneg _ (by omega), .inl (Int.emod_lt_of_pos _ (by omega))⟩), (by first | omega | rfl | assumption | (dsimp only; first | omega | rfl | assumption) | (simp only [*]; done) | exact ⟨Int.emod_nonneg _ (by omega), .inl (Int.emod_lt_of_pos _ (by omega))⟩), (by first | omega | rfl | assumption | (dsimp only; first | omega | rfl | assumption) | (simp only [*]; done) | exact ⟨Int.emod_nonneg _ (by omega), .inl (Int.emod_lt_of_pos _ (by omega))⟩), trivial⟩) (⟨.inl rfl, trivial⟩) (I (v_1 % n)) (by kernel_rfl) (.inl rfl) (fun _ => rfl) (fun _ => trivial)
  obtain ⟨⟨v, s'⟩, ⟨hh0, hh1, hh2, hh3, _⟩, hc⟩ := hh
  exact ⟨v, s', hh0, hh1, hh2, hh3, hc⟩


-- spec.l00Min
theorem l00Min_ok (a : Int) (b : Int) : Con Tryz.prog 180 [I a, I b] true (I (min a b)) := by
  refine fn_ok (fn := Tryz.f180) (nt := 10) Tryz.func180 rfl rfl rfl rfl (by simp [taggedL, tagged]) fun B hB => ?_
  refine aR [] [0, 1] [] [I a, I b] [] [] hB trivial ?_
  refine aw_seq ?_
  refine aw_seq ?_
  by_cases h1 : a < b
  ·refine aw_r [(2, .dec true)] [0, 1, 7] [] [I a, I b, Bv true] [] [a < b] hB ⟨h1, trivial⟩ ?_
   refine ae_then ?_
   refine aw_true rfl ?_
   refine aR [] [4] [] [I a] [] [] hB trivial ?_
   refine aw_ret ?_
   refine ae_ret_then ?_
   refine ae_ret hB (I a) (by kernel_rfl) (.inl (by refine congrArg I ?_; omega)) rfl (fun _ => trivial)
  refine aw_r [(2, .dec false)] [0, 1, 7] [] [I a, I b, Bv false] [] [¬ (a < b)] hB ⟨h1, trivial⟩ ?_
  refine ae_then ?_
  refine aw_false rfl ?_
  refine aw_skip ?_
  refine ae_then ?_
  refine aR [] [4] [] [I b] [] [] hB trivial ?_
  refine aw_ret ?_
  refine ae_ret hB (I b) (by kernel_rfl) (.inl (by refine congrArg I ?_; omega)) rfl (fun _ => trivial)


-- spec.l00Max
theorem l00Max_ok (a : Int) (b : Int) : Con Tryz.prog 172 [I a, I b] true (I (max a b)) := by
  refine fn_ok (fn := Tryz.f172) (nt := 10) Tryz.func172 rfl rfl rfl rfl (by simp [taggedL, tagged]) fun B hB => ?_
  refine aR [] [0, 1] [] [I a, I b] [] [] hB trivial ?_
  refine aw_seq ?_
  refine aw_seq ?_
  by_cases h1 : b < a
  ·refine aw_r [(2, .dec true)] [0, 1, 7] [] [I a, I b, Bv true] [] [b < a] hB ⟨h1, trivial⟩ ?_
   refine ae_then ?_
   refine aw_true rfl ?_
   refine aR [] [4] [] [I a] [] [] hB trivial ?_
   refine aw_ret ?_
   refine ae_ret_then ?_
   refine ae_ret hB (I a) (by kernel_rfl) (.inl (by refine congrArg I ?_; omega)) rfl (fun _ => trivial)
  refine aw_r [(2, .dec false)] [0, 1, 7] [] [I a, I b, Bv false] [] [¬ (b < a)] hB ⟨h1, trivial⟩ ?_
  refine ae_then ?_
  refine aw_false rfl ?_
  refine aw_skip ?_
  refine ae_then ?_
  refine aR [] [4] [] [I b] [] [] hB trivial ?_
  refine aw_ret ?_
  refine ae_ret hB (I b) (by kernel_rfl) (.inl (by refine congrArg I ?_; omega)) rfl (fun _ => trivial)


-- spec.l00Src).one
theorem one_ok (s : l00Src) (n : Int) (hs : okSrc s) (ha : s.atx ≤ 3999999999999999980) : ∃ (v : Bool) (s' : l00Src), (okSrc s') ∧ (s'.code = s.code) ∧ (s.atx + 0 ≤ s'.atx ∧ s'.atx ≤ s.atx + 2) ∧ CallOK Tryz.prog 66 [.ref 7001 0, I n] (lookO [(7001, bxl00Src s)]) true (Bv v) (lookO [(7001, bxl00Src s')]) := by
  have hh : ∃ r : Bool × l00Src, ((okSrc r.2) ∧ (r.2.code = s.code) ∧ (s.atx + 0 ≤ r.2.atx ∧ r.2.atx ≤ s.atx + 2) ∧ (True)) ∧ CallOK Tryz.prog 66 [.ref 7001 0, I n] (lookO [(7001, bxl00Src s)]) true (Bv r.1) (lookO [(7001, bxl00Src r.2)]) := by
    refine fn_okX (Φ := fun r : Bool × l00Src => (okSrc r.2) ∧ (r.2.code = s.code) ∧ (s.atx + 0 ≤ r.2.atx ∧ r.2.atx ≤ s.atx + 2) ∧ (True)) [(7001, bxl00Src s)] (fun r => [(7001, bxl00Src r.2)]) (fn := Tryz.f66) (nt := 9) Tryz.func66 rfl rfl (args := [.ref 7001 0, I n]) rfl (allcons (.inr trivial) (allcons (.inl ⟨rfl, trivial⟩) allnil)) (res := fun r => Bv r.1) ?_
    refine xR [] [0, 1] [7001] [.ref 7001 0, I n] [some (bxl00Src s)] [] trivial ?_
    refine x_seq ?_
    obtain ⟨v_1, s'_1, hx1_0, hx1_1, hx1_2, hx1_3, hc1⟩ := pick_ok s n (by first | assumption | (simp only [okSrc] at *; simp_all; done)) (by omega)
    refine x_r [(2, .lend [(7001, bxl00Src s, bxl00Src s'_1)] [] [(true, .any), (true, .any)] true (I v_1))] [4] [7001] [Bv (decide (v_1 = 0))] [some (bxl00Src s'_1)] [CallOK Tryz.prog 107 [.ref 7001 0, I n] (lookO [(7001, bxl00Src s)]) true (I v_1) (lookO [(7001, bxl00Src s'_1)]) ∧ (((bxl00Src s : Ob) = bxl00Src s ∨ obLe noOb true (bxl00Src s) (bxl00Src s)) ∧ taggedO false (bxl00Src s)) ∧ True] ⟨⟨hc1, ⟨.inl rfl, (by simp [taggedO, taggedL, tagged, tagU8])⟩, trivial⟩, trivial⟩ ?_
    refine xe_then ?_
    refine x_ret ?_
    refine xe_end (decide (v_1 = 0), s'_1) (show (okSrc s'_1) ∧ (s'_1.code = s.code) ∧ (s.atx + 0 ≤ s'_1.atx ∧ s'_1.atx ≤ s.atx + 2) ∧ (True) from ⟨(by first | omega | rfl | assumption | (dsimp only; first | omega | rfl | assumption) | (simp only [*]; done) | (simp_all; done)), (by first | omega | rfl | assumption | (dsimp only; first | omega | rfl | assumption) | (simp only [*]; done) | (simp_all; done)), (by first | omega | rfl | assumption | (dsimp only; first | omega | rfl | assumption) | (simp only [*]; done) | (simp_all; done)), trivial⟩) (⟨.inl rfl, trivial⟩) (Bv (decide (v_1 = 0))) (by kernel_rfl) (.inl rfl) (fun _ => rfl) (fun _ => trivial)
  obtain ⟨⟨v, s'⟩, ⟨hh0, hh1, hh2, _⟩, hc⟩ := hh
  exact ⟨v, s', hh0, hh1, hh2, hc⟩


def inB (a l h : Int) : Bool := decide (l ≤ a ∧ a ≤ h)
theorem inB_iff {a l h : Int} : inB a l h = true ↔ l ≤ a ∧ a ≤ h := by simp [inB]
theorem bAt_bd (s : ByteArray) (i : Nat) : 0 ≤ bAt s i ∧ bAt s i ≤ 255 := by
  unfold bAt
  have := (s.data.toList.getD i 0).toNat_lt
  omega

def okF (p : Feat) : Bool := inB p.X 0 255 && (inB p.Y 0 255 && inB p.D 0 7)
theorem okF_iff {p : Feat} : okF p = true ↔ (0 ≤ p.X ∧ p.X ≤ 255) ∧ (0 ≤ p.Y ∧ p.Y ≤ 255) ∧ (0 ≤ p.D ∧ p.D ≤ 7) := by simp [okF, inB, and_assoc]
/-- Whether all are features, and they are 1 to m. -/
def okFeats (xs : List Feat) (m : Int) : Bool := decide (1 ≤ (xs.length : Int) ∧ (xs.length : Int) ≤ m) && allN xs.length (fun j => okF (at_ xs j))
theorem okFeats_n {xs : List Feat} {m : Int} (h : okFeats xs m = true) : 1 ≤ xs.length ∧ (xs.length : Int) ≤ m := by
  simp only [okFeats, Bool.and_eq_true, decide_eq_true_eq] at h; omega
theorem okFeats_at {xs : List Feat} {m : Int} (h : okFeats xs m = true) {j : Nat} (hj : j < xs.length) : okF (at_ xs j) = true := by
  simp only [okFeats, Bool.and_eq_true] at h
  exact allN_get h.2 hj

-- spec.l08Draw
theorem l08Draw_ok (s : l00Src) (most : Int) (hs : okSrc s) (ha : s.atx ≤ 3999999999999999000) (hm : 1 ≤ most ∧ most ≤ 12) : ∃ (s' : l00Src) (fs : List Feat), (okSrc s') ∧ (s'.code = s.code) ∧ (s.atx + 0 ≤ s'.atx ∧ s'.atx ≤ s.atx + 300) ∧ (1 ≤ (fs.length : Int) ∧ (fs.length : Int) ≤ most) ∧ (∀ f_ ∈ fs, okF f_ = true) ∧ CallOK Tryz.prog 105 [.ref 7001 0, I most] (lookO [(7001, bxl00Src s)]) false (.arr 9301) (lookO [(7001, bxl00Src s'), (9301, tAFeat fs)]) := by
  have hh : ∃ r : l00Src × (List Feat), ((okSrc r.1) ∧ (r.1.code = s.code) ∧ (s.atx + 0 ≤ r.1.atx ∧ r.1.atx ≤ s.atx + 300) ∧ (1 ≤ (r.2.length : Int) ∧ (r.2.length : Int) ≤ most) ∧ (∀ f_ ∈ r.2, okF f_ = true) ∧ (True)) ∧ CallOK Tryz.prog 105 [.ref 7001 0, I most] (lookO [(7001, bxl00Src s)]) false (.arr 9301) (lookO [(7001, bxl00Src r.1), (9301, tAFeat r.2)]) := by
    refine fn_okX (Φ := fun r : l00Src × (List Feat) => (okSrc r.1) ∧ (r.1.code = s.code) ∧ (s.atx + 0 ≤ r.1.atx ∧ r.1.atx ≤ s.atx + 300) ∧ (1 ≤ (r.2.length : Int) ∧ (r.2.length : Int) ≤ most) ∧ (∀ f_ ∈ r.2, okF f_ = true) ∧ (True)) [(7001, bxl00Src s)] (fun r => [(7001, bxl00Src r.1), (9301, tAFeat r.2)]) (fn := Tryz.f105) (nt := 51) Tryz.func105 rfl rfl (args := [.ref 7001 0, I most]) rfl (allcons (.inr trivial) (allcons (.inl ⟨rfl, trivial⟩) allnil)) (res := fun r => .arr 9301) ?_
    refine xR [] [0, 1] [7001] [.ref 7001 0, I most] [some (bxl00Src s)] [] trivial ?_
    refine xR [(0, .new 10)] [0, 1, 5] [10, 7001] [.ref 7001 0, I most, .arr 10] [some (.arr 3 0 (litF [] 3)), some (bxl00Src s)] [] trivial ?_
    refine x_seq ?_
    obtain ⟨v_1, s'_1, hx1_0, hx1_1, hx1_2, hx1_3, hc1⟩ := pick_ok s 200 (by first | assumption | (simp only [okSrc] at *; simp_all; done)) (by omega)
    refine x_r [(1, .lend [(7001, bxl00Src s, bxl00Src s'_1)] [] [(true, .any), (true, .any)] true (I v_1))] [0, 1, 5, 6] [10, 7001] [.ref 7001 0, I most, .arr 10, I v_1] [some (.arr 3 0 (litF [] 3)), some (bxl00Src s'_1)] [CallOK Tryz.prog 107 [.ref 7001 0, I 200] (lookO [(7001, bxl00Src s)]) true (I v_1) (lookO [(7001, bxl00Src s'_1)]) ∧ (((bxl00Src s : Ob) = bxl00Src s ∨ obLe noOb true (bxl00Src s) (bxl00Src s)) ∧ taggedO false (bxl00Src s)) ∧ True] ⟨⟨hc1, ⟨.inl rfl, (by simp [taggedO, taggedL, tagged, tagU8])⟩, trivial⟩, trivial⟩ ?_
    refine xe_then ?_
    refine x_seq ?_
    obtain ⟨v_2, s'_2, hx2_0, hx2_1, hx2_2, hx2_3, hc2⟩ := pick_ok s'_1 200 (by first | assumption | (simp only [okSrc] at *; simp_all; done)) (by omega)
    refine x_r [(1, .lend [(7001, bxl00Src s'_1, bxl00Src s'_2)] [] [(true, .any), (true, .any)] true (I v_2))] [0, 1, 5, 6, 7] [10, 7001] [.ref 7001 0, I most, .arr 10, I v_1, I v_2] [some (.arr 3 0 (litF [] 3)), some (bxl00Src s'_2)] [CallOK Tryz.prog 107 [.ref 7001 0, I 200] (lookO [(7001, bxl00Src s'_1)]) true (I v_2) (lookO [(7001, bxl00Src s'_2)]) ∧ (((bxl00Src s'_1 : Ob) = bxl00Src s'_1 ∨ obLe noOb true (bxl00Src s'_1) (bxl00Src s'_1)) ∧ taggedO false (bxl00Src s'_1)) ∧ True] ⟨⟨hc2, ⟨.inl rfl, (by simp [taggedO, taggedL, tagged, tagU8])⟩, trivial⟩, trivial⟩ ?_
    refine xe_then ?_
    refine x_seq ?_
    obtain ⟨v_3, s'_3, hx3_0, hx3_1, hx3_2, hx3_3, hc3⟩ := pick_ok s'_2 8 (by first | assumption | (simp only [okSrc] at *; simp_all; done)) (by omega)
    refine x_r [(1, .lend [(7001, bxl00Src s'_2, bxl00Src s'_3)] [] [(true, .any), (true, .any)] true (I v_3))] [0, 1, 5, 6, 7, 8] [10, 7001] [.ref 7001 0, I most, .arr 10, I v_1, I v_2, I v_3] [some (.arr 3 0 (litF [] 3)), some (bxl00Src s'_3)] [CallOK Tryz.prog 107 [.ref 7001 0, I 8] (lookO [(7001, bxl00Src s'_2)]) true (I v_3) (lookO [(7001, bxl00Src s'_3)]) ∧ (((bxl00Src s'_2 : Ob) = bxl00Src s'_2 ∨ obLe noOb true (bxl00Src s'_2) (bxl00Src s'_2)) ∧ taggedO false (bxl00Src s'_2)) ∧ True] ⟨⟨hc3, ⟨.inl rfl, (by simp [taggedO, taggedL, tagged, tagU8])⟩, trivial⟩, trivial⟩ ?_
    refine xe_then ?_
    refine x_seq ?_
    refine x_seq ?_
    obtain ⟨v_4, s'_4, hx4_0, hx4_1, hx4_2, hx4_3, hc4⟩ := pick_ok s'_3 most (by first | assumption | (simp only [okSrc] at *; simp_all; done)) (by omega)
    refine x_r [(2, .lend [(7001, bxl00Src s'_3, bxl00Src s'_4)] [] [(true, .any), (true, .any)] true (I v_4))] [0, 5, 6, 7, 8, 9] [10, 7001] [.ref 7001 0, .arr 10, I v_1, I v_2, I v_3, I (1 + v_4)] [some (.arr 3 0 (litF [] 3)), some (bxl00Src s'_4)] [CallOK Tryz.prog 107 [.ref 7001 0, I most] (lookO [(7001, bxl00Src s'_3)]) true (I v_4) (lookO [(7001, bxl00Src s'_4)]) ∧ (((bxl00Src s'_3 : Ob) = bxl00Src s'_3 ∨ obLe noOb true (bxl00Src s'_3) (bxl00Src s'_3)) ∧ taggedO false (bxl00Src s'_3)) ∧ True, inR .i64 (1 + v_4)] ⟨⟨hc4, ⟨.inl rfl, (by simp [taggedO, taggedL, tagged, tagU8])⟩, trivial⟩, (inR_i64 (by omega) (by omega)), trivial⟩ ?_
    refine xe_then ?_
    refine x_block ?_
    refine x_weak [] (T := [(0, .ref 7001 0), (5, .arr 10), (6, I v_1), (7, I v_2), (8, I v_3), (9, I (1 + v_4))]) (O := [(10, tAFeat ([] : List Feat)), (7001, bxl00Src s'_4)]) rfl (⟨.inl rfl, .inl rfl, .inl rfl, .inl rfl, .inl rfl, .inl rfl, trivial⟩) (⟨.inr ⟨rfl, (by first | rfl | (simp; done) | (simp; omega) | omega), fun i_ hi_ => absurd hi_ (Nat.not_lt_zero _)⟩, .inl rfl, trivial⟩) ?_
    refine x_loop (X := (List Feat) × Int × Int × Int × Int × l00Src) (fun x => mkS [(0, .ref 7001 0), (5, .arr 10), (6, I x.2.1), (7, I x.2.2.1), (8, I x.2.2.2.1), (9, I x.2.2.2.2.1)] [(10, tAFeat x.1), (7001, bxl00Src x.2.2.2.2.2)]) (fun x => (okSrc x.2.2.2.2.2 ∧ x.2.2.2.2.2.code = s.code ∧ s.atx ≤ x.2.2.2.2.2.atx ∧ x.2.2.2.2.2.atx ≤ s.atx + 20 + 10 * (most - x.2.2.2.2.1)) ∧ (0 ≤ x.2.2.2.2.1 ∧ x.2.2.2.2.1 ≤ most) ∧ ((x.1.length : Int) + x.2.2.2.2.1 ≤ most) ∧ (1 ≤ (x.1.length : Int) + x.2.2.2.2.1) ∧ (0 ≤ x.2.1 ∧ x.2.1 ≤ 255) ∧ (0 ≤ x.2.2.1 ∧ x.2.2.1 ≤ 255) ∧ (0 ≤ x.2.2.2.1 ∧ x.2.2.2.1 ≤ 7) ∧ (∀ f_ ∈ x.1, okF f_ = true) ∧ True) (fun x => x.2.2.2.2.1.toNat) (([] : List Feat), v_1, v_2, v_3, (1 + v_4), s'_4) rfl (show (okSrc s'_4 ∧ s'_4.code = s.code ∧ s.atx ≤ s'_4.atx ∧ s'_4.atx ≤ s.atx + 20 + 10 * (most - (1 + v_4))) ∧ (0 ≤ (1 + v_4) ∧ (1 + v_4) ≤ most) ∧ ((([] : List Feat).length : Int) + (1 + v_4) ≤ most) ∧ (1 ≤ (([] : List Feat).length : Int) + (1 + v_4)) ∧ (0 ≤ v_1 ∧ v_1 ≤ 255) ∧ (0 ≤ v_2 ∧ v_2 ≤ 255) ∧ (0 ≤ v_3 ∧ v_3 ≤ 7) ∧ (∀ f_ ∈ ([] : List Feat), okF f_ = true) ∧ True from ⟨(by exact ⟨by assumption, by first | assumption | rfl | (simp only [*]; done), by omega, by omega⟩), (by omega), (by simp; omega), (by simp; omega), (by omega), (by omega), (by omega), (by intro f_ hf_; cases hf_), trivial⟩) (fun x hI => ?_)
    obtain ⟨out, x, y, d, k, src⟩ := x
    obtain ⟨hs0, hk0, hol, hol2, hx0, hy0, hd0, hfo, _⟩ : (okSrc src ∧ src.code = s.code ∧ s.atx ≤ src.atx ∧ src.atx ≤ s.atx + 20 + 10 * (most - k)) ∧ (0 ≤ k ∧ k ≤ most) ∧ ((out.length : Int) + k ≤ most) ∧ (1 ≤ (out.length : Int) + k) ∧ (0 ≤ x ∧ x ≤ 255) ∧ (0 ≤ y ∧ y ≤ 255) ∧ (0 ≤ d ∧ d ≤ 7) ∧ (∀ f_ ∈ out, okF f_ = true) ∧ True := hI
    show XW _ _ _ _ (mkS [(0, .ref 7001 0), (5, .arr 10), (6, I x), (7, I y), (8, I d), (9, I k)] [(10, tAFeat out), (7001, bxl00Src src)]) _ _
    refine x_seq ?_
    refine x_seq ?_
    by_cases h1 : 0 < k
    ·refine x_r [(1, .dec true)] [0, 5, 6, 7, 8, 9, 22] [10, 7001] [.ref 7001 0, .arr 10, I x, I y, I d, I k, Bv true] [some (tAFeat out), some (bxl00Src src)] [0 < k] ⟨h1, trivial⟩ ?_
     refine xe_then ?_
     refine x_true rfl ?_
     refine x_skip ?_
     refine xe_then ?_
     refine x_seq ?_
     refine x_block ?_
     refine xR [(5, .new 30), (6, .new 31)] [0, 5, 6, 7, 8, 9] [31, 7001] [.ref 7001 0, .arr 31, I x, I y, I d, I k] [some (.arr 3 (out.length + 1) (catF out.length (fFeat out) (litF [I x, I y, I d] 3))), some (bxl00Src src)] [(out.length + 1) * 24 ≤ 140737488355328] ⟨(by omega), trivial⟩ ?_
     refine x_seq ?_
     obtain ⟨v_5, s'_5, hx5_0, hx5_1, hx5_2, hx5_3, hc5⟩ := pick_ok src 61 (by first | assumption | (simp only [okSrc] at *; simp_all; done)) (by omega)
     refine x_r [(2, .lend [(7001, bxl00Src src, bxl00Src s'_5)] [] [(true, .any), (true, .any)] true (I v_5)), (5, .call [(true, .any), (true, .any)] true (I (min 255 ((x + v_5) - 30)))), (6, .call [(true, .any), (true, .any)] true (I (max 0 (min 255 ((x + v_5) - 30)))))] [0, 5, 6, 7, 8, 9] [31, 7001] [.ref 7001 0, .arr 31, I (max 0 (min 255 ((x + v_5) - 30))), I y, I d, I k] [some (.arr 3 (out.length + 1) (catF out.length (fFeat out) (litF [I x, I y, I d] 3))), some (bxl00Src s'_5)] [CallOK Tryz.prog 107 [.ref 7001 0, I 61] (lookO [(7001, bxl00Src src)]) true (I v_5) (lookO [(7001, bxl00Src s'_5)]) ∧ (((bxl00Src src : Ob) = bxl00Src src ∨ obLe noOb true (bxl00Src src) (bxl00Src src)) ∧ taggedO false (bxl00Src src)) ∧ True, inR .i64 (x + v_5), inR .i64 ((x + v_5) - 30), Con Tryz.prog 180 [I 255, I ((x + v_5) - 30)] true (I (min 255 ((x + v_5) - 30))) ∧ True, Con Tryz.prog 172 [I 0, I (min 255 ((x + v_5) - 30))] true (I (max 0 (min 255 ((x + v_5) - 30)))) ∧ True] ⟨⟨hc5, ⟨.inl rfl, (by simp [taggedO, taggedL, tagged, tagU8])⟩, trivial⟩, (inR_i64 (by omega) (by omega)), (inR_i64 (by omega) (by omega)), ⟨(l00Min_ok 255 ((x + v_5) - 30)), trivial⟩, ⟨(l00Max_ok 0 (min 255 ((x + v_5) - 30))), trivial⟩, trivial⟩ ?_
     refine xe_then ?_
     refine x_seq ?_
     obtain ⟨v_6, s'_6, hx6_0, hx6_1, hx6_2, hx6_3, hc6⟩ := pick_ok s'_5 61 (by first | assumption | (simp only [okSrc] at *; simp_all; done)) (by omega)
     refine x_r [(2, .lend [(7001, bxl00Src s'_5, bxl00Src s'_6)] [] [(true, .any), (true, .any)] true (I v_6)), (5, .call [(true, .any), (true, .any)] true (I (min 255 ((y + v_6) - 30)))), (6, .call [(true, .any), (true, .any)] true (I (max 0 (min 255 ((y + v_6) - 30)))))] [0, 5, 6, 7, 8, 9] [31, 7001] [.ref 7001 0, .arr 31, I (max 0 (min 255 ((x + v_5) - 30))), I (max 0 (min 255 ((y + v_6) - 30))), I d, I k] [some (.arr 3 (out.length + 1) (catF out.length (fFeat out) (litF [I x, I y, I d] 3))), some (bxl00Src s'_6)] [CallOK Tryz.prog 107 [.ref 7001 0, I 61] (lookO [(7001, bxl00Src s'_5)]) true (I v_6) (lookO [(7001, bxl00Src s'_6)]) ∧ (((bxl00Src s'_5 : Ob) = bxl00Src s'_5 ∨ obLe noOb true (bxl00Src s'_5) (bxl00Src s'_5)) ∧ taggedO false (bxl00Src s'_5)) ∧ True, inR .i64 (y + v_6), inR .i64 ((y + v_6) - 30), Con Tryz.prog 180 [I 255, I ((y + v_6) - 30)] true (I (min 255 ((y + v_6) - 30))) ∧ True, Con Tryz.prog 172 [I 0, I (min 255 ((y + v_6) - 30))] true (I (max 0 (min 255 ((y + v_6) - 30)))) ∧ True] ⟨⟨hc6, ⟨.inl rfl, (by simp [taggedO, taggedL, tagged, tagU8])⟩, trivial⟩, (inR_i64 (by omega) (by omega)), (inR_i64 (by omega) (by omega)), ⟨(l00Min_ok 255 ((y + v_6) - 30)), trivial⟩, ⟨(l00Max_ok 0 (min 255 ((y + v_6) - 30))), trivial⟩, trivial⟩ ?_
     refine xe_then ?_
     refine x_seq ?_
     obtain ⟨v_7, s'_7, hx7_0, hx7_1, hx7_2, hc7⟩ := one_ok s'_6 2 (by first | assumption | (simp only [okSrc] at *; simp_all; done)) (by omega)
     rcases Bool.eq_false_or_eq_true v_7 with h2 | h2
     ·subst h2
      refine x_r [(1, .lend [(7001, bxl00Src s'_6, bxl00Src s'_7)] [] [(true, .any), (true, .any)] true (Bv true))] [0, 5, 6, 7, 8, 9, 47] [31, 7001] [.ref 7001 0, .arr 31, I (max 0 (min 255 ((x + v_5) - 30))), I (max 0 (min 255 ((y + v_6) - 30))), I d, I k, Bv true] [some (.arr 3 (out.length + 1) (catF out.length (fFeat out) (litF [I x, I y, I d] 3))), some (bxl00Src s'_7)] [CallOK Tryz.prog 66 [.ref 7001 0, I 2] (lookO [(7001, bxl00Src s'_6)]) true (Bv true) (lookO [(7001, bxl00Src s'_7)]) ∧ (((bxl00Src s'_6 : Ob) = bxl00Src s'_6 ∨ obLe noOb true (bxl00Src s'_6) (bxl00Src s'_6)) ∧ taggedO false (bxl00Src s'_6)) ∧ True] ⟨⟨hc7, ⟨.inl rfl, (by simp [taggedO, taggedL, tagged, tagU8])⟩, trivial⟩, trivial⟩ ?_
      refine xe_then ?_
      refine x_true rfl ?_
      obtain ⟨v_8, s'_8, hx8_0, hx8_1, hx8_2, hx8_3, hc8⟩ := pick_ok s'_7 8 (by first | assumption | (simp only [okSrc] at *; simp_all; done)) (by omega)
      refine x_r [(1, .lend [(7001, bxl00Src s'_7, bxl00Src s'_8)] [] [(true, .any), (true, .any)] true (I v_8))] [0, 5, 6, 7, 8, 9] [31, 7001] [.ref 7001 0, .arr 31, I (max 0 (min 255 ((x + v_5) - 30))), I (max 0 (min 255 ((y + v_6) - 30))), I v_8, I k] [some (.arr 3 (out.length + 1) (catF out.length (fFeat out) (litF [I x, I y, I d] 3))), some (bxl00Src s'_8)] [CallOK Tryz.prog 107 [.ref 7001 0, I 8] (lookO [(7001, bxl00Src s'_7)]) true (I v_8) (lookO [(7001, bxl00Src s'_8)]) ∧ (((bxl00Src s'_7 : Ob) = bxl00Src s'_7 ∨ obLe noOb true (bxl00Src s'_7) (bxl00Src s'_7)) ∧ taggedO false (bxl00Src s'_7)) ∧ True] ⟨⟨hc8, ⟨.inl rfl, (by simp [taggedO, taggedL, tagged, tagU8])⟩, trivial⟩, trivial⟩ ?_
      refine xe_block 1 ?_
      refine xe_then ?_
      refine x_r [] [0, 5, 6, 7, 8, 9] [31, 7001] [.ref 7001 0, .arr 31, I (max 0 (min 255 ((x + v_5) - 30))), I (max 0 (min 255 ((y + v_6) - 30))), I v_8, I (k - 1)] [some (.arr 3 (out.length + 1) (catF out.length (fFeat out) (litF [I x, I y, I d] 3))), some (bxl00Src s'_8)] [inR .i64 (k - 1)] ⟨(inR_i64 (by omega) (by omega)), trivial⟩ ?_
      refine xe_weak [(10, 31)] (T := [(0, .ref 7001 0), (5, .arr 10), (6, I (max 0 (min 255 ((x + v_5) - 30)))), (7, I (max 0 (min 255 ((y + v_6) - 30)))), (8, I v_8), (9, I (k - 1))]) (O := [(10, tAFeat (out ++ [(Feat.mk x y d)])), (7001, bxl00Src s'_8)]) rfl (⟨.inl rfl, .inl rfl, .inl rfl, .inl rfl, .inl rfl, .inl rfl, trivial⟩) (⟨.inr ⟨rfl, (by first | rfl | (simp; done) | (simp; omega) | omega), fun i_ hi_ => .inl (cat_snoc (enc := cFeat) (xs := out) rfl i_ hi_)⟩, .inl rfl, trivial⟩) (xe_again ((out ++ [(Feat.mk x y d)]), (max 0 (min 255 ((x + v_5) - 30))), (max 0 (min 255 ((y + v_6) - 30))), v_8, (k - 1), s'_8) rfl (show (okSrc s'_8 ∧ s'_8.code = s.code ∧ s.atx ≤ s'_8.atx ∧ s'_8.atx ≤ s.atx + 20 + 10 * (most - (k - 1))) ∧ (0 ≤ (k - 1) ∧ (k - 1) ≤ most) ∧ (((out ++ [(Feat.mk x y d)]).length : Int) + (k - 1) ≤ most) ∧ (1 ≤ ((out ++ [(Feat.mk x y d)]).length : Int) + (k - 1)) ∧ (0 ≤ (max 0 (min 255 ((x + v_5) - 30))) ∧ (max 0 (min 255 ((x + v_5) - 30))) ≤ 255) ∧ (0 ≤ (max 0 (min 255 ((y + v_6) - 30))) ∧ (max 0 (min 255 ((y + v_6) - 30))) ≤ 255) ∧ (0 ≤ v_8 ∧ v_8 ≤ 7) ∧ (∀ f_ ∈ (out ++ [(Feat.mk x y d)]), okF f_ = true) ∧ True from ⟨(by exact ⟨by assumption, by first | assumption | rfl | (simp only [*]; done), by omega, by omega⟩), (by omega), (by simp; omega), (by simp; omega), (by omega), (by omega), (by omega), (by intro f_ hf_; rcases List.mem_append.1 hf_ with hf_ | hf_; (exact hfo f_ hf_); (have q := List.mem_singleton.1 hf_; subst q; exact okF_iff.2 ⟨hx0, hy0, hd0⟩)), trivial⟩) (by first | (show ((k - 1).toNat : Nat) < k.toNat; omega) | (dsimp only; omega)))
     subst h2
     refine x_r [(1, .lend [(7001, bxl00Src s'_6, bxl00Src s'_7)] [] [(true, .any), (true, .any)] true (Bv false))] [0, 5, 6, 7, 8, 9, 47] [31, 7001] [.ref 7001 0, .arr 31, I (max 0 (min 255 ((x + v_5) - 30))), I (max 0 (min 255 ((y + v_6) - 30))), I d, I k, Bv false] [some (.arr 3 (out.length + 1) (catF out.length (fFeat out) (litF [I x, I y, I d] 3))), some (bxl00Src s'_7)] [CallOK Tryz.prog 66 [.ref 7001 0, I 2] (lookO [(7001, bxl00Src s'_6)]) true (Bv false) (lookO [(7001, bxl00Src s'_7)]) ∧ (((bxl00Src s'_6 : Ob) = bxl00Src s'_6 ∨ obLe noOb true (bxl00Src s'_6) (bxl00Src s'_6)) ∧ taggedO false (bxl00Src s'_6)) ∧ True] ⟨⟨hc7, ⟨.inl rfl, (by simp [taggedO, taggedL, tagged, tagU8])⟩, trivial⟩, trivial⟩ ?_
     refine xe_then ?_
     refine x_false rfl ?_
     refine x_skip ?_
     refine xe_block 1 ?_
     refine xe_then ?_
     refine x_r [] [0, 5, 6, 7, 8, 9] [31, 7001] [.ref 7001 0, .arr 31, I (max 0 (min 255 ((x + v_5) - 30))), I (max 0 (min 255 ((y + v_6) - 30))), I d, I (k - 1)] [some (.arr 3 (out.length + 1) (catF out.length (fFeat out) (litF [I x, I y, I d] 3))), some (bxl00Src s'_7)] [inR .i64 (k - 1)] ⟨(inR_i64 (by omega) (by omega)), trivial⟩ ?_
     refine xe_weak [(10, 31)] (T := [(0, .ref 7001 0), (5, .arr 10), (6, I (max 0 (min 255 ((x + v_5) - 30)))), (7, I (max 0 (min 255 ((y + v_6) - 30)))), (8, I d), (9, I (k - 1))]) (O := [(10, tAFeat (out ++ [(Feat.mk x y d)])), (7001, bxl00Src s'_7)]) rfl (⟨.inl rfl, .inl rfl, .inl rfl, .inl rfl, .inl rfl, .inl rfl, trivial⟩) (⟨.inr ⟨rfl, (by first | rfl | (simp; done) | (simp; omega) | omega), fun i_ hi_ => .inl (cat_snoc (enc := cFeat) (xs := out) rfl i_ hi_)⟩, .inl rfl, trivial⟩) (xe_again ((out ++ [(Feat.mk x y d)]), (max 0 (min 255 ((x + v_5) - 30))), (max 0 (min 255 ((y + v_6) - 30))), d, (k - 1), s'_7) rfl (show (okSrc s'_7 ∧ s'_7.code = s.code ∧ s.atx ≤ s'_7.atx ∧ s'_7.atx ≤ s.atx + 20 + 10 * (most - (k - 1))) ∧ (0 ≤ (k - 1) ∧ (k - 1) ≤ most) ∧ (((out ++ [(Feat.mk x y d)]).length : Int) + (k - 1) ≤ most) ∧ (1 ≤ ((out ++ [(Feat.mk x y d)]).length : Int) + (k - 1)) ∧ (0 ≤ (max 0 (min 255 ((x + v_5) - 30))) ∧ (max 0 (min 255 ((x + v_5) - 30))) ≤ 255) ∧ (0 ≤ (max 0 (min 255 ((y + v_6) - 30))) ∧ (max 0 (min 255 ((y + v_6) - 30))) ≤ 255) ∧ (0 ≤ d ∧ d ≤ 7) ∧ (∀ f_ ∈ (out ++ [(Feat.mk x y d)]), okF f_ = true) ∧ True from ⟨(by exact ⟨by assumption, by first | assumption | rfl | (simp only [*]; done), by omega, by omega⟩), (by omega), (by simp; omega), (by simp; omega), (by omega), (by omega), (by omega), (by intro f_ hf_; rcases List.mem_append.1 hf_ with hf_ | hf_; (exact hfo f_ hf_); (have q := List.mem_singleton.1 hf_; subst q; exact okF_iff.2 ⟨hx0, hy0, hd0⟩)), trivial⟩) (by first | (show ((k - 1).toNat : Nat) < k.toNat; omega) | (dsimp only; omega)))
    refine x_r [(1, .dec false)] [0, 5, 6, 7, 8, 9, 22] [10, 7001] [.ref 7001 0, .arr 10, I x, I y, I d, I k, Bv false] [some (tAFeat out), some (bxl00Src src)] [¬ (0 < k)] ⟨h1, trivial⟩ ?_
    refine xe_then ?_
    refine x_false rfl ?_
    refine x_exit ?_
    refine xe_exit_then ?_
    refine xe_loop_exit ?_
    refine xe_exit_same ?_
    refine xe_then ?_
    refine xR [] [4] [10, 7001] [.arr 10] [some (tAFeat out), some (bxl00Src src)] [] trivial ?_
    refine x_ret ?_
    refine xe_weak [(9301, 10)] (T := [(4, .arr 9301)]) (O := [(7001, bxl00Src src), (9301, tAFeat out)]) rfl (⟨.inl rfl, trivial⟩) (⟨.inl rfl, .inl rfl, trivial⟩) ?_
    refine xe_end (src, out) (show (okSrc src) ∧ (src.code = s.code) ∧ (s.atx + 0 ≤ src.atx ∧ src.atx ≤ s.atx + 300) ∧ (1 ≤ (out.length : Int) ∧ (out.length : Int) ≤ most) ∧ (∀ f_ ∈ out, okF f_ = true) ∧ (True) from ⟨(by first | omega | assumption | exact hs0.1 | exact hs0.2.1), (by first | omega | assumption | exact hs0.1 | exact hs0.2.1), (by first | omega | assumption | exact hs0.1 | exact hs0.2.1), (by first | omega | assumption | exact hs0.1 | exact hs0.2.1), (by first | omega | assumption | exact hs0.1 | exact hs0.2.1), trivial⟩) (⟨.inl rfl, .inl rfl, trivial⟩) (.arr 9301) (by kernel_rfl) (.inl rfl) (fun h => by cases h) (fun h => by cases h)
  obtain ⟨⟨s', fs⟩, ⟨hh0, hh1, hh2, hh3, hh4, _⟩, hc⟩ := hh
  exact ⟨s', fs, hh0, hh1, hh2, hh3, hh4, hc⟩


-- spec.l00Src).among
theorem among_ok (s : l00Src) (list : List Int) (hs : okSrc s) (ha : s.atx ≤ 3999999999999999980) (hl : 0 < list.length ∧ list.length ≤ 1000) : ∃ (v : Int) (s' : l00Src), (v ∈ list) ∧ (okSrc s') ∧ (s'.code = s.code) ∧ (s.atx + 0 ≤ s'.atx ∧ s'.atx ≤ s.atx + 2) ∧ CallOK Tryz.prog 171 [.ref 7001 0, slI false list] (lookO [(7001, bxl00Src s)]) true (I v) (lookO [(7001, bxl00Src s')]) := by
  have hh : ∃ r : Int × l00Src, ((r.1 ∈ list) ∧ (okSrc r.2) ∧ (r.2.code = s.code) ∧ (s.atx + 0 ≤ r.2.atx ∧ r.2.atx ≤ s.atx + 2) ∧ (True)) ∧ CallOK Tryz.prog 171 [.ref 7001 0, slI false list] (lookO [(7001, bxl00Src s)]) true (I r.1) (lookO [(7001, bxl00Src r.2)]) := by
    refine fn_okX (Φ := fun r : Int × l00Src => (r.1 ∈ list) ∧ (okSrc r.2) ∧ (r.2.code = s.code) ∧ (s.atx + 0 ≤ r.2.atx ∧ r.2.atx ≤ s.atx + 2) ∧ (True)) [(7001, bxl00Src s)] (fun r => [(7001, bxl00Src r.2)]) (fn := Tryz.f171) (nt := 12) Tryz.func171 rfl rfl (args := [.ref 7001 0, slI false list]) rfl (allcons (.inr trivial) (allcons (.inl ⟨rfl, tagI false _⟩) allnil)) (res := fun r => I r.1) ?_
    refine xR [] [0, 1] [7001] [.ref 7001 0, slI false list] [some (bxl00Src s)] [] trivial ?_
    refine x_seq ?_
    obtain ⟨v_1, s'_1, hx1_0, hx1_1, hx1_2, hx1_3, hc1⟩ := pick_ok s (list.length : Int) (by first | assumption | (simp only [okSrc] at *; simp_all; done)) (by omega)
    refine x_r [(4, .lend [(7001, bxl00Src s, bxl00Src s'_1)] [] [(true, .any), (true, .any)] true (I v_1))] [4] [7001] [I (at_ list v_1.toNat)] [some (bxl00Src s'_1)] [CallOK Tryz.prog 107 [.ref 7001 0, I (list.length : Int)] (lookO [(7001, bxl00Src s)]) true (I v_1) (lookO [(7001, bxl00Src s'_1)]) ∧ (((bxl00Src s : Ob) = bxl00Src s ∨ obLe noOb true (bxl00Src s) (bxl00Src s)) ∧ taggedO false (bxl00Src s)) ∧ True, (0 : Int) ≤ v_1 ∧ v_1 < (list.length : Int)] ⟨⟨hc1, ⟨.inl rfl, (by simp [taggedO, taggedL, tagged, tagU8])⟩, trivial⟩, ⟨(by omega), (by omega)⟩, trivial⟩ ?_
    refine xe_then ?_
    refine x_ret ?_
    refine xe_end ((at_ list v_1.toNat), s'_1) (show ((at_ list v_1.toNat) ∈ list) ∧ (okSrc s'_1) ∧ (s'_1.code = s.code) ∧ (s.atx + 0 ≤ s'_1.atx ∧ s'_1.atx ≤ s.atx + 2) ∧ (True) from ⟨(by first | omega | rfl | assumption | (dsimp only; first | omega | rfl | assumption) | (simp only [*]; done) | (exact at_mem (by omega)) | (simp_all; done)), (by first | omega | rfl | assumption | (dsimp only; first | omega | rfl | assumption) | (simp only [*]; done) | (exact at_mem (by omega)) | (simp_all; done)), (by first | omega | rfl | assumption | (dsimp only; first | omega | rfl | assumption) | (simp only [*]; done) | (exact at_mem (by omega)) | (simp_all; done)), (by first | omega | rfl | assumption | (dsimp only; first | omega | rfl | assumption) | (simp only [*]; done) | (exact at_mem (by omega)) | (simp_all; done)), trivial⟩) (⟨.inl rfl, trivial⟩) (I (at_ list v_1.toNat)) (by kernel_rfl) (.inl rfl) (fun _ => rfl) (fun _ => trivial)
  obtain ⟨⟨v, s'⟩, ⟨hh0, hh1, hh2, hh3, _⟩, hc⟩ := hh
  exact ⟨v, s', hh0, hh1, hh2, hh3, hc⟩


-- spec.l08Bent
theorem l08Bent_ok (s : l00Src) (most : Int) (hs : okSrc s) (ha : s.atx ≤ 3999999999999998000) (hm : 1 ≤ most ∧ most ≤ 12) : ∃ (v : List Feat) (s' : l00Src), (okSrc s') ∧ (s'.code = s.code) ∧ (s.atx + 0 ≤ s'.atx ∧ s'.atx ≤ s.atx + 400) ∧ (v.length ≤ 400) ∧ CallOK Tryz.prog 97 [.ref 7001 0, I most] (lookO [(7001, bxl00Src s)]) true (slFeat true v) (lookO [(7001, bxl00Src s')]) := by
  have hh : ∃ r : (List Feat) × l00Src, ((okSrc r.2) ∧ (r.2.code = s.code) ∧ (s.atx + 0 ≤ r.2.atx ∧ r.2.atx ≤ s.atx + 400) ∧ (r.1.length ≤ 400) ∧ (True)) ∧ CallOK Tryz.prog 97 [.ref 7001 0, I most] (lookO [(7001, bxl00Src s)]) true (slFeat true r.1) (lookO [(7001, bxl00Src r.2)]) := by
    refine fn_okX (Φ := fun r : (List Feat) × l00Src => (okSrc r.2) ∧ (r.2.code = s.code) ∧ (s.atx + 0 ≤ r.2.atx ∧ r.2.atx ≤ s.atx + 400) ∧ (r.1.length ≤ 400) ∧ (True)) [(7001, bxl00Src s)] (fun r => [(7001, bxl00Src r.2)]) (fn := Tryz.f97) (nt := 53) Tryz.func97 rfl rfl (args := [.ref 7001 0, I most]) rfl (allcons (.inr trivial) (allcons (.inl ⟨rfl, trivial⟩) allnil)) (res := fun r => slFeat true r.1) ?_
    refine xR [] [0, 1] [7001] [.ref 7001 0, I most] [some (bxl00Src s)] [] trivial ?_
    refine x_seq ?_
    obtain ⟨s'_1, fs_1, hx1_0, hx1_1, hx1_2, hx1_3, hx1_4, hc1⟩ := l08Draw_ok s most (by first | assumption | (simp only [okSrc] at *; simp_all; done)) (by omega) (by omega)
    refine x_r [(2, .lend [(7001, bxl00Src s, bxl00Src s'_1)] [(9301, tAFeat fs_1)] [(true, .any), (true, .any)] false (.arr 9301))] [0, 5] [7001, 9301] [.ref 7001 0, .arr 9301] [some (bxl00Src s'_1), some (tAFeat fs_1)] [CallOK Tryz.prog 105 [.ref 7001 0, I most] (lookO [(7001, bxl00Src s)]) false (.arr 9301) (lookO [(7001, bxl00Src s'_1), (9301, tAFeat fs_1)]) ∧ (((bxl00Src s : Ob) = bxl00Src s ∨ obLe noOb true (bxl00Src s) (bxl00Src s)) ∧ taggedO false (bxl00Src s)) ∧ True] ⟨⟨hc1, ⟨.inl rfl, (by simp [taggedO, taggedL, tagged, tagU8])⟩, trivial⟩, trivial⟩ ?_
    refine xe_then ?_
    refine x_seq ?_
    obtain ⟨v_2, s'_2, hx2_0, hx2_1, hx2_2, hx2_3, hc2⟩ := pick_ok s'_1 (fs_1.length : Int) (by first | assumption | (simp only [okSrc] at *; simp_all; done)) (by omega)
    refine x_r [(3, .lend [(7001, bxl00Src s'_1, bxl00Src s'_2)] [] [(true, .any), (true, .any)] true (I v_2))] [0, 5, 6] [7001, 9301] [.ref 7001 0, .arr 9301, I v_2] [some (bxl00Src s'_2), some (tAFeat fs_1)] [CallOK Tryz.prog 107 [.ref 7001 0, I (fs_1.length : Int)] (lookO [(7001, bxl00Src s'_1)]) true (I v_2) (lookO [(7001, bxl00Src s'_2)]) ∧ (((bxl00Src s'_1 : Ob) = bxl00Src s'_1 ∨ obLe noOb true (bxl00Src s'_1) (bxl00Src s'_1)) ∧ taggedO false (bxl00Src s'_1)) ∧ True] ⟨⟨hc2, ⟨.inl rfl, (by simp [taggedO, taggedL, tagged, tagU8])⟩, trivial⟩, trivial⟩ ?_
    refine xe_then ?_
    refine x_seq ?_
    refine x_seq ?_
    obtain ⟨v_3, s'_3, hx3_0, hx3_1, hx3_2, hx3_3, hc3⟩ := pick_ok s'_2 30 (by first | assumption | (simp only [okSrc] at *; simp_all; done)) (by omega)
    refine x_r [(1, .lend [(7001, bxl00Src s'_2, bxl00Src s'_3)] [] [(true, .any), (true, .any)] true (I v_3))] [0, 5, 6, 15] [7001, 9301] [.ref 7001 0, .arr 9301, I v_2, I v_3] [some (bxl00Src s'_3), some (tAFeat fs_1)] [CallOK Tryz.prog 107 [.ref 7001 0, I 30] (lookO [(7001, bxl00Src s'_2)]) true (I v_3) (lookO [(7001, bxl00Src s'_3)]) ∧ (((bxl00Src s'_2 : Ob) = bxl00Src s'_2 ∨ obLe noOb true (bxl00Src s'_2) (bxl00Src s'_2)) ∧ taggedO false (bxl00Src s'_2)) ∧ True] ⟨⟨hc3, ⟨.inl rfl, (by simp [taggedO, taggedL, tagged, tagU8])⟩, trivial⟩, trivial⟩ ?_
    refine xe_then ?_
    refine x_block ?_
    refine x_seq ?_
    by_cases h1 : v_3 = 0
    ·refine x_r [(0, .dec true)] [0, 5, 6, 15, 16] [7001, 9301] [.ref 7001 0, .arr 9301, I v_2, I v_3, Bv true] [some (bxl00Src s'_3), some (tAFeat fs_1)] [v_3 = 0] ⟨h1, trivial⟩ ?_
     refine xe_then ?_
     refine x_true rfl ?_
     obtain ⟨v_4, s'_4, hx4_0, hx4_1, hx4_2, hx4_3, hc4⟩ := among_ok s'_3 ([(-1), 255, 256]) (by first | assumption | (simp only [okSrc] at *; simp_all; done)) (by omega) (by simp)
     refine x_r [(3, .new 21), (4, .lend [(7001, bxl00Src s'_3, bxl00Src s'_4)] [] [(true, .any), (false, slI false ([(-1), 255, 256]))] true (I v_4))] [5] [7001, 9301] [.arr 9301] [some (bxl00Src s'_4), some (.arr 3 fs_1.length (fun q => bif Nat.beq q v_2.toNat then [I v_4, I ((at_ fs_1 v_2.toNat).Y), I ((at_ fs_1 v_2.toNat).D)] else (fFeat fs_1) q))] [CallOK Tryz.prog 171 [.ref 7001 0, slI false ([(-1), 255, 256])] (lookO [(7001, bxl00Src s'_3)]) true (I v_4) (lookO [(7001, bxl00Src s'_4)]) ∧ ((false = true → true = true) ∧ 1 = 1 ∧ 3 = (([(-1), 255, 256]).length) ∧ ∀ i_, i_ < (([(-1), 255, 256]).length) → (litF [I (-1), I 255, I 256] 1) i_ = (fI ([(-1), 255, 256])) i_ ∨ (AV.idsL ((fI ([(-1), 255, 256])) i_) = [] ∧ leL (fun _ => none) false ((litF [I (-1), I 255, I 256] 1) i_) ((fI ([(-1), 255, 256])) i_))) ∧ (((bxl00Src s'_3 : Ob) = bxl00Src s'_3 ∨ obLe noOb true (bxl00Src s'_3) (bxl00Src s'_3)) ∧ taggedO false (bxl00Src s'_3)) ∧ True, (0 : Int) ≤ v_2 ∧ v_2 < (fs_1.length : Int), v_2.toNat < fs_1.length] ⟨⟨hc4, ⟨(fun h => by cases h), rfl, (by first | rfl | (simp; done) | (simp; omega) | omega), fun i_ hi_ => .inl (match i_, hi_ with | 0, _ => rfl | 1, _ => rfl | 2, _ => rfl | (i + 3), h => absurd h (by simp))⟩, ⟨.inl rfl, (by simp [taggedO, taggedL, tagged, tagU8])⟩, trivial⟩, ⟨(by omega), (by omega)⟩, (by omega), trivial⟩ ?_
     refine xe_block 0 ?_
     refine xe_then ?_
     refine xR [] [4] [7001, 9301] [.arr 9301] [some (bxl00Src s'_4), some (.arr 3 fs_1.length (fun q => bif Nat.beq q v_2.toNat then [I v_4, I ((at_ fs_1 v_2.toNat).Y), I ((at_ fs_1 v_2.toNat).D)] else (fFeat fs_1) q))] [] trivial ?_
     refine x_ret ?_
     refine xe_end ((fs_1.set v_2.toNat (Feat.mk v_4 ((at_ fs_1 v_2.toNat).Y) ((at_ fs_1 v_2.toNat).D))), s'_4) (show (okSrc s'_4) ∧ (s'_4.code = s.code) ∧ (s.atx + 0 ≤ s'_4.atx ∧ s'_4.atx ≤ s.atx + 400) ∧ ((fs_1.set v_2.toNat (Feat.mk v_4 ((at_ fs_1 v_2.toNat).Y) ((at_ fs_1 v_2.toNat).D))).length ≤ 400) ∧ (True) from ⟨(by first | omega | assumption | rfl | (simp; done) | (simp; omega) | (simp_all; done)), (by first | omega | assumption | rfl | (simp; done) | (simp; omega) | (simp_all; done)), (by first | omega | assumption | rfl | (simp; done) | (simp; omega) | (simp_all; done)), (by first | omega | assumption | rfl | (simp; done) | (simp; omega) | (simp_all; done)), trivial⟩) (⟨.inl rfl, trivial⟩) (.arr 9301) (by kernel_rfl) (.inr ⟨(fun _ => rfl), rfl, (by first | rfl | (simp; done) | (simp; omega) | omega), fun i_ hi_ => .inl (upd_enc (enc := cFeat) rfl i_ hi_)⟩) (fun _ => rfl) (fun _ => (tagFeat true _))
    refine x_r [(0, .dec false)] [0, 5, 6, 15, 16] [7001, 9301] [.ref 7001 0, .arr 9301, I v_2, I v_3, Bv false] [some (bxl00Src s'_3), some (tAFeat fs_1)] [¬ (v_3 = 0)] ⟨h1, trivial⟩ ?_
    refine xe_then ?_
    refine x_false rfl ?_
    refine x_seq ?_
    by_cases h2 : v_3 = 1
    ·refine x_r [(0, .dec true)] [0, 5, 6, 15, 25] [7001, 9301] [.ref 7001 0, .arr 9301, I v_2, I v_3, Bv true] [some (bxl00Src s'_3), some (tAFeat fs_1)] [v_3 = 1] ⟨h2, trivial⟩ ?_
     refine xe_then ?_
     refine x_true rfl ?_
     obtain ⟨v_5, s'_5, hx5_0, hx5_1, hx5_2, hx5_3, hc5⟩ := among_ok s'_3 ([(-1), 255, 256]) (by first | assumption | (simp only [okSrc] at *; simp_all; done)) (by omega) (by simp)
     refine x_r [(3, .new 30), (4, .lend [(7001, bxl00Src s'_3, bxl00Src s'_5)] [] [(true, .any), (false, slI false ([(-1), 255, 256]))] true (I v_5))] [5] [7001, 9301] [.arr 9301] [some (bxl00Src s'_5), some (.arr 3 fs_1.length (fun q => bif Nat.beq q v_2.toNat then [I ((at_ fs_1 v_2.toNat).X), I v_5, I ((at_ fs_1 v_2.toNat).D)] else (fFeat fs_1) q))] [CallOK Tryz.prog 171 [.ref 7001 0, slI false ([(-1), 255, 256])] (lookO [(7001, bxl00Src s'_3)]) true (I v_5) (lookO [(7001, bxl00Src s'_5)]) ∧ ((false = true → true = true) ∧ 1 = 1 ∧ 3 = (([(-1), 255, 256]).length) ∧ ∀ i_, i_ < (([(-1), 255, 256]).length) → (litF [I (-1), I 255, I 256] 1) i_ = (fI ([(-1), 255, 256])) i_ ∨ (AV.idsL ((fI ([(-1), 255, 256])) i_) = [] ∧ leL (fun _ => none) false ((litF [I (-1), I 255, I 256] 1) i_) ((fI ([(-1), 255, 256])) i_))) ∧ (((bxl00Src s'_3 : Ob) = bxl00Src s'_3 ∨ obLe noOb true (bxl00Src s'_3) (bxl00Src s'_3)) ∧ taggedO false (bxl00Src s'_3)) ∧ True, (0 : Int) ≤ v_2 ∧ v_2 < (fs_1.length : Int), v_2.toNat < fs_1.length] ⟨⟨hc5, ⟨(fun h => by cases h), rfl, (by first | rfl | (simp; done) | (simp; omega) | omega), fun i_ hi_ => .inl (match i_, hi_ with | 0, _ => rfl | 1, _ => rfl | 2, _ => rfl | (i + 3), h => absurd h (by simp))⟩, ⟨.inl rfl, (by simp [taggedO, taggedL, tagged, tagU8])⟩, trivial⟩, ⟨(by omega), (by omega)⟩, (by omega), trivial⟩ ?_
     refine xe_block 0 ?_
     refine xe_then ?_
     refine xR [] [4] [7001, 9301] [.arr 9301] [some (bxl00Src s'_5), some (.arr 3 fs_1.length (fun q => bif Nat.beq q v_2.toNat then [I ((at_ fs_1 v_2.toNat).X), I v_5, I ((at_ fs_1 v_2.toNat).D)] else (fFeat fs_1) q))] [] trivial ?_
     refine x_ret ?_
     refine xe_end ((fs_1.set v_2.toNat (Feat.mk ((at_ fs_1 v_2.toNat).X) v_5 ((at_ fs_1 v_2.toNat).D))), s'_5) (show (okSrc s'_5) ∧ (s'_5.code = s.code) ∧ (s.atx + 0 ≤ s'_5.atx ∧ s'_5.atx ≤ s.atx + 400) ∧ ((fs_1.set v_2.toNat (Feat.mk ((at_ fs_1 v_2.toNat).X) v_5 ((at_ fs_1 v_2.toNat).D))).length ≤ 400) ∧ (True) from ⟨(by first | omega | assumption | rfl | (simp; done) | (simp; omega) | (simp_all; done)), (by first | omega | assumption | rfl | (simp; done) | (simp; omega) | (simp_all; done)), (by first | omega | assumption | rfl | (simp; done) | (simp; omega) | (simp_all; done)), (by first | omega | assumption | rfl | (simp; done) | (simp; omega) | (simp_all; done)), trivial⟩) (⟨.inl rfl, trivial⟩) (.arr 9301) (by kernel_rfl) (.inr ⟨(fun _ => rfl), rfl, (by first | rfl | (simp; done) | (simp; omega) | omega), fun i_ hi_ => .inl (upd_enc (enc := cFeat) rfl i_ hi_)⟩) (fun _ => rfl) (fun _ => (tagFeat true _))
    refine x_r [(0, .dec false)] [0, 5, 6, 15, 25] [7001, 9301] [.ref 7001 0, .arr 9301, I v_2, I v_3, Bv false] [some (bxl00Src s'_3), some (tAFeat fs_1)] [¬ (v_3 = 1)] ⟨h2, trivial⟩ ?_
    refine xe_then ?_
    refine x_false rfl ?_
    refine x_seq ?_
    by_cases h3 : v_3 = 2
    ·refine x_r [(0, .dec true)] [0, 5, 6, 15, 34] [7001, 9301] [.ref 7001 0, .arr 9301, I v_2, I v_3, Bv true] [some (bxl00Src s'_3), some (tAFeat fs_1)] [v_3 = 2] ⟨h3, trivial⟩ ?_
     refine xe_then ?_
     refine x_true rfl ?_
     obtain ⟨v_6, s'_6, hx6_0, hx6_1, hx6_2, hx6_3, hc6⟩ := among_ok s'_3 ([(-1), 7, 8]) (by first | assumption | (simp only [okSrc] at *; simp_all; done)) (by omega) (by simp)
     refine x_r [(3, .new 39), (4, .lend [(7001, bxl00Src s'_3, bxl00Src s'_6)] [] [(true, .any), (false, slI false ([(-1), 7, 8]))] true (I v_6))] [5] [7001, 9301] [.arr 9301] [some (bxl00Src s'_6), some (.arr 3 fs_1.length (fun q => bif Nat.beq q v_2.toNat then [I ((at_ fs_1 v_2.toNat).X), I ((at_ fs_1 v_2.toNat).Y), I v_6] else (fFeat fs_1) q))] [CallOK Tryz.prog 171 [.ref 7001 0, slI false ([(-1), 7, 8])] (lookO [(7001, bxl00Src s'_3)]) true (I v_6) (lookO [(7001, bxl00Src s'_6)]) ∧ ((false = true → true = true) ∧ 1 = 1 ∧ 3 = (([(-1), 7, 8]).length) ∧ ∀ i_, i_ < (([(-1), 7, 8]).length) → (litF [I (-1), I 7, I 8] 1) i_ = (fI ([(-1), 7, 8])) i_ ∨ (AV.idsL ((fI ([(-1), 7, 8])) i_) = [] ∧ leL (fun _ => none) false ((litF [I (-1), I 7, I 8] 1) i_) ((fI ([(-1), 7, 8])) i_))) ∧ (((bxl00Src s'_3 : Ob) = bxl00Src s'_3 ∨ obLe noOb true (bxl00Src s'_3) (bxl00Src s'_3)) ∧ taggedO false (bxl00Src s'_3)) ∧ True, (0 : Int) ≤ v_2 ∧ v_2 < (fs_1.length : Int), v_2.toNat < fs_1.length] ⟨⟨hc6, ⟨(fun h => by cases h), rfl, (by first | rfl | (simp; done) | (simp; omega) | omega), fun i_ hi_ => .inl (match i_, hi_ with | 0, _ => rfl | 1, _ => rfl | 2, _ => rfl | (i + 3), h => absurd h (by simp))⟩, ⟨.inl rfl, (by simp [taggedO, taggedL, tagged, tagU8])⟩, trivial⟩, ⟨(by omega), (by omega)⟩, (by omega), trivial⟩ ?_
     refine xe_block 0 ?_
     refine xe_then ?_
     refine xR [] [4] [7001, 9301] [.arr 9301] [some (bxl00Src s'_6), some (.arr 3 fs_1.length (fun q => bif Nat.beq q v_2.toNat then [I ((at_ fs_1 v_2.toNat).X), I ((at_ fs_1 v_2.toNat).Y), I v_6] else (fFeat fs_1) q))] [] trivial ?_
     refine x_ret ?_
     refine xe_end ((fs_1.set v_2.toNat (Feat.mk ((at_ fs_1 v_2.toNat).X) ((at_ fs_1 v_2.toNat).Y) v_6)), s'_6) (show (okSrc s'_6) ∧ (s'_6.code = s.code) ∧ (s.atx + 0 ≤ s'_6.atx ∧ s'_6.atx ≤ s.atx + 400) ∧ ((fs_1.set v_2.toNat (Feat.mk ((at_ fs_1 v_2.toNat).X) ((at_ fs_1 v_2.toNat).Y) v_6)).length ≤ 400) ∧ (True) from ⟨(by first | omega | assumption | rfl | (simp; done) | (simp; omega) | (simp_all; done)), (by first | omega | assumption | rfl | (simp; done) | (simp; omega) | (simp_all; done)), (by first | omega | assumption | rfl | (simp; done) | (simp; omega) | (simp_all; done)), (by first | omega | assumption | rfl | (simp; done) | (simp; omega) | (simp_all; done)), trivial⟩) (⟨.inl rfl, trivial⟩) (.arr 9301) (by kernel_rfl) (.inr ⟨(fun _ => rfl), rfl, (by first | rfl | (simp; done) | (simp; omega) | omega), fun i_ hi_ => .inl (upd_enc (enc := cFeat) rfl i_ hi_)⟩) (fun _ => rfl) (fun _ => (tagFeat true _))
    refine x_r [(0, .dec false)] [0, 5, 6, 15, 34] [7001, 9301] [.ref 7001 0, .arr 9301, I v_2, I v_3, Bv false] [some (bxl00Src s'_3), some (tAFeat fs_1)] [¬ (v_3 = 2)] ⟨h3, trivial⟩ ?_
    refine xe_then ?_
    refine x_false rfl ?_
    refine x_seq ?_
    by_cases h4 : v_3 = 3
    ·refine x_r [(0, .dec true)] [0, 5, 15, 43] [7001, 9301] [.ref 7001 0, .arr 9301, I v_3, Bv true] [some (bxl00Src s'_3), some (tAFeat fs_1)] [v_3 = 3] ⟨h4, trivial⟩ ?_
     refine xe_then ?_
     refine x_true rfl ?_
     refine xR [(0, .new 45)] [4] [45, 7001] [.arr 45] [some (.arr 3 0 (litF [] 3)), some (bxl00Src s'_3)] [] trivial ?_
     refine x_ret ?_
     refine xe_ret_block (xe_ret_then ?_)
     refine xe_end (([] : List Feat), s'_3) (show (okSrc s'_3) ∧ (s'_3.code = s.code) ∧ (s.atx + 0 ≤ s'_3.atx ∧ s'_3.atx ≤ s.atx + 400) ∧ (([] : List Feat).length ≤ 400) ∧ (True) from ⟨(by first | omega | assumption | rfl | (simp; done) | (simp; omega) | (simp_all; done)), (by first | omega | assumption | rfl | (simp; done) | (simp; omega) | (simp_all; done)), (by first | omega | assumption | rfl | (simp; done) | (simp; omega) | (simp_all; done)), (by first | omega | assumption | rfl | (simp; done) | (simp; omega) | (simp_all; done)), trivial⟩) (⟨.inl rfl, trivial⟩) (.arr 45) (by kernel_rfl) (.inr ⟨(fun _ => rfl), rfl, (by first | rfl | (simp; done) | (simp; omega) | omega), fun i_ hi_ => absurd hi_ (Nat.not_lt_zero _)⟩) (fun _ => rfl) (fun _ => (tagFeat true _))
    refine x_r [(0, .dec false)] [0, 5, 15, 43] [7001, 9301] [.ref 7001 0, .arr 9301, I v_3, Bv false] [some (bxl00Src s'_3), some (tAFeat fs_1)] [¬ (v_3 = 3)] ⟨h4, trivial⟩ ?_
    refine xe_then ?_
    refine x_false rfl ?_
    refine x_seq ?_
    by_cases h5 : v_3 = 4
    ·refine x_r [(0, .dec true)] [0, 5, 46] [7001, 9301] [.ref 7001 0, .arr 9301, Bv true] [some (bxl00Src s'_3), some (tAFeat fs_1)] [v_3 = 4] ⟨h5, trivial⟩ ?_
     refine xe_then ?_
     refine x_true rfl ?_
     refine x_seq ?_
     obtain ⟨v_7, s'_7, hx7_0, hx7_1, hx7_2, hx7_3, hc7⟩ := pick_ok s'_3 2 (by first | assumption | (simp only [okSrc] at *; simp_all; done)) (by omega)
     refine x_r [(1, .lend [(7001, bxl00Src s'_3, bxl00Src s'_7)] [] [(true, .any), (true, .any)] true (I v_7)), (3, .new 51)] [4] [51, 7001] [.arr 51] [some (.arr 3 ((384 + v_7).toNat) (fun _ => [I 0, I 0, I 0])), some (bxl00Src s'_7)] [CallOK Tryz.prog 107 [.ref 7001 0, I 2] (lookO [(7001, bxl00Src s'_3)]) true (I v_7) (lookO [(7001, bxl00Src s'_7)]) ∧ (((bxl00Src s'_3 : Ob) = bxl00Src s'_3 ∨ obLe noOb true (bxl00Src s'_3) (bxl00Src s'_3)) ∧ taggedO false (bxl00Src s'_3)) ∧ True, inR .i64 (384 + v_7), (0 : Int) ≤ (384 + v_7) ∧ ((384 + v_7) : Int) ≤ (384 + v_7) ∧ (24 : Int) * (384 + v_7) ≤ 281474976710656 ∧ (384 + v_7) ≤ 9223372036854775807] ⟨⟨hc7, ⟨.inl rfl, (by simp [taggedO, taggedL, tagged, tagU8])⟩, trivial⟩, (inR_i64 (by omega) (by omega)), ⟨(by omega), (by omega), (by omega), (by omega)⟩, trivial⟩ ?_
     refine xe_then ?_
     refine x_ret ?_
     refine xe_ret_block (xe_ret_then ?_)
     refine xe_end ((List.replicate ((384 + v_7).toNat) (Feat.mk 0 0 0)), s'_7) (show (okSrc s'_7) ∧ (s'_7.code = s.code) ∧ (s.atx + 0 ≤ s'_7.atx ∧ s'_7.atx ≤ s.atx + 400) ∧ ((List.replicate ((384 + v_7).toNat) (Feat.mk 0 0 0)).length ≤ 400) ∧ (True) from ⟨(by first | omega | assumption | rfl | (simp; done) | (simp; omega) | (simp_all; done)), (by first | omega | assumption | rfl | (simp; done) | (simp; omega) | (simp_all; done)), (by first | omega | assumption | rfl | (simp; done) | (simp; omega) | (simp_all; done)), (by first | omega | assumption | rfl | (simp; done) | (simp; omega) | (simp_all; done)), trivial⟩) (⟨.inl rfl, trivial⟩) (.arr 51) (by kernel_rfl) (.inr ⟨(fun _ => rfl), rfl, (by first | rfl | (simp; done) | (simp; omega) | omega), fun i_ hi_ => .inl (const_enc (enc := cFeat) rfl i_ hi_)⟩) (fun _ => rfl) (fun _ => (tagFeat true _))
    refine x_r [(0, .dec false)] [0, 5, 46] [7001, 9301] [.ref 7001 0, .arr 9301, Bv false] [some (bxl00Src s'_3), some (tAFeat fs_1)] [¬ (v_3 = 4)] ⟨h5, trivial⟩ ?_
    refine xe_then ?_
    refine x_false rfl ?_
    refine x_skip ?_
    refine xe_block 0 ?_
    refine xe_then ?_
    refine xR [] [4] [7001, 9301] [.arr 9301] [some (bxl00Src s'_3), some (tAFeat fs_1)] [] trivial ?_
    refine x_ret ?_
    refine xe_end (fs_1, s'_3) (show (okSrc s'_3) ∧ (s'_3.code = s.code) ∧ (s.atx + 0 ≤ s'_3.atx ∧ s'_3.atx ≤ s.atx + 400) ∧ (fs_1.length ≤ 400) ∧ (True) from ⟨(by first | omega | assumption | rfl | (simp; done) | (simp; omega) | (simp_all; done)), (by first | omega | assumption | rfl | (simp; done) | (simp; omega) | (simp_all; done)), (by first | omega | assumption | rfl | (simp; done) | (simp; omega) | (simp_all; done)), (by first | omega | assumption | rfl | (simp; done) | (simp; omega) | (simp_all; done)), trivial⟩) (⟨.inl rfl, trivial⟩) (.arr 9301) (by kernel_rfl) (.inr ⟨(fun _ => rfl), rfl, rfl, fun i _ => .inl rfl⟩) (fun _ => rfl) (fun _ => (tagFeat true _))
  obtain ⟨⟨v, s'⟩, ⟨hh0, hh1, hh2, hh3, _⟩, hc⟩ := hh
  exact ⟨v, s', hh0, hh1, hh2, hh3, hc⟩


-- spec.DrawMirrorFeats
theorem DrawMirrorFeats_ok (code : List Int) (hc : (∀ j, j < code.length → 0 ≤ at_ code j ∧ at_ code j ≤ 255) ∧ code.length ≤ 4611686018427387904) : ∃ (v : List Feat), (v.length ≤ 400) ∧ Con Tryz.prog 30 [slU8 false code] true (slFeat true v) := by
  have hh : ∃ r : (List Feat), ((r.length ≤ 400) ∧ (True)) ∧ CallOK Tryz.prog 30 [slU8 false code] (lookO []) true (slFeat true r) (lookO []) := by
    refine fn_okX (Φ := fun r : (List Feat) => (r.length ≤ 400) ∧ (True)) [] (fun r => []) (fn := Tryz.f30) (nt := 6) Tryz.func30 rfl rfl (args := [slU8 false code]) rfl (allcons (.inl ⟨rfl, tagU8 false _⟩) allnil) (res := fun r => slFeat true r) ?_
    refine xR [] [0] [] [slU8 false code] [] [] trivial ?_
    refine x_seq ?_
    obtain ⟨s'_1, hx1_0, hc1⟩ := l00From_ok code
    have hsrc : okSrc s'_1 := ⟨by rw [hx1_0.1]; exact hc.1, by rw [hx1_0.2]; decide, by rw [hx1_0.1]; exact hc.2⟩
    have hat0 := hx1_0.2
    obtain ⟨v_2, s'_2, hx2_0, hx2_1, hx2_2, hx2_3, hc2⟩ := l08Bent_ok s'_1 8 (by first | assumption | (simp only [okSrc] at *; simp_all; done)) (by omega) (by omega)
    refine x_r [(1, .lend [] [(7001, bxl00Src s'_1)] [(true, .any)] false (.ref 7001 0)), (2, .lend [(7001, bxl00Src s'_1, bxl00Src s'_2)] [] [(true, .any), (true, .any)] true (slFeat true v_2))] [2] [] [slFeat true v_2] [] [CallOK Tryz.prog 65 [slU8 false code] (lookO []) false (.ref 7001 0) (lookO [(7001, bxl00Src s'_1)]) ∧ True, CallOK Tryz.prog 97 [.ref 7001 0, I 8] (lookO [(7001, bxl00Src s'_1)]) true (slFeat true v_2) (lookO [(7001, bxl00Src s'_2)]) ∧ (((bxl00Src s'_1 : Ob) = bxl00Src s'_1 ∨ obLe noOb true (bxl00Src s'_1) (bxl00Src s'_1)) ∧ taggedO false (bxl00Src s'_1)) ∧ True] ⟨⟨hc1, trivial⟩, ⟨hc2, ⟨.inl rfl, (by simp [taggedO, taggedL, tagged, tagU8])⟩, trivial⟩, trivial⟩ ?_
    refine xe_then ?_
    refine x_ret ?_
    refine xe_end v_2 (show (v_2.length ≤ 400) ∧ (True) from ⟨(by first | omega | rfl | assumption | (dsimp only; first | omega | rfl | assumption) | (simp only [*]; done) | (simp_all; done)), trivial⟩) (trivial) (slFeat true v_2) (by kernel_rfl) (.inl rfl) (fun _ => rfl) (fun _ => (tagFeat true _))
  obtain ⟨v, ⟨hh0, _⟩, hc⟩ := hh
  exact ⟨v, hh0, hc⟩


-- impl.within
theorem within_ok (n : Int) (low : Int) (high : Int) : Con Tryz.prog 80 [I n, I low, I high] true (Bv (inB n low high)) := by
  refine fn_ok (fn := Tryz.f80) (nt := 15) Tryz.func80 rfl rfl rfl rfl (by simp [taggedL, tagged]) fun B hB => ?_
  refine aR [] [0, 1, 2] [] [I n, I low, I high] [] [] hB trivial ?_
  refine aw_seq ?_
  by_cases h1 : low ≤ n
  ·refine aw_r [(2, .dec true)] [6] [] [Bv (decide (n ≤ high))] [] [low ≤ n] hB ⟨h1, trivial⟩ ?_
   refine ae_then ?_
   refine aw_ret ?_
   refine ae_ret hB (Bv (decide (n ≤ high))) (by kernel_rfl) (.inl (by first | rfl | (refine congrArg Bv ?_; simp [inB, *]; done) | (refine congrArg Bv ?_; simp [inB, *]; omega) | (refine congrArg Bv ?_; simp_all [inB]; done) | (refine congrArg Bv ?_; simp_all [inB]; omega))) rfl (fun _ => trivial)
  refine aw_r [(2, .dec false)] [6] [] [Bv false] [] [¬ (low ≤ n)] hB ⟨h1, trivial⟩ ?_
  refine ae_then ?_
  refine aw_ret ?_
  refine ae_ret hB (Bv false) (by kernel_rfl) (.inl (by first | rfl | (refine congrArg Bv ?_; simp [inB, *]; done) | (refine congrArg Bv ?_; simp [inB, *]; omega) | (refine congrArg Bv ?_; simp_all [inB]; done) | (refine congrArg Bv ?_; simp_all [inB]; omega))) rfl (fun _ => trivial)


-- impl.ValidFeat
theorem ValidFeat_ok (f : Feat) : Con Tryz.prog 225 [agFeat f] true (Bv (okF f)) := by
  refine fn_ok (fn := Tryz.f225) (nt := 16) Tryz.func225 rfl rfl rfl rfl (by simp [taggedL, tagged]) fun B hB => ?_
  refine aR [(0, .new 1)] [1] [1] [.ref 1 0] [some (bxFeat f)] [] hB trivial ?_
  refine aw_seq ?_
  rcases Bool.eq_false_or_eq_true (inB f.X 0 255) with h1 | h1
  ·rcases Bool.eq_false_or_eq_true (inB f.Y 0 255) with h2 | h2
   ·refine aw_r [(2, .call [(true, .any), (true, .any), (true, .any)] true (Bv true)), (6, .call [(true, .any), (true, .any), (true, .any)] true (Bv true)), (11, .call [(true, .any), (true, .any), (true, .any)] true (Bv (inB f.D 0 7)))] [2] [] [Bv (inB f.D 0 7)] [] [Con Tryz.prog 80 [I f.X, I 0, I 255] true (Bv true) ∧ True, Con Tryz.prog 80 [I f.Y, I 0, I 255] true (Bv true) ∧ True, Con Tryz.prog 80 [I f.D, I 0, I 7] true (Bv (inB f.D 0 7)) ∧ True] hB ⟨⟨(con_bool h1 (within_ok f.X 0 255)), trivial⟩, ⟨(con_bool h2 (within_ok f.Y 0 255)), trivial⟩, ⟨(within_ok f.D 0 7), trivial⟩, trivial⟩ ?_
    refine ae_then ?_
    refine aw_ret ?_
    refine ae_ret hB (Bv (inB f.D 0 7)) (by kernel_rfl) (.inl (by first | rfl | (refine congrArg Bv ?_; simp [okF, *]; done) | (refine congrArg Bv ?_; simp [okF, *]; omega) | (refine congrArg Bv ?_; simp_all [okF]; done) | (refine congrArg Bv ?_; simp_all [okF]; omega))) rfl (fun _ => trivial)
   refine aw_r [(2, .call [(true, .any), (true, .any), (true, .any)] true (Bv true)), (6, .call [(true, .any), (true, .any), (true, .any)] true (Bv false))] [2] [] [Bv false] [] [Con Tryz.prog 80 [I f.X, I 0, I 255] true (Bv true) ∧ True, Con Tryz.prog 80 [I f.Y, I 0, I 255] true (Bv false) ∧ True] hB ⟨⟨(con_bool h1 (within_ok f.X 0 255)), trivial⟩, ⟨(con_bool h2 (within_ok f.Y 0 255)), trivial⟩, trivial⟩ ?_
   refine ae_then ?_
   refine aw_ret ?_
   refine ae_ret hB (Bv false) (by kernel_rfl) (.inl (by first | rfl | (refine congrArg Bv ?_; simp [okF, *]; done) | (refine congrArg Bv ?_; simp [okF, *]; omega) | (refine congrArg Bv ?_; simp_all [okF]; done) | (refine congrArg Bv ?_; simp_all [okF]; omega))) rfl (fun _ => trivial)
  refine aw_r [(2, .call [(true, .any), (true, .any), (true, .any)] true (Bv false))] [2] [] [Bv false] [] [Con Tryz.prog 80 [I f.X, I 0, I 255] true (Bv false) ∧ True] hB ⟨⟨(con_bool h1 (within_ok f.X 0 255)), trivial⟩, trivial⟩ ?_
  refine ae_then ?_
  refine aw_ret ?_
  refine ae_ret hB (Bv false) (by kernel_rfl) (.inl (by first | rfl | (refine congrArg Bv ?_; simp [okF, *]; done) | (refine congrArg Bv ?_; simp [okF, *]; omega) | (refine congrArg Bv ?_; simp_all [okF]; done) | (refine congrArg Bv ?_; simp_all [okF]; omega))) rfl (fun _ => trivial)


-- impl.areFeats$1
theorem areFeats1_ok (f : Feat) : Con Tryz.prog 224 [agFeat f] true (Bv (!(okF f))) := by
  refine fn_ok (fn := Tryz.f224) (nt := 6) Tryz.func224 rfl rfl rfl rfl (by simp [taggedL, tagged]) fun B hB => ?_
  refine aR [(0, .new 1)] [1] [1] [.ref 1 0] [some (bxFeat f)] [] hB trivial ?_
  refine aR [(1, .call [(true, .any)] true (Bv (okF f)))] [2] [] [Bv (!(okF f))] [] [Con Tryz.prog 225 [agFeat f] true (Bv (okF f)) ∧ True] hB ⟨⟨(ValidFeat_ok f), trivial⟩, trivial⟩ ?_
  refine aw_ret ?_
  refine ae_ret hB (Bv (!(okF f))) (by kernel_rfl) (.inl rfl) rfl (fun _ => trivial)


/-- The first number below n that p holds of, or -1. -/
def firstN (n : Nat) (p : Nat → Bool) : Int := match (List.range n).find? p with
  | some i => i
  | none => -1
theorem firstN_hit {n : Nat} {p : Nat → Bool} {k : Nat} (hk : k < n) (hp : p k = true) (hn : ∀ i, i < k → p i = false) : firstN n p = k := by
  have h : (List.range n).find? p = some k := by
    rw [List.find?_range_eq_some]
    exact ⟨hp, List.mem_range.2 hk, fun j hj => by simpa using hn j hj⟩
  simp [firstN, h]
theorem firstN_none {n : Nat} {p : Nat → Bool} (hn : ∀ i, i < n → p i = false) : firstN n p = -1 := by
  have h : (List.range n).find? p = none := by
    rw [List.find?_range_eq_none]
    intro i hi; simpa using hn i hi
  simp [firstN, h]
theorem firstN_cases (n : Nat) (p : Nat → Bool) : (firstN n p = -1 ∧ ∀ i, i < n → p i = false) ∨ ∃ k : Nat, firstN n p = k ∧ k < n ∧ p k = true ∧ ∀ i, i < k → p i = false := by
  by_cases h : ∃ k, k < n ∧ p k = true
  · right
    obtain ⟨k, hk, hp⟩ := h
    cases e : (List.range n).find? p with
    | none => rw [List.find?_range_eq_none] at e; exact absurd hp (by simpa using e k hk)
    | some i =>
      have e' := e
      rw [List.find?_range_eq_some] at e
      exact ⟨i, by simp [firstN, e'], List.mem_range.1 e.2.1, e.1, fun j hj => by simpa using e.2.2 j hj⟩
  · left
    have h' : ∀ i, i < n → p i = false := fun i hi => by rw [← Bool.not_eq_true]; exact fun hp => h ⟨i, hi, hp⟩
    exact ⟨firstN_none h', h'⟩
theorem firstN_any (n : Nat) (p : Nat → Bool) : decide (0 ≤ firstN n p) = anyN n p := by
  rcases firstN_cases n p with ⟨h1, h2⟩ | ⟨k, h1, h2, h3, _⟩
  · rw [h1, anyN_none h2]; decide
  · rw [h1, anyN_at h2 h3]; simp

-- impl.areFeats
theorem containsFeat_ok_idx (s : List Feat) : Con Tryz.prog 264 [slFeat false s, .fn 224 []] true (I (firstN s.length (fun j => (!(okF (at_ s j)))))) := by
  refine fn_ok (fn := Tryz.f264) (nt := 19) Tryz.func264 rfl rfl rfl rfl (by simp [taggedL, tagged, tagFeat]) fun B hB => ?_
  refine aw_lens (x := slFeat false s) 0 rfl (fun len_s => ?_)
  simp [LenOK, LenL, cFeat, fFeat, slFeat] at len_s
  refine aR [] [0, 1] [] [slFeat false s, .fn 224 []] [] [] hB trivial ?_
  refine aw_seq ?_
  refine aR [] [0, 1, 7, 8] [] [slFeat false s, .fn 224 [], I (s.length : Int), I 0] [] [] hB trivial ?_
  refine aw_block ?_
  refine aw_loop (fun gn gσ => ∃ (t8 : Int), gn = ((s.length : Int) - t8).toNat ∧ (0 ≤ t8 ∧ t8 ≤ (s.length : Int)) ∧ (∀ j : Nat, (j : Int) < t8 → (!(okF (at_ s j))) = false) ∧ gσ = mkS [(0, slFeat false s), (1, .fn 224 []), (7, I (s.length : Int)), (8, I t8)] []) (((s.length : Int) - 0).toNat) ⟨0, rfl, (by omega), (by intro j hj; omega), rfl⟩ (fun gn gσ hI => ?_)
  obtain ⟨t8, rfl, hi0, hall0, rfl⟩ := hI
  refine aw_seq ?_
  by_cases h1 : t8 < (s.length : Int)
  ·have hi : t8.toNat < s.length := by omega
   refine aw_r [(0, .dec true)] [0, 1, 7, 8, 9] [] [slFeat false s, .fn 224 [], I (s.length : Int), I t8, Bv true] [] [t8 < (s.length : Int)] hB ⟨h1, trivial⟩ ?_
   refine ae_then ?_
   refine aw_seq ?_
   refine aw_true rfl ?_
   refine aw_skip ?_
   refine ae_then ?_
   refine aw_seq ?_
   refine aw_block ?_
   refine aR [] [0, 1, 5, 7, 8] [] [slFeat false s, .fn 224 [], I t8, I (s.length : Int), I t8] [] [] hB trivial ?_
   refine aw_seq ?_
   rcases Bool.eq_false_or_eq_true (!(okF (at_ s t8.toNat))) with h2 | h2
   ·have hfin : firstN s.length (fun j => (!(okF (at_ s j)))) = t8.toNat := firstN_hit hi h2 (fun j hj => hall0 j (by omega))
    refine aw_r [(5, .call [(true, .any)] true (Bv true))] [0, 1, 5, 7, 8, 16] [] [slFeat false s, .fn 224 [], I t8, I (s.length : Int), I t8, Bv true] [] [(0 : Int) ≤ t8 ∧ t8 < (s.length : Int), Con Tryz.prog 224 [agFeat (at_ s t8.toNat)] true (Bv true) ∧ True] hB ⟨⟨(by omega), (by omega)⟩, ⟨(con_bool h2 (areFeats1_ok (at_ s t8.toNat))), trivial⟩, trivial⟩ ?_
    refine ae_then ?_
    refine aw_true rfl ?_
    refine aR [] [4] [] [I t8] [] [] hB trivial ?_
    refine aw_ret ?_
    refine ae_ret_block (ae_ret_then (ae_ret_then (ae_ret_block (ae_ret_then ?_))))
    refine ae_ret hB (I t8) (by kernel_rfl) (.inl (by refine congrArg I ?_; first | (rw [hfin]; done) | (rw [hfin]; omega))) rfl (fun _ => trivial)
   refine aw_r [(5, .call [(true, .any)] true (Bv false))] [0, 1, 5, 7, 8, 16] [] [slFeat false s, .fn 224 [], I t8, I (s.length : Int), I t8, Bv false] [] [(0 : Int) ≤ t8 ∧ t8 < (s.length : Int), Con Tryz.prog 224 [agFeat (at_ s t8.toNat)] true (Bv false) ∧ True] hB ⟨⟨(by omega), (by omega)⟩, ⟨(con_bool h2 (areFeats1_ok (at_ s t8.toNat))), trivial⟩, trivial⟩ ?_
   refine ae_then ?_
   refine aw_false rfl ?_
   refine aw_skip ?_
   refine ae_block 1 ?_
   refine ae_then ?_
   refine aw_r [] [0, 1, 7, 8] [] [slFeat false s, .fn 224 [], I (s.length : Int), I (t8 + 1)] [] [inR .i64 (t8 + 1)] hB ⟨(inR_i64 (by omega) (by omega)), trivial⟩ ?_
   exact ae_again _ (by omega) ⟨(t8 + 1), rfl, (by omega), (by intro j hj; by_cases ej : j = t8.toNat; (subst ej; first | assumption | rfl); exact hall0 j (by omega)), rfl⟩
  have hfin : firstN s.length (fun j => (!(okF (at_ s j)))) = -1 := firstN_none (fun j hj => hall0 j (by omega))
  refine aw_r [(0, .dec false)] [0, 1, 7, 8, 9] [] [slFeat false s, .fn 224 [], I (s.length : Int), I t8, Bv false] [] [¬ (t8 < (s.length : Int))] hB ⟨h1, trivial⟩ ?_
  refine ae_then ?_
  refine aw_seq ?_
  refine aw_false rfl ?_
  refine aw_exit ?_
  refine ae_exit_then ?_
  refine ae_exit_then ?_
  refine ae_exit_same ?_
  refine ae_then ?_
  refine aR [] [4] [] [I (-1)] [] [] hB trivial ?_
  refine aw_ret ?_
  refine ae_ret hB (I (-1)) (by kernel_rfl) (.inl (by refine congrArg I ?_; first | (rw [hfin]; done) | (rw [hfin]; omega))) rfl (fun _ => trivial)

theorem containsFeat_ok (s : List Feat) : Con Tryz.prog 223 [slFeat false s, .fn 224 []] true (Bv (anyN s.length (fun j => (!(okF (at_ s j)))))) := by
  refine fn_ok (fn := Tryz.f223) (nt := 9) Tryz.func223 rfl rfl rfl rfl (by simp [taggedL, tagged, tagFeat]) fun B hB => ?_
  refine aw_lens (x := slFeat false s) 0 rfl (fun len_s => ?_)
  simp [LenOK, LenL, cFeat, fFeat, slFeat] at len_s
  refine aR [] [0, 1] [] [slFeat false s, .fn 224 []] [] [] hB trivial ?_
  refine aR [(2, .call [(true, .any), (true, .any)] true (I (firstN s.length (fun j => (!(okF (at_ s j)))))))] [4] [] [Bv (decide (0 ≤ (firstN s.length (fun j => (!(okF (at_ s j)))))))] [] [Con Tryz.prog 264 [slFeat false s, .fn 224 []] true (I (firstN s.length (fun j => (!(okF (at_ s j)))))) ∧ True] hB ⟨⟨(containsFeat_ok_idx s), trivial⟩, trivial⟩ ?_
  refine aw_ret ?_
  refine ae_ret hB (Bv (decide (0 ≤ (firstN s.length (fun j => (!(okF (at_ s j)))))))) (by kernel_rfl) (.inl (by exact congrArg Bv (firstN_any _ _))) rfl (fun _ => trivial)

theorem areFeats_ok (list : List Feat) (most : Int) : Con Tryz.prog 175 [slFeat false list, I most] true (Bv (okFeats list most)) := by
  refine fn_ok (fn := Tryz.f175) (nt := 19) Tryz.func175 rfl rfl rfl rfl (by simp [taggedL, tagged, tagFeat]) fun B hB => ?_
  refine aw_lens (x := slFeat false list) 0 rfl (fun len_list => ?_)
  simp [LenOK, LenL, cFeat, fFeat, slFeat] at len_list
  refine aR [] [0, 1] [] [slFeat false list, I most] [] [] hB trivial ?_
  refine aw_seq ?_
  by_cases h1 : 1 ≤ (list.length : Int)
  ·by_cases h2 : (list.length : Int) ≤ most
   ·refine aw_r [(2, .dec true), (7, .dec true), (11, .call [(true, .any), (true, .any)] true (Bv (anyN list.length (fun j => (!(okF (at_ list j)))))))] [4] [] [Bv (!(anyN list.length (fun j => (!(okF (at_ list j))))))] [] [1 ≤ (list.length : Int), (list.length : Int) ≤ most, Con Tryz.prog 223 [slFeat false list, .fn 224 []] true (Bv (anyN list.length (fun j => (!(okF (at_ list j)))))) ∧ True] hB ⟨h1, h2, ⟨(containsFeat_ok list), trivial⟩, trivial⟩ ?_
    refine ae_then ?_
    refine aw_ret ?_
    refine ae_ret hB (Bv (!(anyN list.length (fun j => (!(okF (at_ list j))))))) (by kernel_rfl) (.inl (by first | rfl | (refine congrArg Bv ?_; simp [okFeats, anyN_not, *]; done) | (refine congrArg Bv ?_; simp [okFeats, anyN_not, *]; omega) | (refine congrArg Bv ?_; simp_all [okFeats, anyN_not]; done) | (refine congrArg Bv ?_; simp_all [okFeats, anyN_not]; omega))) rfl (fun _ => trivial)
   refine aw_r [(2, .dec true), (7, .dec false)] [4] [] [Bv false] [] [1 ≤ (list.length : Int), ¬ ((list.length : Int) ≤ most)] hB ⟨h1, h2, trivial⟩ ?_
   refine ae_then ?_
   refine aw_ret ?_
   refine ae_ret hB (Bv false) (by kernel_rfl) (.inl (by first | rfl | (refine congrArg Bv ?_; simp [okFeats, anyN_not, *]; done) | (refine congrArg Bv ?_; simp [okFeats, anyN_not, *]; omega) | (refine congrArg Bv ?_; simp_all [okFeats, anyN_not]; done) | (refine congrArg Bv ?_; simp_all [okFeats, anyN_not]; omega))) rfl (fun _ => trivial)
  refine aw_r [(2, .dec false)] [4] [] [Bv false] [] [¬ (1 ≤ (list.length : Int))] hB ⟨h1, trivial⟩ ?_
  refine ae_then ?_
  refine aw_ret ?_
  refine ae_ret hB (Bv false) (by kernel_rfl) (.inl (by first | rfl | (refine congrArg Bv ?_; simp [okFeats, anyN_not, *]; done) | (refine congrArg Bv ?_; simp [okFeats, anyN_not, *]; omega) | (refine congrArg Bv ?_; simp_all [okFeats, anyN_not]; done) | (refine congrArg Bv ?_; simp_all [okFeats, anyN_not]; omega))) rfl (fun _ => trivial)


-- impl.ValidFeats
theorem ValidFeats_ok (list : List Feat) : Con Tryz.prog 98 [slFeat false list] true (Bv (okFeats list 384)) := by
  refine fn_ok (fn := Tryz.f98) (nt := 5) Tryz.func98 rfl rfl rfl rfl (by simp [taggedL, tagged, tagFeat]) fun B hB => ?_
  refine aw_lens (x := slFeat false list) 0 rfl (fun len_list => ?_)
  simp [LenOK, LenL, cFeat, fFeat, slFeat] at len_list
  refine aR [] [0] [] [slFeat false list] [] [] hB trivial ?_
  refine aR [(1, .call [(true, .any), (true, .any)] true (Bv (okFeats list 384)))] [2] [] [Bv (okFeats list 384)] [] [Con Tryz.prog 175 [slFeat false list, I 384] true (Bv (okFeats list 384)) ∧ True] hB ⟨⟨(areFeats_ok list 384), trivial⟩, trivial⟩ ?_
  refine aw_ret ?_
  refine ae_ret hB (Bv (okFeats list 384)) (by kernel_rfl) (.inl rfl) rfl (fun _ => trivial)


def okP (p : Point) : Bool := inB p.X 0 4095 && (inB p.Y 0 4095 && inB p.T 0 3600000)
theorem okP_iff {p : Point} : okP p = true ↔ (0 ≤ p.X ∧ p.X ≤ 4095) ∧ (0 ≤ p.Y ∧ p.Y ≤ 4095) ∧ (0 ≤ p.T ∧ p.T ≤ 3600000) := by simp [okP, inB, and_assoc]
/-- Whether the point at j is valid, and later than the one ahead of it. -/
def okPt (xs : List Point) (j : Nat) : Bool := okP (at_ xs j) && (decide (j = 0) || decide ((at_ xs (j - 1)).T < (at_ xs j).T))
def okStroke' (s : Stroke) : Bool := decide (1 ≤ (s.Points.length : Int) ∧ (s.Points.length : Int) ≤ 60) && allN s.Points.length (okPt s.Points)
theorem okPt_no {xs : List Point} {i : Int} (hi : 0 < i) (h : (at_ xs i.toNat).T ≤ (at_ xs (i - 1).toNat).T) : okPt xs i.toNat = false := by
  have e : (i - 1).toNat = i.toNat - 1 := by omega
  rw [e] at h
  have : ¬ i.toNat = 0 := by omega
  simp [okPt, this]; intro _; omega
theorem okPt_bad {xs : List Point} {j : Nat} (h : okP (at_ xs j) = false) : okPt xs j = false := by simp [okPt, h]
theorem okPt_yes {xs : List Point} {i : Int} (h1 : okP (at_ xs i.toNat) = true) (hi : 0 < i) (h : ¬ (at_ xs i.toNat).T ≤ (at_ xs (i - 1).toNat).T) : okPt xs i.toNat = true := by
  have e : (i - 1).toNat = i.toNat - 1 := by omega
  rw [e] at h
  simp [okPt, h1]; right; omega
theorem okPt_zero {xs : List Point} {i : Int} (h1 : okP (at_ xs i.toNat) = true) (h0 : 0 ≤ i) (hi : ¬ 0 < i) : okPt xs i.toNat = true := by
  have : i.toNat = 0 := by omega
  simp [okPt, this] at h1 ⊢; exact h1
theorem okS_at {s : Stroke} (h : okStroke' s = true) {j : Nat} (hj : j < s.Points.length) : okP (at_ s.Points j) = true := by
  simp only [okStroke', Bool.and_eq_true] at h
  have := allN_get h.2 hj
  simp only [okPt, Bool.and_eq_true] at this
  exact this.1
theorem okS_T {s : Stroke} (h : okStroke' s = true) {j : Nat} (hj : j < s.Points.length) (h0 : 0 < j) : (at_ s.Points (j - 1)).T < (at_ s.Points j).T := by
  simp only [okStroke', Bool.and_eq_true] at h
  have := allN_get h.2 hj
  simp only [okPt, Bool.and_eq_true, Bool.or_eq_true, decide_eq_true_eq] at this
  omega
theorem okS_len {s : Stroke} (h : okStroke' s = true) : 1 ≤ (s.Points.length : Int) ∧ (s.Points.length : Int) ≤ 60 := by
  simp only [okStroke', Bool.and_eq_true, decide_eq_true_eq] at h
  exact h.1

/-- The time of a stroke's last point. -/
def lastT (s : Stroke) : Int := (at_ s.Points (s.Points.length - 1)).T
/-- Whether the stroke at j is valid, and later than the one ahead of it. -/
def okSA (xs : List Stroke) (j : Nat) : Bool := okStroke' (at_ xs j) && (decide (j = 0) || decide (lastT (at_ xs (j - 1)) < (at_ (at_ xs j).Points 0).T))
def okInk' (x : Ink) : Bool := decide ((x.Strokes.length : Int) ≤ 16) && allN x.Strokes.length (okSA x.Strokes)
theorem okSA_bad {xs : List Stroke} {j : Nat} (h : okStroke' (at_ xs j) = false) : okSA xs j = false := by simp [okSA, h]
theorem okSA_no {xs : List Stroke} {i : Int} (hi : 0 < i) (h : (at_ (at_ xs i.toNat).Points 0).T ≤ (at_ (at_ xs (i - 1).toNat).Points ((at_ xs (i - 1).toNat).Points.length - 1)).T) : okSA xs i.toNat = false := by
  have e : (i - 1).toNat = i.toNat - 1 := by omega
  rw [e] at h
  have : ¬ i.toNat = 0 := by omega
  unfold okSA lastT; simp [this]; intro _; omega
theorem okSA_yes {xs : List Stroke} {i : Int} (h1 : okStroke' (at_ xs i.toNat) = true) (hi : 0 < i) (h : ¬ (at_ (at_ xs i.toNat).Points 0).T ≤ (at_ (at_ xs (i - 1).toNat).Points ((at_ xs (i - 1).toNat).Points.length - 1)).T) : okSA xs i.toNat = true := by
  have e : (i - 1).toNat = i.toNat - 1 := by omega
  rw [e] at h
  unfold okSA lastT; simp [h1]; right; omega
theorem okSA_zero {xs : List Stroke} {i : Int} (h1 : okStroke' (at_ xs i.toNat) = true) (h0 : 0 ≤ i) (hi : ¬ 0 < i) : okSA xs i.toNat = true := by
  have : i.toNat = 0 := by omega
  simp [okSA, this] at h1 ⊢; exact h1
theorem okSA_ok {xs : List Stroke} {j : Nat} (h : okSA xs j = true) : okStroke' (at_ xs j) = true := by
  simp only [okSA, Bool.and_eq_true] at h; exact h.1
theorem okI_all {x : Ink} (h : okInk' x = true) : ∀ j, j < x.Strokes.length → okStroke' (at_ x.Strokes j) = true := by
  simp only [okInk', Bool.and_eq_true] at h
  exact fun j hj => okSA_ok (allN_get h.2 hj)
theorem okI_mem {x : Ink} (h : okInk' x = true) : ∀ s ∈ x.Strokes, okStroke' s = true := by
  intro s hs
  obtain ⟨j, hj, e⟩ := List.getElem_of_mem hs
  have := okI_all h j hj
  simpa [at_, hj, e] using this
theorem okI_len {x : Ink} (h : okInk' x = true) : (x.Strokes.length : Int) ≤ 16 := by
  simp only [okInk', Bool.and_eq_true, decide_eq_true_eq] at h
  exact h.1

def mpS (f : Point → Point) (s : Stroke) : Stroke := ⟨s.Points.map (f)⟩
/-- Ink at another place. -/
def mpI (f : Point → Point) (x : Ink) : Ink := ⟨x.Strokes.map (mpS f)⟩
theorem mpI_len (f : Point → Point) (x : Ink) : (mpI f x).Strokes.length = x.Strokes.length := by simp [mpI]
theorem mpS_len (f : Point → Point) (s : Stroke) : (mpS f s).Points.length = s.Points.length := by simp [mpS]
theorem mpS_at {f : Point → Point} {s : Stroke} {j : Nat} (h : j < s.Points.length) : at_ (mpS f s).Points j = f (at_ s.Points j) := by simp [at_, mpS, h]
theorem mpI_at {f : Point → Point} {x : Ink} {j : Nat} (h : j < x.Strokes.length) : at_ (mpI f x).Strokes j = mpS f (at_ x.Strokes j) := by simp [at_, mpI, h]
/-- The first k points are moved. -/
def mpTo (f : Point → Point) (k : Nat) (s : Stroke) : Stroke := ⟨(s.Points.take k).map (f) ++ s.Points.drop k⟩
/-- The first i strokes are moved. -/
def mpFst (f : Point → Point) (i : Nat) (xs : List Stroke) : List Stroke := (xs.take i).map (mpS f) ++ xs.drop i
theorem mpTo_zero (f : Point → Point) (s : Stroke) : mpTo f 0 s = s := by simp [mpTo]
theorem mpTo_all {f : Point → Point} {k : Nat} {s : Stroke} (h : s.Points.length ≤ k) : mpTo f k s = mpS f s := by simp [mpTo, mpS, List.take_of_length_le h, List.drop_eq_nil_of_le h]
theorem mpTo_len (f : Point → Point) (k : Nat) (s : Stroke) : (mpTo f k s).Points.length = s.Points.length := by simp [mpTo]; omega
theorem mpTo_at {f : Point → Point} {k : Nat} {s : Stroke} (h : k < s.Points.length) : at_ (mpTo f k s).Points k = at_ s.Points k := by
  simp [at_, mpTo, h, Nat.le_of_lt h, List.getElem?_append]
theorem mpTo_succ {f : Point → Point} {k : Nat} {s : Stroke} (h : k < s.Points.length) : mpTo f (k + 1) s = ⟨(mpTo f k s).Points.set k (f (at_ s.Points k))⟩ := by
  unfold mpTo
  simp only [Stroke.mk.injEq]
  rw [List.take_succ_eq_append_getElem h, List.set_append_right _ _ (by simp [Nat.le_of_lt h]), List.drop_eq_getElem_cons h, at_eq h]
  simp only [List.map_append, List.map_cons, List.map_nil, List.length_map, List.length_take, Nat.min_eq_left (Nat.le_of_lt h), Nat.sub_self, List.set_cons_zero, List.append_assoc, List.cons_append, List.nil_append]
theorem mpFst_zero (f : Point → Point) (xs : List Stroke) : mpFst f 0 xs = xs := by simp [mpFst]
theorem mpFst_len (f : Point → Point) (i : Nat) (xs : List Stroke) : (mpFst f i xs).length = xs.length := by simp [mpFst]; omega
theorem mpFst_all {f : Point → Point} {i : Nat} {xs : List Stroke} (h : xs.length ≤ i) : mpFst f i xs = xs.map (mpS f) := by simp [mpFst, List.take_of_length_le h, List.drop_eq_nil_of_le h]
theorem mpFst_at {f : Point → Point} {i : Nat} {xs : List Stroke} (h : i < xs.length) : at_ (mpFst f i xs) i = at_ xs i := by
  simp [at_, mpFst, h, Nat.le_of_lt h, List.getElem?_append]
theorem mpFst_succ {f : Point → Point} {i : Nat} {xs : List Stroke} (h : i < xs.length) : mpFst f (i + 1) xs = (mpFst f i xs).set i (mpS f (at_ xs i)) := by
  unfold mpFst
  rw [List.take_succ_eq_append_getElem h, List.set_append_right _ _ (by simp [Nat.le_of_lt h]), List.drop_eq_getElem_cons h, at_eq h]
  simp only [List.map_append, List.map_cons, List.map_nil, List.length_map, List.length_take, Nat.min_eq_left (Nat.le_of_lt h), Nat.sub_self, List.set_cons_zero, List.append_assoc, List.cons_append, List.nil_append]
/-- The stroke at i, of which the first k points are moved. -/
def mpIn (f : Point → Point) (i k : Nat) (xs : List Stroke) : List Stroke := (mpFst f i xs).set i (mpTo f k (at_ xs i))
theorem mpIn_zero {f : Point → Point} {i : Nat} {xs : List Stroke} (h : i < xs.length) : mpIn f i 0 xs = mpFst f i xs := by
  have hl : i < (mpFst f i xs).length := by rw [mpFst_len]; exact h
  rw [mpIn, mpTo_zero]
  have := mpFst_at (f := f) h
  conv => lhs; rw [← this]
  simp [at_, hl]
theorem mpIn_len (f : Point → Point) (i k : Nat) (xs : List Stroke) : (mpIn f i k xs).length = xs.length := by simp [mpIn, mpFst_len]
theorem mpIn_at {f : Point → Point} {i k : Nat} {xs : List Stroke} (h : i < xs.length) : at_ (mpIn f i k xs) i = mpTo f k (at_ xs i) := by
  have hl : i < (mpFst f i xs).length := by rw [mpFst_len]; exact h
  simp [mpIn, at_, hl]
theorem mpIn_succ {f : Point → Point} {i k : Nat} {xs : List Stroke} (h : i < xs.length) (hk : k < (at_ xs i).Points.length) : mpIn f i (k + 1) xs = (mpIn f i k xs).set i ⟨(at_ (mpIn f i k xs) i).Points.set k (f (at_ (at_ xs i).Points k))⟩ := by
  rw [mpIn_at h, mpIn, mpTo_succ hk, mpIn, List.set_set]
theorem mpIn_all {f : Point → Point} {i k : Nat} {xs : List Stroke} (h : i < xs.length) (hk : (at_ xs i).Points.length ≤ k) : mpIn f i k xs = mpFst f (i + 1) xs := by
  rw [mpIn, mpTo_all hk, mpFst_succ h]

theorem at_setS' {α : Type} [Inhabited α] {xs : List α} {i : Nat} {y : α} (h : i < xs.length) : at_ (xs.set i y) i = y := by simp [at_, h]
theorem mapTake_succ {α β : Type} [Inhabited α] {xs : List α} {f : α → β} {i : Int} {y : β} (h0 : 0 ≤ i) (h : i.toNat < xs.length) (hy : y = f (at_ xs i.toNat)) : (xs.take (i + 1).toNat).map f = (xs.take i.toNat).map f ++ [y] := by
  have e : (i + 1).toNat = i.toNat + 1 := by omega
  rw [e, List.take_succ_eq_append_getElem h, hy, at_eq h]
  simp only [List.map_append, List.map_cons, List.map_nil]
theorem map_all {α β : Type} {xs : List α} {f : α → β} {i : Int} (h : (xs.length : Int) ≤ i) : (xs.take i.toNat).map f = xs.map f := by
  rw [List.take_of_length_le (by omega)]
section
variable {f : Point → Point} {i k : Int} {xs ys : List Stroke}
theorem mpIn_pt (e : ys = mpIn f i.toNat k.toNat xs) (hi : i.toNat < xs.length) (hk : k.toNat < (at_ xs i.toNat).Points.length) : at_ (at_ ys i.toNat).Points k.toNat = at_ (at_ xs i.toNat).Points k.toNat := by rw [e, mpIn_at hi, mpTo_at hk]
theorem mpIn_next (e : ys = mpIn f i.toNat k.toNat xs) (hk0 : 0 ≤ k) (hi : i.toNat < xs.length) (hk : k.toNat < (at_ xs i.toNat).Points.length) {p : Point} (hp : p = f (at_ (at_ xs i.toNat).Points k.toNat)) :
    ys.set i.toNat ⟨(at_ ys i.toNat).Points.set k.toNat p⟩ = mpIn f i.toNat (k + 1).toNat xs := by
  have ek : (k + 1).toNat = k.toNat + 1 := by omega
  rw [hp, ek, mpIn_succ hi hk, ← e]
theorem mpIn_exit (e : ys = mpIn f i.toNat k.toNat xs) (hi0 : 0 ≤ i) (hi : i.toNat < xs.length) (hk : (at_ xs i.toNat).Points.length ≤ k.toNat) : ys = mpFst f (i + 1).toNat xs := by
  have ei : (i + 1).toNat = i.toNat + 1 := by omega
  rw [e, ei, mpIn_all hi hk]
theorem mpIn_row (e : ys = mpIn f i.toNat k.toNat xs) (hi : i.toNat < xs.length) : (at_ ys i.toNat).Points.length = (at_ xs i.toNat).Points.length := by rw [e, mpIn_at hi, mpTo_len]
theorem mpI_id {x : Ink} (h : ∀ p, f p = p) : mpI f x = x := by
  have hs : ∀ s : Stroke, mpS f s = s := fun s => by
    have e : f = id := funext h
    unfold mpS; rw [e, List.map_id]
  have e2 : mpS f = id := funext hs
  unfold mpI; rw [e2, List.map_id]
end

/-- The elements from k on, from the end. -/
def revT {α β : Type} (f : α → β) (l : List α) (k : Nat) : List β := ((l.drop k).map f).reverse
theorem revT_all {α β : Type} (f : α → β) (l : List α) : revT f l 0 = (l.map f).reverse := rfl
theorem revT_nil {α β : Type} {f : α → β} {l : List α} {k : Nat} (h : l.length ≤ k) : revT f l k = [] := by simp [revT, List.drop_eq_nil_of_le h]
theorem revT_step {α β : Type} [Inhabited α] {f : α → β} {l : List α} {k : Nat} (h : k < l.length) : revT f l k = revT f l (k + 1) ++ [f (at_ l k)] := by
  unfold revT
  rw [List.drop_eq_getElem_cons h, List.map_cons, List.reverse_cons, at_eq h]

def mirF (f : Feat) : Feat := ⟨255 - f.X, f.Y, ((4 - f.D) + 8) % 8⟩
def bckF (f : Feat) : Feat := ⟨f.X, f.Y, (f.D + 4) % 8⟩
def mirR (l : List Feat) : List Feat × Int := if okFeats l 384 = true then (l.map mirF, 0) else ([], 1)
def bckR (l : List Feat) : List Feat × Int := if okFeats l 384 = true then ((l.map bckF).reverse, 0) else ([], 1)
theorem mir_yes {l : List Feat} (h : okFeats l 384 = true) : mirR l = (l.map mirF, 0) := if_pos h
theorem mir_no {l : List Feat} (h : okFeats l 384 = false) : mirR l = ([], 1) := by simp [mirR, h]
theorem bck_yes {l : List Feat} (h : okFeats l 384 = true) : bckR l = ((l.map bckF).reverse, 0) := if_pos h
theorem bck_no {l : List Feat} (h : okFeats l 384 = false) : bckR l = ([], 1) := by simp [bckR, h]

-- impl.MirrorFeats
theorem implMirrorFeats_ok (list : List Feat) : ∃ (v : List Feat) (c : Int), (v = (mirR list).1) ∧ (c = (mirR list).2) ∧ Con Tryz.prog 31 [slFeat false list] true (.tup [slFeat true v, I c]) := by
  have hh : ∃ r : (List Feat) × Int, ((r.1 = (mirR list).1) ∧ (r.2 = (mirR list).2) ∧ (True)) ∧ CallOK Tryz.prog 31 [slFeat false list] (lookO []) true (.tup [slFeat true r.1, I r.2]) (lookO []) := by
    refine fn_okX (Φ := fun r : (List Feat) × Int => (r.1 = (mirR list).1) ∧ (r.2 = (mirR list).2) ∧ (True)) [] (fun r => []) (fn := Tryz.f31) (nt := 32) Tryz.func31 rfl rfl (args := [slFeat false list]) rfl (allcons (.inl ⟨rfl, tagFeat false _⟩) allnil) (res := fun r => .tup [slFeat true r.1, I r.2]) ?_
    refine xR [] [0] [] [slFeat false list] [] [] trivial ?_
    refine x_seq ?_
    refine x_seq ?_
    rcases Bool.eq_false_or_eq_true (okFeats list 384) with h1 | h1
    ·have hok := h1
     have hfn := okFeats_n hok
     have hst := mir_yes hok
     refine x_r [(1, .call [(true, .any)] true (Bv true))] [0, 9] [] [slFeat false list, Bv false] [] [Con Tryz.prog 98 [slFeat false list] true (Bv true) ∧ True] ⟨⟨(con_bool h1 (ValidFeats_ok list)), trivial⟩, trivial⟩ ?_
     refine xe_then ?_
     refine x_false rfl ?_
     refine x_skip ?_
     refine xe_then ?_
     refine xR [] [0, 4] [] [slFeat false list, nilA] [] [] trivial ?_
     refine x_seq ?_
     refine xR [] [4, 10, 11, 12] [] [nilA, slFeat false list, I (list.length : Int), I 0] [] [] trivial ?_
     refine x_block ?_
     refine x_nil 4 704 3 (fun _ => []) (by kernel_rfl) ?_
     refine x_weak [] (T := [(4, .arr 704), (10, slFeat false list), (11, I (list.length : Int)), (12, I 0)]) (O := [(704, tAFeat ([] : List Feat))]) rfl (⟨.inl rfl, .inl rfl, .inl rfl, .inl rfl, trivial⟩) (⟨.inr ⟨rfl, (by first | rfl | (simp; done) | (simp; omega) | omega), fun i_ hi_ => absurd hi_ (Nat.not_lt_zero _)⟩, trivial⟩) ?_
     refine x_loop (X := (List Feat) × Int) (fun x => mkS [(4, .arr 704), (10, slFeat false list), (11, I (list.length : Int)), (12, I x.2)] [(704, tAFeat x.1)]) (fun x => (0 ≤ x.2 ∧ x.2 ≤ (list.length : Int)) ∧ (x.1 = (list.take x.2.toNat).map mirF) ∧ True) (fun x => ((list.length : Int) - x.2).toNat) (([] : List Feat), 0) rfl (show (0 ≤ (0 : Int) ∧ (0 : Int) ≤ (list.length : Int)) ∧ (([] : List Feat) = (list.take (0 : Int).toNat).map mirF) ∧ True from ⟨(by omega), (by rfl), trivial⟩) (fun x hI => ?_)
     obtain ⟨out, t12⟩ := x
     obtain ⟨hi0, hs0, _⟩ : (0 ≤ t12 ∧ t12 ≤ (list.length : Int)) ∧ (out = (list.take t12.toNat).map mirF) ∧ True := hI
     show XW _ _ _ _ (mkS [(4, .arr 704), (10, slFeat false list), (11, I (list.length : Int)), (12, I t12)] [(704, tAFeat out)]) _ _
     refine x_seq ?_
     by_cases h2 : t12 < (list.length : Int)
     ·have hi : t12.toNat < list.length := by omega
      have hof := okF_iff.1 (okFeats_at hok hi)
      have hol : out.length = t12.toNat := by rw [hs0]; simp; omega
      refine x_r [(0, .dec true)] [4, 10, 11, 12, 13] [704] [.arr 704, slFeat false list, I (list.length : Int), I t12, Bv true] [some (tAFeat out)] [t12 < (list.length : Int)] ⟨h2, trivial⟩ ?_
      refine xe_then ?_
      refine x_seq ?_
      refine x_true rfl ?_
      refine x_skip ?_
      refine xe_then ?_
      refine x_seq ?_
      refine x_block ?_
      refine xR [(2, .new 6)] [4, 6, 10, 11, 12] [6, 704] [.arr 704, .ref 6 0, slFeat false list, I (list.length : Int), I t12] [some (bxFeat (at_ list t12.toNat)), some (tAFeat out)] [(0 : Int) ≤ t12 ∧ t12 < (list.length : Int)] ⟨⟨(by omega), (by omega)⟩, trivial⟩ ?_
      refine x_r [(10, .nn), (12, .new 28), (13, .new 29)] [4, 10, 11, 12] [29] [.arr 29, slFeat false list, I (list.length : Int), I t12] [some (.arr 3 (out.length + 1) (catF out.length (fFeat out) (litF [I (255 - ((at_ list t12.toNat).X)), I ((at_ list t12.toNat).Y), I (((4 - ((at_ list t12.toNat).D)) + 8) % 8)] 3)))] [inR .i64 (255 - ((at_ list t12.toNat).X)), inR .i64 (4 - ((at_ list t12.toNat).D)), inR .i64 ((4 - ((at_ list t12.toNat).D)) + 8), (0 : Int) ≤ ((4 - ((at_ list t12.toNat).D)) + 8) ∧ (0 : Int) < 8, (out.length + 1) * 24 ≤ 140737488355328] ⟨(inR_i64 (by omega) (by omega)), (inR_i64 (by omega) (by omega)), (inR_i64 (by omega) (by omega)), ⟨(by omega), (by omega)⟩, (by omega), trivial⟩ ?_
      refine xe_block 1 ?_
      refine xe_then ?_
      refine x_r [] [4, 10, 11, 12] [29] [.arr 29, slFeat false list, I (list.length : Int), I (t12 + 1)] [some (.arr 3 (out.length + 1) (catF out.length (fFeat out) (litF [I (255 - ((at_ list t12.toNat).X)), I ((at_ list t12.toNat).Y), I (((4 - ((at_ list t12.toNat).D)) + 8) % 8)] 3)))] [inR .i64 (t12 + 1)] ⟨(inR_i64 (by omega) (by omega)), trivial⟩ ?_
      refine xe_weak [(704, 29)] (T := [(4, .arr 704), (10, slFeat false list), (11, I (list.length : Int)), (12, I (t12 + 1))]) (O := [(704, tAFeat (out ++ [(Feat.mk (255 - ((at_ list t12.toNat).X)) ((at_ list t12.toNat).Y) (((4 - ((at_ list t12.toNat).D)) + 8) % 8))]))]) rfl (⟨.inl rfl, .inl rfl, .inl rfl, .inl rfl, trivial⟩) (⟨.inr ⟨rfl, (by first | rfl | (simp; done) | (simp; omega) | omega), fun i_ hi_ => .inl (cat_snoc (enc := cFeat) (xs := out) rfl i_ hi_)⟩, trivial⟩) (xe_again ((out ++ [(Feat.mk (255 - ((at_ list t12.toNat).X)) ((at_ list t12.toNat).Y) (((4 - ((at_ list t12.toNat).D)) + 8) % 8))]), (t12 + 1)) rfl (show (0 ≤ (t12 + 1) ∧ (t12 + 1) ≤ (list.length : Int)) ∧ ((out ++ [(Feat.mk (255 - ((at_ list t12.toNat).X)) ((at_ list t12.toNat).Y) (((4 - ((at_ list t12.toNat).D)) + 8) % 8))]) = (list.take (t12 + 1).toNat).map mirF) ∧ True from ⟨(by omega), (by rw [hs0]; exact (mapTake_succ (by omega) hi rfl).symm), trivial⟩) (by first | (show (((list.length : Int) - (t12 + 1)).toNat : Nat) < ((list.length : Int) - t12).toNat; omega) | (dsimp only; omega)))
     have hfin : out = list.map mirF := by rw [hs0]; exact map_all (by omega)
     refine x_r [(0, .dec false)] [4, 10, 11, 12, 13] [704] [.arr 704, slFeat false list, I (list.length : Int), I t12, Bv false] [some (tAFeat out)] [¬ (t12 < (list.length : Int))] ⟨h2, trivial⟩ ?_
     refine xe_then ?_
     refine x_seq ?_
     refine x_false rfl ?_
     refine x_exit ?_
     refine xe_exit_then ?_
     refine xe_loop_exit ?_
     refine xe_exit_same ?_
     refine xe_then ?_
     refine xR [] [2, 3] [704] [.arr 704, I 0] [some (tAFeat out)] [] trivial ?_
     refine x_ret ?_
     refine xe_end (out, 0) (show (out = (mirR list).1) ∧ (0 = (mirR list).2) ∧ (True) from ⟨(by first | (rw [hst]; done) | (rw [hst, hfin]; done) | (rw [hst]; exact hfin) | rfl), (by first | (rw [hst]; done) | (rw [hst, hfin]; done) | (rw [hst]; exact hfin) | rfl), trivial⟩) (trivial) (.tup [.arr 704, I 0]) (by kernel_rfl) (.inr ⟨⟨(fun _ => rfl), rfl, rfl, fun i _ => .inl rfl⟩, ⟨rfl, rfl⟩⟩) (fun _ => rfl) (fun _ => (by simp [tagged, taggedL, tagFeat]))
    have hst := mir_no h1
    refine x_r [(1, .call [(true, .any)] true (Bv false))] [0, 9] [] [slFeat false list, Bv true] [] [Con Tryz.prog 98 [slFeat false list] true (Bv false) ∧ True] ⟨⟨(con_bool h1 (ValidFeats_ok list)), trivial⟩, trivial⟩ ?_
    refine xe_then ?_
    refine x_true rfl ?_
    refine xR [] [2, 3] [] [nilA, I 1] [] [] trivial ?_
    refine x_ret ?_
    refine xe_ret_then ?_
    refine xe_end (([] : List Feat), 1) (show (([] : List Feat) = (mirR list).1) ∧ (1 = (mirR list).2) ∧ (True) from ⟨(by first | (rw [hst]; done) | (rw [hst, hfin]; done) | (rw [hst]; exact hfin) | rfl), (by first | (rw [hst]; done) | (rw [hst, hfin]; done) | (rw [hst]; exact hfin) | rfl), trivial⟩) (trivial) (.tup [nilA, I 1]) (by kernel_rfl) (.inr ⟨⟨rfl, rfl⟩, ⟨rfl, rfl⟩⟩) (fun _ => rfl) (fun _ => (by simp [tagged, taggedL, tagFeat]))
  obtain ⟨⟨v, c⟩, ⟨hh0, hh1, _⟩, hc⟩ := hh
  exact ⟨v, c, hh0, hh1, hc⟩


-- spec.l00In
theorem l00In_ok (n : Int) (low : Int) (high : Int) : Con Tryz.prog 168 [I n, I low, I high] true (Bv (inB n low high)) := by
  refine fn_ok (fn := Tryz.f168) (nt := 15) Tryz.func168 rfl rfl rfl rfl (by simp [taggedL, tagged]) fun B hB => ?_
  refine aR [] [0, 1, 2] [] [I n, I low, I high] [] [] hB trivial ?_
  refine aw_seq ?_
  by_cases h1 : low ≤ n
  ·refine aw_r [(2, .dec true)] [6] [] [Bv (decide (n ≤ high))] [] [low ≤ n] hB ⟨h1, trivial⟩ ?_
   refine ae_then ?_
   refine aw_ret ?_
   refine ae_ret hB (Bv (decide (n ≤ high))) (by kernel_rfl) (.inl (by first | rfl | (refine congrArg Bv ?_; simp [inB, *]; done) | (refine congrArg Bv ?_; simp [inB, *]; omega) | (refine congrArg Bv ?_; simp_all [inB]; done) | (refine congrArg Bv ?_; simp_all [inB]; omega))) rfl (fun _ => trivial)
  refine aw_r [(2, .dec false)] [6] [] [Bv false] [] [¬ (low ≤ n)] hB ⟨h1, trivial⟩ ?_
  refine ae_then ?_
  refine aw_ret ?_
  refine ae_ret hB (Bv false) (by kernel_rfl) (.inl (by first | rfl | (refine congrArg Bv ?_; simp [inB, *]; done) | (refine congrArg Bv ?_; simp [inB, *]; omega) | (refine congrArg Bv ?_; simp_all [inB]; done) | (refine congrArg Bv ?_; simp_all [inB]; omega))) rfl (fun _ => trivial)


-- spec.l08Feat
theorem l08Feat_ok (f : Feat) : Con Tryz.prog 176 [agFeat f] true (Bv (okF f)) := by
  refine fn_ok (fn := Tryz.f176) (nt := 16) Tryz.func176 rfl rfl rfl rfl (by simp [taggedL, tagged]) fun B hB => ?_
  refine aR [(0, .new 1)] [1] [1] [.ref 1 0] [some (bxFeat f)] [] hB trivial ?_
  refine aw_seq ?_
  rcases Bool.eq_false_or_eq_true (inB f.X 0 255) with h1 | h1
  ·rcases Bool.eq_false_or_eq_true (inB f.Y 0 255) with h2 | h2
   ·refine aw_r [(2, .call [(true, .any), (true, .any), (true, .any)] true (Bv true)), (6, .call [(true, .any), (true, .any), (true, .any)] true (Bv true)), (11, .call [(true, .any), (true, .any), (true, .any)] true (Bv (inB f.D 0 7)))] [2] [] [Bv (inB f.D 0 7)] [] [Con Tryz.prog 168 [I f.X, I 0, I 255] true (Bv true) ∧ True, Con Tryz.prog 168 [I f.Y, I 0, I 255] true (Bv true) ∧ True, Con Tryz.prog 168 [I f.D, I 0, I 7] true (Bv (inB f.D 0 7)) ∧ True] hB ⟨⟨(con_bool h1 (l00In_ok f.X 0 255)), trivial⟩, ⟨(con_bool h2 (l00In_ok f.Y 0 255)), trivial⟩, ⟨(l00In_ok f.D 0 7), trivial⟩, trivial⟩ ?_
    refine ae_then ?_
    refine aw_ret ?_
    refine ae_ret hB (Bv (inB f.D 0 7)) (by kernel_rfl) (.inl (by first | rfl | (refine congrArg Bv ?_; simp [okF, *]; done) | (refine congrArg Bv ?_; simp [okF, *]; omega) | (refine congrArg Bv ?_; simp_all [okF]; done) | (refine congrArg Bv ?_; simp_all [okF]; omega))) rfl (fun _ => trivial)
   refine aw_r [(2, .call [(true, .any), (true, .any), (true, .any)] true (Bv true)), (6, .call [(true, .any), (true, .any), (true, .any)] true (Bv false))] [2] [] [Bv false] [] [Con Tryz.prog 168 [I f.X, I 0, I 255] true (Bv true) ∧ True, Con Tryz.prog 168 [I f.Y, I 0, I 255] true (Bv false) ∧ True] hB ⟨⟨(con_bool h1 (l00In_ok f.X 0 255)), trivial⟩, ⟨(con_bool h2 (l00In_ok f.Y 0 255)), trivial⟩, trivial⟩ ?_
   refine ae_then ?_
   refine aw_ret ?_
   refine ae_ret hB (Bv false) (by kernel_rfl) (.inl (by first | rfl | (refine congrArg Bv ?_; simp [okF, *]; done) | (refine congrArg Bv ?_; simp [okF, *]; omega) | (refine congrArg Bv ?_; simp_all [okF]; done) | (refine congrArg Bv ?_; simp_all [okF]; omega))) rfl (fun _ => trivial)
  refine aw_r [(2, .call [(true, .any), (true, .any), (true, .any)] true (Bv false))] [2] [] [Bv false] [] [Con Tryz.prog 168 [I f.X, I 0, I 255] true (Bv false) ∧ True] hB ⟨⟨(con_bool h1 (l00In_ok f.X 0 255)), trivial⟩, trivial⟩ ?_
  refine ae_then ?_
  refine aw_ret ?_
  refine ae_ret hB (Bv false) (by kernel_rfl) (.inl (by first | rfl | (refine congrArg Bv ?_; simp [okF, *]; done) | (refine congrArg Bv ?_; simp [okF, *]; omega) | (refine congrArg Bv ?_; simp_all [okF]; done) | (refine congrArg Bv ?_; simp_all [okF]; omega))) rfl (fun _ => trivial)


-- spec.l08Ok
theorem l08Ok_ok (list : List Feat) : Con Tryz.prog 99 [slFeat false list] true (Bv (okFeats list 384)) := by
  refine fn_ok (fn := Tryz.f99) (nt := 19) Tryz.func99 rfl rfl rfl rfl (by simp [taggedL, tagged, tagFeat]) fun B hB => ?_
  refine aw_lens (x := slFeat false list) 0 rfl (fun len_list => ?_)
  simp [LenOK, LenL, cFeat, fFeat, slFeat] at len_list
  refine aR [] [0] [] [slFeat false list] [] [] hB trivial ?_
  refine aw_seq ?_
  refine aR [] [0, 3] [] [slFeat false list, I 0] [] [] hB trivial ?_
  refine aw_block ?_
  refine aw_loop (fun gn gσ => ∃ (i : Int), gn = ((list.length : Int) - i).toNat ∧ (0 ≤ i ∧ i ≤ (list.length : Int)) ∧ (∀ j : Nat, (j : Int) < i → okF (at_ list j) = true) ∧ gσ = mkS [(0, slFeat false list), (3, I i)] []) (((list.length : Int) - 0).toNat) ⟨0, rfl, (by omega), (by intro j hj; omega), rfl⟩ (fun gn gσ hI => ?_)
  obtain ⟨i, rfl, hi0, hall0, rfl⟩ := hI
  refine aw_seq ?_
  refine aw_seq ?_
  by_cases h1 : i < (list.length : Int)
  ·have hi : i.toNat < list.length := by omega
   refine aw_r [(3, .dec true)] [0, 3, 7] [] [slFeat false list, I i, Bv true] [] [i < (list.length : Int)] hB ⟨h1, trivial⟩ ?_
   refine ae_then ?_
   refine aw_true rfl ?_
   refine aw_skip ?_
   refine ae_then ?_
   refine aw_seq ?_
   refine aw_block ?_
   refine aw_seq ?_
   rcases Bool.eq_false_or_eq_true (okF (at_ list i.toNat)) with h2 | h2
   ·refine aw_r [(4, .call [(true, .any)] true (Bv true))] [0, 3, 15] [] [slFeat false list, I i, Bv false] [] [(0 : Int) ≤ i ∧ i < (list.length : Int), Con Tryz.prog 176 [agFeat (at_ list i.toNat)] true (Bv true) ∧ True] hB ⟨⟨(by omega), (by omega)⟩, ⟨(con_bool h2 (l08Feat_ok (at_ list i.toNat))), trivial⟩, trivial⟩ ?_
    refine ae_then ?_
    refine aw_false rfl ?_
    refine aw_skip ?_
    refine ae_block 1 ?_
    refine ae_then ?_
    refine aw_r [] [0, 3] [] [slFeat false list, I (i + 1)] [] [inR .i64 (i + 1)] hB ⟨(inR_i64 (by omega) (by omega)), trivial⟩ ?_
    exact ae_again _ (by omega) ⟨(i + 1), rfl, (by omega), (by intro j hj; by_cases ej : j = i.toNat; (subst ej; first | assumption | exact hok); exact hall0 j (by omega)), rfl⟩
   have hall : allN list.length (fun j => okF (at_ list j)) = false := allN_not hi h2
   refine aw_r [(4, .call [(true, .any)] true (Bv false))] [0, 3, 15] [] [slFeat false list, I i, Bv true] [] [(0 : Int) ≤ i ∧ i < (list.length : Int), Con Tryz.prog 176 [agFeat (at_ list i.toNat)] true (Bv false) ∧ True] hB ⟨⟨(by omega), (by omega)⟩, ⟨(con_bool h2 (l08Feat_ok (at_ list i.toNat))), trivial⟩, trivial⟩ ?_
   refine ae_then ?_
   refine aw_true rfl ?_
   refine aR [] [2] [] [Bv false] [] [] hB trivial ?_
   refine aw_ret ?_
   refine ae_ret_block (ae_ret_then (ae_ret_then (ae_ret_block (ae_ret_then ?_))))
   refine ae_ret hB (Bv false) (by kernel_rfl) (.inl (by first | rfl | (refine congrArg Bv ?_; simp [okFeats, inB, *]; done) | (refine congrArg Bv ?_; simp [okFeats, inB, *]; omega) | (refine congrArg Bv ?_; simp_all [okFeats, inB]; done) | (refine congrArg Bv ?_; simp_all [okFeats, inB]; omega))) rfl (fun _ => trivial)
  have hall : allN list.length (fun j => okF (at_ list j)) = true := allN_at (fun j hj => hall0 j (by omega))
  refine aw_r [(3, .dec false)] [0, 3, 7] [] [slFeat false list, I i, Bv false] [] [¬ (i < (list.length : Int))] hB ⟨h1, trivial⟩ ?_
  refine ae_then ?_
  refine aw_false rfl ?_
  refine aw_exit ?_
  refine ae_exit_then ?_
  refine ae_exit_then ?_
  refine ae_exit_same ?_
  refine ae_then ?_
  refine aR [(2, .call [(true, .any), (true, .any), (true, .any)] true (Bv (inB (list.length : Int) 1 384)))] [2] [] [Bv (inB (list.length : Int) 1 384)] [] [Con Tryz.prog 168 [I (list.length : Int), I 1, I 384] true (Bv (inB (list.length : Int) 1 384)) ∧ True] hB ⟨⟨(l00In_ok (list.length : Int) 1 384), trivial⟩, trivial⟩ ?_
  refine aw_ret ?_
  refine ae_ret hB (Bv (inB (list.length : Int) 1 384)) (by kernel_rfl) (.inl (by first | rfl | (refine congrArg Bv ?_; simp [okFeats, inB, *]; done) | (refine congrArg Bv ?_; simp [okFeats, inB, *]; omega) | (refine congrArg Bv ?_; simp_all [okFeats, inB]; done) | (refine congrArg Bv ?_; simp_all [okFeats, inB]; omega))) rfl (fun _ => trivial)


-- spec.MirrorFeats
theorem specMirrorFeats_ok (list : List Feat) : ∃ (v : List Feat) (c : Int), (v = (mirR list).1) ∧ (c = (mirR list).2) ∧ Con Tryz.prog 32 [slFeat false list] true (.tup [slFeat true v, I c]) := by
  have hh : ∃ r : (List Feat) × Int, ((r.1 = (mirR list).1) ∧ (r.2 = (mirR list).2) ∧ (True)) ∧ CallOK Tryz.prog 32 [slFeat false list] (lookO []) true (.tup [slFeat true r.1, I r.2]) (lookO []) := by
    refine fn_okX (Φ := fun r : (List Feat) × Int => (r.1 = (mirR list).1) ∧ (r.2 = (mirR list).2) ∧ (True)) [] (fun r => []) (fn := Tryz.f32) (nt := 36) Tryz.func32 rfl rfl (args := [slFeat false list]) rfl (allcons (.inl ⟨rfl, tagFeat false _⟩) allnil) (res := fun r => .tup [slFeat true r.1, I r.2]) ?_
    refine xR [] [0] [] [slFeat false list] [] [] trivial ?_
    refine x_seq ?_
    refine x_seq ?_
    rcases Bool.eq_false_or_eq_true (okFeats list 384) with h1 | h1
    ·have hok := h1
     have hfn := okFeats_n hok
     have hst := mir_yes hok
     refine x_r [(1, .call [(true, .any)] true (Bv true))] [0, 9] [] [slFeat false list, Bv false] [] [Con Tryz.prog 99 [slFeat false list] true (Bv true) ∧ True] ⟨⟨(con_bool h1 (l08Ok_ok list)), trivial⟩, trivial⟩ ?_
     refine xe_then ?_
     refine x_false rfl ?_
     refine x_skip ?_
     refine xe_then ?_
     refine xR [(0, .new 10)] [0, 4] [10] [slFeat false list, .arr 10] [some (.arr 3 0 (litF [] 3))] [] trivial ?_
     refine x_seq ?_
     refine xR [] [0, 4, 5] [10] [slFeat false list, .arr 10, I 0] [some (.arr 3 0 (litF [] 3))] [] trivial ?_
     refine x_block ?_
     refine x_weak [] (T := [(0, slFeat false list), (4, .arr 10), (5, I 0)]) (O := [(10, tAFeat ([] : List Feat))]) rfl (⟨.inl rfl, .inl rfl, .inl rfl, trivial⟩) (⟨.inr ⟨rfl, (by first | rfl | (simp; done) | (simp; omega) | omega), fun i_ hi_ => absurd hi_ (Nat.not_lt_zero _)⟩, trivial⟩) ?_
     refine x_loop (X := (List Feat) × Int) (fun x => mkS [(0, slFeat false list), (4, .arr 10), (5, I x.2)] [(10, tAFeat x.1)]) (fun x => (0 ≤ x.2 ∧ x.2 ≤ (list.length : Int)) ∧ (x.1 = (list.take x.2.toNat).map mirF) ∧ True) (fun x => ((list.length : Int) - x.2).toNat) (([] : List Feat), 0) rfl (show (0 ≤ (0 : Int) ∧ (0 : Int) ≤ (list.length : Int)) ∧ (([] : List Feat) = (list.take (0 : Int).toNat).map mirF) ∧ True from ⟨(by omega), (by rfl), trivial⟩) (fun x hI => ?_)
     obtain ⟨out, i⟩ := x
     obtain ⟨hi0, hs0, _⟩ : (0 ≤ i ∧ i ≤ (list.length : Int)) ∧ (out = (list.take i.toNat).map mirF) ∧ True := hI
     show XW _ _ _ _ (mkS [(0, slFeat false list), (4, .arr 10), (5, I i)] [(10, tAFeat out)]) _ _
     refine x_seq ?_
     refine x_seq ?_
     by_cases h2 : i < (list.length : Int)
     ·have hi : i.toNat < list.length := by omega
      have hof := okF_iff.1 (okFeats_at hok hi)
      have hol : out.length = i.toNat := by rw [hs0]; simp; omega
      refine x_r [(3, .dec true)] [0, 4, 5, 14] [10] [slFeat false list, .arr 10, I i, Bv true] [some (tAFeat out)] [i < (list.length : Int)] ⟨h2, trivial⟩ ?_
      refine xe_then ?_
      refine x_true rfl ?_
      refine x_skip ?_
      refine xe_then ?_
      refine x_seq ?_
      refine x_block ?_
      refine xR [(4, .new 6)] [0, 4, 5, 6] [6, 10] [slFeat false list, .arr 10, I i, .ref 6 0] [some (bxFeat (at_ list i.toNat)), some (tAFeat out)] [(0 : Int) ≤ i ∧ i < (list.length : Int)] ⟨⟨(by omega), (by omega)⟩, trivial⟩ ?_
      refine x_r [(10, .nn), (12, .new 33), (13, .new 34)] [0, 4, 5] [34] [slFeat false list, .arr 34, I i] [some (.arr 3 (out.length + 1) (catF out.length (fFeat out) (litF [I (255 - ((at_ list i.toNat).X)), I ((at_ list i.toNat).Y), I (((4 - ((at_ list i.toNat).D)) + 8) % 8)] 3)))] [inR .i64 (255 - ((at_ list i.toNat).X)), inR .i64 (4 - ((at_ list i.toNat).D)), inR .i64 ((4 - ((at_ list i.toNat).D)) + 8), (0 : Int) ≤ ((4 - ((at_ list i.toNat).D)) + 8) ∧ (0 : Int) < 8, (out.length + 1) * 24 ≤ 140737488355328] ⟨(inR_i64 (by omega) (by omega)), (inR_i64 (by omega) (by omega)), (inR_i64 (by omega) (by omega)), ⟨(by omega), (by omega)⟩, (by omega), trivial⟩ ?_
      refine xe_block 1 ?_
      refine xe_then ?_
      refine x_r [] [0, 4, 5] [34] [slFeat false list, .arr 34, I (i + 1)] [some (.arr 3 (out.length + 1) (catF out.length (fFeat out) (litF [I (255 - ((at_ list i.toNat).X)), I ((at_ list i.toNat).Y), I (((4 - ((at_ list i.toNat).D)) + 8) % 8)] 3)))] [inR .i64 (i + 1)] ⟨(inR_i64 (by omega) (by omega)), trivial⟩ ?_
      refine xe_weak [(10, 34)] (T := [(0, slFeat false list), (4, .arr 10), (5, I (i + 1))]) (O := [(10, tAFeat (out ++ [(Feat.mk (255 - ((at_ list i.toNat).X)) ((at_ list i.toNat).Y) (((4 - ((at_ list i.toNat).D)) + 8) % 8))]))]) rfl (⟨.inl rfl, .inl rfl, .inl rfl, trivial⟩) (⟨.inr ⟨rfl, (by first | rfl | (simp; done) | (simp; omega) | omega), fun i_ hi_ => .inl (cat_snoc (enc := cFeat) (xs := out) rfl i_ hi_)⟩, trivial⟩) (xe_again ((out ++ [(Feat.mk (255 - ((at_ list i.toNat).X)) ((at_ list i.toNat).Y) (((4 - ((at_ list i.toNat).D)) + 8) % 8))]), (i + 1)) rfl (show (0 ≤ (i + 1) ∧ (i + 1) ≤ (list.length : Int)) ∧ ((out ++ [(Feat.mk (255 - ((at_ list i.toNat).X)) ((at_ list i.toNat).Y) (((4 - ((at_ list i.toNat).D)) + 8) % 8))]) = (list.take (i + 1).toNat).map mirF) ∧ True from ⟨(by omega), (by rw [hs0]; exact (mapTake_succ (by omega) hi rfl).symm), trivial⟩) (by first | (show (((list.length : Int) - (i + 1)).toNat : Nat) < ((list.length : Int) - i).toNat; omega) | (dsimp only; omega)))
     have hfin : out = list.map mirF := by rw [hs0]; exact map_all (by omega)
     refine x_r [(3, .dec false)] [0, 4, 5, 14] [10] [slFeat false list, .arr 10, I i, Bv false] [some (tAFeat out)] [¬ (i < (list.length : Int))] ⟨h2, trivial⟩ ?_
     refine xe_then ?_
     refine x_false rfl ?_
     refine x_exit ?_
     refine xe_exit_then ?_
     refine xe_loop_exit ?_
     refine xe_exit_same ?_
     refine xe_then ?_
     refine xR [] [2, 3] [10] [.arr 10, I 0] [some (tAFeat out)] [] trivial ?_
     refine x_ret ?_
     refine xe_end (out, 0) (show (out = (mirR list).1) ∧ (0 = (mirR list).2) ∧ (True) from ⟨(by first | (rw [hst]; done) | (rw [hst, hfin]; done) | (rw [hst]; exact hfin) | rfl), (by first | (rw [hst]; done) | (rw [hst, hfin]; done) | (rw [hst]; exact hfin) | rfl), trivial⟩) (trivial) (.tup [.arr 10, I 0]) (by kernel_rfl) (.inr ⟨⟨(fun _ => rfl), rfl, rfl, fun i _ => .inl rfl⟩, ⟨rfl, rfl⟩⟩) (fun _ => rfl) (fun _ => (by simp [tagged, taggedL, tagFeat]))
    have hst := mir_no h1
    refine x_r [(1, .call [(true, .any)] true (Bv false))] [0, 9] [] [slFeat false list, Bv true] [] [Con Tryz.prog 99 [slFeat false list] true (Bv false) ∧ True] ⟨⟨(con_bool h1 (l08Ok_ok list)), trivial⟩, trivial⟩ ?_
    refine xe_then ?_
    refine x_true rfl ?_
    refine xR [] [2, 3] [] [nilA, I 1] [] [] trivial ?_
    refine x_ret ?_
    refine xe_ret_then ?_
    refine xe_end (([] : List Feat), 1) (show (([] : List Feat) = (mirR list).1) ∧ (1 = (mirR list).2) ∧ (True) from ⟨(by first | (rw [hst]; done) | (rw [hst, hfin]; done) | (rw [hst]; exact hfin) | rfl), (by first | (rw [hst]; done) | (rw [hst, hfin]; done) | (rw [hst]; exact hfin) | rfl), trivial⟩) (trivial) (.tup [nilA, I 1]) (by kernel_rfl) (.inr ⟨⟨rfl, rfl⟩, ⟨rfl, rfl⟩⟩) (fun _ => rfl) (fun _ => (by simp [tagged, taggedL, tagFeat]))
  obtain ⟨⟨v, c⟩, ⟨hh0, hh1, _⟩, hc⟩ := hh
  exact ⟨v, c, hh0, hh1, hc⟩


-- impl.BackFeats
theorem implBackFeats_ok (list : List Feat) : ∃ (v : List Feat) (c : Int), (v = (bckR list).1) ∧ (c = (bckR list).2) ∧ Con Tryz.prog 33 [slFeat false list] true (.tup [slFeat true v, I c]) := by
  have hh : ∃ r : (List Feat) × Int, ((r.1 = (bckR list).1) ∧ (r.2 = (bckR list).2) ∧ (True)) ∧ CallOK Tryz.prog 33 [slFeat false list] (lookO []) true (.tup [slFeat true r.1, I r.2]) (lookO []) := by
    refine fn_okX (Φ := fun r : (List Feat) × Int => (r.1 = (bckR list).1) ∧ (r.2 = (bckR list).2) ∧ (True)) [] (fun r => []) (fn := Tryz.f33) (nt := 34) Tryz.func33 rfl rfl (args := [slFeat false list]) rfl (allcons (.inl ⟨rfl, tagFeat false _⟩) allnil) (res := fun r => .tup [slFeat true r.1, I r.2]) ?_
    refine xR [] [0] [] [slFeat false list] [] [] trivial ?_
    refine x_seq ?_
    refine x_seq ?_
    rcases Bool.eq_false_or_eq_true (okFeats list 384) with h1 | h1
    ·have hok := h1
     have hfn := okFeats_n hok
     have hst := bck_yes hok
     refine x_r [(1, .call [(true, .any)] true (Bv true))] [0, 9] [] [slFeat false list, Bv false] [] [Con Tryz.prog 98 [slFeat false list] true (Bv true) ∧ True] ⟨⟨(con_bool h1 (ValidFeats_ok list)), trivial⟩, trivial⟩ ?_
     refine xe_then ?_
     refine x_false rfl ?_
     refine x_skip ?_
     refine xe_then ?_
     refine xR [] [0, 4] [] [slFeat false list, nilA] [] [] trivial ?_
     refine x_seq ?_
     refine xR [] [0, 4, 5] [] [slFeat false list, nilA, I ((list.length : Int) - 1)] [] [inR .i64 ((list.length : Int) - 1)] ⟨(inR_i64 (by omega) (by omega)), trivial⟩ ?_
     refine x_block ?_
     refine x_nil 4 704 3 (fun _ => []) (by kernel_rfl) ?_
     refine x_weak [] (T := [(0, slFeat false list), (4, .arr 704), (5, I ((list.length : Int) - 1))]) (O := [(704, tAFeat ([] : List Feat))]) rfl (⟨.inl rfl, .inl rfl, .inl rfl, trivial⟩) (⟨.inr ⟨rfl, (by first | rfl | (simp; done) | (simp; omega) | omega), fun i_ hi_ => absurd hi_ (Nat.not_lt_zero _)⟩, trivial⟩) ?_
     refine x_loop (X := (List Feat) × Int) (fun x => mkS [(0, slFeat false list), (4, .arr 704), (5, I x.2)] [(704, tAFeat x.1)]) (fun x => (-1 ≤ x.2 ∧ x.2 < (list.length : Int)) ∧ (x.1 = revT bckF list (x.2 + 1).toNat) ∧ True) (fun x => (x.2 + 1).toNat) (([] : List Feat), ((list.length : Int) - 1)) rfl (show (-1 ≤ ((list.length : Int) - 1) ∧ ((list.length : Int) - 1) < (list.length : Int)) ∧ (([] : List Feat) = revT bckF list (((list.length : Int) - 1) + 1).toNat) ∧ True from ⟨(by omega), (by exact (revT_nil (by omega)).symm), trivial⟩) (fun x hI => ?_)
     obtain ⟨out, k⟩ := x
     obtain ⟨hi0, hs0, _⟩ : (-1 ≤ k ∧ k < (list.length : Int)) ∧ (out = revT bckF list (k + 1).toNat) ∧ True := hI
     show XW _ _ _ _ (mkS [(0, slFeat false list), (4, .arr 704), (5, I k)] [(704, tAFeat out)]) _ _
     refine x_seq ?_
     refine x_seq ?_
     by_cases h2 : 0 ≤ k
     ·have hi : k.toNat < list.length := by omega
      have hof := okF_iff.1 (okFeats_at hok hi)
      have hol : out.length ≤ list.length := by rw [hs0]; simp [revT]
      have hrv := revT_step (f := bckF) hi
      have hk1 : (k + 1).toNat = k.toNat + 1 := by omega
      refine x_r [(1, .dec true)] [0, 4, 5, 14] [704] [slFeat false list, .arr 704, I k, Bv true] [some (tAFeat out)] [0 ≤ k] ⟨h2, trivial⟩ ?_
      refine xe_then ?_
      refine x_true rfl ?_
      refine x_skip ?_
      refine xe_then ?_
      refine x_seq ?_
      refine x_block ?_
      refine xR [(4, .new 6)] [0, 4, 5, 6] [6, 704] [slFeat false list, .arr 704, I k, .ref 6 0] [some (bxFeat (at_ list k.toNat)), some (tAFeat out)] [(0 : Int) ≤ k ∧ k < (list.length : Int)] ⟨⟨(by omega), (by omega)⟩, trivial⟩ ?_
      refine x_r [(8, .nn), (10, .new 31), (11, .new 32)] [0, 4, 5] [32] [slFeat false list, .arr 32, I k] [some (.arr 3 (out.length + 1) (catF out.length (fFeat out) (litF [I ((at_ list k.toNat).X), I ((at_ list k.toNat).Y), I ((((at_ list k.toNat).D) + 4) % 8)] 3)))] [inR .i64 (((at_ list k.toNat).D) + 4), (0 : Int) ≤ (((at_ list k.toNat).D) + 4) ∧ (0 : Int) < 8, (out.length + 1) * 24 ≤ 140737488355328] ⟨(inR_i64 (by omega) (by omega)), ⟨(by omega), (by omega)⟩, (by omega), trivial⟩ ?_
      refine xe_block 1 ?_
      refine xe_then ?_
      refine x_r [] [0, 4, 5] [32] [slFeat false list, .arr 32, I (k - 1)] [some (.arr 3 (out.length + 1) (catF out.length (fFeat out) (litF [I ((at_ list k.toNat).X), I ((at_ list k.toNat).Y), I ((((at_ list k.toNat).D) + 4) % 8)] 3)))] [inR .i64 (k - 1)] ⟨(inR_i64 (by omega) (by omega)), trivial⟩ ?_
      refine xe_weak [(704, 32)] (T := [(0, slFeat false list), (4, .arr 704), (5, I (k - 1))]) (O := [(704, tAFeat (out ++ [(Feat.mk ((at_ list k.toNat).X) ((at_ list k.toNat).Y) ((((at_ list k.toNat).D) + 4) % 8))]))]) rfl (⟨.inl rfl, .inl rfl, .inl rfl, trivial⟩) (⟨.inr ⟨rfl, (by first | rfl | (simp; done) | (simp; omega) | omega), fun i_ hi_ => .inl (cat_snoc (enc := cFeat) (xs := out) rfl i_ hi_)⟩, trivial⟩) (xe_again ((out ++ [(Feat.mk ((at_ list k.toNat).X) ((at_ list k.toNat).Y) ((((at_ list k.toNat).D) + 4) % 8))]), (k - 1)) rfl (show (-1 ≤ (k - 1) ∧ (k - 1) < (list.length : Int)) ∧ ((out ++ [(Feat.mk ((at_ list k.toNat).X) ((at_ list k.toNat).Y) ((((at_ list k.toNat).D) + 4) % 8))]) = revT bckF list ((k - 1) + 1).toNat) ∧ True from ⟨(by omega), (by rw [show (k - 1 + 1).toNat = k.toNat from by omega, hrv, hs0, hk1]; rfl), trivial⟩) (by first | (show (((k - 1) + 1).toNat : Nat) < (k + 1).toNat; omega) | (dsimp only; omega)))
     have hk0 : (k + 1).toNat = 0 := by omega
     have hfin : out = (list.map bckF).reverse := by rw [hs0, hk0]; rfl
     refine x_r [(1, .dec false)] [0, 4, 5, 14] [704] [slFeat false list, .arr 704, I k, Bv false] [some (tAFeat out)] [¬ (0 ≤ k)] ⟨h2, trivial⟩ ?_
     refine xe_then ?_
     refine x_false rfl ?_
     refine x_exit ?_
     refine xe_exit_then ?_
     refine xe_loop_exit ?_
     refine xe_exit_same ?_
     refine xe_then ?_
     refine xR [] [2, 3] [704] [.arr 704, I 0] [some (tAFeat out)] [] trivial ?_
     refine x_ret ?_
     refine xe_end (out, 0) (show (out = (bckR list).1) ∧ (0 = (bckR list).2) ∧ (True) from ⟨(by first | (rw [hst]; done) | (rw [hst, hfin]; done) | (rw [hst]; exact hfin) | rfl), (by first | (rw [hst]; done) | (rw [hst, hfin]; done) | (rw [hst]; exact hfin) | rfl), trivial⟩) (trivial) (.tup [.arr 704, I 0]) (by kernel_rfl) (.inr ⟨⟨(fun _ => rfl), rfl, rfl, fun i _ => .inl rfl⟩, ⟨rfl, rfl⟩⟩) (fun _ => rfl) (fun _ => (by simp [tagged, taggedL, tagFeat]))
    have hst := bck_no h1
    refine x_r [(1, .call [(true, .any)] true (Bv false))] [0, 9] [] [slFeat false list, Bv true] [] [Con Tryz.prog 98 [slFeat false list] true (Bv false) ∧ True] ⟨⟨(con_bool h1 (ValidFeats_ok list)), trivial⟩, trivial⟩ ?_
    refine xe_then ?_
    refine x_true rfl ?_
    refine xR [] [2, 3] [] [nilA, I 1] [] [] trivial ?_
    refine x_ret ?_
    refine xe_ret_then ?_
    refine xe_end (([] : List Feat), 1) (show (([] : List Feat) = (bckR list).1) ∧ (1 = (bckR list).2) ∧ (True) from ⟨(by first | (rw [hst]; done) | (rw [hst, hfin]; done) | (rw [hst]; exact hfin) | rfl), (by first | (rw [hst]; done) | (rw [hst, hfin]; done) | (rw [hst]; exact hfin) | rfl), trivial⟩) (trivial) (.tup [nilA, I 1]) (by kernel_rfl) (.inr ⟨⟨rfl, rfl⟩, ⟨rfl, rfl⟩⟩) (fun _ => rfl) (fun _ => (by simp [tagged, taggedL, tagFeat]))
  obtain ⟨⟨v, c⟩, ⟨hh0, hh1, _⟩, hc⟩ := hh
  exact ⟨v, c, hh0, hh1, hc⟩


-- spec.BackFeats
theorem specBackFeats_ok (list : List Feat) : ∃ (v : List Feat) (c : Int), (v = (bckR list).1) ∧ (c = (bckR list).2) ∧ Con Tryz.prog 34 [slFeat false list] true (.tup [slFeat true v, I c]) := by
  have hh : ∃ r : (List Feat) × Int, ((r.1 = (bckR list).1) ∧ (r.2 = (bckR list).2) ∧ (True)) ∧ CallOK Tryz.prog 34 [slFeat false list] (lookO []) true (.tup [slFeat true r.1, I r.2]) (lookO []) := by
    refine fn_okX (Φ := fun r : (List Feat) × Int => (r.1 = (bckR list).1) ∧ (r.2 = (bckR list).2) ∧ (True)) [] (fun r => []) (fn := Tryz.f34) (nt := 35) Tryz.func34 rfl rfl (args := [slFeat false list]) rfl (allcons (.inl ⟨rfl, tagFeat false _⟩) allnil) (res := fun r => .tup [slFeat true r.1, I r.2]) ?_
    refine xR [] [0] [] [slFeat false list] [] [] trivial ?_
    refine x_seq ?_
    refine x_seq ?_
    rcases Bool.eq_false_or_eq_true (okFeats list 384) with h1 | h1
    ·have hok := h1
     have hfn := okFeats_n hok
     have hst := bck_yes hok
     refine x_r [(1, .call [(true, .any)] true (Bv true))] [0, 9] [] [slFeat false list, Bv false] [] [Con Tryz.prog 99 [slFeat false list] true (Bv true) ∧ True] ⟨⟨(con_bool h1 (l08Ok_ok list)), trivial⟩, trivial⟩ ?_
     refine xe_then ?_
     refine x_false rfl ?_
     refine x_skip ?_
     refine xe_then ?_
     refine xR [(0, .new 10)] [0, 4] [10] [slFeat false list, .arr 10] [some (.arr 3 0 (litF [] 3))] [] trivial ?_
     refine x_seq ?_
     refine xR [] [0, 4, 5] [10] [slFeat false list, .arr 10, I ((list.length : Int) - 1)] [some (.arr 3 0 (litF [] 3))] [inR .i64 ((list.length : Int) - 1)] ⟨(inR_i64 (by omega) (by omega)), trivial⟩ ?_
     refine x_block ?_
     refine x_weak [] (T := [(0, slFeat false list), (4, .arr 10), (5, I ((list.length : Int) - 1))]) (O := [(10, tAFeat ([] : List Feat))]) rfl (⟨.inl rfl, .inl rfl, .inl rfl, trivial⟩) (⟨.inr ⟨rfl, (by first | rfl | (simp; done) | (simp; omega) | omega), fun i_ hi_ => absurd hi_ (Nat.not_lt_zero _)⟩, trivial⟩) ?_
     refine x_loop (X := (List Feat) × Int) (fun x => mkS [(0, slFeat false list), (4, .arr 10), (5, I x.2)] [(10, tAFeat x.1)]) (fun x => (-1 ≤ x.2 ∧ x.2 < (list.length : Int)) ∧ (x.1 = revT bckF list (x.2 + 1).toNat) ∧ True) (fun x => (x.2 + 1).toNat) (([] : List Feat), ((list.length : Int) - 1)) rfl (show (-1 ≤ ((list.length : Int) - 1) ∧ ((list.length : Int) - 1) < (list.length : Int)) ∧ (([] : List Feat) = revT bckF list (((list.length : Int) - 1) + 1).toNat) ∧ True from ⟨(by omega), (by exact (revT_nil (by omega)).symm), trivial⟩) (fun x hI => ?_)
     obtain ⟨out, i⟩ := x
     obtain ⟨hi0, hs0, _⟩ : (-1 ≤ i ∧ i < (list.length : Int)) ∧ (out = revT bckF list (i + 1).toNat) ∧ True := hI
     show XW _ _ _ _ (mkS [(0, slFeat false list), (4, .arr 10), (5, I i)] [(10, tAFeat out)]) _ _
     refine x_seq ?_
     refine x_seq ?_
     by_cases h2 : 0 ≤ i
     ·have hi : i.toNat < list.length := by omega
      have hof := okF_iff.1 (okFeats_at hok hi)
      have hol : out.length ≤ list.length := by rw [hs0]; simp [revT]
      have hrv := revT_step (f := bckF) hi
      have hk1 : (i + 1).toNat = i.toNat + 1 := by omega
      refine x_r [(1, .dec true)] [0, 4, 5, 15] [10] [slFeat false list, .arr 10, I i, Bv true] [some (tAFeat out)] [0 ≤ i] ⟨h2, trivial⟩ ?_
      refine xe_then ?_
      refine x_true rfl ?_
      refine x_skip ?_
      refine xe_then ?_
      refine x_seq ?_
      refine x_block ?_
      refine xR [(4, .new 6)] [0, 4, 5, 6] [6, 10] [slFeat false list, .arr 10, I i, .ref 6 0] [some (bxFeat (at_ list i.toNat)), some (tAFeat out)] [(0 : Int) ≤ i ∧ i < (list.length : Int)] ⟨⟨(by omega), (by omega)⟩, trivial⟩ ?_
      refine x_r [(8, .nn), (10, .new 32), (11, .new 33)] [0, 4, 5] [33] [slFeat false list, .arr 33, I i] [some (.arr 3 (out.length + 1) (catF out.length (fFeat out) (litF [I ((at_ list i.toNat).X), I ((at_ list i.toNat).Y), I ((((at_ list i.toNat).D) + 4) % 8)] 3)))] [inR .i64 (((at_ list i.toNat).D) + 4), (0 : Int) ≤ (((at_ list i.toNat).D) + 4) ∧ (0 : Int) < 8, (out.length + 1) * 24 ≤ 140737488355328] ⟨(inR_i64 (by omega) (by omega)), ⟨(by omega), (by omega)⟩, (by omega), trivial⟩ ?_
      refine xe_block 1 ?_
      refine xe_then ?_
      refine x_r [] [0, 4, 5] [33] [slFeat false list, .arr 33, I (i - 1)] [some (.arr 3 (out.length + 1) (catF out.length (fFeat out) (litF [I ((at_ list i.toNat).X), I ((at_ list i.toNat).Y), I ((((at_ list i.toNat).D) + 4) % 8)] 3)))] [inR .i64 (i - 1)] ⟨(inR_i64 (by omega) (by omega)), trivial⟩ ?_
      refine xe_weak [(10, 33)] (T := [(0, slFeat false list), (4, .arr 10), (5, I (i - 1))]) (O := [(10, tAFeat (out ++ [(Feat.mk ((at_ list i.toNat).X) ((at_ list i.toNat).Y) ((((at_ list i.toNat).D) + 4) % 8))]))]) rfl (⟨.inl rfl, .inl rfl, .inl rfl, trivial⟩) (⟨.inr ⟨rfl, (by first | rfl | (simp; done) | (simp; omega) | omega), fun i_ hi_ => .inl (cat_snoc (enc := cFeat) (xs := out) rfl i_ hi_)⟩, trivial⟩) (xe_again ((out ++ [(Feat.mk ((at_ list i.toNat).X) ((at_ list i.toNat).Y) ((((at_ list i.toNat).D) + 4) % 8))]), (i - 1)) rfl (show (-1 ≤ (i - 1) ∧ (i - 1) < (list.length : Int)) ∧ ((out ++ [(Feat.mk ((at_ list i.toNat).X) ((at_ list i.toNat).Y) ((((at_ list i.toNat).D) + 4) % 8))]) = revT bckF list ((i - 1) + 1).toNat) ∧ True from ⟨(by omega), (by rw [show (i - 1 + 1).toNat = i.toNat from by omega, hrv, hs0, hk1]; rfl), trivial⟩) (by first | (show (((i - 1) + 1).toNat : Nat) < (i + 1).toNat; omega) | (dsimp only; omega)))
     have hk0 : (i + 1).toNat = 0 := by omega
     have hfin : out = (list.map bckF).reverse := by rw [hs0, hk0]; rfl
     refine x_r [(1, .dec false)] [0, 4, 5, 15] [10] [slFeat false list, .arr 10, I i, Bv false] [some (tAFeat out)] [¬ (0 ≤ i)] ⟨h2, trivial⟩ ?_
     refine xe_then ?_
     refine x_false rfl ?_
     refine x_exit ?_
     refine xe_exit_then ?_
     refine xe_loop_exit ?_
     refine xe_exit_same ?_
     refine xe_then ?_
     refine xR [] [2, 3] [10] [.arr 10, I 0] [some (tAFeat out)] [] trivial ?_
     refine x_ret ?_
     refine xe_end (out, 0) (show (out = (bckR list).1) ∧ (0 = (bckR list).2) ∧ (True) from ⟨(by first | (rw [hst]; done) | (rw [hst, hfin]; done) | (rw [hst]; exact hfin) | rfl), (by first | (rw [hst]; done) | (rw [hst, hfin]; done) | (rw [hst]; exact hfin) | rfl), trivial⟩) (trivial) (.tup [.arr 10, I 0]) (by kernel_rfl) (.inr ⟨⟨(fun _ => rfl), rfl, rfl, fun i _ => .inl rfl⟩, ⟨rfl, rfl⟩⟩) (fun _ => rfl) (fun _ => (by simp [tagged, taggedL, tagFeat]))
    have hst := bck_no h1
    refine x_r [(1, .call [(true, .any)] true (Bv false))] [0, 9] [] [slFeat false list, Bv true] [] [Con Tryz.prog 99 [slFeat false list] true (Bv false) ∧ True] ⟨⟨(con_bool h1 (l08Ok_ok list)), trivial⟩, trivial⟩ ?_
    refine xe_then ?_
    refine x_true rfl ?_
    refine xR [] [2, 3] [] [nilA, I 1] [] [] trivial ?_
    refine x_ret ?_
    refine xe_ret_then ?_
    refine xe_end (([] : List Feat), 1) (show (([] : List Feat) = (bckR list).1) ∧ (1 = (bckR list).2) ∧ (True) from ⟨(by first | (rw [hst]; done) | (rw [hst, hfin]; done) | (rw [hst]; exact hfin) | rfl), (by first | (rw [hst]; done) | (rw [hst, hfin]; done) | (rw [hst]; exact hfin) | rfl), trivial⟩) (trivial) (.tup [nilA, I 1]) (by kernel_rfl) (.inr ⟨⟨rfl, rfl⟩, ⟨rfl, rfl⟩⟩) (fun _ => rfl) (fun _ => (by simp [tagged, taggedL, tagFeat]))
  obtain ⟨⟨v, c⟩, ⟨hh0, hh1, _⟩, hc⟩ := hh
  exact ⟨v, c, hh0, hh1, hc⟩


theorem down_spec (n : Int) {d : Int} (hd : 0 < d) : (Int.tmod n d < 0 → Int.tdiv n d - 1 = n / d) ∧ (¬ Int.tmod n d < 0 → Int.tdiv n d = n / d) := by
  have h1 := Int.mul_tdiv_add_tmod n d
  have h2 := Int.tmod_lt_of_pos n hd
  have h3 := Int.lt_tmod_of_pos n hd
  generalize Int.tdiv n d = q at *
  generalize Int.tmod n d = r at *
  subst h1
  constructor
  · intro h
    have e : d * q + r = (r + d) + d * (q - 1) := by rw [Int.mul_sub, Int.mul_one]; omega
    rw [e, Int.add_mul_ediv_left _ _ (by omega), Int.ediv_eq_zero_of_lt (by omega) (by omega)]; omega
  · intro h
    rw [Int.add_comm, Int.add_mul_ediv_left _ _ (by omega), Int.ediv_eq_zero_of_lt (by omega) (by omega)]; omega
theorem quo_bd {n r : Int} (h : 0 ≤ n) (hr : 0 < r) : 0 ≤ n / r ∧ n / r ≤ n := ⟨Int.ediv_nonneg h (by omega), Int.ediv_le_self _ h⟩
theorem tdiv_bd (n d : Int) : ((Int.tdiv n d).natAbs : Int) ≤ (n.natAbs : Int) := by
  rw [Int.natAbs_tdiv]
  exact Int.ofNat_le.2 (Nat.div_le_self _ _)

/-- The integer nearest to a quotient by a positive number, halves up. -/
def nearI (n d : Int) : Int := (2 * n + d) / (2 * d)
theorem near_spec (n : Int) {d : Int} (hd : 0 < d) : (d - (n - n / d * d) ≤ n - n / d * d → n / d + 1 = nearI n d) ∧ (¬ d - (n - n / d * d) ≤ n - n / d * d → n / d = nearI n d) := by
  have h1 := Int.mul_ediv_add_emod n d
  have h2 := Int.emod_nonneg n (b := d) (by omega)
  have h3 := Int.emod_lt_of_pos n hd
  unfold nearI
  generalize n / d = q at *
  generalize n % d = r at *
  have e0 : q * d = d * q := Int.mul_comm _ _
  have e3 : 2 * d * q = 2 * (d * q) := Int.mul_assoc _ _ _
  constructor
  · intro h
    have e : 2 * n + d = (2 * r - d) + 2 * d * (q + 1) := by rw [Int.mul_add, e3]; omega
    rw [e, Int.add_mul_ediv_left _ _ (by omega), Int.ediv_eq_zero_of_lt (by omega) (by omega)]; omega
  · intro h
    have e : 2 * n + d = (2 * r + d) + 2 * d * q := by rw [e3]; omega
    rw [e, Int.add_mul_ediv_left _ _ (by omega), Int.ediv_eq_zero_of_lt (by omega) (by omega)]; omega
theorem rest_bd (n : Int) {d : Int} (hd : 0 < d) : 0 ≤ n - n / d * d ∧ n - n / d * d < d := by
  have h1 := Int.mul_ediv_add_emod n d
  have h2 := Int.emod_nonneg n (b := d) (by omega)
  have h3 := Int.emod_lt_of_pos n hd
  rw [Int.mul_comm] at h1
  omega
theorem ediv_bd (n : Int) {d : Int} (hd : 0 < d) : -(n.natAbs : Int) ≤ n / d ∧ n / d ≤ (n.natAbs : Int) := by
  constructor
  · rw [Int.le_ediv_iff_mul_le hd]
    have : (n.natAbs : Int) * 1 ≤ (n.natAbs : Int) * d := Int.mul_le_mul_of_nonneg_left (by omega) (by omega)
    rw [Int.neg_mul]; omega
  · have h1 : (n.natAbs : Int) * 1 ≤ (n.natAbs : Int) * d := Int.mul_le_mul_of_nonneg_left (by omega) (by omega)
    have b : n / d < (n.natAbs : Int) + 1 := Int.ediv_lt_of_lt_mul hd (by rw [Int.add_mul, Int.one_mul]; omega)
    omega
theorem near_between {x r d : Int} (hd : 0 < d) (h0 : 0 ≤ r) (h1 : r ≤ d) : (0 ≤ x → 0 ≤ nearI (x * r) d ∧ nearI (x * r) d ≤ x) ∧ (x ≤ 0 → x ≤ nearI (x * r) d ∧ nearI (x * r) d ≤ 0) := by
  unfold nearI
  constructor
  · intro hx
    have a1 : x * r ≤ x * d := Int.mul_le_mul_of_nonneg_left h1 hx
    have a2 : 0 ≤ x * r := Int.mul_nonneg hx h0
    have e : (x + 1) * (2 * d) = 2 * (x * d) + 2 * d := by rw [Int.add_mul, Int.one_mul, Int.mul_left_comm]
    have b : (2 * (x * r) + d) / (2 * d) < x + 1 := Int.ediv_lt_of_lt_mul (by omega) (by rw [e]; omega)
    exact ⟨Int.ediv_nonneg (by omega) (by omega), by omega⟩
  · intro hx
    have a1 : x * d ≤ x * r := Int.mul_le_mul_of_nonpos_left hx h1
    have a2 : x * r ≤ 0 := Int.mul_nonpos_of_nonpos_of_nonneg hx h0
    have e : x * (2 * d) = 2 * (x * d) := Int.mul_left_comm _ _ _
    have b : (2 * (x * r) + d) / (2 * d) < 0 + 1 := Int.ediv_lt_of_lt_mul (by omega) (by omega)
    exact ⟨Int.le_ediv_of_mul_le (by omega) (by rw [e]; omega), by omega⟩
theorem near_zero {x d : Int} (hd : 0 < d) : nearI (x * 0) d = 0 := by
  have := near_between (x := x) hd (Int.le_refl 0) (by omega)
  simp only [nearI, Int.mul_zero, Int.zero_add]
  exact Int.ediv_eq_zero_of_lt (by omega) (by omega)
theorem near_full {x d : Int} (hd : 0 < d) : nearI (x * d) d = x := by
  have e : 2 * (x * d) + d = d + 2 * d * x := by rw [Int.mul_comm x d, Int.mul_assoc]; omega
  rw [nearI, e, Int.add_mul_ediv_left _ _ (by omega), Int.ediv_eq_zero_of_lt (by omega) (by omega)]; omega
theorem mulP_bd {x y A B : Int} (h0 : 0 ≤ x) (h1 : x ≤ A) (h2 : 0 ≤ y) (h3 : y ≤ B) : 0 ≤ x * y ∧ x * y ≤ A * B :=
  ⟨Int.mul_nonneg h0 h2, Int.mul_le_mul h1 h3 h2 (by omega)⟩
theorem mulS_bd {x y A B : Int} (h0 : -A ≤ x) (h1 : x ≤ A) (h2 : 0 ≤ y) (h3 : y ≤ B) : -(A * B) ≤ x * y ∧ x * y ≤ A * B := by
  rcases Int.le_total 0 x with h | h
  · have := mulP_bd h h1 h2 h3; omega
  · have := mulP_bd (x := -x) (by omega) (by omega : -x ≤ A) h2 h3
    rw [Int.neg_mul] at this; omega

/-- How many of the first k features have each direction. -/
def dirC (fs : List Feat) : Nat → List Int
  | 0 => [0, 0, 0, 0, 0, 0, 0, 0]
  | k + 1 => (dirC fs k).set (at_ fs k).D.toNat (at_ (dirC fs k) (at_ fs k).D.toNat + 1)
theorem dirC_len (fs : List Feat) : ∀ k, (dirC fs k).length = 8
  | 0 => rfl
  | k + 1 => by simp only [dirC, List.length_set]; exact dirC_len fs k
theorem dirC_1 {fs : List Feat} {k : Int} (h : 0 ≤ k) : dirC fs (k + 1).toNat = (dirC fs k.toNat).set (at_ fs k.toNat).D.toNat (at_ (dirC fs k.toNat) (at_ fs k.toNat).D.toNat + 1) := by
  have : (k + 1).toNat = k.toNat + 1 := by omega
  rw [this]; rfl
theorem at_setD {xs : List Int} {i j : Nat} {y : Int} (hi : i < xs.length) : at_ (xs.set i y) j = if i = j then y else at_ xs j := by
  by_cases h : i = j
  · subst h; simp [at_, hi]
  · simp [at_, List.getElem?_set, h]
theorem dirC_bd (fs : List Feat) (h : ∀ j, j < fs.length → okF (at_ fs j) = true) : ∀ k, k ≤ fs.length → ∀ j, 0 ≤ at_ (dirC fs k) j ∧ at_ (dirC fs k) j ≤ (k : Int)
  | 0, _, j => by
    have e : dirC fs 0 = [0, 0, 0, 0, 0, 0, 0, 0] := rfl
    rw [e]
    match j with
    | 0 | 1 | 2 | 3 | 4 | 5 | 6 | 7 => exact ⟨by decide, by decide⟩
    | n + 8 => simp [at_]
  | k + 1, hk, j => by
    have q1 := dirC_bd fs h k (by omega) j
    have q2 := dirC_bd fs h k (by omega) (at_ fs k).D.toNat
    have q3 := okF_iff.1 (h k (by omega))
    show 0 ≤ at_ ((dirC fs k).set (at_ fs k).D.toNat (at_ (dirC fs k) (at_ fs k).D.toNat + 1)) j ∧ at_ ((dirC fs k).set (at_ fs k).D.toNat (at_ (dirC fs k) (at_ fs k).D.toNat + 1)) j ≤ _
    rw [at_setD (by rw [dirC_len]; omega)]
    split <;> constructor <;> omega
def dirR (l : List Feat) : List Int × Int := if okFeats l 384 = true then (dirC l l.length, 0) else ([], 1)
theorem dir_yes {l : List Feat} (h : okFeats l 384 = true) : dirR l = (dirC l l.length, 0) := if_pos h
theorem dir_no {l : List Feat} (h : okFeats l 384 = false) : dirR l = ([], 1) := by simp [dirR, h]
def sumF (f : Feat → Int) (fs : List Feat) : Nat → Int
  | 0 => 0
  | k + 1 => sumF f fs k + f (at_ fs k)
theorem sumF_1 {f : Feat → Int} {fs : List Feat} {k : Int} (h : 0 ≤ k) : sumF f fs (k + 1).toNat = sumF f fs k.toNat + f (at_ fs k.toNat) := by
  have : (k + 1).toNat = k.toNat + 1 := by omega
  rw [this]; rfl
theorem sumF_bd {f : Feat → Int} {fs : List Feat} (h : ∀ j, j < fs.length → 0 ≤ f (at_ fs j) ∧ f (at_ fs j) ≤ 255) : ∀ k, k ≤ fs.length → 0 ≤ sumF f fs k ∧ sumF f fs k ≤ 255 * (k : Int)
  | 0, _ => ⟨Int.le_refl _, by show (0 : Int) ≤ 255 * ((0 : Nat) : Int); decide⟩
  | k + 1, hk => by
    have q1 := sumF_bd h k (by omega)
    have q2 := h k (by omega)
    show 0 ≤ sumF f fs k + f (at_ fs k) ∧ sumF f fs k + f (at_ fs k) ≤ _
    omega

-- impl.DirectionCounts
theorem implDirectionCounts_ok (list : List Feat) : ∃ (v : List Int) (c : Int), (v = (dirR list).1) ∧ (c = (dirR list).2) ∧ Con Tryz.prog 35 [slFeat false list] true (.tup [slI true v, I c]) := by
  have hh : ∃ r : (List Int) × Int, ((r.1 = (dirR list).1) ∧ (r.2 = (dirR list).2) ∧ (True)) ∧ CallOK Tryz.prog 35 [slFeat false list] (lookO []) true (.tup [slI true r.1, I r.2]) (lookO []) := by
    refine fn_okX (Φ := fun r : (List Int) × Int => (r.1 = (dirR list).1) ∧ (r.2 = (dirR list).2) ∧ (True)) [] (fun r => []) (fn := Tryz.f35) (nt := 26) Tryz.func35 rfl rfl (args := [slFeat false list]) rfl (allcons (.inl ⟨rfl, tagFeat false _⟩) allnil) (res := fun r => .tup [slI true r.1, I r.2]) ?_
    refine xR [] [0] [] [slFeat false list] [] [] trivial ?_
    refine x_seq ?_
    refine x_seq ?_
    rcases Bool.eq_false_or_eq_true (okFeats list 384) with h1 | h1
    ·have hok := h1
     have hfn := okFeats_n hok
     have hst := dir_yes hok
     refine x_r [(1, .call [(true, .any)] true (Bv true))] [0, 9] [] [slFeat false list, Bv false] [] [Con Tryz.prog 98 [slFeat false list] true (Bv true) ∧ True] ⟨⟨(con_bool h1 (ValidFeats_ok list)), trivial⟩, trivial⟩ ?_
     refine xe_then ?_
     refine x_false rfl ?_
     refine x_skip ?_
     refine xe_then ?_
     refine xR [(0, .new 10)] [0, 4] [10] [slFeat false list, .arr 10] [some (.arr 1 8 (fun _ => [I 0]))] [(0 : Int) ≤ 8 ∧ (8 : Int) ≤ 8 ∧ (8 : Int) * 8 ≤ 281474976710656 ∧ (8 : Int) ≤ 9223372036854775807] ⟨⟨(by omega), (by omega), (by omega), (by omega)⟩, trivial⟩ ?_
     refine x_seq ?_
     refine xR [] [4, 11, 12, 13] [10] [.arr 10, slFeat false list, I (list.length : Int), I 0] [some (.arr 1 8 (fun _ => [I 0]))] [] trivial ?_
     refine x_block ?_
     refine x_weak [] (T := [(4, .arr 10), (11, slFeat false list), (12, I (list.length : Int)), (13, I 0)]) (O := [(10, tAI (List.replicate 8 (0 : Int)))]) rfl (⟨.inl rfl, .inl rfl, .inl rfl, .inl rfl, trivial⟩) (⟨.inr ⟨rfl, (by first | rfl | (simp; done) | (simp; omega) | omega), fun i_ hi_ => .inl (const_enc (enc := cI) rfl i_ hi_)⟩, trivial⟩) ?_
     refine x_loop (X := Int × (List Int)) (fun x => mkS [(4, .arr 10), (11, slFeat false list), (12, I (list.length : Int)), (13, I x.1)] [(10, tAI x.2)]) (fun x => (0 ≤ x.1 ∧ x.1 ≤ (list.length : Int)) ∧ (x.2 = dirC list x.1.toNat) ∧ (x.2.length = 8) ∧ True) (fun x => ((list.length : Int) - x.1).toNat) (0, (List.replicate 8 (0 : Int))) rfl (show (0 ≤ (0 : Int) ∧ (0 : Int) ≤ (list.length : Int)) ∧ ((List.replicate 8 (0 : Int)) = dirC list (0 : Int).toNat) ∧ ((List.replicate 8 (0 : Int)).length = 8) ∧ True from ⟨(by omega), (by rfl), (by rfl), trivial⟩) (fun x hI => ?_)
     obtain ⟨t13, ys⟩ := x
     obtain ⟨hi0, hys, hyl, _⟩ : (0 ≤ t13 ∧ t13 ≤ (list.length : Int)) ∧ (ys = dirC list t13.toNat) ∧ (ys.length = 8) ∧ True := hI
     show XW _ _ _ _ (mkS [(4, .arr 10), (11, slFeat false list), (12, I (list.length : Int)), (13, I t13)] [(10, tAI ys)]) _ _
     refine x_seq ?_
     by_cases h2 : t13 < (list.length : Int)
     ·have hi : t13.toNat < list.length := by omega
      have hof := okF_iff.1 (okFeats_at hok hi)
      have hbb : ∀ j_, 0 ≤ at_ ys j_ ∧ at_ ys j_ ≤ t13 := fun j_ => by rw [hys]; have := dirC_bd list (fun j hj => okFeats_at hok hj) t13.toNat (by omega) j_; omega
      have hb1 := hbb (at_ list t13.toNat).D.toNat
      refine x_r [(0, .dec true)] [4, 11, 12, 13, 14] [10] [.arr 10, slFeat false list, I (list.length : Int), I t13, Bv true] [some (tAI ys)] [t13 < (list.length : Int)] ⟨h2, trivial⟩ ?_
      refine xe_then ?_
      refine x_seq ?_
      refine x_true rfl ?_
      refine x_skip ?_
      refine xe_then ?_
      refine x_seq ?_
      refine x_block ?_
      refine xR [(2, .new 6)] [4, 6, 11, 12, 13] [6, 10] [.arr 10, .ref 6 0, slFeat false list, I (list.length : Int), I t13] [some (bxFeat (at_ list t13.toNat)), some (tAI ys)] [(0 : Int) ≤ t13 ∧ t13 < (list.length : Int)] ⟨⟨(by omega), (by omega)⟩, trivial⟩ ?_
      refine x_r [] [4, 11, 12, 13] [10] [.arr 10, slFeat false list, I (list.length : Int), I t13] [some (.arr 1 ys.length (fun q => bif Nat.beq q (((at_ list t13.toNat).D).toNat) then [I ((at_ ys (((at_ list t13.toNat).D).toNat)) + 1)] else (fI ys) q))] [(0 : Int) ≤ ((at_ list t13.toNat).D) ∧ ((at_ list t13.toNat).D) < (ys.length : Int), ((at_ list t13.toNat).D).toNat < ys.length, inR .i64 ((at_ ys (((at_ list t13.toNat).D).toNat)) + 1), (0 : Int) ≤ ((at_ list t13.toNat).D) ∧ ((at_ list t13.toNat).D) < (ys.length : Int), ((at_ list t13.toNat).D).toNat < ys.length] ⟨⟨(by omega), (by omega)⟩, (by omega), (inR_i64 (by omega) (by omega)), ⟨(by omega), (by omega)⟩, (by omega), trivial⟩ ?_
      refine xe_block 1 ?_
      refine xe_then ?_
      refine x_weak [] (T := [(4, .arr 10), (11, slFeat false list), (12, I (list.length : Int)), (13, I t13)]) (O := [(10, tAI (ys.set (((at_ list t13.toNat).D).toNat) ((at_ ys (((at_ list t13.toNat).D).toNat)) + 1)))]) rfl (⟨.inl rfl, .inl rfl, .inl rfl, .inl rfl, trivial⟩) (⟨.inr ⟨rfl, (by first | rfl | (simp; done) | (simp; omega) | omega), fun i_ hi_ => .inl (upd_enc (enc := cI) rfl i_ hi_)⟩, trivial⟩) ?_
      refine x_r [] [4, 11, 12, 13] [10] [.arr 10, slFeat false list, I (list.length : Int), I (t13 + 1)] [some (tAI (ys.set (((at_ list t13.toNat).D).toNat) ((at_ ys (((at_ list t13.toNat).D).toNat)) + 1)))] [inR .i64 (t13 + 1)] ⟨(inR_i64 (by omega) (by omega)), trivial⟩ ?_
      exact xe_again ((t13 + 1), (ys.set (((at_ list t13.toNat).D).toNat) ((at_ ys (((at_ list t13.toNat).D).toNat)) + 1))) rfl (show (0 ≤ (t13 + 1) ∧ (t13 + 1) ≤ (list.length : Int)) ∧ ((ys.set (((at_ list t13.toNat).D).toNat) ((at_ ys (((at_ list t13.toNat).D).toNat)) + 1)) = dirC list (t13 + 1).toNat) ∧ ((ys.set (((at_ list t13.toNat).D).toNat) ((at_ ys (((at_ list t13.toNat).D).toNat)) + 1)).length = 8) ∧ True from ⟨(by omega), (by rw [dirC_1 hi0.1, ← hys]), (by simp only [List.length_set]; exact hyl), trivial⟩) (by first | (show (((list.length : Int) - (t13 + 1)).toNat : Nat) < ((list.length : Int) - t13).toNat; omega) | (dsimp only; omega))
     have hie : t13.toNat = list.length := by omega
     rw [hie] at hys
     refine x_r [(0, .dec false)] [4, 11, 12, 13, 14] [10] [.arr 10, slFeat false list, I (list.length : Int), I t13, Bv false] [some (tAI ys)] [¬ (t13 < (list.length : Int))] ⟨h2, trivial⟩ ?_
     refine xe_then ?_
     refine x_seq ?_
     refine x_false rfl ?_
     refine x_exit ?_
     refine xe_exit_then ?_
     refine xe_loop_exit ?_
     refine xe_exit_same ?_
     refine xe_then ?_
     refine xR [] [2, 3] [10] [.arr 10, I 0] [some (tAI ys)] [] trivial ?_
     refine x_ret ?_
     refine xe_end (ys, 0) (show (ys = (dirR list).1) ∧ (0 = (dirR list).2) ∧ (True) from ⟨(by first | (rw [hst]; done) | (rw [hst]; exact hys) | (rw [hst, hys]; done) | rfl), (by first | (rw [hst]; done) | (rw [hst]; exact hys) | (rw [hst, hys]; done) | rfl), trivial⟩) (trivial) (.tup [.arr 10, I 0]) (by kernel_rfl) (.inr ⟨⟨(fun _ => rfl), rfl, rfl, fun i _ => .inl rfl⟩, ⟨rfl, rfl⟩⟩) (fun _ => rfl) (fun _ => (by simp [tagged, taggedL, tagI]))
    have hst := dir_no h1
    refine x_r [(1, .call [(true, .any)] true (Bv false))] [0, 9] [] [slFeat false list, Bv true] [] [Con Tryz.prog 98 [slFeat false list] true (Bv false) ∧ True] ⟨⟨(con_bool h1 (ValidFeats_ok list)), trivial⟩, trivial⟩ ?_
    refine xe_then ?_
    refine x_true rfl ?_
    refine xR [] [2, 3] [] [nilA, I 1] [] [] trivial ?_
    refine x_ret ?_
    refine xe_ret_then ?_
    refine xe_end (([] : List Int), 1) (show (([] : List Int) = (dirR list).1) ∧ (1 = (dirR list).2) ∧ (True) from ⟨(by first | (rw [hst]; done) | (rw [hst]; exact hys) | (rw [hst, hys]; done) | rfl), (by first | (rw [hst]; done) | (rw [hst]; exact hys) | (rw [hst, hys]; done) | rfl), trivial⟩) (trivial) (.tup [nilA, I 1]) (by kernel_rfl) (.inr ⟨⟨rfl, rfl⟩, ⟨rfl, rfl⟩⟩) (fun _ => rfl) (fun _ => (by simp [tagged, taggedL, tagI]))
  obtain ⟨⟨v, c⟩, ⟨hh0, hh1, _⟩, hc⟩ := hh
  exact ⟨v, c, hh0, hh1, hc⟩


-- spec.DirectionCounts
theorem specDirectionCounts_ok (list : List Feat) : ∃ (v : List Int) (c : Int), (v = (dirR list).1) ∧ (c = (dirR list).2) ∧ Con Tryz.prog 36 [slFeat false list] true (.tup [slI true v, I c]) := by
  have hh : ∃ r : (List Int) × Int, ((r.1 = (dirR list).1) ∧ (r.2 = (dirR list).2) ∧ (True)) ∧ CallOK Tryz.prog 36 [slFeat false list] (lookO []) true (.tup [slI true r.1, I r.2]) (lookO []) := by
    refine fn_okX (Φ := fun r : (List Int) × Int => (r.1 = (dirR list).1) ∧ (r.2 = (dirR list).2) ∧ (True)) [] (fun r => []) (fn := Tryz.f36) (nt := 27) Tryz.func36 rfl rfl (args := [slFeat false list]) rfl (allcons (.inl ⟨rfl, tagFeat false _⟩) allnil) (res := fun r => .tup [slI true r.1, I r.2]) ?_
    refine xR [] [0] [] [slFeat false list] [] [] trivial ?_
    refine x_seq ?_
    refine x_seq ?_
    rcases Bool.eq_false_or_eq_true (okFeats list 384) with h1 | h1
    ·have hok := h1
     have hfn := okFeats_n hok
     have hst := dir_yes hok
     refine x_r [(1, .call [(true, .any)] true (Bv true))] [0, 8] [] [slFeat false list, Bv false] [] [Con Tryz.prog 99 [slFeat false list] true (Bv true) ∧ True] ⟨⟨(con_bool h1 (l08Ok_ok list)), trivial⟩, trivial⟩ ?_
     refine xe_then ?_
     refine x_false rfl ?_
     refine x_skip ?_
     refine xe_then ?_
     refine xR [(0, .new 9)] [0, 4] [9] [slFeat false list, .arr 9] [some (.arr 1 8 (fun _ => [I 0]))] [(0 : Int) ≤ 8 ∧ (8 : Int) ≤ 8 ∧ (8 : Int) * 8 ≤ 281474976710656 ∧ (8 : Int) ≤ 9223372036854775807] ⟨⟨(by omega), (by omega), (by omega), (by omega)⟩, trivial⟩ ?_
     refine x_seq ?_
     refine xR [] [0, 4, 5] [9] [slFeat false list, .arr 9, I 0] [some (.arr 1 8 (fun _ => [I 0]))] [] trivial ?_
     refine x_block ?_
     refine x_weak [] (T := [(0, slFeat false list), (4, .arr 9), (5, I 0)]) (O := [(9, tAI (List.replicate 8 (0 : Int)))]) rfl (⟨.inl rfl, .inl rfl, .inl rfl, trivial⟩) (⟨.inr ⟨rfl, (by first | rfl | (simp; done) | (simp; omega) | omega), fun i_ hi_ => .inl (const_enc (enc := cI) rfl i_ hi_)⟩, trivial⟩) ?_
     refine x_loop (X := Int × (List Int)) (fun x => mkS [(0, slFeat false list), (4, .arr 9), (5, I x.1)] [(9, tAI x.2)]) (fun x => (0 ≤ x.1 ∧ x.1 ≤ (list.length : Int)) ∧ (x.2 = dirC list x.1.toNat) ∧ (x.2.length = 8) ∧ True) (fun x => ((list.length : Int) - x.1).toNat) (0, (List.replicate 8 (0 : Int))) rfl (show (0 ≤ (0 : Int) ∧ (0 : Int) ≤ (list.length : Int)) ∧ ((List.replicate 8 (0 : Int)) = dirC list (0 : Int).toNat) ∧ ((List.replicate 8 (0 : Int)).length = 8) ∧ True from ⟨(by omega), (by rfl), (by rfl), trivial⟩) (fun x hI => ?_)
     obtain ⟨i, ys⟩ := x
     obtain ⟨hi0, hys, hyl, _⟩ : (0 ≤ i ∧ i ≤ (list.length : Int)) ∧ (ys = dirC list i.toNat) ∧ (ys.length = 8) ∧ True := hI
     show XW _ _ _ _ (mkS [(0, slFeat false list), (4, .arr 9), (5, I i)] [(9, tAI ys)]) _ _
     refine x_seq ?_
     refine x_seq ?_
     by_cases h2 : i < (list.length : Int)
     ·have hi : i.toNat < list.length := by omega
      have hof := okF_iff.1 (okFeats_at hok hi)
      have hbb : ∀ j_, 0 ≤ at_ ys j_ ∧ at_ ys j_ ≤ i := fun j_ => by rw [hys]; have := dirC_bd list (fun j hj => okFeats_at hok hj) i.toNat (by omega) j_; omega
      have hb1 := hbb (at_ list i.toNat).D.toNat
      refine x_r [(3, .dec true)] [0, 4, 5, 13] [9] [slFeat false list, .arr 9, I i, Bv true] [some (tAI ys)] [i < (list.length : Int)] ⟨h2, trivial⟩ ?_
      refine xe_then ?_
      refine x_true rfl ?_
      refine x_skip ?_
      refine xe_then ?_
      refine x_seq ?_
      refine x_block ?_
      refine x_r [] [0, 4, 5] [9] [slFeat false list, .arr 9, I i] [some (.arr 1 ys.length (fun q => bif Nat.beq q (((at_ list i.toNat).D).toNat) then [I ((at_ ys (((at_ list i.toNat).D).toNat)) + 1)] else (fI ys) q))] [(0 : Int) ≤ i ∧ i < (list.length : Int), (0 : Int) ≤ ((at_ list i.toNat).D) ∧ ((at_ list i.toNat).D) < (ys.length : Int), ((at_ list i.toNat).D).toNat < ys.length, inR .i64 ((at_ ys (((at_ list i.toNat).D).toNat)) + 1), (0 : Int) ≤ ((at_ list i.toNat).D) ∧ ((at_ list i.toNat).D) < (ys.length : Int), ((at_ list i.toNat).D).toNat < ys.length] ⟨⟨(by omega), (by omega)⟩, ⟨(by omega), (by omega)⟩, (by omega), (inR_i64 (by omega) (by omega)), ⟨(by omega), (by omega)⟩, (by omega), trivial⟩ ?_
      refine xe_block 1 ?_
      refine xe_then ?_
      refine x_weak [] (T := [(0, slFeat false list), (4, .arr 9), (5, I i)]) (O := [(9, tAI (ys.set (((at_ list i.toNat).D).toNat) ((at_ ys (((at_ list i.toNat).D).toNat)) + 1)))]) rfl (⟨.inl rfl, .inl rfl, .inl rfl, trivial⟩) (⟨.inr ⟨rfl, (by first | rfl | (simp; done) | (simp; omega) | omega), fun i_ hi_ => .inl (upd_enc (enc := cI) rfl i_ hi_)⟩, trivial⟩) ?_
      refine x_r [] [0, 4, 5] [9] [slFeat false list, .arr 9, I (i + 1)] [some (tAI (ys.set (((at_ list i.toNat).D).toNat) ((at_ ys (((at_ list i.toNat).D).toNat)) + 1)))] [inR .i64 (i + 1)] ⟨(inR_i64 (by omega) (by omega)), trivial⟩ ?_
      exact xe_again ((i + 1), (ys.set (((at_ list i.toNat).D).toNat) ((at_ ys (((at_ list i.toNat).D).toNat)) + 1))) rfl (show (0 ≤ (i + 1) ∧ (i + 1) ≤ (list.length : Int)) ∧ ((ys.set (((at_ list i.toNat).D).toNat) ((at_ ys (((at_ list i.toNat).D).toNat)) + 1)) = dirC list (i + 1).toNat) ∧ ((ys.set (((at_ list i.toNat).D).toNat) ((at_ ys (((at_ list i.toNat).D).toNat)) + 1)).length = 8) ∧ True from ⟨(by omega), (by rw [dirC_1 hi0.1, ← hys]), (by simp only [List.length_set]; exact hyl), trivial⟩) (by first | (show (((list.length : Int) - (i + 1)).toNat : Nat) < ((list.length : Int) - i).toNat; omega) | (dsimp only; omega))
     have hie : i.toNat = list.length := by omega
     rw [hie] at hys
     refine x_r [(3, .dec false)] [0, 4, 5, 13] [9] [slFeat false list, .arr 9, I i, Bv false] [some (tAI ys)] [¬ (i < (list.length : Int))] ⟨h2, trivial⟩ ?_
     refine xe_then ?_
     refine x_false rfl ?_
     refine x_exit ?_
     refine xe_exit_then ?_
     refine xe_loop_exit ?_
     refine xe_exit_same ?_
     refine xe_then ?_
     refine xR [] [2, 3] [9] [.arr 9, I 0] [some (tAI ys)] [] trivial ?_
     refine x_ret ?_
     refine xe_end (ys, 0) (show (ys = (dirR list).1) ∧ (0 = (dirR list).2) ∧ (True) from ⟨(by first | (rw [hst]; done) | (rw [hst]; exact hys) | (rw [hst, hys]; done) | rfl), (by first | (rw [hst]; done) | (rw [hst]; exact hys) | (rw [hst, hys]; done) | rfl), trivial⟩) (trivial) (.tup [.arr 9, I 0]) (by kernel_rfl) (.inr ⟨⟨(fun _ => rfl), rfl, rfl, fun i _ => .inl rfl⟩, ⟨rfl, rfl⟩⟩) (fun _ => rfl) (fun _ => (by simp [tagged, taggedL, tagI]))
    have hst := dir_no h1
    refine x_r [(1, .call [(true, .any)] true (Bv false))] [0, 8] [] [slFeat false list, Bv true] [] [Con Tryz.prog 99 [slFeat false list] true (Bv false) ∧ True] ⟨⟨(con_bool h1 (l08Ok_ok list)), trivial⟩, trivial⟩ ?_
    refine xe_then ?_
    refine x_true rfl ?_
    refine xR [] [2, 3] [] [nilA, I 1] [] [] trivial ?_
    refine x_ret ?_
    refine xe_ret_then ?_
    refine xe_end (([] : List Int), 1) (show (([] : List Int) = (dirR list).1) ∧ (1 = (dirR list).2) ∧ (True) from ⟨(by first | (rw [hst]; done) | (rw [hst]; exact hys) | (rw [hst, hys]; done) | rfl), (by first | (rw [hst]; done) | (rw [hst]; exact hys) | (rw [hst, hys]; done) | rfl), trivial⟩) (trivial) (.tup [nilA, I 1]) (by kernel_rfl) (.inr ⟨⟨rfl, rfl⟩, ⟨rfl, rfl⟩⟩) (fun _ => rfl) (fun _ => (by simp [tagged, taggedL, tagI]))
  obtain ⟨⟨v, c⟩, ⟨hh0, hh1, _⟩, hc⟩ := hh
  exact ⟨v, c, hh0, hh1, hc⟩


-- impl.floorDiv
theorem floorDiv_ok (n : Int) (d : Int) (hn : (-4611686018427387904 ≤ n ∧ n ≤ 4611686018427387904) ∧ 0 < d) : Con Tryz.prog 177 [I n, I d] true (I (n / d)) := by
  have hq := tdiv_bd n d
  have hs := down_spec n hn.2
  refine fn_ok (fn := Tryz.f177) (nt := 16) Tryz.func177 rfl rfl rfl rfl (by simp [taggedL, tagged]) fun B hB => ?_
  refine aR [] [0, 1] [] [I n, I d] [] [] hB trivial ?_
  refine aR [] [0, 1, 5] [] [I n, I d, I (Int.tdiv n d)] [] [(d : Int) ≠ 0 ∧ inR .i64 (Int.tdiv n d)] hB ⟨⟨by omega, (inR_i64 (by omega) (by omega))⟩, trivial⟩ ?_
  refine aw_seq ?_
  refine aw_seq ?_
  by_cases h1 : (Int.tmod n d) < 0
  ·refine aw_r [(3, .dec true)] [5, 12] [] [I (Int.tdiv n d), Bv true] [] [(d : Int) ≠ 0, (Int.tmod n d) < 0] hB ⟨(by omega), h1, trivial⟩ ?_
   refine ae_then ?_
   refine aw_true rfl ?_
   refine aw_r [] [5] [] [I ((Int.tdiv n d) - 1)] [] [inR .i64 ((Int.tdiv n d) - 1)] hB ⟨(inR_i64 (by omega) (by omega)), trivial⟩ ?_
   refine ae_then ?_
   refine aR [] [4] [] [I ((Int.tdiv n d) - 1)] [] [] hB trivial ?_
   refine aw_ret ?_
   refine ae_ret hB (I ((Int.tdiv n d) - 1)) (by kernel_rfl) (.inl (by refine congrArg I ?_; first | exact hs.1 (by assumption) | exact hs.2 (by assumption))) rfl (fun _ => trivial)
  refine aw_r [(3, .dec false)] [5, 12] [] [I (Int.tdiv n d), Bv false] [] [(d : Int) ≠ 0, ¬ ((Int.tmod n d) < 0)] hB ⟨(by omega), h1, trivial⟩ ?_
  refine ae_then ?_
  refine aw_false rfl ?_
  refine aw_skip ?_
  refine ae_then ?_
  refine aR [] [4] [] [I (Int.tdiv n d)] [] [] hB trivial ?_
  refine aw_ret ?_
  refine ae_ret hB (I (Int.tdiv n d)) (by kernel_rfl) (.inl (by refine congrArg I ?_; first | exact hs.1 (by assumption) | exact hs.2 (by assumption))) rfl (fun _ => trivial)


-- impl.nearestDiv
theorem nearestDiv_ok (n : Int) (d : Int) (hn : (-1000000000000000000 ≤ n ∧ n ≤ 1000000000000000000) ∧ 0 < d ∧ d ≤ 1000000000000000000) : Con Tryz.prog 100 [I n, I d] true (I (nearI n d)) := by
  have hs := near_spec n hn.2.1
  have hrb := rest_bd n hn.2.1
  have heb := ediv_bd n hn.2.1
  refine fn_ok (fn := Tryz.f100) (nt := 23) Tryz.func100 rfl rfl rfl rfl (by simp [taggedL, tagged]) fun B hB => ?_
  refine aR [] [0, 1] [] [I n, I d] [] [] hB trivial ?_
  refine aR [(2, .call [(true, .any), (true, .any)] true (I (n / d)))] [0, 1, 5] [] [I n, I d, I (n / d)] [] [Con Tryz.prog 177 [I n, I d] true (I (n / d)) ∧ True] hB ⟨⟨(floorDiv_ok n d (by omega)), trivial⟩, trivial⟩ ?_
  refine aw_seq ?_
  refine aR [] [1, 5, 6] [] [I d, I (n / d), I (n - ((n / d) * d))] [] [inR .i64 ((n / d) * d), inR .i64 (n - ((n / d) * d))] hB ⟨(inR_i64 (by omega) (by omega)), (inR_i64 (by omega) (by omega)), trivial⟩ ?_
  refine aw_seq ?_
  by_cases h1 : (d - (n - ((n / d) * d))) ≤ (n - ((n / d) * d))
  ·refine aw_r [(4, .dec true)] [5, 19] [] [I (n / d), Bv true] [] [inR .i64 (d - (n - ((n / d) * d))), (d - (n - ((n / d) * d))) ≤ (n - ((n / d) * d))] hB ⟨(inR_i64 (by omega) (by omega)), h1, trivial⟩ ?_
   refine ae_then ?_
   refine aw_true rfl ?_
   refine aw_r [] [5] [] [I ((n / d) + 1)] [] [inR .i64 ((n / d) + 1)] hB ⟨(inR_i64 (by omega) (by omega)), trivial⟩ ?_
   refine ae_then ?_
   refine aR [] [4] [] [I ((n / d) + 1)] [] [] hB trivial ?_
   refine aw_ret ?_
   refine ae_ret hB (I ((n / d) + 1)) (by kernel_rfl) (.inl (by refine congrArg I ?_; first | exact hs.1 (by assumption) | exact hs.2 (by assumption))) rfl (fun _ => trivial)
  refine aw_r [(4, .dec false)] [5, 19] [] [I (n / d), Bv false] [] [inR .i64 (d - (n - ((n / d) * d))), ¬ ((d - (n - ((n / d) * d))) ≤ (n - ((n / d) * d)))] hB ⟨(inR_i64 (by omega) (by omega)), h1, trivial⟩ ?_
  refine ae_then ?_
  refine aw_false rfl ?_
  refine aw_skip ?_
  refine ae_then ?_
  refine aR [] [4] [] [I (n / d)] [] [] hB trivial ?_
  refine aw_ret ?_
  refine ae_ret hB (I (n / d)) (by kernel_rfl) (.inl (by refine congrArg I ?_; first | exact hs.1 (by assumption) | exact hs.2 (by assumption))) rfl (fun _ => trivial)


def midR (l : List Feat) : Spot × Int := if okFeats l 384 = true then (⟨nearI (sumF Feat.X l l.length) (l.length : Int), nearI (sumF Feat.Y l l.length) (l.length : Int)⟩, 0) else (⟨0, 0⟩, 1)
theorem mid_yes {l : List Feat} (h : okFeats l 384 = true) : midR l = (⟨nearI (sumF Feat.X l l.length) (l.length : Int), nearI (sumF Feat.Y l l.length) (l.length : Int)⟩, 0) := if_pos h
theorem mid_no {l : List Feat} (h : okFeats l 384 = false) : midR l = (⟨0, 0⟩, 1) := by simp [midR, h]

-- impl.MiddleFeat
theorem implMiddleFeat_ok (list : List Feat) : ∃ (v : Spot) (c : Int), (v = (midR list).1) ∧ (c = (midR list).2) ∧ Con Tryz.prog 37 [slFeat false list] true (.tup [.agg [I v.X, I v.Y], I c]) := by
  have hh : ∃ r : Spot × Int, ((r.1 = (midR list).1) ∧ (r.2 = (midR list).2) ∧ (True)) ∧ CallOK Tryz.prog 37 [slFeat false list] (lookO []) true (.tup [.agg [I r.1.X, I r.1.Y], I r.2]) (lookO []) := by
    refine fn_okX (Φ := fun r : Spot × Int => (r.1 = (midR list).1) ∧ (r.2 = (midR list).2) ∧ (True)) [] (fun r => []) (fn := Tryz.f37) (nt := 37) Tryz.func37 rfl rfl (args := [slFeat false list]) rfl (allcons (.inl ⟨rfl, tagFeat false _⟩) allnil) (res := fun r => .tup [.agg [I r.1.X, I r.1.Y], I r.2]) ?_
    refine xR [(0, .new 2)] [0, 2] [2] [slFeat false list, .ref 2 0] [some (.box [I 0, I 0])] [] trivial ?_
    refine x_seq ?_
    refine x_seq ?_
    rcases Bool.eq_false_or_eq_true (okFeats list 384) with h1 | h1
    ·have hok := h1
     have hfn := okFeats_n hok
     have hst := mid_yes hok
     refine x_r [(1, .call [(true, .any)] true (Bv true))] [0, 2, 11] [2] [slFeat false list, .ref 2 0, Bv false] [some (.box [I 0, I 0])] [Con Tryz.prog 98 [slFeat false list] true (Bv true) ∧ True] ⟨⟨(con_bool h1 (ValidFeats_ok list)), trivial⟩, trivial⟩ ?_
     refine xe_then ?_
     refine x_false rfl ?_
     refine x_skip ?_
     refine xe_then ?_
     refine xR [] [0, 2, 4, 5, 6] [2] [slFeat false list, .ref 2 0, I 0, I 0, I (list.length : Int)] [some (.box [I 0, I 0])] [] trivial ?_
     refine x_seq ?_
     refine xR [] [2, 4, 5, 6, 15, 16, 17] [2] [.ref 2 0, I 0, I 0, I (list.length : Int), slFeat false list, I (list.length : Int), I 0] [some (.box [I 0, I 0])] [] trivial ?_
     refine x_block ?_
     refine x_loop (X := Int × Int × Int) (fun x => mkS [(2, .ref 2 0), (4, I x.1), (5, I x.2.1), (6, I (list.length : Int)), (15, slFeat false list), (16, I (list.length : Int)), (17, I x.2.2)] [(2, .box [I 0, I 0])]) (fun x => (0 ≤ x.2.2 ∧ x.2.2 ≤ (list.length : Int)) ∧ (x.1 = sumF Feat.X list x.2.2.toNat) ∧ (x.2.1 = sumF Feat.Y list x.2.2.toNat) ∧ True) (fun x => ((list.length : Int) - x.2.2).toNat) (0, 0, 0) rfl (show (0 ≤ (0 : Int) ∧ (0 : Int) ≤ (list.length : Int)) ∧ ((0 : Int) = sumF Feat.X list (0 : Int).toNat) ∧ ((0 : Int) = sumF Feat.Y list (0 : Int).toNat) ∧ True from ⟨(by omega), (by rfl), (by rfl), trivial⟩) (fun x hI => ?_)
     obtain ⟨x, y, t17⟩ := x
     obtain ⟨hi0, hxs, hys, _⟩ : (0 ≤ t17 ∧ t17 ≤ (list.length : Int)) ∧ (x = sumF Feat.X list t17.toNat) ∧ (y = sumF Feat.Y list t17.toNat) ∧ True := hI
     show XW _ _ _ _ (mkS [(2, .ref 2 0), (4, I x), (5, I y), (6, I (list.length : Int)), (15, slFeat false list), (16, I (list.length : Int)), (17, I t17)] [(2, .box [I 0, I 0])]) _ _
     refine x_seq ?_
     by_cases h2 : t17 < (list.length : Int)
     ·have hsx := sumF_bd (f := Feat.X) (fs := list) (fun j hj => by have := okF_iff.1 (okFeats_at hok hj); omega) t17.toNat (by omega)
      have hsy := sumF_bd (f := Feat.Y) (fs := list) (fun j hj => by have := okF_iff.1 (okFeats_at hok hj); omega) t17.toNat (by omega)
      have hi : t17.toNat < list.length := by omega
      have hof := okF_iff.1 (okFeats_at hok hi)
      refine x_r [(0, .dec true)] [2, 4, 5, 6, 15, 16, 17, 18] [2] [.ref 2 0, I x, I y, I (list.length : Int), slFeat false list, I (list.length : Int), I t17, Bv true] [some (.box [I 0, I 0])] [t17 < (list.length : Int)] ⟨h2, trivial⟩ ?_
      refine xe_then ?_
      refine x_seq ?_
      refine x_true rfl ?_
      refine x_skip ?_
      refine xe_then ?_
      refine x_seq ?_
      refine x_block ?_
      refine xR [(2, .new 8)] [2, 4, 5, 6, 8, 15, 16, 17] [2, 8] [.ref 2 0, I x, I y, I (list.length : Int), .ref 8 0, slFeat false list, I (list.length : Int), I t17] [some (.box [I 0, I 0]), some (bxFeat (at_ list t17.toNat))] [(0 : Int) ≤ t17 ∧ t17 < (list.length : Int)] ⟨⟨(by omega), (by omega)⟩, trivial⟩ ?_
      refine xR [] [2, 4, 5, 6, 8, 15, 16, 17] [2, 8] [.ref 2 0, I (x + ((at_ list t17.toNat).X)), I y, I (list.length : Int), .ref 8 0, slFeat false list, I (list.length : Int), I t17] [some (.box [I 0, I 0]), some (bxFeat (at_ list t17.toNat))] [inR .i64 (x + ((at_ list t17.toNat).X))] ⟨(inR_i64 (by omega) (by omega)), trivial⟩ ?_
      refine x_r [] [2, 4, 5, 6, 15, 16, 17] [2] [.ref 2 0, I (x + ((at_ list t17.toNat).X)), I (y + ((at_ list t17.toNat).Y)), I (list.length : Int), slFeat false list, I (list.length : Int), I t17] [some (.box [I 0, I 0])] [inR .i64 (y + ((at_ list t17.toNat).Y))] ⟨(inR_i64 (by omega) (by omega)), trivial⟩ ?_
      refine xe_block 1 ?_
      refine xe_then ?_
      refine x_r [] [2, 4, 5, 6, 15, 16, 17] [2] [.ref 2 0, I (x + ((at_ list t17.toNat).X)), I (y + ((at_ list t17.toNat).Y)), I (list.length : Int), slFeat false list, I (list.length : Int), I (t17 + 1)] [some (.box [I 0, I 0])] [inR .i64 (t17 + 1)] ⟨(inR_i64 (by omega) (by omega)), trivial⟩ ?_
      exact xe_again ((x + ((at_ list t17.toNat).X)), (y + ((at_ list t17.toNat).Y)), (t17 + 1)) rfl (show (0 ≤ (t17 + 1) ∧ (t17 + 1) ≤ (list.length : Int)) ∧ ((x + ((at_ list t17.toNat).X)) = sumF Feat.X list (t17 + 1).toNat) ∧ ((y + ((at_ list t17.toNat).Y)) = sumF Feat.Y list (t17 + 1).toNat) ∧ True from ⟨(by omega), (by rw [sumF_1 hi0.1, ← hxs]), (by rw [sumF_1 hi0.1, ← hys]), trivial⟩) (by first | (show (((list.length : Int) - (t17 + 1)).toNat : Nat) < ((list.length : Int) - t17).toNat; omega) | (dsimp only; omega))
     have hsx := sumF_bd (f := Feat.X) (fs := list) (fun j hj => by have := okF_iff.1 (okFeats_at hok hj); omega) t17.toNat (by omega)
     have hsy := sumF_bd (f := Feat.Y) (fs := list) (fun j hj => by have := okF_iff.1 (okFeats_at hok hj); omega) t17.toNat (by omega)
     have hie : t17.toNat = list.length := by omega
     rw [hie] at hxs hys hsx hsy
     refine x_r [(0, .dec false)] [2, 4, 5, 6, 15, 16, 17, 18] [2] [.ref 2 0, I x, I y, I (list.length : Int), slFeat false list, I (list.length : Int), I t17, Bv false] [some (.box [I 0, I 0])] [¬ (t17 < (list.length : Int))] ⟨h2, trivial⟩ ?_
     refine xe_then ?_
     refine x_seq ?_
     refine x_false rfl ?_
     refine x_exit ?_
     refine xe_exit_then ?_
     refine xe_loop_exit ?_
     refine xe_exit_same ?_
     refine xe_then ?_
     refine xR [(2, .call [(true, .any), (true, .any)] true (I (nearI x (list.length : Int)))), (5, .call [(true, .any), (true, .any)] true (I (nearI y (list.length : Int))))] [2, 3] [2] [.ref 2 0, I 0] [some (.box [I (nearI x (list.length : Int)), I (nearI y (list.length : Int))])] [Con Tryz.prog 100 [I x, I (list.length : Int)] true (I (nearI x (list.length : Int))) ∧ True, Con Tryz.prog 100 [I y, I (list.length : Int)] true (I (nearI y (list.length : Int))) ∧ True] ⟨⟨(nearestDiv_ok x (list.length : Int) (by omega)), trivial⟩, ⟨(nearestDiv_ok y (list.length : Int) (by omega)), trivial⟩, trivial⟩ ?_
     refine x_ret ?_
     refine xe_end ((Spot.mk (nearI x (list.length : Int)) (nearI y (list.length : Int))), 0) (show ((Spot.mk (nearI x (list.length : Int)) (nearI y (list.length : Int))) = (midR list).1) ∧ (0 = (midR list).2) ∧ (True) from ⟨(by first | (rw [hst]; done) | (rw [hst, hxs, hys]; done) | (rw [hst]; simp only [hxs, hys]; done) | rfl), (by first | (rw [hst]; done) | (rw [hst, hxs, hys]; done) | (rw [hst]; simp only [hxs, hys]; done) | rfl), trivial⟩) (trivial) (.tup [.agg [I (nearI x (list.length : Int)), I (nearI y (list.length : Int))], I 0]) (by kernel_rfl) (.inl rfl) (fun _ => rfl) (fun _ => (by simp [tagged, taggedL]))
    have hst := mid_no h1
    refine x_r [(1, .call [(true, .any)] true (Bv false))] [0, 2, 11] [2] [slFeat false list, .ref 2 0, Bv true] [some (.box [I 0, I 0])] [Con Tryz.prog 98 [slFeat false list] true (Bv false) ∧ True] ⟨⟨(con_bool h1 (ValidFeats_ok list)), trivial⟩, trivial⟩ ?_
    refine xe_then ?_
    refine x_true rfl ?_
    refine xR [] [2, 3] [2] [.ref 2 0, I 1] [some (.box [I 0, I 0])] [] trivial ?_
    refine x_ret ?_
    refine xe_ret_then ?_
    refine xe_end ((Spot.mk 0 0), 1) (show ((Spot.mk 0 0) = (midR list).1) ∧ (1 = (midR list).2) ∧ (True) from ⟨(by first | (rw [hst]; done) | (rw [hst, hxs, hys]; done) | (rw [hst]; simp only [hxs, hys]; done) | rfl), (by first | (rw [hst]; done) | (rw [hst, hxs, hys]; done) | (rw [hst]; simp only [hxs, hys]; done) | rfl), trivial⟩) (trivial) (.tup [.agg [I 0, I 0], I 1]) (by kernel_rfl) (.inl rfl) (fun _ => rfl) (fun _ => (by simp [tagged, taggedL]))
  obtain ⟨⟨v, c⟩, ⟨hh0, hh1, _⟩, hc⟩ := hh
  exact ⟨v, c, hh0, hh1, hc⟩


-- spec.l05Down
theorem l05Down_ok (n : Int) (d : Int) (hn : (-4611686018427387904 ≤ n ∧ n ≤ 4611686018427387904) ∧ 0 < d) : Con Tryz.prog 178 [I n, I d] true (I (n / d)) := by
  have hq := tdiv_bd n d
  have hs := down_spec n hn.2
  refine fn_ok (fn := Tryz.f178) (nt := 16) Tryz.func178 rfl rfl rfl rfl (by simp [taggedL, tagged]) fun B hB => ?_
  refine aR [] [0, 1] [] [I n, I d] [] [] hB trivial ?_
  refine aR [] [0, 1, 5] [] [I n, I d, I (Int.tdiv n d)] [] [(d : Int) ≠ 0 ∧ inR .i64 (Int.tdiv n d)] hB ⟨⟨by omega, (inR_i64 (by omega) (by omega))⟩, trivial⟩ ?_
  refine aw_seq ?_
  refine aw_seq ?_
  by_cases h1 : (Int.tmod n d) < 0
  ·refine aw_r [(3, .dec true)] [5, 12] [] [I (Int.tdiv n d), Bv true] [] [(d : Int) ≠ 0, (Int.tmod n d) < 0] hB ⟨(by omega), h1, trivial⟩ ?_
   refine ae_then ?_
   refine aw_true rfl ?_
   refine aw_r [] [5] [] [I ((Int.tdiv n d) - 1)] [] [inR .i64 ((Int.tdiv n d) - 1)] hB ⟨(inR_i64 (by omega) (by omega)), trivial⟩ ?_
   refine ae_then ?_
   refine aR [] [4] [] [I ((Int.tdiv n d) - 1)] [] [] hB trivial ?_
   refine aw_ret ?_
   refine ae_ret hB (I ((Int.tdiv n d) - 1)) (by kernel_rfl) (.inl (by refine congrArg I ?_; first | exact hs.1 (by assumption) | exact hs.2 (by assumption))) rfl (fun _ => trivial)
  refine aw_r [(3, .dec false)] [5, 12] [] [I (Int.tdiv n d), Bv false] [] [(d : Int) ≠ 0, ¬ ((Int.tmod n d) < 0)] hB ⟨(by omega), h1, trivial⟩ ?_
  refine ae_then ?_
  refine aw_false rfl ?_
  refine aw_skip ?_
  refine ae_then ?_
  refine aR [] [4] [] [I (Int.tdiv n d)] [] [] hB trivial ?_
  refine aw_ret ?_
  refine ae_ret hB (I (Int.tdiv n d)) (by kernel_rfl) (.inl (by refine congrArg I ?_; first | exact hs.1 (by assumption) | exact hs.2 (by assumption))) rfl (fun _ => trivial)


-- spec.l05Near
theorem l05Near_ok (n : Int) (d : Int) (hn : (-1000000000000000000 ≤ n ∧ n ≤ 1000000000000000000) ∧ 0 < d ∧ d ≤ 1000000000000000000) : Con Tryz.prog 101 [I n, I d] true (I (nearI n d)) := by
  refine fn_ok (fn := Tryz.f101) (nt := 12) Tryz.func101 rfl rfl rfl rfl (by simp [taggedL, tagged]) fun B hB => ?_
  refine aR [] [0, 1] [] [I n, I d] [] [] hB trivial ?_
  refine aR [(6, .call [(true, .any), (true, .any)] true (I (((2 * n) + d) / (2 * d))))] [4] [] [I (((2 * n) + d) / (2 * d))] [] [inR .i64 (2 * n), inR .i64 ((2 * n) + d), inR .i64 (2 * d), Con Tryz.prog 178 [I ((2 * n) + d), I (2 * d)] true (I (((2 * n) + d) / (2 * d))) ∧ True] hB ⟨(inR_i64 (by omega) (by omega)), (inR_i64 (by omega) (by omega)), (inR_i64 (by omega) (by omega)), ⟨(l05Down_ok ((2 * n) + d) (2 * d) (by omega)), trivial⟩, trivial⟩ ?_
  refine aw_ret ?_
  refine ae_ret hB (I (((2 * n) + d) / (2 * d))) (by kernel_rfl) (.inl (by rfl)) rfl (fun _ => trivial)


-- spec.MiddleFeat
theorem specMiddleFeat_ok (list : List Feat) : ∃ (v : Spot) (c : Int), (v = (midR list).1) ∧ (c = (midR list).2) ∧ Con Tryz.prog 38 [slFeat false list] true (.tup [.agg [I v.X, I v.Y], I c]) := by
  have hh : ∃ r : Spot × Int, ((r.1 = (midR list).1) ∧ (r.2 = (midR list).2) ∧ (True)) ∧ CallOK Tryz.prog 38 [slFeat false list] (lookO []) true (.tup [.agg [I r.1.X, I r.1.Y], I r.2]) (lookO []) := by
    refine fn_okX (Φ := fun r : Spot × Int => (r.1 = (midR list).1) ∧ (r.2 = (midR list).2) ∧ (True)) [] (fun r => []) (fn := Tryz.f38) (nt := 41) Tryz.func38 rfl rfl (args := [slFeat false list]) rfl (allcons (.inl ⟨rfl, tagFeat false _⟩) allnil) (res := fun r => .tup [.agg [I r.1.X, I r.1.Y], I r.2]) ?_
    refine xR [(0, .new 2)] [0, 2] [2] [slFeat false list, .ref 2 0] [some (.box [I 0, I 0])] [] trivial ?_
    refine x_seq ?_
    refine x_seq ?_
    rcases Bool.eq_false_or_eq_true (okFeats list 384) with h1 | h1
    ·have hok := h1
     have hfn := okFeats_n hok
     have hst := mid_yes hok
     refine x_r [(1, .call [(true, .any)] true (Bv true))] [0, 2, 10] [2] [slFeat false list, .ref 2 0, Bv false] [some (.box [I 0, I 0])] [Con Tryz.prog 99 [slFeat false list] true (Bv true) ∧ True] ⟨⟨(con_bool h1 (l08Ok_ok list)), trivial⟩, trivial⟩ ?_
     refine xe_then ?_
     refine x_false rfl ?_
     refine x_skip ?_
     refine xe_then ?_
     refine xR [] [0, 2, 4] [2] [slFeat false list, .ref 2 0, I 0] [some (.box [I 0, I 0])] [] trivial ?_
     refine xR [] [0, 2, 4, 5] [2] [slFeat false list, .ref 2 0, I 0, I 0] [some (.box [I 0, I 0])] [] trivial ?_
     refine x_seq ?_
     refine xR [] [0, 2, 4, 5, 6] [2] [slFeat false list, .ref 2 0, I 0, I 0, I 0] [some (.box [I 0, I 0])] [] trivial ?_
     refine x_block ?_
     refine x_loop (X := Int × Int × Int) (fun x => mkS [(0, slFeat false list), (2, .ref 2 0), (4, I x.1), (5, I x.2.1), (6, I x.2.2)] [(2, .box [I 0, I 0])]) (fun x => (0 ≤ x.2.2 ∧ x.2.2 ≤ (list.length : Int)) ∧ (x.1 = sumF Feat.X list x.2.2.toNat) ∧ (x.2.1 = sumF Feat.Y list x.2.2.toNat) ∧ True) (fun x => ((list.length : Int) - x.2.2).toNat) (0, 0, 0) rfl (show (0 ≤ (0 : Int) ∧ (0 : Int) ≤ (list.length : Int)) ∧ ((0 : Int) = sumF Feat.X list (0 : Int).toNat) ∧ ((0 : Int) = sumF Feat.Y list (0 : Int).toNat) ∧ True from ⟨(by omega), (by rfl), (by rfl), trivial⟩) (fun x hI => ?_)
     obtain ⟨x, y, i⟩ := x
     obtain ⟨hi0, hxs, hys, _⟩ : (0 ≤ i ∧ i ≤ (list.length : Int)) ∧ (x = sumF Feat.X list i.toNat) ∧ (y = sumF Feat.Y list i.toNat) ∧ True := hI
     show XW _ _ _ _ (mkS [(0, slFeat false list), (2, .ref 2 0), (4, I x), (5, I y), (6, I i)] [(2, .box [I 0, I 0])]) _ _
     refine x_seq ?_
     refine x_seq ?_
     by_cases h2 : i < (list.length : Int)
     ·have hsx := sumF_bd (f := Feat.X) (fs := list) (fun j hj => by have := okF_iff.1 (okFeats_at hok hj); omega) i.toNat (by omega)
      have hsy := sumF_bd (f := Feat.Y) (fs := list) (fun j hj => by have := okF_iff.1 (okFeats_at hok hj); omega) i.toNat (by omega)
      have hi : i.toNat < list.length := by omega
      have hof := okF_iff.1 (okFeats_at hok hi)
      refine x_r [(3, .dec true)] [0, 2, 4, 5, 6, 15] [2] [slFeat false list, .ref 2 0, I x, I y, I i, Bv true] [some (.box [I 0, I 0])] [i < (list.length : Int)] ⟨h2, trivial⟩ ?_
      refine xe_then ?_
      refine x_true rfl ?_
      refine x_skip ?_
      refine xe_then ?_
      refine x_seq ?_
      refine x_block ?_
      refine xR [] [0, 2, 4, 5, 6] [2] [slFeat false list, .ref 2 0, I (x + ((at_ list i.toNat).X)), I y, I i] [some (.box [I 0, I 0])] [(0 : Int) ≤ i ∧ i < (list.length : Int), inR .i64 (x + ((at_ list i.toNat).X))] ⟨⟨(by omega), (by omega)⟩, (inR_i64 (by omega) (by omega)), trivial⟩ ?_
      refine x_r [] [0, 2, 4, 5, 6] [2] [slFeat false list, .ref 2 0, I (x + ((at_ list i.toNat).X)), I (y + ((at_ list i.toNat).Y)), I i] [some (.box [I 0, I 0])] [(0 : Int) ≤ i ∧ i < (list.length : Int), inR .i64 (y + ((at_ list i.toNat).Y))] ⟨⟨(by omega), (by omega)⟩, (inR_i64 (by omega) (by omega)), trivial⟩ ?_
      refine xe_block 1 ?_
      refine xe_then ?_
      refine x_r [] [0, 2, 4, 5, 6] [2] [slFeat false list, .ref 2 0, I (x + ((at_ list i.toNat).X)), I (y + ((at_ list i.toNat).Y)), I (i + 1)] [some (.box [I 0, I 0])] [inR .i64 (i + 1)] ⟨(inR_i64 (by omega) (by omega)), trivial⟩ ?_
      exact xe_again ((x + ((at_ list i.toNat).X)), (y + ((at_ list i.toNat).Y)), (i + 1)) rfl (show (0 ≤ (i + 1) ∧ (i + 1) ≤ (list.length : Int)) ∧ ((x + ((at_ list i.toNat).X)) = sumF Feat.X list (i + 1).toNat) ∧ ((y + ((at_ list i.toNat).Y)) = sumF Feat.Y list (i + 1).toNat) ∧ True from ⟨(by omega), (by rw [sumF_1 hi0.1, ← hxs]), (by rw [sumF_1 hi0.1, ← hys]), trivial⟩) (by first | (show (((list.length : Int) - (i + 1)).toNat : Nat) < ((list.length : Int) - i).toNat; omega) | (dsimp only; omega))
     have hsx := sumF_bd (f := Feat.X) (fs := list) (fun j hj => by have := okF_iff.1 (okFeats_at hok hj); omega) i.toNat (by omega)
     have hsy := sumF_bd (f := Feat.Y) (fs := list) (fun j hj => by have := okF_iff.1 (okFeats_at hok hj); omega) i.toNat (by omega)
     have hie : i.toNat = list.length := by omega
     rw [hie] at hxs hys hsx hsy
     refine x_r [(3, .dec false)] [0, 2, 4, 5, 6, 15] [2] [slFeat false list, .ref 2 0, I x, I y, I i, Bv false] [some (.box [I 0, I 0])] [¬ (i < (list.length : Int))] ⟨h2, trivial⟩ ?_
     refine xe_then ?_
     refine x_false rfl ?_
     refine x_exit ?_
     refine xe_exit_then ?_
     refine xe_loop_exit ?_
     refine xe_exit_same ?_
     refine xe_then ?_
     refine xR [] [2, 4, 5, 7] [2] [.ref 2 0, I x, I y, I (list.length : Int)] [some (.box [I 0, I 0])] [] trivial ?_
     refine xR [(2, .call [(true, .any), (true, .any)] true (I (nearI x (list.length : Int)))), (5, .call [(true, .any), (true, .any)] true (I (nearI y (list.length : Int))))] [2, 3] [2] [.ref 2 0, I 0] [some (.box [I (nearI x (list.length : Int)), I (nearI y (list.length : Int))])] [Con Tryz.prog 101 [I x, I (list.length : Int)] true (I (nearI x (list.length : Int))) ∧ True, Con Tryz.prog 101 [I y, I (list.length : Int)] true (I (nearI y (list.length : Int))) ∧ True] ⟨⟨(l05Near_ok x (list.length : Int) (by omega)), trivial⟩, ⟨(l05Near_ok y (list.length : Int) (by omega)), trivial⟩, trivial⟩ ?_
     refine x_ret ?_
     refine xe_end ((Spot.mk (nearI x (list.length : Int)) (nearI y (list.length : Int))), 0) (show ((Spot.mk (nearI x (list.length : Int)) (nearI y (list.length : Int))) = (midR list).1) ∧ (0 = (midR list).2) ∧ (True) from ⟨(by first | (rw [hst]; done) | (rw [hst, hxs, hys]; done) | (rw [hst]; simp only [hxs, hys]; done) | rfl), (by first | (rw [hst]; done) | (rw [hst, hxs, hys]; done) | (rw [hst]; simp only [hxs, hys]; done) | rfl), trivial⟩) (trivial) (.tup [.agg [I (nearI x (list.length : Int)), I (nearI y (list.length : Int))], I 0]) (by kernel_rfl) (.inl rfl) (fun _ => rfl) (fun _ => (by simp [tagged, taggedL]))
    have hst := mid_no h1
    refine x_r [(1, .call [(true, .any)] true (Bv false))] [0, 2, 10] [2] [slFeat false list, .ref 2 0, Bv true] [some (.box [I 0, I 0])] [Con Tryz.prog 99 [slFeat false list] true (Bv false) ∧ True] ⟨⟨(con_bool h1 (l08Ok_ok list)), trivial⟩, trivial⟩ ?_
    refine xe_then ?_
    refine x_true rfl ?_
    refine xR [] [2, 3] [2] [.ref 2 0, I 1] [some (.box [I 0, I 0])] [] trivial ?_
    refine x_ret ?_
    refine xe_ret_then ?_
    refine xe_end ((Spot.mk 0 0), 1) (show ((Spot.mk 0 0) = (midR list).1) ∧ (1 = (midR list).2) ∧ (True) from ⟨(by first | (rw [hst]; done) | (rw [hst, hxs, hys]; done) | (rw [hst]; simp only [hxs, hys]; done) | rfl), (by first | (rw [hst]; done) | (rw [hst, hxs, hys]; done) | (rw [hst]; simp only [hxs, hys]; done) | rfl), trivial⟩) (trivial) (.tup [.agg [I 0, I 0], I 1]) (by kernel_rfl) (.inl rfl) (fun _ => rfl) (fun _ => (by simp [tagged, taggedL]))
  obtain ⟨⟨v, c⟩, ⟨hh0, hh1, _⟩, hc⟩ := hh
  exact ⟨v, c, hh0, hh1, hc⟩


theorem cat_one {α : Type} [Inhabited α] {enc : α → List AV} {x : α} {xs : List α} {g : Nat → List AV} (hx : g 0 = enc x) (i : Nat) (hi : i < ([x] ++ xs).length) : catF 1 g (fun i => enc (at_ xs i)) i = enc (at_ ([x] ++ xs) i) := by
  cases i with
  | zero => rw [catF_lt (by decide), hx]; rfl
  | succ i => rw [catF_ge (by omega), at_right (by simp)]; simp

/-- The string with these bytes. -/
def strB (xs : List Int) : ByteArray := ⟨(xs.map fun n => UInt8.ofNat n.toNat).toArray⟩
theorem strB_size (xs : List Int) : (strB xs).size = xs.length := by simp [strB, ByteArray.size]
theorem strB_at {xs : List Int} {i : Nat} (h : i < xs.length) (hb : 0 ≤ at_ xs i ∧ at_ xs i ≤ 255) : bAt (strB xs) i = at_ xs i := by
  have e : (strB xs).data.toList[i]? = some (UInt8.ofNat (at_ xs i).toNat) := by simp [strB, at_, List.getElem?_eq_getElem h]
  rw [bAt, List.getD_eq_getElem?_getD, e]
  simp
  omega
theorem strB_ok' {xs : List Int} (h : ∀ x ∈ xs, 0 ≤ x ∧ x ≤ 255) {n : Nat} {f : Nat → List AV} (hn : n = xs.length) (hf : ∀ i, i < xs.length → f i = fU8 xs i ∨ False) : (strB xs).size = n ∧ ∀ i, i < n → f i = byteF (strB xs) i := by
  subst hn
  refine ⟨strB_size xs, fun i hi => ?_⟩
  rw [(hf i hi).resolve_right id]
  unfold byteF
  rw [strB_at hi (h _ (at_mem hi))]
  rfl
theorem strB_ok {xs : List Int} (h : ∀ x ∈ xs, 0 ≤ x ∧ x ≤ 255) : (strB xs).size = xs.length ∧ ∀ i, i < xs.length → fU8 xs i = byteF (strB xs) i := strB_ok' h rfl fun i _ => .inl rfl
/-- A string's bytes. -/
def bytesL (s : ByteArray) : List Int := s.data.toList.map fun b => (b.toNat : Int)
theorem bytesL_len (s : ByteArray) : (bytesL s).length = s.size := by unfold bytesL; rw [List.length_map, Array.length_toList]; rfl
theorem bytesL_at {s : ByteArray} (i : Nat) (h : i < (bytesL s).length) : byteF s i = fU8 (bytesL s) i := by
  unfold byteF fU8 cU8
  have h' : i < s.data.toList.length := by simpa [bytesL] using h
  congr 3
  simp only [bAt, at_, bytesL, List.getD_eq_getElem?_getD, List.getElem?_map, List.getElem?_eq_getElem h', Option.map_some, Option.getD_some]

/-- A number in decimal. -/
def decB (n : Int) : ByteArray := ⟨(Lib.itoa n).toArray⟩
/-- The digits of a number, none for 0. -/
def digs (u : Nat) : List Int := if h : u = 0 then [] else digs (u / 10) ++ [48 + ((u % 10 : Nat) : Int)]
termination_by u
decreasing_by omega
theorem digs_zero : digs 0 = [] := by rw [digs]; simp
theorem digs_pos {u : Nat} (h : u ≠ 0) : digs u = digs (u / 10) ++ [48 + ((u % 10 : Nat) : Int)] := by rw [digs]; simp [h]
theorem digs_len : ∀ (k u : Nat), u < 10 ^ k → (digs u).length ≤ k := by
  intro k
  induction k with
  | zero => intro u h; have : u = 0 := by simpa using h
            subst this; simp [digs_zero]
  | succ k ih =>
    intro u h
    by_cases e : u = 0
    · subst e; simp [digs_zero]
    · rw [digs_pos e]
      have := ih (u / 10) (by rw [Nat.pow_succ] at h; omega)
      simp; omega
theorem digs_bd : ∀ (u : Nat) (x : Int), x ∈ digs u → 0 ≤ x ∧ x ≤ 255 := by
  intro u
  induction u using Nat.strongRecOn with
  | _ u ih =>
    intro x hx
    by_cases e : u = 0
    · subst e; simp [digs_zero] at hx
    · rw [digs_pos e] at hx
      rcases List.mem_append.1 hx with h | h
      · exact ih (u / 10) (by omega) x h
      · simp at h; omega
theorem digs_dec : ∀ u : Nat, u ≠ 0 → (digs u).map (fun n => UInt8.ofNat n.toNat) = Lib.decDigits u := by
  intro u
  induction u using Nat.strongRecOn with
  | _ u ih =>
    intro e
    rw [digs_pos e, Lib.decDigits, List.map_append]
    by_cases h : u < 10
    · rw [dif_pos h, show u / 10 = 0 by omega, digs_zero]
      simp only [List.map_nil, List.nil_append, List.map_cons]
      congr 2
      omega
    · rw [dif_neg h, ih (u / 10) (by omega) (by omega)]
      simp only [List.map_cons, List.map_nil]
      congr 3
theorem decB_pos {n : Int} (h : 0 < n) : decB n = strB (digs n.natAbs) := by
  unfold decB strB Lib.itoa
  rw [if_neg (by omega), digs_dec _ (by omega), show n.toNat = n.natAbs by omega]
theorem decB_neg {n : Int} (h : n < 0) : decB n = (⟨#[45]⟩ : ByteArray) ++ strB (digs n.natAbs) := by
  unfold decB strB Lib.itoa
  rw [if_pos h, digs_dec _ (by omega)]
  apply ByteArray.ext
  rw [ByteArray.data_append]
  simp
theorem decB_zero : decB 0 = (⟨#[48]⟩ : ByteArray) := by
  unfold decB Lib.itoa
  rw [if_neg (by decide)]
  simp [Lib.decDigits]
theorem decDigits_len (u : Nat) : (Lib.decDigits u).length ≤ u + 1 := by
  induction u using Nat.strongRecOn with
  | _ u ih =>
    rw [Lib.decDigits]
    split
    · simp
    · have := ih (u / 10) (by omega)
      simp; omega
theorem strB_size' (xs : List Int) : (strB xs).size = xs.length := by simp [strB, ByteArray.size]
theorem decB_size {n : Int} (h : -9223372036854775808 ≤ n ∧ n ≤ 9223372036854775807) : (decB n).size ≤ 20 := by
  have hl := digs_len 19 n.natAbs (by omega)
  rcases Int.lt_trichotomy n 0 with h1 | h1 | h1
  · rw [decB_neg h1, ByteArray.size_append, strB_size']
    have : (⟨#[45]⟩ : ByteArray).size = 1 := rfl
    omega
  · subst h1; rw [decB_zero]; decide
  · rw [decB_pos h1, strB_size']; omega
theorem tdiv_abs (k : Int) : (Int.tdiv k 10).natAbs = k.natAbs / 10 := Int.natAbs_tdiv k 10
theorem tmod_abs (k : Int) : (Int.tmod k 10).natAbs = k.natAbs % 10 := Int.natAbs_tmod k 10

theorem digs_nil {u : Nat} (h : (digs u).length = 0) : u = 0 := by
  apply Classical.byContradiction
  intro e
  rw [digs_pos e] at h
  simp at h

-- strconv.FormatInt
theorem formatInt_ok (n base : Int) (h : -9223372036854775808 ≤ n ∧ n ≤ 9223372036854775807) (hb : base = 10) : Con Tryz.prog 173 [I n, I base] true (Sv (decB n)) := by
  subst hb
  refine con_of_calls (vals := [.int .i64 n, .int .i64 10]) fun w hw => ?_
  refine (Tryz.strconv_FormatInt_10 n h.1 h.2 w (WX_tab hw)).mono ?_
  rintro e w' ⟨rfl, k, os, rfl⟩
  exact ⟨rfl, Lib.below_grow _ _ (Nat.le_refl _) k os⟩


-- impl.Decimal
theorem implDecimal_ok (n : Int) (hn : -9223372036854775808 ≤ n ∧ n ≤ 9223372036854775807) : Con Tryz.prog 95 [I n] true (Sv (decB n)) := by
  refine fn_ok (fn := Tryz.f95) (nt := 5) Tryz.func95 rfl rfl rfl rfl (by simp [taggedL, tagged]) fun B hB => ?_
  refine aR [] [0] [] [I n] [] [] hB trivial ?_
  refine aR [(1, .call [(true, .any), (true, .any)] true (Sv (decB n)))] [2] [] [Sv (decB n)] [] [Con Tryz.prog 173 [I n, I 10] true (Sv (decB n)) ∧ True] hB ⟨⟨(formatInt_ok n 10 (by omega) rfl), trivial⟩, trivial⟩ ?_
  refine aw_ret ?_
  refine ae_ret hB (Sv (decB n)) (by kernel_rfl) (.inl rfl) rfl (fun _ => trivial)


/-- What follows the first of some texts, when they are joined. -/
def jrest (sep : ByteArray) : List ByteArray → ByteArray
  | [] => ⟨#[]⟩
  | y :: l => (sep ++ y) ++ jrest sep l
/-- Texts joined. -/
def jnB (sep : ByteArray) : List ByteArray → ByteArray
  | [] => ⟨#[]⟩
  | x :: l => x ++ jrest sep l
theorem ba_nilT (x : ByteArray) : x ++ (⟨#[]⟩ : ByteArray) = x := by apply ByteArray.ext; simp
theorem nil_ba (x : ByteArray) : (⟨#[]⟩ : ByteArray) ++ x = x := by apply ByteArray.ext; simp
theorem jrest_snoc (sep y : ByteArray) : ∀ l, jrest sep (l ++ [y]) = (jrest sep l ++ sep) ++ y
  | [] => by simp only [List.nil_append, jrest, ba_nilT, nil_ba]
  | x :: l => by simp only [List.cons_append, jrest, jrest_snoc sep y l, ByteArray.append_assoc]
theorem jnB_snoc {sep y : ByteArray} {l : List ByteArray} (h : l ≠ []) : jnB sep (l ++ [y]) = (jnB sep l ++ sep) ++ y := by
  cases l with
  | nil => exact absurd rfl h
  | cons x l => simp only [List.cons_append, jnB, jrest_snoc, ByteArray.append_assoc]
/-- The sizes of the first texts. -/
def jnZ (xs : List ByteArray) : Nat → Nat
  | 0 => 0
  | k + 1 => jnZ xs k + (at_ xs k).size
theorem jnZ_cons (x : ByteArray) (xs : List ByteArray) : ∀ k, jnZ (x :: xs) (k + 1) = x.size + jnZ xs k
  | 0 => by simp [jnZ, at_]
  | k + 1 => by rw [jnZ, jnZ_cons x xs k, jnZ]; simp [at_]; omega
theorem jnZ_mono (xs : List ByteArray) {k m : Nat} (h : k ≤ m) : jnZ xs k ≤ jnZ xs m := by
  induction m with
  | zero => have : k = 0 := by omega
            subst this; exact Nat.le_refl _
  | succ m ih =>
    by_cases e : k = m + 1
    · subst e; exact Nat.le_refl _
    · have := ih (by omega); rw [jnZ]; omega
theorem jrest_size (sep : ByteArray) : ∀ xs, (jrest sep xs).size = jnZ xs xs.length + sep.size * xs.length
  | [] => rfl
  | x :: l => by rw [jrest, ByteArray.size_append, ByteArray.size_append, jrest_size sep l, List.length_cons, jnZ_cons, Nat.mul_succ]; omega
theorem jnB_size (sep : ByteArray) {xs : List ByteArray} (h : xs ≠ []) : (jnB sep xs).size = jnZ xs xs.length + sep.size * (xs.length - 1) := by
  cases xs with
  | nil => exact absurd rfl h
  | cons x l => rw [jnB, ByteArray.size_append, jrest_size, List.length_cons, jnZ_cons, Nat.add_sub_cancel]; omega
/-- The byte is not in the text. -/
def noB (c : UInt8) (s : ByteArray) : Prop := c ∉ s.data.toList
/-- A text cut at each of a byte. -/
def splC (c : UInt8) (s : ByteArray) : List ByteArray := Lib.splitB ⟨#[c]⟩ 0 (Lib.countB s ⟨#[c]⟩) s
theorem indexByte_none (c : UInt8) : ∀ l : List UInt8, c ∉ l → Lib.indexByte l c = -1
  | [], _ => rfl
  | b :: l, h => by
    have h1 : ¬ b = c := fun e => h (by simp [e])
    have h2 := indexByte_none c l (fun e => h (by simp [e]))
    simp [Lib.indexByte, h1, h2]
theorem indexByte_hit (c : UInt8) (r : List UInt8) : ∀ l : List UInt8, c ∉ l → Lib.indexByte (l ++ c :: r) c = (l.length : Int)
  | [], _ => by simp [Lib.indexByte]
  | b :: l, h => by
    have h1 : ¬ b = c := fun e => h (by simp [e])
    have h2 := indexByte_hit c r l (fun e => h (by simp [e]))
    have h3 : ¬ (l.length : Int) = -1 := by omega
    simp [Lib.indexByte, h1, h2, h3]
theorem spl_none {c : UInt8} {s : ByteArray} (h : noB c s) : splC c s = [s] := by
  have hi : Lib.indexB s ⟨#[c]⟩ = -1 := by
    show Lib.index s.data.toList [c] = -1
    rw [Lib.index_one, indexByte_none c _ h]
  unfold splC
  rw [Lib.countB_miss _ _ hi, Lib.splitB_zero]
theorem ext_left (x y : ByteArray) : (x ++ y).extract 0 x.size = x := by
  exact ByteArray.extract_append_eq_left rfl
theorem ext_right (x y : ByteArray) : (x ++ y).extract x.size (x ++ y).size = y := by
  exact ByteArray.extract_append_eq_right rfl ByteArray.size_append
theorem spl_cons {c : UInt8} {x r : ByteArray} (h : noB c x) : splC c ((x ++ ⟨#[c]⟩) ++ r) = x :: splC c r := by
  have hi : Lib.indexB ((x ++ ⟨#[c]⟩) ++ r) ⟨#[c]⟩ = ((x.size : Nat) : Int) := by
    show Lib.index ((x ++ ⟨#[c]⟩) ++ r).data.toList [c] = _
    rw [Lib.index_one]
    have : ((x ++ ⟨#[c]⟩) ++ r).data.toList = x.data.toList ++ c :: r.data.toList := by simp
    rw [this, indexByte_hit c _ _ h]
    rfl
  have hz : (x ++ (⟨#[c]⟩ : ByteArray)).size = x.size + (⟨#[c]⟩ : ByteArray).size := by rw [ByteArray.size_append]
  have he : ((x ++ ⟨#[c]⟩) ++ r).extract (x.size + (⟨#[c]⟩ : ByteArray).size) ((x ++ ⟨#[c]⟩) ++ r).size = r := by
    rw [← hz]; exact ext_right _ _
  have hl : ((x ++ ⟨#[c]⟩) ++ r).extract 0 (x.size + 0) = x := by
    rw [Nat.add_zero, ByteArray.append_assoc]; exact ext_left _ _
  unfold splC
  rw [Lib.countB_hit _ _ _ (show 1 ≤ (⟨#[c]⟩ : ByteArray).size from Nat.le_refl 1) hi, he, Nat.add_comm 1, Lib.splitB_hit _ _ _ _ _ hi, he, hl]
theorem spl_join {c : UInt8} : ∀ {xs : List ByteArray}, xs ≠ [] → (∀ x ∈ xs, noB c x) → splC c (jnB ⟨#[c]⟩ xs) = xs
  | [], h, _ => absurd rfl h
  | [x], _, h => by
    rw [jnB, jrest, ba_nilT]; exact spl_none (h x (by simp))
  | x :: y :: l, _, h => by
    have e : jnB ⟨#[c]⟩ (x :: y :: l) = (x ++ ⟨#[c]⟩) ++ jnB ⟨#[c]⟩ (y :: l) := by simp only [jnB, jrest, ByteArray.append_assoc]
    rw [e, spl_cons (h x (by simp)), spl_join (by simp) fun z hz => h z (by simp [hz])]
theorem noB_app {c : UInt8} {x y : ByteArray} (h1 : noB c x) (h2 : noB c y) : noB c (x ++ y) := by
  unfold noB at *; simp [h1, h2]
theorem noB_nil {c : UInt8} : noB c ⟨#[]⟩ := by simp [noB]
theorem noB_jrest {c : UInt8} {sep : ByteArray} (hs : noB c sep) : ∀ {xs : List ByteArray}, (∀ x ∈ xs, noB c x) → noB c (jrest sep xs)
  | [], _ => noB_nil
  | x :: l, h => noB_app (noB_app hs (h x (by simp))) (noB_jrest hs fun z hz => h z (by simp [hz]))
theorem noB_join {c : UInt8} {sep : ByteArray} (hs : noB c sep) : ∀ {xs : List ByteArray}, (∀ x ∈ xs, noB c x) → noB c (jnB sep xs)
  | [], _ => noB_nil
  | x :: l, h => noB_app (h x (by simp)) (noB_jrest hs fun z hz => h z (by simp [hz]))
theorem decDigits_bytes : ∀ (k u : Nat), u < k → ∀ b ∈ Lib.decDigits u, 48 ≤ b.toNat ∧ b.toNat ≤ 57
  | 0, u, h, _, _ => absurd h (Nat.not_lt_zero _)
  | k + 1, u, h, b, hb => by
    rw [Lib.decDigits] at hb
    split at hb
    · have hb := List.mem_singleton.1 hb; subst hb; rw [UInt8.toNat_ofNat']; omega
    · rcases List.mem_append.1 hb with hb | hb
      · exact decDigits_bytes k (u / 10) (by omega) b hb
      · have hb := List.mem_singleton.1 hb; subst hb; rw [UInt8.toNat_ofNat']; omega
theorem decB_bytes (n : Int) : ∀ b ∈ (decB n).data.toList, b.toNat = 45 ∨ (48 ≤ b.toNat ∧ b.toNat ≤ 57) := fun b hb => by
  have hb : b ∈ Lib.itoa n := by simpa [decB] using hb
  unfold Lib.itoa at hb
  split at hb
  · rcases List.mem_cons.1 hb with e | hb
    · subst e; exact .inl rfl
    · exact .inr (decDigits_bytes _ _ (Nat.lt_succ_self _) b hb)
  · exact .inr (decDigits_bytes _ _ (Nat.lt_succ_self _) b hb)
theorem decB_noB {c : UInt8} (hc : c.toNat < 45 ∨ 57 < c.toNat) (n : Int) : noB c (decB n) := fun h => by
  have := decB_bytes n c h
  omega
theorem decDigits_ne (u : Nat) : Lib.decDigits u ≠ [] := by rw [Lib.decDigits]; split <;> simp
theorem puM_app (M : Nat) : ∀ (l r : List UInt8) (acc : Nat), Lib.parseUintM M acc (l ++ r) = match Lib.parseUintM M acc l with | .ok v => Lib.parseUintM M v r | .«syntax» => .«syntax» | .range => .range
  | [], r, acc => rfl
  | c :: l, r, acc => by
    simp only [List.cons_append, Lib.parseUintM]
    split
    · split
      · rfl
      · split
        · rfl
        · exact puM_app M l r _
    · rfl
theorem puM_dec {M : Nat} (hM : 1000000000000000000 ≤ M) : ∀ (k u : Nat), u < k → u < 1000000000000000000 → Lib.parseUintM M 0 (Lib.decDigits u) = .ok u
  | 0, u, h, _ => absurd h (Nat.not_lt_zero _)
  | k + 1, u, h, h2 => by
    rw [Lib.decDigits]
    split
    · rename_i h3
      have e : (UInt8.ofNat (48 + u)).toNat = 48 + u := by rw [UInt8.toNat_ofNat']; omega
      simp only [Lib.parseUintM, e]
      rw [if_pos (by omega), if_neg (by omega), if_neg (by omega)]
      simp
    · rename_i h3
      rw [puM_app, puM_dec hM k (u / 10) (by omega) (by omega)]
      have e : (UInt8.ofNat (48 + u % 10)).toNat = 48 + u % 10 := by rw [UInt8.toNat_ofNat']; omega
      simp only [Lib.parseUintM, e]
      rw [if_pos (by omega), if_neg (by omega), if_neg (by omega)]
      congr 1
      omega
theorem parse_dec {n : Int} (h : -1000000000000000000 < n ∧ n < 1000000000000000000) : Lib.parseIntB 64 (decB n).data.toList = .ok n := by
  have e : (decB n).data.toList = Lib.itoa n := by simp [decB]
  rw [e]
  unfold Lib.itoa
  split
  · rename_i h0
    rw [Lib.parseIntB_minus]
    unfold Lib.parseUintB
    rw [if_neg (decDigits_ne _), puM_dec (by decide) _ _ (Nat.lt_succ_self _) (by omega)]
    simp only [Lib.signedC]
    rw [if_neg (by omega)]
    congr 1
    omega
  · rename_i h0
    obtain ⟨c, r, hc⟩ : ∃ c r, Lib.decDigits n.toNat = c :: r := by
      cases h : Lib.decDigits n.toNat with
      | nil => exact absurd h (decDigits_ne _)
      | cons c r => exact ⟨c, r, rfl⟩
    have hb := decDigits_bytes _ n.toNat (Nat.lt_succ_self _) c (by rw [hc]; simp)
    rw [hc, Lib.parseIntB_plain 64 c r (by omega) (by omega), ← hc]
    unfold Lib.parseUintB
    rw [if_neg (decDigits_ne _), puM_dec (by decide) _ _ (Nat.lt_succ_self _) (by omega)]
    simp only [Lib.signlessC]
    rw [if_neg (by omega)]
    congr 1
    omega
theorem decB_inj {m n : Int} (hm : -1000000000000000000 < m ∧ m < 1000000000000000000) (hn : -1000000000000000000 < n ∧ n < 1000000000000000000) (h : decB m = decB n) : m = n := by
  have h1 := parse_dec hm
  rw [h, parse_dec hn] at h1
  cases h1; rfl

/-- Plain arguments, and a new array of plain cells. -/
theorem con_of_calls_sl {P : Program} {f : FuncId} {vals : List Value} {n : Nat} {T : TypeId} {cs : Array Value} {g : Nat → Value} (hn : n ≤ maxLen) (hc : ∀ i, i < n → cs[i]? = some (g i) ∧ (g i).oneCell' = true)
    (h : ∀ w, WX w → Calls P f vals.toArray w fun e w' => e = .returned (.slice (some ⟨w.heap.size, 0, none⟩) n n) ∧ w' = w.alloc (.cells cs T)) : Con P f (vals.map .val) true (.sl true 1 n fun i => [.val (g i)]) := by
  intro B vals' hbo hm hr
  have : vals' = vals := by
    have hl := hr.1
    simp at hl
    apply List.ext_getElem hl.symm
    intro i h1 h2
    have := hr.2 i (.val vals[i]) vals'[i] (by simp [List.getElem?_map, List.getElem?_eq_getElem h2]) (List.getElem?_eq_getElem h1)
    generalize vals[i] = x at *
    generalize vals'[i] = y at *
    cases this with | tree _ _ h => cases h; rfl
  subst this
  refine (h B.w0 (hm.glob _ (Kept.refl _ _))).mono ?_
  rintro e w' ⟨rfl, rfl⟩
  have hk : Kept B.w0 (fun _ => False) (B.w0.alloc (.cells cs T)) := ⟨rfl, rfl, rfl, by simp, fun k hk _ => Go.heap_alloc_old _ _ hk⟩
  have hnew := heap_alloc_new B.w0 (.cells cs T)
  refine ⟨_, B.κ0, rfl, hm.world hk, .tree _ _ (.sl true 1 n _ B.w0.heap.size 0 n (fun i _ => g i) ⟨(Array.getElem?_eq_some_iff.1 hnew).1, ⟨fun _ => Nat.le_refl _, fun h => absurd h (Nat.lt_irrefl _)⟩, fun i hi => absurd rfl hi⟩ (Nat.le_refl _) hn (fun _ _ => rfl) (fun i j hi hj => ?_) fun i j u hi hu => ?_)⟩
  · have : j = 0 := by omega
    subst this
    refine ⟨?_, (hc i hi).2⟩
    have := (hc i hi).1
    rw [Lib.cell_of_heap hnew]
    simpa using this
  · cases j with
    | zero => simp at hu; subst hu; exact .val _
    | succ j => simp at hu
theorem splB_length {sep s : ByteArray} (h1 : sep.size = 1) : (Lib.splitB sep 0 (Lib.countB s sep) s).length = Lib.countB s sep + 1 := Lib.splitB_all sep (by omega) 0 _ s rfl

/-- What strings.Join is asked: not too much. -/
def jok (sep : ByteArray) (xs : List ByteArray) : Prop := sep.size ≤ 8 ∧ xs.length ≤ 100000 ∧ (xs ≠ [] → jnZ xs xs.length + sep.size * (xs.length - 1) ≤ 1000000000)
theorem jok_room {s n : Nat} (hs : s ≤ 8) (hn : 1 ≤ n ∧ n ≤ 100000) : (s : Int) < (9223372036854775807 : Int) / (n : Int) := by
  have h : (9 : Int) ≤ (9223372036854775807 : Int) / (n : Int) := by
    rw [Int.le_ediv_iff_mul_le (by omega)]
    omega
  omega
theorem jnZ_at (xs : List ByteArray) {k : Nat} : jnZ xs (k + 1) = jnZ xs k + (at_ xs k).size := rfl
theorem jnB_one (sep : ByteArray) {xs : List ByteArray} (h : xs.length = 1) : jnB sep xs = at_ xs 0 := by
  match xs, h with
  | [x], _ => simp [jnB, jrest, ba_nilT, at_]
theorem at_drop1 {α : Type} [Inhabited α] (xs : List α) (k : Nat) : at_ (xs.drop 1) k = at_ xs (k + 1) := by
  simp [at_, Nat.add_comm]
theorem jnB_take {sep : ByteArray} {xs : List ByteArray} {k : Nat} (h : k + 1 < xs.length) : jnB sep (xs.take (k + 2)) = (jnB sep (xs.take (k + 1)) ++ sep) ++ at_ xs (k + 1) := by
  rw [show xs.take (k + 2) = xs.take (k + 1) ++ [at_ xs (k + 1)] from by rw [List.take_succ_eq_append_getElem h, at_eq h], jnB_snoc]
  intro e
  have h2 : (xs.take (k + 1)).length = k + 1 := by rw [List.length_take]; omega
  rw [e] at h2
  simp at h2
theorem jnB_take1 {sep : ByteArray} {xs : List ByteArray} (h : 1 ≤ xs.length) : jnB sep (xs.take 1) = at_ xs 0 := by
  have e : (xs.take 1).length = 1 := by simp; omega
  rw [jnB_one sep e]
  simp [at_]
end Go.Proofs.YthlghckgnanlpaaGreatDoor.Ax
