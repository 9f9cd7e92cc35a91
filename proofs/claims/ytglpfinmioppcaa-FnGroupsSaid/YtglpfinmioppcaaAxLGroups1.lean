/- Contracts that the statement FnGroups reaches, part 1. No conditions. -/
import Derived.Test.YtglpfinmioppcaaAxO
import Derived.Test.YtglpfinmioppcaaAxS
import Derived.Test.YtglpfinmioppcaaSortShelf
namespace Go.Proofs.Ytglpfinmioppcaa.Ax
open Go.RowKit Go.ChangeShapes Go.WideShapes
set_option linter.unusedVariables false
set_option linter.unusedSimpArgs false


def cU8 (x : Int) : List AV := [.val (.int .u8 x)]
def fU8 (xs : List Int) (i : Nat) : List AV := cU8 (at_ xs i)
def slU8 (fr : Bool) (xs : List Int) : AV := .sl fr 1 xs.length (fU8 xs)
theorem tagcU8 (t : Bool) (x : Int) : taggedL t (cU8 x) := by simp [cU8, taggedL, tagged]
theorem tagU8 (t : Bool) (xs : List Int) : tagged t (slU8 t xs) := by simp only [slU8, tagged]; exact ⟨trivial, fun i _ => tagcU8 t _⟩
theorem lenU8 (fr : Bool) (xs : List Int) : lenA noOb (slU8 fr xs) = some xs.length := rfl
def cI (x : Int) : List AV := [I x]
def fI (xs : List Int) (i : Nat) : List AV := cI (at_ xs i)
def slI (fr : Bool) (xs : List Int) : AV := .sl fr 1 xs.length (fI xs)
theorem tagcI (t : Bool) (x : Int) : taggedL t (cI x) := by simp [cI, taggedL, tagged]
theorem tagI (t : Bool) (xs : List Int) : tagged t (slI t xs) := by simp only [slI, tagged]; exact ⟨trivial, fun i _ => tagcI t _⟩
theorem lenI (fr : Bool) (xs : List Int) : lenA noOb (slI fr xs) = some xs.length := rfl
structure Point where
  X : Int
  Y : Int
  T : Int
deriving DecidableEq, Inhabited
def cPoint (x : Point) : List AV := [I x.X, I x.Y, I x.T]
def fPoint (xs : List Point) (i : Nat) : List AV := cPoint (at_ xs i)
def slPoint (fr : Bool) (xs : List Point) : AV := .sl fr 3 xs.length (fPoint xs)
theorem tagcPoint (t : Bool) (x : Point) : taggedL t (cPoint x) := by simp [cPoint, taggedL, tagged]
theorem tagPoint (t : Bool) (xs : List Point) : tagged t (slPoint t xs) := by simp only [slPoint, tagged]; exact ⟨trivial, fun i _ => tagcPoint t _⟩
theorem lenPoint (fr : Bool) (xs : List Point) : lenA noOb (slPoint fr xs) = some xs.length := rfl
abbrev bxPoint (x : Point) : Ob := .box [I x.X, I x.Y, I x.T]
abbrev agPoint (x : Point) : AV := .agg [I x.X, I x.Y, I x.T]
def cLPoint (fr : Bool) (x : List Point) : List AV := [slPoint fr x]
def fLPoint (fr : Bool) (xs : List (List Point)) (i : Nat) : List AV := cLPoint fr (at_ xs i)
def slLPoint (fr : Bool) (xs : List (List Point)) : AV := .sl fr 1 xs.length (fLPoint fr xs)
theorem tagcLPoint (t : Bool) (x : List Point) : taggedL t (cLPoint t x) := by simp [cLPoint, taggedL, tagged, tagPoint]
theorem tagLPoint (t : Bool) (xs : List (List Point)) : tagged t (slLPoint t xs) := by simp only [slLPoint, tagged]; exact ⟨trivial, fun i _ => tagcLPoint t _⟩
theorem lenLPoint (fr : Bool) (xs : List (List Point)) : lenA noOb (slLPoint fr xs) = some xs.length := rfl
theorem idsLPoint (fr : Bool) (x : List Point) : AV.idsL (cLPoint fr x) = [] := rfl
theorem leLPoint (fr : Bool) (x : List Point) (ob : Nat → Option Ob) : leL ob false (cLPoint fr x) (cLPoint false x) := (And.intro (And.intro (fun h => by cases h) (And.intro rfl (And.intro rfl (fun i _ => .inl rfl)))) rfl)
structure Stroke where
  Points : List Point
deriving DecidableEq, Inhabited
def cStroke (fr : Bool) (x : Stroke) : List AV := [slPoint fr x.Points]
def fStroke (fr : Bool) (xs : List Stroke) (i : Nat) : List AV := cStroke fr (at_ xs i)
def slStroke (fr : Bool) (xs : List Stroke) : AV := .sl fr 1 xs.length (fStroke fr xs)
theorem tagcStroke (t : Bool) (x : Stroke) : taggedL t (cStroke t x) := by simp [cStroke, taggedL, tagged, tagPoint]
theorem tagStroke (t : Bool) (xs : List Stroke) : tagged t (slStroke t xs) := by simp only [slStroke, tagged]; exact ⟨trivial, fun i _ => tagcStroke t _⟩
theorem lenStroke (fr : Bool) (xs : List Stroke) : lenA noOb (slStroke fr xs) = some xs.length := rfl
theorem idsStroke (fr : Bool) (x : Stroke) : AV.idsL (cStroke fr x) = [] := rfl
theorem leStroke (fr : Bool) (x : Stroke) (ob : Nat → Option Ob) : leL ob false (cStroke fr x) (cStroke false x) := (And.intro (And.intro (fun h => by cases h) (And.intro rfl (And.intro rfl (fun i _ => .inl rfl)))) rfl)
def cLStroke (fr : Bool) (x : List Stroke) : List AV := [slStroke fr x]
def fLStroke (fr : Bool) (xs : List (List Stroke)) (i : Nat) : List AV := cLStroke fr (at_ xs i)
def slLStroke (fr : Bool) (xs : List (List Stroke)) : AV := .sl fr 1 xs.length (fLStroke fr xs)
theorem tagcLStroke (t : Bool) (x : List Stroke) : taggedL t (cLStroke t x) := by simp [cLStroke, taggedL, tagged, tagStroke]
theorem tagLStroke (t : Bool) (xs : List (List Stroke)) : tagged t (slLStroke t xs) := by simp only [slLStroke, tagged]; exact ⟨trivial, fun i _ => tagcLStroke t _⟩
theorem lenLStroke (fr : Bool) (xs : List (List Stroke)) : lenA noOb (slLStroke fr xs) = some xs.length := rfl
theorem idsLStroke (fr : Bool) (x : List Stroke) : AV.idsL (cLStroke fr x) = [] := rfl
theorem leLStroke (fr : Bool) (x : List Stroke) (ob : Nat → Option Ob) : leL ob false (cLStroke fr x) (cLStroke false x) := (And.intro (And.intro (fun h => by cases h) (And.intro rfl (And.intro rfl (fun i _ => .inr ⟨idsStroke _ _, leStroke _ _ _⟩)))) rfl)
structure Ink where
  Strokes : List Stroke
deriving DecidableEq, Inhabited
def cInk (fr : Bool) (x : Ink) : List AV := [slStroke fr x.Strokes]
def fInk (fr : Bool) (xs : List Ink) (i : Nat) : List AV := cInk fr (at_ xs i)
def slInk (fr : Bool) (xs : List Ink) : AV := .sl fr 1 xs.length (fInk fr xs)
theorem tagcInk (t : Bool) (x : Ink) : taggedL t (cInk t x) := by simp [cInk, taggedL, tagged, tagStroke]
theorem tagInk (t : Bool) (xs : List Ink) : tagged t (slInk t xs) := by simp only [slInk, tagged]; exact ⟨trivial, fun i _ => tagcInk t _⟩
theorem lenInk (fr : Bool) (xs : List Ink) : lenA noOb (slInk fr xs) = some xs.length := rfl
theorem idsInk (fr : Bool) (x : Ink) : AV.idsL (cInk fr x) = [] := rfl
theorem leInk (fr : Bool) (x : Ink) (ob : Nat → Option Ob) : leL ob false (cInk fr x) (cInk false x) := (And.intro (And.intro (fun h => by cases h) (And.intro rfl (And.intro rfl (fun i _ => .inr ⟨idsStroke _ _, leStroke _ _ _⟩)))) rfl)
def cLU8 (fr : Bool) (x : List Int) : List AV := [slU8 fr x]
def fLU8 (fr : Bool) (xs : List (List Int)) (i : Nat) : List AV := cLU8 fr (at_ xs i)
def slLU8 (fr : Bool) (xs : List (List Int)) : AV := .sl fr 1 xs.length (fLU8 fr xs)
theorem tagcLU8 (t : Bool) (x : List Int) : taggedL t (cLU8 t x) := by simp [cLU8, taggedL, tagged, tagU8]
theorem tagLU8 (t : Bool) (xs : List (List Int)) : tagged t (slLU8 t xs) := by simp only [slLU8, tagged]; exact ⟨trivial, fun i _ => tagcLU8 t _⟩
theorem lenLU8 (fr : Bool) (xs : List (List Int)) : lenA noOb (slLU8 fr xs) = some xs.length := rfl
theorem idsLU8 (fr : Bool) (x : List Int) : AV.idsL (cLU8 fr x) = [] := rfl
theorem leLU8 (fr : Bool) (x : List Int) (ob : Nat → Option Ob) : leL ob false (cLU8 fr x) (cLU8 false x) := (And.intro (And.intro (fun h => by cases h) (And.intro rfl (And.intro rfl (fun i _ => .inl rfl)))) rfl)
def cU64 (x : Int) : List AV := [.val (.int .u64 x)]
def fU64 (xs : List Int) (i : Nat) : List AV := cU64 (at_ xs i)
def slU64 (fr : Bool) (xs : List Int) : AV := .sl fr 1 xs.length (fU64 xs)
theorem tagcU64 (t : Bool) (x : Int) : taggedL t (cU64 x) := by simp [cU64, taggedL, tagged]
theorem tagU64 (t : Bool) (xs : List Int) : tagged t (slU64 t xs) := by simp only [slU64, tagged]; exact ⟨trivial, fun i _ => tagcU64 t _⟩
theorem lenU64 (fr : Bool) (xs : List Int) : lenA noOb (slU64 fr xs) = some xs.length := rfl
structure l00Src where
  code : List Int
  atx : Int
  seed : Int
deriving DecidableEq, Inhabited
def cl00Src (fr : Bool) (x : l00Src) : List AV := [slU8 fr x.code, I x.atx, .val (.int .u64 x.seed)]
def fl00Src (fr : Bool) (xs : List l00Src) (i : Nat) : List AV := cl00Src fr (at_ xs i)
def sll00Src (fr : Bool) (xs : List l00Src) : AV := .sl fr 3 xs.length (fl00Src fr xs)
theorem tagcl00Src (t : Bool) (x : l00Src) : taggedL t (cl00Src t x) := by simp [cl00Src, taggedL, tagged, tagU8]
theorem tagl00Src (t : Bool) (xs : List l00Src) : tagged t (sll00Src t xs) := by simp only [sll00Src, tagged]; exact ⟨trivial, fun i _ => tagcl00Src t _⟩
theorem lenl00Src (fr : Bool) (xs : List l00Src) : lenA noOb (sll00Src fr xs) = some xs.length := rfl
theorem idsl00Src (fr : Bool) (x : l00Src) : AV.idsL (cl00Src fr x) = [] := rfl
theorem lel00Src (fr : Bool) (x : l00Src) (ob : Nat → Option Ob) : leL ob false (cl00Src fr x) (cl00Src false x) := (And.intro (And.intro (fun h => by cases h) (And.intro rfl (And.intro rfl (fun i _ => .inl rfl)))) (And.intro rfl (And.intro rfl rfl)))
abbrev bxl00Src (x : l00Src) : Ob := .box [slU8 false x.code, I x.atx, .val (.int .u64 x.seed)]
abbrev agl00Src (x : l00Src) : AV := .agg [slU8 false x.code, I x.atx, .val (.int .u64 x.seed)]
abbrev bxl00SrcT (x : l00Src) : Ob := .box [slU8 true x.code, I x.atx, .val (.int .u64 x.seed)]
abbrev agl00SrcT (x : l00Src) : AV := .agg [slU8 true x.code, I x.atx, .val (.int .u64 x.seed)]
structure Box where
  X1 : Int
  Y1 : Int
  X2 : Int
  Y2 : Int
deriving DecidableEq, Inhabited
def cBox (x : Box) : List AV := [I x.X1, I x.Y1, I x.X2, I x.Y2]
def fBox (xs : List Box) (i : Nat) : List AV := cBox (at_ xs i)
def slBox (fr : Bool) (xs : List Box) : AV := .sl fr 4 xs.length (fBox xs)
theorem tagcBox (t : Bool) (x : Box) : taggedL t (cBox x) := by simp [cBox, taggedL, tagged]
theorem tagBox (t : Bool) (xs : List Box) : tagged t (slBox t xs) := by simp only [slBox, tagged]; exact ⟨trivial, fun i _ => tagcBox t _⟩
theorem lenBox (fr : Bool) (xs : List Box) : lenA noOb (slBox fr xs) = some xs.length := rfl
abbrev bxBox (x : Box) : Ob := .box [I x.X1, I x.Y1, I x.X2, I x.Y2]
abbrev agBox (x : Box) : AV := .agg [I x.X1, I x.Y1, I x.X2, I x.Y2]
structure Group where
  From : Int
  To : Int
deriving DecidableEq, Inhabited
def cGroup (x : Group) : List AV := [I x.From, I x.To]
def fGroup (xs : List Group) (i : Nat) : List AV := cGroup (at_ xs i)
def slGroup (fr : Bool) (xs : List Group) : AV := .sl fr 2 xs.length (fGroup xs)
theorem tagcGroup (t : Bool) (x : Group) : taggedL t (cGroup x) := by simp [cGroup, taggedL, tagged]
theorem tagGroup (t : Bool) (xs : List Group) : tagged t (slGroup t xs) := by simp only [slGroup, tagged]; exact ⟨trivial, fun i _ => tagcGroup t _⟩
theorem lenGroup (fr : Bool) (xs : List Group) : lenA noOb (slGroup fr xs) = some xs.length := rfl
abbrev bxGroup (x : Group) : Ob := .box [I x.From, I x.To]
abbrev agGroup (x : Group) : AV := .agg [I x.From, I x.To]

-- laws.a2Long
theorem a2Long_ok (code : List Int) (more : List Int) : Con Try.prog 4 [slU8 false code, slU8 false more] true (Bv (decide (3000 < (code.length : Int) ∨ 3000 < (more.length : Int)))) := by
  refine fn_ok (fn := Try.f4) (nt := 13) Try.func4 rfl rfl rfl rfl (by simp [taggedL, tagged, tagU8]) fun B hB => ?_
  refine aw_lens (x := slU8 false code) 0 rfl (fun len_code => ?_)
  simp [LenOK, LenL, cU8, fU8, slU8] at len_code
  refine aw_lens (x := slU8 false more) 1 rfl (fun len_more => ?_)
  simp [LenOK, LenL, cU8, fU8, slU8] at len_more
  refine aw_seq ?_
  refine aw_reg [] [0, 1] [] [slU8 false code, slU8 false more] [] [] (by kernel_rfl) hB trivial ?_
  refine ae_then ?_
  refine aw_seq ?_
  by_cases h1 : 3000 < (code.length : Int)
  ·refine aw_reg [(2, .dec true)] [4] [] [Bv true] [] [3000 < (code.length : Int)] (by kernel_rfl) hB ⟨h1, trivial⟩ ?_
   refine ae_then ?_
   refine aw_ret ?_
   refine ae_ret hB (Bv true) (by kernel_rfl) (.inl (by refine congrArg Bv ?_; simp [*])) rfl (fun _ => trivial)
  ·refine aw_reg [(2, .dec false)] [4] [] [Bv (decide (3000 < (more.length : Int)))] [] [¬ (3000 < (code.length : Int))] (by kernel_rfl) hB ⟨h1, trivial⟩ ?_
   refine ae_then ?_
   refine aw_ret ?_
   refine ae_ret hB (Bv (decide (3000 < (more.length : Int)))) (by kernel_rfl) (.inl (by refine congrArg Bv ?_; simp [*])) rfl (fun _ => trivial)


theorem set_at {α : Type} [Inhabited α] {ys xs : List α} {i : Int} (hl : ys.length = xs.length) (hi : i.toNat < xs.length) (h : ∀ j : Nat, (j : Int) < i → at_ ys j = at_ xs j) (j : Nat) (hj : j ≤ i.toNat) : at_ (ys.set i.toNat (at_ xs i.toNat)) j = at_ xs j := by
  by_cases e : i.toNat = j
  · subst e; simp [at_, hl, hi]
  · have := h j (by omega)
    simp only [at_] at this ⊢
    rw [← this]
    simp [e]
/-- Whether two things are the same. -/
def same {α : Type} [DecidableEq α] (x y : α) : Bool := decide (x = y)
theorem same_iff {α : Type} [DecidableEq α] {x y : α} : same x y = true ↔ x = y := by simp [same]
theorem ext_at {α : Type} [Inhabited α] {xs ys : List α} (hl : xs.length = ys.length) (h : ∀ j : Nat, j < xs.length → at_ xs j = at_ ys j) : xs = ys := by
  apply List.ext_getElem hl
  intro i h1 h2
  rw [← at_eq h1, ← at_eq h2]
  exact h i h1

theorem at_mem {α : Type} [Inhabited α] {xs : List α} {i : Nat} (h : i < xs.length) : at_ xs i ∈ xs := by rw [at_eq h]; exact List.getElem_mem h

/-- Whether p holds of all numbers below n. -/
def allN (n : Nat) (p : Nat → Bool) : Bool := (List.range n).all p
def anyN (n : Nat) (p : Nat → Bool) : Bool := !(allN n fun j => !(p j))
theorem allN_iff {n : Nat} {p : Nat → Bool} : allN n p = true ↔ ∀ j, j < n → p j = true := by simp [allN, List.all_eq_true]
theorem allN_at {n : Nat} {p : Nat → Bool} (h : ∀ j, j < n → p j = true) : allN n p = true := allN_iff.2 h
theorem allN_get {n : Nat} {p : Nat → Bool} (h : allN n p = true) {k : Nat} (hk : k < n) : p k = true := allN_iff.1 h k hk
theorem allN_not {n : Nat} {p : Nat → Bool} {k : Nat} (hk : k < n) (h : p k = false) : allN n p = false := by
  rw [← Bool.not_eq_true, allN_iff]; intro h'; rw [h' k hk] at h; cases h
theorem anyN_not (n : Nat) (p : Nat → Bool) : anyN n (fun j => !(p j)) = !(allN n p) := by simp [anyN]
theorem anyN_at {n : Nat} {p : Nat → Bool} {k : Nat} (hk : k < n) (h : p k = true) : anyN n p = true := by
  unfold anyN; rw [allN_not hk (by simp [h])]; rfl
theorem anyN_none {n : Nat} {p : Nat → Bool} (h : ∀ j, j < n → p j = false) : anyN n p = false := by
  unfold anyN; rw [allN_at (fun j hj => by simp [h j hj])]; rfl
theorem anyN_iff {n : Nat} {p : Nat → Bool} : anyN n p = true ↔ ∃ j, j < n ∧ p j = true := by
  constructor
  · intro h
    apply Classical.byContradiction
    intro hn
    rw [anyN_none (fun j hj => by rw [← Bool.not_eq_true]; exact fun hp => hn ⟨j, hj, hp⟩)] at h
    cases h
  · rintro ⟨j, hj, hp⟩; exact anyN_at hj hp
theorem up_to {n : Int} {p : Nat → Prop} {i : Int} (hi : 0 ≤ i) (h : ∀ j : Nat, (j : Int) < i → p j) (hp : p i.toNat) : ∀ j : Nat, (j : Int) < i + 1 → p j := fun j hj => by
  by_cases e : j = i.toNat
  · subst e; exact hp
  · exact h j (by omega)

/-- The source of choices is in order: its bytes are bytes, and its place is a number. -/
def okSrc (s : l00Src) : Prop := (∀ j, j < s.code.length → 0 ≤ at_ s.code j ∧ at_ s.code j ≤ 255) ∧ 0 ≤ s.atx ∧ s.code.length ≤ 4611686018427387904
theorem u64_wrap (n : Int) : 0 ≤ IntKind.u64.wrap n ∧ IntKind.u64.wrap n ≤ 18446744073709551615 := by
  simp only [IntKind.wrap, IntKind.signed, IntKind.bits]
  simp
  omega
theorem and_255 (a : Int) : 0 ≤ bitsI .and .u64 a 255 ∧ bitsI .and .u64 a 255 ≤ 255 := by
  obtain ⟨n, hn⟩ : ∃ n : Nat, n = (BitVec.ofInt 64 a &&& BitVec.ofInt 64 255).toNat := ⟨_, rfl⟩
  have h : n ≤ 255 := by rw [hn, BitVec.toNat_and]; exact Nat.and_le_right
  have e : bitsI .and .u64 a 255 = IntKind.u64.wrap (n : Int) := by rw [hn]; rfl
  have w : IntKind.u64.wrap (n : Int) = n := wrap_in (inR_u64 (by omega) (by omega))
  rw [e, w]; omega

-- spec.l00From
theorem l00From_ok (code : List Int) : ∃ (s' : l00Src), (s'.code = code ∧ s'.atx = 0) ∧ CallOK Try.prog 16 [slU8 false code] (lookO []) false (.ref 7001 0) (lookO [(7001, bxl00Src s')]) := by
  have hh : ∃ r : l00Src, ((r.code = code ∧ r.atx = 0) ∧ (True)) ∧ CallOK Try.prog 16 [slU8 false code] (lookO []) false (.ref 7001 0) (lookO [(7001, bxl00Src r)]) := by
    refine fn_okX (Φ := fun r : l00Src => (r.code = code ∧ r.atx = 0) ∧ (True)) [] (fun r => [(7001, bxl00Src r)]) (fn := Try.f16) (nt := 6) Try.func16 rfl rfl (args := [slU8 false code]) rfl (allcons (.inl ⟨rfl, tagU8 false _⟩) allnil) (res := fun r => .ref 7001 0) ?_
    refine x_seq ?_
    refine x_reg [] [0] [] [slU8 false code] [] [] (by kernel_rfl) trivial ?_
    refine xe_then ?_
    refine x_seq ?_
    refine x_reg [(2, .new 7001)] [2] [7001] [.ref 7001 0] [some (.box [slU8 false code, I 0, .val (.int .u64 0)])] [] (by kernel_rfl) trivial ?_
    refine xe_then ?_
    refine x_ret ?_
    refine xe_end (l00Src.mk code 0 0) (show ((l00Src.mk code 0 0).code = code ∧ (l00Src.mk code 0 0).atx = 0) ∧ (True) from ⟨(by first | rfl | (exact ⟨rfl, rfl⟩)), trivial⟩) (⟨.inl rfl, trivial⟩) (.ref 7001 0) (by kernel_rfl) (.inl rfl) (fun h => by cases h) (fun h => by cases h)
  obtain ⟨s', ⟨hh0, _⟩, hc⟩ := hh
  exact ⟨s', hh0, hc⟩


-- spec.l00Src).next
theorem next_ok (s : l00Src) (hs : okSrc s) (ha : s.atx ≤ 4000000000000000000) : ∃ (v : Int) (s' : l00Src), (0 ≤ v ∧ v ≤ 255) ∧ (okSrc s') ∧ (s'.code = s.code) ∧ (s.atx + 1 ≤ s'.atx ∧ s'.atx ≤ s.atx + 1) ∧ CallOK Try.prog 50 [.ref 7001 0] (lookO [(7001, bxl00Src s)]) true (I v) (lookO [(7001, bxl00Src s')]) := by
  have hs0 := hs.2.1
  have hs1 := hs.2.2
  have hh : ∃ r : Int × l00Src, ((0 ≤ r.1 ∧ r.1 ≤ 255) ∧ (okSrc r.2) ∧ (r.2.code = s.code) ∧ (s.atx + 1 ≤ r.2.atx ∧ r.2.atx ≤ s.atx + 1) ∧ (True)) ∧ CallOK Try.prog 50 [.ref 7001 0] (lookO [(7001, bxl00Src s)]) true (I r.1) (lookO [(7001, bxl00Src r.2)]) := by
    refine fn_okX (Φ := fun r : Int × l00Src => (0 ≤ r.1 ∧ r.1 ≤ 255) ∧ (okSrc r.2) ∧ (r.2.code = s.code) ∧ (s.atx + 1 ≤ r.2.atx ∧ r.2.atx ≤ s.atx + 1) ∧ (True)) [(7001, bxl00Src s)] (fun r => [(7001, bxl00Src r.2)]) (fn := Try.f50) (nt := 62) Try.func50 rfl rfl (args := [.ref 7001 0]) rfl (allcons (.inr trivial) allnil) (res := fun r => I r.1) ?_
    refine x_seq ?_
    refine x_reg [] [0] [7001] [.ref 7001 0] [some (bxl00Src s)] [] (by kernel_rfl) trivial ?_
    refine xe_then ?_
    refine x_seq ?_
    refine x_reg [] [0, 3] [7001] [.ref 7001 0, I 0] [some (bxl00Src s)] [] (by kernel_rfl) trivial ?_
    refine xe_then ?_
    refine x_seq ?_
    refine x_seq ?_
    by_cases h1 : s.atx < (s.code.length : Int)
    ·have hbt := hs.1 s.atx.toNat (by omega)
     refine x_reg [(9, .dec true)] [0, 3, 13] [7001] [.ref 7001 0, I 0, Bv true] [some (bxl00Src s)] [s.atx < (s.code.length : Int)] (by kernel_rfl) ⟨h1, trivial⟩ ?_
     refine xe_then ?_
     refine x_true rfl ?_
     refine x_reg [] [0, 3] [7001] [.ref 7001 0, I (at_ s.code s.atx.toNat)] [some (bxl00Src s)] [(0 : Int) ≤ s.atx ∧ s.atx < (s.code.length : Int), inR .i64 (at_ s.code s.atx.toNat)] (by kernel_rfl) ⟨⟨(by omega), (by omega)⟩, (inR_i64 (by omega) (by omega)), trivial⟩ ?_
     refine xe_then ?_
     refine x_seq ?_
     refine x_reg [] [0, 3] [7001] [.ref 7001 0, I (at_ s.code s.atx.toNat)] [some (.box [slU8 false s.code, I (s.atx + 1), .val (.int .u64 s.seed)])] [inR .i64 (s.atx + 1)] (by kernel_rfl) ⟨(inR_i64 (by omega) (by omega)), trivial⟩ ?_
     refine xe_then ?_
     refine x_seq ?_
     refine x_reg [(5, .wrap), (8, .wrap), (9, .wrap)] [0, 3] [7001] [.ref 7001 0, I (at_ s.code s.atx.toNat)] [some (.box [slU8 false s.code, I (s.atx + 1), .val (.int .u64 (IntKind.u64.wrap ((IntKind.u64.wrap ((IntKind.u64.wrap (s.seed * 6364136223846793005)) + (at_ s.code s.atx.toNat))) + 1442695040888963407)))])] [inR .u64 (at_ s.code s.atx.toNat)] (by kernel_rfl) ⟨(inR_u64 (by omega) (by omega)), trivial⟩ ?_
     refine xe_then ?_
     refine x_seq ?_
     refine x_seq ?_
     by_cases h2 : (s.atx + 1) ≤ (s.code.length : Int)
     ·refine x_reg [(9, .dec true)] [0, 3, 53] [7001] [.ref 7001 0, I (at_ s.code s.atx.toNat), Bv true] [some (.box [slU8 false s.code, I (s.atx + 1), .val (.int .u64 (IntKind.u64.wrap ((IntKind.u64.wrap ((IntKind.u64.wrap (s.seed * 6364136223846793005)) + (at_ s.code s.atx.toNat))) + 1442695040888963407)))])] [(s.atx + 1) ≤ (s.code.length : Int)] (by kernel_rfl) ⟨h2, trivial⟩ ?_
      refine xe_then ?_
      refine x_true rfl ?_
      refine x_seq ?_
      refine x_reg [] [2] [7001] [I (at_ s.code s.atx.toNat)] [some (.box [slU8 false s.code, I (s.atx + 1), .val (.int .u64 (IntKind.u64.wrap ((IntKind.u64.wrap ((IntKind.u64.wrap (s.seed * 6364136223846793005)) + (at_ s.code s.atx.toNat))) + 1442695040888963407)))])] [] (by kernel_rfl) trivial ?_
      refine xe_then ?_
      refine x_ret ?_
      refine xe_ret_then ?_
      refine xe_end ((at_ s.code s.atx.toNat), (l00Src.mk s.code (s.atx + 1) (IntKind.u64.wrap ((IntKind.u64.wrap ((IntKind.u64.wrap (s.seed * 6364136223846793005)) + (at_ s.code s.atx.toNat))) + 1442695040888963407)))) (show (0 ≤ (at_ s.code s.atx.toNat) ∧ (at_ s.code s.atx.toNat) ≤ 255) ∧ (okSrc (l00Src.mk s.code (s.atx + 1) (IntKind.u64.wrap ((IntKind.u64.wrap ((IntKind.u64.wrap (s.seed * 6364136223846793005)) + (at_ s.code s.atx.toNat))) + 1442695040888963407)))) ∧ ((l00Src.mk s.code (s.atx + 1) (IntKind.u64.wrap ((IntKind.u64.wrap ((IntKind.u64.wrap (s.seed * 6364136223846793005)) + (at_ s.code s.atx.toNat))) + 1442695040888963407))).code = s.code) ∧ (s.atx + 1 ≤ (l00Src.mk s.code (s.atx + 1) (IntKind.u64.wrap ((IntKind.u64.wrap ((IntKind.u64.wrap (s.seed * 6364136223846793005)) + (at_ s.code s.atx.toNat))) + 1442695040888963407))).atx ∧ (l00Src.mk s.code (s.atx + 1) (IntKind.u64.wrap ((IntKind.u64.wrap ((IntKind.u64.wrap (s.seed * 6364136223846793005)) + (at_ s.code s.atx.toNat))) + 1442695040888963407))).atx ≤ s.atx + 1) ∧ (True) from ⟨(by first | omega | rfl | assumption | (dsimp only; first | omega | rfl | assumption) | (simp only [*]; done) | exact ⟨hs.1, (by dsimp only; omega), hs1⟩), (by first | omega | rfl | assumption | (dsimp only; first | omega | rfl | assumption) | (simp only [*]; done) | exact ⟨hs.1, (by dsimp only; omega), hs1⟩), (by first | omega | rfl | assumption | (dsimp only; first | omega | rfl | assumption) | (simp only [*]; done) | exact ⟨hs.1, (by dsimp only; omega), hs1⟩), (by first | omega | rfl | assumption | (dsimp only; first | omega | rfl | assumption) | (simp only [*]; done) | exact ⟨hs.1, (by dsimp only; omega), hs1⟩), trivial⟩) (⟨.inl rfl, trivial⟩) (I (at_ s.code s.atx.toNat)) (by kernel_rfl) (.inl rfl) (fun _ => rfl) (fun _ => trivial)
     ·refine x_reg [(9, .dec false)] [0, 3, 53] [7001] [.ref 7001 0, I (at_ s.code s.atx.toNat), Bv false] [some (.box [slU8 false s.code, I (s.atx + 1), .val (.int .u64 (IntKind.u64.wrap ((IntKind.u64.wrap ((IntKind.u64.wrap (s.seed * 6364136223846793005)) + (at_ s.code s.atx.toNat))) + 1442695040888963407)))])] [¬ ((s.atx + 1) ≤ (s.code.length : Int))] (by kernel_rfl) ⟨h2, trivial⟩ ?_
      refine xe_then ?_
      refine x_false rfl ?_
      refine x_skip ?_
      refine xe_then ?_
      refine x_seq ?_
      have hb1 := and_255 ((IntKind.u64.wrap ((IntKind.u64.wrap ((IntKind.u64.wrap (s.seed * 6364136223846793005)) + (at_ s.code s.atx.toNat))) + 1442695040888963407)) / 1099511627776)
      refine x_reg [] [2] [7001] [I (bitsI .and .u64 ((IntKind.u64.wrap ((IntKind.u64.wrap ((IntKind.u64.wrap (s.seed * 6364136223846793005)) + (at_ s.code s.atx.toNat))) + 1442695040888963407)) / 1099511627776) 255)] [some (.box [slU8 false s.code, I (s.atx + 1), .val (.int .u64 (IntKind.u64.wrap ((IntKind.u64.wrap ((IntKind.u64.wrap (s.seed * 6364136223846793005)) + (at_ s.code s.atx.toNat))) + 1442695040888963407)))])] [(0 : Int) ≤ 40 ∧ (40 : Int) ≤ ((IntKind.bits .u64 : Nat) : Int), inR .i64 (bitsI .and .u64 ((IntKind.u64.wrap ((IntKind.u64.wrap ((IntKind.u64.wrap (s.seed * 6364136223846793005)) + (at_ s.code s.atx.toNat))) + 1442695040888963407)) / 1099511627776) 255)] (by kernel_rfl) ⟨⟨(by decide), (by decide)⟩, (inR_i64 (by omega) (by omega)), trivial⟩ ?_
      refine xe_then ?_
      refine x_ret ?_
      refine xe_end ((bitsI .and .u64 ((IntKind.u64.wrap ((IntKind.u64.wrap ((IntKind.u64.wrap (s.seed * 6364136223846793005)) + (at_ s.code s.atx.toNat))) + 1442695040888963407)) / 1099511627776) 255), (l00Src.mk s.code (s.atx + 1) (IntKind.u64.wrap ((IntKind.u64.wrap ((IntKind.u64.wrap (s.seed * 6364136223846793005)) + (at_ s.code s.atx.toNat))) + 1442695040888963407)))) (show (0 ≤ (bitsI .and .u64 ((IntKind.u64.wrap ((IntKind.u64.wrap ((IntKind.u64.wrap (s.seed * 6364136223846793005)) + (at_ s.code s.atx.toNat))) + 1442695040888963407)) / 1099511627776) 255) ∧ (bitsI .and .u64 ((IntKind.u64.wrap ((IntKind.u64.wrap ((IntKind.u64.wrap (s.seed * 6364136223846793005)) + (at_ s.code s.atx.toNat))) + 1442695040888963407)) / 1099511627776) 255) ≤ 255) ∧ (okSrc (l00Src.mk s.code (s.atx + 1) (IntKind.u64.wrap ((IntKind.u64.wrap ((IntKind.u64.wrap (s.seed * 6364136223846793005)) + (at_ s.code s.atx.toNat))) + 1442695040888963407)))) ∧ ((l00Src.mk s.code (s.atx + 1) (IntKind.u64.wrap ((IntKind.u64.wrap ((IntKind.u64.wrap (s.seed * 6364136223846793005)) + (at_ s.code s.atx.toNat))) + 1442695040888963407))).code = s.code) ∧ (s.atx + 1 ≤ (l00Src.mk s.code (s.atx + 1) (IntKind.u64.wrap ((IntKind.u64.wrap ((IntKind.u64.wrap (s.seed * 6364136223846793005)) + (at_ s.code s.atx.toNat))) + 1442695040888963407))).atx ∧ (l00Src.mk s.code (s.atx + 1) (IntKind.u64.wrap ((IntKind.u64.wrap ((IntKind.u64.wrap (s.seed * 6364136223846793005)) + (at_ s.code s.atx.toNat))) + 1442695040888963407))).atx ≤ s.atx + 1) ∧ (True) from ⟨(by first | omega | rfl | assumption | (dsimp only; first | omega | rfl | assumption) | (simp only [*]; done) | exact ⟨hs.1, (by dsimp only; omega), hs1⟩), (by first | omega | rfl | assumption | (dsimp only; first | omega | rfl | assumption) | (simp only [*]; done) | exact ⟨hs.1, (by dsimp only; omega), hs1⟩), (by first | omega | rfl | assumption | (dsimp only; first | omega | rfl | assumption) | (simp only [*]; done) | exact ⟨hs.1, (by dsimp only; omega), hs1⟩), (by first | omega | rfl | assumption | (dsimp only; first | omega | rfl | assumption) | (simp only [*]; done) | exact ⟨hs.1, (by dsimp only; omega), hs1⟩), trivial⟩) (⟨.inl rfl, trivial⟩) (I (bitsI .and .u64 ((IntKind.u64.wrap ((IntKind.u64.wrap ((IntKind.u64.wrap (s.seed * 6364136223846793005)) + (at_ s.code s.atx.toNat))) + 1442695040888963407)) / 1099511627776) 255)) (by kernel_rfl) (.inl rfl) (fun _ => rfl) (fun _ => trivial)
    ·refine x_reg [(9, .dec false)] [0, 3, 13] [7001] [.ref 7001 0, I 0, Bv false] [some (bxl00Src s)] [¬ (s.atx < (s.code.length : Int))] (by kernel_rfl) ⟨h1, trivial⟩ ?_
     refine xe_then ?_
     refine x_false rfl ?_
     refine x_skip ?_
     refine xe_then ?_
     refine x_seq ?_
     refine x_reg [] [0, 3] [7001] [.ref 7001 0, I 0] [some (.box [slU8 false s.code, I (s.atx + 1), .val (.int .u64 s.seed)])] [inR .i64 (s.atx + 1)] (by kernel_rfl) ⟨(inR_i64 (by omega) (by omega)), trivial⟩ ?_
     refine xe_then ?_
     refine x_seq ?_
     refine x_reg [(5, .wrap), (8, .wrap), (9, .wrap)] [0, 3] [7001] [.ref 7001 0, I 0] [some (.box [slU8 false s.code, I (s.atx + 1), .val (.int .u64 (IntKind.u64.wrap ((IntKind.u64.wrap ((IntKind.u64.wrap (s.seed * 6364136223846793005)) + 0)) + 1442695040888963407)))])] [inR .u64 0] (by kernel_rfl) ⟨(inR_u64 (by omega) (by omega)), trivial⟩ ?_
     refine xe_then ?_
     refine x_seq ?_
     refine x_seq ?_
     by_cases h3 : (s.atx + 1) ≤ (s.code.length : Int)
     ·refine x_reg [(9, .dec true)] [0, 3, 53] [7001] [.ref 7001 0, I 0, Bv true] [some (.box [slU8 false s.code, I (s.atx + 1), .val (.int .u64 (IntKind.u64.wrap ((IntKind.u64.wrap ((IntKind.u64.wrap (s.seed * 6364136223846793005)) + 0)) + 1442695040888963407)))])] [(s.atx + 1) ≤ (s.code.length : Int)] (by kernel_rfl) ⟨h3, trivial⟩ ?_
      refine xe_then ?_
      refine x_true rfl ?_
      refine x_seq ?_
      refine x_reg [] [2] [7001] [I 0] [some (.box [slU8 false s.code, I (s.atx + 1), .val (.int .u64 (IntKind.u64.wrap ((IntKind.u64.wrap ((IntKind.u64.wrap (s.seed * 6364136223846793005)) + 0)) + 1442695040888963407)))])] [] (by kernel_rfl) trivial ?_
      refine xe_then ?_
      refine x_ret ?_
      refine xe_ret_then ?_
      refine xe_end (0, (l00Src.mk s.code (s.atx + 1) (IntKind.u64.wrap ((IntKind.u64.wrap ((IntKind.u64.wrap (s.seed * 6364136223846793005)) + 0)) + 1442695040888963407)))) (show (0 ≤ 0 ∧ 0 ≤ 255) ∧ (okSrc (l00Src.mk s.code (s.atx + 1) (IntKind.u64.wrap ((IntKind.u64.wrap ((IntKind.u64.wrap (s.seed * 6364136223846793005)) + 0)) + 1442695040888963407)))) ∧ ((l00Src.mk s.code (s.atx + 1) (IntKind.u64.wrap ((IntKind.u64.wrap ((IntKind.u64.wrap (s.seed * 6364136223846793005)) + 0)) + 1442695040888963407))).code = s.code) ∧ (s.atx + 1 ≤ (l00Src.mk s.code (s.atx + 1) (IntKind.u64.wrap ((IntKind.u64.wrap ((IntKind.u64.wrap (s.seed * 6364136223846793005)) + 0)) + 1442695040888963407))).atx ∧ (l00Src.mk s.code (s.atx + 1) (IntKind.u64.wrap ((IntKind.u64.wrap ((IntKind.u64.wrap (s.seed * 6364136223846793005)) + 0)) + 1442695040888963407))).atx ≤ s.atx + 1) ∧ (True) from ⟨(by first | omega | rfl | assumption | (dsimp only; first | omega | rfl | assumption) | (simp only [*]; done) | exact ⟨hs.1, (by dsimp only; omega), hs1⟩), (by first | omega | rfl | assumption | (dsimp only; first | omega | rfl | assumption) | (simp only [*]; done) | exact ⟨hs.1, (by dsimp only; omega), hs1⟩), (by first | omega | rfl | assumption | (dsimp only; first | omega | rfl | assumption) | (simp only [*]; done) | exact ⟨hs.1, (by dsimp only; omega), hs1⟩), (by first | omega | rfl | assumption | (dsimp only; first | omega | rfl | assumption) | (simp only [*]; done) | exact ⟨hs.1, (by dsimp only; omega), hs1⟩), trivial⟩) (⟨.inl rfl, trivial⟩) (I 0) (by kernel_rfl) (.inl rfl) (fun _ => rfl) (fun _ => trivial)
     ·refine x_reg [(9, .dec false)] [0, 3, 53] [7001] [.ref 7001 0, I 0, Bv false] [some (.box [slU8 false s.code, I (s.atx + 1), .val (.int .u64 (IntKind.u64.wrap ((IntKind.u64.wrap ((IntKind.u64.wrap (s.seed * 6364136223846793005)) + 0)) + 1442695040888963407)))])] [¬ ((s.atx + 1) ≤ (s.code.length : Int))] (by kernel_rfl) ⟨h3, trivial⟩ ?_
      refine xe_then ?_
      refine x_false rfl ?_
      refine x_skip ?_
      refine xe_then ?_
      refine x_seq ?_
      have hb2 := and_255 ((IntKind.u64.wrap ((IntKind.u64.wrap ((IntKind.u64.wrap (s.seed * 6364136223846793005)) + 0)) + 1442695040888963407)) / 1099511627776)
      refine x_reg [] [2] [7001] [I (bitsI .and .u64 ((IntKind.u64.wrap ((IntKind.u64.wrap ((IntKind.u64.wrap (s.seed * 6364136223846793005)) + 0)) + 1442695040888963407)) / 1099511627776) 255)] [some (.box [slU8 false s.code, I (s.atx + 1), .val (.int .u64 (IntKind.u64.wrap ((IntKind.u64.wrap ((IntKind.u64.wrap (s.seed * 6364136223846793005)) + 0)) + 1442695040888963407)))])] [(0 : Int) ≤ 40 ∧ (40 : Int) ≤ ((IntKind.bits .u64 : Nat) : Int), inR .i64 (bitsI .and .u64 ((IntKind.u64.wrap ((IntKind.u64.wrap ((IntKind.u64.wrap (s.seed * 6364136223846793005)) + 0)) + 1442695040888963407)) / 1099511627776) 255)] (by kernel_rfl) ⟨⟨(by decide), (by decide)⟩, (inR_i64 (by omega) (by omega)), trivial⟩ ?_
      refine xe_then ?_
      refine x_ret ?_
      refine xe_end ((bitsI .and .u64 ((IntKind.u64.wrap ((IntKind.u64.wrap ((IntKind.u64.wrap (s.seed * 6364136223846793005)) + 0)) + 1442695040888963407)) / 1099511627776) 255), (l00Src.mk s.code (s.atx + 1) (IntKind.u64.wrap ((IntKind.u64.wrap ((IntKind.u64.wrap (s.seed * 6364136223846793005)) + 0)) + 1442695040888963407)))) (show (0 ≤ (bitsI .and .u64 ((IntKind.u64.wrap ((IntKind.u64.wrap ((IntKind.u64.wrap (s.seed * 6364136223846793005)) + 0)) + 1442695040888963407)) / 1099511627776) 255) ∧ (bitsI .and .u64 ((IntKind.u64.wrap ((IntKind.u64.wrap ((IntKind.u64.wrap (s.seed * 6364136223846793005)) + 0)) + 1442695040888963407)) / 1099511627776) 255) ≤ 255) ∧ (okSrc (l00Src.mk s.code (s.atx + 1) (IntKind.u64.wrap ((IntKind.u64.wrap ((IntKind.u64.wrap (s.seed * 6364136223846793005)) + 0)) + 1442695040888963407)))) ∧ ((l00Src.mk s.code (s.atx + 1) (IntKind.u64.wrap ((IntKind.u64.wrap ((IntKind.u64.wrap (s.seed * 6364136223846793005)) + 0)) + 1442695040888963407))).code = s.code) ∧ (s.atx + 1 ≤ (l00Src.mk s.code (s.atx + 1) (IntKind.u64.wrap ((IntKind.u64.wrap ((IntKind.u64.wrap (s.seed * 6364136223846793005)) + 0)) + 1442695040888963407))).atx ∧ (l00Src.mk s.code (s.atx + 1) (IntKind.u64.wrap ((IntKind.u64.wrap ((IntKind.u64.wrap (s.seed * 6364136223846793005)) + 0)) + 1442695040888963407))).atx ≤ s.atx + 1) ∧ (True) from ⟨(by first | omega | rfl | assumption | (dsimp only; first | omega | rfl | assumption) | (simp only [*]; done) | exact ⟨hs.1, (by dsimp only; omega), hs1⟩), (by first | omega | rfl | assumption | (dsimp only; first | omega | rfl | assumption) | (simp only [*]; done) | exact ⟨hs.1, (by dsimp only; omega), hs1⟩), (by first | omega | rfl | assumption | (dsimp only; first | omega | rfl | assumption) | (simp only [*]; done) | exact ⟨hs.1, (by dsimp only; omega), hs1⟩), (by first | omega | rfl | assumption | (dsimp only; first | omega | rfl | assumption) | (simp only [*]; done) | exact ⟨hs.1, (by dsimp only; omega), hs1⟩), trivial⟩) (⟨.inl rfl, trivial⟩) (I (bitsI .and .u64 ((IntKind.u64.wrap ((IntKind.u64.wrap ((IntKind.u64.wrap (s.seed * 6364136223846793005)) + 0)) + 1442695040888963407)) / 1099511627776) 255)) (by kernel_rfl) (.inl rfl) (fun _ => rfl) (fun _ => trivial)
  obtain ⟨⟨v, s'⟩, ⟨hh0, hh1, hh2, hh3, _⟩, hc⟩ := hh
  exact ⟨v, s', hh0, hh1, hh2, hh3, hc⟩


-- spec.l00Src).pick
theorem pick_ok (s : l00Src) (n : Int) (hs : okSrc s) (ha : s.atx ≤ 3999999999999999990) : ∃ (v : Int) (s' : l00Src), (0 ≤ v ∧ (v < n ∨ v = 0)) ∧ (okSrc s') ∧ (s'.code = s.code) ∧ (s.atx + 0 ≤ s'.atx ∧ s'.atx ≤ s.atx + 2) ∧ CallOK Try.prog 36 [.ref 7001 0, I n] (lookO [(7001, bxl00Src s)]) true (I v) (lookO [(7001, bxl00Src s')]) := by
  have hs0 := hs.2.1
  have hs1 := hs.2.2
  have hh : ∃ r : Int × l00Src, ((0 ≤ r.1 ∧ (r.1 < n ∨ r.1 = 0)) ∧ (okSrc r.2) ∧ (r.2.code = s.code) ∧ (s.atx + 0 ≤ r.2.atx ∧ r.2.atx ≤ s.atx + 2) ∧ (True)) ∧ CallOK Try.prog 36 [.ref 7001 0, I n] (lookO [(7001, bxl00Src s)]) true (I r.1) (lookO [(7001, bxl00Src r.2)]) := by
    refine fn_okX (Φ := fun r : Int × l00Src => (0 ≤ r.1 ∧ (r.1 < n ∨ r.1 = 0)) ∧ (okSrc r.2) ∧ (r.2.code = s.code) ∧ (s.atx + 0 ≤ r.2.atx ∧ r.2.atx ≤ s.atx + 2) ∧ (True)) [(7001, bxl00Src s)] (fun r => [(7001, bxl00Src r.2)]) (fn := Try.f36) (nt := 20) Try.func36 rfl rfl (args := [.ref 7001 0, I n]) rfl (allcons (.inr trivial) (allcons (.inl ⟨rfl, trivial⟩) allnil)) (res := fun r => I r.1) ?_
    refine x_seq ?_
    refine x_reg [] [0, 1] [7001] [.ref 7001 0, I n] [some (bxl00Src s)] [] (by kernel_rfl) trivial ?_
    refine xe_then ?_
    refine x_seq ?_
    refine x_seq ?_
    by_cases h1 : n ≤ 1
    ·refine x_reg [(1, .dec true)] [0, 1, 7] [7001] [.ref 7001 0, I n, Bv true] [some (bxl00Src s)] [n ≤ 1] (by kernel_rfl) ⟨h1, trivial⟩ ?_
     refine xe_then ?_
     refine x_true rfl ?_
     refine x_seq ?_
     refine x_reg [] [4] [7001] [I 0] [some (bxl00Src s)] [] (by kernel_rfl) trivial ?_
     refine xe_then ?_
     refine x_ret ?_
     refine xe_ret_then ?_
     refine xe_end (0, s) (show (0 ≤ 0 ∧ (0 < n ∨ 0 = 0)) ∧ (okSrc s) ∧ (s.code = s.code) ∧ (s.atx + 0 ≤ s.atx ∧ s.atx ≤ s.atx + 2) ∧ (True) from ⟨(by first | omega | rfl | assumption | (dsimp only; first | omega | rfl | assumption) | (simp only [*]; done) | exact ⟨Int.emod_nonneg _ (by omega), .inl (Int.emod_lt_of_pos _ (by omega))⟩), (by first | omega | rfl | assumption | (dsimp only; first | omega | rfl | assumption) | (simp only [*]; done) | exact ⟨Int.emod_nonneg _ (by omega), .inl (Int.emod_lt_of_pos _ (by omega))⟩), (by first | omega | rfl | assumption | (dsimp only; first | omega | rfl | assumption) | (simp only [*]; done) | exact ⟨Int.emod_nonneg _ (by omega), .inl (Int.emod_lt_of_pos _ (by omega))⟩), (by first | omega | rfl | assumption | (dsimp only; first | omega | rfl | assumption) | (simp only [*]; done) | exact ⟨Int.emod_nonneg _ (by omega), .inl (Int.emod_lt_of_pos _ (by omega))⟩), trivial⟩) (⟨.inl rfl, trivial⟩) (I 0) (by kernel_rfl) (.inl rfl) (fun _ => rfl) (fun _ => trivial)
    ·refine x_reg [(1, .dec false)] [0, 1, 7] [7001] [.ref 7001 0, I n, Bv false] [some (bxl00Src s)] [¬ (n ≤ 1)] (by kernel_rfl) ⟨h1, trivial⟩ ?_
     refine xe_then ?_
     refine x_false rfl ?_
     refine x_skip ?_
     refine xe_then ?_
     refine x_seq ?_
     obtain ⟨v_1, s'_1, hx1_0, hx1_1, hx1_2, hx1_3, hc1⟩ := next_ok s (by first | assumption | (simp only [okSrc] at *; simp_all; done)) (by omega)
     refine x_reg [(1, .lend [(7001, bxl00Src s, bxl00Src s'_1)] [] [(true, .ref 7001 0)] true (I v_1))] [0, 1, 5] [7001] [.ref 7001 0, I n, I v_1] [some (bxl00Src s'_1)] [CallOK Try.prog 50 [.ref 7001 0] (lookO [(7001, bxl00Src s)]) true (I v_1) (lookO [(7001, bxl00Src s'_1)]) ∧ ((.ref 7001 0 : AV) = .ref 7001 0) ∧ (((bxl00Src s : Ob) = bxl00Src s ∨ obLe noOb true (bxl00Src s) (bxl00Src s)) ∧ taggedO false (bxl00Src s)) ∧ True] (by kernel_rfl) ⟨⟨hc1, rfl, ⟨.inl rfl, (by simp [taggedO, taggedL, tagged, tagU8])⟩, trivial⟩, trivial⟩ ?_
     refine xe_then ?_
     refine x_seq ?_
     refine x_seq ?_
     by_cases h2 : 200 < n
     ·refine x_reg [(1, .dec true)] [0, 1, 5, 11] [7001] [.ref 7001 0, I n, I v_1, Bv true] [some (bxl00Src s'_1)] [200 < n] (by kernel_rfl) ⟨h2, trivial⟩ ?_
      refine xe_then ?_
      refine x_true rfl ?_
      obtain ⟨v_2, s'_2, hx2_0, hx2_1, hx2_2, hx2_3, hc2⟩ := next_ok s'_1 (by first | assumption | (simp only [okSrc] at *; simp_all; done)) (by omega)
      refine x_reg [(3, .lend [(7001, bxl00Src s'_1, bxl00Src s'_2)] [] [(true, .ref 7001 0)] true (I v_2))] [1, 5] [7001] [I n, I ((v_1 * 256) + v_2)] [some (bxl00Src s'_2)] [inR .i64 (v_1 * 256), CallOK Try.prog 50 [.ref 7001 0] (lookO [(7001, bxl00Src s'_1)]) true (I v_2) (lookO [(7001, bxl00Src s'_2)]) ∧ ((.ref 7001 0 : AV) = .ref 7001 0) ∧ (((bxl00Src s'_1 : Ob) = bxl00Src s'_1 ∨ obLe noOb true (bxl00Src s'_1) (bxl00Src s'_1)) ∧ taggedO false (bxl00Src s'_1)) ∧ True, inR .i64 ((v_1 * 256) + v_2)] (by kernel_rfl) ⟨(inR_i64 (by omega) (by omega)), ⟨hc2, rfl, ⟨.inl rfl, (by simp [taggedO, taggedL, tagged, tagU8])⟩, trivial⟩, (inR_i64 (by omega) (by omega)), trivial⟩ ?_
      refine xe_then ?_
      refine x_seq ?_
      refine x_reg [(2, .nn)] [4] [7001] [I (((v_1 * 256) + v_2) % n)] [some (bxl00Src s'_2)] [(0 : Int) ≤ ((v_1 * 256) + v_2) ∧ (0 : Int) < n] (by kernel_rfl) ⟨⟨(by omega), (by omega)⟩, trivial⟩ ?_
      refine xe_then ?_
      refine x_ret ?_
      refine xe_end ((((v_1 * 256) + v_2) % n), s'_2) (show (0 ≤ (((v_1 * 256) + v_2) % n) ∧ ((((v_1 * 256) + v_2) % n) < n ∨ (((v_1 * 256) + v_2) % n) = 0)) ∧ (okSrc s'_2) ∧ (s'_2.code = s.code) ∧ (s.atx + 0 ≤ s'_2.atx ∧ s'_2.atx ≤ s.atx + 2) ∧ (True) from ⟨(by first | omega | rfl | assumption | (dsimp only; first | omega | rfl | assumption) | (simp only [*]; done) | exact ⟨Int.emod_nonneg _ (by omega), .inl (Int.emod_lt_of_pos _ (by omega))⟩), (by first | omega | rfl | assumption | (dsimp only; first | omega | rfl | assumption) | (simp only [*]; done) | exact ⟨Int.emod_nonneg _ (by omega), .inl (Int.emod_lt_of_pos _ (by omega))⟩), (by first | omega | rfl | assumption | (dsimp only; first | omega | rfl | assumption) | (simp only [*]; done) | exact ⟨Int.emod_nonneg _ (by omega), .inl (Int.emod_lt_of_pos _ (by omega))⟩), (by first | omega | rfl | assumption | (dsimp only; first | omega | rfl | assumption) | (simp only [*]; done) | exact ⟨Int.emod_nonneg _ (by omega), .inl (Int.emod_lt_of_pos _ (by omega))⟩), trivial⟩) (⟨.inl rfl, trivial⟩) (I (((v_1 * 256) + v_2) % n)) (by kernel_rfl) (.inl rfl) (fun _ => rfl) (fun _ => trivial)
     ·refine x_reg [(1, .dec false)] [0, 1, 5, 11] [7001] [.ref 7001 0, I n, I v_1, Bv false] [some (bxl00Src s'_1)] [¬ (200 < n)] (by kernel_rfl) ⟨h2, trivial⟩ ?_
      refine xe_then ?_
      refine x_false rfl ?_
      refine x_skip ?_
      refine xe_then ?_
      refine x_seq ?_
      refine x_reg [(2, .nn)] [4] [7001] [I (v_1 % n)] [some (bxl00Src s'_1)] [(0 : Int) ≤ v_1 ∧ (0 : Int) < n] (by kernel_rfl) ⟨⟨(by omega), (by omega)⟩, trivial⟩ ?_
      refine xe_then ?_
      refine x_ret ?_
      refine xe_end ((v_1 % n), s'_1) (show (0 ≤ (v_1 % n) ∧ ((v_1 % n) < n ∨ (v_1 % n) = 0)) ∧ (okSrc s'_1) ∧ (s'_1.code = s.code) ∧ (s.atx + 0 ≤ s'_1.atx ∧ s'_1.atx ≤ s.atx + 2) ∧ (True) from ⟨(by first | omega | rfl | assumption | (dsimp only; first | omega | rfl | assumption) | (simp only [*]; done) | exact ⟨Int.emod_nonneg _ (by omega), .inl (Int.emod_lt_of_pos _ (by omega))⟩), (by first | omega | rfl | assumption | (dsimp only; first | omega | rfl | assumption) | (simp only [*]; done) | exact ⟨Int.emod_nonneg _ (by omega), .inl (Int.emod_lt_of_pos _ (by omega))⟩), (by first | omega | rfl | assumption | (dsimp only; first | omega | rfl | assumption) | (simp only [*]; done) | exact ⟨Int.emod_nonneg _ (by omega), .inl (Int.emod_lt_of_pos _ (by omega))⟩), (by first | omega | rfl | assumption | (dsimp only; first | omega | rfl | assumption) | (simp only [*]; done) | exact ⟨Int.emod_nonneg _ (by omega), .inl (Int.emod_lt_of_pos _ (by omega))⟩), trivial⟩) (⟨.inl rfl, trivial⟩) (I (v_1 % n)) (by kernel_rfl) (.inl rfl) (fun _ => rfl) (fun _ => trivial)
  obtain ⟨⟨v, s'⟩, ⟨hh0, hh1, hh2, hh3, _⟩, hc⟩ := hh
  exact ⟨v, s', hh0, hh1, hh2, hh3, hc⟩


-- spec.l00Src).one
theorem one_ok (s : l00Src) (n : Int) (hs : okSrc s) (ha : s.atx ≤ 3999999999999999980) : ∃ (v : Bool) (s' : l00Src), (okSrc s') ∧ (s'.code = s.code) ∧ (s.atx + 0 ≤ s'.atx ∧ s'.atx ≤ s.atx + 2) ∧ CallOK Try.prog 17 [.ref 7001 0, I n] (lookO [(7001, bxl00Src s)]) true (Bv v) (lookO [(7001, bxl00Src s')]) := by
  have hh : ∃ r : Bool × l00Src, ((okSrc r.2) ∧ (r.2.code = s.code) ∧ (s.atx + 0 ≤ r.2.atx ∧ r.2.atx ≤ s.atx + 2) ∧ (True)) ∧ CallOK Try.prog 17 [.ref 7001 0, I n] (lookO [(7001, bxl00Src s)]) true (Bv r.1) (lookO [(7001, bxl00Src r.2)]) := by
    refine fn_okX (Φ := fun r : Bool × l00Src => (okSrc r.2) ∧ (r.2.code = s.code) ∧ (s.atx + 0 ≤ r.2.atx ∧ r.2.atx ≤ s.atx + 2) ∧ (True)) [(7001, bxl00Src s)] (fun r => [(7001, bxl00Src r.2)]) (fn := Try.f17) (nt := 9) Try.func17 rfl rfl (args := [.ref 7001 0, I n]) rfl (allcons (.inr trivial) (allcons (.inl ⟨rfl, trivial⟩) allnil)) (res := fun r => Bv r.1) ?_
    refine x_seq ?_
    refine x_reg [] [0, 1] [7001] [.ref 7001 0, I n] [some (bxl00Src s)] [] (by kernel_rfl) trivial ?_
    refine xe_then ?_
    refine x_seq ?_
    obtain ⟨v_1, s'_1, hx1_0, hx1_1, hx1_2, hx1_3, hc1⟩ := pick_ok s n (by first | assumption | (simp only [okSrc] at *; simp_all; done)) (by omega)
    refine x_reg [(2, .lend [(7001, bxl00Src s, bxl00Src s'_1)] [] [(true, .ref 7001 0), (true, I n)] true (I v_1))] [4] [7001] [Bv (decide (v_1 = 0))] [some (bxl00Src s'_1)] [CallOK Try.prog 36 [.ref 7001 0, I n] (lookO [(7001, bxl00Src s)]) true (I v_1) (lookO [(7001, bxl00Src s'_1)]) ∧ ((.ref 7001 0 : AV) = .ref 7001 0) ∧ ((I n : AV) = I n) ∧ (((bxl00Src s : Ob) = bxl00Src s ∨ obLe noOb true (bxl00Src s) (bxl00Src s)) ∧ taggedO false (bxl00Src s)) ∧ True] (by kernel_rfl) ⟨⟨hc1, rfl, rfl, ⟨.inl rfl, (by simp [taggedO, taggedL, tagged, tagU8])⟩, trivial⟩, trivial⟩ ?_
    refine xe_then ?_
    refine x_ret ?_
    refine xe_end (decide (v_1 = 0), s'_1) (show (okSrc s'_1) ∧ (s'_1.code = s.code) ∧ (s.atx + 0 ≤ s'_1.atx ∧ s'_1.atx ≤ s.atx + 2) ∧ (True) from ⟨(by first | omega | rfl | assumption | (dsimp only; first | omega | rfl | assumption) | (simp only [*]; done) | (simp_all; done)), (by first | omega | rfl | assumption | (dsimp only; first | omega | rfl | assumption) | (simp only [*]; done) | (simp_all; done)), (by first | omega | rfl | assumption | (dsimp only; first | omega | rfl | assumption) | (simp only [*]; done) | (simp_all; done)), trivial⟩) (⟨.inl rfl, trivial⟩) (Bv (decide (v_1 = 0))) (by kernel_rfl) (.inl rfl) (fun _ => rfl) (fun _ => trivial)
  obtain ⟨⟨v, s'⟩, ⟨hh0, hh1, hh2, _⟩, hc⟩ := hh
  exact ⟨v, s', hh0, hh1, hh2, hc⟩


-- spec.l00Min
theorem l00Min_ok (a : Int) (b : Int) : Con Try.prog 51 [I a, I b] true (I (min a b)) := by
  refine fn_ok (fn := Try.f51) (nt := 10) Try.func51 rfl rfl rfl rfl (by simp [taggedL, tagged]) fun B hB => ?_
  refine aw_seq ?_
  refine aw_reg [] [0, 1] [] [I a, I b] [] [] (by kernel_rfl) hB trivial ?_
  refine ae_then ?_
  refine aw_seq ?_
  refine aw_seq ?_
  by_cases h1 : a < b
  ·refine aw_reg [(2, .dec true)] [0, 1, 7] [] [I a, I b, Bv true] [] [a < b] (by kernel_rfl) hB ⟨h1, trivial⟩ ?_
   refine ae_then ?_
   refine aw_true rfl ?_
   refine aw_seq ?_
   refine aw_reg [] [4] [] [I a] [] [] (by kernel_rfl) hB trivial ?_
   refine ae_then ?_
   refine aw_ret ?_
   refine ae_ret_then ?_
   refine ae_ret hB (I a) (by kernel_rfl) (.inl (by refine congrArg I ?_; omega)) rfl (fun _ => trivial)
  ·refine aw_reg [(2, .dec false)] [0, 1, 7] [] [I a, I b, Bv false] [] [¬ (a < b)] (by kernel_rfl) hB ⟨h1, trivial⟩ ?_
   refine ae_then ?_
   refine aw_false rfl ?_
   refine aw_skip ?_
   refine ae_then ?_
   refine aw_seq ?_
   refine aw_reg [] [4] [] [I b] [] [] (by kernel_rfl) hB trivial ?_
   refine ae_then ?_
   refine aw_ret ?_
   refine ae_ret hB (I b) (by kernel_rfl) (.inl (by refine congrArg I ?_; omega)) rfl (fun _ => trivial)


-- spec.l00Max
theorem l00Max_ok (a : Int) (b : Int) : Con Try.prog 47 [I a, I b] true (I (max a b)) := by
  refine fn_ok (fn := Try.f47) (nt := 10) Try.func47 rfl rfl rfl rfl (by simp [taggedL, tagged]) fun B hB => ?_
  refine aw_seq ?_
  refine aw_reg [] [0, 1] [] [I a, I b] [] [] (by kernel_rfl) hB trivial ?_
  refine ae_then ?_
  refine aw_seq ?_
  refine aw_seq ?_
  by_cases h1 : b < a
  ·refine aw_reg [(2, .dec true)] [0, 1, 7] [] [I a, I b, Bv true] [] [b < a] (by kernel_rfl) hB ⟨h1, trivial⟩ ?_
   refine ae_then ?_
   refine aw_true rfl ?_
   refine aw_seq ?_
   refine aw_reg [] [4] [] [I a] [] [] (by kernel_rfl) hB trivial ?_
   refine ae_then ?_
   refine aw_ret ?_
   refine ae_ret_then ?_
   refine ae_ret hB (I a) (by kernel_rfl) (.inl (by refine congrArg I ?_; omega)) rfl (fun _ => trivial)
  ·refine aw_reg [(2, .dec false)] [0, 1, 7] [] [I a, I b, Bv false] [] [¬ (b < a)] (by kernel_rfl) hB ⟨h1, trivial⟩ ?_
   refine ae_then ?_
   refine aw_false rfl ?_
   refine aw_skip ?_
   refine ae_then ?_
   refine aw_seq ?_
   refine aw_reg [] [4] [] [I b] [] [] (by kernel_rfl) hB trivial ?_
   refine ae_then ?_
   refine aw_ret ?_
   refine ae_ret hB (I b) (by kernel_rfl) (.inl (by refine congrArg I ?_; omega)) rfl (fun _ => trivial)


def inB (a l h : Int) : Bool := decide (l ≤ a ∧ a ≤ h)
theorem inB_iff {a l h : Int} : inB a l h = true ↔ l ≤ a ∧ a ≤ h := by simp [inB]
theorem bAt_bd (s : ByteArray) (i : Nat) : 0 ≤ bAt s i ∧ bAt s i ≤ 255 := by
  unfold bAt
  have := (s.data.toList.getD i 0).toNat_lt
  omega

def okP (p : Point) : Bool := inB p.X 0 4095 && (inB p.Y 0 4095 && inB p.T 0 3600000)
theorem okP_iff {p : Point} : okP p = true ↔ (0 ≤ p.X ∧ p.X ≤ 4095) ∧ (0 ≤ p.Y ∧ p.Y ≤ 4095) ∧ (0 ≤ p.T ∧ p.T ≤ 3600000) := by simp [okP, inB, and_assoc]
/-- Whether the point at j is valid, and later than the one ahead of it. -/
def okPt (xs : List Point) (j : Nat) : Bool := okP (at_ xs j) && (decide (j = 0) || decide ((at_ xs (j - 1)).T < (at_ xs j).T))
def okStroke' (s : Stroke) : Bool := decide (1 ≤ (s.Points.length : Int) ∧ (s.Points.length : Int) ≤ 60) && allN s.Points.length (okPt s.Points)
theorem okPt_no {xs : List Point} {i : Int} (hi : 0 < i) (h : (at_ xs i.toNat).T ≤ (at_ xs (i - 1).toNat).T) : okPt xs i.toNat = false := by
  have e : (i - 1).toNat = i.toNat - 1 := by omega
  rw [e] at h
  have : ¬ i.toNat = 0 := by omega
  simp [okPt, this]; intro _; omega
theorem okPt_bad {xs : List Point} {j : Nat} (h : okP (at_ xs j) = false) : okPt xs j = false := by simp [okPt, h]
theorem okPt_yes {xs : List Point} {i : Int} (h1 : okP (at_ xs i.toNat) = true) (hi : 0 < i) (h : ¬ (at_ xs i.toNat).T ≤ (at_ xs (i - 1).toNat).T) : okPt xs i.toNat = true := by
  have e : (i - 1).toNat = i.toNat - 1 := by omega
  rw [e] at h
  simp [okPt, h1]; right; omega
theorem okPt_zero {xs : List Point} {i : Int} (h1 : okP (at_ xs i.toNat) = true) (h0 : 0 ≤ i) (hi : ¬ 0 < i) : okPt xs i.toNat = true := by
  have : i.toNat = 0 := by omega
  simp [okPt, this] at h1 ⊢; exact h1
theorem okS_at {s : Stroke} (h : okStroke' s = true) {j : Nat} (hj : j < s.Points.length) : okP (at_ s.Points j) = true := by
  simp only [okStroke', Bool.and_eq_true] at h
  have := allN_get h.2 hj
  simp only [okPt, Bool.and_eq_true] at this
  exact this.1
theorem okS_T {s : Stroke} (h : okStroke' s = true) {j : Nat} (hj : j < s.Points.length) (h0 : 0 < j) : (at_ s.Points (j - 1)).T < (at_ s.Points j).T := by
  simp only [okStroke', Bool.and_eq_true] at h
  have := allN_get h.2 hj
  simp only [okPt, Bool.and_eq_true, Bool.or_eq_true, decide_eq_true_eq] at this
  omega
theorem okS_len {s : Stroke} (h : okStroke' s = true) : 1 ≤ (s.Points.length : Int) ∧ (s.Points.length : Int) ≤ 60 := by
  simp only [okStroke', Bool.and_eq_true, decide_eq_true_eq] at h
  exact h.1

/-- The time of a stroke's last point. -/
def lastT (s : Stroke) : Int := (at_ s.Points (s.Points.length - 1)).T
/-- Whether the stroke at j is valid, and later than the one ahead of it. -/
def okSA (xs : List Stroke) (j : Nat) : Bool := okStroke' (at_ xs j) && (decide (j = 0) || decide (lastT (at_ xs (j - 1)) < (at_ (at_ xs j).Points 0).T))
def okInk' (x : Ink) : Bool := decide ((x.Strokes.length : Int) ≤ 16) && allN x.Strokes.length (okSA x.Strokes)
theorem okSA_bad {xs : List Stroke} {j : Nat} (h : okStroke' (at_ xs j) = false) : okSA xs j = false := by simp [okSA, h]
theorem okSA_no {xs : List Stroke} {i : Int} (hi : 0 < i) (h : (at_ (at_ xs i.toNat).Points 0).T ≤ (at_ (at_ xs (i - 1).toNat).Points ((at_ xs (i - 1).toNat).Points.length - 1)).T) : okSA xs i.toNat = false := by
  have e : (i - 1).toNat = i.toNat - 1 := by omega
  rw [e] at h
  have : ¬ i.toNat = 0 := by omega
  unfold okSA lastT; simp [this]; intro _; omega
theorem okSA_yes {xs : List Stroke} {i : Int} (h1 : okStroke' (at_ xs i.toNat) = true) (hi : 0 < i) (h : ¬ (at_ (at_ xs i.toNat).Points 0).T ≤ (at_ (at_ xs (i - 1).toNat).Points ((at_ xs (i - 1).toNat).Points.length - 1)).T) : okSA xs i.toNat = true := by
  have e : (i - 1).toNat = i.toNat - 1 := by omega
  rw [e] at h
  unfold okSA lastT; simp [h1]; right; omega
theorem okSA_zero {xs : List Stroke} {i : Int} (h1 : okStroke' (at_ xs i.toNat) = true) (h0 : 0 ≤ i) (hi : ¬ 0 < i) : okSA xs i.toNat = true := by
  have : i.toNat = 0 := by omega
  simp [okSA, this] at h1 ⊢; exact h1
theorem okSA_ok {xs : List Stroke} {j : Nat} (h : okSA xs j = true) : okStroke' (at_ xs j) = true := by
  simp only [okSA, Bool.and_eq_true] at h; exact h.1
theorem okI_all {x : Ink} (h : okInk' x = true) : ∀ j, j < x.Strokes.length → okStroke' (at_ x.Strokes j) = true := by
  simp only [okInk', Bool.and_eq_true] at h
  exact fun j hj => okSA_ok (allN_get h.2 hj)
theorem okI_mem {x : Ink} (h : okInk' x = true) : ∀ s ∈ x.Strokes, okStroke' s = true := by
  intro s hs
  obtain ⟨j, hj, e⟩ := List.getElem_of_mem hs
  have := okI_all h j hj
  simpa [at_, hj, e] using this
theorem okI_len {x : Ink} (h : okInk' x = true) : (x.Strokes.length : Int) ≤ 16 := by
  simp only [okInk', Bool.and_eq_true, decide_eq_true_eq] at h
  exact h.1

theorem last_mem {α : Type} [Inhabited α] {xs : List α} (h : 1 ≤ xs.length) : at_ xs (xs.length - 1) ∈ xs := at_mem (by omega)
theorem first_mem {α : Type} [Inhabited α] {xs : List α} (h : 1 ≤ xs.length) : at_ xs 0 ∈ xs := at_mem (by omega)
theorem all_snoc {α : Type} {P : α → Prop} {xs : List α} {x : α} (h : ∀ y ∈ xs, P y) (hx : P x) : ∀ y ∈ xs ++ [x], P y := by
  intro y hy
  rcases List.mem_append.1 hy with h1 | h1
  · exact h y h1
  · simp at h1; subst h1; exact hx

theorem okS_of {pts : List Point} (h1 : 1 ≤ (pts.length : Int)) (h2 : (pts.length : Int) ≤ 60) (hp : ∀ p ∈ pts, okP p = true) (hw : pts.Pairwise fun p q => p.T < q.T) : okStroke' ⟨pts⟩ = true := by
  simp only [okStroke', Bool.and_eq_true, decide_eq_true_eq]
  refine ⟨⟨h1, h2⟩, allN_at fun j hj => ?_⟩
  simp only [okPt, Bool.and_eq_true, Bool.or_eq_true, decide_eq_true_eq]
  refine ⟨hp _ (at_mem hj), ?_⟩
  by_cases e : j = 0
  · exact .inl e
  · right
    have := List.pairwise_iff_getElem.1 hw (j - 1) j (by omega) hj (by omega)
    rw [at_eq (by omega), at_eq hj]; exact this
/-- Points that were drawn, before a time. -/
def dpts (pts : List Point) (t : Int) : Prop := (∀ p ∈ pts, p.T < t) ∧ pts.Pairwise fun p q => p.T < q.T
theorem dpts_nil (t : Int) : dpts [] t := ⟨fun _ h => by simp at h, .nil⟩
theorem dpts_snoc {pts : List Point} {p : Point} {t t' : Int} (h : dpts pts t) (e : p.T = t) (ht : t < t') : dpts (pts ++ [p]) t' := by
  refine ⟨all_snoc (fun q hq => Int.lt_trans (h.1 q hq) ht) (by omega), ?_⟩
  rw [List.pairwise_append]
  refine ⟨h.2, List.pairwise_singleton _ _, fun q hq r hr => ?_⟩
  simp at hr; subst hr; rw [e]; exact h.1 q hq
/-- Ink that was drawn, before a time. -/
def inkD (ss : List Stroke) (t : Int) : Prop := okInk' ⟨ss⟩ = true ∧ ∀ s ∈ ss, lastT s < t
theorem inkD_nil (t : Int) : inkD [] t := ⟨rfl, fun _ h => by simp at h⟩
theorem inkD_snoc {ss : List Stroke} {s : Stroke} {t t' : Int} (h : inkD ss t) (hs : okStroke' s = true) (hf : ∀ p ∈ s.Points, t ≤ p.T) (hl : lastT s < t') (ht : t ≤ t') (hn : ss.length ≤ 15) : inkD (ss ++ [s]) t' := by
  obtain ⟨h1, h2⟩ := h
  refine ⟨?_, all_snoc (fun q hq => Int.lt_of_lt_of_le (h2 q hq) ht) hl⟩
  simp only [okInk', Bool.and_eq_true, decide_eq_true_eq] at h1 ⊢
  refine ⟨by simp; omega, allN_at fun j hj => ?_⟩
  simp only [List.length_append, List.length_cons, List.length_nil] at hj
  have e1 : ∀ k, k < ss.length → at_ (ss ++ [s]) k = at_ ss k := fun k hk => by simp [at_, List.getElem?_append_left hk]
  by_cases e : j < ss.length
  · have := allN_get h1.2 e
    simp only [okSA] at this ⊢
    rw [e1 j e, e1 (j - 1) (by omega)]; exact this
  · have ej : j = ss.length := by omega
    subst ej
    have e2 : at_ (ss ++ [s]) ss.length = s := by simp [at_]
    simp only [okSA, e2, hs, Bool.true_and, Bool.or_eq_true, decide_eq_true_eq]
    by_cases h0 : ss.length = 0
    · exact .inl h0
    · right
      rw [e1 _ (by omega)]
      have q1 := h2 _ (at_mem (xs := ss) (i := ss.length - 1) (by omega))
      have hln := okS_len hs
      have q2 := hf _ (at_mem (xs := s.Points) (i := 0) (by omega))
      omega
theorem two_ok {a b : Point} (ha : okP a = true) (hb : okP b = true) (h : a.T < b.T) : okStroke' ⟨[a, b]⟩ = true := okS_of (by simp) (by simp) (fun p hp => by simp at hp; rcases hp with rfl | rfl; exact ha; exact hb) (by simp [h])
theorem inkD_two {ss : List Stroke} {t t' x1 y1 x2 y2 t2 : Int} (h : inkD ss t) (h1 : (0 ≤ x1 ∧ x1 ≤ 4095) ∧ 0 ≤ y1 ∧ y1 ≤ 4095) (h2 : (0 ≤ x2 ∧ x2 ≤ 4095) ∧ 0 ≤ y2 ∧ y2 ≤ 4095) (ht : 0 ≤ t ∧ t < t2 ∧ t2 ≤ 3600000) (ht2 : t2 < t') (hn : ss.length ≤ 15) : inkD (ss ++ [⟨[⟨x1, y1, t⟩, ⟨x2, y2, t2⟩]⟩]) t' :=
  inkD_snoc h (two_ok (okP_iff.2 ⟨h1.1, h1.2, by dsimp only; omega⟩) (okP_iff.2 ⟨h2.1, h2.2, by dsimp only; omega⟩) ht.2.1) (fun p hp => by simp at hp; rcases hp with rfl | rfl; exact Int.le_refl _; (dsimp only; omega)) (by simp [lastT, at_]; exact ht2) (by omega) hn

-- spec.l02DrawStroke
theorem l02DrawStroke_ok (s : l00Src) (time : Int) (px : Int) (py : Int) (hs : okSrc s) (ha : s.atx ≤ 3999999999999999600) (ht : 0 ≤ time ∧ time ≤ 100000 ∧ 0 ≤ px ∧ px ≤ 100000 ∧ 0 ≤ py ∧ py ≤ 100000) : ∃ (s' : l00Src) (pts : List Point), (okSrc s') ∧ (s'.code = s.code) ∧ (s.atx + 0 ≤ s'.atx ∧ s'.atx ≤ s.atx + 200) ∧ (1 ≤ pts.length ∧ pts.length ≤ 10) ∧ (∀ p ∈ pts, time ≤ p.T ∧ p.T ≤ time + 210) ∧ (px ≤ 4095 ∧ py ≤ 4095 → okStroke' ⟨pts⟩ = true) ∧ CallOK Try.prog 37 [.ref 7001 0, I time, I px, I py] (lookO [(7001, bxl00Src s)]) false (.agg [.arr 8001]) (lookO [(7001, bxl00Src s'), (8001, .arr 3 pts.length (fPoint pts))]) := by
  have hh : ∃ r : l00Src × (List Point), ((okSrc r.1) ∧ (r.1.code = s.code) ∧ (s.atx + 0 ≤ r.1.atx ∧ r.1.atx ≤ s.atx + 200) ∧ (1 ≤ r.2.length ∧ r.2.length ≤ 10) ∧ (∀ p ∈ r.2, time ≤ p.T ∧ p.T ≤ time + 210) ∧ (px ≤ 4095 ∧ py ≤ 4095 → okStroke' ⟨r.2⟩ = true) ∧ (True)) ∧ CallOK Try.prog 37 [.ref 7001 0, I time, I px, I py] (lookO [(7001, bxl00Src s)]) false (.agg [.arr 8001]) (lookO [(7001, bxl00Src r.1), (8001, .arr 3 r.2.length (fPoint r.2))]) := by
    refine fn_okX (Φ := fun r : l00Src × (List Point) => (okSrc r.1) ∧ (r.1.code = s.code) ∧ (s.atx + 0 ≤ r.1.atx ∧ r.1.atx ≤ s.atx + 200) ∧ (1 ≤ r.2.length ∧ r.2.length ≤ 10) ∧ (∀ p ∈ r.2, time ≤ p.T ∧ p.T ≤ time + 210) ∧ (px ≤ 4095 ∧ py ≤ 4095 → okStroke' ⟨r.2⟩ = true) ∧ (True)) [(7001, bxl00Src s)] (fun r => [(7001, bxl00Src r.1), (8001, .arr 3 r.2.length (fPoint r.2))]) (fn := Try.f37) (nt := 68) Try.func37 rfl rfl (args := [.ref 7001 0, I time, I px, I py]) rfl (allcons (.inr trivial) (allcons (.inl ⟨rfl, trivial⟩) (allcons (.inl ⟨rfl, trivial⟩) (allcons (.inl ⟨rfl, trivial⟩) allnil)))) (res := fun r => .agg [.arr 8001]) ?_
    refine x_seq ?_
    refine x_reg [(0, .new 8)] [0, 1, 2, 3, 8] [8, 7001] [.ref 7001 0, I time, I px, I py, .ref 8 0] [some (.box [nilA]), some (bxl00Src s)] [] (by kernel_rfl) trivial ?_
    refine xe_then ?_
    refine x_seq ?_
    refine x_reg [(1, .new 9)] [0, 1, 2, 3, 8, 9] [8, 9, 7001] [.ref 7001 0, I time, I px, I py, .ref 8 0, .ref 9 0] [some (.box [nilA]), some (.box [nilA]), some (bxl00Src s)] [] (by kernel_rfl) trivial ?_
    refine xe_then ?_
    refine x_seq ?_
    obtain ⟨v_1, s'_1, hx1_0, hx1_1, hx1_2, hx1_3, hc1⟩ := pick_ok s 60 (by first | assumption | (simp only [okSrc] at *; simp_all; done)) (by omega)
    refine x_reg [(1, .lend [(7001, bxl00Src s, bxl00Src s'_1)] [] [(true, .ref 7001 0), (true, I 60)] true (I v_1))] [0, 1, 2, 3, 8, 9, 10] [8, 9, 7001] [.ref 7001 0, I time, I px, I py, .ref 8 0, .ref 9 0, I (v_1 - 20)] [some (.box [nilA]), some (.box [nilA]), some (bxl00Src s'_1)] [CallOK Try.prog 36 [.ref 7001 0, I 60] (lookO [(7001, bxl00Src s)]) true (I v_1) (lookO [(7001, bxl00Src s'_1)]) ∧ ((.ref 7001 0 : AV) = .ref 7001 0) ∧ ((I 60 : AV) = I 60) ∧ (((bxl00Src s : Ob) = bxl00Src s ∨ obLe noOb true (bxl00Src s) (bxl00Src s)) ∧ taggedO false (bxl00Src s)) ∧ True, inR .i64 (v_1 - 20)] (by kernel_rfl) ⟨⟨hc1, rfl, rfl, ⟨.inl rfl, (by simp [taggedO, taggedL, tagged, tagU8])⟩, trivial⟩, (inR_i64 (by omega) (by omega)), trivial⟩ ?_
    refine xe_then ?_
    refine x_seq ?_
    obtain ⟨v_2, s'_2, hx2_0, hx2_1, hx2_2, hx2_3, hc2⟩ := pick_ok s'_1 60 (by first | assumption | (simp only [okSrc] at *; simp_all; done)) (by omega)
    refine x_reg [(1, .lend [(7001, bxl00Src s'_1, bxl00Src s'_2)] [] [(true, .ref 7001 0), (true, I 60)] true (I v_2))] [0, 1, 2, 3, 8, 9, 10, 11] [8, 9, 7001] [.ref 7001 0, I time, I px, I py, .ref 8 0, .ref 9 0, I (v_1 - 20), I (v_2 - 30)] [some (.box [nilA]), some (.box [nilA]), some (bxl00Src s'_2)] [CallOK Try.prog 36 [.ref 7001 0, I 60] (lookO [(7001, bxl00Src s'_1)]) true (I v_2) (lookO [(7001, bxl00Src s'_2)]) ∧ ((.ref 7001 0 : AV) = .ref 7001 0) ∧ ((I 60 : AV) = I 60) ∧ (((bxl00Src s'_1 : Ob) = bxl00Src s'_1 ∨ obLe noOb true (bxl00Src s'_1) (bxl00Src s'_1)) ∧ taggedO false (bxl00Src s'_1)) ∧ True, inR .i64 (v_2 - 30)] (by kernel_rfl) ⟨⟨hc2, rfl, rfl, ⟨.inl rfl, (by simp [taggedO, taggedL, tagged, tagU8])⟩, trivial⟩, (inR_i64 (by omega) (by omega)), trivial⟩ ?_
    refine xe_then ?_
    refine x_seq ?_
    refine x_seq ?_
    obtain ⟨v_3, s'_3, hx3_0, hx3_1, hx3_2, hx3_3, hc3⟩ := pick_ok s'_2 10 (by first | assumption | (simp only [okSrc] at *; simp_all; done)) (by omega)
    refine x_reg [(1, .lend [(7001, bxl00Src s'_2, bxl00Src s'_3)] [] [(true, .ref 7001 0), (true, I 10)] true (I v_3))] [0, 1, 2, 3, 8, 9, 10, 11, 12] [8, 9, 7001] [.ref 7001 0, I time, I px, I py, .ref 8 0, .ref 9 0, I (v_1 - 20), I (v_2 - 30), I (1 + v_3)] [some (.box [nilA]), some (.box [nilA]), some (bxl00Src s'_3)] [CallOK Try.prog 36 [.ref 7001 0, I 10] (lookO [(7001, bxl00Src s'_2)]) true (I v_3) (lookO [(7001, bxl00Src s'_3)]) ∧ ((.ref 7001 0 : AV) = .ref 7001 0) ∧ ((I 10 : AV) = I 10) ∧ (((bxl00Src s'_2 : Ob) = bxl00Src s'_2 ∨ obLe noOb true (bxl00Src s'_2) (bxl00Src s'_2)) ∧ taggedO false (bxl00Src s'_2)) ∧ True, inR .i64 (1 + v_3)] (by kernel_rfl) ⟨⟨hc3, rfl, rfl, ⟨.inl rfl, (by simp [taggedO, taggedL, tagged, tagU8])⟩, trivial⟩, (inR_i64 (by omega) (by omega)), trivial⟩ ?_
    refine xe_then ?_
    refine x_block ?_
    refine x_nilC 9 0 790 3 (fun _ => []) rfl (by kernel_rfl) ?_
    refine x_weak [] (T := [(0, .ref 7001 0), (1, I time), (2, I px), (3, I py), (8, .ref 8 0), (9, .ref 9 0), (10, I (v_1 - 20)), (11, I (v_2 - 30)), (12, I (1 + v_3))]) (O := [(8, .box [nilA]), (9, .box [.arr 790]), (790, .arr 3 (([] : List Point).length) (fPoint ([] : List Point))), (7001, bxl00Src s'_3)]) rfl (⟨.inl rfl, .inl rfl, .inl rfl, .inl rfl, .inl rfl, .inl rfl, .inl rfl, .inl rfl, .inl rfl, trivial⟩) (⟨.inl rfl, .inl rfl, .inr ⟨rfl, (by first | rfl | (simp; done) | (simp; omega) | omega), fun i_ hi_ => absurd hi_ (Nat.not_lt_zero _)⟩, .inl rfl, trivial⟩) ?_
    refine x_loop (X := Int × Int × Int × Int × Int × Int × (List Point) × l00Src) (fun x => mkS [(0, .ref 7001 0), (1, I x.1), (2, I x.2.1), (3, I x.2.2.1), (8, .ref 8 0), (9, .ref 9 0), (10, I x.2.2.2.1), (11, I x.2.2.2.2.1), (12, I x.2.2.2.2.2.1)] [(8, .box [nilA]), (9, .box [.arr 790]), (790, .arr 3 x.2.2.2.2.2.2.1.length (fPoint x.2.2.2.2.2.2.1)), (7001, bxl00Src x.2.2.2.2.2.2.2)]) (fun x => (okSrc x.2.2.2.2.2.2.2 ∧ x.2.2.2.2.2.2.2.code = s.code ∧ s.atx ≤ x.2.2.2.2.2.2.2.atx ∧ x.2.2.2.2.2.2.2.atx ≤ s.atx + 6 + 12 * (10 - x.2.2.2.2.2.1)) ∧ (0 ≤ x.2.2.2.2.2.1 ∧ x.2.2.2.2.2.1 ≤ 10) ∧ ((x.2.2.2.2.2.2.1.length : Int) + x.2.2.2.2.2.1 ≤ 10 ∧ 1 ≤ (x.2.2.2.2.2.2.1.length : Int) + x.2.2.2.2.2.1) ∧ (time ≤ x.1 ∧ x.1 ≤ time + 21 * (10 - x.2.2.2.2.2.1)) ∧ (∀ p ∈ x.2.2.2.2.2.2.1, time ≤ p.T ∧ p.T ≤ time + 210) ∧ (0 ≤ x.2.1 ∧ x.2.1 ≤ 100000 ∧ 0 ≤ x.2.2.1 ∧ x.2.2.1 ≤ 100000) ∧ (-40 ≤ x.2.2.2.1 ∧ x.2.2.2.1 ≤ 60 ∧ -40 ≤ x.2.2.2.2.1 ∧ x.2.2.2.2.1 ≤ 60) ∧ (dpts x.2.2.2.2.2.2.1 x.1) ∧ (px ≤ 4095 ∧ py ≤ 4095 → (x.2.1 ≤ 4095 ∧ x.2.2.1 ≤ 4095) ∧ ∀ p ∈ x.2.2.2.2.2.2.1, okP p = true) ∧ True) (fun x => x.2.2.2.2.2.1.toNat) (time, px, py, (v_1 - 20), (v_2 - 30), (1 + v_3), ([] : List Point), s'_3) rfl (show (okSrc s'_3 ∧ s'_3.code = s.code ∧ s.atx ≤ s'_3.atx ∧ s'_3.atx ≤ s.atx + 6 + 12 * (10 - (1 + v_3))) ∧ (0 ≤ (1 + v_3) ∧ (1 + v_3) ≤ 10) ∧ ((([] : List Point).length : Int) + (1 + v_3) ≤ 10 ∧ 1 ≤ (([] : List Point).length : Int) + (1 + v_3)) ∧ (time ≤ time ∧ time ≤ time + 21 * (10 - (1 + v_3))) ∧ (∀ p ∈ ([] : List Point), time ≤ p.T ∧ p.T ≤ time + 210) ∧ (0 ≤ px ∧ px ≤ 100000 ∧ 0 ≤ py ∧ py ≤ 100000) ∧ (-40 ≤ (v_1 - 20) ∧ (v_1 - 20) ≤ 60 ∧ -40 ≤ (v_2 - 30) ∧ (v_2 - 30) ≤ 60) ∧ (dpts ([] : List Point) time) ∧ (px ≤ 4095 ∧ py ≤ 4095 → (px ≤ 4095 ∧ py ≤ 4095) ∧ ∀ p ∈ ([] : List Point), okP p = true) ∧ True from ⟨(by exact ⟨by assumption, by first | assumption | rfl | (simp only [*]; done), by omega, by omega⟩), (by omega), (by simp; omega), (by omega), (by (intro z hz; simp at hz)), (by omega), (by omega), (by exact dpts_nil _), (by exact fun q => ⟨q, fun p hp => by simp at hp⟩), trivial⟩) (fun x hI => ?_)
    obtain ⟨time', x', y', dx, dy, k, pts, src⟩ := x
    obtain ⟨hs0, hk0, hl0, ht0, hp0, hx0, hd0, hdp, hok, _⟩ : (okSrc src ∧ src.code = s.code ∧ s.atx ≤ src.atx ∧ src.atx ≤ s.atx + 6 + 12 * (10 - k)) ∧ (0 ≤ k ∧ k ≤ 10) ∧ ((pts.length : Int) + k ≤ 10 ∧ 1 ≤ (pts.length : Int) + k) ∧ (time ≤ time' ∧ time' ≤ time + 21 * (10 - k)) ∧ (∀ p ∈ pts, time ≤ p.T ∧ p.T ≤ time + 210) ∧ (0 ≤ x' ∧ x' ≤ 100000 ∧ 0 ≤ y' ∧ y' ≤ 100000) ∧ (-40 ≤ dx ∧ dx ≤ 60 ∧ -40 ≤ dy ∧ dy ≤ 60) ∧ (dpts pts time') ∧ (px ≤ 4095 ∧ py ≤ 4095 → (x' ≤ 4095 ∧ y' ≤ 4095) ∧ ∀ p ∈ pts, okP p = true) ∧ True := hI
    show XW _ _ _ _ (mkS [(0, .ref 7001 0), (1, I time'), (2, I x'), (3, I y'), (8, .ref 8 0), (9, .ref 9 0), (10, I dx), (11, I dy), (12, I k)] [(8, .box [nilA]), (9, .box [.arr 790]), (790, .arr 3 pts.length (fPoint pts)), (7001, bxl00Src src)]) _ _
    refine x_seq ?_
    refine x_seq ?_
    by_cases h1 : 0 < k
    ·refine x_reg [(1, .dec true)] [0, 1, 2, 3, 8, 9, 10, 11, 12, 24] [8, 9, 790, 7001] [.ref 7001 0, I time', I x', I y', .ref 8 0, .ref 9 0, I dx, I dy, I k, Bv true] [some (.box [nilA]), some (.box [.arr 790]), some (.arr 3 pts.length (fPoint pts)), some (bxl00Src src)] [0 < k] (by kernel_rfl) ⟨h1, trivial⟩ ?_
     refine xe_then ?_
     refine x_true rfl ?_
     refine x_skip ?_
     refine xe_then ?_
     refine x_seq ?_
     refine x_block ?_
     refine x_seq ?_
     refine x_reg [(6, .new 33), (7, .new 34)] [0, 1, 2, 3, 8, 9, 10, 11, 12] [8, 9, 34, 7001] [.ref 7001 0, I time', I x', I y', .ref 8 0, .ref 9 0, I dx, I dy, I k] [some (.box [nilA]), some (.box [.arr 34]), some (.arr 3 (pts.length + 1) (catF pts.length (fPoint pts) (litF [I x', I y', I time'] 3))), some (bxl00Src src)] [(pts.length + 1) * 24 ≤ 140737488355328] (by kernel_rfl) ⟨(by omega), trivial⟩ ?_
     refine xe_then ?_
     refine x_seq ?_
     obtain ⟨v_4, s'_4, hx4_0, hx4_1, hx4_2, hx4_3, hc4⟩ := pick_ok src 20 (by first | assumption | (simp only [okSrc] at *; simp_all; done)) (by omega)
     refine x_reg [(2, .lend [(7001, bxl00Src src, bxl00Src s'_4)] [] [(true, .ref 7001 0), (true, I 20)] true (I v_4))] [0, 1, 2, 3, 8, 9, 10, 11, 12] [8, 9, 34, 7001] [.ref 7001 0, I (time' + (1 + v_4)), I x', I y', .ref 8 0, .ref 9 0, I dx, I dy, I k] [some (.box [nilA]), some (.box [.arr 34]), some (.arr 3 (pts.length + 1) (catF pts.length (fPoint pts) (litF [I x', I y', I time'] 3))), some (bxl00Src s'_4)] [CallOK Try.prog 36 [.ref 7001 0, I 20] (lookO [(7001, bxl00Src src)]) true (I v_4) (lookO [(7001, bxl00Src s'_4)]) ∧ ((.ref 7001 0 : AV) = .ref 7001 0) ∧ ((I 20 : AV) = I 20) ∧ (((bxl00Src src : Ob) = bxl00Src src ∨ obLe noOb true (bxl00Src src) (bxl00Src src)) ∧ taggedO false (bxl00Src src)) ∧ True, inR .i64 (1 + v_4), inR .i64 (time' + (1 + v_4))] (by kernel_rfl) ⟨⟨hc4, rfl, rfl, ⟨.inl rfl, (by simp [taggedO, taggedL, tagged, tagU8])⟩, trivial⟩, (inR_i64 (by omega) (by omega)), (inR_i64 (by omega) (by omega)), trivial⟩ ?_
     refine xe_then ?_
     refine x_seq ?_
     obtain ⟨v_5, s'_5, hx5_0, hx5_1, hx5_2, hx5_3, hc5⟩ := pick_ok s'_4 9 (by first | assumption | (simp only [okSrc] at *; simp_all; done)) (by omega)
     refine x_reg [(4, .lend [(7001, bxl00Src s'_4, bxl00Src s'_5)] [] [(true, .ref 7001 0), (true, I 9)] true (I v_5)), (7, .call [(true, I 4095), (true, I (((x' + dx) + v_5) - 4))] true (I (min 4095 (((x' + dx) + v_5) - 4)))), (8, .call [(true, I 0), (true, I (min 4095 (((x' + dx) + v_5) - 4)))] true (I (max 0 (min 4095 (((x' + dx) + v_5) - 4)))))] [0, 1, 2, 3, 8, 9, 10, 11, 12] [8, 9, 34, 7001] [.ref 7001 0, I (time' + (1 + v_4)), I (max 0 (min 4095 (((x' + dx) + v_5) - 4))), I y', .ref 8 0, .ref 9 0, I dx, I dy, I k] [some (.box [nilA]), some (.box [.arr 34]), some (.arr 3 (pts.length + 1) (catF pts.length (fPoint pts) (litF [I x', I y', I time'] 3))), some (bxl00Src s'_5)] [inR .i64 (x' + dx), CallOK Try.prog 36 [.ref 7001 0, I 9] (lookO [(7001, bxl00Src s'_4)]) true (I v_5) (lookO [(7001, bxl00Src s'_5)]) ∧ ((.ref 7001 0 : AV) = .ref 7001 0) ∧ ((I 9 : AV) = I 9) ∧ (((bxl00Src s'_4 : Ob) = bxl00Src s'_4 ∨ obLe noOb true (bxl00Src s'_4) (bxl00Src s'_4)) ∧ taggedO false (bxl00Src s'_4)) ∧ True, inR .i64 ((x' + dx) + v_5), inR .i64 (((x' + dx) + v_5) - 4), Con Try.prog 51 [I 4095, I (((x' + dx) + v_5) - 4)] true (I (min 4095 (((x' + dx) + v_5) - 4))) ∧ ((I 4095 : AV) = I 4095) ∧ ((I (((x' + dx) + v_5) - 4) : AV) = I (((x' + dx) + v_5) - 4)) ∧ True, Con Try.prog 47 [I 0, I (min 4095 (((x' + dx) + v_5) - 4))] true (I (max 0 (min 4095 (((x' + dx) + v_5) - 4)))) ∧ ((I 0 : AV) = I 0) ∧ ((I (min 4095 (((x' + dx) + v_5) - 4)) : AV) = I (min 4095 (((x' + dx) + v_5) - 4))) ∧ True] (by kernel_rfl) ⟨(inR_i64 (by omega) (by omega)), ⟨hc5, rfl, rfl, ⟨.inl rfl, (by simp [taggedO, taggedL, tagged, tagU8])⟩, trivial⟩, (inR_i64 (by omega) (by omega)), (inR_i64 (by omega) (by omega)), ⟨(l00Min_ok 4095 (((x' + dx) + v_5) - 4)), rfl, rfl, trivial⟩, ⟨(l00Max_ok 0 (min 4095 (((x' + dx) + v_5) - 4))), rfl, rfl, trivial⟩, trivial⟩ ?_
     refine xe_then ?_
     refine x_seq ?_
     obtain ⟨v_6, s'_6, hx6_0, hx6_1, hx6_2, hx6_3, hc6⟩ := pick_ok s'_5 9 (by first | assumption | (simp only [okSrc] at *; simp_all; done)) (by omega)
     refine x_reg [(4, .lend [(7001, bxl00Src s'_5, bxl00Src s'_6)] [] [(true, .ref 7001 0), (true, I 9)] true (I v_6)), (7, .call [(true, I 4095), (true, I (((y' + dy) + v_6) - 4))] true (I (min 4095 (((y' + dy) + v_6) - 4)))), (8, .call [(true, I 0), (true, I (min 4095 (((y' + dy) + v_6) - 4)))] true (I (max 0 (min 4095 (((y' + dy) + v_6) - 4)))))] [0, 1, 2, 3, 8, 9, 10, 11, 12] [8, 9, 34, 7001] [.ref 7001 0, I (time' + (1 + v_4)), I (max 0 (min 4095 (((x' + dx) + v_5) - 4))), I (max 0 (min 4095 (((y' + dy) + v_6) - 4))), .ref 8 0, .ref 9 0, I dx, I dy, I k] [some (.box [nilA]), some (.box [.arr 34]), some (.arr 3 (pts.length + 1) (catF pts.length (fPoint pts) (litF [I x', I y', I time'] 3))), some (bxl00Src s'_6)] [inR .i64 (y' + dy), CallOK Try.prog 36 [.ref 7001 0, I 9] (lookO [(7001, bxl00Src s'_5)]) true (I v_6) (lookO [(7001, bxl00Src s'_6)]) ∧ ((.ref 7001 0 : AV) = .ref 7001 0) ∧ ((I 9 : AV) = I 9) ∧ (((bxl00Src s'_5 : Ob) = bxl00Src s'_5 ∨ obLe noOb true (bxl00Src s'_5) (bxl00Src s'_5)) ∧ taggedO false (bxl00Src s'_5)) ∧ True, inR .i64 ((y' + dy) + v_6), inR .i64 (((y' + dy) + v_6) - 4), Con Try.prog 51 [I 4095, I (((y' + dy) + v_6) - 4)] true (I (min 4095 (((y' + dy) + v_6) - 4))) ∧ ((I 4095 : AV) = I 4095) ∧ ((I (((y' + dy) + v_6) - 4) : AV) = I (((y' + dy) + v_6) - 4)) ∧ True, Con Try.prog 47 [I 0, I (min 4095 (((y' + dy) + v_6) - 4))] true (I (max 0 (min 4095 (((y' + dy) + v_6) - 4)))) ∧ ((I 0 : AV) = I 0) ∧ ((I (min 4095 (((y' + dy) + v_6) - 4)) : AV) = I (min 4095 (((y' + dy) + v_6) - 4))) ∧ True] (by kernel_rfl) ⟨(inR_i64 (by omega) (by omega)), ⟨hc6, rfl, rfl, ⟨.inl rfl, (by simp [taggedO, taggedL, tagged, tagU8])⟩, trivial⟩, (inR_i64 (by omega) (by omega)), (inR_i64 (by omega) (by omega)), ⟨(l00Min_ok 4095 (((y' + dy) + v_6) - 4)), rfl, rfl, trivial⟩, ⟨(l00Max_ok 0 (min 4095 (((y' + dy) + v_6) - 4))), rfl, rfl, trivial⟩, trivial⟩ ?_
     refine xe_then ?_
     refine x_seq ?_
     obtain ⟨v_7, s'_7, hx7_0, hx7_1, hx7_2, hc7⟩ := one_ok s'_6 3 (by first | assumption | (simp only [okSrc] at *; simp_all; done)) (by omega)
     rcases Bool.eq_false_or_eq_true v_7 with h2 | h2
     ·subst h2
      refine x_reg [(1, .lend [(7001, bxl00Src s'_6, bxl00Src s'_7)] [] [(true, .ref 7001 0), (true, I 3)] true (Bv true))] [0, 1, 2, 3, 8, 9, 10, 11, 12, 60] [8, 9, 34, 7001] [.ref 7001 0, I (time' + (1 + v_4)), I (max 0 (min 4095 (((x' + dx) + v_5) - 4))), I (max 0 (min 4095 (((y' + dy) + v_6) - 4))), .ref 8 0, .ref 9 0, I dx, I dy, I k, Bv true] [some (.box [nilA]), some (.box [.arr 34]), some (.arr 3 (pts.length + 1) (catF pts.length (fPoint pts) (litF [I x', I y', I time'] 3))), some (bxl00Src s'_7)] [CallOK Try.prog 17 [.ref 7001 0, I 3] (lookO [(7001, bxl00Src s'_6)]) true (Bv true) (lookO [(7001, bxl00Src s'_7)]) ∧ ((.ref 7001 0 : AV) = .ref 7001 0) ∧ ((I 3 : AV) = I 3) ∧ (((bxl00Src s'_6 : Ob) = bxl00Src s'_6 ∨ obLe noOb true (bxl00Src s'_6) (bxl00Src s'_6)) ∧ taggedO false (bxl00Src s'_6)) ∧ True] (by kernel_rfl) ⟨⟨hc7, rfl, rfl, ⟨.inl rfl, (by simp [taggedO, taggedL, tagged, tagU8])⟩, trivial⟩, trivial⟩ ?_
      refine xe_then ?_
      refine x_true rfl ?_
      refine x_seq ?_
      obtain ⟨v_8, s'_8, hx8_0, hx8_1, hx8_2, hx8_3, hc8⟩ := pick_ok s'_7 80 (by first | assumption | (simp only [okSrc] at *; simp_all; done)) (by omega)
      refine x_reg [(1, .lend [(7001, bxl00Src s'_7, bxl00Src s'_8)] [] [(true, .ref 7001 0), (true, I 80)] true (I v_8))] [0, 1, 2, 3, 8, 9, 10, 12] [8, 9, 34, 7001] [.ref 7001 0, I (time' + (1 + v_4)), I (max 0 (min 4095 (((x' + dx) + v_5) - 4))), I (max 0 (min 4095 (((y' + dy) + v_6) - 4))), .ref 8 0, .ref 9 0, I (v_8 - 40), I k] [some (.box [nilA]), some (.box [.arr 34]), some (.arr 3 (pts.length + 1) (catF pts.length (fPoint pts) (litF [I x', I y', I time'] 3))), some (bxl00Src s'_8)] [CallOK Try.prog 36 [.ref 7001 0, I 80] (lookO [(7001, bxl00Src s'_7)]) true (I v_8) (lookO [(7001, bxl00Src s'_8)]) ∧ ((.ref 7001 0 : AV) = .ref 7001 0) ∧ ((I 80 : AV) = I 80) ∧ (((bxl00Src s'_7 : Ob) = bxl00Src s'_7 ∨ obLe noOb true (bxl00Src s'_7) (bxl00Src s'_7)) ∧ taggedO false (bxl00Src s'_7)) ∧ True, inR .i64 (v_8 - 40)] (by kernel_rfl) ⟨⟨hc8, rfl, rfl, ⟨.inl rfl, (by simp [taggedO, taggedL, tagged, tagU8])⟩, trivial⟩, (inR_i64 (by omega) (by omega)), trivial⟩ ?_
      refine xe_then ?_
      obtain ⟨v_9, s'_9, hx9_0, hx9_1, hx9_2, hx9_3, hc9⟩ := pick_ok s'_8 80 (by first | assumption | (simp only [okSrc] at *; simp_all; done)) (by omega)
      refine x_reg [(1, .lend [(7001, bxl00Src s'_8, bxl00Src s'_9)] [] [(true, .ref 7001 0), (true, I 80)] true (I v_9))] [0, 1, 2, 3, 8, 9, 10, 11, 12] [8, 9, 34, 7001] [.ref 7001 0, I (time' + (1 + v_4)), I (max 0 (min 4095 (((x' + dx) + v_5) - 4))), I (max 0 (min 4095 (((y' + dy) + v_6) - 4))), .ref 8 0, .ref 9 0, I (v_8 - 40), I (v_9 - 40), I k] [some (.box [nilA]), some (.box [.arr 34]), some (.arr 3 (pts.length + 1) (catF pts.length (fPoint pts) (litF [I x', I y', I time'] 3))), some (bxl00Src s'_9)] [CallOK Try.prog 36 [.ref 7001 0, I 80] (lookO [(7001, bxl00Src s'_8)]) true (I v_9) (lookO [(7001, bxl00Src s'_9)]) ∧ ((.ref 7001 0 : AV) = .ref 7001 0) ∧ ((I 80 : AV) = I 80) ∧ (((bxl00Src s'_8 : Ob) = bxl00Src s'_8 ∨ obLe noOb true (bxl00Src s'_8) (bxl00Src s'_8)) ∧ taggedO false (bxl00Src s'_8)) ∧ True, inR .i64 (v_9 - 40)] (by kernel_rfl) ⟨⟨hc9, rfl, rfl, ⟨.inl rfl, (by simp [taggedO, taggedL, tagged, tagU8])⟩, trivial⟩, (inR_i64 (by omega) (by omega)), trivial⟩ ?_
      refine xe_block 1 ?_
      refine xe_then ?_
      refine x_reg [] [0, 1, 2, 3, 8, 9, 10, 11, 12] [8, 9, 34, 7001] [.ref 7001 0, I (time' + (1 + v_4)), I (max 0 (min 4095 (((x' + dx) + v_5) - 4))), I (max 0 (min 4095 (((y' + dy) + v_6) - 4))), .ref 8 0, .ref 9 0, I (v_8 - 40), I (v_9 - 40), I (k - 1)] [some (.box [nilA]), some (.box [.arr 34]), some (.arr 3 (pts.length + 1) (catF pts.length (fPoint pts) (litF [I x', I y', I time'] 3))), some (bxl00Src s'_9)] [inR .i64 (k - 1)] (by kernel_rfl) ⟨(inR_i64 (by omega) (by omega)), trivial⟩ ?_
      refine xe_weak [(790, 34)] (T := [(0, .ref 7001 0), (1, I (time' + (1 + v_4))), (2, I (max 0 (min 4095 (((x' + dx) + v_5) - 4)))), (3, I (max 0 (min 4095 (((y' + dy) + v_6) - 4)))), (8, .ref 8 0), (9, .ref 9 0), (10, I (v_8 - 40)), (11, I (v_9 - 40)), (12, I (k - 1))]) (O := [(8, .box [nilA]), (9, .box [.arr 790]), (790, .arr 3 ((pts ++ [(Point.mk x' y' time')]).length) (fPoint (pts ++ [(Point.mk x' y' time')]))), (7001, bxl00Src s'_9)]) rfl (⟨.inl rfl, .inl rfl, .inl rfl, .inl rfl, .inl rfl, .inl rfl, .inl rfl, .inl rfl, .inl rfl, trivial⟩) (⟨.inl rfl, .inl rfl, .inr ⟨rfl, (by first | rfl | (simp; done) | (simp; omega) | omega), fun i_ hi_ => .inl (cat_snoc (enc := cPoint) (xs := pts) rfl i_ hi_)⟩, .inl rfl, trivial⟩) (xe_again ((time' + (1 + v_4)), (max 0 (min 4095 (((x' + dx) + v_5) - 4))), (max 0 (min 4095 (((y' + dy) + v_6) - 4))), (v_8 - 40), (v_9 - 40), (k - 1), (pts ++ [(Point.mk x' y' time')]), s'_9) rfl (show (okSrc s'_9 ∧ s'_9.code = s.code ∧ s.atx ≤ s'_9.atx ∧ s'_9.atx ≤ s.atx + 6 + 12 * (10 - (k - 1))) ∧ (0 ≤ (k - 1) ∧ (k - 1) ≤ 10) ∧ (((pts ++ [(Point.mk x' y' time')]).length : Int) + (k - 1) ≤ 10 ∧ 1 ≤ ((pts ++ [(Point.mk x' y' time')]).length : Int) + (k - 1)) ∧ (time ≤ (time' + (1 + v_4)) ∧ (time' + (1 + v_4)) ≤ time + 21 * (10 - (k - 1))) ∧ (∀ p ∈ (pts ++ [(Point.mk x' y' time')]), time ≤ p.T ∧ p.T ≤ time + 210) ∧ (0 ≤ (max 0 (min 4095 (((x' + dx) + v_5) - 4))) ∧ (max 0 (min 4095 (((x' + dx) + v_5) - 4))) ≤ 100000 ∧ 0 ≤ (max 0 (min 4095 (((y' + dy) + v_6) - 4))) ∧ (max 0 (min 4095 (((y' + dy) + v_6) - 4))) ≤ 100000) ∧ (-40 ≤ (v_8 - 40) ∧ (v_8 - 40) ≤ 60 ∧ -40 ≤ (v_9 - 40) ∧ (v_9 - 40) ≤ 60) ∧ (dpts (pts ++ [(Point.mk x' y' time')]) (time' + (1 + v_4))) ∧ (px ≤ 4095 ∧ py ≤ 4095 → ((max 0 (min 4095 (((x' + dx) + v_5) - 4))) ≤ 4095 ∧ (max 0 (min 4095 (((y' + dy) + v_6) - 4))) ≤ 4095) ∧ ∀ p ∈ (pts ++ [(Point.mk x' y' time')]), okP p = true) ∧ True from ⟨(by exact ⟨by assumption, by first | assumption | rfl | (simp only [*]; done), by omega, by omega⟩), (by omega), (by simp; omega), (by omega), (by exact all_snoc hp0 (by dsimp only; omega)), (by omega), (by omega), (by exact dpts_snoc hdp rfl (by omega)), (by exact fun q => ⟨by have := (hok q).1; omega, all_snoc (hok q).2 (okP_iff.2 ⟨by have := (hok q).1; dsimp only; omega, by have := (hok q).1; dsimp only; omega, by dsimp only; omega⟩)⟩), trivial⟩) (by show ((k - 1).toNat : Nat) < k.toNat; omega))
     ·subst h2
      refine x_reg [(1, .lend [(7001, bxl00Src s'_6, bxl00Src s'_7)] [] [(true, .ref 7001 0), (true, I 3)] true (Bv false))] [0, 1, 2, 3, 8, 9, 10, 11, 12, 60] [8, 9, 34, 7001] [.ref 7001 0, I (time' + (1 + v_4)), I (max 0 (min 4095 (((x' + dx) + v_5) - 4))), I (max 0 (min 4095 (((y' + dy) + v_6) - 4))), .ref 8 0, .ref 9 0, I dx, I dy, I k, Bv false] [some (.box [nilA]), some (.box [.arr 34]), some (.arr 3 (pts.length + 1) (catF pts.length (fPoint pts) (litF [I x', I y', I time'] 3))), some (bxl00Src s'_7)] [CallOK Try.prog 17 [.ref 7001 0, I 3] (lookO [(7001, bxl00Src s'_6)]) true (Bv false) (lookO [(7001, bxl00Src s'_7)]) ∧ ((.ref 7001 0 : AV) = .ref 7001 0) ∧ ((I 3 : AV) = I 3) ∧ (((bxl00Src s'_6 : Ob) = bxl00Src s'_6 ∨ obLe noOb true (bxl00Src s'_6) (bxl00Src s'_6)) ∧ taggedO false (bxl00Src s'_6)) ∧ True] (by kernel_rfl) ⟨⟨hc7, rfl, rfl, ⟨.inl rfl, (by simp [taggedO, taggedL, tagged, tagU8])⟩, trivial⟩, trivial⟩ ?_
      refine xe_then ?_
      refine x_false rfl ?_
      refine x_skip ?_
      refine xe_block 1 ?_
      refine xe_then ?_
      refine x_reg [] [0, 1, 2, 3, 8, 9, 10, 11, 12] [8, 9, 34, 7001] [.ref 7001 0, I (time' + (1 + v_4)), I (max 0 (min 4095 (((x' + dx) + v_5) - 4))), I (max 0 (min 4095 (((y' + dy) + v_6) - 4))), .ref 8 0, .ref 9 0, I dx, I dy, I (k - 1)] [some (.box [nilA]), some (.box [.arr 34]), some (.arr 3 (pts.length + 1) (catF pts.length (fPoint pts) (litF [I x', I y', I time'] 3))), some (bxl00Src s'_7)] [inR .i64 (k - 1)] (by kernel_rfl) ⟨(inR_i64 (by omega) (by omega)), trivial⟩ ?_
      refine xe_weak [(790, 34)] (T := [(0, .ref 7001 0), (1, I (time' + (1 + v_4))), (2, I (max 0 (min 4095 (((x' + dx) + v_5) - 4)))), (3, I (max 0 (min 4095 (((y' + dy) + v_6) - 4)))), (8, .ref 8 0), (9, .ref 9 0), (10, I dx), (11, I dy), (12, I (k - 1))]) (O := [(8, .box [nilA]), (9, .box [.arr 790]), (790, .arr 3 ((pts ++ [(Point.mk x' y' time')]).length) (fPoint (pts ++ [(Point.mk x' y' time')]))), (7001, bxl00Src s'_7)]) rfl (⟨.inl rfl, .inl rfl, .inl rfl, .inl rfl, .inl rfl, .inl rfl, .inl rfl, .inl rfl, .inl rfl, trivial⟩) (⟨.inl rfl, .inl rfl, .inr ⟨rfl, (by first | rfl | (simp; done) | (simp; omega) | omega), fun i_ hi_ => .inl (cat_snoc (enc := cPoint) (xs := pts) rfl i_ hi_)⟩, .inl rfl, trivial⟩) (xe_again ((time' + (1 + v_4)), (max 0 (min 4095 (((x' + dx) + v_5) - 4))), (max 0 (min 4095 (((y' + dy) + v_6) - 4))), dx, dy, (k - 1), (pts ++ [(Point.mk x' y' time')]), s'_7) rfl (show (okSrc s'_7 ∧ s'_7.code = s.code ∧ s.atx ≤ s'_7.atx ∧ s'_7.atx ≤ s.atx + 6 + 12 * (10 - (k - 1))) ∧ (0 ≤ (k - 1) ∧ (k - 1) ≤ 10) ∧ (((pts ++ [(Point.mk x' y' time')]).length : Int) + (k - 1) ≤ 10 ∧ 1 ≤ ((pts ++ [(Point.mk x' y' time')]).length : Int) + (k - 1)) ∧ (time ≤ (time' + (1 + v_4)) ∧ (time' + (1 + v_4)) ≤ time + 21 * (10 - (k - 1))) ∧ (∀ p ∈ (pts ++ [(Point.mk x' y' time')]), time ≤ p.T ∧ p.T ≤ time + 210) ∧ (0 ≤ (max 0 (min 4095 (((x' + dx) + v_5) - 4))) ∧ (max 0 (min 4095 (((x' + dx) + v_5) - 4))) ≤ 100000 ∧ 0 ≤ (max 0 (min 4095 (((y' + dy) + v_6) - 4))) ∧ (max 0 (min 4095 (((y' + dy) + v_6) - 4))) ≤ 100000) ∧ (-40 ≤ dx ∧ dx ≤ 60 ∧ -40 ≤ dy ∧ dy ≤ 60) ∧ (dpts (pts ++ [(Point.mk x' y' time')]) (time' + (1 + v_4))) ∧ (px ≤ 4095 ∧ py ≤ 4095 → ((max 0 (min 4095 (((x' + dx) + v_5) - 4))) ≤ 4095 ∧ (max 0 (min 4095 (((y' + dy) + v_6) - 4))) ≤ 4095) ∧ ∀ p ∈ (pts ++ [(Point.mk x' y' time')]), okP p = true) ∧ True from ⟨(by exact ⟨by assumption, by first | assumption | rfl | (simp only [*]; done), by omega, by omega⟩), (by omega), (by simp; omega), (by omega), (by exact all_snoc hp0 (by dsimp only; omega)), (by omega), (by omega), (by exact dpts_snoc hdp rfl (by omega)), (by exact fun q => ⟨by have := (hok q).1; omega, all_snoc (hok q).2 (okP_iff.2 ⟨by have := (hok q).1; dsimp only; omega, by have := (hok q).1; dsimp only; omega, by dsimp only; omega⟩)⟩), trivial⟩) (by show ((k - 1).toNat : Nat) < k.toNat; omega))
    ·refine x_reg [(1, .dec false)] [0, 1, 2, 3, 8, 9, 10, 11, 12, 24] [8, 9, 790, 7001] [.ref 7001 0, I time', I x', I y', .ref 8 0, .ref 9 0, I dx, I dy, I k, Bv false] [some (.box [nilA]), some (.box [.arr 790]), some (.arr 3 pts.length (fPoint pts)), some (bxl00Src src)] [¬ (0 < k)] (by kernel_rfl) ⟨h1, trivial⟩ ?_
     refine xe_then ?_
     refine x_false rfl ?_
     refine x_exit ?_
     refine xe_exit_then ?_
     refine xe_loop_exit ?_
     refine xe_exit_same ?_
     refine xe_then ?_
     refine x_seq ?_
     refine x_reg [] [8] [8, 790, 7001] [.ref 8 0] [some (.box [.arr 790]), some (.arr 3 pts.length (fPoint pts)), some (bxl00Src src)] [] (by kernel_rfl) trivial ?_
     refine xe_then ?_
     refine x_ret ?_
     refine xe_weak [(8001, 790)] (T := [(8, .ref 8 0)]) (O := [(8, .box [.arr 8001]), (7001, bxl00Src src), (8001, .arr 3 pts.length (fPoint pts))]) rfl (⟨.inl rfl, trivial⟩) (⟨.inl rfl, .inl rfl, .inl rfl, trivial⟩) ?_
     refine xe_end (src, pts) (show (okSrc src) ∧ (src.code = s.code) ∧ (s.atx + 0 ≤ src.atx ∧ src.atx ≤ s.atx + 200) ∧ (1 ≤ pts.length ∧ pts.length ≤ 10) ∧ (∀ p ∈ pts, time ≤ p.T ∧ p.T ≤ time + 210) ∧ (px ≤ 4095 ∧ py ≤ 4095 → okStroke' ⟨pts⟩ = true) ∧ (True) from ⟨(by first | exact fun q => okS_of (by omega) (by omega) (hok q).2 hdp.2 | omega | assumption | (simp_all; done)), (by first | exact fun q => okS_of (by omega) (by omega) (hok q).2 hdp.2 | omega | assumption | (simp_all; done)), (by first | exact fun q => okS_of (by omega) (by omega) (hok q).2 hdp.2 | omega | assumption | (simp_all; done)), (by first | exact fun q => okS_of (by omega) (by omega) (hok q).2 hdp.2 | omega | assumption | (simp_all; done)), (by first | exact fun q => okS_of (by omega) (by omega) (hok q).2 hdp.2 | omega | assumption | (simp_all; done)), (by first | exact fun q => okS_of (by omega) (by omega) (hok q).2 hdp.2 | omega | assumption | (simp_all; done)), trivial⟩) (⟨.inl rfl, .inl rfl, trivial⟩) (.agg [.arr 8001]) (by kernel_rfl) (.inl rfl) (fun h => by cases h) (fun h => by cases h)
  obtain ⟨⟨s', pts⟩, ⟨hh0, hh1, hh2, hh3, hh4, hh5, _⟩, hc⟩ := hh
  exact ⟨s', pts, hh0, hh1, hh2, hh3, hh4, hh5, hc⟩


-- spec.l02Last
theorem l02Last_ok (s : Stroke) (hl : 1 ≤ s.Points.length) : Con Try.prog 38 [.ptr false [slPoint false s.Points]] true (I ((at_ s.Points (s.Points.length - 1)).T)) := by
  refine fn_ok (fn := Try.f38) (nt := 16) Try.func38 rfl rfl rfl rfl (by simp [taggedL, tagged, tagPoint]) fun B hB => ?_
  refine aw_lens (x := .ptr false [slPoint false s.Points]) 0 rfl (fun len_s => ?_)
  simp [LenOK, LenL, cPoint, fPoint, slPoint] at len_s
  refine aw_seq ?_
  refine aw_reg [] [0] [] [.ptr false [slPoint false s.Points]] [] [] (by kernel_rfl) hB trivial ?_
  refine ae_then ?_
  refine aw_seq ?_
  refine aw_reg [] [2] [] [I ((at_ s.Points (((s.Points.length : Int) - 1).toNat)).T)] [] [inR .i64 ((s.Points.length : Int) - 1), (0 : Int) ≤ ((s.Points.length : Int) - 1) ∧ ((s.Points.length : Int) - 1) < (s.Points.length : Int)] (by kernel_rfl) hB ⟨(inR_i64 (by omega) (by omega)), ⟨(by omega), (by omega)⟩, trivial⟩ ?_
  refine ae_then ?_
  refine aw_ret ?_
  refine ae_ret hB (I ((at_ s.Points (((s.Points.length : Int) - 1).toNat)).T)) (by kernel_rfl) (.inl (by (have e : ((s.Points.length : Int) - 1).toNat = s.Points.length - 1 := by omega); rw [e])) rfl (fun _ => trivial)


theorem beq_ne {i k : Nat} (h : i ≠ k) : Nat.beq i k = false := Bool.eq_false_iff.2 fun e => h (Nat.eq_of_beq_eq_true e)
theorem at_set_eq {α : Type} [Inhabited α] {xs : List α} {k : Nat} {c : α} (h : k < xs.length) : at_ (xs.set k c) k = c := by simp [at_, h]
theorem at_set_ne {α : Type} [Inhabited α] {xs : List α} {k i : Nat} {c : α} (h : i ≠ k) : at_ (xs.set k c) i = at_ xs i := by
  have : ¬ k = i := fun e => h e.symm
  simp [at_, this]
theorem le_row {ob : Nat → Option Ob} {F N sz p n : Nat} {m : Nat → Nat} {g : Nat → Nat → List AV} {fr : Bool} {f : Nat → List AV} (h : ob F = some (.fam N sz m g)) (hp : p < N) (hn : m p = n)
    (hf : ∀ i, i < n → g p i = f i ∨ (AV.idsL (f i) = [] ∧ leL (fun _ => none) false (g p i) (f i))) : le ob true (.row F p) (.sl fr sz n f) := by
  simp only [le, h]
  exact ⟨fun _ => trivial, hp, trivial, hn, hf⟩

def Stroke.withPoints (x : Stroke) (ys : List Point) : Stroke := Stroke.mk ys
def oStrokec (F : Nat) (x : Stroke) (i : Nat) : List AV := [.row F i]
def oStroke (F : Nat) (xs : List Stroke) (i : Nat) : List AV := oStrokec F (at_ xs i) i
def mStroke (xs : List Stroke) (p : Nat) : Nat := ((at_ xs p).Points).length
def gStroke (xs : List Stroke) (p : Nat) : Nat → List AV := fPoint ((at_ xs p).Points)
theorem oleStroke {ob : Nat → Option Ob} {F : Nat} (fr : Bool) (xs : List Stroke) (h : ob F = some (.fam xs.length 3 (mStroke xs) (gStroke xs))) : ∀ i, i < xs.length → AV.idsL (fStroke fr xs i) = [] ∧ leL ob true (oStroke F xs i) (fStroke fr xs i) :=
  fun i hi => And.intro rfl (And.intro (le_row h hi rfl (fun q _ => .inl rfl)) rfl)
theorem olecatStroke {ob : Nat → Option Ob} {F : Nat} (fr : Bool) (xs : List Stroke) (x : Stroke) {f : Nat → List AV} (h : ob F = some (.fam xs.length 3 (mStroke xs) (gStroke xs))) (hx : leL ob true (f 0) (cStroke fr x)) : ∀ i, i < (xs ++ [x]).length → AV.idsL (fStroke fr (xs ++ [x]) i) = [] ∧ leL ob true (catF xs.length (oStroke F xs) f i) (fStroke fr (xs ++ [x]) i) := by
  intro i hi
  by_cases hl : i < xs.length
  · have := oleStroke fr xs h i hl
    rw [catF_lt hl]
    have e : fStroke fr (xs ++ [x]) i = fStroke fr xs i := by show cStroke fr (at_ _ _) = cStroke fr (at_ _ _); rw [at_left hl]
    rw [e]; exact this
  · have e : i = xs.length := by simp at hi; omega
    subst e
    rw [catF_ge (Nat.le_refl _), Nat.sub_self]
    have e : fStroke fr (xs ++ [x]) xs.length = cStroke fr x := by show cStroke fr (at_ _ _) = _; rw [at_right (Nat.le_refl _)]; simp [at_]
    rw [e]; exact ⟨rfl, hx⟩
theorem ocatStroke {F j N : Nat} (hF : Nat.beq F j = false) {xs : List Stroke} {x : Stroke} {g : Nat → List AV} (hN : N = xs.length) (hx : AV.joiL j F N (g 0) = oStrokec F x N) : ∀ i, i < (xs ++ [x]).length → AV.joiL j F N (catF xs.length (oStroke F xs) g i) = oStroke F (xs ++ [x]) i := by
  subst hN
  intro i hi
  by_cases h : i < xs.length
  · rw [catF_lt h]
    simp [oStroke, oStrokec, at_left h, AV.joiL, AV.joi, hF]
  · have e : i = xs.length := by simp at hi; omega
    subst e
    rw [catF_ge (Nat.le_refl _), Nat.sub_self, hx]
    simp [oStroke, at_right (Nat.le_refl _), at_]
theorem fcatStroke {xs : List Stroke} (x : Stroke) {n : Nat} {f : Nat → List AV} (hn : n = x.Points.length) (hf : ∀ i, i < n → f i = fPoint x.Points i) : xs.length + 1 = (xs ++ [x]).length ∧ 3 = 3 ∧ ∀ p, p < (xs ++ [x]).length → famUp xs.length n (mStroke xs) p = mStroke (xs ++ [x]) p ∧ ∀ i, i < mStroke (xs ++ [x]) p → famUpF xs.length f (gStroke xs) p i = gStroke (xs ++ [x]) p i ∨ (AV.idsL (gStroke (xs ++ [x]) p i) = [] ∧ leL (fun _ => none) false (famUpF xs.length f (gStroke xs) p i) (gStroke (xs ++ [x]) p i)) := by
  refine ⟨by simp, rfl, fun p hp => ?_⟩
  by_cases h : p < xs.length
  · have e : Nat.beq p xs.length = false := Bool.eq_false_iff.2 fun e => by have := Nat.eq_of_beq_eq_true e; omega
    simp [famUp, famUpF, e, mStroke, gStroke, at_left h]
  · have e : p = xs.length := by simp at hp; omega
    subst e
    have e2 : at_ (xs ++ [x]) xs.length = x := by simp [at_right (Nat.le_refl _), at_]
    simp only [famUp, famUpF, Nat.beq_refl, cond_true, mStroke, gStroke, e2]
    exact ⟨hn, fun i hi => .inl (hf i (by omega))⟩
theorem osetStroke (F P : Nat) (xs : List Stroke) (ys : List Point) (i : Nat) : oStroke F xs i = oStroke F (xs.set P (Stroke.withPoints (at_ xs P) ys)) i := by
  unfold oStroke
  by_cases h : P = i
  · subst h
    by_cases hl : P < xs.length
    · simp [at_, hl, oStrokec, Stroke.withPoints]
    · rw [List.set_eq_of_length_le (by omega)]
  · simp [at_, h]
theorem fsetStroke {xs : List Stroke} {P k : Nat} {c : Point} {g' : Nat → Nat → List AV} (hP : P < xs.length) (hk : k < ((at_ xs P).Points).length) (h1 : g' P k = cPoint c) (h2 : ∀ i, i ≠ k → g' P i = gStroke xs P i) (h3 : ∀ p, p ≠ P → g' p = gStroke xs p) : xs.length = (xs.set P (Stroke.withPoints (at_ xs P) (((at_ xs P).Points).set k c))).length ∧ 3 = 3 ∧ ∀ p, p < (xs.set P (Stroke.withPoints (at_ xs P) (((at_ xs P).Points).set k c))).length → mStroke xs p = mStroke (xs.set P (Stroke.withPoints (at_ xs P) (((at_ xs P).Points).set k c))) p ∧ ∀ i, i < mStroke (xs.set P (Stroke.withPoints (at_ xs P) (((at_ xs P).Points).set k c))) p → g' p i = gStroke (xs.set P (Stroke.withPoints (at_ xs P) (((at_ xs P).Points).set k c))) p i ∨ (AV.idsL (gStroke (xs.set P (Stroke.withPoints (at_ xs P) (((at_ xs P).Points).set k c))) p i) = [] ∧ leL (fun _ => none) false (g' p i) (gStroke (xs.set P (Stroke.withPoints (at_ xs P) (((at_ xs P).Points).set k c))) p i)) := by
  refine ⟨by simp, rfl, fun p hp => ?_⟩
  by_cases h : p = P
  · subst h
    have e2 : at_ (xs.set p (Stroke.withPoints (at_ xs p) (((at_ xs p).Points).set k c))) p = (Stroke.withPoints (at_ xs p) (((at_ xs p).Points).set k c)) := at_set_eq hP
    have e3 : (Stroke.withPoints (at_ xs p) (((at_ xs p).Points).set k c)).Points = ((at_ xs p).Points).set k c := rfl
    simp only [mStroke, gStroke, e2, e3]
    refine ⟨by simp, fun i hi => .inl ?_⟩
    by_cases hi2 : i = k
    · subst hi2
      rw [h1]
      show _ = cPoint (at_ _ _)
      rw [at_set_eq hk]
    · rw [h2 i hi2]
      show cPoint (at_ _ _) = cPoint (at_ _ _)
      rw [at_set_ne hi2]
  · have e : at_ (xs.set P (Stroke.withPoints (at_ xs P) (((at_ xs P).Points).set k c))) p = at_ xs p := at_set_ne h
    simp only [mStroke, gStroke, e]
    refine ⟨trivial, fun i hi => .inl ?_⟩
    rw [h3 p h]; rfl

-- spec.l14Draw
theorem l14Draw_ok (s : l00Src) (most : Int) (hs : okSrc s) (ha : s.atx ≤ 3999999999999992000) (hm : 0 ≤ most ∧ most ≤ 10) : ∃ (s' : l00Src) (ss : List Stroke), (okSrc s') ∧ (s'.code = s.code) ∧ (s.atx + 0 ≤ s'.atx ∧ s'.atx ≤ s.atx + 4000) ∧ ((ss.length : Int) ≤ most) ∧ (okInk' ⟨ss⟩ = true) ∧ CallOK Try.prog 18 [.ref 7001 0, I most] (lookO [(7001, bxl00Src s)]) false (.agg [.arr 8321]) (lookO [(7001, bxl00Src s'), (8321, .oar [8322] 1 ss.length (oStroke 8322 ss)), (8322, .fam ss.length 3 (mStroke ss) (gStroke ss))]) := by
  have hh : ∃ r : l00Src × (List Stroke), ((okSrc r.1) ∧ (r.1.code = s.code) ∧ (s.atx + 0 ≤ r.1.atx ∧ r.1.atx ≤ s.atx + 4000) ∧ ((r.2.length : Int) ≤ most) ∧ (okInk' ⟨r.2⟩ = true) ∧ (True)) ∧ CallOK Try.prog 18 [.ref 7001 0, I most] (lookO [(7001, bxl00Src s)]) false (.agg [.arr 8321]) (lookO [(7001, bxl00Src r.1), (8321, .oar [8322] 1 r.2.length (oStroke 8322 r.2)), (8322, .fam r.2.length 3 (mStroke r.2) (gStroke r.2))]) := by
    refine fn_okX (Φ := fun r : l00Src × (List Stroke) => (okSrc r.1) ∧ (r.1.code = s.code) ∧ (s.atx + 0 ≤ r.1.atx ∧ r.1.atx ≤ s.atx + 4000) ∧ ((r.2.length : Int) ≤ most) ∧ (okInk' ⟨r.2⟩ = true) ∧ (True)) [(7001, bxl00Src s)] (fun r => [(7001, bxl00Src r.1), (8321, .oar [8322] 1 r.2.length (oStroke 8322 r.2)), (8322, .fam r.2.length 3 (mStroke r.2) (gStroke r.2))]) (fn := Try.f18) (nt := 75) Try.func18 rfl rfl (args := [.ref 7001 0, I most]) rfl (allcons (.inr trivial) (allcons (.inl ⟨rfl, trivial⟩) allnil)) (res := fun r => .agg [.arr 8321]) ?_
    refine x_seq ?_
    refine x_reg [(0, .new 4)] [0, 1, 4] [4, 7001] [.ref 7001 0, I most, .ref 4 0] [some (.box [nilA]), some (bxl00Src s)] [] (by kernel_rfl) trivial ?_
    refine xe_then ?_
    refine x_seq ?_
    refine x_reg [(1, .new 5)] [0, 1, 4, 5] [4, 5, 7001] [.ref 7001 0, I most, .ref 4 0, .ref 5 0] [some (.box [nilA]), some (.box [nilA]), some (bxl00Src s)] [] (by kernel_rfl) trivial ?_
    refine xe_then ?_
    refine x_seq ?_
    refine x_reg [] [0, 1, 4, 5, 6] [4, 5, 7001] [.ref 7001 0, I most, .ref 4 0, .ref 5 0, I 0] [some (.box [nilA]), some (.box [nilA]), some (bxl00Src s)] [] (by kernel_rfl) trivial ?_
    refine xe_then ?_
    refine x_seq ?_
    obtain ⟨v_1, s'_1, hx1_0, hx1_1, hx1_2, hx1_3, hc1⟩ := pick_ok s 200 (by first | assumption | (simp only [okSrc] at *; simp_all; done)) (by omega)
    refine x_reg [(1, .lend [(7001, bxl00Src s, bxl00Src s'_1)] [] [(true, .ref 7001 0), (true, I 200)] true (I v_1))] [0, 1, 4, 5, 6, 7] [4, 5, 7001] [.ref 7001 0, I most, .ref 4 0, .ref 5 0, I 0, I v_1] [some (.box [nilA]), some (.box [nilA]), some (bxl00Src s'_1)] [CallOK Try.prog 36 [.ref 7001 0, I 200] (lookO [(7001, bxl00Src s)]) true (I v_1) (lookO [(7001, bxl00Src s'_1)]) ∧ ((.ref 7001 0 : AV) = .ref 7001 0) ∧ ((I 200 : AV) = I 200) ∧ (((bxl00Src s : Ob) = bxl00Src s ∨ obLe noOb true (bxl00Src s) (bxl00Src s)) ∧ taggedO false (bxl00Src s)) ∧ True] (by kernel_rfl) ⟨⟨hc1, rfl, rfl, ⟨.inl rfl, (by simp [taggedO, taggedL, tagged, tagU8])⟩, trivial⟩, trivial⟩ ?_
    refine xe_then ?_
    refine x_seq ?_
    refine x_seq ?_
    obtain ⟨v_2, s'_2, hx2_0, hx2_1, hx2_2, hx2_3, hc2⟩ := pick_ok s'_1 (most + 1) (by first | assumption | (simp only [okSrc] at *; simp_all; done)) (by omega)
    refine x_reg [(3, .lend [(7001, bxl00Src s'_1, bxl00Src s'_2)] [] [(true, .ref 7001 0), (true, I (most + 1))] true (I v_2))] [0, 4, 5, 6, 7, 8] [4, 5, 7001] [.ref 7001 0, .ref 4 0, .ref 5 0, I 0, I v_1, I v_2] [some (.box [nilA]), some (.box [nilA]), some (bxl00Src s'_2)] [inR .i64 (most + 1), CallOK Try.prog 36 [.ref 7001 0, I (most + 1)] (lookO [(7001, bxl00Src s'_1)]) true (I v_2) (lookO [(7001, bxl00Src s'_2)]) ∧ ((.ref 7001 0 : AV) = .ref 7001 0) ∧ ((I (most + 1) : AV) = I (most + 1)) ∧ (((bxl00Src s'_1 : Ob) = bxl00Src s'_1 ∨ obLe noOb true (bxl00Src s'_1) (bxl00Src s'_1)) ∧ taggedO false (bxl00Src s'_1)) ∧ True] (by kernel_rfl) ⟨(inR_i64 (by omega) (by omega)), ⟨hc2, rfl, rfl, ⟨.inl rfl, (by simp [taggedO, taggedL, tagged, tagU8])⟩, trivial⟩, trivial⟩ ?_
    refine xe_then ?_
    refine x_block ?_
    refine x_nilC 5 0 750 1 (fun _ => []) rfl (by kernel_rfl) ?_
    refine x_fam 8322 3 (fun _ => 0) (fun _ _ => []) (by kernel_rfl) ?_
    refine x_weak [] (T := [(0, .ref 7001 0), (4, .ref 4 0), (5, .ref 5 0), (6, I 0), (7, I v_1), (8, I v_2)]) (O := [(4, .box [nilA]), (5, .box [.arr 750]), (750, .oar [8322] 1 (([] : List Stroke).length) (oStroke 8322 ([] : List Stroke))), (7001, bxl00Src s'_2), (8322, .fam ([] : List Stroke).length 3 (mStroke ([] : List Stroke)) (gStroke ([] : List Stroke)))]) rfl (⟨.inl rfl, .inl rfl, .inl rfl, .inl rfl, .inl rfl, .inl rfl, trivial⟩) (⟨.inl rfl, .inl rfl, .inr ⟨rfl, rfl, fun i hi => absurd hi (Nat.not_lt_zero _)⟩, .inl rfl, .inr ⟨rfl, rfl, fun p hp => absurd hp (Nat.not_lt_zero _)⟩, trivial⟩) ?_
    refine x_loop (X := Int × Int × Int × (List Stroke) × l00Src) (fun x => mkS [(0, .ref 7001 0), (4, .ref 4 0), (5, .ref 5 0), (6, I x.1), (7, I x.2.1), (8, I x.2.2.1)] [(4, .box [nilA]), (5, .box [.arr 750]), (750, .oar [8322] 1 x.2.2.2.1.length (oStroke 8322 x.2.2.2.1)), (7001, bxl00Src x.2.2.2.2), (8322, .fam x.2.2.2.1.length 3 (mStroke x.2.2.2.1) (gStroke x.2.2.2.1))]) (fun x => (okSrc x.2.2.2.2 ∧ x.2.2.2.2.code = s.code ∧ s.atx ≤ x.2.2.2.2.atx ∧ x.2.2.2.2.atx ≤ s.atx + 10 + 260 * (most - x.2.2.1)) ∧ (0 ≤ x.2.2.1 ∧ x.2.2.1 ≤ most) ∧ ((x.2.2.2.1.length : Int) + x.2.2.1 ≤ most) ∧ (0 ≤ x.1 ∧ x.1 ≤ 100 + 500 * (most - x.2.2.1)) ∧ (0 ≤ x.2.1 ∧ x.2.1 ≤ 200 + 300 * (most - x.2.2.1)) ∧ (inkD x.2.2.2.1 x.1) ∧ True) (fun x => x.2.2.1.toNat) (0, v_1, v_2, ([] : List Stroke), s'_2) rfl (show (okSrc s'_2 ∧ s'_2.code = s.code ∧ s.atx ≤ s'_2.atx ∧ s'_2.atx ≤ s.atx + 10 + 260 * (most - v_2)) ∧ (0 ≤ v_2 ∧ v_2 ≤ most) ∧ ((([] : List Stroke).length : Int) + v_2 ≤ most) ∧ (0 ≤ (0 : Int) ∧ (0 : Int) ≤ 100 + 500 * (most - v_2)) ∧ (0 ≤ v_1 ∧ v_1 ≤ 200 + 300 * (most - v_2)) ∧ (inkD ([] : List Stroke) (0 : Int)) ∧ True from ⟨(by exact ⟨by assumption, by first | assumption | rfl | (simp only [*]; done), by omega, by omega⟩), (by omega), (by simp; omega), (by omega), (by omega), (by exact inkD_nil _), trivial⟩) (fun x hI => ?_)
    obtain ⟨time, x, k, ss, src⟩ := x
    obtain ⟨hs0, hk0, hl0, ht0, hx0, hik, _⟩ : (okSrc src ∧ src.code = s.code ∧ s.atx ≤ src.atx ∧ src.atx ≤ s.atx + 10 + 260 * (most - k)) ∧ (0 ≤ k ∧ k ≤ most) ∧ ((ss.length : Int) + k ≤ most) ∧ (0 ≤ time ∧ time ≤ 100 + 500 * (most - k)) ∧ (0 ≤ x ∧ x ≤ 200 + 300 * (most - k)) ∧ (inkD ss time) ∧ True := hI
    show XW _ _ _ _ (mkS [(0, .ref 7001 0), (4, .ref 4 0), (5, .ref 5 0), (6, I time), (7, I x), (8, I k)] [(4, .box [nilA]), (5, .box [.arr 750]), (750, .oar [8322] 1 ss.length (oStroke 8322 ss)), (7001, bxl00Src src), (8322, .fam ss.length 3 (mStroke ss) (gStroke ss))]) _ _
    refine x_seq ?_
    refine x_seq ?_
    by_cases h1 : 0 < k
    ·refine x_reg [(1, .dec true)] [0, 4, 5, 6, 7, 8, 19] [4, 5, 750, 7001, 8322] [.ref 7001 0, .ref 4 0, .ref 5 0, I time, I x, I k, Bv true] [some (.box [nilA]), some (.box [.arr 750]), some (.oar [8322] 1 ss.length (oStroke 8322 ss)), some (bxl00Src src), some (.fam ss.length 3 (mStroke ss) (gStroke ss))] [0 < k] (by kernel_rfl) ⟨h1, trivial⟩ ?_
     refine xe_then ?_
     refine x_true rfl ?_
     refine x_skip ?_
     refine xe_then ?_
     refine x_seq ?_
     refine x_block ?_
     refine x_seq ?_
     obtain ⟨s'_3, pts_3, hx3_0, hx3_1, hx3_2, hx3_3, hx3_4, hx3_5, hc3⟩ := l02DrawStroke_ok src time x 300 (by first | assumption | (simp only [okSrc] at *; simp_all; done)) (by omega) (by omega)
     have hlt : time ≤ (at_ (Stroke.mk pts_3).Points ((Stroke.mk pts_3).Points.length - 1)).T ∧ (at_ (Stroke.mk pts_3).Points ((Stroke.mk pts_3).Points.length - 1)).T ≤ time + 210 := hx3_4 _ (last_mem (xs := pts_3) (by omega))
     have hvs : okStroke' (Stroke.mk pts_3) = true := hx3_5 ⟨by omega, by omega⟩
     have hvt := hx3_4
     refine x_reg [(3, .lend [(7001, bxl00Src src, bxl00Src s'_3)] [(8001, .arr 3 pts_3.length (fPoint pts_3))] [(true, .ref 7001 0), (true, I time), (true, I x), (true, I 300)] false (.agg [.arr 8001])), (4, .new 9)] [0, 4, 5, 6, 7, 8, 9] [4, 5, 9, 750, 7001, 8001, 8322] [.ref 7001 0, .ref 4 0, .ref 5 0, I time, I x, I k, .ref 9 0] [some (.box [nilA]), some (.box [.arr 750]), some (.box [.arr 8001]), some (.oar [8322] 1 ss.length (oStroke 8322 ss)), some (bxl00Src s'_3), some (.arr 3 pts_3.length (fPoint pts_3)), some (.fam ss.length 3 (mStroke ss) (gStroke ss))] [CallOK Try.prog 37 [.ref 7001 0, I time, I x, I 300] (lookO [(7001, bxl00Src src)]) false (.agg [.arr 8001]) (lookO [(7001, bxl00Src s'_3), (8001, .arr 3 pts_3.length (fPoint pts_3))]) ∧ ((.ref 7001 0 : AV) = .ref 7001 0) ∧ ((I time : AV) = I time) ∧ ((I x : AV) = I x) ∧ ((I 300 : AV) = I 300) ∧ (((bxl00Src src : Ob) = bxl00Src src ∨ obLe noOb true (bxl00Src src) (bxl00Src src)) ∧ taggedO false (bxl00Src src)) ∧ True] (by kernel_rfl) ⟨⟨hc3, rfl, rfl, rfl, rfl, ⟨.inl rfl, (by simp [taggedO, taggedL, tagged, tagU8])⟩, trivial⟩, trivial⟩ ?_
     refine xe_then ?_
     refine x_seq ?_
     refine x_seq ?_
     obtain ⟨v_4, s'_4, hx4_0, hx4_1, hx4_2, hc4⟩ := one_ok s'_3 3 (by first | assumption | (simp only [okSrc] at *; simp_all; done)) (by omega)
     rcases Bool.eq_false_or_eq_true v_4 with h2 | h2
     ·subst h2
      refine x_reg [(1, .lend [(7001, bxl00Src s'_3, bxl00Src s'_4)] [] [(true, .ref 7001 0), (true, I 3)] true (Bv true))] [0, 4, 5, 6, 7, 8, 9, 27] [4, 5, 9, 750, 7001, 8001, 8322] [.ref 7001 0, .ref 4 0, .ref 5 0, I time, I x, I k, .ref 9 0, Bv true] [some (.box [nilA]), some (.box [.arr 750]), some (.box [.arr 8001]), some (.oar [8322] 1 ss.length (oStroke 8322 ss)), some (bxl00Src s'_4), some (.arr 3 pts_3.length (fPoint pts_3)), some (.fam ss.length 3 (mStroke ss) (gStroke ss))] [CallOK Try.prog 17 [.ref 7001 0, I 3] (lookO [(7001, bxl00Src s'_3)]) true (Bv true) (lookO [(7001, bxl00Src s'_4)]) ∧ ((.ref 7001 0 : AV) = .ref 7001 0) ∧ ((I 3 : AV) = I 3) ∧ (((bxl00Src s'_3 : Ob) = bxl00Src s'_3 ∨ obLe noOb true (bxl00Src s'_3) (bxl00Src s'_3)) ∧ taggedO false (bxl00Src s'_3)) ∧ True] (by kernel_rfl) ⟨⟨hc4, rfl, rfl, ⟨.inl rfl, (by simp [taggedO, taggedL, tagged, tagU8])⟩, trivial⟩, trivial⟩ ?_
      refine xe_then ?_
      refine x_true rfl ?_
      refine x_seq ?_
      obtain ⟨v_5, s'_5, hx5_0, hx5_1, hx5_2, hx5_3, hc5⟩ := pick_ok s'_4 (x + 60) (by first | assumption | (simp only [okSrc] at *; simp_all; done)) (by omega)
      refine x_reg [(3, .lend [(7001, bxl00Src s'_4, bxl00Src s'_5)] [] [(true, .ref 7001 0), (true, I (x + 60))] true (I v_5))] [0, 4, 5, 6, 7, 8, 9, 10] [4, 5, 9, 750, 7001, 8001, 8322] [.ref 7001 0, .ref 4 0, .ref 5 0, I time, I x, I k, .ref 9 0, I v_5] [some (.box [nilA]), some (.box [.arr 750]), some (.box [.arr 8001]), some (.oar [8322] 1 ss.length (oStroke 8322 ss)), some (bxl00Src s'_5), some (.arr 3 pts_3.length (fPoint pts_3)), some (.fam ss.length 3 (mStroke ss) (gStroke ss))] [inR .i64 (x + 60), CallOK Try.prog 36 [.ref 7001 0, I (x + 60)] (lookO [(7001, bxl00Src s'_4)]) true (I v_5) (lookO [(7001, bxl00Src s'_5)]) ∧ ((.ref 7001 0 : AV) = .ref 7001 0) ∧ ((I (x + 60) : AV) = I (x + 60)) ∧ (((bxl00Src s'_4 : Ob) = bxl00Src s'_4 ∨ obLe noOb true (bxl00Src s'_4) (bxl00Src s'_4)) ∧ taggedO false (bxl00Src s'_4)) ∧ True] (by kernel_rfl) ⟨(inR_i64 (by omega) (by omega)), ⟨hc5, rfl, rfl, ⟨.inl rfl, (by simp [taggedO, taggedL, tagged, tagU8])⟩, trivial⟩, trivial⟩ ?_
      refine xe_then ?_
      obtain ⟨v_6, s'_6, hx6_0, hx6_1, hx6_2, hx6_3, hc6⟩ := pick_ok s'_5 200 (by first | assumption | (simp only [okSrc] at *; simp_all; done)) (by omega)
      refine x_reg [(5, .lend [(7001, bxl00Src s'_5, bxl00Src s'_6)] [] [(true, .ref 7001 0), (true, I 200)] true (I v_6)), (10, .new 42)] [0, 4, 5, 7, 8, 9] [4, 5, 9, 42, 750, 7001, 8322] [.ref 7001 0, .ref 4 0, .ref 5 0, I x, I k, .ref 9 0] [some (.box [nilA]), some (.box [.arr 750]), some (.box [.arr 42]), some (.arr 3 2 (litF [I v_5, I 200, I time, I (v_5 + v_6), I 210, I (time + 5)] 3)), some (.oar [8322] 1 ss.length (oStroke 8322 ss)), some (bxl00Src s'_6), some (.fam ss.length 3 (mStroke ss) (gStroke ss))] [CallOK Try.prog 36 [.ref 7001 0, I 200] (lookO [(7001, bxl00Src s'_5)]) true (I v_6) (lookO [(7001, bxl00Src s'_6)]) ∧ ((.ref 7001 0 : AV) = .ref 7001 0) ∧ ((I 200 : AV) = I 200) ∧ (((bxl00Src s'_5 : Ob) = bxl00Src s'_5 ∨ obLe noOb true (bxl00Src s'_5) (bxl00Src s'_5)) ∧ taggedO false (bxl00Src s'_5)) ∧ True, inR .i64 (v_5 + v_6), inR .i64 (time + 5)] (by kernel_rfl) ⟨⟨hc6, rfl, rfl, ⟨.inl rfl, (by simp [taggedO, taggedL, tagged, tagU8])⟩, trivial⟩, (inR_i64 (by omega) (by omega)), (inR_i64 (by omega) (by omega)), trivial⟩ ?_
      refine xe_then ?_
      refine x_seq ?_
      refine x_reg [(3, .new 66), (4, .new 67)] [0, 4, 5, 7, 8, 9] [4, 5, 9, 42, 67, 7001, 8322] [.ref 7001 0, .ref 4 0, .ref 5 0, I x, I k, .ref 9 0] [some (.box [nilA]), some (.box [.arr 67]), some (.box [.arr 42]), some (.arr 3 2 (litF [I v_5, I 200, I time, I (v_5 + v_6), I 210, I (time + 5)] 3)), some (.oar [8322, 42] 1 (ss.length + 1) (catF ss.length (oStroke 8322 ss) (litF [.arr 42] 1))), some (bxl00Src s'_6), some (.fam ss.length 3 (mStroke ss) (gStroke ss))] [(ss.length + 1) * 24 ≤ 140737488355328] (by kernel_rfl) ⟨(by omega), trivial⟩ ?_
      refine xe_then ?_
      obtain ⟨v_7, s'_7, hx7_0, hx7_1, hx7_2, hx7_3, hc7⟩ := pick_ok s'_6 50 (by first | assumption | (simp only [okSrc] at *; simp_all; done)) (by omega)
      refine x_reg [(0, .call [(false, .ptr false [slPoint false ([(Point.mk v_5 200 time), (Point.mk (v_5 + v_6) 210 (time + 5))])])] true (I ((at_ (Stroke.mk ([(Point.mk v_5 200 time), (Point.mk (v_5 + v_6) 210 (time + 5))])).Points ((Stroke.mk ([(Point.mk v_5 200 time), (Point.mk (v_5 + v_6) 210 (time + 5))])).Points.length - 1)).T))), (3, .lend [(7001, bxl00Src s'_6, bxl00Src s'_7)] [] [(true, .ref 7001 0), (true, I 50)] true (I v_7))] [0, 4, 5, 6, 7, 8] [4, 5, 42, 67, 7001, 8322] [.ref 7001 0, .ref 4 0, .ref 5 0, I ((((at_ (Stroke.mk ([(Point.mk v_5 200 time), (Point.mk (v_5 + v_6) 210 (time + 5))])).Points ((Stroke.mk ([(Point.mk v_5 200 time), (Point.mk (v_5 + v_6) 210 (time + 5))])).Points.length - 1)).T) + 1) + v_7), I x, I k] [some (.box [nilA]), some (.box [.arr 67]), some (.arr 3 2 (litF [I v_5, I 200, I time, I (v_5 + v_6), I 210, I (time + 5)] 3)), some (.oar [8322, 42] 1 (ss.length + 1) (catF ss.length (oStroke 8322 ss) (litF [.arr 42] 1))), some (bxl00Src s'_7), some (.fam ss.length 3 (mStroke ss) (gStroke ss))] [Con Try.prog 38 [.ptr false [slPoint false ([(Point.mk v_5 200 time), (Point.mk (v_5 + v_6) 210 (time + 5))])]] true (I ((at_ (Stroke.mk ([(Point.mk v_5 200 time), (Point.mk (v_5 + v_6) 210 (time + 5))])).Points ((Stroke.mk ([(Point.mk v_5 200 time), (Point.mk (v_5 + v_6) 210 (time + 5))])).Points.length - 1)).T)) ∧ ((false = true → true = true) ∧ AV.idsL [slPoint false ([(Point.mk v_5 200 time), (Point.mk (v_5 + v_6) 210 (time + 5))])] = [] ∧ ((false = true → true = true) ∧ 3 = 3 ∧ 2 = (([(Point.mk v_5 200 time), (Point.mk (v_5 + v_6) 210 (time + 5))]).length) ∧ ∀ i, i < (([(Point.mk v_5 200 time), (Point.mk (v_5 + v_6) 210 (time + 5))]).length) → (litF [I v_5, I 200, I time, I (v_5 + v_6), I 210, I (time + 5)] 3) i = (fPoint ([(Point.mk v_5 200 time), (Point.mk (v_5 + v_6) 210 (time + 5))])) i ∨ (AV.idsL ((fPoint ([(Point.mk v_5 200 time), (Point.mk (v_5 + v_6) 210 (time + 5))])) i) = [] ∧ leL (fun _ => none) false ((litF [I v_5, I 200, I time, I (v_5 + v_6), I 210, I (time + 5)] 3) i) ((fPoint ([(Point.mk v_5 200 time), (Point.mk (v_5 + v_6) 210 (time + 5))])) i))) ∧ ([] : List AV) = []) ∧ True, inR .i64 (((at_ (Stroke.mk ([(Point.mk v_5 200 time), (Point.mk (v_5 + v_6) 210 (time + 5))])).Points ((Stroke.mk ([(Point.mk v_5 200 time), (Point.mk (v_5 + v_6) 210 (time + 5))])).Points.length - 1)).T) + 1), CallOK Try.prog 36 [.ref 7001 0, I 50] (lookO [(7001, bxl00Src s'_6)]) true (I v_7) (lookO [(7001, bxl00Src s'_7)]) ∧ ((.ref 7001 0 : AV) = .ref 7001 0) ∧ ((I 50 : AV) = I 50) ∧ (((bxl00Src s'_6 : Ob) = bxl00Src s'_6 ∨ obLe noOb true (bxl00Src s'_6) (bxl00Src s'_6)) ∧ taggedO false (bxl00Src s'_6)) ∧ True, inR .i64 ((((at_ (Stroke.mk ([(Point.mk v_5 200 time), (Point.mk (v_5 + v_6) 210 (time + 5))])).Points ((Stroke.mk ([(Point.mk v_5 200 time), (Point.mk (v_5 + v_6) 210 (time + 5))])).Points.length - 1)).T) + 1) + v_7)] (by kernel_rfl) ⟨⟨(l02Last_ok (Stroke.mk ([(Point.mk v_5 200 time), (Point.mk (v_5 + v_6) 210 (time + 5))])) (by first | assumption | (simp only; omega) | (simp; done))), ⟨(fun h => by cases h), rfl, ⟨⟨(fun h => by cases h), rfl, (by first | rfl | (simp; done) | (simp; omega) | omega), fun i_ hi_ => .inl (match i_, hi_ with | 0, _ => rfl | 1, _ => rfl | (i + 2), h => absurd h (by simp))⟩, rfl⟩⟩, trivial⟩, (inR_i64 (by (first | omega | (simp [at_]; omega))) (by (first | omega | (simp [at_]; omega)))), ⟨hc7, rfl, rfl, ⟨.inl rfl, (by simp [taggedO, taggedL, tagged, tagU8])⟩, trivial⟩, (inR_i64 (by (first | omega | (simp [at_]; omega))) (by (first | omega | (simp [at_]; omega)))), trivial⟩ ?_
      refine xe_block 1 ?_
      refine xe_then ?_
      refine x_reg [] [0, 4, 5, 6, 7, 8] [4, 5, 42, 67, 7001, 8322] [.ref 7001 0, .ref 4 0, .ref 5 0, I ((((at_ (Stroke.mk ([(Point.mk v_5 200 time), (Point.mk (v_5 + v_6) 210 (time + 5))])).Points ((Stroke.mk ([(Point.mk v_5 200 time), (Point.mk (v_5 + v_6) 210 (time + 5))])).Points.length - 1)).T) + 1) + v_7), I x, I (k - 1)] [some (.box [nilA]), some (.box [.arr 67]), some (.arr 3 2 (litF [I v_5, I 200, I time, I (v_5 + v_6), I 210, I (time + 5)] 3)), some (.oar [8322, 42] 1 (ss.length + 1) (catF ss.length (oStroke 8322 ss) (litF [.arr 42] 1))), some (bxl00Src s'_7), some (.fam ss.length 3 (mStroke ss) (gStroke ss))] [inR .i64 (k - 1)] (by kernel_rfl) ⟨(inR_i64 (by omega) (by omega)), trivial⟩ ?_
      refine xe_join 42 8322 rfl rfl rfl ?_
      refine xe_weak [(750, 67)] (T := [(0, .ref 7001 0), (4, .ref 4 0), (5, .ref 5 0), (6, I ((((at_ (Stroke.mk ([(Point.mk v_5 200 time), (Point.mk (v_5 + v_6) 210 (time + 5))])).Points ((Stroke.mk ([(Point.mk v_5 200 time), (Point.mk (v_5 + v_6) 210 (time + 5))])).Points.length - 1)).T) + 1) + v_7)), (7, I x), (8, I (k - 1))]) (O := [(4, .box [nilA]), (5, .box [.arr 750]), (750, .oar [8322] 1 ((ss ++ [(Stroke.mk ([(Point.mk v_5 200 time), (Point.mk (v_5 + v_6) 210 (time + 5))]))]).length) (oStroke 8322 (ss ++ [(Stroke.mk ([(Point.mk v_5 200 time), (Point.mk (v_5 + v_6) 210 (time + 5))]))]))), (7001, bxl00Src s'_7), (8322, .fam (ss ++ [(Stroke.mk ([(Point.mk v_5 200 time), (Point.mk (v_5 + v_6) 210 (time + 5))]))]).length 3 (mStroke (ss ++ [(Stroke.mk ([(Point.mk v_5 200 time), (Point.mk (v_5 + v_6) 210 (time + 5))]))])) (gStroke (ss ++ [(Stroke.mk ([(Point.mk v_5 200 time), (Point.mk (v_5 + v_6) 210 (time + 5))]))])))]) rfl (⟨.inl rfl, .inl rfl, .inl rfl, .inl rfl, .inl rfl, .inl rfl, trivial⟩) (⟨.inl rfl, .inl rfl, .inr ⟨rfl, rfl, (by simp), fun i hi => .inl (ocatStroke rfl rfl rfl i hi)⟩, .inl rfl, .inr (fcatStroke (Stroke.mk ([(Point.mk v_5 200 time), (Point.mk (v_5 + v_6) 210 (time + 5))])) (by first | rfl | (simp; done)) (fun i_ hi_ => (match i_, hi_ with | 0, _ => rfl | 1, _ => rfl | (i + 2), h => absurd h (by simp)))), trivial⟩) (xe_again (((((at_ (Stroke.mk ([(Point.mk v_5 200 time), (Point.mk (v_5 + v_6) 210 (time + 5))])).Points ((Stroke.mk ([(Point.mk v_5 200 time), (Point.mk (v_5 + v_6) 210 (time + 5))])).Points.length - 1)).T) + 1) + v_7), x, (k - 1), (ss ++ [(Stroke.mk ([(Point.mk v_5 200 time), (Point.mk (v_5 + v_6) 210 (time + 5))]))]), s'_7) rfl (show (okSrc s'_7 ∧ s'_7.code = s.code ∧ s.atx ≤ s'_7.atx ∧ s'_7.atx ≤ s.atx + 10 + 260 * (most - (k - 1))) ∧ (0 ≤ (k - 1) ∧ (k - 1) ≤ most) ∧ (((ss ++ [(Stroke.mk ([(Point.mk v_5 200 time), (Point.mk (v_5 + v_6) 210 (time + 5))]))]).length : Int) + (k - 1) ≤ most) ∧ (0 ≤ ((((at_ (Stroke.mk ([(Point.mk v_5 200 time), (Point.mk (v_5 + v_6) 210 (time + 5))])).Points ((Stroke.mk ([(Point.mk v_5 200 time), (Point.mk (v_5 + v_6) 210 (time + 5))])).Points.length - 1)).T) + 1) + v_7) ∧ ((((at_ (Stroke.mk ([(Point.mk v_5 200 time), (Point.mk (v_5 + v_6) 210 (time + 5))])).Points ((Stroke.mk ([(Point.mk v_5 200 time), (Point.mk (v_5 + v_6) 210 (time + 5))])).Points.length - 1)).T) + 1) + v_7) ≤ 100 + 500 * (most - (k - 1))) ∧ (0 ≤ x ∧ x ≤ 200 + 300 * (most - (k - 1))) ∧ (inkD (ss ++ [(Stroke.mk ([(Point.mk v_5 200 time), (Point.mk (v_5 + v_6) 210 (time + 5))]))]) ((((at_ (Stroke.mk ([(Point.mk v_5 200 time), (Point.mk (v_5 + v_6) 210 (time + 5))])).Points ((Stroke.mk ([(Point.mk v_5 200 time), (Point.mk (v_5 + v_6) 210 (time + 5))])).Points.length - 1)).T) + 1) + v_7)) ∧ True from ⟨(by exact ⟨by assumption, by first | assumption | rfl | (simp only [*]; done), by omega, by omega⟩), (by omega), (by simp; omega), (by (first | omega | (simp [at_]; omega))), (by omega), (by first | exact inkD_snoc hik hvs (fun p hp => (hvt p hp).1) (by have := hlt; unfold lastT; omega) (by omega) (by omega) | exact inkD_two hik (by omega) (by omega) (by omega) (by first | omega | (simp [at_]; omega)) (by omega)), trivial⟩) (by show ((k - 1).toNat : Nat) < k.toNat; omega))
     ·subst h2
      refine x_reg [(1, .lend [(7001, bxl00Src s'_3, bxl00Src s'_4)] [] [(true, .ref 7001 0), (true, I 3)] true (Bv false))] [0, 4, 5, 6, 7, 8, 9, 27] [4, 5, 9, 750, 7001, 8001, 8322] [.ref 7001 0, .ref 4 0, .ref 5 0, I time, I x, I k, .ref 9 0, Bv false] [some (.box [nilA]), some (.box [.arr 750]), some (.box [.arr 8001]), some (.oar [8322] 1 ss.length (oStroke 8322 ss)), some (bxl00Src s'_4), some (.arr 3 pts_3.length (fPoint pts_3)), some (.fam ss.length 3 (mStroke ss) (gStroke ss))] [CallOK Try.prog 17 [.ref 7001 0, I 3] (lookO [(7001, bxl00Src s'_3)]) true (Bv false) (lookO [(7001, bxl00Src s'_4)]) ∧ ((.ref 7001 0 : AV) = .ref 7001 0) ∧ ((I 3 : AV) = I 3) ∧ (((bxl00Src s'_3 : Ob) = bxl00Src s'_3 ∨ obLe noOb true (bxl00Src s'_3) (bxl00Src s'_3)) ∧ taggedO false (bxl00Src s'_3)) ∧ True] (by kernel_rfl) ⟨⟨hc4, rfl, rfl, ⟨.inl rfl, (by simp [taggedO, taggedL, tagged, tagU8])⟩, trivial⟩, trivial⟩ ?_
      refine xe_then ?_
      refine x_false rfl ?_
      refine x_seq ?_
      obtain ⟨v_8, s'_8, hx8_0, hx8_1, hx8_2, hc8⟩ := one_ok s'_4 2 (by first | assumption | (simp only [okSrc] at *; simp_all; done)) (by omega)
      rcases Bool.eq_false_or_eq_true v_8 with h3 | h3
      ·subst h3
       refine x_reg [(1, .lend [(7001, bxl00Src s'_4, bxl00Src s'_8)] [] [(true, .ref 7001 0), (true, I 2)] true (Bv true))] [0, 4, 5, 6, 7, 8, 9, 45] [4, 5, 9, 750, 7001, 8001, 8322] [.ref 7001 0, .ref 4 0, .ref 5 0, I time, I x, I k, .ref 9 0, Bv true] [some (.box [nilA]), some (.box [.arr 750]), some (.box [.arr 8001]), some (.oar [8322] 1 ss.length (oStroke 8322 ss)), some (bxl00Src s'_8), some (.arr 3 pts_3.length (fPoint pts_3)), some (.fam ss.length 3 (mStroke ss) (gStroke ss))] [CallOK Try.prog 17 [.ref 7001 0, I 2] (lookO [(7001, bxl00Src s'_4)]) true (Bv true) (lookO [(7001, bxl00Src s'_8)]) ∧ ((.ref 7001 0 : AV) = .ref 7001 0) ∧ ((I 2 : AV) = I 2) ∧ (((bxl00Src s'_4 : Ob) = bxl00Src s'_4 ∨ obLe noOb true (bxl00Src s'_4) (bxl00Src s'_4)) ∧ taggedO false (bxl00Src s'_4)) ∧ True] (by kernel_rfl) ⟨⟨hc8, rfl, rfl, ⟨.inl rfl, (by simp [taggedO, taggedL, tagged, tagU8])⟩, trivial⟩, trivial⟩ ?_
       refine xe_then ?_
       refine x_true rfl ?_
       refine x_seq ?_
       obtain ⟨v_9, s'_9, hx9_0, hx9_1, hx9_2, hx9_3, hc9⟩ := pick_ok s'_8 300 (by first | assumption | (simp only [okSrc] at *; simp_all; done)) (by omega)
       refine x_reg [(6, .lend [(7001, bxl00Src s'_8, bxl00Src s'_9)] [] [(true, .ref 7001 0), (true, I 300)] true (I v_9)), (11, .new 57)] [0, 4, 5, 7, 8, 9] [4, 5, 9, 57, 750, 7001, 8322] [.ref 7001 0, .ref 4 0, .ref 5 0, I x, I k, .ref 9 0] [some (.box [nilA]), some (.box [.arr 750]), some (.box [.arr 57]), some (.arr 3 2 (litF [I x, I 200, I time, I ((x + 20) + v_9), I 500, I (time + 9)] 3)), some (.oar [8322] 1 ss.length (oStroke 8322 ss)), some (bxl00Src s'_9), some (.fam ss.length 3 (mStroke ss) (gStroke ss))] [inR .i64 (x + 20), CallOK Try.prog 36 [.ref 7001 0, I 300] (lookO [(7001, bxl00Src s'_8)]) true (I v_9) (lookO [(7001, bxl00Src s'_9)]) ∧ ((.ref 7001 0 : AV) = .ref 7001 0) ∧ ((I 300 : AV) = I 300) ∧ (((bxl00Src s'_8 : Ob) = bxl00Src s'_8 ∨ obLe noOb true (bxl00Src s'_8) (bxl00Src s'_8)) ∧ taggedO false (bxl00Src s'_8)) ∧ True, inR .i64 ((x + 20) + v_9), inR .i64 (time + 9)] (by kernel_rfl) ⟨(inR_i64 (by omega) (by omega)), ⟨hc9, rfl, rfl, ⟨.inl rfl, (by simp [taggedO, taggedL, tagged, tagU8])⟩, trivial⟩, (inR_i64 (by omega) (by omega)), (inR_i64 (by omega) (by omega)), trivial⟩ ?_
       refine xe_then ?_
       obtain ⟨v_10, s'_10, hx10_0, hx10_1, hx10_2, hx10_3, hc10⟩ := pick_ok s'_9 300 (by first | assumption | (simp only [okSrc] at *; simp_all; done)) (by omega)
       refine x_reg [(2, .lend [(7001, bxl00Src s'_9, bxl00Src s'_10)] [] [(true, .ref 7001 0), (true, I 300)] true (I v_10))] [0, 4, 5, 7, 8, 9] [4, 5, 9, 57, 750, 7001, 8322] [.ref 7001 0, .ref 4 0, .ref 5 0, I (x + v_10), I k, .ref 9 0] [some (.box [nilA]), some (.box [.arr 750]), some (.box [.arr 57]), some (.arr 3 2 (litF [I x, I 200, I time, I ((x + 20) + v_9), I 500, I (time + 9)] 3)), some (.oar [8322] 1 ss.length (oStroke 8322 ss)), some (bxl00Src s'_10), some (.fam ss.length 3 (mStroke ss) (gStroke ss))] [CallOK Try.prog 36 [.ref 7001 0, I 300] (lookO [(7001, bxl00Src s'_9)]) true (I v_10) (lookO [(7001, bxl00Src s'_10)]) ∧ ((.ref 7001 0 : AV) = .ref 7001 0) ∧ ((I 300 : AV) = I 300) ∧ (((bxl00Src s'_9 : Ob) = bxl00Src s'_9 ∨ obLe noOb true (bxl00Src s'_9) (bxl00Src s'_9)) ∧ taggedO false (bxl00Src s'_9)) ∧ True, inR .i64 (x + v_10)] (by kernel_rfl) ⟨⟨hc10, rfl, rfl, ⟨.inl rfl, (by simp [taggedO, taggedL, tagged, tagU8])⟩, trivial⟩, (inR_i64 (by omega) (by omega)), trivial⟩ ?_
       refine xe_then ?_
       refine x_seq ?_
       refine x_reg [(3, .new 66), (4, .new 67)] [0, 4, 5, 7, 8, 9] [4, 5, 9, 57, 67, 7001, 8322] [.ref 7001 0, .ref 4 0, .ref 5 0, I (x + v_10), I k, .ref 9 0] [some (.box [nilA]), some (.box [.arr 67]), some (.box [.arr 57]), some (.arr 3 2 (litF [I x, I 200, I time, I ((x + 20) + v_9), I 500, I (time + 9)] 3)), some (.oar [8322, 57] 1 (ss.length + 1) (catF ss.length (oStroke 8322 ss) (litF [.arr 57] 1))), some (bxl00Src s'_10), some (.fam ss.length 3 (mStroke ss) (gStroke ss))] [(ss.length + 1) * 24 ≤ 140737488355328] (by kernel_rfl) ⟨(by omega), trivial⟩ ?_
       refine xe_then ?_
       obtain ⟨v_11, s'_11, hx11_0, hx11_1, hx11_2, hx11_3, hc11⟩ := pick_ok s'_10 50 (by first | assumption | (simp only [okSrc] at *; simp_all; done)) (by omega)
       refine x_reg [(0, .call [(false, .ptr false [slPoint false ([(Point.mk x 200 time), (Point.mk ((x + 20) + v_9) 500 (time + 9))])])] true (I ((at_ (Stroke.mk ([(Point.mk x 200 time), (Point.mk ((x + 20) + v_9) 500 (time + 9))])).Points ((Stroke.mk ([(Point.mk x 200 time), (Point.mk ((x + 20) + v_9) 500 (time + 9))])).Points.length - 1)).T))), (3, .lend [(7001, bxl00Src s'_10, bxl00Src s'_11)] [] [(true, .ref 7001 0), (true, I 50)] true (I v_11))] [0, 4, 5, 6, 7, 8] [4, 5, 57, 67, 7001, 8322] [.ref 7001 0, .ref 4 0, .ref 5 0, I ((((at_ (Stroke.mk ([(Point.mk x 200 time), (Point.mk ((x + 20) + v_9) 500 (time + 9))])).Points ((Stroke.mk ([(Point.mk x 200 time), (Point.mk ((x + 20) + v_9) 500 (time + 9))])).Points.length - 1)).T) + 1) + v_11), I (x + v_10), I k] [some (.box [nilA]), some (.box [.arr 67]), some (.arr 3 2 (litF [I x, I 200, I time, I ((x + 20) + v_9), I 500, I (time + 9)] 3)), some (.oar [8322, 57] 1 (ss.length + 1) (catF ss.length (oStroke 8322 ss) (litF [.arr 57] 1))), some (bxl00Src s'_11), some (.fam ss.length 3 (mStroke ss) (gStroke ss))] [Con Try.prog 38 [.ptr false [slPoint false ([(Point.mk x 200 time), (Point.mk ((x + 20) + v_9) 500 (time + 9))])]] true (I ((at_ (Stroke.mk ([(Point.mk x 200 time), (Point.mk ((x + 20) + v_9) 500 (time + 9))])).Points ((Stroke.mk ([(Point.mk x 200 time), (Point.mk ((x + 20) + v_9) 500 (time + 9))])).Points.length - 1)).T)) ∧ ((false = true → true = true) ∧ AV.idsL [slPoint false ([(Point.mk x 200 time), (Point.mk ((x + 20) + v_9) 500 (time + 9))])] = [] ∧ ((false = true → true = true) ∧ 3 = 3 ∧ 2 = (([(Point.mk x 200 time), (Point.mk ((x + 20) + v_9) 500 (time + 9))]).length) ∧ ∀ i, i < (([(Point.mk x 200 time), (Point.mk ((x + 20) + v_9) 500 (time + 9))]).length) → (litF [I x, I 200, I time, I ((x + 20) + v_9), I 500, I (time + 9)] 3) i = (fPoint ([(Point.mk x 200 time), (Point.mk ((x + 20) + v_9) 500 (time + 9))])) i ∨ (AV.idsL ((fPoint ([(Point.mk x 200 time), (Point.mk ((x + 20) + v_9) 500 (time + 9))])) i) = [] ∧ leL (fun _ => none) false ((litF [I x, I 200, I time, I ((x + 20) + v_9), I 500, I (time + 9)] 3) i) ((fPoint ([(Point.mk x 200 time), (Point.mk ((x + 20) + v_9) 500 (time + 9))])) i))) ∧ ([] : List AV) = []) ∧ True, inR .i64 (((at_ (Stroke.mk ([(Point.mk x 200 time), (Point.mk ((x + 20) + v_9) 500 (time + 9))])).Points ((Stroke.mk ([(Point.mk x 200 time), (Point.mk ((x + 20) + v_9) 500 (time + 9))])).Points.length - 1)).T) + 1), CallOK Try.prog 36 [.ref 7001 0, I 50] (lookO [(7001, bxl00Src s'_10)]) true (I v_11) (lookO [(7001, bxl00Src s'_11)]) ∧ ((.ref 7001 0 : AV) = .ref 7001 0) ∧ ((I 50 : AV) = I 50) ∧ (((bxl00Src s'_10 : Ob) = bxl00Src s'_10 ∨ obLe noOb true (bxl00Src s'_10) (bxl00Src s'_10)) ∧ taggedO false (bxl00Src s'_10)) ∧ True, inR .i64 ((((at_ (Stroke.mk ([(Point.mk x 200 time), (Point.mk ((x + 20) + v_9) 500 (time + 9))])).Points ((Stroke.mk ([(Point.mk x 200 time), (Point.mk ((x + 20) + v_9) 500 (time + 9))])).Points.length - 1)).T) + 1) + v_11)] (by kernel_rfl) ⟨⟨(l02Last_ok (Stroke.mk ([(Point.mk x 200 time), (Point.mk ((x + 20) + v_9) 500 (time + 9))])) (by first | assumption | (simp only; omega) | (simp; done))), ⟨(fun h => by cases h), rfl, ⟨⟨(fun h => by cases h), rfl, (by first | rfl | (simp; done) | (simp; omega) | omega), fun i_ hi_ => .inl (match i_, hi_ with | 0, _ => rfl | 1, _ => rfl | (i + 2), h => absurd h (by simp))⟩, rfl⟩⟩, trivial⟩, (inR_i64 (by (first | omega | (simp [at_]; omega))) (by (first | omega | (simp [at_]; omega)))), ⟨hc11, rfl, rfl, ⟨.inl rfl, (by simp [taggedO, taggedL, tagged, tagU8])⟩, trivial⟩, (inR_i64 (by (first | omega | (simp [at_]; omega))) (by (first | omega | (simp [at_]; omega)))), trivial⟩ ?_
       refine xe_block 1 ?_
       refine xe_then ?_
       refine x_reg [] [0, 4, 5, 6, 7, 8] [4, 5, 57, 67, 7001, 8322] [.ref 7001 0, .ref 4 0, .ref 5 0, I ((((at_ (Stroke.mk ([(Point.mk x 200 time), (Point.mk ((x + 20) + v_9) 500 (time + 9))])).Points ((Stroke.mk ([(Point.mk x 200 time), (Point.mk ((x + 20) + v_9) 500 (time + 9))])).Points.length - 1)).T) + 1) + v_11), I (x + v_10), I (k - 1)] [some (.box [nilA]), some (.box [.arr 67]), some (.arr 3 2 (litF [I x, I 200, I time, I ((x + 20) + v_9), I 500, I (time + 9)] 3)), some (.oar [8322, 57] 1 (ss.length + 1) (catF ss.length (oStroke 8322 ss) (litF [.arr 57] 1))), some (bxl00Src s'_11), some (.fam ss.length 3 (mStroke ss) (gStroke ss))] [inR .i64 (k - 1)] (by kernel_rfl) ⟨(inR_i64 (by omega) (by omega)), trivial⟩ ?_
       refine xe_join 57 8322 rfl rfl rfl ?_
       refine xe_weak [(750, 67)] (T := [(0, .ref 7001 0), (4, .ref 4 0), (5, .ref 5 0), (6, I ((((at_ (Stroke.mk ([(Point.mk x 200 time), (Point.mk ((x + 20) + v_9) 500 (time + 9))])).Points ((Stroke.mk ([(Point.mk x 200 time), (Point.mk ((x + 20) + v_9) 500 (time + 9))])).Points.length - 1)).T) + 1) + v_11)), (7, I (x + v_10)), (8, I (k - 1))]) (O := [(4, .box [nilA]), (5, .box [.arr 750]), (750, .oar [8322] 1 ((ss ++ [(Stroke.mk ([(Point.mk x 200 time), (Point.mk ((x + 20) + v_9) 500 (time + 9))]))]).length) (oStroke 8322 (ss ++ [(Stroke.mk ([(Point.mk x 200 time), (Point.mk ((x + 20) + v_9) 500 (time + 9))]))]))), (7001, bxl00Src s'_11), (8322, .fam (ss ++ [(Stroke.mk ([(Point.mk x 200 time), (Point.mk ((x + 20) + v_9) 500 (time + 9))]))]).length 3 (mStroke (ss ++ [(Stroke.mk ([(Point.mk x 200 time), (Point.mk ((x + 20) + v_9) 500 (time + 9))]))])) (gStroke (ss ++ [(Stroke.mk ([(Point.mk x 200 time), (Point.mk ((x + 20) + v_9) 500 (time + 9))]))])))]) rfl (⟨.inl rfl, .inl rfl, .inl rfl, .inl rfl, .inl rfl, .inl rfl, trivial⟩) (⟨.inl rfl, .inl rfl, .inr ⟨rfl, rfl, (by simp), fun i hi => .inl (ocatStroke rfl rfl rfl i hi)⟩, .inl rfl, .inr (fcatStroke (Stroke.mk ([(Point.mk x 200 time), (Point.mk ((x + 20) + v_9) 500 (time + 9))])) (by first | rfl | (simp; done)) (fun i_ hi_ => (match i_, hi_ with | 0, _ => rfl | 1, _ => rfl | (i + 2), h => absurd h (by simp)))), trivial⟩) (xe_again (((((at_ (Stroke.mk ([(Point.mk x 200 time), (Point.mk ((x + 20) + v_9) 500 (time + 9))])).Points ((Stroke.mk ([(Point.mk x 200 time), (Point.mk ((x + 20) + v_9) 500 (time + 9))])).Points.length - 1)).T) + 1) + v_11), (x + v_10), (k - 1), (ss ++ [(Stroke.mk ([(Point.mk x 200 time), (Point.mk ((x + 20) + v_9) 500 (time + 9))]))]), s'_11) rfl (show (okSrc s'_11 ∧ s'_11.code = s.code ∧ s.atx ≤ s'_11.atx ∧ s'_11.atx ≤ s.atx + 10 + 260 * (most - (k - 1))) ∧ (0 ≤ (k - 1) ∧ (k - 1) ≤ most) ∧ (((ss ++ [(Stroke.mk ([(Point.mk x 200 time), (Point.mk ((x + 20) + v_9) 500 (time + 9))]))]).length : Int) + (k - 1) ≤ most) ∧ (0 ≤ ((((at_ (Stroke.mk ([(Point.mk x 200 time), (Point.mk ((x + 20) + v_9) 500 (time + 9))])).Points ((Stroke.mk ([(Point.mk x 200 time), (Point.mk ((x + 20) + v_9) 500 (time + 9))])).Points.length - 1)).T) + 1) + v_11) ∧ ((((at_ (Stroke.mk ([(Point.mk x 200 time), (Point.mk ((x + 20) + v_9) 500 (time + 9))])).Points ((Stroke.mk ([(Point.mk x 200 time), (Point.mk ((x + 20) + v_9) 500 (time + 9))])).Points.length - 1)).T) + 1) + v_11) ≤ 100 + 500 * (most - (k - 1))) ∧ (0 ≤ (x + v_10) ∧ (x + v_10) ≤ 200 + 300 * (most - (k - 1))) ∧ (inkD (ss ++ [(Stroke.mk ([(Point.mk x 200 time), (Point.mk ((x + 20) + v_9) 500 (time + 9))]))]) ((((at_ (Stroke.mk ([(Point.mk x 200 time), (Point.mk ((x + 20) + v_9) 500 (time + 9))])).Points ((Stroke.mk ([(Point.mk x 200 time), (Point.mk ((x + 20) + v_9) 500 (time + 9))])).Points.length - 1)).T) + 1) + v_11)) ∧ True from ⟨(by exact ⟨by assumption, by first | assumption | rfl | (simp only [*]; done), by omega, by omega⟩), (by omega), (by simp; omega), (by (first | omega | (simp [at_]; omega))), (by omega), (by first | exact inkD_snoc hik hvs (fun p hp => (hvt p hp).1) (by have := hlt; unfold lastT; omega) (by omega) (by omega) | exact inkD_two hik (by omega) (by omega) (by omega) (by first | omega | (simp [at_]; omega)) (by omega)), trivial⟩) (by show ((k - 1).toNat : Nat) < k.toNat; omega))
      ·subst h3
       refine x_reg [(1, .lend [(7001, bxl00Src s'_4, bxl00Src s'_8)] [] [(true, .ref 7001 0), (true, I 2)] true (Bv false))] [0, 4, 5, 6, 7, 8, 9, 45] [4, 5, 9, 750, 7001, 8001, 8322] [.ref 7001 0, .ref 4 0, .ref 5 0, I time, I x, I k, .ref 9 0, Bv false] [some (.box [nilA]), some (.box [.arr 750]), some (.box [.arr 8001]), some (.oar [8322] 1 ss.length (oStroke 8322 ss)), some (bxl00Src s'_8), some (.arr 3 pts_3.length (fPoint pts_3)), some (.fam ss.length 3 (mStroke ss) (gStroke ss))] [CallOK Try.prog 17 [.ref 7001 0, I 2] (lookO [(7001, bxl00Src s'_4)]) true (Bv false) (lookO [(7001, bxl00Src s'_8)]) ∧ ((.ref 7001 0 : AV) = .ref 7001 0) ∧ ((I 2 : AV) = I 2) ∧ (((bxl00Src s'_4 : Ob) = bxl00Src s'_4 ∨ obLe noOb true (bxl00Src s'_4) (bxl00Src s'_4)) ∧ taggedO false (bxl00Src s'_4)) ∧ True] (by kernel_rfl) ⟨⟨hc8, rfl, rfl, ⟨.inl rfl, (by simp [taggedO, taggedL, tagged, tagU8])⟩, trivial⟩, trivial⟩ ?_
       refine xe_then ?_
       refine x_false rfl ?_
       refine x_skip ?_
       refine xe_then ?_
       refine x_seq ?_
       refine x_reg [(3, .new 66), (4, .new 67)] [0, 4, 5, 7, 8, 9] [4, 5, 9, 67, 7001, 8001, 8322] [.ref 7001 0, .ref 4 0, .ref 5 0, I x, I k, .ref 9 0] [some (.box [nilA]), some (.box [.arr 67]), some (.box [.arr 8001]), some (.oar [8322, 8001] 1 (ss.length + 1) (catF ss.length (oStroke 8322 ss) (litF [.arr 8001] 1))), some (bxl00Src s'_8), some (.arr 3 pts_3.length (fPoint pts_3)), some (.fam ss.length 3 (mStroke ss) (gStroke ss))] [(ss.length + 1) * 24 ≤ 140737488355328] (by kernel_rfl) ⟨(by omega), trivial⟩ ?_
       refine xe_then ?_
       obtain ⟨v_12, s'_12, hx12_0, hx12_1, hx12_2, hx12_3, hc12⟩ := pick_ok s'_8 50 (by first | assumption | (simp only [okSrc] at *; simp_all; done)) (by omega)
       refine x_reg [(0, .call [(false, .ptr false [slPoint false pts_3])] true (I ((at_ (Stroke.mk pts_3).Points ((Stroke.mk pts_3).Points.length - 1)).T))), (3, .lend [(7001, bxl00Src s'_8, bxl00Src s'_12)] [] [(true, .ref 7001 0), (true, I 50)] true (I v_12))] [0, 4, 5, 6, 7, 8] [4, 5, 67, 7001, 8001, 8322] [.ref 7001 0, .ref 4 0, .ref 5 0, I ((((at_ (Stroke.mk pts_3).Points ((Stroke.mk pts_3).Points.length - 1)).T) + 1) + v_12), I x, I k] [some (.box [nilA]), some (.box [.arr 67]), some (.oar [8322, 8001] 1 (ss.length + 1) (catF ss.length (oStroke 8322 ss) (litF [.arr 8001] 1))), some (bxl00Src s'_12), some (.arr 3 pts_3.length (fPoint pts_3)), some (.fam ss.length 3 (mStroke ss) (gStroke ss))] [Con Try.prog 38 [.ptr false [slPoint false pts_3]] true (I ((at_ (Stroke.mk pts_3).Points ((Stroke.mk pts_3).Points.length - 1)).T)) ∧ ((false = true → true = true) ∧ AV.idsL [slPoint false pts_3] = [] ∧ ((false = true → true = true) ∧ 3 = 3 ∧ pts_3.length = pts_3.length ∧ ∀ i, i < pts_3.length → (fPoint pts_3) i = (fPoint pts_3) i ∨ (AV.idsL ((fPoint pts_3) i) = [] ∧ leL (fun _ => none) false ((fPoint pts_3) i) ((fPoint pts_3) i))) ∧ ([] : List AV) = []) ∧ True, inR .i64 (((at_ (Stroke.mk pts_3).Points ((Stroke.mk pts_3).Points.length - 1)).T) + 1), CallOK Try.prog 36 [.ref 7001 0, I 50] (lookO [(7001, bxl00Src s'_8)]) true (I v_12) (lookO [(7001, bxl00Src s'_12)]) ∧ ((.ref 7001 0 : AV) = .ref 7001 0) ∧ ((I 50 : AV) = I 50) ∧ (((bxl00Src s'_8 : Ob) = bxl00Src s'_8 ∨ obLe noOb true (bxl00Src s'_8) (bxl00Src s'_8)) ∧ taggedO false (bxl00Src s'_8)) ∧ True, inR .i64 ((((at_ (Stroke.mk pts_3).Points ((Stroke.mk pts_3).Points.length - 1)).T) + 1) + v_12)] (by kernel_rfl) ⟨⟨(l02Last_ok (Stroke.mk pts_3) (by first | assumption | (simp only; omega) | (simp; done))), ⟨(fun h => by cases h), rfl, ⟨⟨(fun h => by cases h), rfl, rfl, fun i _ => .inl rfl⟩, rfl⟩⟩, trivial⟩, (inR_i64 (by (first | omega | (simp [at_]; omega))) (by (first | omega | (simp [at_]; omega)))), ⟨hc12, rfl, rfl, ⟨.inl rfl, (by simp [taggedO, taggedL, tagged, tagU8])⟩, trivial⟩, (inR_i64 (by (first | omega | (simp [at_]; omega))) (by (first | omega | (simp [at_]; omega)))), trivial⟩ ?_
       refine xe_block 1 ?_
       refine xe_then ?_
       refine x_reg [] [0, 4, 5, 6, 7, 8] [4, 5, 67, 7001, 8001, 8322] [.ref 7001 0, .ref 4 0, .ref 5 0, I ((((at_ (Stroke.mk pts_3).Points ((Stroke.mk pts_3).Points.length - 1)).T) + 1) + v_12), I x, I (k - 1)] [some (.box [nilA]), some (.box [.arr 67]), some (.oar [8322, 8001] 1 (ss.length + 1) (catF ss.length (oStroke 8322 ss) (litF [.arr 8001] 1))), some (bxl00Src s'_12), some (.arr 3 pts_3.length (fPoint pts_3)), some (.fam ss.length 3 (mStroke ss) (gStroke ss))] [inR .i64 (k - 1)] (by kernel_rfl) ⟨(inR_i64 (by omega) (by omega)), trivial⟩ ?_
       refine xe_join 8001 8322 rfl rfl rfl ?_
       refine xe_weak [(750, 67)] (T := [(0, .ref 7001 0), (4, .ref 4 0), (5, .ref 5 0), (6, I ((((at_ (Stroke.mk pts_3).Points ((Stroke.mk pts_3).Points.length - 1)).T) + 1) + v_12)), (7, I x), (8, I (k - 1))]) (O := [(4, .box [nilA]), (5, .box [.arr 750]), (750, .oar [8322] 1 ((ss ++ [(Stroke.mk pts_3)]).length) (oStroke 8322 (ss ++ [(Stroke.mk pts_3)]))), (7001, bxl00Src s'_12), (8322, .fam (ss ++ [(Stroke.mk pts_3)]).length 3 (mStroke (ss ++ [(Stroke.mk pts_3)])) (gStroke (ss ++ [(Stroke.mk pts_3)])))]) rfl (⟨.inl rfl, .inl rfl, .inl rfl, .inl rfl, .inl rfl, .inl rfl, trivial⟩) (⟨.inl rfl, .inl rfl, .inr ⟨rfl, rfl, (by simp), fun i hi => .inl (ocatStroke rfl rfl rfl i hi)⟩, .inl rfl, .inr (fcatStroke (Stroke.mk pts_3) (by first | rfl | (simp; done)) (fun i_ hi_ => (by first | rfl | fail))), trivial⟩) (xe_again (((((at_ (Stroke.mk pts_3).Points ((Stroke.mk pts_3).Points.length - 1)).T) + 1) + v_12), x, (k - 1), (ss ++ [(Stroke.mk pts_3)]), s'_12) rfl (show (okSrc s'_12 ∧ s'_12.code = s.code ∧ s.atx ≤ s'_12.atx ∧ s'_12.atx ≤ s.atx + 10 + 260 * (most - (k - 1))) ∧ (0 ≤ (k - 1) ∧ (k - 1) ≤ most) ∧ (((ss ++ [(Stroke.mk pts_3)]).length : Int) + (k - 1) ≤ most) ∧ (0 ≤ ((((at_ (Stroke.mk pts_3).Points ((Stroke.mk pts_3).Points.length - 1)).T) + 1) + v_12) ∧ ((((at_ (Stroke.mk pts_3).Points ((Stroke.mk pts_3).Points.length - 1)).T) + 1) + v_12) ≤ 100 + 500 * (most - (k - 1))) ∧ (0 ≤ x ∧ x ≤ 200 + 300 * (most - (k - 1))) ∧ (inkD (ss ++ [(Stroke.mk pts_3)]) ((((at_ (Stroke.mk pts_3).Points ((Stroke.mk pts_3).Points.length - 1)).T) + 1) + v_12)) ∧ True from ⟨(by exact ⟨by assumption, by first | assumption | rfl | (simp only [*]; done), by omega, by omega⟩), (by omega), (by simp; omega), (by (first | omega | (simp [at_]; omega))), (by omega), (by first | exact inkD_snoc hik hvs (fun p hp => (hvt p hp).1) (by have := hlt; unfold lastT; omega) (by omega) (by omega) | exact inkD_two hik (by omega) (by omega) (by omega) (by first | omega | (simp [at_]; omega)) (by omega)), trivial⟩) (by show ((k - 1).toNat : Nat) < k.toNat; omega))
    ·refine x_reg [(1, .dec false)] [0, 4, 5, 6, 7, 8, 19] [4, 5, 750, 7001, 8322] [.ref 7001 0, .ref 4 0, .ref 5 0, I time, I x, I k, Bv false] [some (.box [nilA]), some (.box [.arr 750]), some (.oar [8322] 1 ss.length (oStroke 8322 ss)), some (bxl00Src src), some (.fam ss.length 3 (mStroke ss) (gStroke ss))] [¬ (0 < k)] (by kernel_rfl) ⟨h1, trivial⟩ ?_
     refine xe_then ?_
     refine x_false rfl ?_
     refine x_exit ?_
     refine xe_exit_then ?_
     refine xe_loop_exit ?_
     refine xe_exit_same ?_
     refine xe_then ?_
     refine x_seq ?_
     refine x_reg [] [4] [4, 750, 7001, 8322] [.ref 4 0] [some (.box [.arr 750]), some (.oar [8322] 1 ss.length (oStroke 8322 ss)), some (bxl00Src src), some (.fam ss.length 3 (mStroke ss) (gStroke ss))] [] (by kernel_rfl) trivial ?_
     refine xe_then ?_
     refine x_ret ?_
     refine xe_weak [(8321, 750)] (T := [(4, .ref 4 0)]) (O := [(4, .box [.arr 8321]), (7001, bxl00Src src), (8321, .oar [8322] 1 ss.length (oStroke 8322 ss)), (8322, .fam ss.length 3 (mStroke ss) (gStroke ss))]) rfl (⟨.inl rfl, trivial⟩) (⟨.inl rfl, .inl rfl, .inl rfl, .inl rfl, trivial⟩) ?_
     refine xe_end (src, ss) (show (okSrc src) ∧ (src.code = s.code) ∧ (s.atx + 0 ≤ src.atx ∧ src.atx ≤ s.atx + 4000) ∧ ((ss.length : Int) ≤ most) ∧ (okInk' ⟨ss⟩ = true) ∧ (True) from ⟨(by first | exact hik.1 | omega | assumption | rfl | (simp; done) | (simp; omega) | (simp_all; done)), (by first | exact hik.1 | omega | assumption | rfl | (simp; done) | (simp; omega) | (simp_all; done)), (by first | exact hik.1 | omega | assumption | rfl | (simp; done) | (simp; omega) | (simp_all; done)), (by first | exact hik.1 | omega | assumption | rfl | (simp; done) | (simp; omega) | (simp_all; done)), (by first | exact hik.1 | omega | assumption | rfl | (simp; done) | (simp; omega) | (simp_all; done)), trivial⟩) (⟨.inl rfl, .inl rfl, .inl rfl, trivial⟩) (.agg [.arr 8321]) (by kernel_rfl) (.inl rfl) (fun h => by cases h) (fun h => by cases h)
  obtain ⟨⟨s', ss⟩, ⟨hh0, hh1, hh2, hh3, hh4, _⟩, hc⟩ := hh
  exact ⟨s', ss, hh0, hh1, hh2, hh3, hh4, hc⟩


-- spec.l02Draw
theorem l02Draw_ok (s : l00Src) (most : Int) (hs : okSrc s) (ha : s.atx ≤ 3999999999999995000) (hm : 0 ≤ most ∧ most ≤ 10) : ∃ (s' : l00Src) (ss : List Stroke), (okSrc s') ∧ (s'.code = s.code) ∧ (s.atx + 0 ≤ s'.atx ∧ s'.atx ≤ s.atx + 3000) ∧ ((ss.length : Int) ≤ most) ∧ (∀ t ∈ ss, 1 ≤ t.Points.length ∧ t.Points.length ≤ 10) ∧ (okInk' ⟨ss⟩ = true) ∧ CallOK Try.prog 19 [.ref 7001 0, I most] (lookO [(7001, bxl00Src s)]) false (.agg [.arr 8011]) (lookO [(7001, bxl00Src s'), (8011, .oar [8012] 1 ss.length (oStroke 8012 ss)), (8012, .fam ss.length 3 (mStroke ss) (gStroke ss))]) := by
  have hh : ∃ r : l00Src × (List Stroke), ((okSrc r.1) ∧ (r.1.code = s.code) ∧ (s.atx + 0 ≤ r.1.atx ∧ r.1.atx ≤ s.atx + 3000) ∧ ((r.2.length : Int) ≤ most) ∧ (∀ t ∈ r.2, 1 ≤ t.Points.length ∧ t.Points.length ≤ 10) ∧ (okInk' ⟨r.2⟩ = true) ∧ (True)) ∧ CallOK Try.prog 19 [.ref 7001 0, I most] (lookO [(7001, bxl00Src s)]) false (.agg [.arr 8011]) (lookO [(7001, bxl00Src r.1), (8011, .oar [8012] 1 r.2.length (oStroke 8012 r.2)), (8012, .fam r.2.length 3 (mStroke r.2) (gStroke r.2))]) := by
    refine fn_okX (Φ := fun r : l00Src × (List Stroke) => (okSrc r.1) ∧ (r.1.code = s.code) ∧ (s.atx + 0 ≤ r.1.atx ∧ r.1.atx ≤ s.atx + 3000) ∧ ((r.2.length : Int) ≤ most) ∧ (∀ t ∈ r.2, 1 ≤ t.Points.length ∧ t.Points.length ≤ 10) ∧ (okInk' ⟨r.2⟩ = true) ∧ (True)) [(7001, bxl00Src s)] (fun r => [(7001, bxl00Src r.1), (8011, .oar [8012] 1 r.2.length (oStroke 8012 r.2)), (8012, .fam r.2.length 3 (mStroke r.2) (gStroke r.2))]) (fn := Try.f19) (nt := 47) Try.func19 rfl rfl (args := [.ref 7001 0, I most]) rfl (allcons (.inr trivial) (allcons (.inl ⟨rfl, trivial⟩) allnil)) (res := fun r => .agg [.arr 8011]) ?_
    refine x_seq ?_
    refine x_reg [(0, .new 4)] [0, 1, 4] [4, 7001] [.ref 7001 0, I most, .ref 4 0] [some (.box [nilA]), some (bxl00Src s)] [] (by kernel_rfl) trivial ?_
    refine xe_then ?_
    refine x_seq ?_
    refine x_reg [(1, .new 5)] [0, 1, 4, 5] [4, 5, 7001] [.ref 7001 0, I most, .ref 4 0, .ref 5 0] [some (.box [nilA]), some (.box [nilA]), some (bxl00Src s)] [] (by kernel_rfl) trivial ?_
    refine xe_then ?_
    refine x_seq ?_
    obtain ⟨v_1, s'_1, hx1_0, hx1_1, hx1_2, hx1_3, hc1⟩ := pick_ok s 100 (by first | assumption | (simp only [okSrc] at *; simp_all; done)) (by omega)
    refine x_reg [(1, .lend [(7001, bxl00Src s, bxl00Src s'_1)] [] [(true, .ref 7001 0), (true, I 100)] true (I v_1))] [0, 1, 4, 5, 6] [4, 5, 7001] [.ref 7001 0, I most, .ref 4 0, .ref 5 0, I v_1] [some (.box [nilA]), some (.box [nilA]), some (bxl00Src s'_1)] [CallOK Try.prog 36 [.ref 7001 0, I 100] (lookO [(7001, bxl00Src s)]) true (I v_1) (lookO [(7001, bxl00Src s'_1)]) ∧ ((.ref 7001 0 : AV) = .ref 7001 0) ∧ ((I 100 : AV) = I 100) ∧ (((bxl00Src s : Ob) = bxl00Src s ∨ obLe noOb true (bxl00Src s) (bxl00Src s)) ∧ taggedO false (bxl00Src s)) ∧ True] (by kernel_rfl) ⟨⟨hc1, rfl, rfl, ⟨.inl rfl, (by simp [taggedO, taggedL, tagged, tagU8])⟩, trivial⟩, trivial⟩ ?_
    refine xe_then ?_
    refine x_seq ?_
    obtain ⟨v_2, s'_2, hx2_0, hx2_1, hx2_2, hx2_3, hc2⟩ := pick_ok s'_1 200 (by first | assumption | (simp only [okSrc] at *; simp_all; done)) (by omega)
    refine x_reg [(1, .lend [(7001, bxl00Src s'_1, bxl00Src s'_2)] [] [(true, .ref 7001 0), (true, I 200)] true (I v_2))] [0, 1, 4, 5, 6, 7] [4, 5, 7001] [.ref 7001 0, I most, .ref 4 0, .ref 5 0, I v_1, I (100 + v_2)] [some (.box [nilA]), some (.box [nilA]), some (bxl00Src s'_2)] [CallOK Try.prog 36 [.ref 7001 0, I 200] (lookO [(7001, bxl00Src s'_1)]) true (I v_2) (lookO [(7001, bxl00Src s'_2)]) ∧ ((.ref 7001 0 : AV) = .ref 7001 0) ∧ ((I 200 : AV) = I 200) ∧ (((bxl00Src s'_1 : Ob) = bxl00Src s'_1 ∨ obLe noOb true (bxl00Src s'_1) (bxl00Src s'_1)) ∧ taggedO false (bxl00Src s'_1)) ∧ True, inR .i64 (100 + v_2)] (by kernel_rfl) ⟨⟨hc2, rfl, rfl, ⟨.inl rfl, (by simp [taggedO, taggedL, tagged, tagU8])⟩, trivial⟩, (inR_i64 (by omega) (by omega)), trivial⟩ ?_
    refine xe_then ?_
    refine x_seq ?_
    refine x_seq ?_
    obtain ⟨v_3, s'_3, hx3_0, hx3_1, hx3_2, hx3_3, hc3⟩ := pick_ok s'_2 (most + 1) (by first | assumption | (simp only [okSrc] at *; simp_all; done)) (by omega)
    refine x_reg [(3, .lend [(7001, bxl00Src s'_2, bxl00Src s'_3)] [] [(true, .ref 7001 0), (true, I (most + 1))] true (I v_3))] [0, 4, 5, 6, 7, 8] [4, 5, 7001] [.ref 7001 0, .ref 4 0, .ref 5 0, I v_1, I (100 + v_2), I v_3] [some (.box [nilA]), some (.box [nilA]), some (bxl00Src s'_3)] [inR .i64 (most + 1), CallOK Try.prog 36 [.ref 7001 0, I (most + 1)] (lookO [(7001, bxl00Src s'_2)]) true (I v_3) (lookO [(7001, bxl00Src s'_3)]) ∧ ((.ref 7001 0 : AV) = .ref 7001 0) ∧ ((I (most + 1) : AV) = I (most + 1)) ∧ (((bxl00Src s'_2 : Ob) = bxl00Src s'_2 ∨ obLe noOb true (bxl00Src s'_2) (bxl00Src s'_2)) ∧ taggedO false (bxl00Src s'_2)) ∧ True] (by kernel_rfl) ⟨(inR_i64 (by omega) (by omega)), ⟨hc3, rfl, rfl, ⟨.inl rfl, (by simp [taggedO, taggedL, tagged, tagU8])⟩, trivial⟩, trivial⟩ ?_
    refine xe_then ?_
    refine x_block ?_
    refine x_nilC 5 0 750 1 (fun _ => []) rfl (by kernel_rfl) ?_
    refine x_fam 8012 3 (fun _ => 0) (fun _ _ => []) (by kernel_rfl) ?_
    refine x_weak [] (T := [(0, .ref 7001 0), (4, .ref 4 0), (5, .ref 5 0), (6, I v_1), (7, I (100 + v_2)), (8, I v_3)]) (O := [(4, .box [nilA]), (5, .box [.arr 750]), (750, .oar [8012] 1 (([] : List Stroke).length) (oStroke 8012 ([] : List Stroke))), (7001, bxl00Src s'_3), (8012, .fam ([] : List Stroke).length 3 (mStroke ([] : List Stroke)) (gStroke ([] : List Stroke)))]) rfl (⟨.inl rfl, .inl rfl, .inl rfl, .inl rfl, .inl rfl, .inl rfl, trivial⟩) (⟨.inl rfl, .inl rfl, .inr ⟨rfl, rfl, fun i hi => absurd hi (Nat.not_lt_zero _)⟩, .inl rfl, .inr ⟨rfl, rfl, fun p hp => absurd hp (Nat.not_lt_zero _)⟩, trivial⟩) ?_
    refine x_loop (X := Int × Int × Int × (List Stroke) × l00Src) (fun x => mkS [(0, .ref 7001 0), (4, .ref 4 0), (5, .ref 5 0), (6, I x.1), (7, I x.2.1), (8, I x.2.2.1)] [(4, .box [nilA]), (5, .box [.arr 750]), (750, .oar [8012] 1 x.2.2.2.1.length (oStroke 8012 x.2.2.2.1)), (7001, bxl00Src x.2.2.2.2), (8012, .fam x.2.2.2.1.length 3 (mStroke x.2.2.2.1) (gStroke x.2.2.2.1))]) (fun x => (okSrc x.2.2.2.2 ∧ x.2.2.2.2.code = s.code ∧ s.atx ≤ x.2.2.2.2.atx ∧ x.2.2.2.2.atx ≤ s.atx + 10 + 210 * (most - x.2.2.1)) ∧ (0 ≤ x.2.2.1 ∧ x.2.2.1 ≤ most) ∧ ((x.2.2.2.1.length : Int) + x.2.2.1 ≤ most) ∧ (0 ≤ x.1 ∧ x.1 ≤ 100 + 500 * (most - x.2.2.1)) ∧ (∀ t ∈ x.2.2.2.1, 1 ≤ t.Points.length ∧ t.Points.length ≤ 10) ∧ (0 ≤ x.2.1 ∧ x.2.1 ≤ 300 + 200 * (most - x.2.2.1)) ∧ (inkD x.2.2.2.1 x.1) ∧ True) (fun x => x.2.2.1.toNat) (v_1, (100 + v_2), v_3, ([] : List Stroke), s'_3) rfl (show (okSrc s'_3 ∧ s'_3.code = s.code ∧ s.atx ≤ s'_3.atx ∧ s'_3.atx ≤ s.atx + 10 + 210 * (most - v_3)) ∧ (0 ≤ v_3 ∧ v_3 ≤ most) ∧ ((([] : List Stroke).length : Int) + v_3 ≤ most) ∧ (0 ≤ v_1 ∧ v_1 ≤ 100 + 500 * (most - v_3)) ∧ (∀ t ∈ ([] : List Stroke), 1 ≤ t.Points.length ∧ t.Points.length ≤ 10) ∧ (0 ≤ (100 + v_2) ∧ (100 + v_2) ≤ 300 + 200 * (most - v_3)) ∧ (inkD ([] : List Stroke) v_1) ∧ True from ⟨(by exact ⟨by assumption, by first | assumption | rfl | (simp only [*]; done), by omega, by omega⟩), (by omega), (by simp; omega), (by omega), (by (intro z hz; simp at hz)), (by omega), (by exact inkD_nil _), trivial⟩) (fun x hI => ?_)
    obtain ⟨time, x, k, ss, src⟩ := x
    obtain ⟨hs0, hk0, hl0, ht0, hp0, hx0, hik, _⟩ : (okSrc src ∧ src.code = s.code ∧ s.atx ≤ src.atx ∧ src.atx ≤ s.atx + 10 + 210 * (most - k)) ∧ (0 ≤ k ∧ k ≤ most) ∧ ((ss.length : Int) + k ≤ most) ∧ (0 ≤ time ∧ time ≤ 100 + 500 * (most - k)) ∧ (∀ t ∈ ss, 1 ≤ t.Points.length ∧ t.Points.length ≤ 10) ∧ (0 ≤ x ∧ x ≤ 300 + 200 * (most - k)) ∧ (inkD ss time) ∧ True := hI
    show XW _ _ _ _ (mkS [(0, .ref 7001 0), (4, .ref 4 0), (5, .ref 5 0), (6, I time), (7, I x), (8, I k)] [(4, .box [nilA]), (5, .box [.arr 750]), (750, .oar [8012] 1 ss.length (oStroke 8012 ss)), (7001, bxl00Src src), (8012, .fam ss.length 3 (mStroke ss) (gStroke ss))]) _ _
    refine x_seq ?_
    refine x_seq ?_
    by_cases h1 : 0 < k
    ·refine x_reg [(1, .dec true)] [0, 4, 5, 6, 7, 8, 21] [4, 5, 750, 7001, 8012] [.ref 7001 0, .ref 4 0, .ref 5 0, I time, I x, I k, Bv true] [some (.box [nilA]), some (.box [.arr 750]), some (.oar [8012] 1 ss.length (oStroke 8012 ss)), some (bxl00Src src), some (.fam ss.length 3 (mStroke ss) (gStroke ss))] [0 < k] (by kernel_rfl) ⟨h1, trivial⟩ ?_
     refine xe_then ?_
     refine x_true rfl ?_
     refine x_skip ?_
     refine xe_then ?_
     refine x_seq ?_
     refine x_block ?_
     refine x_seq ?_
     obtain ⟨v_4, s'_4, hx4_0, hx4_1, hx4_2, hx4_3, hc4⟩ := pick_ok src 200 (by first | assumption | (simp only [okSrc] at *; simp_all; done)) (by omega)
     obtain ⟨s'_5, pts_5, hx5_0, hx5_1, hx5_2, hx5_3, hx5_4, hx5_5, hc5⟩ := l02DrawStroke_ok s'_4 time x (300 + v_4) (by first | assumption | (simp only [okSrc] at *; simp_all; done)) (by omega) (by omega)
     have hlt : time ≤ (at_ (Stroke.mk pts_5).Points ((Stroke.mk pts_5).Points.length - 1)).T ∧ (at_ (Stroke.mk pts_5).Points ((Stroke.mk pts_5).Points.length - 1)).T ≤ time + 210 := hx5_4 _ (last_mem (xs := pts_5) (by omega))
     have hvs : okStroke' (Stroke.mk pts_5) = true := hx5_5 ⟨by omega, by omega⟩
     have hvt := hx5_4
     refine x_reg [(4, .lend [(7001, bxl00Src src, bxl00Src s'_4)] [] [(true, .ref 7001 0), (true, I 200)] true (I v_4)), (6, .lend [(7001, bxl00Src s'_4, bxl00Src s'_5)] [(8001, .arr 3 pts_5.length (fPoint pts_5))] [(true, .ref 7001 0), (true, I time), (true, I x), (true, I (300 + v_4))] false (.agg [.arr 8001])), (7, .new 9)] [0, 4, 5, 7, 8, 9] [4, 5, 9, 750, 7001, 8001, 8012] [.ref 7001 0, .ref 4 0, .ref 5 0, I x, I k, .ref 9 0] [some (.box [nilA]), some (.box [.arr 750]), some (.box [.arr 8001]), some (.oar [8012] 1 ss.length (oStroke 8012 ss)), some (bxl00Src s'_5), some (.arr 3 pts_5.length (fPoint pts_5)), some (.fam ss.length 3 (mStroke ss) (gStroke ss))] [CallOK Try.prog 36 [.ref 7001 0, I 200] (lookO [(7001, bxl00Src src)]) true (I v_4) (lookO [(7001, bxl00Src s'_4)]) ∧ ((.ref 7001 0 : AV) = .ref 7001 0) ∧ ((I 200 : AV) = I 200) ∧ (((bxl00Src src : Ob) = bxl00Src src ∨ obLe noOb true (bxl00Src src) (bxl00Src src)) ∧ taggedO false (bxl00Src src)) ∧ True, inR .i64 (300 + v_4), CallOK Try.prog 37 [.ref 7001 0, I time, I x, I (300 + v_4)] (lookO [(7001, bxl00Src s'_4)]) false (.agg [.arr 8001]) (lookO [(7001, bxl00Src s'_5), (8001, .arr 3 pts_5.length (fPoint pts_5))]) ∧ ((.ref 7001 0 : AV) = .ref 7001 0) ∧ ((I time : AV) = I time) ∧ ((I x : AV) = I x) ∧ ((I (300 + v_4) : AV) = I (300 + v_4)) ∧ (((bxl00Src s'_4 : Ob) = bxl00Src s'_4 ∨ obLe noOb true (bxl00Src s'_4) (bxl00Src s'_4)) ∧ taggedO false (bxl00Src s'_4)) ∧ True] (by kernel_rfl) ⟨⟨hc4, rfl, rfl, ⟨.inl rfl, (by simp [taggedO, taggedL, tagged, tagU8])⟩, trivial⟩, (inR_i64 (by omega) (by omega)), ⟨hc5, rfl, rfl, rfl, rfl, ⟨.inl rfl, (by simp [taggedO, taggedL, tagged, tagU8])⟩, trivial⟩, trivial⟩ ?_
     refine xe_then ?_
     refine x_seq ?_
     refine x_reg [(3, .new 34), (4, .new 35)] [0, 4, 5, 7, 8, 9] [4, 5, 9, 35, 7001, 8001, 8012] [.ref 7001 0, .ref 4 0, .ref 5 0, I x, I k, .ref 9 0] [some (.box [nilA]), some (.box [.arr 35]), some (.box [.arr 8001]), some (.oar [8012, 8001] 1 (ss.length + 1) (catF ss.length (oStroke 8012 ss) (litF [.arr 8001] 1))), some (bxl00Src s'_5), some (.arr 3 pts_5.length (fPoint pts_5)), some (.fam ss.length 3 (mStroke ss) (gStroke ss))] [(ss.length + 1) * 24 ≤ 140737488355328] (by kernel_rfl) ⟨(by omega), trivial⟩ ?_
     refine xe_then ?_
     refine x_seq ?_
     obtain ⟨v_6, s'_6, hx6_0, hx6_1, hx6_2, hx6_3, hc6⟩ := pick_ok s'_5 200 (by first | assumption | (simp only [okSrc] at *; simp_all; done)) (by omega)
     refine x_reg [(0, .call [(false, .ptr false [slPoint false pts_5])] true (I ((at_ (Stroke.mk pts_5).Points ((Stroke.mk pts_5).Points.length - 1)).T))), (3, .lend [(7001, bxl00Src s'_5, bxl00Src s'_6)] [] [(true, .ref 7001 0), (true, I 200)] true (I v_6))] [0, 4, 5, 6, 7, 8] [4, 5, 35, 7001, 8001, 8012] [.ref 7001 0, .ref 4 0, .ref 5 0, I ((((at_ (Stroke.mk pts_5).Points ((Stroke.mk pts_5).Points.length - 1)).T) + 1) + v_6), I x, I k] [some (.box [nilA]), some (.box [.arr 35]), some (.oar [8012, 8001] 1 (ss.length + 1) (catF ss.length (oStroke 8012 ss) (litF [.arr 8001] 1))), some (bxl00Src s'_6), some (.arr 3 pts_5.length (fPoint pts_5)), some (.fam ss.length 3 (mStroke ss) (gStroke ss))] [Con Try.prog 38 [.ptr false [slPoint false pts_5]] true (I ((at_ (Stroke.mk pts_5).Points ((Stroke.mk pts_5).Points.length - 1)).T)) ∧ ((false = true → true = true) ∧ AV.idsL [slPoint false pts_5] = [] ∧ ((false = true → true = true) ∧ 3 = 3 ∧ pts_5.length = pts_5.length ∧ ∀ i, i < pts_5.length → (fPoint pts_5) i = (fPoint pts_5) i ∨ (AV.idsL ((fPoint pts_5) i) = [] ∧ leL (fun _ => none) false ((fPoint pts_5) i) ((fPoint pts_5) i))) ∧ ([] : List AV) = []) ∧ True, inR .i64 (((at_ (Stroke.mk pts_5).Points ((Stroke.mk pts_5).Points.length - 1)).T) + 1), CallOK Try.prog 36 [.ref 7001 0, I 200] (lookO [(7001, bxl00Src s'_5)]) true (I v_6) (lookO [(7001, bxl00Src s'_6)]) ∧ ((.ref 7001 0 : AV) = .ref 7001 0) ∧ ((I 200 : AV) = I 200) ∧ (((bxl00Src s'_5 : Ob) = bxl00Src s'_5 ∨ obLe noOb true (bxl00Src s'_5) (bxl00Src s'_5)) ∧ taggedO false (bxl00Src s'_5)) ∧ True, inR .i64 ((((at_ (Stroke.mk pts_5).Points ((Stroke.mk pts_5).Points.length - 1)).T) + 1) + v_6)] (by kernel_rfl) ⟨⟨(l02Last_ok (Stroke.mk pts_5) (by first | assumption | (simp only; omega))), ⟨(fun h => by cases h), rfl, ⟨⟨(fun h => by cases h), rfl, rfl, fun i _ => .inl rfl⟩, rfl⟩⟩, trivial⟩, (inR_i64 (by omega) (by omega)), ⟨hc6, rfl, rfl, ⟨.inl rfl, (by simp [taggedO, taggedL, tagged, tagU8])⟩, trivial⟩, (inR_i64 (by omega) (by omega)), trivial⟩ ?_
     refine xe_then ?_
     obtain ⟨v_7, s'_7, hx7_0, hx7_1, hx7_2, hx7_3, hc7⟩ := pick_ok s'_6 200 (by first | assumption | (simp only [okSrc] at *; simp_all; done)) (by omega)
     refine x_reg [(2, .lend [(7001, bxl00Src s'_6, bxl00Src s'_7)] [] [(true, .ref 7001 0), (true, I 200)] true (I v_7))] [0, 4, 5, 6, 7, 8] [4, 5, 35, 7001, 8001, 8012] [.ref 7001 0, .ref 4 0, .ref 5 0, I ((((at_ (Stroke.mk pts_5).Points ((Stroke.mk pts_5).Points.length - 1)).T) + 1) + v_6), I (x + v_7), I k] [some (.box [nilA]), some (.box [.arr 35]), some (.oar [8012, 8001] 1 (ss.length + 1) (catF ss.length (oStroke 8012 ss) (litF [.arr 8001] 1))), some (bxl00Src s'_7), some (.arr 3 pts_5.length (fPoint pts_5)), some (.fam ss.length 3 (mStroke ss) (gStroke ss))] [CallOK Try.prog 36 [.ref 7001 0, I 200] (lookO [(7001, bxl00Src s'_6)]) true (I v_7) (lookO [(7001, bxl00Src s'_7)]) ∧ ((.ref 7001 0 : AV) = .ref 7001 0) ∧ ((I 200 : AV) = I 200) ∧ (((bxl00Src s'_6 : Ob) = bxl00Src s'_6 ∨ obLe noOb true (bxl00Src s'_6) (bxl00Src s'_6)) ∧ taggedO false (bxl00Src s'_6)) ∧ True, inR .i64 (x + v_7)] (by kernel_rfl) ⟨⟨hc7, rfl, rfl, ⟨.inl rfl, (by simp [taggedO, taggedL, tagged, tagU8])⟩, trivial⟩, (inR_i64 (by omega) (by omega)), trivial⟩ ?_
     refine xe_block 1 ?_
     refine xe_then ?_
     refine x_reg [] [0, 4, 5, 6, 7, 8] [4, 5, 35, 7001, 8001, 8012] [.ref 7001 0, .ref 4 0, .ref 5 0, I ((((at_ (Stroke.mk pts_5).Points ((Stroke.mk pts_5).Points.length - 1)).T) + 1) + v_6), I (x + v_7), I (k - 1)] [some (.box [nilA]), some (.box [.arr 35]), some (.oar [8012, 8001] 1 (ss.length + 1) (catF ss.length (oStroke 8012 ss) (litF [.arr 8001] 1))), some (bxl00Src s'_7), some (.arr 3 pts_5.length (fPoint pts_5)), some (.fam ss.length 3 (mStroke ss) (gStroke ss))] [inR .i64 (k - 1)] (by kernel_rfl) ⟨(inR_i64 (by omega) (by omega)), trivial⟩ ?_
     refine xe_join 8001 8012 rfl rfl rfl ?_
     refine xe_weak [(750, 35)] (T := [(0, .ref 7001 0), (4, .ref 4 0), (5, .ref 5 0), (6, I ((((at_ (Stroke.mk pts_5).Points ((Stroke.mk pts_5).Points.length - 1)).T) + 1) + v_6)), (7, I (x + v_7)), (8, I (k - 1))]) (O := [(4, .box [nilA]), (5, .box [.arr 750]), (750, .oar [8012] 1 ((ss ++ [(Stroke.mk pts_5)]).length) (oStroke 8012 (ss ++ [(Stroke.mk pts_5)]))), (7001, bxl00Src s'_7), (8012, .fam (ss ++ [(Stroke.mk pts_5)]).length 3 (mStroke (ss ++ [(Stroke.mk pts_5)])) (gStroke (ss ++ [(Stroke.mk pts_5)])))]) rfl (⟨.inl rfl, .inl rfl, .inl rfl, .inl rfl, .inl rfl, .inl rfl, trivial⟩) (⟨.inl rfl, .inl rfl, .inr ⟨rfl, rfl, (by simp), fun i hi => .inl (ocatStroke rfl rfl rfl i hi)⟩, .inl rfl, .inr (fcatStroke (Stroke.mk pts_5) (by first | rfl | (simp; done)) (fun i_ hi_ => (by first | rfl | fail))), trivial⟩) (xe_again (((((at_ (Stroke.mk pts_5).Points ((Stroke.mk pts_5).Points.length - 1)).T) + 1) + v_6), (x + v_7), (k - 1), (ss ++ [(Stroke.mk pts_5)]), s'_7) rfl (show (okSrc s'_7 ∧ s'_7.code = s.code ∧ s.atx ≤ s'_7.atx ∧ s'_7.atx ≤ s.atx + 10 + 210 * (most - (k - 1))) ∧ (0 ≤ (k - 1) ∧ (k - 1) ≤ most) ∧ (((ss ++ [(Stroke.mk pts_5)]).length : Int) + (k - 1) ≤ most) ∧ (0 ≤ ((((at_ (Stroke.mk pts_5).Points ((Stroke.mk pts_5).Points.length - 1)).T) + 1) + v_6) ∧ ((((at_ (Stroke.mk pts_5).Points ((Stroke.mk pts_5).Points.length - 1)).T) + 1) + v_6) ≤ 100 + 500 * (most - (k - 1))) ∧ (∀ t ∈ (ss ++ [(Stroke.mk pts_5)]), 1 ≤ t.Points.length ∧ t.Points.length ≤ 10) ∧ (0 ≤ (x + v_7) ∧ (x + v_7) ≤ 300 + 200 * (most - (k - 1))) ∧ (inkD (ss ++ [(Stroke.mk pts_5)]) ((((at_ (Stroke.mk pts_5).Points ((Stroke.mk pts_5).Points.length - 1)).T) + 1) + v_6)) ∧ True from ⟨(by exact ⟨by assumption, by first | assumption | rfl | (simp only [*]; done), by omega, by omega⟩), (by omega), (by simp; omega), (by omega), (by exact all_snoc hp0 (by dsimp only; omega)), (by omega), (by exact inkD_snoc hik hvs (fun p hp => (hvt p hp).1) (by have := hlt; unfold lastT; omega) (by omega) (by omega)), trivial⟩) (by show ((k - 1).toNat : Nat) < k.toNat; omega))
    ·refine x_reg [(1, .dec false)] [0, 4, 5, 6, 7, 8, 21] [4, 5, 750, 7001, 8012] [.ref 7001 0, .ref 4 0, .ref 5 0, I time, I x, I k, Bv false] [some (.box [nilA]), some (.box [.arr 750]), some (.oar [8012] 1 ss.length (oStroke 8012 ss)), some (bxl00Src src), some (.fam ss.length 3 (mStroke ss) (gStroke ss))] [¬ (0 < k)] (by kernel_rfl) ⟨h1, trivial⟩ ?_
     refine xe_then ?_
     refine x_false rfl ?_
     refine x_exit ?_
     refine xe_exit_then ?_
     refine xe_loop_exit ?_
     refine xe_exit_same ?_
     refine xe_then ?_
     refine x_seq ?_
     refine x_reg [] [4] [4, 750, 7001, 8012] [.ref 4 0] [some (.box [.arr 750]), some (.oar [8012] 1 ss.length (oStroke 8012 ss)), some (bxl00Src src), some (.fam ss.length 3 (mStroke ss) (gStroke ss))] [] (by kernel_rfl) trivial ?_
     refine xe_then ?_
     refine x_ret ?_
     refine xe_weak [(8011, 750)] (T := [(4, .ref 4 0)]) (O := [(4, .box [.arr 8011]), (7001, bxl00Src src), (8011, .oar [8012] 1 ss.length (oStroke 8012 ss)), (8012, .fam ss.length 3 (mStroke ss) (gStroke ss))]) rfl (⟨.inl rfl, trivial⟩) (⟨.inl rfl, .inl rfl, .inl rfl, .inl rfl, trivial⟩) ?_
     refine xe_end (src, ss) (show (okSrc src) ∧ (src.code = s.code) ∧ (s.atx + 0 ≤ src.atx ∧ src.atx ≤ s.atx + 3000) ∧ ((ss.length : Int) ≤ most) ∧ (∀ t ∈ ss, 1 ≤ t.Points.length ∧ t.Points.length ≤ 10) ∧ (okInk' ⟨ss⟩ = true) ∧ (True) from ⟨(by first | exact hik.1 | omega | assumption | rfl | (simp; done) | (simp; omega) | (simp_all; done)), (by first | exact hik.1 | omega | assumption | rfl | (simp; done) | (simp; omega) | (simp_all; done)), (by first | exact hik.1 | omega | assumption | rfl | (simp; done) | (simp; omega) | (simp_all; done)), (by first | exact hik.1 | omega | assumption | rfl | (simp; done) | (simp; omega) | (simp_all; done)), (by first | exact hik.1 | omega | assumption | rfl | (simp; done) | (simp; omega) | (simp_all; done)), (by first | exact hik.1 | omega | assumption | rfl | (simp; done) | (simp; omega) | (simp_all; done)), trivial⟩) (⟨.inl rfl, .inl rfl, .inl rfl, trivial⟩) (.agg [.arr 8011]) (by kernel_rfl) (.inl rfl) (fun h => by cases h) (fun h => by cases h)
  obtain ⟨⟨s', ss⟩, ⟨hh0, hh1, hh2, hh3, hh4, hh5, _⟩, hc⟩ := hh
  exact ⟨s', ss, hh0, hh1, hh2, hh3, hh4, hh5, hc⟩


-- spec.A2Ink
theorem A2Ink_ok (code : List Int) (hc : (∀ j, j < code.length → 0 ≤ at_ code j ∧ at_ code j ≤ 255) ∧ code.length ≤ 4611686018427387904) : ∃ (ik : Ink), (okInk' ik = true) ∧ ((ik.Strokes.length : Int) ≤ 6) ∧ Con Try.prog 5 [slU8 false code] true (.agg [slStroke true ik.Strokes]) := by
  have hh : ∃ r : Ink, ((okInk' r = true) ∧ ((r.Strokes.length : Int) ≤ 6) ∧ (True)) ∧ CallOK Try.prog 5 [slU8 false code] (lookO []) true (.agg [slStroke true r.Strokes]) (lookO []) := by
    refine fn_okX (Φ := fun r : Ink => (okInk' r = true) ∧ ((r.Strokes.length : Int) ≤ 6) ∧ (True)) [] (fun r => []) (fn := Try.f5) (nt := 12) Try.func5 rfl rfl (args := [slU8 false code]) rfl (allcons (.inl ⟨rfl, tagU8 false _⟩) allnil) (res := fun r => .agg [slStroke true r.Strokes]) ?_
    refine x_seq ?_
    refine x_reg [(0, .new 2)] [0, 2] [2] [slU8 false code, .ref 2 0] [some (.box [nilA])] [] (by kernel_rfl) trivial ?_
    refine xe_then ?_
    refine x_seq ?_
    obtain ⟨s'_1, hx1_0, hc1⟩ := l00From_ok code
    have hsrc : okSrc s'_1 := ⟨by rw [hx1_0.1]; exact hc.1, by rw [hx1_0.2]; decide, by rw [hx1_0.1]; exact hc.2⟩
    have hat0 := hx1_0.2
    refine x_reg [(1, .lend [] [(7001, bxl00Src s'_1)] [(true, slU8 false code)] false (.ref 7001 0))] [2, 3] [2, 7001] [.ref 2 0, .ref 7001 0] [some (.box [nilA]), some (bxl00Src s'_1)] [CallOK Try.prog 16 [slU8 false code] (lookO []) false (.ref 7001 0) (lookO [(7001, bxl00Src s'_1)]) ∧ ((slU8 false code : AV) = slU8 false code) ∧ True] (by kernel_rfl) ⟨⟨hc1, rfl, trivial⟩, trivial⟩ ?_
    refine xe_then ?_
    refine x_seq ?_
    refine x_seq ?_
    obtain ⟨v_2, s'_2, hx2_0, hx2_1, hx2_2, hc2⟩ := one_ok s'_1 3 (by first | assumption | (simp only [okSrc] at *; simp_all; done)) (by omega)
    rcases Bool.eq_false_or_eq_true v_2 with h1 | h1
    ·subst h1
     refine x_reg [(1, .lend [(7001, bxl00Src s'_1, bxl00Src s'_2)] [] [(true, .ref 7001 0), (true, I 3)] true (Bv true))] [2, 3, 7] [2, 7001] [.ref 2 0, .ref 7001 0, Bv true] [some (.box [nilA]), some (bxl00Src s'_2)] [CallOK Try.prog 17 [.ref 7001 0, I 3] (lookO [(7001, bxl00Src s'_1)]) true (Bv true) (lookO [(7001, bxl00Src s'_2)]) ∧ ((.ref 7001 0 : AV) = .ref 7001 0) ∧ ((I 3 : AV) = I 3) ∧ (((bxl00Src s'_1 : Ob) = bxl00Src s'_1 ∨ obLe noOb true (bxl00Src s'_1) (bxl00Src s'_1)) ∧ taggedO false (bxl00Src s'_1)) ∧ True] (by kernel_rfl) ⟨⟨hc2, rfl, rfl, ⟨.inl rfl, (by simp [taggedO, taggedL, tagged, tagU8])⟩, trivial⟩, trivial⟩ ?_
     refine xe_then ?_
     refine x_true rfl ?_
     refine x_seq ?_
     obtain ⟨s'_3, ss_3, hx3_0, hx3_1, hx3_2, hx3_3, hx3_4, hc3⟩ := l14Draw_ok s'_2 6 (by first | assumption | (simp only [okSrc] at *; simp_all; done)) (by omega) (by omega)
     refine x_reg [(1, .lend [(7001, bxl00Src s'_2, bxl00Src s'_3)] [(8321, .oar [8322] 1 ss_3.length (oStroke 8322 ss_3)), (8322, .fam ss_3.length 3 (mStroke ss_3) (gStroke ss_3))] [(true, .ref 7001 0), (true, I 6)] false (.agg [.arr 8321]))] [2] [2, 8321, 8322] [.ref 2 0] [some (.box [.arr 8321]), some (.oar [8322] 1 ss_3.length (oStroke 8322 ss_3)), some (.fam ss_3.length 3 (mStroke ss_3) (gStroke ss_3))] [CallOK Try.prog 18 [.ref 7001 0, I 6] (lookO [(7001, bxl00Src s'_2)]) false (.agg [.arr 8321]) (lookO [(7001, bxl00Src s'_3), (8321, .oar [8322] 1 ss_3.length (oStroke 8322 ss_3)), (8322, .fam ss_3.length 3 (mStroke ss_3) (gStroke ss_3))]) ∧ ((.ref 7001 0 : AV) = .ref 7001 0) ∧ ((I 6 : AV) = I 6) ∧ (((bxl00Src s'_2 : Ob) = bxl00Src s'_2 ∨ obLe noOb true (bxl00Src s'_2) (bxl00Src s'_2)) ∧ taggedO false (bxl00Src s'_2)) ∧ True] (by kernel_rfl) ⟨⟨hc3, rfl, rfl, ⟨.inl rfl, (by simp [taggedO, taggedL, tagged, tagU8])⟩, trivial⟩, trivial⟩ ?_
     refine xe_then ?_
     refine x_ret ?_
     refine xe_ret_then ?_
     refine xe_end (Ink.mk ss_3) (show (okInk' (Ink.mk ss_3) = true) ∧ (((Ink.mk ss_3).Strokes.length : Int) ≤ 6) ∧ (True) from ⟨(by first | assumption | omega | (simp only; omega) | (simp only; assumption)), (by first | assumption | omega | (simp only; omega) | (simp only; assumption)), trivial⟩) (trivial) (.agg [.arr 8321]) (by kernel_rfl) (.inr ⟨⟨(fun _ => rfl), rfl, rfl, oleStroke _ _ rfl⟩, rfl⟩) (fun _ => rfl) (fun _ => (by simp [tagged, taggedL, tagStroke]))
    ·subst h1
     refine x_reg [(1, .lend [(7001, bxl00Src s'_1, bxl00Src s'_2)] [] [(true, .ref 7001 0), (true, I 3)] true (Bv false))] [2, 3, 7] [2, 7001] [.ref 2 0, .ref 7001 0, Bv false] [some (.box [nilA]), some (bxl00Src s'_2)] [CallOK Try.prog 17 [.ref 7001 0, I 3] (lookO [(7001, bxl00Src s'_1)]) true (Bv false) (lookO [(7001, bxl00Src s'_2)]) ∧ ((.ref 7001 0 : AV) = .ref 7001 0) ∧ ((I 3 : AV) = I 3) ∧ (((bxl00Src s'_1 : Ob) = bxl00Src s'_1 ∨ obLe noOb true (bxl00Src s'_1) (bxl00Src s'_1)) ∧ taggedO false (bxl00Src s'_1)) ∧ True] (by kernel_rfl) ⟨⟨hc2, rfl, rfl, ⟨.inl rfl, (by simp [taggedO, taggedL, tagged, tagU8])⟩, trivial⟩, trivial⟩ ?_
     refine xe_then ?_
     refine x_false rfl ?_
     refine x_skip ?_
     refine xe_then ?_
     refine x_seq ?_
     obtain ⟨s'_4, ss_4, hx4_0, hx4_1, hx4_2, hx4_3, hx4_4, hx4_5, hc4⟩ := l02Draw_ok s'_2 5 (by first | assumption | (simp only [okSrc] at *; simp_all; done)) (by omega) (by omega)
     refine x_reg [(1, .lend [(7001, bxl00Src s'_2, bxl00Src s'_4)] [(8011, .oar [8012] 1 ss_4.length (oStroke 8012 ss_4)), (8012, .fam ss_4.length 3 (mStroke ss_4) (gStroke ss_4))] [(true, .ref 7001 0), (true, I 5)] false (.agg [.arr 8011]))] [2] [2, 8011, 8012] [.ref 2 0] [some (.box [.arr 8011]), some (.oar [8012] 1 ss_4.length (oStroke 8012 ss_4)), some (.fam ss_4.length 3 (mStroke ss_4) (gStroke ss_4))] [CallOK Try.prog 19 [.ref 7001 0, I 5] (lookO [(7001, bxl00Src s'_2)]) false (.agg [.arr 8011]) (lookO [(7001, bxl00Src s'_4), (8011, .oar [8012] 1 ss_4.length (oStroke 8012 ss_4)), (8012, .fam ss_4.length 3 (mStroke ss_4) (gStroke ss_4))]) ∧ ((.ref 7001 0 : AV) = .ref 7001 0) ∧ ((I 5 : AV) = I 5) ∧ (((bxl00Src s'_2 : Ob) = bxl00Src s'_2 ∨ obLe noOb true (bxl00Src s'_2) (bxl00Src s'_2)) ∧ taggedO false (bxl00Src s'_2)) ∧ True] (by kernel_rfl) ⟨⟨hc4, rfl, rfl, ⟨.inl rfl, (by simp [taggedO, taggedL, tagged, tagU8])⟩, trivial⟩, trivial⟩ ?_
     refine xe_then ?_
     refine x_ret ?_
     refine xe_end (Ink.mk ss_4) (show (okInk' (Ink.mk ss_4) = true) ∧ (((Ink.mk ss_4).Strokes.length : Int) ≤ 6) ∧ (True) from ⟨(by first | assumption | omega | (simp only; omega) | (simp only; assumption)), (by first | assumption | omega | (simp only; omega) | (simp only; assumption)), trivial⟩) (trivial) (.agg [.arr 8011]) (by kernel_rfl) (.inr ⟨⟨(fun _ => rfl), rfl, rfl, oleStroke _ _ rfl⟩, rfl⟩) (fun _ => rfl) (fun _ => (by simp [tagged, taggedL, tagStroke]))
  obtain ⟨ik, ⟨hh0, hh1, _⟩, hc⟩ := hh
  exact ⟨ik, hh0, hh1, hc⟩


-- impl.within
theorem within_ok (n : Int) (low : Int) (high : Int) : Con Try.prog 30 [I n, I low, I high] true (Bv (inB n low high)) := by
  refine fn_ok (fn := Try.f30) (nt := 15) Try.func30 rfl rfl rfl rfl (by simp [taggedL, tagged]) fun B hB => ?_
  refine aw_seq ?_
  refine aw_reg [] [0, 1, 2] [] [I n, I low, I high] [] [] (by kernel_rfl) hB trivial ?_
  refine ae_then ?_
  refine aw_seq ?_
  by_cases h1 : low ≤ n
  ·refine aw_reg [(2, .dec true)] [6] [] [Bv (decide (n ≤ high))] [] [low ≤ n] (by kernel_rfl) hB ⟨h1, trivial⟩ ?_
   refine ae_then ?_
   refine aw_ret ?_
   refine ae_ret hB (Bv (decide (n ≤ high))) (by kernel_rfl) (.inl (by first | rfl | (refine congrArg Bv ?_; simp [inB, *]; done) | (refine congrArg Bv ?_; simp [inB, *]; omega) | (refine congrArg Bv ?_; simp_all [inB]; done) | (refine congrArg Bv ?_; simp_all [inB]; omega))) rfl (fun _ => trivial)
  ·refine aw_reg [(2, .dec false)] [6] [] [Bv false] [] [¬ (low ≤ n)] (by kernel_rfl) hB ⟨h1, trivial⟩ ?_
   refine ae_then ?_
   refine aw_ret ?_
   refine ae_ret hB (Bv false) (by kernel_rfl) (.inl (by first | rfl | (refine congrArg Bv ?_; simp [inB, *]; done) | (refine congrArg Bv ?_; simp [inB, *]; omega) | (refine congrArg Bv ?_; simp_all [inB]; done) | (refine congrArg Bv ?_; simp_all [inB]; omega))) rfl (fun _ => trivial)


-- impl.isCoord
theorem isCoord_ok (n : Int) : Con Try.prog 53 [I n] true (Bv (inB n 0 4095)) := by
  refine fn_ok (fn := Try.f53) (nt := 5) Try.func53 rfl rfl rfl rfl (by simp [taggedL, tagged]) fun B hB => ?_
  refine aw_seq ?_
  refine aw_reg [] [0] [] [I n] [] [] (by kernel_rfl) hB trivial ?_
  refine ae_then ?_
  refine aw_seq ?_
  refine aw_reg [(1, .call [(true, I n), (true, I 0), (true, I 4095)] true (Bv (inB n 0 4095)))] [2] [] [Bv (inB n 0 4095)] [] [Con Try.prog 30 [I n, I 0, I 4095] true (Bv (inB n 0 4095)) ∧ ((I n : AV) = I n) ∧ ((I 0 : AV) = I 0) ∧ ((I 4095 : AV) = I 4095) ∧ True] (by kernel_rfl) hB ⟨⟨(within_ok n 0 4095), rfl, rfl, rfl, trivial⟩, trivial⟩ ?_
  refine ae_then ?_
  refine aw_ret ?_
  refine ae_ret hB (Bv (inB n 0 4095)) (by kernel_rfl) (.inl rfl) rfl (fun _ => trivial)


-- impl.validPoint
theorem validPoint_ok (p : Point) : Con Try.prog 42 [agPoint p] true (Bv (okP p)) := by
  refine fn_ok (fn := Try.f42) (nt := 16) Try.func42 rfl rfl rfl rfl (by simp [taggedL, tagged]) fun B hB => ?_
  refine aw_seq ?_
  refine aw_reg [(0, .new 1)] [1] [1] [.ref 1 0] [some (bxPoint p)] [] (by kernel_rfl) hB trivial ?_
  refine ae_then ?_
  refine aw_seq ?_
  rcases Bool.eq_false_or_eq_true (inB p.X 0 4095) with h1 | h1
  ·rcases Bool.eq_false_or_eq_true (inB p.Y 0 4095) with h2 | h2
   ·refine aw_reg [(2, .call [(true, I p.X)] true (Bv true)), (6, .call [(true, I p.Y)] true (Bv true)), (11, .call [(true, I p.T), (true, I 0), (true, I 3600000)] true (Bv (inB p.T 0 3600000)))] [2] [] [Bv (inB p.T 0 3600000)] [] [Con Try.prog 53 [I p.X] true (Bv true) ∧ ((I p.X : AV) = I p.X) ∧ True, Con Try.prog 53 [I p.Y] true (Bv true) ∧ ((I p.Y : AV) = I p.Y) ∧ True, Con Try.prog 30 [I p.T, I 0, I 3600000] true (Bv (inB p.T 0 3600000)) ∧ ((I p.T : AV) = I p.T) ∧ ((I 0 : AV) = I 0) ∧ ((I 3600000 : AV) = I 3600000) ∧ True] (by kernel_rfl) hB ⟨⟨(con_bool h1 (isCoord_ok p.X)), rfl, trivial⟩, ⟨(con_bool h2 (isCoord_ok p.Y)), rfl, trivial⟩, ⟨(within_ok p.T 0 3600000), rfl, rfl, rfl, trivial⟩, trivial⟩ ?_
    refine ae_then ?_
    refine aw_ret ?_
    refine ae_ret hB (Bv (inB p.T 0 3600000)) (by kernel_rfl) (.inl (by first | rfl | (refine congrArg Bv ?_; simp [okP, *]; done) | (refine congrArg Bv ?_; simp [okP, *]; omega) | (refine congrArg Bv ?_; simp_all [okP]; done) | (refine congrArg Bv ?_; simp_all [okP]; omega))) rfl (fun _ => trivial)
   ·refine aw_reg [(2, .call [(true, I p.X)] true (Bv true)), (6, .call [(true, I p.Y)] true (Bv false))] [2] [] [Bv false] [] [Con Try.prog 53 [I p.X] true (Bv true) ∧ ((I p.X : AV) = I p.X) ∧ True, Con Try.prog 53 [I p.Y] true (Bv false) ∧ ((I p.Y : AV) = I p.Y) ∧ True] (by kernel_rfl) hB ⟨⟨(con_bool h1 (isCoord_ok p.X)), rfl, trivial⟩, ⟨(con_bool h2 (isCoord_ok p.Y)), rfl, trivial⟩, trivial⟩ ?_
    refine ae_then ?_
    refine aw_ret ?_
    refine ae_ret hB (Bv false) (by kernel_rfl) (.inl (by first | rfl | (refine congrArg Bv ?_; simp [okP, *]; done) | (refine congrArg Bv ?_; simp [okP, *]; omega) | (refine congrArg Bv ?_; simp_all [okP]; done) | (refine congrArg Bv ?_; simp_all [okP]; omega))) rfl (fun _ => trivial)
  ·refine aw_reg [(2, .call [(true, I p.X)] true (Bv false))] [2] [] [Bv false] [] [Con Try.prog 53 [I p.X] true (Bv false) ∧ ((I p.X : AV) = I p.X) ∧ True] (by kernel_rfl) hB ⟨⟨(con_bool h1 (isCoord_ok p.X)), rfl, trivial⟩, trivial⟩ ?_
   refine ae_then ?_
   refine aw_ret ?_
   refine ae_ret hB (Bv false) (by kernel_rfl) (.inl (by first | rfl | (refine congrArg Bv ?_; simp [okP, *]; done) | (refine congrArg Bv ?_; simp [okP, *]; omega) | (refine congrArg Bv ?_; simp_all [okP]; done) | (refine congrArg Bv ?_; simp_all [okP]; omega))) rfl (fun _ => trivial)


-- impl.ValidStroke
theorem ValidStroke_ok (s : Stroke) : Con Try.prog 24 [.agg [slPoint false s.Points]] true (Bv (okStroke' s)) := by
  refine fn_ok (fn := Try.f24) (nt := 43) Try.func24 rfl rfl rfl rfl (by simp [taggedL, tagged, tagPoint]) fun B hB => ?_
  refine aw_lens (x := .agg [slPoint false s.Points]) 0 rfl (fun len_s => ?_)
  simp [LenOK, LenL, cPoint, fPoint, slPoint] at len_s
  refine aw_seq ?_
  refine aw_reg [(0, .new 1)] [1] [1] [.ref 1 0] [some (.box [slPoint false s.Points])] [] (by kernel_rfl) hB trivial ?_
  refine ae_then ?_
  refine aw_seq ?_
  refine aw_seq ?_
  refine aw_reg [] [1, 6, 7, 8] [1] [.ref 1 0, slPoint false s.Points, I (s.Points.length : Int), I 0] [some (.box [slPoint false s.Points])] [] (by kernel_rfl) hB trivial ?_
  refine ae_then ?_
  refine aw_block ?_
  refine aw_loop (fun gn gσ => ∃ (t8 : Int), gn = ((s.Points.length : Int) - t8).toNat ∧ (0 ≤ t8 ∧ t8 ≤ (s.Points.length : Int)) ∧ (∀ j : Nat, (j : Int) < t8 → okPt s.Points j = true) ∧ gσ = mkS [(1, .ref 1 0), (6, slPoint false s.Points), (7, I (s.Points.length : Int)), (8, I t8)] [(1, .box [slPoint false s.Points])]) (((s.Points.length : Int) - 0).toNat) ⟨0, rfl, (by omega), (by intro j hj; omega), rfl⟩ (fun gn gσ hI => ?_)
  obtain ⟨t8, rfl, hi0, hall0, rfl⟩ := hI
  refine aw_seq ?_
  by_cases h1 : t8 < (s.Points.length : Int)
  ·have hi : t8.toNat < s.Points.length := by omega
   refine aw_reg [(0, .dec true)] [1, 6, 7, 8, 9] [1] [.ref 1 0, slPoint false s.Points, I (s.Points.length : Int), I t8, Bv true] [some (.box [slPoint false s.Points])] [t8 < (s.Points.length : Int)] (by kernel_rfl) hB ⟨h1, trivial⟩ ?_
   refine ae_then ?_
   refine aw_seq ?_
   refine aw_true rfl ?_
   refine aw_skip ?_
   refine ae_then ?_
   refine aw_seq ?_
   refine aw_block ?_
   refine aw_seq ?_
   refine aw_reg [(3, .new 4)] [1, 3, 4, 6, 7, 8] [1, 4] [.ref 1 0, I t8, .ref 4 0, slPoint false s.Points, I (s.Points.length : Int), I t8] [some (.box [slPoint false s.Points]), some (bxPoint (at_ s.Points t8.toNat))] [(0 : Int) ≤ t8 ∧ t8 < (s.Points.length : Int)] (by kernel_rfl) hB ⟨⟨(by omega), (by omega)⟩, trivial⟩ ?_
   refine ae_then ?_
   refine aw_seq ?_
   rcases Bool.eq_false_or_eq_true (okP (at_ s.Points t8.toNat)) with h2 | h2
   ·by_cases h3 : 0 < t8
    ·by_cases h4 : ((at_ s.Points t8.toNat).T) ≤ ((at_ s.Points ((t8 - 1).toNat)).T)
     ·have hall : allN s.Points.length (okPt s.Points) = false := allN_not hi (okPt_no h3 h4)
      refine aw_reg [(1, .call [(true, agPoint (at_ s.Points t8.toNat))] true (Bv true)), (5, .dec true), (16, .dec true)] [1, 6, 7, 8, 31] [1] [.ref 1 0, slPoint false s.Points, I (s.Points.length : Int), I t8, Bv true] [some (.box [slPoint false s.Points])] [Con Try.prog 42 [agPoint (at_ s.Points t8.toNat)] true (Bv true) ∧ ((agPoint (at_ s.Points t8.toNat) : AV) = agPoint (at_ s.Points t8.toNat)) ∧ True, 0 < t8, inR .i64 (t8 - 1), (0 : Int) ≤ (t8 - 1) ∧ (t8 - 1) < (s.Points.length : Int), ((at_ s.Points t8.toNat).T) ≤ ((at_ s.Points ((t8 - 1).toNat)).T)] (by kernel_rfl) hB ⟨⟨(con_bool h2 (validPoint_ok (at_ s.Points t8.toNat))), rfl, trivial⟩, h3, (inR_i64 (by omega) (by omega)), ⟨(by omega), (by omega)⟩, h4, trivial⟩ ?_
      refine ae_then ?_
      refine aw_true rfl ?_
      refine aw_seq ?_
      refine aw_reg [] [2] [] [Bv false] [] [] (by kernel_rfl) hB trivial ?_
      refine ae_then ?_
      refine aw_ret ?_
      refine ae_ret_block (ae_ret_then (ae_ret_then (ae_ret_block (ae_ret_then ?_))))
      refine ae_ret hB (Bv false) (by kernel_rfl) (.inl (by first | rfl | (refine congrArg Bv ?_; simp [okStroke', inB, *]; done) | (refine congrArg Bv ?_; simp [okStroke', inB, *]; omega) | (refine congrArg Bv ?_; simp_all [okStroke', inB]; done) | (refine congrArg Bv ?_; simp_all [okStroke', inB]; omega))) rfl (fun _ => trivial)
     ·have hok := okPt_yes h2 h3 h4
      refine aw_reg [(1, .call [(true, agPoint (at_ s.Points t8.toNat))] true (Bv true)), (5, .dec true), (16, .dec false)] [1, 6, 7, 8, 31] [1] [.ref 1 0, slPoint false s.Points, I (s.Points.length : Int), I t8, Bv false] [some (.box [slPoint false s.Points])] [Con Try.prog 42 [agPoint (at_ s.Points t8.toNat)] true (Bv true) ∧ ((agPoint (at_ s.Points t8.toNat) : AV) = agPoint (at_ s.Points t8.toNat)) ∧ True, 0 < t8, inR .i64 (t8 - 1), (0 : Int) ≤ (t8 - 1) ∧ (t8 - 1) < (s.Points.length : Int), ¬ (((at_ s.Points t8.toNat).T) ≤ ((at_ s.Points ((t8 - 1).toNat)).T))] (by kernel_rfl) hB ⟨⟨(con_bool h2 (validPoint_ok (at_ s.Points t8.toNat))), rfl, trivial⟩, h3, (inR_i64 (by omega) (by omega)), ⟨(by omega), (by omega)⟩, h4, trivial⟩ ?_
      refine ae_then ?_
      refine aw_false rfl ?_
      refine aw_skip ?_
      refine ae_block 1 ?_
      refine ae_then ?_
      refine aw_reg [] [1, 6, 7, 8] [1] [.ref 1 0, slPoint false s.Points, I (s.Points.length : Int), I (t8 + 1)] [some (.box [slPoint false s.Points])] [inR .i64 (t8 + 1)] (by kernel_rfl) hB ⟨(inR_i64 (by omega) (by omega)), trivial⟩ ?_
      exact ae_again _ (by omega) ⟨(t8 + 1), rfl, (by omega), (by intro j hj; by_cases ej : j = t8.toNat; (subst ej; first | assumption | exact hok); exact hall0 j (by omega)), rfl⟩
    ·have hok := okPt_zero h2 hi0.1 h3
     refine aw_reg [(1, .call [(true, agPoint (at_ s.Points t8.toNat))] true (Bv true)), (5, .dec false)] [1, 6, 7, 8, 31] [1] [.ref 1 0, slPoint false s.Points, I (s.Points.length : Int), I t8, Bv false] [some (.box [slPoint false s.Points])] [Con Try.prog 42 [agPoint (at_ s.Points t8.toNat)] true (Bv true) ∧ ((agPoint (at_ s.Points t8.toNat) : AV) = agPoint (at_ s.Points t8.toNat)) ∧ True, ¬ (0 < t8)] (by kernel_rfl) hB ⟨⟨(con_bool h2 (validPoint_ok (at_ s.Points t8.toNat))), rfl, trivial⟩, h3, trivial⟩ ?_
     refine ae_then ?_
     refine aw_false rfl ?_
     refine aw_skip ?_
     refine ae_block 1 ?_
     refine ae_then ?_
     refine aw_reg [] [1, 6, 7, 8] [1] [.ref 1 0, slPoint false s.Points, I (s.Points.length : Int), I (t8 + 1)] [some (.box [slPoint false s.Points])] [inR .i64 (t8 + 1)] (by kernel_rfl) hB ⟨(inR_i64 (by omega) (by omega)), trivial⟩ ?_
     exact ae_again _ (by omega) ⟨(t8 + 1), rfl, (by omega), (by intro j hj; by_cases ej : j = t8.toNat; (subst ej; first | assumption | exact hok); exact hall0 j (by omega)), rfl⟩
   ·have hall : allN s.Points.length (okPt s.Points) = false := allN_not hi (okPt_bad h2)
    refine aw_reg [(1, .call [(true, agPoint (at_ s.Points t8.toNat))] true (Bv false))] [1, 6, 7, 8, 31] [1] [.ref 1 0, slPoint false s.Points, I (s.Points.length : Int), I t8, Bv true] [some (.box [slPoint false s.Points])] [Con Try.prog 42 [agPoint (at_ s.Points t8.toNat)] true (Bv false) ∧ ((agPoint (at_ s.Points t8.toNat) : AV) = agPoint (at_ s.Points t8.toNat)) ∧ True] (by kernel_rfl) hB ⟨⟨(con_bool h2 (validPoint_ok (at_ s.Points t8.toNat))), rfl, trivial⟩, trivial⟩ ?_
    refine ae_then ?_
    refine aw_true rfl ?_
    refine aw_seq ?_
    refine aw_reg [] [2] [] [Bv false] [] [] (by kernel_rfl) hB trivial ?_
    refine ae_then ?_
    refine aw_ret ?_
    refine ae_ret_block (ae_ret_then (ae_ret_then (ae_ret_block (ae_ret_then ?_))))
    refine ae_ret hB (Bv false) (by kernel_rfl) (.inl (by first | rfl | (refine congrArg Bv ?_; simp [okStroke', inB, *]; done) | (refine congrArg Bv ?_; simp [okStroke', inB, *]; omega) | (refine congrArg Bv ?_; simp_all [okStroke', inB]; done) | (refine congrArg Bv ?_; simp_all [okStroke', inB]; omega))) rfl (fun _ => trivial)
  ·have hall : allN s.Points.length (okPt s.Points) = true := allN_at (fun j hj => hall0 j (by omega))
   refine aw_reg [(0, .dec false)] [1, 6, 7, 8, 9] [1] [.ref 1 0, slPoint false s.Points, I (s.Points.length : Int), I t8, Bv false] [some (.box [slPoint false s.Points])] [¬ (t8 < (s.Points.length : Int))] (by kernel_rfl) hB ⟨h1, trivial⟩ ?_
   refine ae_then ?_
   refine aw_seq ?_
   refine aw_false rfl ?_
   refine aw_exit ?_
   refine ae_exit_then ?_
   refine ae_exit_then ?_
   refine ae_exit_same ?_
   refine ae_then ?_
   refine aw_seq ?_
   by_cases h5 : 1 ≤ (s.Points.length : Int)
   ·refine aw_reg [(3, .dec true)] [2] [] [Bv (decide ((s.Points.length : Int) ≤ 60))] [] [1 ≤ (s.Points.length : Int)] (by kernel_rfl) hB ⟨h5, trivial⟩ ?_
    refine ae_then ?_
    refine aw_ret ?_
    refine ae_ret hB (Bv (decide ((s.Points.length : Int) ≤ 60))) (by kernel_rfl) (.inl (by first | rfl | (refine congrArg Bv ?_; simp [okStroke', inB, *]; done) | (refine congrArg Bv ?_; simp [okStroke', inB, *]; omega) | (refine congrArg Bv ?_; simp_all [okStroke', inB]; done) | (refine congrArg Bv ?_; simp_all [okStroke', inB]; omega))) rfl (fun _ => trivial)
   ·refine aw_reg [(3, .dec false)] [2] [] [Bv false] [] [¬ (1 ≤ (s.Points.length : Int))] (by kernel_rfl) hB ⟨h5, trivial⟩ ?_
    refine ae_then ?_
    refine aw_ret ?_
    refine ae_ret hB (Bv false) (by kernel_rfl) (.inl (by first | rfl | (refine congrArg Bv ?_; simp [okStroke', inB, *]; done) | (refine congrArg Bv ?_; simp [okStroke', inB, *]; omega) | (refine congrArg Bv ?_; simp_all [okStroke', inB]; done) | (refine congrArg Bv ?_; simp_all [okStroke', inB]; omega))) rfl (fun _ => trivial)


-- impl.firstOf
theorem firstOf_ok (s : Stroke) (ok : okStroke' s = true) : Con Try.prog 39 [.agg [slPoint false s.Points]] true (agPoint (at_ s.Points 0)) := by
  have hln := okS_len ok
  refine fn_ok (fn := Try.f39) (nt := 7) Try.func39 rfl rfl rfl rfl (by simp [taggedL, tagged, tagPoint]) fun B hB => ?_
  refine aw_lens (x := .agg [slPoint false s.Points]) 0 rfl (fun len_s => ?_)
  simp [LenOK, LenL, cPoint, fPoint, slPoint] at len_s
  refine aw_seq ?_
  refine aw_reg [(0, .new 1), (1, .new 2)] [1, 2] [1, 2] [.ref 1 0, .ref 2 0] [some (.box [slPoint false s.Points]), some (.box [I 0, I 0, I 0])] [] (by kernel_rfl) hB trivial ?_
  refine ae_then ?_
  refine aw_seq ?_
  refine aw_reg [] [2] [2] [.ref 2 0] [some (bxPoint (at_ s.Points 0))] [(0 : Int) ≤ 0 ∧ 0 < (s.Points.length : Int)] (by kernel_rfl) hB ⟨⟨(by omega), (by omega)⟩, trivial⟩ ?_
  refine ae_then ?_
  refine aw_ret ?_
  refine ae_ret hB (agPoint (at_ s.Points 0)) (by kernel_rfl) (.inl rfl) rfl (fun _ => (by simp [tagged, taggedL]))


-- impl.lastOf
theorem lastOf_ok (s : Stroke) (ok : okStroke' s = true) : Con Try.prog 40 [.agg [slPoint false s.Points]] true (agPoint (at_ s.Points (s.Points.length - 1))) := by
  have hln := okS_len ok
  refine fn_ok (fn := Try.f40) (nt := 11) Try.func40 rfl rfl rfl rfl (by simp [taggedL, tagged, tagPoint]) fun B hB => ?_
  refine aw_lens (x := .agg [slPoint false s.Points]) 0 rfl (fun len_s => ?_)
  simp [LenOK, LenL, cPoint, fPoint, slPoint] at len_s
  refine aw_seq ?_
  refine aw_reg [(0, .new 1), (1, .new 2)] [1, 2] [1, 2] [.ref 1 0, .ref 2 0] [some (.box [slPoint false s.Points]), some (.box [I 0, I 0, I 0])] [] (by kernel_rfl) hB trivial ?_
  refine ae_then ?_
  refine aw_seq ?_
  refine aw_reg [] [2] [2] [.ref 2 0] [some (bxPoint (at_ s.Points (((s.Points.length : Int) - 1).toNat)))] [inR .i64 ((s.Points.length : Int) - 1), (0 : Int) ≤ ((s.Points.length : Int) - 1) ∧ ((s.Points.length : Int) - 1) < (s.Points.length : Int)] (by kernel_rfl) hB ⟨(inR_i64 (by omega) (by omega)), ⟨(by omega), (by omega)⟩, trivial⟩ ?_
  refine ae_then ?_
  refine aw_ret ?_
  refine ae_ret hB (agPoint (at_ s.Points (((s.Points.length : Int) - 1).toNat))) (by kernel_rfl) (.inl (by first | rfl | (have e : ((s.Points.length : Int) - 1).toNat = s.Points.length - 1 := (by omega); rw [e]))) rfl (fun _ => (by simp [tagged, taggedL]))


-- impl.ValidInk
theorem ValidInk_ok (ik : Ink) : Con Try.prog 20 [.agg [slStroke false ik.Strokes]] true (Bv (okInk' ik)) := by
  refine fn_ok (fn := Try.f20) (nt := 39) Try.func20 rfl rfl rfl rfl (by simp [taggedL, tagged, tagStroke]) fun B hB => ?_
  refine aw_lens (x := .agg [slStroke false ik.Strokes]) 0 rfl (fun len_ik => ?_)
  simp [LenOK, LenL, cPoint, cStroke, fPoint, fStroke, slPoint, slStroke] at len_ik
  refine aw_seq ?_
  refine aw_reg [(0, .new 1)] [1] [1] [.ref 1 0] [some (.box [slStroke false ik.Strokes])] [] (by kernel_rfl) hB trivial ?_
  refine ae_then ?_
  refine aw_seq ?_
  refine aw_seq ?_
  refine aw_reg [] [1, 6, 7, 8] [1] [.ref 1 0, slStroke false ik.Strokes, I (ik.Strokes.length : Int), I 0] [some (.box [slStroke false ik.Strokes])] [] (by kernel_rfl) hB trivial ?_
  refine ae_then ?_
  refine aw_block ?_
  refine aw_loop (fun gn gσ => ∃ (t8 : Int), gn = ((ik.Strokes.length : Int) - t8).toNat ∧ (0 ≤ t8 ∧ t8 ≤ (ik.Strokes.length : Int)) ∧ (∀ j : Nat, (j : Int) < t8 → okSA ik.Strokes j = true) ∧ gσ = mkS [(1, .ref 1 0), (6, slStroke false ik.Strokes), (7, I (ik.Strokes.length : Int)), (8, I t8)] [(1, .box [slStroke false ik.Strokes])]) (((ik.Strokes.length : Int) - 0).toNat) ⟨0, rfl, (by omega), (by intro j hj; omega), rfl⟩ (fun gn gσ hI => ?_)
  obtain ⟨t8, rfl, hi0, hall0, rfl⟩ := hI
  refine aw_seq ?_
  by_cases h1 : t8 < (ik.Strokes.length : Int)
  ·have hi : t8.toNat < ik.Strokes.length := by omega
   refine aw_reg [(0, .dec true)] [1, 6, 7, 8, 9] [1] [.ref 1 0, slStroke false ik.Strokes, I (ik.Strokes.length : Int), I t8, Bv true] [some (.box [slStroke false ik.Strokes])] [t8 < (ik.Strokes.length : Int)] (by kernel_rfl) hB ⟨h1, trivial⟩ ?_
   refine ae_then ?_
   refine aw_seq ?_
   refine aw_true rfl ?_
   refine aw_skip ?_
   refine ae_then ?_
   refine aw_seq ?_
   refine aw_block ?_
   refine aw_seq ?_
   refine aw_reg [(3, .new 4)] [1, 3, 4, 6, 7, 8] [1, 4] [.ref 1 0, I t8, .ref 4 0, slStroke false ik.Strokes, I (ik.Strokes.length : Int), I t8] [some (.box [slStroke false ik.Strokes]), some (.box [slPoint false ((at_ ik.Strokes t8.toNat).Points)])] [(0 : Int) ≤ t8 ∧ t8 < (ik.Strokes.length : Int)] (by kernel_rfl) hB ⟨⟨(by omega), (by omega)⟩, trivial⟩ ?_
   refine ae_then ?_
   refine aw_seq ?_
   rcases Bool.eq_false_or_eq_true (okStroke' (at_ ik.Strokes t8.toNat)) with h2 | h2
   ·have hln := okS_len h2
    by_cases h3 : 0 < t8
    ·have hpr := okS_len (okSA_ok (hall0 (t8 - 1).toNat (by omega)))
     by_cases h4 : ((at_ (at_ ik.Strokes t8.toNat).Points 0).T) ≤ ((at_ (at_ ik.Strokes ((t8 - 1).toNat)).Points ((at_ ik.Strokes ((t8 - 1).toNat)).Points.length - 1)).T)
     ·have hall : allN ik.Strokes.length (okSA ik.Strokes) = false := allN_not hi (okSA_no h3 h4)
      refine aw_reg [(1, .call [(true, .agg [slPoint false ((at_ ik.Strokes t8.toNat).Points)])] true (Bv true)), (5, .dec true), (8, .call [(true, .agg [slPoint false ((at_ ik.Strokes t8.toNat).Points)])] true (agPoint (at_ (at_ ik.Strokes t8.toNat).Points 0))), (16, .call [(true, .agg [slPoint false ((at_ ik.Strokes ((t8 - 1).toNat)).Points)])] true (agPoint (at_ (at_ ik.Strokes ((t8 - 1).toNat)).Points ((at_ ik.Strokes ((t8 - 1).toNat)).Points.length - 1)))), (18, .dec true)] [1, 6, 7, 8, 33] [1] [.ref 1 0, slStroke false ik.Strokes, I (ik.Strokes.length : Int), I t8, Bv true] [some (.box [slStroke false ik.Strokes])] [Con Try.prog 24 [.agg [slPoint false ((at_ ik.Strokes t8.toNat).Points)]] true (Bv true) ∧ ((.agg [slPoint false ((at_ ik.Strokes t8.toNat).Points)] : AV) = .agg [slPoint false ((at_ ik.Strokes t8.toNat).Points)]) ∧ True, 0 < t8, Con Try.prog 39 [.agg [slPoint false ((at_ ik.Strokes t8.toNat).Points)]] true (agPoint (at_ (at_ ik.Strokes t8.toNat).Points 0)) ∧ ((.agg [slPoint false ((at_ ik.Strokes t8.toNat).Points)] : AV) = .agg [slPoint false ((at_ ik.Strokes t8.toNat).Points)]) ∧ True, inR .i64 (t8 - 1), (0 : Int) ≤ (t8 - 1) ∧ (t8 - 1) < (ik.Strokes.length : Int), Con Try.prog 40 [.agg [slPoint false ((at_ ik.Strokes ((t8 - 1).toNat)).Points)]] true (agPoint (at_ (at_ ik.Strokes ((t8 - 1).toNat)).Points ((at_ ik.Strokes ((t8 - 1).toNat)).Points.length - 1))) ∧ ((.agg [slPoint false ((at_ ik.Strokes ((t8 - 1).toNat)).Points)] : AV) = .agg [slPoint false ((at_ ik.Strokes ((t8 - 1).toNat)).Points)]) ∧ True, ((at_ (at_ ik.Strokes t8.toNat).Points 0).T) ≤ ((at_ (at_ ik.Strokes ((t8 - 1).toNat)).Points ((at_ ik.Strokes ((t8 - 1).toNat)).Points.length - 1)).T)] (by kernel_rfl) hB ⟨⟨(con_bool h2 (ValidStroke_ok (at_ ik.Strokes t8.toNat))), rfl, trivial⟩, h3, ⟨(firstOf_ok (at_ ik.Strokes t8.toNat) (by first | assumption | exact okSA_ok (hall0 _ (by omega)))), rfl, trivial⟩, (inR_i64 (by omega) (by omega)), ⟨(by omega), (by omega)⟩, ⟨(lastOf_ok (at_ ik.Strokes ((t8 - 1).toNat)) (by first | assumption | exact okSA_ok (hall0 _ (by omega)))), rfl, trivial⟩, h4, trivial⟩ ?_
      refine ae_then ?_
      refine aw_true rfl ?_
      refine aw_seq ?_
      refine aw_reg [] [2] [] [Bv false] [] [] (by kernel_rfl) hB trivial ?_
      refine ae_then ?_
      refine aw_ret ?_
      refine ae_ret_block (ae_ret_then (ae_ret_then (ae_ret_block (ae_ret_then ?_))))
      refine ae_ret hB (Bv false) (by kernel_rfl) (.inl (by first | rfl | (refine congrArg Bv ?_; simp [okInk', *]; done) | (refine congrArg Bv ?_; simp [okInk', *]; omega) | (refine congrArg Bv ?_; simp_all [okInk']; done) | (refine congrArg Bv ?_; simp_all [okInk']; omega))) rfl (fun _ => trivial)
     ·have hok := okSA_yes h2 h3 h4
      refine aw_reg [(1, .call [(true, .agg [slPoint false ((at_ ik.Strokes t8.toNat).Points)])] true (Bv true)), (5, .dec true), (8, .call [(true, .agg [slPoint false ((at_ ik.Strokes t8.toNat).Points)])] true (agPoint (at_ (at_ ik.Strokes t8.toNat).Points 0))), (16, .call [(true, .agg [slPoint false ((at_ ik.Strokes ((t8 - 1).toNat)).Points)])] true (agPoint (at_ (at_ ik.Strokes ((t8 - 1).toNat)).Points ((at_ ik.Strokes ((t8 - 1).toNat)).Points.length - 1)))), (18, .dec false)] [1, 6, 7, 8, 33] [1] [.ref 1 0, slStroke false ik.Strokes, I (ik.Strokes.length : Int), I t8, Bv false] [some (.box [slStroke false ik.Strokes])] [Con Try.prog 24 [.agg [slPoint false ((at_ ik.Strokes t8.toNat).Points)]] true (Bv true) ∧ ((.agg [slPoint false ((at_ ik.Strokes t8.toNat).Points)] : AV) = .agg [slPoint false ((at_ ik.Strokes t8.toNat).Points)]) ∧ True, 0 < t8, Con Try.prog 39 [.agg [slPoint false ((at_ ik.Strokes t8.toNat).Points)]] true (agPoint (at_ (at_ ik.Strokes t8.toNat).Points 0)) ∧ ((.agg [slPoint false ((at_ ik.Strokes t8.toNat).Points)] : AV) = .agg [slPoint false ((at_ ik.Strokes t8.toNat).Points)]) ∧ True, inR .i64 (t8 - 1), (0 : Int) ≤ (t8 - 1) ∧ (t8 - 1) < (ik.Strokes.length : Int), Con Try.prog 40 [.agg [slPoint false ((at_ ik.Strokes ((t8 - 1).toNat)).Points)]] true (agPoint (at_ (at_ ik.Strokes ((t8 - 1).toNat)).Points ((at_ ik.Strokes ((t8 - 1).toNat)).Points.length - 1))) ∧ ((.agg [slPoint false ((at_ ik.Strokes ((t8 - 1).toNat)).Points)] : AV) = .agg [slPoint false ((at_ ik.Strokes ((t8 - 1).toNat)).Points)]) ∧ True, ¬ (((at_ (at_ ik.Strokes t8.toNat).Points 0).T) ≤ ((at_ (at_ ik.Strokes ((t8 - 1).toNat)).Points ((at_ ik.Strokes ((t8 - 1).toNat)).Points.length - 1)).T))] (by kernel_rfl) hB ⟨⟨(con_bool h2 (ValidStroke_ok (at_ ik.Strokes t8.toNat))), rfl, trivial⟩, h3, ⟨(firstOf_ok (at_ ik.Strokes t8.toNat) (by first | assumption | exact okSA_ok (hall0 _ (by omega)))), rfl, trivial⟩, (inR_i64 (by omega) (by omega)), ⟨(by omega), (by omega)⟩, ⟨(lastOf_ok (at_ ik.Strokes ((t8 - 1).toNat)) (by first | assumption | exact okSA_ok (hall0 _ (by omega)))), rfl, trivial⟩, h4, trivial⟩ ?_
      refine ae_then ?_
      refine aw_false rfl ?_
      refine aw_skip ?_
      refine ae_block 1 ?_
      refine ae_then ?_
      refine aw_reg [] [1, 6, 7, 8] [1] [.ref 1 0, slStroke false ik.Strokes, I (ik.Strokes.length : Int), I (t8 + 1)] [some (.box [slStroke false ik.Strokes])] [inR .i64 (t8 + 1)] (by kernel_rfl) hB ⟨(inR_i64 (by omega) (by omega)), trivial⟩ ?_
      exact ae_again _ (by omega) ⟨(t8 + 1), rfl, (by omega), (by intro j hj; by_cases ej : j = t8.toNat; (subst ej; first | assumption | exact hok); exact hall0 j (by omega)), rfl⟩
    ·have hok := okSA_zero h2 hi0.1 h3
     refine aw_reg [(1, .call [(true, .agg [slPoint false ((at_ ik.Strokes t8.toNat).Points)])] true (Bv true)), (5, .dec false)] [1, 6, 7, 8, 33] [1] [.ref 1 0, slStroke false ik.Strokes, I (ik.Strokes.length : Int), I t8, Bv false] [some (.box [slStroke false ik.Strokes])] [Con Try.prog 24 [.agg [slPoint false ((at_ ik.Strokes t8.toNat).Points)]] true (Bv true) ∧ ((.agg [slPoint false ((at_ ik.Strokes t8.toNat).Points)] : AV) = .agg [slPoint false ((at_ ik.Strokes t8.toNat).Points)]) ∧ True, ¬ (0 < t8)] (by kernel_rfl) hB ⟨⟨(con_bool h2 (ValidStroke_ok (at_ ik.Strokes t8.toNat))), rfl, trivial⟩, h3, trivial⟩ ?_
     refine ae_then ?_
     refine aw_false rfl ?_
     refine aw_skip ?_
     refine ae_block 1 ?_
     refine ae_then ?_
     refine aw_reg [] [1, 6, 7, 8] [1] [.ref 1 0, slStroke false ik.Strokes, I (ik.Strokes.length : Int), I (t8 + 1)] [some (.box [slStroke false ik.Strokes])] [inR .i64 (t8 + 1)] (by kernel_rfl) hB ⟨(inR_i64 (by omega) (by omega)), trivial⟩ ?_
     exact ae_again _ (by omega) ⟨(t8 + 1), rfl, (by omega), (by intro j hj; by_cases ej : j = t8.toNat; (subst ej; first | assumption | exact hok); exact hall0 j (by omega)), rfl⟩
   ·have hall : allN ik.Strokes.length (okSA ik.Strokes) = false := allN_not hi (okSA_bad (by simpa using h2))
    refine aw_reg [(1, .call [(true, .agg [slPoint false ((at_ ik.Strokes t8.toNat).Points)])] true (Bv false))] [1, 6, 7, 8, 33] [1] [.ref 1 0, slStroke false ik.Strokes, I (ik.Strokes.length : Int), I t8, Bv true] [some (.box [slStroke false ik.Strokes])] [Con Try.prog 24 [.agg [slPoint false ((at_ ik.Strokes t8.toNat).Points)]] true (Bv false) ∧ ((.agg [slPoint false ((at_ ik.Strokes t8.toNat).Points)] : AV) = .agg [slPoint false ((at_ ik.Strokes t8.toNat).Points)]) ∧ True] (by kernel_rfl) hB ⟨⟨(con_bool h2 (ValidStroke_ok (at_ ik.Strokes t8.toNat))), rfl, trivial⟩, trivial⟩ ?_
    refine ae_then ?_
    refine aw_true rfl ?_
    refine aw_seq ?_
    refine aw_reg [] [2] [] [Bv false] [] [] (by kernel_rfl) hB trivial ?_
    refine ae_then ?_
    refine aw_ret ?_
    refine ae_ret_block (ae_ret_then (ae_ret_then (ae_ret_block (ae_ret_then ?_))))
    refine ae_ret hB (Bv false) (by kernel_rfl) (.inl (by first | rfl | (refine congrArg Bv ?_; simp [okInk', *]; done) | (refine congrArg Bv ?_; simp [okInk', *]; omega) | (refine congrArg Bv ?_; simp_all [okInk']; done) | (refine congrArg Bv ?_; simp_all [okInk']; omega))) rfl (fun _ => trivial)
  ·have hall : allN ik.Strokes.length (okSA ik.Strokes) = true := allN_at (fun j hj => hall0 j (by omega))
   refine aw_reg [(0, .dec false)] [1, 6, 7, 8, 9] [1] [.ref 1 0, slStroke false ik.Strokes, I (ik.Strokes.length : Int), I t8, Bv false] [some (.box [slStroke false ik.Strokes])] [¬ (t8 < (ik.Strokes.length : Int))] (by kernel_rfl) hB ⟨h1, trivial⟩ ?_
   refine ae_then ?_
   refine aw_seq ?_
   refine aw_false rfl ?_
   refine aw_exit ?_
   refine ae_exit_then ?_
   refine ae_exit_then ?_
   refine ae_exit_same ?_
   refine ae_then ?_
   refine aw_seq ?_
   refine aw_reg [] [2] [] [Bv (decide ((ik.Strokes.length : Int) ≤ 16))] [] [] (by kernel_rfl) hB trivial ?_
   refine ae_then ?_
   refine aw_ret ?_
   refine ae_ret hB (Bv (decide ((ik.Strokes.length : Int) ≤ 16))) (by kernel_rfl) (.inl (by first | rfl | (refine congrArg Bv ?_; simp [okInk', *]; done) | (refine congrArg Bv ?_; simp [okInk', *]; omega) | (refine congrArg Bv ?_; simp_all [okInk']; done) | (refine congrArg Bv ?_; simp_all [okInk']; omega))) rfl (fun _ => trivial)


def joinB (a b : Box) : Box := ⟨min a.X1 b.X1, min a.Y1 b.Y1, max a.X2 b.X2, max a.Y2 b.Y2⟩

-- impl.joinBoxes
theorem joinBoxes_ok (a : Box) (b : Box) : Con Try.prog 52 [agBox a, agBox b] true (agBox (joinB a b)) := by
  refine fn_ok (fn := Try.f52) (nt := 26) Try.func52 rfl rfl rfl rfl (by simp [taggedL, tagged]) fun B hB => ?_
  refine aw_seq ?_
  refine aw_reg [(0, .new 2), (1, .new 3), (2, .new 4)] [2, 3, 4] [2, 3, 4] [.ref 2 0, .ref 3 0, .ref 4 0] [some (bxBox a), some (bxBox b), some (.box [I 0, I 0, I 0, I 0])] [] (by kernel_rfl) hB trivial ?_
  refine ae_then ?_
  refine aw_seq ?_
  refine aw_reg [] [4] [4] [.ref 4 0] [some (.box [I (min a.X1 b.X1), I (min a.Y1 b.Y1), I (max a.X2 b.X2), I (max a.Y2 b.Y2)])] [] (by kernel_rfl) hB trivial ?_
  refine ae_then ?_
  refine aw_ret ?_
  refine ae_ret hB (.agg [I (min a.X1 b.X1), I (min a.Y1 b.Y1), I (max a.X2 b.X2), I (max a.Y2 b.Y2)]) (by kernel_rfl) (.inl (by first | rfl | (refine congrArg Bv ?_; simp [*]; done) | (refine congrArg Bv ?_; simp [*]; omega) | (refine congrArg Bv ?_; simp_all []; done) | (refine congrArg Bv ?_; simp_all []; omega))) rfl (fun _ => (by simp [tagged, taggedL]))


def ptB (p : Point) : Box := ⟨p.X, p.Y, p.X, p.Y⟩
/-- The box of the first point and the first k points. -/
def boxS (xs : List Point) : Nat → Box
  | 0 => ptB (at_ xs 0)
  | k + 1 => joinB (boxS xs k) (ptB (at_ xs k))
theorem boxS_succ {xs : List Point} {i : Int} (h : 0 ≤ i) : boxS xs (i + 1).toNat = joinB (boxS xs i.toNat) (ptB (at_ xs i.toNat)) := by
  have : (i + 1).toNat = i.toNat + 1 := by omega
  rw [this]; rfl
theorem boxS_one (xs : List Point) : boxS xs 1 = ptB (at_ xs 0) := by simp [boxS, joinB, ptB]
/-- A box that is one. -/
def okBox (b : Box) : Prop := (0 ≤ b.X1 ∧ b.X1 ≤ b.X2 ∧ b.X2 ≤ 4095) ∧ 0 ≤ b.Y1 ∧ b.Y1 ≤ b.Y2 ∧ b.Y2 ≤ 4095
theorem joinB_ok {a b : Box} (ha : okBox a) (hb : okBox b) : okBox (joinB a b) := by unfold okBox joinB at *; simp only; omega
theorem ptB_ok {p : Point} (h : okP p = true) : okBox (ptB p) := by have := okP_iff.1 h; unfold okBox ptB; simp only; omega
theorem boxS_ok {s : Stroke} (ok : okStroke' s = true) : ∀ k : Nat, k ≤ s.Points.length → okBox (boxS s.Points k)
  | 0, _ => ptB_ok (okS_at ok (by have := okS_len ok; omega))
  | k + 1, h => joinB_ok (boxS_ok ok k (by omega)) (ptB_ok (okS_at ok (by omega)))
theorem boxS_all {s : Stroke} (ok : okStroke' s = true) : okBox (boxS s.Points s.Points.length) := boxS_ok ok _ (Nat.le_refl _)

-- impl.boxOfStroke
theorem boxOfStroke_ok (s : Stroke) (ok : okStroke' s = true) : Con Try.prog 41 [.agg [slPoint false s.Points]] true (agBox (boxS s.Points s.Points.length)) := by
  have hln := okS_len ok
  refine fn_ok (fn := Try.f41) (nt := 38) Try.func41 rfl rfl rfl rfl (by simp [taggedL, tagged, tagPoint]) fun B hB => ?_
  refine aw_lens (x := .agg [slPoint false s.Points]) 0 rfl (fun len_s => ?_)
  simp [LenOK, LenL, cPoint, fPoint, slPoint] at len_s
  refine aw_seq ?_
  refine aw_reg [(0, .new 1), (1, .new 2)] [1, 2] [1, 2] [.ref 1 0, .ref 2 0] [some (.box [slPoint false s.Points]), some (.box [I 0, I 0, I 0, I 0])] [] (by kernel_rfl) hB trivial ?_
  refine ae_then ?_
  refine aw_seq ?_
  refine aw_reg [(1, .call [(true, .agg [slPoint false s.Points])] true (agPoint (at_ s.Points 0))), (2, .new 3)] [1, 2, 3] [1, 2, 3] [.ref 1 0, .ref 2 0, .ref 3 0] [some (.box [slPoint false s.Points]), some (.box [I 0, I 0, I 0, I 0]), some (bxPoint (at_ s.Points 0))] [Con Try.prog 39 [.agg [slPoint false s.Points]] true (agPoint (at_ s.Points 0)) ∧ ((.agg [slPoint false s.Points] : AV) = .agg [slPoint false s.Points]) ∧ True] (by kernel_rfl) hB ⟨⟨(firstOf_ok s ok), rfl, trivial⟩, trivial⟩ ?_
  refine ae_then ?_
  refine aw_seq ?_
  refine aw_reg [(9, .new 4)] [1, 2, 4] [1, 2, 4] [.ref 1 0, .ref 2 0, .ref 4 0] [some (.box [slPoint false s.Points]), some (.box [I 0, I 0, I 0, I 0]), some (.box [I ((at_ s.Points 0).X), I ((at_ s.Points 0).Y), I ((at_ s.Points 0).X), I ((at_ s.Points 0).Y)])] [] (by kernel_rfl) hB trivial ?_
  refine ae_then ?_
  refine aw_seq ?_
  refine aw_seq ?_
  refine aw_reg [] [2, 4, 19, 20, 21] [2, 4] [.ref 2 0, .ref 4 0, slPoint false s.Points, I (s.Points.length : Int), I 0] [some (.box [I 0, I 0, I 0, I 0]), some (.box [I ((at_ s.Points 0).X), I ((at_ s.Points 0).Y), I ((at_ s.Points 0).X), I ((at_ s.Points 0).Y)])] [] (by kernel_rfl) hB trivial ?_
  refine ae_then ?_
  refine aw_block ?_
  refine aw_loop (fun gn gσ => ∃ (t21 : Int) (x1 : Int) (y1 : Int) (x2 : Int) (y2 : Int), gn = ((s.Points.length : Int) - t21).toNat ∧ (0 ≤ t21 ∧ t21 ≤ (s.Points.length : Int)) ∧ (Box.mk x1 y1 x2 y2 = boxS s.Points t21.toNat) ∧ gσ = mkS [(2, .ref 2 0), (4, .ref 4 0), (19, slPoint false s.Points), (20, I (s.Points.length : Int)), (21, I t21)] [(2, .box [I 0, I 0, I 0, I 0]), (4, .box [I x1, I y1, I x2, I y2])]) (((s.Points.length : Int) - 0).toNat) ⟨0, (at_ s.Points 0).X, (at_ s.Points 0).Y, (at_ s.Points 0).X, (at_ s.Points 0).Y, rfl, (by omega), (by first | rfl | exact (boxS_one _).symm), rfl⟩ (fun gn gσ hI => ?_)
  obtain ⟨t21, x1, y1, x2, y2, rfl, hi0, hb1, rfl⟩ := hI
  refine aw_seq ?_
  by_cases h1 : t21 < (s.Points.length : Int)
  ·have hi : t21.toNat < s.Points.length := by omega
   refine aw_reg [(0, .dec true)] [2, 4, 19, 20, 21, 22] [2, 4] [.ref 2 0, .ref 4 0, slPoint false s.Points, I (s.Points.length : Int), I t21, Bv true] [some (.box [I 0, I 0, I 0, I 0]), some (.box [I x1, I y1, I x2, I y2])] [t21 < (s.Points.length : Int)] (by kernel_rfl) hB ⟨h1, trivial⟩ ?_
   refine ae_then ?_
   refine aw_seq ?_
   refine aw_true rfl ?_
   refine aw_skip ?_
   refine ae_then ?_
   refine aw_seq ?_
   refine aw_block ?_
   refine aw_seq ?_
   refine aw_reg [(2, .new 6)] [2, 4, 6, 19, 20, 21] [2, 4, 6] [.ref 2 0, .ref 4 0, .ref 6 0, slPoint false s.Points, I (s.Points.length : Int), I t21] [some (.box [I 0, I 0, I 0, I 0]), some (.box [I x1, I y1, I x2, I y2]), some (bxPoint (at_ s.Points t21.toNat))] [(0 : Int) ≤ t21 ∧ t21 < (s.Points.length : Int)] (by kernel_rfl) hB ⟨⟨(by omega), (by omega)⟩, trivial⟩ ?_
   refine ae_then ?_
   refine aw_reg [(10, .call [(true, .agg [I x1, I y1, I x2, I y2]), (true, .agg [I ((at_ s.Points t21.toNat).X), I ((at_ s.Points t21.toNat).Y), I ((at_ s.Points t21.toNat).X), I ((at_ s.Points t21.toNat).Y)])] true (agBox (joinB (Box.mk x1 y1 x2 y2) (Box.mk ((at_ s.Points t21.toNat).X) ((at_ s.Points t21.toNat).Y) ((at_ s.Points t21.toNat).X) ((at_ s.Points t21.toNat).Y)))))] [2, 4, 19, 20, 21] [2, 4] [.ref 2 0, .ref 4 0, slPoint false s.Points, I (s.Points.length : Int), I t21] [some (.box [I 0, I 0, I 0, I 0]), some (bxBox (joinB (Box.mk x1 y1 x2 y2) (Box.mk ((at_ s.Points t21.toNat).X) ((at_ s.Points t21.toNat).Y) ((at_ s.Points t21.toNat).X) ((at_ s.Points t21.toNat).Y))))] [Con Try.prog 52 [.agg [I x1, I y1, I x2, I y2], .agg [I ((at_ s.Points t21.toNat).X), I ((at_ s.Points t21.toNat).Y), I ((at_ s.Points t21.toNat).X), I ((at_ s.Points t21.toNat).Y)]] true (agBox (joinB (Box.mk x1 y1 x2 y2) (Box.mk ((at_ s.Points t21.toNat).X) ((at_ s.Points t21.toNat).Y) ((at_ s.Points t21.toNat).X) ((at_ s.Points t21.toNat).Y)))) ∧ ((.agg [I x1, I y1, I x2, I y2] : AV) = .agg [I x1, I y1, I x2, I y2]) ∧ ((.agg [I ((at_ s.Points t21.toNat).X), I ((at_ s.Points t21.toNat).Y), I ((at_ s.Points t21.toNat).X), I ((at_ s.Points t21.toNat).Y)] : AV) = .agg [I ((at_ s.Points t21.toNat).X), I ((at_ s.Points t21.toNat).Y), I ((at_ s.Points t21.toNat).X), I ((at_ s.Points t21.toNat).Y)]) ∧ True] (by kernel_rfl) hB ⟨⟨(joinBoxes_ok (Box.mk x1 y1 x2 y2) (Box.mk ((at_ s.Points t21.toNat).X) ((at_ s.Points t21.toNat).Y) ((at_ s.Points t21.toNat).X) ((at_ s.Points t21.toNat).Y))), rfl, rfl, trivial⟩, trivial⟩ ?_
   refine ae_block 1 ?_
   refine ae_then ?_
   refine aw_reg [] [2, 4, 19, 20, 21] [2, 4] [.ref 2 0, .ref 4 0, slPoint false s.Points, I (s.Points.length : Int), I (t21 + 1)] [some (.box [I 0, I 0, I 0, I 0]), some (bxBox (joinB (Box.mk x1 y1 x2 y2) (Box.mk ((at_ s.Points t21.toNat).X) ((at_ s.Points t21.toNat).Y) ((at_ s.Points t21.toNat).X) ((at_ s.Points t21.toNat).Y))))] [inR .i64 (t21 + 1)] (by kernel_rfl) hB ⟨(inR_i64 (by omega) (by omega)), trivial⟩ ?_
   refine ae_weak hB [] (T := [(2, .ref 2 0), (4, .ref 4 0), (19, slPoint false s.Points), (20, I (s.Points.length : Int)), (21, I (t21 + 1))]) (O := [(2, .box [I 0, I 0, I 0, I 0]), (4, .box [I ((joinB (Box.mk x1 y1 x2 y2) (Box.mk ((at_ s.Points t21.toNat).X) ((at_ s.Points t21.toNat).Y) ((at_ s.Points t21.toNat).X) ((at_ s.Points t21.toNat).Y))).X1), I ((joinB (Box.mk x1 y1 x2 y2) (Box.mk ((at_ s.Points t21.toNat).X) ((at_ s.Points t21.toNat).Y) ((at_ s.Points t21.toNat).X) ((at_ s.Points t21.toNat).Y))).Y1), I ((joinB (Box.mk x1 y1 x2 y2) (Box.mk ((at_ s.Points t21.toNat).X) ((at_ s.Points t21.toNat).Y) ((at_ s.Points t21.toNat).X) ((at_ s.Points t21.toNat).Y))).X2), I ((joinB (Box.mk x1 y1 x2 y2) (Box.mk ((at_ s.Points t21.toNat).X) ((at_ s.Points t21.toNat).Y) ((at_ s.Points t21.toNat).X) ((at_ s.Points t21.toNat).Y))).Y2)])]) rfl (⟨.inl rfl, .inl rfl, .inl rfl, .inl rfl, .inl rfl, trivial⟩) (⟨.inl rfl, .inr ⟨rfl, ⟨rfl, ⟨rfl, ⟨rfl, rfl⟩⟩⟩⟩, trivial⟩) (ae_again _ (by omega) ⟨(t21 + 1), (joinB (Box.mk x1 y1 x2 y2) (Box.mk ((at_ s.Points t21.toNat).X) ((at_ s.Points t21.toNat).Y) ((at_ s.Points t21.toNat).X) ((at_ s.Points t21.toNat).Y))).X1, (joinB (Box.mk x1 y1 x2 y2) (Box.mk ((at_ s.Points t21.toNat).X) ((at_ s.Points t21.toNat).Y) ((at_ s.Points t21.toNat).X) ((at_ s.Points t21.toNat).Y))).Y1, (joinB (Box.mk x1 y1 x2 y2) (Box.mk ((at_ s.Points t21.toNat).X) ((at_ s.Points t21.toNat).Y) ((at_ s.Points t21.toNat).X) ((at_ s.Points t21.toNat).Y))).X2, (joinB (Box.mk x1 y1 x2 y2) (Box.mk ((at_ s.Points t21.toNat).X) ((at_ s.Points t21.toNat).Y) ((at_ s.Points t21.toNat).X) ((at_ s.Points t21.toNat).Y))).Y2, rfl, (by omega), (by rw [boxS_succ (by omega), ← hb1]; rfl), rfl⟩)
  ·have hie : t21.toNat = s.Points.length := by omega
   rw [hie] at hb1
   refine aw_reg [(0, .dec false)] [2, 4, 19, 20, 21, 22] [2, 4] [.ref 2 0, .ref 4 0, slPoint false s.Points, I (s.Points.length : Int), I t21, Bv false] [some (.box [I 0, I 0, I 0, I 0]), some (.box [I x1, I y1, I x2, I y2])] [¬ (t21 < (s.Points.length : Int))] (by kernel_rfl) hB ⟨h1, trivial⟩ ?_
   refine ae_then ?_
   refine aw_seq ?_
   refine aw_false rfl ?_
   refine aw_exit ?_
   refine ae_exit_then ?_
   refine ae_exit_then ?_
   refine ae_exit_same ?_
   refine ae_then ?_
   refine aw_seq ?_
   refine aw_reg [] [2] [2] [.ref 2 0] [some (.box [I x1, I y1, I x2, I y2])] [] (by kernel_rfl) hB trivial ?_
   refine ae_then ?_
   refine aw_ret ?_
   refine ae_ret hB (.agg [I x1, I y1, I x2, I y2]) (by kernel_rfl) (.inl (by rw [← hb1])) rfl (fun _ => (by simp [tagged, taggedL]))


theorem take_succ_at {α : Type} [Inhabited α] {xs : List α} {i : Int} {y : α} (h0 : 0 ≤ i) (h : i.toNat < xs.length) (hy : y = at_ xs i.toNat) : xs.take (i + 1).toNat = xs.take i.toNat ++ [y] := by
  have e : (i + 1).toNat = i.toNat + 1 := by omega
  rw [e, List.take_succ_eq_append_getElem h, hy]
  simp [at_, h]

/-- A stroke that is a dot. -/
def dotB (s : Stroke) : Bool := decide ((boxS s.Points s.Points.length).X2 - (boxS s.Points s.Points.length).X1 ≤ 160) && decide ((boxS s.Points s.Points.length).Y2 - (boxS s.Points s.Points.length).Y1 ≤ 160)
/-- What a stroke has in common with a dot's box. -/
def comI (s : Stroke) (d : Box) : Int := min (boxS s.Points s.Points.length).X2 (d.X2 + 40) - max (boxS s.Points s.Points.length).X1 (d.X1 - 40) + 1
/-- The home among the first strokes, and what it has in common. -/
def homeG (ss : List Stroke) (d : Box) : Nat → Int × Int
  | 0 => (-1, 1)
  | k + 1 => if dotB (at_ ss k) = false ∧ (homeG ss d k).2 ≤ comI (at_ ss k) d then ((k : Int), comI (at_ ss k) d) else homeG ss d k
def homeI (ss : List Stroke) (k : Nat) : Int := if dotB (at_ ss k) = true then (homeG ss (boxS (at_ ss k).Points (at_ ss k).Points.length) k).1 else -1
theorem homeG_yes {ss : List Stroke} {d : Box} {k : Int} (h0 : 0 ≤ k) (h1 : dotB (at_ ss k.toNat) = false) (h2 : (homeG ss d k.toNat).2 ≤ comI (at_ ss k.toNat) d) : homeG ss d (k + 1).toNat = (k, comI (at_ ss k.toNat) d) := by
  have e : (k + 1).toNat = k.toNat + 1 := by omega
  rw [e, homeG, if_pos ⟨h1, h2⟩, Int.toNat_of_nonneg h0]
theorem homeG_no {ss : List Stroke} {d : Box} {k : Int} (h0 : 0 ≤ k) (h : ¬ (dotB (at_ ss k.toNat) = false ∧ (homeG ss d k.toNat).2 ≤ comI (at_ ss k.toNat) d)) : homeG ss d (k + 1).toNat = homeG ss d k.toNat := by
  have e : (k + 1).toNat = k.toNat + 1 := by omega
  rw [e, homeG, if_neg h]
theorem homeG_bd (ss : List Stroke) (d : Box) : ∀ k : Nat, (-1 ≤ (homeG ss d k).1 ∧ (homeG ss d k).1 < (k : Int) ∧ 1 ≤ (homeG ss d k).2) ∧ ((homeG ss d k).1 = -1 → (homeG ss d k).2 = 1) ∧ (0 ≤ (homeG ss d k).1 → dotB (at_ ss (homeG ss d k).1.toNat) = false)
  | 0 => by simp [homeG]
  | k + 1 => by
    have ih := homeG_bd ss d k
    unfold homeG
    split
    · rename_i h
      refine ⟨by simp only; omega, fun e => by simp only at e; omega, fun _ => by simpa using h.1⟩
    · exact ⟨by omega, ih.2⟩
theorem homeI_bd (ss : List Stroke) (k : Nat) : -1 ≤ homeI ss k ∧ homeI ss k < (k : Int) ∨ homeI ss k = -1 := by
  unfold homeI
  split
  · have := homeG_bd ss (boxS (at_ ss k).Points (at_ ss k).Points.length) k
    omega
  · exact .inr rfl
theorem homeI_dot {ss : List Stroke} {k : Nat} (h : 0 ≤ homeI ss k) : (dotB (at_ ss k) = true ∧ homeI ss k < (k : Int)) ∧ dotB (at_ ss (homeI ss k).toNat) = false ∧ homeI ss (homeI ss k).toNat = -1 := by
  unfold homeI at h
  split at h
  · rename_i hd
    have hb := homeG_bd ss (boxS (at_ ss k).Points (at_ ss k).Points.length) k
    have e : homeI ss k = (homeG ss (boxS (at_ ss k).Points (at_ ss k).Points.length) k).1 := by unfold homeI; rw [if_pos hd]
    rw [e]
    refine ⟨⟨hd, by omega⟩, hb.2.2 h, ?_⟩
    unfold homeI
    rw [if_neg (by rw [hb.2.2 h]; exact Bool.false_ne_true)]
  · omega
/-- The dots of a stroke, among the first ones. -/
def rowP (h : List Int) (k d : Nat) : List Int := ((List.range d).filter fun q => decide (at_ h q = (k : Int))).map fun (q : Nat) => (q : Int)
def rowL (h : List Int) (k : Nat) : List Int := if 0 ≤ at_ h k then [] else (k : Int) :: rowP h k h.length
def ordP (h : List Int) : Nat → List Int
  | 0 => []
  | k + 1 => ordP h k ++ rowL h k
def homesL (ss : List Stroke) : List Int := (List.range ss.length).map (homeI ss)
/-- The order of strokes. -/
def ordL (ss : List Stroke) : List Int := ordP (homesL ss) ss.length
theorem homesL_len (ss : List Stroke) : (homesL ss).length = ss.length := by simp [homesL]
theorem homesL_at {ss : List Stroke} {k : Nat} (h : k < ss.length) : at_ (homesL ss) k = homeI ss k := by simp [at_, homesL, h]
theorem homesL_of {ss : List Stroke} {hs : List Int} (hl : hs.length = ss.length) (h : ∀ j : Nat, j < ss.length → at_ hs j = homeI ss j) : hs = homesL ss := by
  refine List.ext_getElem (by rw [hl, homesL_len]) fun j h1 h2 => ?_
  have := h j (by omega)
  rw [at_eq h1] at this
  rw [this, ← homesL_at (by omega), at_eq h2]
theorem rowP_yes {h : List Int} {k d : Int} (h0 : 0 ≤ d) (hk : 0 ≤ k) (e : at_ h d.toNat = k) : rowP h k.toNat (d + 1).toNat = rowP h k.toNat d.toNat ++ [d] := by
  have e1 : (d + 1).toNat = d.toNat + 1 := by omega
  simp [rowP, e1, List.range_succ, e, Int.toNat_of_nonneg hk, Int.toNat_of_nonneg h0]
theorem rowP_no {h : List Int} {k d : Int} (h0 : 0 ≤ d) (hk : 0 ≤ k) (e : ¬ at_ h d.toNat = k) : rowP h k.toNat (d + 1).toNat = rowP h k.toNat d.toNat := by
  have e1 : (d + 1).toNat = d.toNat + 1 := by omega
  simp [rowP, e1, List.range_succ, e, Int.toNat_of_nonneg hk]
theorem rowP_zero (h : List Int) (k : Nat) : rowP h k 0 = [] := rfl
theorem rowP_len (h : List Int) (k d : Nat) : (rowP h k d).length ≤ d := by
  unfold rowP
  rw [List.length_map]
  exact Nat.le_trans (List.length_filter_le _ _) (by simp)
theorem ordP_no {h : List Int} {k : Int} (h0 : 0 ≤ k) (e : 0 ≤ at_ h k.toNat) : ordP h (k + 1).toNat = ordP h k.toNat := by
  have e1 : (k + 1).toNat = k.toNat + 1 := by omega
  rw [e1, ordP, rowL, if_pos e, List.append_nil]
theorem ordP_yes {h : List Int} {k : Int} {n : Nat} (h0 : 0 ≤ k) (hn : n = h.length) (e : ¬ 0 ≤ at_ h k.toNat) : ordP h (k + 1).toNat = (ordP h k.toNat ++ [k]) ++ rowP h k.toNat n := by
  have e1 : (k + 1).toNat = k.toNat + 1 := by omega
  rw [e1, ordP, rowL, if_neg e, Int.toNat_of_nonneg h0, List.append_assoc, List.singleton_append, hn]
theorem ordP_len (h : List Int) : ∀ k : Nat, (ordP h k).length ≤ k * (h.length + 1)
  | 0 => by simp [ordP]
  | k + 1 => by
    have := ordP_len h k
    have := rowP_len h k h.length
    have e : (rowL h k).length ≤ h.length + 1 := by unfold rowL; split <;> simp; omega
    rw [ordP, List.length_append, Nat.add_mul]
    omega
theorem cnt_map {l : List Nat} {x : Nat} : List.count (x : Int) (l.map fun (q : Nat) => (q : Int)) = List.count x l := by
  induction l with
  | nil => rfl
  | cons a l ih =>
    simp only [List.map_cons, List.count_cons, ih]
    congr 1
    by_cases e : a = x
    · simp [e]
    · simp [e]; omega
theorem cnt_range {x : Nat} : ∀ {n : Nat}, x < n → List.count x (List.range n) = 1
  | 0, h => by omega
  | n + 1, h => by
    rw [List.range_succ, List.count_append]
    by_cases e : x = n
    · subst e
      rw [List.count_eq_zero_of_not_mem (by simp)]; simp
    · rw [cnt_range (by omega)]
      have : ¬ n = x := by omega
      simp [List.count_cons, this]
theorem cnt_filter {n x : Nat} {p : Nat → Bool} (hx : x < n) : List.count x ((List.range n).filter p) = if p x = true then 1 else 0 := by
  split
  · rename_i h
    rw [List.count_filter h]
    exact cnt_range hx
  · rename_i h
    exact List.count_eq_zero_of_not_mem fun hm => h (List.mem_filter.1 hm).2
/-- A stroke comes once. -/
theorem ordP_cnt (ss : List Stroke) {x : Nat} (hx : x < ss.length) : ∀ k : Nat, k ≤ ss.length → List.count (x : Int) (ordP (homesL ss) k) = if (if 0 ≤ homeI ss x then homeI ss x else (x : Int)) < (k : Int) then 1 else 0
  | 0, _ => by
    have := homeI_bd ss x
    rw [ordP, if_neg (by split <;> omega)]; rfl
  | k + 1, hk => by
    have ih := ordP_cnt ss hx k (by omega)
    have hh := homesL_at (ss := ss) (k := k) (by omega)
    rw [ordP, List.count_append, ih, rowL, hh]
    have hrow : ¬ 0 ≤ homeI ss k → List.count (x : Int) ((k : Int) :: rowP (homesL ss) k (homesL ss).length) = (if k = x then 1 else 0) + if homeI ss x = (k : Int) then 1 else 0 := fun _ => by
      rw [List.count_cons, rowP, cnt_map, cnt_filter (by rw [homesL_len]; exact hx), homesL_at hx]
      have e1 : (((k : Int) == (x : Int)) = true) ↔ k = x := by simp; omega
      by_cases e : k = x
      · simp [e]; omega
      · have : ¬ ((k : Int) = (x : Int)) := by omega
        simp [e, this]
    by_cases h1 : 0 ≤ homeI ss x
    · have hd := homeI_dot h1
      simp only [if_pos h1]
      by_cases e : homeI ss x = (k : Int)
      · have hk0 : homeI ss k = -1 := by have := hd.2.2; rw [e] at this; simpa using this
        rw [if_neg (by omega), if_neg (by omega), hrow (by omega), if_pos e]
        have : ¬ k = x := by omega
        simp [this, e]
        omega
      · by_cases h2 : 0 ≤ homeI ss k
        · simp only [if_pos h2, List.count_nil]
          by_cases h3 : homeI ss x < (k : Int)
          · rw [if_pos h3, if_pos (by omega)]
          · rw [if_neg h3, if_neg (by omega)]
        · rw [if_neg h2, hrow h2, if_neg e]
          have : ¬ k = x := fun e2 => h2 (by rw [e2]; exact h1)
          simp only [this, if_false]
          by_cases h3 : homeI ss x < (k : Int)
          · rw [if_pos h3, if_pos (by omega)]
          · rw [if_neg h3, if_neg (by omega)]
    · simp only [if_neg h1]
      have e : ¬ homeI ss x = (k : Int) := by omega
      by_cases h2 : 0 ≤ homeI ss k
      · have : ¬ k = x := fun e2 => h1 (by rw [← e2]; exact h2)
        simp only [if_pos h2, List.count_nil]
        by_cases h3 : (x : Int) < (k : Int)
        · rw [if_pos h3, if_pos (by omega)]
        · rw [if_neg h3, if_neg (by omega)]
      · rw [if_neg h2, hrow h2, if_neg e]
        by_cases h3 : (x : Int) < (k : Int)
        · have : ¬ k = x := by omega
          rw [if_pos h3, if_neg this, if_pos (by omega)]
        · rw [if_neg h3]
          by_cases h4 : k = x
          · rw [if_pos h4, if_pos (by omega)]
          · rw [if_neg h4, if_neg (by omega)]
theorem ordP_lt (ss : List Stroke) : ∀ k : Nat, k ≤ ss.length → ∀ y ∈ ordP (homesL ss) k, 0 ≤ y ∧ y < (ss.length : Int)
  | 0, _, y, hy => by simp [ordP] at hy
  | k + 1, hk, y, hy => by
    rw [ordP, List.mem_append] at hy
    rcases hy with hy | hy
    · exact ordP_lt ss k (by omega) y hy
    · unfold rowL at hy
      split at hy
      · simp at hy
      · rw [List.mem_cons] at hy
        rcases hy with hy | hy
        · omega
        · unfold rowP at hy
          obtain ⟨q, hq, e⟩ := List.mem_map.1 hy
          have := List.mem_range.1 (List.mem_filter.1 hq).1
          rw [homesL_len] at this
          omega
def iotaL (n : Nat) : List Int := (List.range n).map fun (q : Nat) => (q : Int)
theorem ordL_perm (ss : List Stroke) : List.Perm (ordL ss) (iotaL ss.length) := by
  rw [List.perm_iff_count]
  intro y
  by_cases hy : 0 ≤ y ∧ y < (ss.length : Int)
  · obtain ⟨x, rfl⟩ : ∃ x : Nat, y = (x : Int) := ⟨y.toNat, by omega⟩
    have hb := homeI_bd ss x
    rw [ordL, ordP_cnt ss (by omega) ss.length (Nat.le_refl _), if_pos (by split <;> omega), iotaL, cnt_map, cnt_range (by omega)]
  · rw [ordL, List.count_eq_zero_of_not_mem (fun h => hy (ordP_lt ss _ (Nat.le_refl _) y h)), List.count_eq_zero_of_not_mem]
    intro h
    unfold iotaL at h
    obtain ⟨q, hq, e⟩ := List.mem_map.1 h
    have := List.mem_range.1 hq
    omega
theorem ordL_len (ss : List Stroke) : (ordL ss).length = ss.length := by rw [(ordL_perm ss).length_eq]; simp [iotaL]
theorem ordL_mem {ss : List Stroke} {y : Int} : y ∈ ordL ss ↔ 0 ≤ y ∧ y < (ss.length : Int) := by
  rw [(ordL_perm ss).mem_iff]
  constructor
  · intro h
    obtain ⟨q, hq, e⟩ := List.mem_map.1 h
    have := List.mem_range.1 hq
    omega
  · intro h
    exact List.mem_map.2 ⟨y.toNat, List.mem_range.2 (by omega), by omega⟩
theorem ordL_at {ss : List Stroke} {k : Nat} (h : k < ss.length) : 0 ≤ at_ (ordL ss) k ∧ at_ (ordL ss) k < (ss.length : Int) := ordL_mem.1 (at_mem (by rw [ordL_len]; exact h))
theorem iota_pw (n : Nat) : (iotaL n).Pairwise fun x y => x ≤ y := by
  unfold iotaL
  rw [List.pairwise_map]
  exact (List.pairwise_lt_range).imp fun h => by omega
theorem iota_len (n : Nat) : (iotaL n).length = n := by simp [iotaL]
theorem iota_at {n k : Nat} (h : k < n) : at_ (iotaL n) k = (k : Int) := by simp [at_, iotaL, h]
/-- The greatest right side of the first strokes in order. -/
def rightI (ss : List Stroke) (o : List Int) : Nat → Int
  | 0 => 0
  | k + 1 => max (rightI ss o k) (boxS (at_ ss (at_ o k).toNat).Points (at_ ss (at_ o k).toNat).Points.length).X2
def gapI (ss : List Stroke) (o : List Int) (p : Nat) : Int := (boxS (at_ ss (at_ o p).toNat).Points (at_ ss (at_ o p).toNat).Points.length).X1 - rightI ss o p
theorem rightI_succ {ss : List Stroke} {o : List Int} {k : Int} (h : 0 ≤ k) : rightI ss o (k + 1).toNat = max (rightI ss o k.toNat) (boxS (at_ ss (at_ o k.toNat).toNat).Points (at_ ss (at_ o k.toNat).toNat).Points.length).X2 := by
  have e1 : (k + 1).toNat = k.toNat + 1 := by omega
  rw [e1, rightI]

-- impl.isDot
theorem isDot_ok (s : Stroke) (ok : okStroke' s = true) : Con Try.prog 25 [.agg [slPoint false s.Points]] true (Bv (dotB s)) := by
  have hbo := boxS_all ok
  unfold okBox at hbo
  refine fn_ok (fn := Try.f25) (nt := 20) Try.func25 rfl rfl rfl rfl (by simp [taggedL, tagged, tagPoint]) fun B hB => ?_
  refine aw_lens (x := .agg [slPoint false s.Points]) 0 rfl (fun len_s => ?_)
  simp [LenOK, LenL, cPoint, fPoint, slPoint] at len_s
  refine aw_seq ?_
  refine aw_reg [(0, .new 1)] [1] [1] [.ref 1 0] [some (.box [slPoint false s.Points])] [] (by kernel_rfl) hB trivial ?_
  refine ae_then ?_
  refine aw_seq ?_
  refine aw_reg [(1, .call [(true, .agg [slPoint false s.Points])] true (agBox (boxS s.Points s.Points.length))), (2, .new 3)] [3] [3] [.ref 3 0] [some (bxBox (boxS s.Points s.Points.length))] [Con Try.prog 41 [.agg [slPoint false s.Points]] true (agBox (boxS s.Points s.Points.length)) ∧ ((.agg [slPoint false s.Points] : AV) = .agg [slPoint false s.Points]) ∧ True] (by kernel_rfl) hB ⟨⟨(boxOfStroke_ok s ok), rfl, trivial⟩, trivial⟩ ?_
  refine ae_then ?_
  refine aw_seq ?_
  by_cases h1 : (((boxS s.Points s.Points.length).X2) - ((boxS s.Points s.Points.length).X1)) ≤ 160
  ·refine aw_reg [(5, .dec true)] [2] [] [Bv (decide ((((boxS s.Points s.Points.length).Y2) - ((boxS s.Points s.Points.length).Y1)) ≤ 160))] [] [inR .i64 (((boxS s.Points s.Points.length).X2) - ((boxS s.Points s.Points.length).X1)), (((boxS s.Points s.Points.length).X2) - ((boxS s.Points s.Points.length).X1)) ≤ 160, inR .i64 (((boxS s.Points s.Points.length).Y2) - ((boxS s.Points s.Points.length).Y1))] (by kernel_rfl) hB ⟨(inR_i64 (by omega) (by omega)), h1, (inR_i64 (by omega) (by omega)), trivial⟩ ?_
   refine ae_then ?_
   refine aw_ret ?_
   refine ae_ret hB (Bv (decide ((((boxS s.Points s.Points.length).Y2) - ((boxS s.Points s.Points.length).Y1)) ≤ 160))) (by kernel_rfl) (.inl (by refine congrArg Bv ?_; first | (simp [dotB, *]; done) | (simp [dotB]; omega))) rfl (fun _ => trivial)
  ·refine aw_reg [(5, .dec false)] [2] [] [Bv false] [] [inR .i64 (((boxS s.Points s.Points.length).X2) - ((boxS s.Points s.Points.length).X1)), ¬ ((((boxS s.Points s.Points.length).X2) - ((boxS s.Points s.Points.length).X1)) ≤ 160)] (by kernel_rfl) hB ⟨(inR_i64 (by omega) (by omega)), h1, trivial⟩ ?_
   refine ae_then ?_
   refine aw_ret ?_
   refine ae_ret hB (Bv false) (by kernel_rfl) (.inl (by refine congrArg Bv ?_; first | (simp [dotB, *]; done) | (simp [dotB]; omega))) rfl (fun _ => trivial)

end Go.Proofs.Ytglpfinmioppcaa.Ax
