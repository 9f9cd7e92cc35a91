/- Contracts that the statement FnNearest reaches, part 1. No conditions. -/
import Derived.Test.YtbapncplieakmaaAxO
import Derived.Test.YtbapncplieakmaaShelf
import Derived.Test.YtbapncplieakmaaAxR
import Derived.Test.YtbapncplieakmaaAxS
namespace Go.Proofs.Ytbapncplieakmaa.Ax
open Go.RowKit Go.ChangeShapes Go.WideShapes
set_option linter.unusedVariables false
set_option linter.unusedSimpArgs false


def cU8 (x : Int) : List AV := [.val (.int .u8 x)]
def fU8 (xs : List Int) (i : Nat) : List AV := cU8 (at_ xs i)
def slU8 (fr : Bool) (xs : List Int) : AV := .sl fr 1 xs.length (fU8 xs)
theorem tagcU8 (t : Bool) (x : Int) : taggedL t (cU8 x) := by simp [cU8, taggedL, tagged]
theorem tagU8 (t : Bool) (xs : List Int) : tagged t (slU8 t xs) := by simp only [slU8, tagged]; exact ⟨trivial, fun i _ => tagcU8 t _⟩
theorem lenU8 (fr : Bool) (xs : List Int) : lenA noOb (slU8 fr xs) = some xs.length := rfl
def cI (x : Int) : List AV := [I x]
def fI (xs : List Int) (i : Nat) : List AV := cI (at_ xs i)
def slI (fr : Bool) (xs : List Int) : AV := .sl fr 1 xs.length (fI xs)
theorem tagcI (t : Bool) (x : Int) : taggedL t (cI x) := by simp [cI, taggedL, tagged]
theorem tagI (t : Bool) (xs : List Int) : tagged t (slI t xs) := by simp only [slI, tagged]; exact ⟨trivial, fun i _ => tagcI t _⟩
theorem lenI (fr : Bool) (xs : List Int) : lenA noOb (slI fr xs) = some xs.length := rfl
structure Feat where
  X : Int
  Y : Int
  D : Int
deriving DecidableEq, Inhabited
def cFeat (x : Feat) : List AV := [I x.X, I x.Y, I x.D]
def fFeat (xs : List Feat) (i : Nat) : List AV := cFeat (at_ xs i)
def slFeat (fr : Bool) (xs : List Feat) : AV := .sl fr 3 xs.length (fFeat xs)
theorem tagcFeat (t : Bool) (x : Feat) : taggedL t (cFeat x) := by simp [cFeat, taggedL, tagged]
theorem tagFeat (t : Bool) (xs : List Feat) : tagged t (slFeat t xs) := by simp only [slFeat, tagged]; exact ⟨trivial, fun i _ => tagcFeat t _⟩
theorem lenFeat (fr : Bool) (xs : List Feat) : lenA noOb (slFeat fr xs) = some xs.length := rfl
abbrev bxFeat (x : Feat) : Ob := .box [I x.X, I x.Y, I x.D]
abbrev agFeat (x : Feat) : AV := .agg [I x.X, I x.Y, I x.D]
def cLFeat (fr : Bool) (x : List Feat) : List AV := [slFeat fr x]
def fLFeat (fr : Bool) (xs : List (List Feat)) (i : Nat) : List AV := cLFeat fr (at_ xs i)
def slLFeat (fr : Bool) (xs : List (List Feat)) : AV := .sl fr 1 xs.length (fLFeat fr xs)
theorem tagcLFeat (t : Bool) (x : List Feat) : taggedL t (cLFeat t x) := by simp [cLFeat, taggedL, tagged, tagFeat]
theorem tagLFeat (t : Bool) (xs : List (List Feat)) : tagged t (slLFeat t xs) := by simp only [slLFeat, tagged]; exact ⟨trivial, fun i _ => tagcLFeat t _⟩
theorem lenLFeat (fr : Bool) (xs : List (List Feat)) : lenA noOb (slLFeat fr xs) = some xs.length := rfl
theorem idsLFeat (fr : Bool) (x : List Feat) : AV.idsL (cLFeat fr x) = [] := rfl
theorem leLFeat (fr : Bool) (x : List Feat) (ob : Nat → Option Ob) : leL ob false (cLFeat fr x) (cLFeat false x) := (And.intro (And.intro (fun h => by cases h) (And.intro rfl (And.intro rfl (fun i _ => .inl rfl)))) rfl)
def cLU8 (fr : Bool) (x : List Int) : List AV := [slU8 fr x]
def fLU8 (fr : Bool) (xs : List (List Int)) (i : Nat) : List AV := cLU8 fr (at_ xs i)
def slLU8 (fr : Bool) (xs : List (List Int)) : AV := .sl fr 1 xs.length (fLU8 fr xs)
theorem tagcLU8 (t : Bool) (x : List Int) : taggedL t (cLU8 t x) := by simp [cLU8, taggedL, tagged, tagU8]
theorem tagLU8 (t : Bool) (xs : List (List Int)) : tagged t (slLU8 t xs) := by simp only [slLU8, tagged]; exact ⟨trivial, fun i _ => tagcLU8 t _⟩
theorem lenLU8 (fr : Bool) (xs : List (List Int)) : lenA noOb (slLU8 fr xs) = some xs.length := rfl
theorem idsLU8 (fr : Bool) (x : List Int) : AV.idsL (cLU8 fr x) = [] := rfl
theorem leLU8 (fr : Bool) (x : List Int) (ob : Nat → Option Ob) : leL ob false (cLU8 fr x) (cLU8 false x) := (And.intro (And.intro (fun h => by cases h) (And.intro rfl (And.intro rfl (fun i _ => .inl rfl)))) rfl)
def cU64 (x : Int) : List AV := [.val (.int .u64 x)]
def fU64 (xs : List Int) (i : Nat) : List AV := cU64 (at_ xs i)
def slU64 (fr : Bool) (xs : List Int) : AV := .sl fr 1 xs.length (fU64 xs)
theorem tagcU64 (t : Bool) (x : Int) : taggedL t (cU64 x) := by simp [cU64, taggedL, tagged]
theorem tagU64 (t : Bool) (xs : List Int) : tagged t (slU64 t xs) := by simp only [slU64, tagged]; exact ⟨trivial, fun i _ => tagcU64 t _⟩
theorem lenU64 (fr : Bool) (xs : List Int) : lenA noOb (slU64 fr xs) = some xs.length := rfl
structure l00Src where
  code : List Int
  atx : Int
  seed : Int
deriving DecidableEq, Inhabited
def cl00Src (fr : Bool) (x : l00Src) : List AV := [slU8 fr x.code, I x.atx, .val (.int .u64 x.seed)]
def fl00Src (fr : Bool) (xs : List l00Src) (i : Nat) : List AV := cl00Src fr (at_ xs i)
def sll00Src (fr : Bool) (xs : List l00Src) : AV := .sl fr 3 xs.length (fl00Src fr xs)
theorem tagcl00Src (t : Bool) (x : l00Src) : taggedL t (cl00Src t x) := by simp [cl00Src, taggedL, tagged, tagU8]
theorem tagl00Src (t : Bool) (xs : List l00Src) : tagged t (sll00Src t xs) := by simp only [sll00Src, tagged]; exact ⟨trivial, fun i _ => tagcl00Src t _⟩
theorem lenl00Src (fr : Bool) (xs : List l00Src) : lenA noOb (sll00Src fr xs) = some xs.length := rfl
theorem idsl00Src (fr : Bool) (x : l00Src) : AV.idsL (cl00Src fr x) = [] := rfl
theorem lel00Src (fr : Bool) (x : l00Src) (ob : Nat → Option Ob) : leL ob false (cl00Src fr x) (cl00Src false x) := (And.intro (And.intro (fun h => by cases h) (And.intro rfl (And.intro rfl (fun i _ => .inl rfl)))) (And.intro rfl (And.intro rfl rfl)))
abbrev bxl00Src (x : l00Src) : Ob := .box [slU8 false x.code, I x.atx, .val (.int .u64 x.seed)]
abbrev agl00Src (x : l00Src) : AV := .agg [slU8 false x.code, I x.atx, .val (.int .u64 x.seed)]
abbrev bxl00SrcT (x : l00Src) : Ob := .box [slU8 true x.code, I x.atx, .val (.int .u64 x.seed)]
abbrev agl00SrcT (x : l00Src) : AV := .agg [slU8 true x.code, I x.atx, .val (.int .u64 x.seed)]
structure Pair where
  I : Int
  J : Int
deriving DecidableEq, Inhabited
def cPair (x : Pair) : List AV := [I x.I, I x.J]
def fPair (xs : List Pair) (i : Nat) : List AV := cPair (at_ xs i)
def slPair (fr : Bool) (xs : List Pair) : AV := .sl fr 2 xs.length (fPair xs)
theorem tagcPair (t : Bool) (x : Pair) : taggedL t (cPair x) := by simp [cPair, taggedL, tagged]
theorem tagPair (t : Bool) (xs : List Pair) : tagged t (slPair t xs) := by simp only [slPair, tagged]; exact ⟨trivial, fun i _ => tagcPair t _⟩
theorem lenPair (fr : Bool) (xs : List Pair) : lenA noOb (slPair fr xs) = some xs.length := rfl
abbrev bxPair (x : Pair) : Ob := .box [I x.I, I x.J]
abbrev agPair (x : Pair) : AV := .agg [I x.I, I x.J]
def cLI (fr : Bool) (x : List Int) : List AV := [slI fr x]
def fLI (fr : Bool) (xs : List (List Int)) (i : Nat) : List AV := cLI fr (at_ xs i)
def slLI (fr : Bool) (xs : List (List Int)) : AV := .sl fr 1 xs.length (fLI fr xs)
theorem tagcLI (t : Bool) (x : List Int) : taggedL t (cLI t x) := by simp [cLI, taggedL, tagged, tagI]
theorem tagLI (t : Bool) (xs : List (List Int)) : tagged t (slLI t xs) := by simp only [slLI, tagged]; exact ⟨trivial, fun i _ => tagcLI t _⟩
theorem lenLI (fr : Bool) (xs : List (List Int)) : lenA noOb (slLI fr xs) = some xs.length := rfl
theorem idsLI (fr : Bool) (x : List Int) : AV.idsL (cLI fr x) = [] := rfl
theorem leLI (fr : Bool) (x : List Int) (ob : Nat → Option Ob) : leL ob false (cLI fr x) (cLI false x) := (And.intro (And.intro (fun h => by cases h) (And.intro rfl (And.intro rfl (fun i _ => .inl rfl)))) rfl)
structure Envelope where
  LowX : List Int
  HighX : List Int
  LowY : List Int
  HighY : List Int
deriving DecidableEq, Inhabited
def cEnvelope (fr : Bool) (x : Envelope) : List AV := [slI fr x.LowX, slI fr x.HighX, slI fr x.LowY, slI fr x.HighY]
def fEnvelope (fr : Bool) (xs : List Envelope) (i : Nat) : List AV := cEnvelope fr (at_ xs i)
def slEnvelope (fr : Bool) (xs : List Envelope) : AV := .sl fr 4 xs.length (fEnvelope fr xs)
theorem tagcEnvelope (t : Bool) (x : Envelope) : taggedL t (cEnvelope t x) := by simp [cEnvelope, taggedL, tagged, tagI]
theorem tagEnvelope (t : Bool) (xs : List Envelope) : tagged t (slEnvelope t xs) := by simp only [slEnvelope, tagged]; exact ⟨trivial, fun i _ => tagcEnvelope t _⟩
theorem lenEnvelope (fr : Bool) (xs : List Envelope) : lenA noOb (slEnvelope fr xs) = some xs.length := rfl
theorem idsEnvelope (fr : Bool) (x : Envelope) : AV.idsL (cEnvelope fr x) = [] := rfl
theorem leEnvelope (fr : Bool) (x : Envelope) (ob : Nat → Option Ob) : leL ob false (cEnvelope fr x) (cEnvelope false x) := (And.intro (And.intro (fun h => by cases h) (And.intro rfl (And.intro rfl (fun i _ => .inl rfl)))) (And.intro (And.intro (fun h => by cases h) (And.intro rfl (And.intro rfl (fun i _ => .inl rfl)))) (And.intro (And.intro (fun h => by cases h) (And.intro rfl (And.intro rfl (fun i _ => .inl rfl)))) (And.intro (And.intro (fun h => by cases h) (And.intro rfl (And.intro rfl (fun i _ => .inl rfl)))) rfl))))
abbrev bxEnvelope (x : Envelope) : Ob := .box [slI false x.LowX, slI false x.HighX, slI false x.LowY, slI false x.HighY]
abbrev agEnvelope (x : Envelope) : AV := .agg [slI false x.LowX, slI false x.HighX, slI false x.LowY, slI false x.HighY]
abbrev bxEnvelopeT (x : Envelope) : Ob := .box [slI true x.LowX, slI true x.HighX, slI true x.LowY, slI true x.HighY]
abbrev agEnvelopeT (x : Envelope) : AV := .agg [slI true x.LowX, slI true x.HighX, slI true x.LowY, slI true x.HighY]
structure Arr2I where
  a0 : Int
  a1 : Int
deriving DecidableEq, Inhabited
def cArr2I (x : Arr2I) : List AV := [I x.a0, I x.a1]
def fArr2I (xs : List Arr2I) (i : Nat) : List AV := cArr2I (at_ xs i)
def slArr2I (fr : Bool) (xs : List Arr2I) : AV := .sl fr 2 xs.length (fArr2I xs)
theorem tagcArr2I (t : Bool) (x : Arr2I) : taggedL t (cArr2I x) := by simp [cArr2I, taggedL, tagged]
theorem tagArr2I (t : Bool) (xs : List Arr2I) : tagged t (slArr2I t xs) := by simp only [slArr2I, tagged]; exact ⟨trivial, fun i _ => tagcArr2I t _⟩
theorem lenArr2I (fr : Bool) (xs : List Arr2I) : lenA noOb (slArr2I fr xs) = some xs.length := rfl
abbrev bxArr2I (x : Arr2I) : Ob := .box [I x.a0, I x.a1]
abbrev agArr2I (x : Arr2I) : AV := .agg [I x.a0, I x.a1]
structure Arr3Arr2I where
  a0 : Arr2I
  a1 : Arr2I
  a2 : Arr2I
deriving DecidableEq, Inhabited
def cArr3Arr2I (x : Arr3Arr2I) : List AV := [I x.a0.a0, I x.a0.a1, I x.a1.a0, I x.a1.a1, I x.a2.a0, I x.a2.a1]
def fArr3Arr2I (xs : List Arr3Arr2I) (i : Nat) : List AV := cArr3Arr2I (at_ xs i)
def slArr3Arr2I (fr : Bool) (xs : List Arr3Arr2I) : AV := .sl fr 6 xs.length (fArr3Arr2I xs)
theorem tagcArr3Arr2I (t : Bool) (x : Arr3Arr2I) : taggedL t (cArr3Arr2I x) := by simp [cArr3Arr2I, taggedL, tagged]
theorem tagArr3Arr2I (t : Bool) (xs : List Arr3Arr2I) : tagged t (slArr3Arr2I t xs) := by simp only [slArr3Arr2I, tagged]; exact ⟨trivial, fun i _ => tagcArr3Arr2I t _⟩
theorem lenArr3Arr2I (fr : Bool) (xs : List Arr3Arr2I) : lenA noOb (slArr3Arr2I fr xs) = some xs.length := rfl
abbrev bxArr3Arr2I (x : Arr3Arr2I) : Ob := .box [I x.a0.a0, I x.a0.a1, I x.a1.a0, I x.a1.a1, I x.a2.a0, I x.a2.a1]
abbrev agArr3Arr2I (x : Arr3Arr2I) : AV := .agg [I x.a0.a0, I x.a0.a1, I x.a1.a0, I x.a1.a1, I x.a2.a0, I x.a2.a1]

-- laws.a2Long
theorem a2Long_ok (code : List Int) (more : List Int) : Con Try.prog 5 [slU8 false code, slU8 false more] true (Bv (decide (3000 < (code.length : Int) ∨ 3000 < (more.length : Int)))) := by
  refine fn_ok (fn := Try.f5) (nt := 13) Try.func5 rfl rfl rfl rfl (by simp [taggedL, tagged, tagU8]) fun B hB => ?_
  refine aw_lens (x := slU8 false code) 0 rfl (fun len_code => ?_)
  simp [LenOK, LenL, cU8, fU8, slU8] at len_code
  refine aw_lens (x := slU8 false more) 1 rfl (fun len_more => ?_)
  simp [LenOK, LenL, cU8, fU8, slU8] at len_more
  refine aR [] [0, 1] [] [slU8 false code, slU8 false more] [] [] hB trivial ?_
  refine aw_seq ?_
  by_cases h1 : 3000 < (code.length : Int)
  ·refine aw_r [(2, .dec true)] [4] [] [Bv true] [] [3000 < (code.length : Int)] hB ⟨h1, trivial⟩ ?_
   refine ae_then ?_
   refine aw_ret ?_
   refine ae_ret hB (Bv true) (by kernel_rfl) (.inl (by refine congrArg Bv ?_; simp [*])) rfl (fun _ => trivial)
  refine aw_r [(2, .dec false)] [4] [] [Bv (decide (3000 < (more.length : Int)))] [] [¬ (3000 < (code.length : Int))] hB ⟨h1, trivial⟩ ?_
  refine ae_then ?_
  refine aw_ret ?_
  refine ae_ret hB (Bv (decide (3000 < (more.length : Int)))) (by kernel_rfl) (.inl (by refine congrArg Bv ?_; simp [*])) rfl (fun _ => trivial)


theorem set_at {α : Type} [Inhabited α] {ys xs : List α} {i : Int} (hl : ys.length = xs.length) (hi : i.toNat < xs.length) (h : ∀ j : Nat, (j : Int) < i → at_ ys j = at_ xs j) (j : Nat) (hj : j ≤ i.toNat) : at_ (ys.set i.toNat (at_ xs i.toNat)) j = at_ xs j := by
  by_cases e : i.toNat = j
  · subst e; simp [at_, hl, hi]
  · have := h j (by omega)
    simp only [at_] at this ⊢
    rw [← this]
    simp [e]
/-- Whether two things are the same. -/
def same {α : Type} [DecidableEq α] (x y : α) : Bool := decide (x = y)
theorem same_iff {α : Type} [DecidableEq α] {x y : α} : same x y = true ↔ x = y := by simp [same]
theorem ext_at {α : Type} [Inhabited α] {xs ys : List α} (hl : xs.length = ys.length) (h : ∀ j : Nat, j < xs.length → at_ xs j = at_ ys j) : xs = ys := by
  apply List.ext_getElem hl
  intro i h1 h2
  rw [← at_eq h1, ← at_eq h2]
  exact h i h1

theorem at_mem {α : Type} [Inhabited α] {xs : List α} {i : Nat} (h : i < xs.length) : at_ xs i ∈ xs := by rw [at_eq h]; exact List.getElem_mem h

/-- Whether p holds of all numbers below n. -/
def allN (n : Nat) (p : Nat → Bool) : Bool := (List.range n).all p
def anyN (n : Nat) (p : Nat → Bool) : Bool := !(allN n fun j => !(p j))
theorem allN_iff {n : Nat} {p : Nat → Bool} : allN n p = true ↔ ∀ j, j < n → p j = true := by simp [allN, List.all_eq_true]
theorem allN_at {n : Nat} {p : Nat → Bool} (h : ∀ j, j < n → p j = true) : allN n p = true := allN_iff.2 h
theorem allN_get {n : Nat} {p : Nat → Bool} (h : allN n p = true) {k : Nat} (hk : k < n) : p k = true := allN_iff.1 h k hk
theorem allN_not {n : Nat} {p : Nat → Bool} {k : Nat} (hk : k < n) (h : p k = false) : allN n p = false := by
  rw [← Bool.not_eq_true, allN_iff]; intro h'; rw [h' k hk] at h; cases h
theorem anyN_not (n : Nat) (p : Nat → Bool) : anyN n (fun j => !(p j)) = !(allN n p) := by simp [anyN]
theorem anyN_at {n : Nat} {p : Nat → Bool} {k : Nat} (hk : k < n) (h : p k = true) : anyN n p = true := by
  unfold anyN; rw [allN_not hk (by simp [h])]; rfl
theorem anyN_none {n : Nat} {p : Nat → Bool} (h : ∀ j, j < n → p j = false) : anyN n p = false := by
  unfold anyN; rw [allN_at (fun j hj => by simp [h j hj])]; rfl
theorem anyN_iff {n : Nat} {p : Nat → Bool} : anyN n p = true ↔ ∃ j, j < n ∧ p j = true := by
  constructor
  · intro h
    apply Classical.byContradiction
    intro hn
    rw [anyN_none (fun j hj => by rw [← Bool.not_eq_true]; exact fun hp => hn ⟨j, hj, hp⟩)] at h
    cases h
  · rintro ⟨j, hj, hp⟩; exact anyN_at hj hp
theorem up_to {n : Int} {p : Nat → Prop} {i : Int} (hi : 0 ≤ i) (h : ∀ j : Nat, (j : Int) < i → p j) (hp : p i.toNat) : ∀ j : Nat, (j : Int) < i + 1 → p j := fun j hj => by
  by_cases e : j = i.toNat
  · subst e; exact hp
  · exact h j (by omega)

/-- The source of choices is in order: its bytes are bytes, and its place is a number. -/
def okSrc (s : l00Src) : Prop := (∀ j, j < s.code.length → 0 ≤ at_ s.code j ∧ at_ s.code j ≤ 255) ∧ 0 ≤ s.atx ∧ s.code.length ≤ 4611686018427387904
theorem u64_wrap (n : Int) : 0 ≤ IntKind.u64.wrap n ∧ IntKind.u64.wrap n ≤ 18446744073709551615 := by
  simp only [IntKind.wrap, IntKind.signed, IntKind.bits]
  simp
  omega
theorem and_255 (a : Int) : 0 ≤ bitsI .and .u64 a 255 ∧ bitsI .and .u64 a 255 ≤ 255 := by
  obtain ⟨n, hn⟩ : ∃ n : Nat, n = (BitVec.ofInt 64 a &&& BitVec.ofInt 64 255).toNat := ⟨_, rfl⟩
  have h : n ≤ 255 := by rw [hn, BitVec.toNat_and]; exact Nat.and_le_right
  have e : bitsI .and .u64 a 255 = IntKind.u64.wrap (n : Int) := by rw [hn]; rfl
  have w : IntKind.u64.wrap (n : Int) = n := wrap_in (inR_u64 (by omega) (by omega))
  rw [e, w]; omega

-- spec.l00From
theorem l00From_ok (code : List Int) : ∃ (s' : l00Src), (s'.code = code ∧ s'.atx = 0) ∧ CallOK Try.prog 20 [slU8 false code] (lookO []) false (.ref 7001 0) (lookO [(7001, bxl00Src s')]) := by
  have hh : ∃ r : l00Src, ((r.code = code ∧ r.atx = 0) ∧ (True)) ∧ CallOK Try.prog 20 [slU8 false code] (lookO []) false (.ref 7001 0) (lookO [(7001, bxl00Src r)]) := by
    refine fn_okX (Φ := fun r : l00Src => (r.code = code ∧ r.atx = 0) ∧ (True)) [] (fun r => [(7001, bxl00Src r)]) (fn := Try.f20) (nt := 6) Try.func20 rfl rfl (args := [slU8 false code]) rfl (allcons (.inl ⟨rfl, tagU8 false _⟩) allnil) (res := fun r => .ref 7001 0) ?_
    refine xR [] [0] [] [slU8 false code] [] [] trivial ?_
    refine xR [(2, .new 7001)] [2] [7001] [.ref 7001 0] [some (.box [slU8 false code, I 0, .val (.int .u64 0)])] [] trivial ?_
    refine x_ret ?_
    refine xe_end (l00Src.mk code 0 0) (show ((l00Src.mk code 0 0).code = code ∧ (l00Src.mk code 0 0).atx = 0) ∧ (True) from ⟨(by first | rfl | (exact ⟨rfl, rfl⟩)), trivial⟩) (⟨.inl rfl, trivial⟩) (.ref 7001 0) (by kernel_rfl) (.inl rfl) (fun h => by cases h) (fun h => by cases h)
  obtain ⟨s', ⟨hh0, _⟩, hc⟩ := hh
  exact ⟨s', hh0, hc⟩


-- spec.l00Src).next
theorem next_ok (s : l00Src) (hs : okSrc s) (ha : s.atx ≤ 4000000000000000000) : ∃ (v : Int) (s' : l00Src), (0 ≤ v ∧ v ≤ 255) ∧ (okSrc s') ∧ (s'.code = s.code) ∧ (s.atx + 1 ≤ s'.atx ∧ s'.atx ≤ s.atx + 1) ∧ CallOK Try.prog 43 [.ref 7001 0] (lookO [(7001, bxl00Src s)]) true (I v) (lookO [(7001, bxl00Src s')]) := by
  have hs0 := hs.2.1
  have hs1 := hs.2.2
  have hh : ∃ r : Int × l00Src, ((0 ≤ r.1 ∧ r.1 ≤ 255) ∧ (okSrc r.2) ∧ (r.2.code = s.code) ∧ (s.atx + 1 ≤ r.2.atx ∧ r.2.atx ≤ s.atx + 1) ∧ (True)) ∧ CallOK Try.prog 43 [.ref 7001 0] (lookO [(7001, bxl00Src s)]) true (I r.1) (lookO [(7001, bxl00Src r.2)]) := by
    refine fn_okX (Φ := fun r : Int × l00Src => (0 ≤ r.1 ∧ r.1 ≤ 255) ∧ (okSrc r.2) ∧ (r.2.code = s.code) ∧ (s.atx + 1 ≤ r.2.atx ∧ r.2.atx ≤ s.atx + 1) ∧ (True)) [(7001, bxl00Src s)] (fun r => [(7001, bxl00Src r.2)]) (fn := Try.f43) (nt := 62) Try.func43 rfl rfl (args := [.ref 7001 0]) rfl (allcons (.inr trivial) allnil) (res := fun r => I r.1) ?_
    refine xR [] [0] [7001] [.ref 7001 0] [some (bxl00Src s)] [] trivial ?_
    refine xR [] [0, 3] [7001] [.ref 7001 0, I 0] [some (bxl00Src s)] [] trivial ?_
    refine x_seq ?_
    refine x_seq ?_
    by_cases h1 : s.atx < (s.code.length : Int)
    ·have hbt := hs.1 s.atx.toNat (by omega)
     refine x_r [(9, .dec true)] [0, 3, 13] [7001] [.ref 7001 0, I 0, Bv true] [some (bxl00Src s)] [s.atx < (s.code.length : Int)] ⟨h1, trivial⟩ ?_
     refine xe_then ?_
     refine x_true rfl ?_
     refine x_r [] [0, 3] [7001] [.ref 7001 0, I (at_ s.code s.atx.toNat)] [some (bxl00Src s)] [(0 : Int) ≤ s.atx ∧ s.atx < (s.code.length : Int), inR .i64 (at_ s.code s.atx.toNat)] ⟨⟨(by omega), (by omega)⟩, (inR_i64 (by omega) (by omega)), trivial⟩ ?_
     refine xe_then ?_
     refine xR [] [0, 3] [7001] [.ref 7001 0, I (at_ s.code s.atx.toNat)] [some (.box [slU8 false s.code, I (s.atx + 1), .val (.int .u64 s.seed)])] [inR .i64 (s.atx + 1)] ⟨(inR_i64 (by omega) (by omega)), trivial⟩ ?_
     refine xR [(5, .wrap), (8, .wrap), (9, .wrap)] [0, 3] [7001] [.ref 7001 0, I (at_ s.code s.atx.toNat)] [some (.box [slU8 false s.code, I (s.atx + 1), .val (.int .u64 (IntKind.u64.wrap ((IntKind.u64.wrap ((IntKind.u64.wrap (s.seed * 6364136223846793005)) + (at_ s.code s.atx.toNat))) + 1442695040888963407)))])] [inR .u64 (at_ s.code s.atx.toNat)] ⟨(inR_u64 (by omega) (by omega)), trivial⟩ ?_
     refine x_seq ?_
     refine x_seq ?_
     by_cases h2 : (s.atx + 1) ≤ (s.code.length : Int)
     ·refine x_r [(9, .dec true)] [0, 3, 53] [7001] [.ref 7001 0, I (at_ s.code s.atx.toNat), Bv true] [some (.box [slU8 false s.code, I (s.atx + 1), .val (.int .u64 (IntKind.u64.wrap ((IntKind.u64.wrap ((IntKind.u64.wrap (s.seed * 6364136223846793005)) + (at_ s.code s.atx.toNat))) + 1442695040888963407)))])] [(s.atx + 1) ≤ (s.code.length : Int)] ⟨h2, trivial⟩ ?_
      refine xe_then ?_
      refine x_true rfl ?_
      refine xR [] [2] [7001] [I (at_ s.code s.atx.toNat)] [some (.box [slU8 false s.code, I (s.atx + 1), .val (.int .u64 (IntKind.u64.wrap ((IntKind.u64.wrap ((IntKind.u64.wrap (s.seed * 6364136223846793005)) + (at_ s.code s.atx.toNat))) + 1442695040888963407)))])] [] trivial ?_
      refine x_ret ?_
      refine xe_ret_then ?_
      refine xe_end ((at_ s.code s.atx.toNat), (l00Src.mk s.code (s.atx + 1) (IntKind.u64.wrap ((IntKind.u64.wrap ((IntKind.u64.wrap (s.seed * 6364136223846793005)) + (at_ s.code s.atx.toNat))) + 1442695040888963407)))) (show (0 ≤ (at_ s.code s.atx.toNat) ∧ (at_ s.code s.atx.toNat) ≤ 255) ∧ (okSrc (l00Src.mk s.code (s.atx + 1) (IntKind.u64.wrap ((IntKind.u64.wrap ((IntKind.u64.wrap (s.seed * 6364136223846793005)) + (at_ s.code s.atx.toNat))) + 1442695040888963407)))) ∧ ((l00Src.mk s.code (s.atx + 1) (IntKind.u64.wrap ((IntKind.u64.wrap ((IntKind.u64.wrap (s.seed * 6364136223846793005)) + (at_ s.code s.atx.toNat))) + 1442695040888963407))).code = s.code) ∧ (s.atx + 1 ≤ (l00Src.mk s.code (s.atx + 1) (IntKind.u64.wrap ((IntKind.u64.wrap ((IntKind.u64.wrap (s.seed * 6364136223846793005)) + (at_ s.code s.atx.toNat))) + 1442695040888963407))).atx ∧ (l00Src.mk s.code (s.atx + 1) (IntKind.u64.wrap ((IntKind.u64.wrap ((IntKind.u64.wrap (s.seed * 6364136223846793005)) + (at_ s.code s.atx.toNat))) + 1442695040888963407))).atx ≤ s.atx + 1) ∧ (True) from ⟨(by first | omega | rfl | assumption | (dsimp only; first | omega | rfl | assumption) | (simp only [*]; done) | exact ⟨hs.1, (by dsimp only; omega), hs1⟩), (by first | omega | rfl | assumption | (dsimp only; first | omega | rfl | assumption) | (simp only [*]; done) | exact ⟨hs.1, (by dsimp only; omega), hs1⟩), (by first | omega | rfl | assumption | (dsimp only; first | omega | rfl | assumption) | (simp only [*]; done) | exact ⟨hs.1, (by dsimp only; omega), hs1⟩), (by first | omega | rfl | assumption | (dsimp only; first | omega | rfl | assumption) | (simp only [*]; done) | exact ⟨hs.1, (by dsimp only; omega), hs1⟩), trivial⟩) (⟨.inl rfl, trivial⟩) (I (at_ s.code s.atx.toNat)) (by kernel_rfl) (.inl rfl) (fun _ => rfl) (fun _ => trivial)
     refine x_r [(9, .dec false)] [0, 3, 53] [7001] [.ref 7001 0, I (at_ s.code s.atx.toNat), Bv false] [some (.box [slU8 false s.code, I (s.atx + 1), .val (.int .u64 (IntKind.u64.wrap ((IntKind.u64.wrap ((IntKind.u64.wrap (s.seed * 6364136223846793005)) + (at_ s.code s.atx.toNat))) + 1442695040888963407)))])] [¬ ((s.atx + 1) ≤ (s.code.length : Int))] ⟨h2, trivial⟩ ?_
     refine xe_then ?_
     refine x_false rfl ?_
     refine x_skip ?_
     refine xe_then ?_
     refine x_seq ?_
     have hb1 := and_255 ((IntKind.u64.wrap ((IntKind.u64.wrap ((IntKind.u64.wrap (s.seed * 6364136223846793005)) + (at_ s.code s.atx.toNat))) + 1442695040888963407)) / 1099511627776)
     refine x_r [] [2] [7001] [I (bitsI .and .u64 ((IntKind.u64.wrap ((IntKind.u64.wrap ((IntKind.u64.wrap (s.seed * 6364136223846793005)) + (at_ s.code s.atx.toNat))) + 1442695040888963407)) / 1099511627776) 255)] [some (.box [slU8 false s.code, I (s.atx + 1), .val (.int .u64 (IntKind.u64.wrap ((IntKind.u64.wrap ((IntKind.u64.wrap (s.seed * 6364136223846793005)) + (at_ s.code s.atx.toNat))) + 1442695040888963407)))])] [(0 : Int) ≤ 40 ∧ (40 : Int) ≤ ((IntKind.bits .u64 : Nat) : Int), inR .i64 (bitsI .and .u64 ((IntKind.u64.wrap ((IntKind.u64.wrap ((IntKind.u64.wrap (s.seed * 6364136223846793005)) + (at_ s.code s.atx.toNat))) + 1442695040888963407)) / 1099511627776) 255)] ⟨⟨(by decide), (by decide)⟩, (inR_i64 (by omega) (by omega)), trivial⟩ ?_
     refine xe_then ?_
     refine x_ret ?_
     refine xe_end ((bitsI .and .u64 ((IntKind.u64.wrap ((IntKind.u64.wrap ((IntKind.u64.wrap (s.seed * 6364136223846793005)) + (at_ s.code s.atx.toNat))) + 1442695040888963407)) / 1099511627776) 255), (l00Src.mk s.code (s.atx + 1) (IntKind.u64.wrap ((IntKind.u64.wrap ((IntKind.u64.wrap (s.seed * 6364136223846793005)) + (at_ s.code s.atx.toNat))) + 1442695040888963407)))) (show (0 ≤ (bitsI .and .u64 ((IntKind.u64.wrap ((IntKind.u64.wrap ((IntKind.u64.wrap (s.seed * 6364136223846793005)) + (at_ s.code s.atx.toNat))) + 1442695040888963407)) / 1099511627776) 255) ∧ (bitsI .and .u64 ((IntKind.u64.wrap ((IntKind.u64.wrap ((IntKind.u64.wrap (s.seed * 6364136223846793005)) + (at_ s.code s.atx.toNat))) + 1442695040888963407)) / 1099511627776) 255) ≤ 255) ∧ (okSrc (l00Src.mk s.code (s.atx + 1) (IntKind.u64.wrap ((IntKind.u64.wrap ((IntKind.u64.wrap (s.seed * 6364136223846793005)) + (at_ s.code s.atx.toNat))) + 1442695040888963407)))) ∧ ((l00Src.mk s.code (s.atx + 1) (IntKind.u64.wrap ((IntKind.u64.wrap ((IntKind.u64.wrap (s.seed * 6364136223846793005)) + (at_ s.code s.atx.toNat))) + 1442695040888963407))).code = s.code) ∧ (s.atx + 1 ≤ (l00Src.mk s.code (s.atx + 1) (IntKind.u64.wrap ((IntKind.u64.wrap ((IntKind.u64.wrap (s.seed * 6364136223846793005)) + (at_ s.code s.atx.toNat))) + 1442695040888963407))).atx ∧ (l00Src.mk s.code (s.atx + 1) (IntKind.u64.wrap ((IntKind.u64.wrap ((IntKind.u64.wrap (s.seed * 6364136223846793005)) + (at_ s.code s.atx.toNat))) + 1442695040888963407))).atx ≤ s.atx + 1) ∧ (True) from ⟨(by first | omega | rfl | assumption | (dsimp only; first | omega | rfl | assumption) | (simp only [*]; done) | exact ⟨hs.1, (by dsimp only; omega), hs1⟩), (by first | omega | rfl | assumption | (dsimp only; first | omega | rfl | assumption) | (simp only [*]; done) | exact ⟨hs.1, (by dsimp only; omega), hs1⟩), (by first | omega | rfl | assumption | (dsimp only; first | omega | rfl | assumption) | (simp only [*]; done) | exact ⟨hs.1, (by dsimp only; omega), hs1⟩), (by first | omega | rfl | assumption | (dsimp only; first | omega | rfl | assumption) | (simp only [*]; done) | exact ⟨hs.1, (by dsimp only; omega), hs1⟩), trivial⟩) (⟨.inl rfl, trivial⟩) (I (bitsI .and .u64 ((IntKind.u64.wrap ((IntKind.u64.wrap ((IntKind.u64.wrap (s.seed * 6364136223846793005)) + (at_ s.code s.atx.toNat))) + 1442695040888963407)) / 1099511627776) 255)) (by kernel_rfl) (.inl rfl) (fun _ => rfl) (fun _ => trivial)
    refine x_r [(9, .dec false)] [0, 3, 13] [7001] [.ref 7001 0, I 0, Bv false] [some (bxl00Src s)] [¬ (s.atx < (s.code.length : Int))] ⟨h1, trivial⟩ ?_
    refine xe_then ?_
    refine x_false rfl ?_
    refine x_skip ?_
    refine xe_then ?_
    refine xR [] [0, 3] [7001] [.ref 7001 0, I 0] [some (.box [slU8 false s.code, I (s.atx + 1), .val (.int .u64 s.seed)])] [inR .i64 (s.atx + 1)] ⟨(inR_i64 (by omega) (by omega)), trivial⟩ ?_
    refine xR [(5, .wrap), (8, .wrap), (9, .wrap)] [0, 3] [7001] [.ref 7001 0, I 0] [some (.box [slU8 false s.code, I (s.atx + 1), .val (.int .u64 (IntKind.u64.wrap ((IntKind.u64.wrap ((IntKind.u64.wrap (s.seed * 6364136223846793005)) + 0)) + 1442695040888963407)))])] [inR .u64 0] ⟨(inR_u64 (by omega) (by omega)), trivial⟩ ?_
    refine x_seq ?_
    refine x_seq ?_
    by_cases h3 : (s.atx + 1) ≤ (s.code.length : Int)
    ·refine x_r [(9, .dec true)] [0, 3, 53] [7001] [.ref 7001 0, I 0, Bv true] [some (.box [slU8 false s.code, I (s.atx + 1), .val (.int .u64 (IntKind.u64.wrap ((IntKind.u64.wrap ((IntKind.u64.wrap (s.seed * 6364136223846793005)) + 0)) + 1442695040888963407)))])] [(s.atx + 1) ≤ (s.code.length : Int)] ⟨h3, trivial⟩ ?_
     refine xe_then ?_
     refine x_true rfl ?_
     refine xR [] [2] [7001] [I 0] [some (.box [slU8 false s.code, I (s.atx + 1), .val (.int .u64 (IntKind.u64.wrap ((IntKind.u64.wrap ((IntKind.u64.wrap (s.seed * 6364136223846793005)) + 0)) + 1442695040888963407)))])] [] trivial ?_
     refine x_ret ?_
     refine xe_ret_then ?_
     refine xe_end (0, (l00Src.mk s.code (s.atx + 1) (IntKind.u64.wrap ((IntKind.u64.wrap ((IntKind.u64.wrap (s.seed * 6364136223846793005)) + 0)) + 1442695040888963407)))) (show (0 ≤ 0 ∧ 0 ≤ 255) ∧ (okSrc (l00Src.mk s.code (s.atx + 1) (IntKind.u64.wrap ((IntKind.u64.wrap ((IntKind.u64.wrap (s.seed * 6364136223846793005)) + 0)) + 1442695040888963407)))) ∧ ((l00Src.mk s.code (s.atx + 1) (IntKind.u64.wrap ((IntKind.u64.wrap ((IntKind.u64.wrap (s.seed * 6364136223846793005)) + 0)) + 1442695040888963407))).code = s.code) ∧ (s.atx + 1 ≤ (l00Src.mk s.code (s.atx + 1) (IntKind.u64.wrap ((IntKind.u64.wrap ((IntKind.u64.wrap (s.seed * 6364136223846793005)) + 0)) + 1442695040888963407))).atx ∧ (l00Src.mk s.code (s.atx + 1) (IntKind.u64.wrap ((IntKind.u64.wrap ((IntKind.u64.wrap (s.seed * 6364136223846793005)) + 0)) + 1442695040888963407))).atx ≤ s.atx + 1) ∧ (True) from ⟨(by first | omega | rfl | assumption | (dsimp only; first | omega | rfl | assumption) | (simp only [*]; done) | exact ⟨hs.1, (by dsimp only; omega), hs1⟩), (by first | omega | rfl | assumption | (dsimp only; first | omega | rfl | assumption) | (simp only [*]; done) | exact ⟨hs.1, (by dsimp only; omega), hs1⟩), (by first | omega | rfl | assumption | (dsimp only; first | omega | rfl | assumption) | (simp only [*]; done) | exact ⟨hs.1, (by dsimp only; omega), hs1⟩), (by first | omega | rfl | assumption | (dsimp only; first | omega | rfl | assumption) | (simp only [*]; done) | exact ⟨hs.1, (by dsimp only; omega), hs1⟩), trivial⟩) (⟨.inl rfl, trivial⟩) (I 0) (by kernel_rfl) (.inl rfl) (fun _ => rfl) (fun _ => trivial)
    refine x_r [(9, .dec false)] [0, 3, 53] [7001] [.ref 7001 0, I 0, Bv false] [some (.box [slU8 false s.code, I (s.atx + 1), .val (.int .u64 (IntKind.u64.wrap ((IntKind.u64.wrap ((IntKind.u64.wrap (s.seed * 6364136223846793005)) + 0)) + 1442695040888963407)))])] [¬ ((s.atx + 1) ≤ (s.code.length : Int))] ⟨h3, trivial⟩ ?_
    refine xe_then ?_
    refine x_false rfl ?_
    refine x_skip ?_
    refine xe_then ?_
    refine x_seq ?_
    have hb2 := and_255 ((IntKind.u64.wrap ((IntKind.u64.wrap ((IntKind.u64.wrap (s.seed * 6364136223846793005)) + 0)) + 1442695040888963407)) / 1099511627776)
    refine x_r [] [2] [7001] [I (bitsI .and .u64 ((IntKind.u64.wrap ((IntKind.u64.wrap ((IntKind.u64.wrap (s.seed * 6364136223846793005)) + 0)) + 1442695040888963407)) / 1099511627776) 255)] [some (.box [slU8 false s.code, I (s.atx + 1), .val (.int .u64 (IntKind.u64.wrap ((IntKind.u64.wrap ((IntKind.u64.wrap (s.seed * 6364136223846793005)) + 0)) + 1442695040888963407)))])] [(0 : Int) ≤ 40 ∧ (40 : Int) ≤ ((IntKind.bits .u64 : Nat) : Int), inR .i64 (bitsI .and .u64 ((IntKind.u64.wrap ((IntKind.u64.wrap ((IntKind.u64.wrap (s.seed * 6364136223846793005)) + 0)) + 1442695040888963407)) / 1099511627776) 255)] ⟨⟨(by decide), (by decide)⟩, (inR_i64 (by omega) (by omega)), trivial⟩ ?_
    refine xe_then ?_
    refine x_ret ?_
    refine xe_end ((bitsI .and .u64 ((IntKind.u64.wrap ((IntKind.u64.wrap ((IntKind.u64.wrap (s.seed * 6364136223846793005)) + 0)) + 1442695040888963407)) / 1099511627776) 255), (l00Src.mk s.code (s.atx + 1) (IntKind.u64.wrap ((IntKind.u64.wrap ((IntKind.u64.wrap (s.seed * 6364136223846793005)) + 0)) + 1442695040888963407)))) (show (0 ≤ (bitsI .and .u64 ((IntKind.u64.wrap ((IntKind.u64.wrap ((IntKind.u64.wrap (s.seed * 6364136223846793005)) + 0)) + 1442695040888963407)) / 1099511627776) 255) ∧ (bitsI .and .u64 ((IntKind.u64.wrap ((IntKind.u64.wrap ((IntKind.u64.wrap (s.seed * 6364136223846793005)) + 0)) + 1442695040888963407)) / 1099511627776) 255) ≤ 255) ∧ (okSrc (l00Src.mk s.code (s.atx + 1) (IntKind.u64.wrap ((IntKind.u64.wrap ((IntKind.u64.wrap (s.seed * 6364136223846793005)) + 0)) + 1442695040888963407)))) ∧ ((l00Src.mk s.code (s.atx + 1) (IntKind.u64.wrap ((IntKind.u64.wrap ((IntKind.u64.wrap (s.seed * 6364136223846793005)) + 0)) + 1442695040888963407))).code = s.code) ∧ (s.atx + 1 ≤ (l00Src.mk s.code (s.atx + 1) (IntKind.u64.wrap ((IntKind.u64.wrap ((IntKind.u64.wrap (s.seed * 6364136223846793005)) + 0)) + 1442695040888963407))).atx ∧ (l00Src.mk s.code (s.atx + 1) (IntKind.u64.wrap ((IntKind.u64.wrap ((IntKind.u64.wrap (s.seed * 6364136223846793005)) + 0)) + 1442695040888963407))).atx ≤ s.atx + 1) ∧ (True) from ⟨(by first | omega | rfl | assumption | (dsimp only; first | omega | rfl | assumption) | (simp only [*]; done) | exact ⟨hs.1, (by dsimp only; omega), hs1⟩), (by first | omega | rfl | assumption | (dsimp only; first | omega | rfl | assumption) | (simp only [*]; done) | exact ⟨hs.1, (by dsimp only; omega), hs1⟩), (by first | omega | rfl | assumption | (dsimp only; first | omega | rfl | assumption) | (simp only [*]; done) | exact ⟨hs.1, (by dsimp only; omega), hs1⟩), (by first | omega | rfl | assumption | (dsimp only; first | omega | rfl | assumption) | (simp only [*]; done) | exact ⟨hs.1, (by dsimp only; omega), hs1⟩), trivial⟩) (⟨.inl rfl, trivial⟩) (I (bitsI .and .u64 ((IntKind.u64.wrap ((IntKind.u64.wrap ((IntKind.u64.wrap (s.seed * 6364136223846793005)) + 0)) + 1442695040888963407)) / 1099511627776) 255)) (by kernel_rfl) (.inl rfl) (fun _ => rfl) (fun _ => trivial)
  obtain ⟨⟨v, s'⟩, ⟨hh0, hh1, hh2, hh3, _⟩, hc⟩ := hh
  exact ⟨v, s', hh0, hh1, hh2, hh3, hc⟩


-- spec.l00Src).pick
theorem pick_ok (s : l00Src) (n : Int) (hs : okSrc s) (ha : s.atx ≤ 3999999999999999990) : ∃ (v : Int) (s' : l00Src), (0 ≤ v ∧ (v < n ∨ v = 0)) ∧ (okSrc s') ∧ (s'.code = s.code) ∧ (s.atx + 0 ≤ s'.atx ∧ s'.atx ≤ s.atx + 2) ∧ CallOK Try.prog 22 [.ref 7001 0, I n] (lookO [(7001, bxl00Src s)]) true (I v) (lookO [(7001, bxl00Src s')]) := by
  have hs0 := hs.2.1
  have hs1 := hs.2.2
  have hh : ∃ r : Int × l00Src, ((0 ≤ r.1 ∧ (r.1 < n ∨ r.1 = 0)) ∧ (okSrc r.2) ∧ (r.2.code = s.code) ∧ (s.atx + 0 ≤ r.2.atx ∧ r.2.atx ≤ s.atx + 2) ∧ (True)) ∧ CallOK Try.prog 22 [.ref 7001 0, I n] (lookO [(7001, bxl00Src s)]) true (I r.1) (lookO [(7001, bxl00Src r.2)]) := by
    refine fn_okX (Φ := fun r : Int × l00Src => (0 ≤ r.1 ∧ (r.1 < n ∨ r.1 = 0)) ∧ (okSrc r.2) ∧ (r.2.code = s.code) ∧ (s.atx + 0 ≤ r.2.atx ∧ r.2.atx ≤ s.atx + 2) ∧ (True)) [(7001, bxl00Src s)] (fun r => [(7001, bxl00Src r.2)]) (fn := Try.f22) (nt := 20) Try.func22 rfl rfl (args := [.ref 7001 0, I n]) rfl (allcons (.inr trivial) (allcons (.inl ⟨rfl, trivial⟩) allnil)) (res := fun r => I r.1) ?_
    refine xR [] [0, 1] [7001] [.ref 7001 0, I n] [some (bxl00Src s)] [] trivial ?_
    refine x_seq ?_
    refine x_seq ?_
    by_cases h1 : n ≤ 1
    ·refine x_r [(1, .dec true)] [0, 1, 7] [7001] [.ref 7001 0, I n, Bv true] [some (bxl00Src s)] [n ≤ 1] ⟨h1, trivial⟩ ?_
     refine xe_then ?_
     refine x_true rfl ?_
     refine xR [] [4] [7001] [I 0] [some (bxl00Src s)] [] trivial ?_
     refine x_ret ?_
     refine xe_ret_then ?_
     refine xe_end (0, s) (show (0 ≤ 0 ∧ (0 < n ∨ 0 = 0)) ∧ (okSrc s) ∧ (s.code = s.code) ∧ (s.atx + 0 ≤ s.atx ∧ s.atx ≤ s.atx + 2) ∧ (True) from ⟨(by first | omega | rfl | assumption | (dsimp only; first | omega | rfl | assumption) | (simp only [*]; done) | exact ⟨Int.emod_nonneg _ (by omega), .inl (Int.emod_lt_of_pos _ (by omega))⟩), (by first | omega | rfl | assumption | (dsimp only; first | omega | rfl | assumption) | (simp only [*]; done) | exact ⟨Int.emod_nonneg _ (by omega), .inl (Int.emod_lt_of_pos _ (by omega))⟩), (by first | omega | rfl | assumption | (dsimp only; first | omega | rfl | assumption) | (simp only [*]; done) | exact ⟨Int.emod_nonneg _ (by omega), .inl (Int.emod_lt_of_pos _ (by omega))⟩), (by first | omega | rfl | assumption | (dsimp only; first | omega | rfl | assumption) | (simp only [*]; done) | exact ⟨Int.emod_nonneg _ (by omega), .inl (Int.emod_lt_of_pos _ (by omega))⟩), trivial⟩) (⟨.inl rfl, trivial⟩) (I 0) (by kernel_rfl) (.inl rfl) (fun _ => rfl) (fun _ => trivial)
    refine x_r [(1, .dec false)] [0, 1, 7] [7001] [.ref 7001 0, I n, Bv false] [some (bxl00Src s)] [¬ (n ≤ 1)] ⟨h1, trivial⟩ ?_
    refine xe_then ?_
    refine x_false rfl ?_
    refine x_skip ?_
    refine xe_then ?_
    refine x_seq ?_
    obtain ⟨v_1, s'_1, hx1_0, hx1_1, hx1_2, hx1_3, hc1⟩ := next_ok s (by first | assumption | (simp only [okSrc] at *; simp_all; done)) (by omega)
    refine x_r [(1, .lend [(7001, bxl00Src s, bxl00Src s'_1)] [] [(true, .any)] true (I v_1))] [0, 1, 5] [7001] [.ref 7001 0, I n, I v_1] [some (bxl00Src s'_1)] [CallOK Try.prog 43 [.ref 7001 0] (lookO [(7001, bxl00Src s)]) true (I v_1) (lookO [(7001, bxl00Src s'_1)]) ∧ (((bxl00Src s : Ob) = bxl00Src s ∨ obLe noOb true (bxl00Src s) (bxl00Src s)) ∧ taggedO false (bxl00Src s)) ∧ True] ⟨⟨hc1, ⟨.inl rfl, (by simp [taggedO, taggedL, tagged, tagU8])⟩, trivial⟩, trivial⟩ ?_
    refine xe_then ?_
    refine x_seq ?_
    refine x_seq ?_
    by_cases h2 : 200 < n
    ·refine x_r [(1, .dec true)] [0, 1, 5, 11] [7001] [.ref 7001 0, I n, I v_1, Bv true] [some (bxl00Src s'_1)] [200 < n] ⟨h2, trivial⟩ ?_
     refine xe_then ?_
     refine x_true rfl ?_
     obtain ⟨v_2, s'_2, hx2_0, hx2_1, hx2_2, hx2_3, hc2⟩ := next_ok s'_1 (by first | assumption | (simp only [okSrc] at *; simp_all; done)) (by omega)
     refine x_r [(3, .lend [(7001, bxl00Src s'_1, bxl00Src s'_2)] [] [(true, .any)] true (I v_2))] [1, 5] [7001] [I n, I ((v_1 * 256) + v_2)] [some (bxl00Src s'_2)] [inR .i64 (v_1 * 256), CallOK Try.prog 43 [.ref 7001 0] (lookO [(7001, bxl00Src s'_1)]) true (I v_2) (lookO [(7001, bxl00Src s'_2)]) ∧ (((bxl00Src s'_1 : Ob) = bxl00Src s'_1 ∨ obLe noOb true (bxl00Src s'_1) (bxl00Src s'_1)) ∧ taggedO false (bxl00Src s'_1)) ∧ True, inR .i64 ((v_1 * 256) + v_2)] ⟨(inR_i64 (by omega) (by omega)), ⟨hc2, ⟨.inl rfl, (by simp [taggedO, taggedL, tagged, tagU8])⟩, trivial⟩, (inR_i64 (by omega) (by omega)), trivial⟩ ?_
     refine xe_then ?_
     refine xR [(2, .nn)] [4] [7001] [I (((v_1 * 256) + v_2) % n)] [some (bxl00Src s'_2)] [(0 : Int) ≤ ((v_1 * 256) + v_2) ∧ (0 : Int) < n] ⟨⟨(by omega), (by omega)⟩, trivial⟩ ?_
     refine x_ret ?_
     refine xe_end ((((v_1 * 256) + v_2) % n), s'_2) (show (0 ≤ (((v_1 * 256) + v_2) % n) ∧ ((((v_1 * 256) + v_2) % n) < n ∨ (((v_1 * 256) + v_2) % n) = 0)) ∧ (okSrc s'_2) ∧ (s'_2.code = s.code) ∧ (s.atx + 0 ≤ s'_2.atx ∧ s'_2.atx ≤ s.atx + 2) ∧ (True) from ⟨(by first | omega | rfl | assumption | (dsimp only; first | omega | rfl | assumption) | (simp only [*]; done) | exact ⟨Int.emod_nonneg _ (by omega), .inl (Int.emod_lt_of_pos _ (by omega))⟩), (by first | omega | rfl | assumption | (dsimp only; first | omega | rfl | assumption) | (simp only [*]; done) | exact ⟨Int.emod_nonneg _ (by omega), .inl (Int.emod_lt_of_pos _ (by omega))⟩), (by first | omega | rfl | assumption | (dsimp only; first | omega | rfl | assumption) | (simp only [*]; done) | exact ⟨Int.emod_nonneg _ (by omega), .inl (Int.emod_lt_of_pos _ (by omega))⟩), (by first | omega | rfl | assumption | (dsimp only; first | omega | rfl | assumption) | (simp only [*]; done) | exact ⟨Int.emod_nonneg _ (by omega), .inl (Int.emod_lt_of_pos _ (by omega))⟩), trivial⟩) (⟨.inl rfl, trivial⟩) (I (((v_1 * 256) + v_2) % n)) (by kernel_rfl) (.inl rfl) (fun _ => rfl) (fun _ => trivial)
    refine x_r [(1, .dec false)] [0, 1, 5, 11] [7001] [.ref 7001 0, I n, I v_1, Bv false] [some (bxl00Src s'_1)] [¬ (200 < n)] ⟨h2, trivial⟩ ?_
    refine xe_then ?_
    refine x_false rfl ?_
    refine x_skip ?_
    refine xe_then ?_
    refine xR [(2, .nn)] [4] [7001] [I (v_1 % n)] [some (bxl00Src s'_1)] [(0 : Int) ≤ v_1 ∧ (0 : Int) < n] ⟨⟨(by omega), (by omega)⟩, trivial⟩ ?_
    refine x_ret ?_
    refine xe_end ((v_1 % n), s'_1) (show (0 ≤ (v_1 % n) ∧ ((v_1 % n) < n ∨ (v_1 % n) = 0)) ∧ (okSrc s'_1) ∧ (s'_1.code = s.code) ∧ (s.atx + 0 ≤ s'_1.atx ∧ s'_1.atx ≤ s.atx + 2) ∧ (True) from ⟨(by first | omega | rfl | assumption | (dsimp only; first | omega | rfl | assumption) | (simp only [*]; done) | exact ⟨Int.emod_nonneg _ (by omega), .inl (Int.emod_lt_of_pos _ (by omega))⟩), (by first | omega | rfl | assumption | (dsimp only; first | omega | rfl | assumption) | (simp only [*]; done) | exact ⟨Int.emod_nonneg _ (by omega), .inl (Int.emod_lt_of_pos _ (by omega))⟩), (by first | omega | rfl | assumption | (dsimp only; first | omega | rfl | assumption) | (simp only [*]; done) | exact ⟨Int.emod_nonneg _ (by omega), .inl (Int.emod_lt_of_pos _ (by omega))⟩), (by first | omega | rfl | assumption | (dsimp only; first | omega | rfl | assumption) | (simp only [*]; done) | exact ⟨Int.emod_nonneg _ (by omega), .inl (Int.emod_lt_of_pos _ (by omega))⟩), trivial⟩) (⟨.inl rfl, trivial⟩) (I (v_1 % n)) (by kernel_rfl) (.inl rfl) (fun _ => rfl) (fun _ => trivial)
  obtain ⟨⟨v, s'⟩, ⟨hh0, hh1, hh2, hh3, _⟩, hc⟩ := hh
  exact ⟨v, s', hh0, hh1, hh2, hh3, hc⟩


-- spec.l00Min
theorem l00Min_ok (a : Int) (b : Int) : Con Try.prog 42 [I a, I b] true (I (min a b)) := by
  refine fn_ok (fn := Try.f42) (nt := 10) Try.func42 rfl rfl rfl rfl (by simp [taggedL, tagged]) fun B hB => ?_
  refine aR [] [0, 1] [] [I a, I b] [] [] hB trivial ?_
  refine aw_seq ?_
  refine aw_seq ?_
  by_cases h1 : a < b
  ·refine aw_r [(2, .dec true)] [0, 1, 7] [] [I a, I b, Bv true] [] [a < b] hB ⟨h1, trivial⟩ ?_
   refine ae_then ?_
   refine aw_true rfl ?_
   refine aR [] [4] [] [I a] [] [] hB trivial ?_
   refine aw_ret ?_
   refine ae_ret_then ?_
   refine ae_ret hB (I a) (by kernel_rfl) (.inl (by refine congrArg I ?_; omega)) rfl (fun _ => trivial)
  refine aw_r [(2, .dec false)] [0, 1, 7] [] [I a, I b, Bv false] [] [¬ (a < b)] hB ⟨h1, trivial⟩ ?_
  refine ae_then ?_
  refine aw_false rfl ?_
  refine aw_skip ?_
  refine ae_then ?_
  refine aR [] [4] [] [I b] [] [] hB trivial ?_
  refine aw_ret ?_
  refine ae_ret hB (I b) (by kernel_rfl) (.inl (by refine congrArg I ?_; omega)) rfl (fun _ => trivial)


-- spec.l00Max
theorem l00Max_ok (a : Int) (b : Int) : Con Try.prog 41 [I a, I b] true (I (max a b)) := by
  refine fn_ok (fn := Try.f41) (nt := 10) Try.func41 rfl rfl rfl rfl (by simp [taggedL, tagged]) fun B hB => ?_
  refine aR [] [0, 1] [] [I a, I b] [] [] hB trivial ?_
  refine aw_seq ?_
  refine aw_seq ?_
  by_cases h1 : b < a
  ·refine aw_r [(2, .dec true)] [0, 1, 7] [] [I a, I b, Bv true] [] [b < a] hB ⟨h1, trivial⟩ ?_
   refine ae_then ?_
   refine aw_true rfl ?_
   refine aR [] [4] [] [I a] [] [] hB trivial ?_
   refine aw_ret ?_
   refine ae_ret_then ?_
   refine ae_ret hB (I a) (by kernel_rfl) (.inl (by refine congrArg I ?_; omega)) rfl (fun _ => trivial)
  refine aw_r [(2, .dec false)] [0, 1, 7] [] [I a, I b, Bv false] [] [¬ (b < a)] hB ⟨h1, trivial⟩ ?_
  refine ae_then ?_
  refine aw_false rfl ?_
  refine aw_skip ?_
  refine ae_then ?_
  refine aR [] [4] [] [I b] [] [] hB trivial ?_
  refine aw_ret ?_
  refine ae_ret hB (I b) (by kernel_rfl) (.inl (by refine congrArg I ?_; omega)) rfl (fun _ => trivial)


def inB (a l h : Int) : Bool := decide (l ≤ a ∧ a ≤ h)
theorem inB_iff {a l h : Int} : inB a l h = true ↔ l ≤ a ∧ a ≤ h := by simp [inB]
theorem bAt_bd (s : ByteArray) (i : Nat) : 0 ≤ bAt s i ∧ bAt s i ≤ 255 := by
  unfold bAt
  have := (s.data.toList.getD i 0).toNat_lt
  omega

def okF (p : Feat) : Bool := inB p.X 0 255 && (inB p.Y 0 255 && inB p.D 0 7)
theorem okF_iff {p : Feat} : okF p = true ↔ (0 ≤ p.X ∧ p.X ≤ 255) ∧ (0 ≤ p.Y ∧ p.Y ≤ 255) ∧ (0 ≤ p.D ∧ p.D ≤ 7) := by simp [okF, inB, and_assoc]
/-- Whether all are features, and they are 1 to m. -/
def okFeats (xs : List Feat) (m : Int) : Bool := decide (1 ≤ (xs.length : Int) ∧ (xs.length : Int) ≤ m) && allN xs.length (fun j => okF (at_ xs j))
theorem okFeats_n {xs : List Feat} {m : Int} (h : okFeats xs m = true) : 1 ≤ xs.length ∧ (xs.length : Int) ≤ m := by
  simp only [okFeats, Bool.and_eq_true, decide_eq_true_eq] at h; omega
theorem okFeats_at {xs : List Feat} {m : Int} (h : okFeats xs m = true) {j : Nat} (hj : j < xs.length) : okF (at_ xs j) = true := by
  simp only [okFeats, Bool.and_eq_true] at h
  exact allN_get h.2 hj

theorem okFeats_mk {xs : List Feat} {m : Int} (h1 : 1 ≤ xs.length) (h2 : (xs.length : Int) ≤ m) (h : ∀ z ∈ xs, okF z = true) : okFeats xs m = true := by
  simp only [okFeats, Bool.and_eq_true, decide_eq_true_eq]
  exact ⟨by omega, allN_at fun j hj => h _ (at_mem hj)⟩

-- spec.l09Draw
theorem l09Draw_ok (s : l00Src) (most : Int) (hs : okSrc s) (ha : s.atx ≤ 3999999999999999000) (hmo : 1 ≤ most ∧ most ≤ 60) : ∃ (v : List Feat) (s' : l00Src), (okSrc s') ∧ (s'.code = s.code) ∧ (s.atx + 0 ≤ s'.atx ∧ s'.atx ≤ s.atx + 400) ∧ (okFeats v 72 = true) ∧ ((v.length : Int) ≤ most) ∧ CallOK Try.prog 21 [.ref 7001 0, I most] (lookO [(7001, bxl00Src s)]) true (slFeat true v) (lookO [(7001, bxl00Src s')]) := by
  have hh : ∃ r : (List Feat) × l00Src, ((okSrc r.2) ∧ (r.2.code = s.code) ∧ (s.atx + 0 ≤ r.2.atx ∧ r.2.atx ≤ s.atx + 400) ∧ (okFeats r.1 72 = true) ∧ ((r.1.length : Int) ≤ most) ∧ (True)) ∧ CallOK Try.prog 21 [.ref 7001 0, I most] (lookO [(7001, bxl00Src s)]) true (slFeat true r.1) (lookO [(7001, bxl00Src r.2)]) := by
    refine fn_okX (Φ := fun r : (List Feat) × l00Src => (okSrc r.2) ∧ (r.2.code = s.code) ∧ (s.atx + 0 ≤ r.2.atx ∧ r.2.atx ≤ s.atx + 400) ∧ (okFeats r.1 72 = true) ∧ ((r.1.length : Int) ≤ most) ∧ (True)) [(7001, bxl00Src s)] (fun r => [(7001, bxl00Src r.2)]) (fn := Try.f21) (nt := 45) Try.func21 rfl rfl (args := [.ref 7001 0, I most]) rfl (allcons (.inr trivial) (allcons (.inl ⟨rfl, trivial⟩) allnil)) (res := fun r => slFeat true r.1) ?_
    refine xR [] [0, 1] [7001] [.ref 7001 0, I most] [some (bxl00Src s)] [] trivial ?_
    refine xR [(0, .new 9)] [0, 1, 5] [9, 7001] [.ref 7001 0, I most, .arr 9] [some (.arr 3 0 (litF [] 3)), some (bxl00Src s)] [] trivial ?_
    refine x_seq ?_
    obtain ⟨v_1, s'_1, hx1_0, hx1_1, hx1_2, hx1_3, hc1⟩ := pick_ok s 256 (by first | assumption | (simp only [okSrc] at *; simp_all; done)) (by omega)
    refine x_r [(1, .lend [(7001, bxl00Src s, bxl00Src s'_1)] [] [(true, .any), (true, .any)] true (I v_1))] [0, 1, 5, 6] [9, 7001] [.ref 7001 0, I most, .arr 9, I v_1] [some (.arr 3 0 (litF [] 3)), some (bxl00Src s'_1)] [CallOK Try.prog 22 [.ref 7001 0, I 256] (lookO [(7001, bxl00Src s)]) true (I v_1) (lookO [(7001, bxl00Src s'_1)]) ∧ (((bxl00Src s : Ob) = bxl00Src s ∨ obLe noOb true (bxl00Src s) (bxl00Src s)) ∧ taggedO false (bxl00Src s)) ∧ True] ⟨⟨hc1, ⟨.inl rfl, (by simp [taggedO, taggedL, tagged, tagU8])⟩, trivial⟩, trivial⟩ ?_
    refine xe_then ?_
    refine x_seq ?_
    obtain ⟨v_2, s'_2, hx2_0, hx2_1, hx2_2, hx2_3, hc2⟩ := pick_ok s'_1 256 (by first | assumption | (simp only [okSrc] at *; simp_all; done)) (by omega)
    refine x_r [(1, .lend [(7001, bxl00Src s'_1, bxl00Src s'_2)] [] [(true, .any), (true, .any)] true (I v_2))] [0, 1, 5, 6, 7] [9, 7001] [.ref 7001 0, I most, .arr 9, I v_1, I v_2] [some (.arr 3 0 (litF [] 3)), some (bxl00Src s'_2)] [CallOK Try.prog 22 [.ref 7001 0, I 256] (lookO [(7001, bxl00Src s'_1)]) true (I v_2) (lookO [(7001, bxl00Src s'_2)]) ∧ (((bxl00Src s'_1 : Ob) = bxl00Src s'_1 ∨ obLe noOb true (bxl00Src s'_1) (bxl00Src s'_1)) ∧ taggedO false (bxl00Src s'_1)) ∧ True] ⟨⟨hc2, ⟨.inl rfl, (by simp [taggedO, taggedL, tagged, tagU8])⟩, trivial⟩, trivial⟩ ?_
    refine xe_then ?_
    refine x_seq ?_
    refine x_seq ?_
    obtain ⟨v_3, s'_3, hx3_0, hx3_1, hx3_2, hx3_3, hc3⟩ := pick_ok s'_2 most (by first | assumption | (simp only [okSrc] at *; simp_all; done)) (by omega)
    refine x_r [(2, .lend [(7001, bxl00Src s'_2, bxl00Src s'_3)] [] [(true, .any), (true, .any)] true (I v_3))] [0, 5, 6, 7, 8] [9, 7001] [.ref 7001 0, .arr 9, I v_1, I v_2, I (1 + v_3)] [some (.arr 3 0 (litF [] 3)), some (bxl00Src s'_3)] [CallOK Try.prog 22 [.ref 7001 0, I most] (lookO [(7001, bxl00Src s'_2)]) true (I v_3) (lookO [(7001, bxl00Src s'_3)]) ∧ (((bxl00Src s'_2 : Ob) = bxl00Src s'_2 ∨ obLe noOb true (bxl00Src s'_2) (bxl00Src s'_2)) ∧ taggedO false (bxl00Src s'_2)) ∧ True, inR .i64 (1 + v_3)] ⟨⟨hc3, ⟨.inl rfl, (by simp [taggedO, taggedL, tagged, tagU8])⟩, trivial⟩, (inR_i64 (by omega) (by omega)), trivial⟩ ?_
    refine xe_then ?_
    refine x_block ?_
    refine x_weak [] (T := [(0, .ref 7001 0), (5, .arr 9), (6, I v_1), (7, I v_2), (8, I (1 + v_3))]) (O := [(9, .arr 3 (([] : List Feat).length) (fFeat ([] : List Feat))), (7001, bxl00Src s'_3)]) rfl (⟨.inl rfl, .inl rfl, .inl rfl, .inl rfl, .inl rfl, trivial⟩) (⟨.inr ⟨rfl, (by first | rfl | (simp; done) | (simp; omega) | omega), fun i_ hi_ => absurd hi_ (Nat.not_lt_zero _)⟩, .inl rfl, trivial⟩) ?_
    refine x_loop (X := (List Feat) × Int × Int × Int × l00Src) (fun x => mkS [(0, .ref 7001 0), (5, .arr 9), (6, I x.2.1), (7, I x.2.2.1), (8, I x.2.2.2.1)] [(9, .arr 3 x.1.length (fFeat x.1)), (7001, bxl00Src x.2.2.2.2)]) (fun x => (okSrc x.2.2.2.2 ∧ x.2.2.2.2.code = s.code ∧ s.atx ≤ x.2.2.2.2.atx ∧ x.2.2.2.2.atx ≤ s.atx + 6 + 6 * (most - x.2.2.2.1)) ∧ (0 ≤ x.2.2.2.1 ∧ x.2.2.2.1 ≤ most) ∧ ((x.1.length : Int) + x.2.2.2.1 ≤ most) ∧ (1 ≤ (x.1.length : Int) + x.2.2.2.1) ∧ (∀ z ∈ x.1, okF z = true) ∧ ((0 ≤ x.2.1 ∧ x.2.1 ≤ 255) ∧ 0 ≤ x.2.2.1 ∧ x.2.2.1 ≤ 255) ∧ True) (fun x => x.2.2.2.1.toNat) (([] : List Feat), v_1, v_2, (1 + v_3), s'_3) rfl (show (okSrc s'_3 ∧ s'_3.code = s.code ∧ s.atx ≤ s'_3.atx ∧ s'_3.atx ≤ s.atx + 6 + 6 * (most - (1 + v_3))) ∧ (0 ≤ (1 + v_3) ∧ (1 + v_3) ≤ most) ∧ ((([] : List Feat).length : Int) + (1 + v_3) ≤ most) ∧ (1 ≤ (([] : List Feat).length : Int) + (1 + v_3)) ∧ (∀ z ∈ ([] : List Feat), okF z = true) ∧ ((0 ≤ v_1 ∧ v_1 ≤ 255) ∧ 0 ≤ v_2 ∧ v_2 ≤ 255) ∧ True from ⟨(by exact ⟨by assumption, by first | assumption | rfl | (simp only [*]; done), by omega, by omega⟩), (by omega), (by simp; omega), (by simp; omega), (by simp), (by omega), trivial⟩) (fun x hI => ?_)
    obtain ⟨out, x, y, k, src⟩ := x
    obtain ⟨hs0, hk0, hl0, hl1, hz0, hxy, _⟩ : (okSrc src ∧ src.code = s.code ∧ s.atx ≤ src.atx ∧ src.atx ≤ s.atx + 6 + 6 * (most - k)) ∧ (0 ≤ k ∧ k ≤ most) ∧ ((out.length : Int) + k ≤ most) ∧ (1 ≤ (out.length : Int) + k) ∧ (∀ z ∈ out, okF z = true) ∧ ((0 ≤ x ∧ x ≤ 255) ∧ 0 ≤ y ∧ y ≤ 255) ∧ True := hI
    show XW _ _ _ _ (mkS [(0, .ref 7001 0), (5, .arr 9), (6, I x), (7, I y), (8, I k)] [(9, .arr 3 out.length (fFeat out)), (7001, bxl00Src src)]) _ _
    refine x_seq ?_
    refine x_seq ?_
    by_cases h1 : 0 < k
    ·refine x_r [(1, .dec true)] [0, 5, 6, 7, 8, 19] [9, 7001] [.ref 7001 0, .arr 9, I x, I y, I k, Bv true] [some (.arr 3 out.length (fFeat out)), some (bxl00Src src)] [0 < k] ⟨h1, trivial⟩ ?_
     refine xe_then ?_
     refine x_true rfl ?_
     refine x_skip ?_
     refine xe_then ?_
     refine x_seq ?_
     refine x_block ?_
     refine x_seq ?_
     obtain ⟨v_4, s'_4, hx4_0, hx4_1, hx4_2, hx4_3, hc4⟩ := pick_ok src 8 (by first | assumption | (simp only [okSrc] at *; simp_all; done)) (by omega)
     refine x_r [(4, .lend [(7001, bxl00Src src, bxl00Src s'_4)] [] [(true, .any), (true, .any)] true (I v_4)), (6, .new 28), (7, .new 29)] [0, 5, 6, 7, 8] [29, 7001] [.ref 7001 0, .arr 29, I x, I y, I k] [some (.arr 3 (out.length + 1) (catF out.length (fFeat out) (litF [I x, I y, I v_4] 3))), some (bxl00Src s'_4)] [CallOK Try.prog 22 [.ref 7001 0, I 8] (lookO [(7001, bxl00Src src)]) true (I v_4) (lookO [(7001, bxl00Src s'_4)]) ∧ (((bxl00Src src : Ob) = bxl00Src src ∨ obLe noOb true (bxl00Src src) (bxl00Src src)) ∧ taggedO false (bxl00Src src)) ∧ True, (out.length + 1) * 24 ≤ 140737488355328] ⟨⟨hc4, ⟨.inl rfl, (by simp [taggedO, taggedL, tagged, tagU8])⟩, trivial⟩, (by omega), trivial⟩ ?_
     refine xe_then ?_
     refine x_seq ?_
     obtain ⟨v_5, s'_5, hx5_0, hx5_1, hx5_2, hx5_3, hc5⟩ := pick_ok s'_4 61 (by first | assumption | (simp only [okSrc] at *; simp_all; done)) (by omega)
     refine x_r [(2, .lend [(7001, bxl00Src s'_4, bxl00Src s'_5)] [] [(true, .any), (true, .any)] true (I v_5)), (5, .call [(true, .any), (true, .any)] true (I (min 255 ((x + v_5) - 30)))), (6, .call [(true, .any), (true, .any)] true (I (max 0 (min 255 ((x + v_5) - 30)))))] [0, 5, 6, 7, 8] [29, 7001] [.ref 7001 0, .arr 29, I (max 0 (min 255 ((x + v_5) - 30))), I y, I k] [some (.arr 3 (out.length + 1) (catF out.length (fFeat out) (litF [I x, I y, I v_4] 3))), some (bxl00Src s'_5)] [CallOK Try.prog 22 [.ref 7001 0, I 61] (lookO [(7001, bxl00Src s'_4)]) true (I v_5) (lookO [(7001, bxl00Src s'_5)]) ∧ (((bxl00Src s'_4 : Ob) = bxl00Src s'_4 ∨ obLe noOb true (bxl00Src s'_4) (bxl00Src s'_4)) ∧ taggedO false (bxl00Src s'_4)) ∧ True, inR .i64 (x + v_5), inR .i64 ((x + v_5) - 30), Con Try.prog 42 [I 255, I ((x + v_5) - 30)] true (I (min 255 ((x + v_5) - 30))) ∧ True, Con Try.prog 41 [I 0, I (min 255 ((x + v_5) - 30))] true (I (max 0 (min 255 ((x + v_5) - 30)))) ∧ True] ⟨⟨hc5, ⟨.inl rfl, (by simp [taggedO, taggedL, tagged, tagU8])⟩, trivial⟩, (inR_i64 (by omega) (by omega)), (inR_i64 (by omega) (by omega)), ⟨(l00Min_ok 255 ((x + v_5) - 30)), trivial⟩, ⟨(l00Max_ok 0 (min 255 ((x + v_5) - 30))), trivial⟩, trivial⟩ ?_
     refine xe_then ?_
     obtain ⟨v_6, s'_6, hx6_0, hx6_1, hx6_2, hx6_3, hc6⟩ := pick_ok s'_5 61 (by first | assumption | (simp only [okSrc] at *; simp_all; done)) (by omega)
     refine x_r [(2, .lend [(7001, bxl00Src s'_5, bxl00Src s'_6)] [] [(true, .any), (true, .any)] true (I v_6)), (5, .call [(true, .any), (true, .any)] true (I (min 255 ((y + v_6) - 30)))), (6, .call [(true, .any), (true, .any)] true (I (max 0 (min 255 ((y + v_6) - 30)))))] [0, 5, 6, 7, 8] [29, 7001] [.ref 7001 0, .arr 29, I (max 0 (min 255 ((x + v_5) - 30))), I (max 0 (min 255 ((y + v_6) - 30))), I k] [some (.arr 3 (out.length + 1) (catF out.length (fFeat out) (litF [I x, I y, I v_4] 3))), some (bxl00Src s'_6)] [CallOK Try.prog 22 [.ref 7001 0, I 61] (lookO [(7001, bxl00Src s'_5)]) true (I v_6) (lookO [(7001, bxl00Src s'_6)]) ∧ (((bxl00Src s'_5 : Ob) = bxl00Src s'_5 ∨ obLe noOb true (bxl00Src s'_5) (bxl00Src s'_5)) ∧ taggedO false (bxl00Src s'_5)) ∧ True, inR .i64 (y + v_6), inR .i64 ((y + v_6) - 30), Con Try.prog 42 [I 255, I ((y + v_6) - 30)] true (I (min 255 ((y + v_6) - 30))) ∧ True, Con Try.prog 41 [I 0, I (min 255 ((y + v_6) - 30))] true (I (max 0 (min 255 ((y + v_6) - 30)))) ∧ True] ⟨⟨hc6, ⟨.inl rfl, (by simp [taggedO, taggedL, tagged, tagU8])⟩, trivial⟩, (inR_i64 (by omega) (by omega)), (inR_i64 (by omega) (by omega)), ⟨(l00Min_ok 255 ((y + v_6) - 30)), trivial⟩, ⟨(l00Max_ok 0 (min 255 ((y + v_6) - 30))), trivial⟩, trivial⟩ ?_
     refine xe_block 1 ?_
     refine xe_then ?_
     refine x_r [] [0, 5, 6, 7, 8] [29, 7001] [.ref 7001 0, .arr 29, I (max 0 (min 255 ((x + v_5) - 30))), I (max 0 (min 255 ((y + v_6) - 30))), I (k - 1)] [some (.arr 3 (out.length + 1) (catF out.length (fFeat out) (litF [I x, I y, I v_4] 3))), some (bxl00Src s'_6)] [inR .i64 (k - 1)] ⟨(inR_i64 (by omega) (by omega)), trivial⟩ ?_
     refine xe_weak [(9, 29)] (T := [(0, .ref 7001 0), (5, .arr 9), (6, I (max 0 (min 255 ((x + v_5) - 30)))), (7, I (max 0 (min 255 ((y + v_6) - 30)))), (8, I (k - 1))]) (O := [(9, .arr 3 ((out ++ [(Feat.mk x y v_4)]).length) (fFeat (out ++ [(Feat.mk x y v_4)]))), (7001, bxl00Src s'_6)]) rfl (⟨.inl rfl, .inl rfl, .inl rfl, .inl rfl, .inl rfl, trivial⟩) (⟨.inr ⟨rfl, (by first | rfl | (simp; done) | (simp; omega) | omega), fun i_ hi_ => .inl (cat_snoc (enc := cFeat) (xs := out) rfl i_ hi_)⟩, .inl rfl, trivial⟩) (xe_again ((out ++ [(Feat.mk x y v_4)]), (max 0 (min 255 ((x + v_5) - 30))), (max 0 (min 255 ((y + v_6) - 30))), (k - 1), s'_6) rfl (show (okSrc s'_6 ∧ s'_6.code = s.code ∧ s.atx ≤ s'_6.atx ∧ s'_6.atx ≤ s.atx + 6 + 6 * (most - (k - 1))) ∧ (0 ≤ (k - 1) ∧ (k - 1) ≤ most) ∧ (((out ++ [(Feat.mk x y v_4)]).length : Int) + (k - 1) ≤ most) ∧ (1 ≤ ((out ++ [(Feat.mk x y v_4)]).length : Int) + (k - 1)) ∧ (∀ z ∈ (out ++ [(Feat.mk x y v_4)]), okF z = true) ∧ ((0 ≤ (max 0 (min 255 ((x + v_5) - 30))) ∧ (max 0 (min 255 ((x + v_5) - 30))) ≤ 255) ∧ 0 ≤ (max 0 (min 255 ((y + v_6) - 30))) ∧ (max 0 (min 255 ((y + v_6) - 30))) ≤ 255) ∧ True from ⟨(by exact ⟨by assumption, by first | assumption | rfl | (simp only [*]; done), by omega, by omega⟩), (by omega), (by simp; omega), (by simp; omega), (by intro z hz; rcases List.mem_append.1 hz with hz | hz; (exact hz0 z hz); (simp only [List.mem_singleton] at hz; subst hz; exact okF_iff.2 ⟨by dsimp only; omega, by dsimp only; omega, by dsimp only; omega⟩)), (by omega), trivial⟩) (by first | (show ((k - 1).toNat : Nat) < k.toNat; omega) | (dsimp only; omega)))
    refine x_r [(1, .dec false)] [0, 5, 6, 7, 8, 19] [9, 7001] [.ref 7001 0, .arr 9, I x, I y, I k, Bv false] [some (.arr 3 out.length (fFeat out)), some (bxl00Src src)] [¬ (0 < k)] ⟨h1, trivial⟩ ?_
    refine xe_then ?_
    refine x_false rfl ?_
    refine x_exit ?_
    refine xe_exit_then ?_
    refine xe_loop_exit ?_
    refine xe_exit_same ?_
    refine xe_then ?_
    refine xR [] [4] [9, 7001] [.arr 9] [some (.arr 3 out.length (fFeat out)), some (bxl00Src src)] [] trivial ?_
    refine x_ret ?_
    refine xe_end (out, src) (show (okSrc src) ∧ (src.code = s.code) ∧ (s.atx + 0 ≤ src.atx ∧ src.atx ≤ s.atx + 400) ∧ (okFeats out 72 = true) ∧ ((out.length : Int) ≤ most) ∧ (True) from ⟨(by first | omega | (simp_all; done) | exact hs0.1 | exact hs0.2.1 | exact okFeats_mk (by omega) (by omega) hz0), (by first | omega | (simp_all; done) | exact hs0.1 | exact hs0.2.1 | exact okFeats_mk (by omega) (by omega) hz0), (by first | omega | (simp_all; done) | exact hs0.1 | exact hs0.2.1 | exact okFeats_mk (by omega) (by omega) hz0), (by first | omega | (simp_all; done) | exact hs0.1 | exact hs0.2.1 | exact okFeats_mk (by omega) (by omega) hz0), (by first | omega | (simp_all; done) | exact hs0.1 | exact hs0.2.1 | exact okFeats_mk (by omega) (by omega) hz0), trivial⟩) (⟨.inl rfl, trivial⟩) (.arr 9) (by kernel_rfl) (.inr ⟨(fun _ => rfl), rfl, rfl, fun i _ => .inl rfl⟩) (fun _ => rfl) (fun _ => (tagFeat true _))
  obtain ⟨⟨v, s'⟩, ⟨hh0, hh1, hh2, hh3, hh4, _⟩, hc⟩ := hh
  exact ⟨v, s', hh0, hh1, hh2, hh3, hh4, hc⟩


-- spec.l00Src).one
theorem one_ok (s : l00Src) (n : Int) (hs : okSrc s) (ha : s.atx ≤ 3999999999999999980) : ∃ (v : Bool) (s' : l00Src), (okSrc s') ∧ (s'.code = s.code) ∧ (s.atx + 0 ≤ s'.atx ∧ s'.atx ≤ s.atx + 2) ∧ CallOK Try.prog 23 [.ref 7001 0, I n] (lookO [(7001, bxl00Src s)]) true (Bv v) (lookO [(7001, bxl00Src s')]) := by
  have hh : ∃ r : Bool × l00Src, ((okSrc r.2) ∧ (r.2.code = s.code) ∧ (s.atx + 0 ≤ r.2.atx ∧ r.2.atx ≤ s.atx + 2) ∧ (True)) ∧ CallOK Try.prog 23 [.ref 7001 0, I n] (lookO [(7001, bxl00Src s)]) true (Bv r.1) (lookO [(7001, bxl00Src r.2)]) := by
    refine fn_okX (Φ := fun r : Bool × l00Src => (okSrc r.2) ∧ (r.2.code = s.code) ∧ (s.atx + 0 ≤ r.2.atx ∧ r.2.atx ≤ s.atx + 2) ∧ (True)) [(7001, bxl00Src s)] (fun r => [(7001, bxl00Src r.2)]) (fn := Try.f23) (nt := 9) Try.func23 rfl rfl (args := [.ref 7001 0, I n]) rfl (allcons (.inr trivial) (allcons (.inl ⟨rfl, trivial⟩) allnil)) (res := fun r => Bv r.1) ?_
    refine xR [] [0, 1] [7001] [.ref 7001 0, I n] [some (bxl00Src s)] [] trivial ?_
    refine x_seq ?_
    obtain ⟨v_1, s'_1, hx1_0, hx1_1, hx1_2, hx1_3, hc1⟩ := pick_ok s n (by first | assumption | (simp only [okSrc] at *; simp_all; done)) (by omega)
    refine x_r [(2, .lend [(7001, bxl00Src s, bxl00Src s'_1)] [] [(true, .any), (true, .any)] true (I v_1))] [4] [7001] [Bv (decide (v_1 = 0))] [some (bxl00Src s'_1)] [CallOK Try.prog 22 [.ref 7001 0, I n] (lookO [(7001, bxl00Src s)]) true (I v_1) (lookO [(7001, bxl00Src s'_1)]) ∧ (((bxl00Src s : Ob) = bxl00Src s ∨ obLe noOb true (bxl00Src s) (bxl00Src s)) ∧ taggedO false (bxl00Src s)) ∧ True] ⟨⟨hc1, ⟨.inl rfl, (by simp [taggedO, taggedL, tagged, tagU8])⟩, trivial⟩, trivial⟩ ?_
    refine xe_then ?_
    refine x_ret ?_
    refine xe_end (decide (v_1 = 0), s'_1) (show (okSrc s'_1) ∧ (s'_1.code = s.code) ∧ (s.atx + 0 ≤ s'_1.atx ∧ s'_1.atx ≤ s.atx + 2) ∧ (True) from ⟨(by first | omega | rfl | assumption | (dsimp only; first | omega | rfl | assumption) | (simp only [*]; done) | (simp_all; done)), (by first | omega | rfl | assumption | (dsimp only; first | omega | rfl | assumption) | (simp only [*]; done) | (simp_all; done)), (by first | omega | rfl | assumption | (dsimp only; first | omega | rfl | assumption) | (simp only [*]; done) | (simp_all; done)), trivial⟩) (⟨.inl rfl, trivial⟩) (Bv (decide (v_1 = 0))) (by kernel_rfl) (.inl rfl) (fun _ => rfl) (fun _ => trivial)
  obtain ⟨⟨v, s'⟩, ⟨hh0, hh1, hh2, _⟩, hc⟩ := hh
  exact ⟨v, s', hh0, hh1, hh2, hc⟩


theorem at_set_same {α : Type} [Inhabited α] {xs : List α} {i : Nat} {x : α} (h : i < xs.length) : at_ (xs.set i x) i = x := by simp [at_, h]
theorem at_set_oth {α : Type} [Inhabited α] {xs : List α} {i j : Nat} {x : α} (h : i ≠ j) : at_ (xs.set j x) i = at_ xs i := by
  have h' : ¬ j = i := fun e => h e.symm
  simp [at_, List.getElem?_set, h']

theorem okFeats_set {xs : List Feat} {k : Nat} {y : Feat} (h : okFeats xs 72 = true) (hy : okF y = true) : okFeats (xs.set k y) 72 = true := by
  simp only [okFeats, Bool.and_eq_true, decide_eq_true_eq, List.length_set] at h ⊢
  refine ⟨h.1, allN_at fun j hj => ?_⟩
  by_cases e : j = k
  · subst e; rw [at_set_same hj]; exact hy
  · have := allN_get h.2 hj
    have h' : ¬ k = j := fun q => e q.symm
    have e2 : at_ (xs.set k y) j = at_ xs j := by simp [at_, List.getElem?_set, h']
    rw [e2]; exact this

-- spec.A2Lists
theorem A2Lists_ok (code : List Int) (hc : (∀ j, j < code.length → 0 ≤ at_ code j ∧ at_ code j ≤ 255) ∧ code.length ≤ 4611686018427387904) : ∃ (a : List Feat) (lists : List (List Feat)) (band : Int), (okFeats a 72 = true) ∧ (lists.length ≤ 5 ∧ ∀ l ∈ lists, okFeats l 72 = true) ∧ (0 ≤ band ∧ band ≤ 8) ∧ Con Try.prog 6 [slU8 false code] true (.tup [slFeat true a, slLFeat true lists, I band]) := by
  have hh : ∃ r : (List Feat) × (List (List Feat)) × Int, ((okFeats r.1 72 = true) ∧ (r.2.1.length ≤ 5 ∧ ∀ l ∈ r.2.1, okFeats l 72 = true) ∧ (0 ≤ r.2.2 ∧ r.2.2 ≤ 8) ∧ (True)) ∧ CallOK Try.prog 6 [slU8 false code] (lookO []) true (.tup [slFeat true r.1, slLFeat true r.2.1, I r.2.2]) (lookO []) := by
    refine fn_okX (Φ := fun r : (List Feat) × (List (List Feat)) × Int => (okFeats r.1 72 = true) ∧ (r.2.1.length ≤ 5 ∧ ∀ l ∈ r.2.1, okFeats l 72 = true) ∧ (0 ≤ r.2.2 ∧ r.2.2 ≤ 8) ∧ (True)) [] (fun r => []) (fn := Try.f6) (nt := 41) Try.func6 rfl rfl (args := [slU8 false code]) rfl (allcons (.inl ⟨rfl, tagU8 false _⟩) allnil) (res := fun r => .tup [slFeat true r.1, slLFeat true r.2.1, I r.2.2]) ?_
    refine xR [] [0] [] [slU8 false code] [] [] trivial ?_
    refine x_seq ?_
    obtain ⟨s'_1, hx1_0, hc1⟩ := l00From_ok code
    have hsrc : okSrc s'_1 := ⟨by rw [hx1_0.1]; exact hc.1, by rw [hx1_0.2]; decide, by rw [hx1_0.1]; exact hc.2⟩
    have hat0 := hx1_0.2
    refine x_r [(1, .lend [] [(7001, bxl00Src s'_1)] [(true, .any)] false (.ref 7001 0))] [5] [7001] [.ref 7001 0] [some (bxl00Src s'_1)] [CallOK Try.prog 20 [slU8 false code] (lookO []) false (.ref 7001 0) (lookO [(7001, bxl00Src s'_1)]) ∧ True] ⟨⟨hc1, trivial⟩, trivial⟩ ?_
    refine xe_then ?_
    refine x_seq ?_
    obtain ⟨v_2, s'_2, hx2_0, hx2_1, hx2_2, hx2_3, hx2_4, hc2⟩ := l09Draw_ok s'_1 8 (by first | assumption | (simp only [okSrc] at *; simp_all; done)) (by omega) (by omega)
    have hofa : okFeats v_2 72 = true := hx2_3
    have hna := okFeats_n hofa
    have hf0 := okF_iff.1 (okFeats_at hofa (j := 0) (by omega))
    refine x_r [(1, .lend [(7001, bxl00Src s'_1, bxl00Src s'_2)] [] [(true, .any), (true, .any)] true (slFeat true v_2))] [5, 6] [7001] [.ref 7001 0, slFeat true v_2] [some (bxl00Src s'_2)] [CallOK Try.prog 21 [.ref 7001 0, I 8] (lookO [(7001, bxl00Src s'_1)]) true (slFeat true v_2) (lookO [(7001, bxl00Src s'_2)]) ∧ (((bxl00Src s'_1 : Ob) = bxl00Src s'_1 ∨ obLe noOb true (bxl00Src s'_1) (bxl00Src s'_1)) ∧ taggedO false (bxl00Src s'_1)) ∧ True] ⟨⟨hc2, ⟨.inl rfl, (by simp [taggedO, taggedL, tagged, tagU8])⟩, trivial⟩, trivial⟩ ?_
    refine xe_then ?_
    refine xR [(0, .new 14)] [5, 6, 7] [14, 7001] [.ref 7001 0, slFeat true v_2, .arr 14] [some (.arr 1 0 (litF [] 1)), some (bxl00Src s'_2)] [] trivial ?_
    refine x_seq ?_
    refine x_seq ?_
    obtain ⟨v_3, s'_3, hx3_0, hx3_1, hx3_2, hx3_3, hc3⟩ := pick_ok s'_2 6 (by first | assumption | (simp only [okSrc] at *; simp_all; done)) (by omega)
    refine x_r [(1, .lend [(7001, bxl00Src s'_2, bxl00Src s'_3)] [] [(true, .any), (true, .any)] true (I v_3))] [5, 6, 7, 8] [14, 7001] [.ref 7001 0, slFeat true v_2, .arr 14, I v_3] [some (.arr 1 0 (litF [] 1)), some (bxl00Src s'_3)] [CallOK Try.prog 22 [.ref 7001 0, I 6] (lookO [(7001, bxl00Src s'_2)]) true (I v_3) (lookO [(7001, bxl00Src s'_3)]) ∧ (((bxl00Src s'_2 : Ob) = bxl00Src s'_2 ∨ obLe noOb true (bxl00Src s'_2) (bxl00Src s'_2)) ∧ taggedO false (bxl00Src s'_2)) ∧ True] ⟨⟨hc3, ⟨.inl rfl, (by simp [taggedO, taggedL, tagged, tagU8])⟩, trivial⟩, trivial⟩ ?_
    refine xe_then ?_
    refine x_block ?_
    refine x_weak [] (T := [(5, .ref 7001 0), (6, slFeat true v_2), (7, .arr 14), (8, I v_3)]) (O := [(14, .arr 1 (([] : List (List Feat)).length) (fLFeat true ([] : List (List Feat)))), (7001, bxl00Src s'_3)]) rfl (⟨.inl rfl, .inl rfl, .inl rfl, .inl rfl, trivial⟩) (⟨.inr ⟨rfl, (by first | rfl | (simp; done) | (simp; omega) | omega), fun i_ hi_ => absurd hi_ (Nat.not_lt_zero _)⟩, .inl rfl, trivial⟩) ?_
    refine x_loop (X := (List (List Feat)) × Int × l00Src) (fun x => mkS [(5, .ref 7001 0), (6, slFeat true v_2), (7, .arr 14), (8, I x.2.1)] [(14, .arr 1 x.1.length (fLFeat true x.1)), (7001, bxl00Src x.2.2)]) (fun x => (okSrc x.2.2 ∧ x.2.2.atx ≤ 1000 + 600 * (5 - x.2.1)) ∧ (0 ≤ x.2.1 ∧ x.2.1 ≤ 5) ∧ ((x.1.length : Int) + x.2.1 ≤ 5) ∧ (∀ l ∈ x.1, okFeats l 72 = true) ∧ True) (fun x => x.2.1.toNat) (([] : List (List Feat)), v_3, s'_3) rfl (show (okSrc s'_3 ∧ s'_3.atx ≤ 1000 + 600 * (5 - v_3)) ∧ (0 ≤ v_3 ∧ v_3 ≤ 5) ∧ ((([] : List (List Feat)).length : Int) + v_3 ≤ 5) ∧ (∀ l ∈ ([] : List (List Feat)), okFeats l 72 = true) ∧ True from ⟨(by first | assumption | (constructor <;> first | assumption | omega)), (by omega), (by simp; omega), (by simp), trivial⟩) (fun x hI => ?_)
    obtain ⟨ls, k, src⟩ := x
    obtain ⟨hs0, hk0, hl0, hz0, _⟩ : (okSrc src ∧ src.atx ≤ 1000 + 600 * (5 - k)) ∧ (0 ≤ k ∧ k ≤ 5) ∧ ((ls.length : Int) + k ≤ 5) ∧ (∀ l ∈ ls, okFeats l 72 = true) ∧ True := hI
    show XW _ _ _ _ (mkS [(5, .ref 7001 0), (6, slFeat true v_2), (7, .arr 14), (8, I k)] [(14, .arr 1 ls.length (fLFeat true ls)), (7001, bxl00Src src)]) _ _
    refine x_seq ?_
    refine x_seq ?_
    by_cases h1 : 0 < k
    ·refine x_r [(1, .dec true)] [5, 6, 7, 8, 18] [14, 7001] [.ref 7001 0, slFeat true v_2, .arr 14, I k, Bv true] [some (.arr 1 ls.length (fLFeat true ls)), some (bxl00Src src)] [0 < k] ⟨h1, trivial⟩ ?_
     refine xe_then ?_
     refine x_true rfl ?_
     refine x_skip ?_
     refine xe_then ?_
     refine x_seq ?_
     refine x_block ?_
     refine x_seq ?_
     obtain ⟨v_4, s'_4, hx4_0, hx4_1, hx4_2, hx4_3, hx4_4, hc4⟩ := l09Draw_ok src 8 (by first | assumption | (simp only [okSrc] at *; simp_all; done)) (by omega) (by omega)
     have hof := hx4_3
     refine x_r [(1, .lend [(7001, bxl00Src src, bxl00Src s'_4)] [] [(true, .any), (true, .any)] true (slFeat true v_4))] [5, 6, 7, 8, 9] [14, 7001] [.ref 7001 0, slFeat true v_2, .arr 14, I k, slFeat true v_4] [some (.arr 1 ls.length (fLFeat true ls)), some (bxl00Src s'_4)] [CallOK Try.prog 21 [.ref 7001 0, I 8] (lookO [(7001, bxl00Src src)]) true (slFeat true v_4) (lookO [(7001, bxl00Src s'_4)]) ∧ (((bxl00Src src : Ob) = bxl00Src src ∨ obLe noOb true (bxl00Src src) (bxl00Src src)) ∧ taggedO false (bxl00Src src)) ∧ True] ⟨⟨hc4, ⟨.inl rfl, (by simp [taggedO, taggedL, tagged, tagU8])⟩, trivial⟩, trivial⟩ ?_
     refine xe_then ?_
     refine x_seq ?_
     refine x_seq ?_
     obtain ⟨v_5, s'_5, hx5_0, hx5_1, hx5_2, hc5⟩ := one_ok s'_4 2 (by first | assumption | (simp only [okSrc] at *; simp_all; done)) (by omega)
     rcases Bool.eq_false_or_eq_true v_5 with h2 | h2
     ·subst h2
      refine x_r [(1, .lend [(7001, bxl00Src s'_4, bxl00Src s'_5)] [] [(true, .any), (true, .any)] true (Bv true))] [5, 6, 7, 8, 9, 24] [14, 7001] [.ref 7001 0, slFeat true v_2, .arr 14, I k, slFeat true v_4, Bv true] [some (.arr 1 ls.length (fLFeat true ls)), some (bxl00Src s'_5)] [CallOK Try.prog 23 [.ref 7001 0, I 2] (lookO [(7001, bxl00Src s'_4)]) true (Bv true) (lookO [(7001, bxl00Src s'_5)]) ∧ (((bxl00Src s'_4 : Ob) = bxl00Src s'_4 ∨ obLe noOb true (bxl00Src s'_4) (bxl00Src s'_4)) ∧ taggedO false (bxl00Src s'_4)) ∧ True] ⟨⟨hc5, ⟨.inl rfl, (by simp [taggedO, taggedL, tagged, tagU8])⟩, trivial⟩, trivial⟩ ?_
      refine xe_then ?_
      refine x_true rfl ?_
      refine xR [(0, .new 25), (2, .new 27)] [5, 6, 7, 8, 9] [14, 27, 7001] [.ref 7001 0, slFeat true v_2, .arr 14, I k, .arr 27] [some (.arr 1 ls.length (fLFeat true ls)), some (.arr 3 (0 + v_2.length) (catF 0 (litF [] 3) (fFeat v_2))), some (bxl00Src s'_5)] [(0 + v_2.length) * 24 ≤ 140737488355328] ⟨(by omega), trivial⟩ ?_
      refine x_weak [] (T := [(5, .ref 7001 0), (6, slFeat true v_2), (7, .arr 14), (8, I k), (9, .arr 27)]) (O := [(14, .arr 1 ls.length (fLFeat true ls)), (27, .arr 3 v_2.length (fFeat v_2)), (7001, bxl00Src s'_5)]) rfl (⟨.inl rfl, .inl rfl, .inl rfl, .inl rfl, .inl rfl, trivial⟩) (⟨.inl rfl, .inr ⟨rfl, (by first | rfl | (simp; done) | (simp; omega) | omega), fun i_ hi_ => .inl (cat_nil i_)⟩, .inl rfl, trivial⟩) ?_
      obtain ⟨v_6, s'_6, hx6_0, hx6_1, hx6_2, hx6_3, hc6⟩ := pick_ok s'_5 256 (by first | assumption | (simp only [okSrc] at *; simp_all; done)) (by omega)
      refine x_r [(2, .lend [(7001, bxl00Src s'_5, bxl00Src s'_6)] [] [(true, .any), (true, .any)] true (I v_6))] [5, 6, 7, 8, 9] [14, 27, 7001] [.ref 7001 0, slFeat true v_2, .arr 14, I k, .arr 27] [some (.arr 1 ls.length (fLFeat true ls)), some (.arr 3 v_2.length (fun q => bif Nat.beq q 0 then [I ((at_ v_2 0).X), I v_6, I ((at_ v_2 0).D)] else (fFeat v_2) q)), some (bxl00Src s'_6)] [CallOK Try.prog 22 [.ref 7001 0, I 256] (lookO [(7001, bxl00Src s'_5)]) true (I v_6) (lookO [(7001, bxl00Src s'_6)]) ∧ (((bxl00Src s'_5 : Ob) = bxl00Src s'_5 ∨ obLe noOb true (bxl00Src s'_5) (bxl00Src s'_5)) ∧ taggedO false (bxl00Src s'_5)) ∧ True, (0 : Int) ≤ 0 ∧ 0 < (v_2.length : Int), 0 < v_2.length] ⟨⟨hc6, ⟨.inl rfl, (by simp [taggedO, taggedL, tagged, tagU8])⟩, trivial⟩, ⟨(by omega), (by omega)⟩, (by omega), trivial⟩ ?_
      refine xe_then ?_
      refine x_weak [] (T := [(5, .ref 7001 0), (6, slFeat true v_2), (7, .arr 14), (8, I k), (9, .arr 27)]) (O := [(14, .arr 1 ls.length (fLFeat true ls)), (27, .arr 3 ((v_2.set 0 (Feat.mk ((at_ v_2 0).X) v_6 ((at_ v_2 0).D))).length) (fFeat (v_2.set 0 (Feat.mk ((at_ v_2 0).X) v_6 ((at_ v_2 0).D))))), (7001, bxl00Src s'_6)]) rfl (⟨.inl rfl, .inl rfl, .inl rfl, .inl rfl, .inl rfl, trivial⟩) (⟨.inl rfl, .inr ⟨rfl, (by first | rfl | (simp; done) | (simp; omega) | omega), fun i_ hi_ => .inl (upd_enc (enc := cFeat) rfl i_ hi_)⟩, .inl rfl, trivial⟩) ?_
      refine x_weak [] (T := [(5, .ref 7001 0), (6, slFeat true v_2), (7, .arr 14), (8, I k), (9, slFeat true (v_2.set 0 (Feat.mk ((at_ v_2 0).X) v_6 ((at_ v_2 0).D))))]) (O := [(14, .arr 1 ls.length (fLFeat true ls)), (7001, bxl00Src s'_6)]) rfl (⟨.inl rfl, .inl rfl, .inl rfl, .inl rfl, .inr ⟨(fun _ => rfl), rfl, rfl, fun i _ => .inl rfl⟩, trivial⟩) (⟨.inl rfl, .inl rfl, trivial⟩) ?_
      refine x_r [(2, .new 35), (3, .new 36)] [5, 6, 7, 8] [36, 7001] [.ref 7001 0, slFeat true v_2, .arr 36, I k] [some (.arr 1 (ls.length + 1) (catF ls.length (fLFeat true ls) (litF [slFeat true (v_2.set 0 (Feat.mk ((at_ v_2 0).X) v_6 ((at_ v_2 0).D)))] 1))), some (bxl00Src s'_6)] [(ls.length + 1) * 24 ≤ 140737488355328] ⟨(by omega), trivial⟩ ?_
      refine xe_block 1 ?_
      refine xe_then ?_
      refine x_weak [] (T := [(5, .ref 7001 0), (6, slFeat true v_2), (7, .arr 36), (8, I k)]) (O := [(36, .arr 1 ((ls ++ [(v_2.set 0 (Feat.mk ((at_ v_2 0).X) v_6 ((at_ v_2 0).D)))]).length) (fLFeat true (ls ++ [(v_2.set 0 (Feat.mk ((at_ v_2 0).X) v_6 ((at_ v_2 0).D)))]))), (7001, bxl00Src s'_6)]) rfl (⟨.inl rfl, .inl rfl, .inl rfl, .inl rfl, trivial⟩) (⟨.inr ⟨rfl, (by first | rfl | (simp; done) | (simp; omega) | omega), fun i_ hi_ => .inl (cat_snoc (enc := (cLFeat true)) (xs := ls) rfl i_ hi_)⟩, .inl rfl, trivial⟩) ?_
      refine x_r [] [5, 6, 7, 8] [36, 7001] [.ref 7001 0, slFeat true v_2, .arr 36, I (k - 1)] [some (.arr 1 ((ls ++ [(v_2.set 0 (Feat.mk ((at_ v_2 0).X) v_6 ((at_ v_2 0).D)))]).length) (fLFeat true (ls ++ [(v_2.set 0 (Feat.mk ((at_ v_2 0).X) v_6 ((at_ v_2 0).D)))]))), some (bxl00Src s'_6)] [inR .i64 (k - 1)] ⟨(inR_i64 (by omega) (by omega)), trivial⟩ ?_
      refine xe_weak [(14, 36)] (T := [(5, .ref 7001 0), (6, slFeat true v_2), (7, .arr 14), (8, I (k - 1))]) (O := [(14, .arr 1 ((ls ++ [(v_2.set 0 (Feat.mk ((at_ v_2 0).X) v_6 ((at_ v_2 0).D)))]).length) (fLFeat true (ls ++ [(v_2.set 0 (Feat.mk ((at_ v_2 0).X) v_6 ((at_ v_2 0).D)))]))), (7001, bxl00Src s'_6)]) rfl (⟨.inl rfl, .inl rfl, .inl rfl, .inl rfl, trivial⟩) (⟨.inl rfl, .inl rfl, trivial⟩) (xe_again ((ls ++ [(v_2.set 0 (Feat.mk ((at_ v_2 0).X) v_6 ((at_ v_2 0).D)))]), (k - 1), s'_6) rfl (show (okSrc s'_6 ∧ s'_6.atx ≤ 1000 + 600 * (5 - (k - 1))) ∧ (0 ≤ (k - 1) ∧ (k - 1) ≤ 5) ∧ (((ls ++ [(v_2.set 0 (Feat.mk ((at_ v_2 0).X) v_6 ((at_ v_2 0).D)))]).length : Int) + (k - 1) ≤ 5) ∧ (∀ l ∈ (ls ++ [(v_2.set 0 (Feat.mk ((at_ v_2 0).X) v_6 ((at_ v_2 0).D)))]), okFeats l 72 = true) ∧ True from ⟨(by constructor <;> first | assumption | omega), (by omega), (by simp; omega), (by intro l hl; rcases List.mem_append.1 hl with hl | hl; (exact hz0 l hl); (simp only [List.mem_singleton] at hl; subst hl; first | assumption | exact okFeats_set hofa (okF_iff.2 ⟨by dsimp only; omega, by dsimp only; omega, by dsimp only; omega⟩))), trivial⟩) (by first | (show ((k - 1).toNat : Nat) < k.toNat; omega) | (dsimp only; omega)))
     subst h2
     refine x_r [(1, .lend [(7001, bxl00Src s'_4, bxl00Src s'_5)] [] [(true, .any), (true, .any)] true (Bv false))] [5, 6, 7, 8, 9, 24] [14, 7001] [.ref 7001 0, slFeat true v_2, .arr 14, I k, slFeat true v_4, Bv false] [some (.arr 1 ls.length (fLFeat true ls)), some (bxl00Src s'_5)] [CallOK Try.prog 23 [.ref 7001 0, I 2] (lookO [(7001, bxl00Src s'_4)]) true (Bv false) (lookO [(7001, bxl00Src s'_5)]) ∧ (((bxl00Src s'_4 : Ob) = bxl00Src s'_4 ∨ obLe noOb true (bxl00Src s'_4) (bxl00Src s'_4)) ∧ taggedO false (bxl00Src s'_4)) ∧ True] ⟨⟨hc5, ⟨.inl rfl, (by simp [taggedO, taggedL, tagged, tagU8])⟩, trivial⟩, trivial⟩ ?_
     refine xe_then ?_
     refine x_false rfl ?_
     refine x_skip ?_
     refine xe_then ?_
     refine x_r [(2, .new 35), (3, .new 36)] [5, 6, 7, 8] [36, 7001] [.ref 7001 0, slFeat true v_2, .arr 36, I k] [some (.arr 1 (ls.length + 1) (catF ls.length (fLFeat true ls) (litF [slFeat true v_4] 1))), some (bxl00Src s'_5)] [(ls.length + 1) * 24 ≤ 140737488355328] ⟨(by omega), trivial⟩ ?_
     refine xe_block 1 ?_
     refine xe_then ?_
     refine x_weak [] (T := [(5, .ref 7001 0), (6, slFeat true v_2), (7, .arr 36), (8, I k)]) (O := [(36, .arr 1 ((ls ++ [v_4]).length) (fLFeat true (ls ++ [v_4]))), (7001, bxl00Src s'_5)]) rfl (⟨.inl rfl, .inl rfl, .inl rfl, .inl rfl, trivial⟩) (⟨.inr ⟨rfl, (by first | rfl | (simp; done) | (simp; omega) | omega), fun i_ hi_ => .inl (cat_snoc (enc := (cLFeat true)) (xs := ls) rfl i_ hi_)⟩, .inl rfl, trivial⟩) ?_
     refine x_r [] [5, 6, 7, 8] [36, 7001] [.ref 7001 0, slFeat true v_2, .arr 36, I (k - 1)] [some (.arr 1 ((ls ++ [v_4]).length) (fLFeat true (ls ++ [v_4]))), some (bxl00Src s'_5)] [inR .i64 (k - 1)] ⟨(inR_i64 (by omega) (by omega)), trivial⟩ ?_
     refine xe_weak [(14, 36)] (T := [(5, .ref 7001 0), (6, slFeat true v_2), (7, .arr 14), (8, I (k - 1))]) (O := [(14, .arr 1 ((ls ++ [v_4]).length) (fLFeat true (ls ++ [v_4]))), (7001, bxl00Src s'_5)]) rfl (⟨.inl rfl, .inl rfl, .inl rfl, .inl rfl, trivial⟩) (⟨.inl rfl, .inl rfl, trivial⟩) (xe_again ((ls ++ [v_4]), (k - 1), s'_5) rfl (show (okSrc s'_5 ∧ s'_5.atx ≤ 1000 + 600 * (5 - (k - 1))) ∧ (0 ≤ (k - 1) ∧ (k - 1) ≤ 5) ∧ (((ls ++ [v_4]).length : Int) + (k - 1) ≤ 5) ∧ (∀ l ∈ (ls ++ [v_4]), okFeats l 72 = true) ∧ True from ⟨(by constructor <;> first | assumption | omega), (by omega), (by simp; omega), (by intro l hl; rcases List.mem_append.1 hl with hl | hl; (exact hz0 l hl); (simp only [List.mem_singleton] at hl; subst hl; first | assumption | exact okFeats_set hofa (okF_iff.2 ⟨by dsimp only; omega, by dsimp only; omega, by dsimp only; omega⟩))), trivial⟩) (by first | (show ((k - 1).toNat : Nat) < k.toNat; omega) | (dsimp only; omega)))
    refine x_r [(1, .dec false)] [5, 6, 7, 8, 18] [14, 7001] [.ref 7001 0, slFeat true v_2, .arr 14, I k, Bv false] [some (.arr 1 ls.length (fLFeat true ls)), some (bxl00Src src)] [¬ (0 < k)] ⟨h1, trivial⟩ ?_
    refine xe_then ?_
    refine x_false rfl ?_
    refine x_exit ?_
    refine xe_exit_then ?_
    refine xe_loop_exit ?_
    refine xe_exit_same ?_
    refine xe_then ?_
    refine x_seq ?_
    obtain ⟨v_7, s'_7, hx7_0, hx7_1, hx7_2, hx7_3, hc7⟩ := pick_ok src 9 (by first | assumption | (simp only [okSrc] at *; simp_all; done)) (by omega)
    refine x_r [(3, .lend [(7001, bxl00Src src, bxl00Src s'_7)] [] [(true, .any), (true, .any)] true (I v_7))] [2, 3, 4] [14] [slFeat true v_2, .arr 14, I v_7] [some (.arr 1 ls.length (fLFeat true ls))] [CallOK Try.prog 22 [.ref 7001 0, I 9] (lookO [(7001, bxl00Src src)]) true (I v_7) (lookO [(7001, bxl00Src s'_7)]) ∧ (((bxl00Src src : Ob) = bxl00Src src ∨ obLe noOb true (bxl00Src src) (bxl00Src src)) ∧ taggedO false (bxl00Src src)) ∧ True] ⟨⟨hc7, ⟨.inl rfl, (by simp [taggedO, taggedL, tagged, tagU8])⟩, trivial⟩, trivial⟩ ?_
    refine xe_then ?_
    refine x_ret ?_
    refine xe_end (v_2, ls, v_7) (show (okFeats v_2 72 = true) ∧ (ls.length ≤ 5 ∧ ∀ l ∈ ls, okFeats l 72 = true) ∧ (0 ≤ v_7 ∧ v_7 ≤ 8) ∧ (True) from ⟨(by first | assumption | omega | exact ⟨by omega, hz0⟩), (by first | assumption | omega | exact ⟨by omega, hz0⟩), (by first | assumption | omega | exact ⟨by omega, hz0⟩), trivial⟩) (trivial) (.tup [slFeat true v_2, .arr 14, I v_7]) (by kernel_rfl) (.inr ⟨⟨(fun _ => rfl), rfl, rfl, fun i _ => .inl rfl⟩, ⟨⟨(fun _ => rfl), rfl, rfl, fun i _ => .inl rfl⟩, ⟨rfl, rfl⟩⟩⟩) (fun _ => rfl) (fun _ => (by simp [tagged, taggedL, tagFeat, tagLFeat]))
  obtain ⟨⟨a, lists, band⟩, ⟨hh0, hh1, hh2, _⟩, hc⟩ := hh
  exact ⟨a, lists, band, hh0, hh1, hh2, hc⟩


-- impl.within
theorem within_ok (n : Int) (low : Int) (high : Int) : Con Try.prog 37 [I n, I low, I high] true (Bv (inB n low high)) := by
  refine fn_ok (fn := Try.f37) (nt := 15) Try.func37 rfl rfl rfl rfl (by simp [taggedL, tagged]) fun B hB => ?_
  refine aR [] [0, 1, 2] [] [I n, I low, I high] [] [] hB trivial ?_
  refine aw_seq ?_
  by_cases h1 : low ≤ n
  ·refine aw_r [(2, .dec true)] [6] [] [Bv (decide (n ≤ high))] [] [low ≤ n] hB ⟨h1, trivial⟩ ?_
   refine ae_then ?_
   refine aw_ret ?_
   refine ae_ret hB (Bv (decide (n ≤ high))) (by kernel_rfl) (.inl (by first | rfl | (refine congrArg Bv ?_; simp [inB, *]; done) | (refine congrArg Bv ?_; simp [inB, *]; omega) | (refine congrArg Bv ?_; simp_all [inB]; done) | (refine congrArg Bv ?_; simp_all [inB]; omega))) rfl (fun _ => trivial)
  refine aw_r [(2, .dec false)] [6] [] [Bv false] [] [¬ (low ≤ n)] hB ⟨h1, trivial⟩ ?_
  refine ae_then ?_
  refine aw_ret ?_
  refine ae_ret hB (Bv false) (by kernel_rfl) (.inl (by first | rfl | (refine congrArg Bv ?_; simp [inB, *]; done) | (refine congrArg Bv ?_; simp [inB, *]; omega) | (refine congrArg Bv ?_; simp_all [inB]; done) | (refine congrArg Bv ?_; simp_all [inB]; omega))) rfl (fun _ => trivial)


-- impl.ValidFeat
theorem ValidFeat_ok (f : Feat) : Con Try.prog 84 [agFeat f] true (Bv (okF f)) := by
  refine fn_ok (fn := Try.f84) (nt := 16) Try.func84 rfl rfl rfl rfl (by simp [taggedL, tagged]) fun B hB => ?_
  refine aR [(0, .new 1)] [1] [1] [.ref 1 0] [some (bxFeat f)] [] hB trivial ?_
  refine aw_seq ?_
  rcases Bool.eq_false_or_eq_true (inB f.X 0 255) with h1 | h1
  ·rcases Bool.eq_false_or_eq_true (inB f.Y 0 255) with h2 | h2
   ·refine aw_r [(2, .call [(true, .any), (true, .any), (true, .any)] true (Bv true)), (6, .call [(true, .any), (true, .any), (true, .any)] true (Bv true)), (11, .call [(true, .any), (true, .any), (true, .any)] true (Bv (inB f.D 0 7)))] [2] [] [Bv (inB f.D 0 7)] [] [Con Try.prog 37 [I f.X, I 0, I 255] true (Bv true) ∧ True, Con Try.prog 37 [I f.Y, I 0, I 255] true (Bv true) ∧ True, Con Try.prog 37 [I f.D, I 0, I 7] true (Bv (inB f.D 0 7)) ∧ True] hB ⟨⟨(con_bool h1 (within_ok f.X 0 255)), trivial⟩, ⟨(con_bool h2 (within_ok f.Y 0 255)), trivial⟩, ⟨(within_ok f.D 0 7), trivial⟩, trivial⟩ ?_
    refine ae_then ?_
    refine aw_ret ?_
    refine ae_ret hB (Bv (inB f.D 0 7)) (by kernel_rfl) (.inl (by first | rfl | (refine congrArg Bv ?_; simp [okF, *]; done) | (refine congrArg Bv ?_; simp [okF, *]; omega) | (refine congrArg Bv ?_; simp_all [okF]; done) | (refine congrArg Bv ?_; simp_all [okF]; omega))) rfl (fun _ => trivial)
   refine aw_r [(2, .call [(true, .any), (true, .any), (true, .any)] true (Bv true)), (6, .call [(true, .any), (true, .any), (true, .any)] true (Bv false))] [2] [] [Bv false] [] [Con Try.prog 37 [I f.X, I 0, I 255] true (Bv true) ∧ True, Con Try.prog 37 [I f.Y, I 0, I 255] true (Bv false) ∧ True] hB ⟨⟨(con_bool h1 (within_ok f.X 0 255)), trivial⟩, ⟨(con_bool h2 (within_ok f.Y 0 255)), trivial⟩, trivial⟩ ?_
   refine ae_then ?_
   refine aw_ret ?_
   refine ae_ret hB (Bv false) (by kernel_rfl) (.inl (by first | rfl | (refine congrArg Bv ?_; simp [okF, *]; done) | (refine congrArg Bv ?_; simp [okF, *]; omega) | (refine congrArg Bv ?_; simp_all [okF]; done) | (refine congrArg Bv ?_; simp_all [okF]; omega))) rfl (fun _ => trivial)
  refine aw_r [(2, .call [(true, .any), (true, .any), (true, .any)] true (Bv false))] [2] [] [Bv false] [] [Con Try.prog 37 [I f.X, I 0, I 255] true (Bv false) ∧ True] hB ⟨⟨(con_bool h1 (within_ok f.X 0 255)), trivial⟩, trivial⟩ ?_
  refine ae_then ?_
  refine aw_ret ?_
  refine ae_ret hB (Bv false) (by kernel_rfl) (.inl (by first | rfl | (refine congrArg Bv ?_; simp [okF, *]; done) | (refine congrArg Bv ?_; simp [okF, *]; omega) | (refine congrArg Bv ?_; simp_all [okF]; done) | (refine congrArg Bv ?_; simp_all [okF]; omega))) rfl (fun _ => trivial)


-- impl.areFeats$1
theorem areFeats1_ok (f : Feat) : Con Try.prog 83 [agFeat f] true (Bv (!(okF f))) := by
  refine fn_ok (fn := Try.f83) (nt := 6) Try.func83 rfl rfl rfl rfl (by simp [taggedL, tagged]) fun B hB => ?_
  refine aR [(0, .new 1)] [1] [1] [.ref 1 0] [some (bxFeat f)] [] hB trivial ?_
  refine aR [(1, .call [(true, .any)] true (Bv (okF f)))] [2] [] [Bv (!(okF f))] [] [Con Try.prog 84 [agFeat f] true (Bv (okF f)) ∧ True] hB ⟨⟨(ValidFeat_ok f), trivial⟩, trivial⟩ ?_
  refine aw_ret ?_
  refine ae_ret hB (Bv (!(okF f))) (by kernel_rfl) (.inl rfl) rfl (fun _ => trivial)


/-- The first number below n that p holds of, or -1. -/
def firstN (n : Nat) (p : Nat → Bool) : Int := match (List.range n).find? p with
  | some i => i
  | none => -1
theorem firstN_hit {n : Nat} {p : Nat → Bool} {k : Nat} (hk : k < n) (hp : p k = true) (hn : ∀ i, i < k → p i = false) : firstN n p = k := by
  have h : (List.range n).find? p = some k := by
    rw [List.find?_range_eq_some]
    exact ⟨hp, List.mem_range.2 hk, fun j hj => by simpa using hn j hj⟩
  simp [firstN, h]
theorem firstN_none {n : Nat} {p : Nat → Bool} (hn : ∀ i, i < n → p i = false) : firstN n p = -1 := by
  have h : (List.range n).find? p = none := by
    rw [List.find?_range_eq_none]
    intro i hi; simpa using hn i hi
  simp [firstN, h]
theorem firstN_cases (n : Nat) (p : Nat → Bool) : (firstN n p = -1 ∧ ∀ i, i < n → p i = false) ∨ ∃ k : Nat, firstN n p = k ∧ k < n ∧ p k = true ∧ ∀ i, i < k → p i = false := by
  by_cases h : ∃ k, k < n ∧ p k = true
  · right
    obtain ⟨k, hk, hp⟩ := h
    cases e : (List.range n).find? p with
    | none => rw [List.find?_range_eq_none] at e; exact absurd hp (by simpa using e k hk)
    | some i =>
      have e' := e
      rw [List.find?_range_eq_some] at e
      exact ⟨i, by simp [firstN, e'], List.mem_range.1 e.2.1, e.1, fun j hj => by simpa using e.2.2 j hj⟩
  · left
    have h' : ∀ i, i < n → p i = false := fun i hi => by rw [← Bool.not_eq_true]; exact fun hp => h ⟨i, hi, hp⟩
    exact ⟨firstN_none h', h'⟩
theorem firstN_any (n : Nat) (p : Nat → Bool) : decide (0 ≤ firstN n p) = anyN n p := by
  rcases firstN_cases n p with ⟨h1, h2⟩ | ⟨k, h1, h2, h3, _⟩
  · rw [h1, anyN_none h2]; decide
  · rw [h1, anyN_at h2 h3]; simp

-- impl.areFeats
theorem containsFeat_ok_idx (s : List Feat) : Con Try.prog 91 [slFeat false s, .fn 83 []] true (I (firstN s.length (fun j => (!(okF (at_ s j)))))) := by
  refine fn_ok (fn := Try.f91) (nt := 19) Try.func91 rfl rfl rfl rfl (by simp [taggedL, tagged, tagFeat]) fun B hB => ?_
  refine aw_lens (x := slFeat false s) 0 rfl (fun len_s => ?_)
  simp [LenOK, LenL, cFeat, fFeat, slFeat] at len_s
  refine aR [] [0, 1] [] [slFeat false s, .fn 83 []] [] [] hB trivial ?_
  refine aw_seq ?_
  refine aR [] [0, 1, 7, 8] [] [slFeat false s, .fn 83 [], I (s.length : Int), I 0] [] [] hB trivial ?_
  refine aw_block ?_
  refine aw_loop (fun gn gσ => ∃ (t8 : Int), gn = ((s.length : Int) - t8).toNat ∧ (0 ≤ t8 ∧ t8 ≤ (s.length : Int)) ∧ (∀ j : Nat, (j : Int) < t8 → (!(okF (at_ s j))) = false) ∧ gσ = mkS [(0, slFeat false s), (1, .fn 83 []), (7, I (s.length : Int)), (8, I t8)] []) (((s.length : Int) - 0).toNat) ⟨0, rfl, (by omega), (by intro j hj; omega), rfl⟩ (fun gn gσ hI => ?_)
  obtain ⟨t8, rfl, hi0, hall0, rfl⟩ := hI
  refine aw_seq ?_
  by_cases h1 : t8 < (s.length : Int)
  ·have hi : t8.toNat < s.length := by omega
   refine aw_r [(0, .dec true)] [0, 1, 7, 8, 9] [] [slFeat false s, .fn 83 [], I (s.length : Int), I t8, Bv true] [] [t8 < (s.length : Int)] hB ⟨h1, trivial⟩ ?_
   refine ae_then ?_
   refine aw_seq ?_
   refine aw_true rfl ?_
   refine aw_skip ?_
   refine ae_then ?_
   refine aw_seq ?_
   refine aw_block ?_
   refine aR [] [0, 1, 5, 7, 8] [] [slFeat false s, .fn 83 [], I t8, I (s.length : Int), I t8] [] [] hB trivial ?_
   refine aw_seq ?_
   rcases Bool.eq_false_or_eq_true (!(okF (at_ s t8.toNat))) with h2 | h2
   ·have hfin : firstN s.length (fun j => (!(okF (at_ s j)))) = t8.toNat := firstN_hit hi h2 (fun j hj => hall0 j (by omega))
    refine aw_r [(5, .call [(true, .any)] true (Bv true))] [0, 1, 5, 7, 8, 16] [] [slFeat false s, .fn 83 [], I t8, I (s.length : Int), I t8, Bv true] [] [(0 : Int) ≤ t8 ∧ t8 < (s.length : Int), Con Try.prog 83 [agFeat (at_ s t8.toNat)] true (Bv true) ∧ True] hB ⟨⟨(by omega), (by omega)⟩, ⟨(con_bool h2 (areFeats1_ok (at_ s t8.toNat))), trivial⟩, trivial⟩ ?_
    refine ae_then ?_
    refine aw_true rfl ?_
    refine aR [] [4] [] [I t8] [] [] hB trivial ?_
    refine aw_ret ?_
    refine ae_ret_block (ae_ret_then (ae_ret_then (ae_ret_block (ae_ret_then ?_))))
    refine ae_ret hB (I t8) (by kernel_rfl) (.inl (by refine congrArg I ?_; first | (rw [hfin]; done) | (rw [hfin]; omega))) rfl (fun _ => trivial)
   refine aw_r [(5, .call [(true, .any)] true (Bv false))] [0, 1, 5, 7, 8, 16] [] [slFeat false s, .fn 83 [], I t8, I (s.length : Int), I t8, Bv false] [] [(0 : Int) ≤ t8 ∧ t8 < (s.length : Int), Con Try.prog 83 [agFeat (at_ s t8.toNat)] true (Bv false) ∧ True] hB ⟨⟨(by omega), (by omega)⟩, ⟨(con_bool h2 (areFeats1_ok (at_ s t8.toNat))), trivial⟩, trivial⟩ ?_
   refine ae_then ?_
   refine aw_false rfl ?_
   refine aw_skip ?_
   refine ae_block 1 ?_
   refine ae_then ?_
   refine aw_r [] [0, 1, 7, 8] [] [slFeat false s, .fn 83 [], I (s.length : Int), I (t8 + 1)] [] [inR .i64 (t8 + 1)] hB ⟨(inR_i64 (by omega) (by omega)), trivial⟩ ?_
   exact ae_again _ (by omega) ⟨(t8 + 1), rfl, (by omega), (by intro j hj; by_cases ej : j = t8.toNat; (subst ej; assumption); exact hall0 j (by omega)), rfl⟩
  have hfin : firstN s.length (fun j => (!(okF (at_ s j)))) = -1 := firstN_none (fun j hj => hall0 j (by omega))
  refine aw_r [(0, .dec false)] [0, 1, 7, 8, 9] [] [slFeat false s, .fn 83 [], I (s.length : Int), I t8, Bv false] [] [¬ (t8 < (s.length : Int))] hB ⟨h1, trivial⟩ ?_
  refine ae_then ?_
  refine aw_seq ?_
  refine aw_false rfl ?_
  refine aw_exit ?_
  refine ae_exit_then ?_
  refine ae_exit_then ?_
  refine ae_exit_same ?_
  refine ae_then ?_
  refine aR [] [4] [] [I (-1)] [] [] hB trivial ?_
  refine aw_ret ?_
  refine ae_ret hB (I (-1)) (by kernel_rfl) (.inl (by refine congrArg I ?_; first | (rw [hfin]; done) | (rw [hfin]; omega))) rfl (fun _ => trivial)

theorem containsFeat_ok (s : List Feat) : Con Try.prog 82 [slFeat false s, .fn 83 []] true (Bv (anyN s.length (fun j => (!(okF (at_ s j)))))) := by
  refine fn_ok (fn := Try.f82) (nt := 9) Try.func82 rfl rfl rfl rfl (by simp [taggedL, tagged, tagFeat]) fun B hB => ?_
  refine aw_lens (x := slFeat false s) 0 rfl (fun len_s => ?_)
  simp [LenOK, LenL, cFeat, fFeat, slFeat] at len_s
  refine aR [] [0, 1] [] [slFeat false s, .fn 83 []] [] [] hB trivial ?_
  refine aR [(2, .call [(true, .any), (true, .any)] true (I (firstN s.length (fun j => (!(okF (at_ s j)))))))] [4] [] [Bv (decide (0 ≤ (firstN s.length (fun j => (!(okF (at_ s j)))))))] [] [Con Try.prog 91 [slFeat false s, .fn 83 []] true (I (firstN s.length (fun j => (!(okF (at_ s j)))))) ∧ True] hB ⟨⟨(containsFeat_ok_idx s), trivial⟩, trivial⟩ ?_
  refine aw_ret ?_
  refine ae_ret hB (Bv (decide (0 ≤ (firstN s.length (fun j => (!(okF (at_ s j)))))))) (by kernel_rfl) (.inl (by exact congrArg Bv (firstN_any _ _))) rfl (fun _ => trivial)

theorem areFeats_ok (list : List Feat) (most : Int) : Con Try.prog 61 [slFeat false list, I most] true (Bv (okFeats list most)) := by
  refine fn_ok (fn := Try.f61) (nt := 19) Try.func61 rfl rfl rfl rfl (by simp [taggedL, tagged, tagFeat]) fun B hB => ?_
  refine aw_lens (x := slFeat false list) 0 rfl (fun len_list => ?_)
  simp [LenOK, LenL, cFeat, fFeat, slFeat] at len_list
  refine aR [] [0, 1] [] [slFeat false list, I most] [] [] hB trivial ?_
  refine aw_seq ?_
  by_cases h1 : 1 ≤ (list.length : Int)
  ·by_cases h2 : (list.length : Int) ≤ most
   ·refine aw_r [(2, .dec true), (7, .dec true), (11, .call [(true, .any), (true, .any)] true (Bv (anyN list.length (fun j => (!(okF (at_ list j)))))))] [4] [] [Bv (!(anyN list.length (fun j => (!(okF (at_ list j))))))] [] [1 ≤ (list.length : Int), (list.length : Int) ≤ most, Con Try.prog 82 [slFeat false list, .fn 83 []] true (Bv (anyN list.length (fun j => (!(okF (at_ list j)))))) ∧ True] hB ⟨h1, h2, ⟨(containsFeat_ok list), trivial⟩, trivial⟩ ?_
    refine ae_then ?_
    refine aw_ret ?_
    refine ae_ret hB (Bv (!(anyN list.length (fun j => (!(okF (at_ list j))))))) (by kernel_rfl) (.inl (by first | rfl | (refine congrArg Bv ?_; simp [okFeats, anyN_not, *]; done) | (refine congrArg Bv ?_; simp [okFeats, anyN_not, *]; omega) | (refine congrArg Bv ?_; simp_all [okFeats, anyN_not]; done) | (refine congrArg Bv ?_; simp_all [okFeats, anyN_not]; omega))) rfl (fun _ => trivial)
   refine aw_r [(2, .dec true), (7, .dec false)] [4] [] [Bv false] [] [1 ≤ (list.length : Int), ¬ ((list.length : Int) ≤ most)] hB ⟨h1, h2, trivial⟩ ?_
   refine ae_then ?_
   refine aw_ret ?_
   refine ae_ret hB (Bv false) (by kernel_rfl) (.inl (by first | rfl | (refine congrArg Bv ?_; simp [okFeats, anyN_not, *]; done) | (refine congrArg Bv ?_; simp [okFeats, anyN_not, *]; omega) | (refine congrArg Bv ?_; simp_all [okFeats, anyN_not]; done) | (refine congrArg Bv ?_; simp_all [okFeats, anyN_not]; omega))) rfl (fun _ => trivial)
  refine aw_r [(2, .dec false)] [4] [] [Bv false] [] [¬ (1 ≤ (list.length : Int))] hB ⟨h1, trivial⟩ ?_
  refine ae_then ?_
  refine aw_ret ?_
  refine ae_ret hB (Bv false) (by kernel_rfl) (.inl (by first | rfl | (refine congrArg Bv ?_; simp [okFeats, anyN_not, *]; done) | (refine congrArg Bv ?_; simp [okFeats, anyN_not, *]; omega) | (refine congrArg Bv ?_; simp_all [okFeats, anyN_not]; done) | (refine congrArg Bv ?_; simp_all [okFeats, anyN_not]; omega))) rfl (fun _ => trivial)


-- impl.ValidSeq
theorem ValidSeq_ok (list : List Feat) : Con Try.prog 35 [slFeat false list] true (Bv (okFeats list 72)) := by
  refine fn_ok (fn := Try.f35) (nt := 5) Try.func35 rfl rfl rfl rfl (by simp [taggedL, tagged, tagFeat]) fun B hB => ?_
  refine aw_lens (x := slFeat false list) 0 rfl (fun len_list => ?_)
  simp [LenOK, LenL, cFeat, fFeat, slFeat] at len_list
  refine aR [] [0] [] [slFeat false list] [] [] hB trivial ?_
  refine aR [(1, .call [(true, .any), (true, .any)] true (Bv (okFeats list 72)))] [2] [] [Bv (okFeats list 72)] [] [Con Try.prog 61 [slFeat false list, I 72] true (Bv (okFeats list 72)) ∧ True] hB ⟨⟨(areFeats_ok list 72), trivial⟩, trivial⟩ ?_
  refine aw_ret ?_
  refine ae_ret hB (Bv (okFeats list 72)) (by kernel_rfl) (.inl rfl) rfl (fun _ => trivial)


/-- The cost of matching two features. -/
def costF (a b : Feat) : Int := ((a.X - b.X).natAbs : Int) + ((a.Y - b.Y).natAbs : Int) + 16 * min ((a.D - b.D).natAbs : Int) (8 - ((a.D - b.D).natAbs : Int))
theorem costF_bd {a b : Feat} (ha : okF a = true) (hb : okF b = true) : 0 ≤ costF a b ∧ costF a b ≤ 600 := by
  have h1 := okF_iff.1 ha
  have h2 := okF_iff.1 hb
  unfold costF
  omega
/-- A cell of the table, from the least cost ahead of it. -/
def stp (far band : Int) (i j : Nat) (before c : Int) : Int := if band < (((i : Int) - (j : Int)).natAbs : Int) ∨ far ≤ before then far else before + c
/-- The least cost of all paths to a pair, or 'far'. -/
def cv (far : Int) (a b : List Feat) (band : Int) : Nat → Nat → Int
  | 0, 0 => stp far band 0 0 0 (costF (at_ a 0) (at_ b 0))
  | 0, j + 1 => stp far band 0 (j + 1) (min far (cv far a b band 0 j)) (costF (at_ a 0) (at_ b (j + 1)))
  | i + 1, 0 => stp far band (i + 1) 0 (min far (cv far a b band i 0)) (costF (at_ a (i + 1)) (at_ b 0))
  | i + 1, j + 1 => stp far band (i + 1) (j + 1) (min (min (min far (cv far a b band i j)) (cv far a b band i (j + 1))) (cv far a b band (i + 1) j)) (costF (at_ a (i + 1)) (at_ b (j + 1)))
termination_by i j => (i, j)
/-- Lists of features that may be matched. -/
def okAB (a b : List Feat) : Prop := (∀ i, i < a.length → okF (at_ a i) = true) ∧ (∀ j, j < b.length → okF (at_ b j) = true) ∧ a.length ≤ 72 ∧ b.length ≤ 72
theorem stp_far {far band : Int} {i j : Nat} {before c : Int} (h : band < (((i : Int) - (j : Int)).natAbs : Int) ∨ far ≤ before) : stp far band i j before c = far := if_pos h
theorem stp_add {far band : Int} {i j : Nat} {before c : Int} (h1 : ¬ band < (((i : Int) - (j : Int)).natAbs : Int)) (h2 : ¬ far ≤ before) : stp far band i j before c = before + c := if_neg (by omega)
theorem cv_out {far band : Int} {a b : List Feat} {i j : Nat} (h : band < (((i : Int) - (j : Int)).natAbs : Int)) : cv far a b band i j = far := by
  rcases i with _ | i <;> rcases j with _ | j <;> rw [cv] <;> exact stp_far (.inl h)
/-- Within the band the costs are few, and the same however far 'far' is. -/
theorem cv_in {band : Int} {a b : List Feat} (hab : okAB a b) {f1 f2 : Int} (h1 : 1000000000 ≤ f1) (h2 : 1000000000 ≤ f2) : ∀ (s i j : Nat), i + j = s → i < a.length → j < b.length → (((i : Int) - (j : Int)).natAbs : Int) ≤ band → cv f1 a b band i j = cv f2 a b band i j ∧ 0 ≤ cv f1 a b band i j ∧ cv f1 a b band i j ≤ 600 * ((i : Int) + j + 1)
  | s, 0, 0, hs, hi, hj, hb => by
    have hc := costF_bd (hab.1 0 hi) (hab.2.1 0 hj)
    rw [cv, cv, stp_add (by omega) (by omega), stp_add (by omega) (by omega)]
    omega
  | s, 0, j + 1, hs, hi, hj, hb => by
    have hc := costF_bd (hab.1 0 hi) (hab.2.1 (j + 1) hj)
    obtain ⟨e, p0, p1⟩ := cv_in (band := band) hab h1 h2 (0 + j) 0 j rfl hi (by omega) (by omega)
    have hl := hab.2.2
    rw [cv, cv, ← e, stp_add (by omega) (by omega), stp_add (by omega) (by omega)]
    omega
  | s, i + 1, 0, hs, hi, hj, hb => by
    have hc := costF_bd (hab.1 (i + 1) hi) (hab.2.1 0 hj)
    obtain ⟨e, p0, p1⟩ := cv_in (band := band) hab h1 h2 (i + 0) i 0 rfl (by omega) hj (by omega)
    have hl := hab.2.2
    rw [cv, cv, ← e, stp_add (by omega) (by omega), stp_add (by omega) (by omega)]
    omega
  | s, i + 1, j + 1, hs, hi, hj, hb => by
    have hc := costF_bd (hab.1 (i + 1) hi) (hab.2.1 (j + 1) hj)
    have hl := hab.2.2
    obtain ⟨e, p0, p1⟩ := cv_in (band := band) hab h1 h2 (i + j) i j rfl (by omega) (by omega) (by omega)
    have q1 : (cv f1 a b band i (j + 1) = f1 ∧ cv f2 a b band i (j + 1) = f2) ∨ (cv f1 a b band i (j + 1) = cv f2 a b band i (j + 1) ∧ 0 ≤ cv f1 a b band i (j + 1) ∧ cv f1 a b band i (j + 1) ≤ 600 * ((i : Int) + (j + 1 : Nat) + 1)) := by
      by_cases q : band < (((i : Int) - ((j + 1 : Nat) : Int)).natAbs : Int)
      · exact .inl ⟨cv_out q, cv_out q⟩
      · exact .inr (cv_in (band := band) hab h1 h2 (i + (j + 1)) i (j + 1) rfl (by omega) hj (by omega))
    have q2 : (cv f1 a b band (i + 1) j = f1 ∧ cv f2 a b band (i + 1) j = f2) ∨ (cv f1 a b band (i + 1) j = cv f2 a b band (i + 1) j ∧ 0 ≤ cv f1 a b band (i + 1) j ∧ cv f1 a b band (i + 1) j ≤ 600 * (((i + 1 : Nat) : Int) + j + 1)) := by
      by_cases q : band < ((((i + 1 : Nat) : Int) - (j : Int)).natAbs : Int)
      · exact .inl ⟨cv_out q, cv_out q⟩
      · exact .inr (cv_in (band := band) hab h1 h2 ((i + 1) + j) (i + 1) j rfl hi (by omega) (by omega))
    rw [cv, cv, ← e, stp_add (by omega) (by omega), stp_add (by omega) (by omega)]
    omega
termination_by s i j => i + j

/-- The least cost of the pairs ahead of a pair, after k of three. -/
def lb1 (tb : List (List Int)) (i j : Int) : Int := if 1 ≤ i ∧ 1 ≤ j then min 1099511627776 (at_ (at_ tb (i - 1).toNat) (j - 1).toNat) else 1099511627776
def lb2 (tb : List (List Int)) (i j : Int) : Int := if 1 ≤ i then min (lb1 tb i j) (at_ (at_ tb (i - 1).toNat) (j - 0).toNat) else lb1 tb i j
def lb3 (tb : List (List Int)) (i j : Int) : Int := if 1 ≤ j then min (lb2 tb i j) (at_ (at_ tb (i - 0).toNat) (j - 1).toNat) else lb2 tb i j
def lbk (tb : List (List Int)) (i j : Int) : Nat → Int
  | 0 => 1099511627776
  | 1 => lb1 tb i j
  | 2 => lb2 tb i j
  | _ => lb3 tb i j

theorem set_next {xs : List Int} {i : Int} {f : Nat → Int} {y : Int} (h0 : 0 ≤ i) (hi : i.toNat < xs.length) (h : ∀ j : Nat, (j : Int) < i → at_ xs j = f j) (hy : y = f i.toNat) : ∀ j : Nat, (j : Int) < i + 1 → at_ (xs.set i.toNat y) j = f j := fun j hj => by
  by_cases e : j = i.toNat
  · subst e; simp [at_, hi, hy]
  · have h' : ¬ i.toNat = j := fun q => e q.symm
    have : at_ (xs.set i.toNat y) j = at_ xs j := by simp [at_, List.getElem?_set, h']
    rw [this]; exact h j (by omega)

abbrev farI : Int := 1099511627776
/-- The first n cells of a row of the table. -/
def rowOk (a b : List Feat) (band : Int) (r : List Int) (p n : Nat) : Prop := r.length = b.length ∧ ∀ q, q < n → at_ r q = cv farI a b band p q
/-- The first i rows of the table. -/
def tbOk (a b : List Feat) (band : Int) (tb : List (List Int)) (i : Nat) : Prop := tb.length = a.length ∧ ∀ p, p < i → rowOk a b band (at_ tb p) p b.length
theorem cv_nn {far : Int} (hf : 0 ≤ far) {a b : List Feat} (band : Int) (hab : okAB a b) : ∀ (i j : Nat), i < a.length → j < b.length → 0 ≤ cv far a b band i j
  | 0, 0, hi, hj => by
    have hc := costF_bd (hab.1 0 hi) (hab.2.1 0 hj)
    rw [cv]; unfold stp; split <;> omega
  | 0, j + 1, hi, hj => by
    have hc := costF_bd (hab.1 0 hi) (hab.2.1 (j + 1) hj)
    have := cv_nn hf band hab 0 j hi (by omega)
    rw [cv]; unfold stp; split <;> omega
  | i + 1, 0, hi, hj => by
    have hc := costF_bd (hab.1 (i + 1) hi) (hab.2.1 0 hj)
    have := cv_nn hf band hab i 0 (by omega) hj
    rw [cv]; unfold stp; split <;> omega
  | i + 1, j + 1, hi, hj => by
    have hc := costF_bd (hab.1 (i + 1) hi) (hab.2.1 (j + 1) hj)
    have := cv_nn hf band hab i j (by omega) (by omega)
    have := cv_nn hf band hab i (j + 1) (by omega) (by omega)
    have := cv_nn hf band hab (i + 1) j (by omega) (by omega)
    rw [cv]; unfold stp; split <;> omega
termination_by i j => i + j
/-- What the pairs ahead cost. -/
theorem lb_at {a b : List Feat} {band : Int} {tb : List (List Int)} {i j : Nat} (hab : okAB a b) (h : tbOk a b band tb i) (hr : rowOk a b band (at_ tb i) i j) (hi : i < a.length) (hj : j < b.length) :
    (0 ≤ lb3 tb i j ∧ lb3 tb i j ≤ farI) ∧ cv farI a b band i j = stp farI band i j (if i = 0 ∧ j = 0 then 0 else lb3 tb i j) (costF (at_ a i) (at_ b j)) := by
  have hF : farI = 1099511627776 := rfl
  have e1 : ∀ p q : Nat, p < i → q < b.length → at_ (at_ tb p) q = cv farI a b band p q ∧ 0 ≤ cv farI a b band p q := fun p q hp hq => ⟨(h.2 p hp).2 q hq, cv_nn (by decide) band hab p q (by omega) hq⟩
  have e2 : ∀ q : Nat, q < j → at_ (at_ tb i) q = cv farI a b band i q ∧ 0 ≤ cv farI a b band i q := fun q hq => ⟨hr.2 q hq, cv_nn (by decide) band hab i q hi (by omega)⟩
  rcases i with _ | i <;> rcases j with _ | j
  · refine ⟨?_, by rw [cv]; simp⟩
    simp [lb3, lb2, lb1]
  · have q := e2 j (by omega)
    have e : lb3 tb (0 : Nat) ((j + 1 : Nat) : Int) = min farI (cv farI a b band 0 j) := by
      unfold lb3 lb2 lb1
      rw [if_pos (by omega), if_neg (by omega), if_neg (by omega), show (((j + 1 : Nat) : Int) - 1).toNat = j from by omega, show (((0 : Nat) : Int) - 0).toNat = 0 from rfl, q.1]
    rw [e]
    refine ⟨by omega, ?_⟩
    rw [cv, if_neg (by omega)]
  · have q := e1 i 0 (by omega) hj
    have e : lb3 tb ((i + 1 : Nat) : Int) (0 : Nat) = min farI (cv farI a b band i 0) := by
      unfold lb3 lb2 lb1
      rw [if_neg (by omega), if_pos (by omega), if_neg (by omega), show (((i + 1 : Nat) : Int) - 1).toNat = i from by omega, show (((0 : Nat) : Int) - 0).toNat = 0 from rfl, q.1]
    rw [e]
    refine ⟨by omega, ?_⟩
    rw [cv, if_neg (by omega)]
  · have q1 := e1 i j (by omega) (by omega)
    have q2 := e1 i (j + 1) (by omega) hj
    have q3 := e2 j (by omega)
    have e : lb3 tb ((i + 1 : Nat) : Int) ((j + 1 : Nat) : Int) = min (min (min farI (cv farI a b band i j)) (cv farI a b band i (j + 1))) (cv farI a b band (i + 1) j) := by
      unfold lb3 lb2 lb1
      rw [if_pos (by omega), if_pos (by omega), if_pos (by omega), show (((i + 1 : Nat) : Int) - 1).toNat = i from by omega, show (((j + 1 : Nat) : Int) - 1).toNat = j from by omega, show (((j + 1 : Nat) : Int) - 0).toNat = j + 1 from by omega, show (((i + 1 : Nat) : Int) - 0).toNat = i + 1 from by omega, q1.1, q2.1, q3.1]
    rw [e]
    refine ⟨by omega, ?_⟩
    rw [cv, if_neg (by omega)]
theorem tb_row {a b : List Feat} {band : Int} {tb : List (List Int)} {i m : Nat} (h : tbOk a b band tb i) (hi : i < a.length) (hm : m = b.length) : tbOk a b band (tb.set i (List.replicate m 0)) i ∧ rowOk a b band (at_ (tb.set i (List.replicate m 0)) i) i 0 := by
  refine ⟨⟨by rw [List.length_set]; exact h.1, fun p hp => ?_⟩, ?_, fun q hq => by omega⟩
  · rw [at_set_oth (by omega)]; exact h.2 p hp
  · rw [at_set_same (by rw [h.1]; exact hi)]; simp [hm]
theorem tb_step {a b : List Feat} {band v : Int} {tb : List (List Int)} {i j : Nat} (h : tbOk a b band tb i) (hr : rowOk a b band (at_ tb i) i j) (hi : i < a.length) (hj : j < b.length) (hv : v = cv farI a b band i j) : tbOk a b band (tb.set i ((at_ tb i).set j v)) i ∧ rowOk a b band (at_ (tb.set i ((at_ tb i).set j v)) i) i (j + 1) := by
  refine ⟨⟨by rw [List.length_set]; exact h.1, fun p hp => ?_⟩, ?_, fun q hq => ?_⟩
  · rw [at_set_oth (by omega)]; exact h.2 p hp
  · rw [at_set_same (by rw [h.1]; exact hi), List.length_set]; exact hr.1
  · rw [at_set_same (by rw [h.1]; exact hi)]
    by_cases e : q = j
    · subst e; rw [at_set_same (by rw [hr.1]; exact hj)]; exact hv
    · rw [at_set_oth e]; exact hr.2 q (by omega)
theorem tb_done {a b : List Feat} {band : Int} {tb : List (List Int)} {i n : Nat} (h : tbOk a b band tb i) (hr : rowOk a b band (at_ tb i) i n) (hn : n = b.length) : tbOk a b band tb (i + 1) := by
  subst hn
  refine ⟨h.1, fun p hp => ?_⟩
  by_cases e : p = i
  · subst e; exact hr
  · exact h.2 p (by omega)
theorem tb_nil (a b : List Feat) (band : Int) {n : Nat} (hn : n = a.length) : tbOk a b band (List.replicate n []) 0 := ⟨by simp [hn], fun p hp => by omega⟩

abbrev farS : Int := 1000000000
/-- The first k cells of the table in one list. -/
def flOk (a b : List Feat) (band : Int) (out : List Int) (k : Nat) : Prop := out.length = a.length * b.length ∧ ∀ p q, p < a.length → q < b.length → p * b.length + q < k → at_ out (p * b.length + q) = cv farS a b band p q
def sb0 (i j : Int) : Int := if i = 0 ∧ j = 0 then 0 else 1000000000
def sb1 (out : List Int) (m i j : Int) : Int := if 0 < i ∧ 0 < j then min (sb0 i j) (at_ out ((i - 1) * m + j - 1).toNat) else sb0 i j
def sb2 (out : List Int) (m i j : Int) : Int := if 0 < i then min (sb1 out m i j) (at_ out ((i - 1) * m + j).toNat) else sb1 out m i j
def sb3 (out : List Int) (m i j : Int) : Int := if 0 < j then min (sb2 out m i j) (at_ out (i * m + j - 1).toNat) else sb2 out m i j
theorem fl_lt {p q i j m : Nat} (h : p < i) (hq : q < m) : p * m + q < i * m + j := by
  have : (p + 1) * m ≤ i * m := Nat.mul_le_mul_right _ h
  rw [Nat.succ_mul] at this
  omega
theorem ix_up {i j : Nat} {m : Nat} : (((i + 1 : Nat) : Int) - 1) * (m : Int) = ((i * m : Nat) : Int) := by
  rw [show ((i + 1 : Nat) : Int) - 1 = (i : Int) from by omega, Int.natCast_mul]
theorem cv_le {far : Int} (hf : 1000000000 ≤ far) {a b : List Feat} (band : Int) (hab : okAB a b) {i j : Nat} (hi : i < a.length) (hj : j < b.length) : cv far a b band i j = far ∨ cv far a b band i j ≤ 87000 := by
  by_cases h : band < (((i : Int) - (j : Int)).natAbs : Int)
  · exact .inl (cv_out h)
  · have := (cv_in (band := band) hab hf hf (i + j) i j rfl hi hj (by omega)).2.2
    have hl := hab.2.2
    right; omega
/-- What the pairs ahead cost. -/
theorem sb_at {a b : List Feat} {band : Int} {out : List Int} {i j : Nat} (hab : okAB a b) (h : flOk a b band out (i * b.length + j)) (hi : i < a.length) (hj : j < b.length) :
    (0 ≤ sb3 out b.length i j ∧ (sb3 out b.length i j ≤ 87000 ∨ sb3 out b.length i j = 1000000000)) ∧ cv farS a b band i j = (if sb3 out b.length i j = 1000000000 ∨ band < (((i : Int) - (j : Int)).natAbs : Int) then 1000000000 else sb3 out b.length i j + costF (at_ a i) (at_ b j)) := by
  have hF : farS = 1000000000 := rfl
  have e1 : ∀ p q : Nat, p < i → q < b.length → at_ out (p * b.length + q) = cv farS a b band p q ∧ 0 ≤ cv farS a b band p q ∧ (cv farS a b band p q = farS ∨ cv farS a b band p q ≤ 87000) := fun p q hp hq => ⟨h.2 p q (by omega) hq (fl_lt hp hq), cv_nn (by decide) band hab p q (by omega) hq, cv_le (by decide) band hab (by omega) hq⟩
  have e2 : ∀ q : Nat, q < j → at_ out (i * b.length + q) = cv farS a b band i q ∧ 0 ≤ cv farS a b band i q ∧ (cv farS a b band i q = farS ∨ cv farS a b band i q ≤ 87000) := fun q hq => ⟨h.2 i q hi (by omega) (by omega), cv_nn (by decide) band hab i q hi (by omega), cv_le (by decide) band hab hi (by omega)⟩
  have hst : ∀ x c : Int, x ≤ farS → stp farS band i j x c = (if x = 1000000000 ∨ band < (((i : Int) - (j : Int)).natAbs : Int) then 1000000000 else x + c) := fun x c hx => by
    unfold stp; split <;> split <;> omega
  rcases i with _ | i <;> rcases j with _ | j
  · have e : sb3 out b.length (0 : Nat) (0 : Nat) = 0 := by simp [sb3, sb2, sb1, sb0]
    rw [e]
    refine ⟨by omega, ?_⟩
    rw [cv, hst _ _ (by omega)]
  · have q := e2 j (by omega)
    have e : sb3 out b.length (0 : Nat) ((j + 1 : Nat) : Int) = min farS (cv farS a b band 0 j) := by
      unfold sb3 sb2 sb1 sb0
      rw [if_pos (by omega), if_neg (by omega), if_neg (by omega), if_neg (by omega), show (((0 : Nat) : Int) * (b.length : Int) + ((j + 1 : Nat) : Int) - 1).toNat = 0 * b.length + j from by rw [show ((0 : Nat) : Int) * (b.length : Int) = 0 from Int.zero_mul _, Nat.zero_mul]; omega, q.1]
    rw [e]
    refine ⟨by omega, ?_⟩
    rw [cv, hst _ _ (by omega)]
  · have q := e1 i 0 (by omega) hj
    have e : sb3 out b.length ((i + 1 : Nat) : Int) (0 : Nat) = min farS (cv farS a b band i 0) := by
      unfold sb3 sb2 sb1 sb0
      rw [if_neg (by omega), if_pos (by omega), if_neg (by omega), if_neg (by omega), ix_up (j := 0), show (((i * b.length : Nat) : Int) + ((0 : Nat) : Int)).toNat = i * b.length + 0 from by omega, q.1]
    rw [e]
    refine ⟨by omega, ?_⟩
    rw [cv, hst _ _ (by omega)]
  · have q1 := e1 i j (by omega) (by omega)
    have q2 := e1 i (j + 1) (by omega) hj
    have q3 := e2 j (by omega)
    have e : sb3 out b.length ((i + 1 : Nat) : Int) ((j + 1 : Nat) : Int) = min (min (min farS (cv farS a b band i j)) (cv farS a b band i (j + 1))) (cv farS a b band (i + 1) j) := by
      unfold sb3 sb2 sb1 sb0
      rw [if_pos (by omega), if_pos (by omega), if_pos (by omega), if_neg (by omega), ix_up (j := 0), show (((i * b.length : Nat) : Int) + ((j + 1 : Nat) : Int) - 1).toNat = i * b.length + j from by omega, show (((i * b.length : Nat) : Int) + ((j + 1 : Nat) : Int)).toNat = i * b.length + (j + 1) from by omega, show (((i + 1 : Nat) : Int) * (b.length : Int) + ((j + 1 : Nat) : Int) - 1).toNat = (i + 1) * b.length + j from by rw [← Int.natCast_mul]; omega, q1.1, q2.1, q3.1]
    rw [e]
    refine ⟨by omega, ?_⟩
    rw [cv, hst _ _ (by omega)]
theorem fl_nn {a b : List Feat} {band : Int} {out : List Int} {k0 k : Nat} (hab : okAB a b) (h : flOk a b band out k0) (hM : 0 < b.length) (hk : k < k0) (hk2 : k < a.length * b.length) : 0 ≤ at_ out k := by
  have h1 := Nat.div_add_mod k b.length
  have h2 := Nat.mod_lt k hM
  have h3 : k / b.length < a.length := (Nat.div_lt_iff_lt_mul hM).2 hk2
  rw [Nat.mul_comm] at h1
  rw [← h1, h.2 _ _ h3 h2 (by omega)]
  exact cv_nn (by decide) band hab _ _ h3 h2
theorem fl_uniq {p q i j m : Nat} (hq : q < m) (hj : j < m) (h : p * m + q = i * m + j) : p = i ∧ q = j := by
  have hp : p = i := by
    rcases Nat.lt_trichotomy p i with e | e | e
    · have := fl_lt (j := j) e hq; omega
    · exact e
    · have := fl_lt (j := q) e hj; omega
  subst hp
  exact ⟨rfl, by omega⟩
theorem fl_step {a b : List Feat} {band v : Int} {out : List Int} {i j : Nat} {k : Nat} (h : flOk a b band out (i * b.length + j)) (hi : i < a.length) (hj : j < b.length) (hk : k = i * b.length + j) (hv : v = cv farS a b band i j) : flOk a b band (out.set k v) (i * b.length + (j + 1)) := by
  subst hk
  refine ⟨by rw [List.length_set]; exact h.1, fun p q hp hq hk => ?_⟩
  by_cases e : p * b.length + q = i * b.length + j
  · obtain ⟨rfl, rfl⟩ := fl_uniq hq hj e
    have : p * b.length + q < a.length * b.length + 0 := fl_lt hi hj
    rw [at_set_same (by rw [h.1]; omega)]; exact hv
  · rw [at_set_oth e]; exact h.2 p q hp hq (by omega)
theorem fl_done {a b : List Feat} {band : Int} {out : List Int} {i n : Nat} (h : flOk a b band out (i * b.length + n)) (hn : n = b.length) : flOk a b band out ((i + 1) * b.length) := by
  subst hn; rw [Nat.succ_mul]; exact h
theorem fl_all {a b : List Feat} {band : Int} {out : List Int} {i j : Nat} (h : flOk a b band out (a.length * b.length)) (hi : i < a.length) (hj : j < b.length) : at_ out (i * b.length + j) = cv farS a b band i j := h.2 i j hi hj (by have := fl_lt (j := 0) hi hj; omega)

/-- The pair ahead on a path of least cost. -/
def nx (a b : List Feat) (band : Int) (i j : Nat) : Nat × Nat :=
  if (0 < i ∧ 0 < j) ∧ cv farS a b band (i - 1) (j - 1) = cv farS a b band i j - costF (at_ a i) (at_ b j) then (i - 1, j - 1)
  else if 0 < i ∧ cv farS a b band (i - 1) j = cv farS a b band i j - costF (at_ a i) (at_ b j) then (i - 1, j) else (i, j - 1)
def inBd (band : Int) (i j : Nat) : Prop := (((i : Int) - (j : Int)).natAbs : Int) ≤ band
theorem cv_fin {a b : List Feat} {band : Int} {i j : Nat} (hab : okAB a b) (hi : i < a.length) (hj : j < b.length) : (inBd band i j ∧ cv farI a b band i j = cv farS a b band i j ∧ 0 ≤ cv farS a b band i j ∧ cv farS a b band i j ≤ 87000) ∨ (¬ inBd band i j ∧ cv farI a b band i j = 1099511627776 ∧ cv farS a b band i j = 1000000000) := by
  have hl := hab.2.2
  by_cases h : inBd band i j
  · have q := cv_in (band := band) hab (f1 := farS) (f2 := farI) (by decide) (by decide) (i + j) i j rfl hi hj h
    exact .inl ⟨h, q.1.symm, q.2.1, by omega⟩
  · unfold inBd at h
    exact .inr ⟨h, cv_out (by omega), cv_out (by omega)⟩
/-- The cost of a pair within the band is that of one ahead and its own. -/
theorem cv_add {far : Int} (hf : 1000000000 ≤ far) {a b : List Feat} {band : Int} {i j : Nat} (hab : okAB a b) (hi : i < a.length) (hj : j < b.length) (hb : inBd band i j) (h0 : ¬ (i = 0 ∧ j = 0)) :
    ∃ x, cv far a b band i j = x + costF (at_ a i) (at_ b j) ∧ x < far ∧ ((0 < i ∧ 0 < j) ∧ x = cv far a b band (i - 1) (j - 1) ∨ 0 < i ∧ x = cv far a b band (i - 1) j ∨ 0 < j ∧ x = cv far a b band i (j - 1)) ∧ (0 < i → 0 < j → x ≤ cv far a b band (i - 1) (j - 1)) ∧ (0 < i → x ≤ cv far a b band (i - 1) j) ∧ (0 < j → x ≤ cv far a b band i (j - 1)) := by
  have q := cv_in (band := band) hab hf hf (i + j) i j rfl hi hj hb
  have hl := hab.2.2
  have hc := costF_bd (hab.1 i hi) (hab.2.1 j hj)
  unfold inBd at hb
  rcases i with _ | i <;> rcases j with _ | j
  · exact absurd ⟨rfl, rfl⟩ h0
  · obtain ⟨v, e⟩ : ∃ v, v = cv far a b band 0 (j + 1) := ⟨_, rfl⟩
    rw [← e] at q ⊢
    rw [cv] at e
    unfold stp at e
    split at e
    · omega
    · refine ⟨_, e, by omega, ?_, by omega, by omega, fun _ => by simp only [Nat.add_sub_cancel]; omega⟩
      right; right; refine ⟨by omega, ?_⟩; simp only [Nat.add_sub_cancel]; omega
  · obtain ⟨v, e⟩ : ∃ v, v = cv far a b band (i + 1) 0 := ⟨_, rfl⟩
    rw [← e] at q ⊢
    rw [cv] at e
    unfold stp at e
    split at e
    · omega
    · refine ⟨_, e, by omega, ?_, by omega, fun _ => by simp only [Nat.add_sub_cancel]; omega, by omega⟩
      right; left; refine ⟨by omega, ?_⟩; simp only [Nat.add_sub_cancel]; omega
  · obtain ⟨v, e⟩ : ∃ v, v = cv far a b band (i + 1) (j + 1) := ⟨_, rfl⟩
    rw [← e] at q ⊢
    rw [cv] at e
    unfold stp at e
    split at e
    · omega
    · refine ⟨_, e, by omega, ?_, fun _ _ => by simp only [Nat.add_sub_cancel]; omega, fun _ => by simp only [Nat.add_sub_cancel]; omega, fun _ => by simp only [Nat.add_sub_cancel]; omega⟩
      simp only [Nat.add_sub_cancel]
      omega

theorem okAB_of {a b : List Feat} (ha : okFeats a 72 = true) (hb : okFeats b 72 = true) : okAB a b := ⟨fun i hi => okFeats_at ha hi, fun j hj => okFeats_at hb hj, by have := okFeats_n ha; omega, by have := okFeats_n hb; omega⟩
theorem inBd_end {band : Int} {n m : Nat} (h : inBd band n m) (hn : 1 ≤ n) (hm : 1 ≤ m) : inBd band (n - 1) (m - 1) := by unfold inBd at *; omega

theorem eq_nb {a b : List Feat} {band : Int} {i j : Nat} (hab : okAB a b) (hi : i < a.length) (hj : j < b.length) {x : Int} (hx : x ≤ 87000) : (cv farI a b band i j = x) ↔ (cv farS a b band i j = x) := by
  rcases cv_fin (band := band) hab hi hj with h | h <;> omega
theorem nx_le (a b : List Feat) (band : Int) (i j : Nat) : (nx a b band i j).1 ≤ i ∧ (nx a b band i j).2 ≤ j := by
  unfold nx; split
  · exact ⟨Nat.sub_le _ _, Nat.sub_le _ _⟩
  · split
    · exact ⟨Nat.sub_le _ _, Nat.le_refl _⟩
    · exact ⟨Nat.le_refl _, Nat.sub_le _ _⟩
theorem nx_ok {a b : List Feat} {band : Int} {i j : Nat} (hab : okAB a b) (hi : i < a.length) (hj : j < b.length) (hb : inBd band i j) (h0 : ¬ (i = 0 ∧ j = 0)) :
    inBd band (nx a b band i j).1 (nx a b band i j).2 ∧ (nx a b band i j).1 + (nx a b band i j).2 < i + j ∧ i ≤ (nx a b band i j).1 + 1 := by
  obtain ⟨x, e, hx, ho, _⟩ := cv_add (far := farS) (by decide) hab hi hj hb h0
  have hF : farS = 1000000000 := rfl
  have fin : ∀ p q, p < a.length → q < b.length → cv farS a b band p q = x → inBd band p q := fun p q hp hq h => by
    rcases cv_fin (band := band) hab hp hq with g | g
    · exact g.1
    · omega
  have ex : cv farS a b band i j - costF (at_ a i) (at_ b j) = x := by omega
  unfold nx
  rw [ex]
  by_cases h1 : (0 < i ∧ 0 < j) ∧ cv farS a b band (i - 1) (j - 1) = x
  · rw [if_pos h1]; exact ⟨fin _ _ (by omega) (by omega) h1.2, by dsimp only; omega, by dsimp only; omega⟩
  · rw [if_neg h1]
    by_cases h2 : 0 < i ∧ cv farS a b band (i - 1) j = x
    · rw [if_pos h2]; exact ⟨fin _ _ (by omega) (by omega) h2.2, by dsimp only; omega, by dsimp only; omega⟩
    · rw [if_neg h2]
      have h3 : 0 < j ∧ x = cv farS a b band i (j - 1) := by
        rcases ho with g | g | g
        · exact absurd ⟨g.1, g.2.symm⟩ h1
        · exact absurd ⟨g.1, g.2.symm⟩ h2
        · exact g
      exact ⟨fin _ _ (by omega) (by omega) h3.2.symm, by dsimp only; omega, by dsimp only; omega⟩
/-- The path of least cost, from its end. -/
def bk (a b : List Feat) (band : Int) : Nat → Nat → Nat → List Pair
  | 0, i, j => [⟨i, j⟩]
  | s + 1, i, j => if i = 0 ∧ j = 0 then [⟨i, j⟩] else ⟨i, j⟩ :: bk a b band s (nx a b band i j).1 (nx a b band i j).2
theorem bk_head (a b : List Feat) (band : Int) (s i j : Nat) : bk a b band s i j = ⟨i, j⟩ :: (bk a b band s i j).tail := by
  cases s with
  | zero => rfl
  | succ s => unfold bk; split <;> rfl
theorem bk_end (a b : List Feat) (band : Int) (s : Nat) : (bk a b band s 0 0).tail = [] := by
  cases s with
  | zero => rfl
  | succ s => rfl
theorem bk_tail {a b : List Feat} {band : Int} {s i j : Nat} (h0 : ¬ (i = 0 ∧ j = 0)) : (bk a b band (s + 1) i j).tail = ⟨(nx a b band i j).1, (nx a b band i j).2⟩ :: (bk a b band s (nx a b band i j).1 (nx a b band i j).2).tail := by
  rw [← bk_head, bk, if_neg h0, List.tail_cons]
theorem bk_len (a b : List Feat) (band : Int) : ∀ s i j : Nat, 1 ≤ (bk a b band s i j).length ∧ (bk a b band s i j).length ≤ s + 1
  | 0, i, j => by simp [bk]
  | s + 1, i, j => by
    have := bk_len a b band s (nx a b band i j).1 (nx a b band i j).2
    unfold bk; split <;> simp <;> omega
theorem bk_mem {a b : List Feat} {band : Int} : ∀ {s i j : Nat} {p : Pair}, p ∈ bk a b band s i j → (0 ≤ p.I ∧ p.I ≤ (i : Int)) ∧ 0 ≤ p.J ∧ p.J ≤ (j : Int)
  | 0, i, j, p, h => by simp [bk] at h; subst h; simp
  | s + 1, i, j, p, h => by
    unfold bk at h
    split at h
    · simp at h; subst h; simp
    · rcases List.mem_cons.1 h with e | e
      · subst e; simp
      · have q := bk_mem e
        have n := nx_le a b band i j
        omega
theorem bk_cov {a b : List Feat} {band : Int} (hab : okAB a b) : ∀ (s i j : Nat), i < a.length → j < b.length → inBd band i j → i + j ≤ s → ∀ k : Nat, k ≤ i → ∃ p ∈ bk a b band s i j, p.I = (k : Int)
  | 0, i, j, hi, hj, hb, hs, k, hk => ⟨⟨i, j⟩, by simp [bk], by dsimp only; omega⟩
  | s + 1, i, j, hi, hj, hb, hs, k, hk => by
    by_cases e : k = i
    · subst e; exact ⟨⟨k, j⟩, by rw [bk_head]; simp, rfl⟩
    · have h0 : ¬ (i = 0 ∧ j = 0) := by omega
      have n := nx_ok hab hi hj hb h0
      have l := nx_le a b band i j
      obtain ⟨p, hp, hq⟩ := bk_cov hab s _ _ (by omega) (by omega) n.1 (by omega) k (by omega)
      exact ⟨p, by unfold bk; rw [if_neg h0]; exact List.mem_cons_of_mem _ hp, hq⟩
/-- The whole path, from its end. -/
def tot (a b : List Feat) (band : Int) : List Pair := bk a b band (a.length + b.length - 1) (a.length - 1) (b.length - 1)
/-- The step that is taken. -/
def isNx (a b : List Feat) (band i j i2 j2 : Int) : Prop := (0 ≤ i2 ∧ i2 ≤ i) ∧ (0 ≤ j2 ∧ j2 ≤ j) ∧ i2.toNat = (nx a b band i.toNat j.toNat).1 ∧ j2.toNat = (nx a b band i.toNat j.toNat).2
theorem tb_at {a b : List Feat} {band : Int} {tb : List (List Int)} (h : tbOk a b band tb a.length) {p q : Nat} (hp : p < a.length) (hq : q < b.length) : at_ (at_ tb p) q = cv farI a b band p q := (h.2 p hp).2 q hq
theorem lst_eq {a b : List Feat} {band : Int} {tb : List (List Int)} {i j : Nat} (hab : okAB a b) (h : tbOk a b band tb a.length) (hi : i < a.length) (hj : j < b.length) (hb : inBd band i j) (h0 : ¬ (i = 0 ∧ j = 0)) :
    lb3 tb i j = cv farS a b band i j - costF (at_ a i) (at_ b j) ∧ lb3 tb i j ≤ 87000 := by
  have q := lb_at hab (i := i) (j := j) ⟨h.1, fun p hp => h.2 p (by omega)⟩ ⟨(h.2 i hi).1, fun q hq => (h.2 i hi).2 q (by omega)⟩ hi hj
  have hc := costF_bd (hab.1 i hi) (hab.2.1 j hj)
  have e := q.2
  have hF : farI = 1099511627776 := rfl
  have hb' := hb
  unfold inBd at hb'
  rw [if_neg h0] at e
  unfold stp at e
  rcases cv_fin (band := band) hab hi hj with g | g
  · split at e <;> omega
  · exact absurd hb g.1
theorem nx_1 {a b : List Feat} {band : Int} {tb : List (List Int)} {i j : Int} (hab : okAB a b) (h : tbOk a b band tb a.length) (hi : 0 ≤ i ∧ i < (a.length : Int)) (hj : 0 ≤ j ∧ j < (b.length : Int)) (hb : inBd band i.toNat j.toNat) (h0 : ¬ (i = 0 ∧ j = 0))
    (c1 : 1 ≤ i ∧ 1 ≤ j ∧ at_ (at_ tb (i - 1).toNat) (j - 1).toNat = lb3 tb i j) : isNx a b band i j (i - 1) (j - 1) := by
  have hl := lst_eq hab h (i := i.toNat) (j := j.toNat) (by omega) (by omega) hb (by omega)
  rw [show ((i.toNat : Nat) : Int) = i from by omega, show ((j.toNat : Nat) : Int) = j from by omega] at hl
  have e := c1.2.2
  rw [tb_at h (by omega) (by omega), eq_nb hab (by omega) (by omega) hl.2, hl.1, show (i - 1).toNat = i.toNat - 1 from by omega, show (j - 1).toNat = j.toNat - 1 from by omega] at e
  unfold isNx nx
  rw [if_pos ⟨by omega, e⟩]
  dsimp only; omega
theorem nx_2 {a b : List Feat} {band : Int} {tb : List (List Int)} {i j : Int} (hab : okAB a b) (h : tbOk a b band tb a.length) (hi : 0 ≤ i ∧ i < (a.length : Int)) (hj : 0 ≤ j ∧ j < (b.length : Int)) (hb : inBd band i.toNat j.toNat) (h0 : ¬ (i = 0 ∧ j = 0))
    (c1 : ¬ (1 ≤ i ∧ 1 ≤ j ∧ at_ (at_ tb (i - 1).toNat) (j - 1).toNat = lb3 tb i j)) (c2 : 1 ≤ i ∧ at_ (at_ tb (i - 1).toNat) (j - 0).toNat = lb3 tb i j) : isNx a b band i j (i - 1) (j - 0) := by
  have hl := lst_eq hab h (i := i.toNat) (j := j.toNat) (by omega) (by omega) hb (by omega)
  rw [show ((i.toNat : Nat) : Int) = i from by omega, show ((j.toNat : Nat) : Int) = j from by omega] at hl
  have e := c2.2
  rw [tb_at h (by omega) (by omega), eq_nb hab (by omega) (by omega) hl.2, hl.1, show (i - 1).toNat = i.toNat - 1 from by omega, show (j - 0).toNat = j.toNat from by omega] at e
  unfold isNx nx
  rw [if_neg (fun q => c1 ⟨by omega, by omega, by rw [tb_at h (by omega) (by omega), eq_nb hab (by omega) (by omega) hl.2, hl.1, show (i - 1).toNat = i.toNat - 1 from by omega, show (j - 1).toNat = j.toNat - 1 from by omega]; exact q.2⟩), if_pos ⟨by omega, e⟩]
  dsimp only; omega
theorem nx_3 {a b : List Feat} {band : Int} {tb : List (List Int)} {i j : Int} (hab : okAB a b) (h : tbOk a b band tb a.length) (hi : 0 ≤ i ∧ i < (a.length : Int)) (hj : 0 ≤ j ∧ j < (b.length : Int)) (hb : inBd band i.toNat j.toNat) (h0 : ¬ (i = 0 ∧ j = 0))
    (c1 : ¬ (1 ≤ i ∧ 1 ≤ j ∧ at_ (at_ tb (i - 1).toNat) (j - 1).toNat = lb3 tb i j)) (c2 : ¬ (1 ≤ i ∧ at_ (at_ tb (i - 1).toNat) (j - 0).toNat = lb3 tb i j)) : isNx a b band i j (i - 0) (j - 1) ∧ 1 ≤ j ∧ at_ (at_ tb (i - 0).toNat) (j - 1).toNat = lb3 tb i j := by
  have hl := lst_eq hab h (i := i.toNat) (j := j.toNat) (by omega) (by omega) hb (by omega)
  rw [show ((i.toNat : Nat) : Int) = i from by omega, show ((j.toNat : Nat) : Int) = j from by omega] at hl
  have n1 : ¬ ((0 < i.toNat ∧ 0 < j.toNat) ∧ cv farS a b band (i.toNat - 1) (j.toNat - 1) = cv farS a b band i.toNat j.toNat - costF (at_ a i.toNat) (at_ b j.toNat)) := fun q => c1 ⟨by omega, by omega, by rw [tb_at h (by omega) (by omega), eq_nb hab (by omega) (by omega) hl.2, hl.1, show (i - 1).toNat = i.toNat - 1 from by omega, show (j - 1).toNat = j.toNat - 1 from by omega]; exact q.2⟩
  have n2 : ¬ (0 < i.toNat ∧ cv farS a b band (i.toNat - 1) j.toNat = cv farS a b band i.toNat j.toNat - costF (at_ a i.toNat) (at_ b j.toNat)) := fun q => c2 ⟨by omega, by rw [tb_at h (by omega) (by omega), eq_nb hab (by omega) (by omega) hl.2, hl.1, show (i - 1).toNat = i.toNat - 1 from by omega, show (j - 0).toNat = j.toNat from by omega]; exact q.2⟩
  obtain ⟨x, e, hx, ho, _⟩ := cv_add (far := farS) (by decide) hab (i := i.toNat) (j := j.toNat) (by omega) (by omega) hb (by omega)
  have ex : cv farS a b band i.toNat j.toNat - costF (at_ a i.toNat) (at_ b j.toNat) = x := by omega
  rw [ex] at n1 n2
  have h3 : 0 < j.toNat ∧ x = cv farS a b band i.toNat (j.toNat - 1) := by
    rcases ho with g | g | g
    · exact absurd ⟨g.1, g.2.symm⟩ n1
    · exact absurd ⟨g.1, g.2.symm⟩ n2
    · exact g
  refine ⟨?_, by omega, ?_⟩
  · unfold isNx nx
    rw [ex, if_neg n1, if_neg n2]
    dsimp only; omega
  · rw [tb_at h (by omega) (by omega), eq_nb hab (by omega) (by omega) hl.2, hl.1, ex, show (i - 0).toNat = i.toNat from by omega, show (j - 1).toNat = j.toNat - 1 from by omega]
    exact h3.2.symm

/-- A step goes on. -/
theorem nx_go {a b : List Feat} {band i j i2 j2 : Int} (hab : okAB a b) (hi : 0 ≤ i ∧ i < (a.length : Int)) (hj : 0 ≤ j ∧ j < (b.length : Int)) (hb : inBd band i.toNat j.toNat) (h0 : ¬ (i = 0 ∧ j = 0)) (h : isNx a b band i j i2 j2) {s : Nat} :
    (inBd band i2.toNat j2.toNat ∧ i2 + j2 < i + j) ∧ (bk a b band (s + 1) i.toNat j.toNat).tail = ⟨i2, j2⟩ :: (bk a b band s i2.toNat j2.toNat).tail := by
  obtain ⟨h1, h2, h3, h4⟩ := h
  have n := nx_ok hab (i := i.toNat) (j := j.toNat) (by omega) (by omega) hb (by omega)
  rw [← h3, ← h4] at n
  refine ⟨⟨n.1, by omega⟩, ?_⟩
  rw [bk_tail (by omega), ← h3, ← h4, show ((i2.toNat : Nat) : Int) = i2 from by omega, show ((j2.toNat : Nat) : Int) = j2 from by omega]
theorem tot_start {a b : List Feat} {band : Int} {i j : Int} (hi : i = (a.length : Int) - 1) (hj : j = (b.length : Int) - 1) (ha : 1 ≤ a.length) (hb : 1 ≤ b.length) : [Pair.mk i j] ++ (bk a b band (a.length + b.length - [Pair.mk i j].length) i.toNat j.toNat).tail = tot a b band := by
  subst hi hj
  unfold tot
  rw [bk_head a b band (a.length + b.length - 1)]
  have e1 : ((a.length : Int) - 1).toNat = a.length - 1 := by omega
  have e2 : ((b.length : Int) - 1).toNat = b.length - 1 := by omega
  rw [e1, e2, show ((a.length : Int) - 1) = ((a.length - 1 : Nat) : Int) from by omega, show ((b.length : Int) - 1) = ((b.length - 1 : Nat) : Int) from by omega]
  rfl
theorem tot_next {a b : List Feat} {band i j i2 j2 : Int} (hab : okAB a b) (hi : 0 ≤ i ∧ i < (a.length : Int)) (hj : 0 ≤ j ∧ j < (b.length : Int)) (hb : inBd band i.toNat j.toNat) (h0 : ¬ (i = 0 ∧ j = 0)) (h : isNx a b band i j i2 j2) {bs : List Pair} (hl : i + j + (bs.length : Int) ≤ (a.length : Int) + (b.length : Int) - 1)
    (ht : bs ++ (bk a b band (a.length + b.length - bs.length) i.toNat j.toNat).tail = tot a b band) : (bs ++ [Pair.mk i2 j2]) ++ (bk a b band (a.length + b.length - (bs ++ [Pair.mk i2 j2]).length) i2.toNat j2.toNat).tail = tot a b band := by
  rw [show a.length + b.length - bs.length = (a.length + b.length - (bs ++ [Pair.mk i2 j2]).length) + 1 from by simp; omega, (nx_go hab hi hj hb h0 h).2] at ht
  rw [List.append_assoc]
  exact ht
theorem tot_pre {a b : List Feat} {band i j i2 j2 : Int} (hab : okAB a b) (hi : 0 ≤ i ∧ i < (a.length : Int)) (hj : 0 ≤ j ∧ j < (b.length : Int)) (hb : inBd band i.toNat j.toNat) (h0 : ¬ (i = 0 ∧ j = 0)) (h : isNx a b band i j i2 j2) {bs : List Pair} (hl : i + j + (bs.length : Int) ≤ (a.length : Int) + (b.length : Int) - 1)
    (ht : bs.reverse ++ (bk a b band (a.length + b.length - bs.length) i.toNat j.toNat).tail = tot a b band) : ([Pair.mk i2 j2] ++ bs).reverse ++ (bk a b band (a.length + b.length - ([Pair.mk i2 j2] ++ bs).length) i2.toNat j2.toNat).tail = tot a b band := by
  have e := tot_next hab hi hj hb h0 h (bs := bs.reverse) (by rw [List.length_reverse]; exact hl) (by rw [List.length_reverse]; exact ht)
  simp only [List.length_append, List.length_reverse, List.length_cons, List.length_nil, List.reverse_append, List.reverse_cons, List.reverse_nil, List.nil_append] at e ⊢
  rw [Nat.add_comm 0 1] at *
  rw [Nat.add_comm bs.length] at e
  exact e
theorem tot_end {a b : List Feat} {band i j : Int} {bs : List Pair} {s : Nat} (h0 : i = 0 ∧ j = 0) (ht : bs ++ (bk a b band s i.toNat j.toNat).tail = tot a b band) : bs = tot a b band := by
  obtain ⟨rfl, rfl⟩ := h0
  rw [show (0 : Int).toNat = 0 from rfl, bk_end, List.append_nil] at ht
  exact ht
theorem tot_mem {a b : List Feat} {band : Int} {p : Pair} (ha : 1 ≤ a.length) (hb : 1 ≤ b.length) (h : p ∈ tot a b band) : (0 ≤ p.I ∧ p.I < (a.length : Int)) ∧ 0 ≤ p.J ∧ p.J < (b.length : Int) := by
  have := bk_mem h
  omega
theorem tot_len (a b : List Feat) (band : Int) : 1 ≤ (tot a b band).length ∧ (tot a b band).length ≤ a.length + b.length - 1 + 1 := bk_len a b band _ _ _
theorem rev_next {bs ps : List Pair} {k : Int} (h0 : 0 ≤ k) (hk : k.toNat < bs.length) (hl : ps.length = bs.length) (h : ∀ q : Nat, (q : Int) < k → at_ ps (bs.length - 1 - q) = at_ bs q) {y : Pair} (hy : y = at_ bs k.toNat) {p : Nat} (hp : p = bs.length - 1 - k.toNat) : (ps.set p y).length = bs.length ∧ ∀ q : Nat, (q : Int) < k + 1 → at_ (ps.set p y) (bs.length - 1 - q) = at_ bs q := by
  subst hp hy
  refine ⟨by rw [List.length_set]; exact hl, fun q hq => ?_⟩
  by_cases e : q = k.toNat
  · subst e; rw [at_set_same (by omega)]
  · rw [at_set_oth (by omega)]; exact h q (by omega)
theorem rev_done {bs ps : List Pair} {k : Int} (hk : k = (bs.length : Int)) (hl : ps.length = bs.length) (h : ∀ q : Nat, (q : Int) < k → at_ ps (bs.length - 1 - q) = at_ bs q) : ps = bs.reverse := by
  subst hk
  refine List.ext_getElem (by simp [hl]) fun i h1 h2 => ?_
  rw [List.getElem_reverse, ← at_eq, ← at_eq]
  have e := h (bs.length - 1 - i) (by omega)
  rw [show bs.length - 1 - (bs.length - 1 - i) = i from by omega] at e
  exact e

/-- What a path costs. -/
def pcL (a b : List Feat) : List Pair → Int
  | [] => 0
  | p :: r => costF (at_ a p.I.toNat) (at_ b p.J.toNat) + pcL a b r
theorem cv_00 {a b : List Feat} {band : Int} (hb : inBd band 0 0) : cv farS a b band 0 0 = costF (at_ a 0) (at_ b 0) := by
  have hF : farS = 1000000000 := rfl
  unfold inBd at hb
  rw [cv, stp_add (by omega) (by omega)]; omega
theorem nx_cases {a b : List Feat} {band : Int} {i j : Nat} (hab : okAB a b) (hi : i < a.length) (hj : j < b.length) (hb : inBd band i j) (h0 : ¬ (i = 0 ∧ j = 0)) :
    (0 < i ∧ 0 < j ∧ nx a b band i j = (i - 1, j - 1)) ∨ (0 < i ∧ nx a b band i j = (i - 1, j)) ∨ (0 < j ∧ nx a b band i j = (i, j - 1)) := by
  have q := nx_ok hab hi hj hb h0
  obtain ⟨y, hy⟩ : ∃ y, y = nx a b band i j := ⟨_, rfl⟩
  rw [← hy] at q ⊢
  unfold nx at hy
  split at hy
  · rename_i h; subst hy; exact .inl ⟨h.1.1, h.1.2, rfl⟩
  · split at hy
    · rename_i h; subst hy; exact .inr (.inl ⟨h.1, rfl⟩)
    · subst hy; refine .inr (.inr ⟨?_, rfl⟩); dsimp only at q; omega
theorem nx_cv {a b : List Feat} {band : Int} {i j : Nat} (hab : okAB a b) (hi : i < a.length) (hj : j < b.length) (hb : inBd band i j) (h0 : ¬ (i = 0 ∧ j = 0)) :
    cv farS a b band i j = cv farS a b band (nx a b band i j).1 (nx a b band i j).2 + costF (at_ a i) (at_ b j) := by
  obtain ⟨x, e, hx, ho, _⟩ := cv_add (far := farS) (by decide) hab hi hj hb h0
  have ex : cv farS a b band i j - costF (at_ a i) (at_ b j) = x := by omega
  suffices h : cv farS a b band (nx a b band i j).1 (nx a b band i j).2 = x by omega
  unfold nx
  rw [ex]
  by_cases h1 : (0 < i ∧ 0 < j) ∧ cv farS a b band (i - 1) (j - 1) = x
  · rw [if_pos h1]; exact h1.2
  · rw [if_neg h1]
    by_cases h2 : 0 < i ∧ cv farS a b band (i - 1) j = x
    · rw [if_pos h2]; exact h2.2
    · rw [if_neg h2]
      rcases ho with g | g | g
      · exact absurd ⟨g.1, g.2.symm⟩ h1
      · exact absurd ⟨g.1, g.2.symm⟩ h2
      · exact g.2.symm
theorem bk_cost {a b : List Feat} {band : Int} (hab : okAB a b) : ∀ (s i j : Nat), i < a.length → j < b.length → inBd band i j → i + j ≤ s → cv farS a b band i j = pcL a b (bk a b band s i j)
  | 0, i, j, hi, hj, hb, hs => by
    obtain rfl : i = 0 := by omega
    obtain rfl : j = 0 := by omega
    simp [bk, pcL, cv_00 hb]
  | s + 1, i, j, hi, hj, hb, hs => by
    unfold bk
    by_cases h0 : i = 0 ∧ j = 0
    · obtain ⟨rfl, rfl⟩ := h0
      simp [pcL, cv_00 hb]
    · have n := nx_ok hab hi hj hb h0
      have l := nx_le a b band i j
      rw [if_neg h0, nx_cv hab hi hj hb h0, bk_cost hab s _ _ (by omega) (by omega) n.1 (by omega)]
      simp only [pcL, Int.toNat_natCast]
      omega
theorem bk_least {a a' b : List Feat} {band : Int} (hab : okAB a b) (hab' : okAB a' b) (hl : a'.length = a.length) : ∀ (s i j : Nat), i < a.length → j < b.length → inBd band i j → i + j ≤ s → cv farS a' b band i j ≤ pcL a' b (bk a b band s i j)
  | 0, i, j, hi, hj, hb, hs => by
    obtain rfl : i = 0 := by omega
    obtain rfl : j = 0 := by omega
    simp [bk, pcL, cv_00 hb]
  | s + 1, i, j, hi, hj, hb, hs => by
    unfold bk
    by_cases h0 : i = 0 ∧ j = 0
    · obtain ⟨rfl, rfl⟩ := h0
      simp [pcL, cv_00 hb]
    · have n := nx_ok hab hi hj hb h0
      have l := nx_le a b band i j
      have ih := bk_least hab hab' hl s _ _ (show (nx a b band i j).1 < a.length by omega) (show (nx a b band i j).2 < b.length by omega) n.1 (by omega)
      obtain ⟨x, e, _, _, h1, h2, h3⟩ := cv_add (far := farS) (by decide) hab' (by omega) hj hb h0
      rw [if_neg h0]
      simp only [pcL, Int.toNat_natCast]
      have : x ≤ cv farS a' b band (nx a b band i j).1 (nx a b band i j).2 := by
        rcases nx_cases hab hi hj hb h0 with ⟨g1, g2, g⟩ | ⟨g1, g⟩ | ⟨g1, g⟩ <;> rw [g]
        · exact h1 g1 g2
        · exact h2 g1
        · exact h3 g1
      omega
/-- A sum over a list. -/
def smL {α : Type} (f : α → Int) : List α → Int
  | [] => 0
  | x :: r => f x + smL f r
theorem smL_app {α : Type} (f : α → Int) (xs ys : List α) : smL f (xs ++ ys) = smL f xs + smL f ys := by
  induction xs with
  | nil => simp [smL]
  | cons x r ih => simp only [List.cons_append, smL, ih]; omega
theorem smL_perm {α : Type} (f : α → Int) {xs ys : List α} (h : List.Perm xs ys) : smL f xs = smL f ys := by
  induction h with
  | nil => rfl
  | cons x _ ih => simp only [smL, ih]
  | swap x y l => simp only [smL]; omega
  | trans _ _ h1 h2 => exact h1.trans h2
theorem smL_split (g : Pair → Int) (P : List Pair) (k : Int) : smL g (P.filter fun p => decide (p.I < k + 1)) = smL g (P.filter fun p => decide (p.I < k)) + smL g (P.filter fun p => decide (p.I = k)) := by
  induction P with
  | nil => rfl
  | cons p r ih =>
    simp only [List.filter_cons]
    by_cases h1 : p.I < k
    · rw [if_pos (by simpa using (show p.I < k + 1 by omega)), if_pos (by simpa using h1), if_neg (by simpa using (show ¬ p.I = k by omega))]
      simp only [smL, ih]; omega
    · by_cases h2 : p.I = k
      · rw [if_pos (by simpa using (show p.I < k + 1 by omega)), if_neg (by simpa using h1), if_pos (by simpa using h2)]
        simp only [smL, ih]; omega
      · rw [if_neg (by simpa using (show ¬ p.I < k + 1 by omega)), if_neg (by simpa using h1), if_neg (by simpa using h2)]
        exact ih
theorem smL_none (g : Pair → Int) (P : List Pair) (h : ∀ p ∈ P, 0 ≤ p.I) : smL g (P.filter fun p => decide (p.I < (0 : Int))) = 0 := by
  rw [List.filter_eq_nil_iff.2 fun p hp => by have := h p hp; simpa using this]; rfl
theorem smL_le_all {g g' : Pair → Int} {P : List Pair} (h0 : ∀ p ∈ P, 0 ≤ p.I) (n : Nat) (h : ∀ k : Nat, k < n → smL g (P.filter fun p => decide (p.I = (k : Int))) ≤ smL g' (P.filter fun p => decide (p.I = (k : Int)))) :
    smL g (P.filter fun p => decide (p.I < (n : Int))) ≤ smL g' (P.filter fun p => decide (p.I < (n : Int))) := by
  induction n with
  | zero => show smL g (P.filter fun p => decide (p.I < (0 : Int))) ≤ smL g' (P.filter fun p => decide (p.I < (0 : Int))); rw [smL_none _ _ h0, smL_none _ _ h0]; exact Int.le_refl _
  | succ n ih =>
    have e := smL_split g P (n : Int)
    have e' := smL_split g' P (n : Int)
    have q := ih fun k hk => h k (by omega)
    have q2 := h n (by omega)
    rw [show ((n + 1 : Nat) : Int) = (n : Int) + 1 from rfl, e, e']
    omega
theorem pcL_eq (a b : List Feat) (P : List Pair) : pcL a b P = smL (fun p => costF (at_ a p.I.toNat) (at_ b p.J.toNat)) P := by
  induction P with
  | nil => rfl
  | cons p r ih => simp only [pcL, smL, ih]

/-- f 0 + .. + f (n - 1). -/
def sumN : Nat → (Nat → Int) → Int
  | 0, _ => 0
  | n + 1, f => sumN n f + f n
theorem sumN_succ {n : Int} (h : 0 ≤ n) (f : Nat → Int) : sumN (n + 1).toNat f = sumN n.toNat f + f n.toNat := by
  have : (n + 1).toNat = n.toNat + 1 := by omega
  rw [this]; rfl

def cmpI (a b : Int) : Int := if a < b then -1 else if b < a then 1 else 0
theorem cmpI_neg {a b : Int} : cmpI a b < 0 ↔ a < b := by unfold cmpI; split <;> (try split) <;> omega
theorem cmpI_zero {a b : Int} : cmpI a b = 0 ↔ a = b := by unfold cmpI; split <;> (try split) <;> omega
theorem cmpI_bd (a b : Int) : -1 ≤ cmpI a b ∧ cmpI a b ≤ 1 := by unfold cmpI; split <;> (try split) <;> omega
/-- A list with x at place j. -/
def shfL {α : Type} (p : List α) (x : α) (j : Nat) : List α := p.take j ++ x :: p.drop j
theorem shf_len {α : Type} {p : List α} {x : α} {j : Nat} (h : j ≤ p.length) : (shfL p x j).length = p.length + 1 := by
  simp [shfL]; omega
theorem shf_end {α : Type} (p : List α) (x : α) : shfL p x p.length = p ++ [x] := by simp [shfL]
theorem shf_at {α : Type} [Inhabited α] {p r : List α} {x : α} {j : Nat} (h : j ≤ p.length) : at_ (shfL p x j ++ r) j = x := by
  have hl : (p.take j).length = j := by simp; omega
  rw [shfL, List.append_assoc, at_right (by omega), hl, Nat.sub_self]; simp [at_]
theorem shf_below {α : Type} [Inhabited α] {p r : List α} {x : α} {j k : Nat} (h : j ≤ p.length) (hk : k < j) : at_ (shfL p x j ++ r) k = at_ p k := by
  have hl : (p.take j).length = j := by simp; omega
  rw [shfL, List.append_assoc, at_left (by omega), at_eq (by omega), at_eq (by omega), List.getElem_take]
theorem at_cons {α : Type} [Inhabited α] (x : α) (l : List α) (k : Nat) : at_ (x :: l) (k + 1) = at_ l k := by simp [at_]
theorem at_drop {α : Type} [Inhabited α] (l : List α) (j k : Nat) : at_ (l.drop j) k = at_ l (j + k) := by simp [at_, List.getElem?_drop]
theorem shf_above {α : Type} [Inhabited α] {p r : List α} {x : α} {j k : Nat} (h : j ≤ p.length) (hk : j < k) : at_ (shfL p x j ++ r) k = at_ (p ++ r) (k - 1) := by
  have hl : (p.take j).length = j := by simp; omega
  have e : k - j = (k - 1 - j) + 1 := by omega
  rw [shfL, List.append_assoc, at_right (by omega), hl, e, List.cons_append, at_cons]
  by_cases c : k - 1 < p.length
  · rw [at_left (by simp; omega), at_left c, at_drop]; congr 1; omega
  · rw [at_right (by simp; omega), at_right (by omega)]; congr 1; simp; omega
theorem shf_step {α : Type} [Inhabited α] {p r : List α} {x : α} {j : Nat} (h : j + 1 ≤ p.length) : ((shfL p x (j + 1) ++ r).set (j + 1) (at_ p j)).set j x = shfL p x j ++ r := by
  refine ext_at (by simp [shf_len h, shf_len (show j ≤ p.length by omega)]) fun k hk => ?_
  have hl : (shfL p x (j + 1) ++ r).length = p.length + 1 + r.length := by rw [List.length_append, shf_len h]
  rw [List.length_set, List.length_set, hl] at hk
  by_cases e1 : k = j
  · rw [e1, at_set_same (by rw [List.length_set, hl]; omega), shf_at (by omega)]
  · rw [at_set_oth e1]
    by_cases e2 : k = j + 1
    · rw [e2, at_set_same (by rw [hl]; omega), shf_above (by omega) (by omega), at_left (by omega)]; rfl
    · rw [at_set_oth e2]
      by_cases c : k < j
      · rw [shf_below h (by omega), shf_below (by omega) c]
      · rw [shf_above h (by omega), shf_above (by omega) (by omega)]
/-- Where x goes among the first j of p. -/
def posL {α : Type} [Inhabited α] (c : α → α → Int) (x : α) (p : List α) : Nat → Nat
  | 0 => 0
  | j + 1 => if c x (at_ p j) < 0 then posL c x p j else j + 1
theorem posL_le {α : Type} [Inhabited α] (c : α → α → Int) (x : α) (p : List α) : ∀ j : Nat, posL c x p j ≤ j
  | 0 => Nat.le_refl _
  | j + 1 => by unfold posL; split; exact Nat.le_succ_of_le (posL_le c x p j); exact Nat.le_refl _
def insL {α : Type} [Inhabited α] (c : α → α → Int) (p : List α) (x : α) : List α := shfL p x (posL c x p p.length)
/-- The first k elements, sorted. -/
def isoL {α : Type} [Inhabited α] (c : α → α → Int) (xs : List α) : Nat → List α
  | 0 => []
  | k + 1 => insL c (isoL c xs k) (at_ xs k)
theorem isoL_len {α : Type} [Inhabited α] (c : α → α → Int) (xs : List α) : ∀ k : Nat, (isoL c xs k).length = k
  | 0 => rfl
  | k + 1 => by unfold isoL insL; rw [shf_len (posL_le _ _ _ _), isoL_len c xs k]
theorem isoL_one {α : Type} [Inhabited α] (c : α → α → Int) (xs : List α) : isoL c xs 1 = [at_ xs 0] := rfl
theorem pos_hit {α : Type} [Inhabited α] {c : α → α → Int} {x : α} {p : List α} {j : Nat} (h : ∀ k : Nat, j ≤ k → k < p.length → c x (at_ p k) < 0) (hj : j ≤ p.length) (h2 : j = 0 ∨ ¬ c x (at_ p (j - 1)) < 0) : posL c x p p.length = j := by
  have : ∀ m : Nat, m + j ≤ p.length → posL c x p (j + m) = j := fun m => by
    induction m with
    | zero =>
      intro _
      rcases h2 with e | e
      · subst e; rfl
      · cases j with
        | zero => rfl
        | succ j => exact if_neg e
    | succ m ih => intro hm; exact (if_pos (h (j + m) (by omega) (by omega))).trans (ih (by omega))
  have := this (p.length - j) (by omega)
  rwa [show j + (p.length - j) = p.length from by omega] at this
theorem shf_perm {α : Type} (p : List α) (x : α) (j : Nat) : List.Perm (shfL p x j) (p ++ [x]) := by
  unfold shfL
  refine List.perm_middle.trans ?_
  rw [List.take_append_drop]
  exact (List.perm_append_singleton x p).symm
theorem isoL_perm {α : Type} [Inhabited α] (c : α → α → Int) (xs : List α) : ∀ k : Nat, k ≤ xs.length → List.Perm (isoL c xs k) (xs.take k)
  | 0, _ => by simp [isoL]
  | k + 1, h => by
    rw [List.take_succ_eq_append_getElem (by omega), ← at_eq (by omega)]
    exact (shf_perm _ _ _).trans ((isoL_perm c xs k (by omega)).append_right _)
/-- Two elements are in order: by the comparison, and where it is even by B. -/
def ordR {α : Type} (c : α → α → Int) (B : α → α → Prop) (x y : α) : Prop := c x y < 0 ∨ c x y = 0 ∧ B x y
/-- A comparison that orders. -/
structure CmpW {α : Type} (c : α → α → Int) : Prop where
  anti : ∀ x y, c x y < 0 ↔ 0 < c y x
  trans : ∀ x y z, c x y ≤ 0 → c y z < 0 → c x z < 0
theorem CmpW.refl {α : Type} {c : α → α → Int} (h : CmpW c) (x : α) : c x x = 0 := by have := h.anti x x; omega
theorem CmpW.zero {α : Type} {c : α → α → Int} (h : CmpW c) {x y : α} (e : c x y = 0) : c y x = 0 := by have h1 := h.anti x y; have h2 := h.anti y x; omega
theorem CmpW.le {α : Type} {c : α → α → Int} (h : CmpW c) {x y z : α} (h1 : c x y ≤ 0) (h2 : c y z ≤ 0) : c x z ≤ 0 := by
  rcases Int.lt_or_le 0 (c x z) with g | g
  · have q := (h.anti z x).2 g
    have q2 : c y x < 0 := h.trans y z x h2 q
    have := (h.anti y x).1 q2; omega
  · exact g
theorem pos_lo {α : Type} [Inhabited α] {c : α → α → Int} {x : α} {p : List α} : ∀ (n k : Nat), posL c x p n ≤ k → k < n → c x (at_ p k) < 0
  | 0, k, _, h => absurd h (Nat.not_lt_zero _)
  | n + 1, k, h1, h2 => by
    unfold posL at h1
    split at h1
    · rename_i g
      by_cases e : k = n
      · subst e; exact g
      · exact pos_lo n k h1 (by omega)
    · omega
theorem pos_at {α : Type} [Inhabited α] {c : α → α → Int} {x : α} {p : List α} : ∀ n : Nat, posL c x p n = 0 ∨ ¬ c x (at_ p (posL c x p n - 1)) < 0
  | 0 => .inl rfl
  | n + 1 => by
    unfold posL
    split
    · exact pos_at n
    · right; assumption
/-- The list is in order, where all of xs are in order by B. -/
theorem isoL_ord {α : Type} [Inhabited α] {c : α → α → Int} (hc : CmpW c) {B : α → α → Prop} {xs : List α} (hB : xs.Pairwise B) : ∀ k : Nat, k ≤ xs.length → (isoL c xs k).Pairwise (ordR c B)
  | 0, _ => by simp [isoL]
  | k + 1, h => by
    have ih := isoL_ord hc hB k (by omega)
    have hp := isoL_perm c xs k (by omega)
    have hl := isoL_len c xs k
    obtain ⟨p, hpe⟩ : ∃ p, p = isoL c xs k := ⟨_, rfl⟩
    obtain ⟨x, hx⟩ : ∃ x, x = at_ xs k := ⟨_, rfl⟩
    rw [isoL, ← hpe, ← hx]
    rw [← hpe] at ih hp hl
    have hbx : ∀ y ∈ p, B y x := fun y hy => by
      have hm := hp.mem_iff.1 hy
      obtain ⟨i, hi, e⟩ := List.getElem_of_mem hm
      rw [List.length_take] at hi
      rw [List.getElem_take] at e
      rw [← e, hx, at_eq (by omega)]
      exact (List.pairwise_iff_getElem.1 hB) i k (by omega) (by omega) (by omega)
    unfold insL shfL
    have hj := posL_le c x p p.length
    have lo := fun k hk hk2 => pos_lo (c := c) (x := x) (p := p) p.length k hk hk2
    have hi := pos_at (c := c) (x := x) (p := p) p.length
    generalize posL c x p p.length = j at hj lo hi ⊢
    have hle : ∀ y ∈ p.take j, c y x ≤ 0 := fun y hy => by
      obtain ⟨i, hi2, e⟩ := List.getElem_of_mem hy
      rw [List.length_take] at hi2
      rw [List.getElem_take] at e
      rcases hi with e0 | e0
      · omega
      · have h3 : c (at_ p (j - 1)) x ≤ 0 := by
          rcases Int.lt_or_le 0 (c (at_ p (j - 1)) x) with g | g
          · exact absurd ((hc.anti _ _).2 g) e0
          · exact g
        rw [← e]
        by_cases ei : i = j - 1
        · have : p[i] = at_ p (j - 1) := by rw [at_eq (by omega)]; congr 1
          rw [this]; exact h3
        · have q := (List.pairwise_iff_getElem.1 ih) i (j - 1) (by omega) (by omega) (by omega)
          rw [← at_eq (show j - 1 < p.length by omega)] at q
          refine hc.le ?_ h3
          rcases q with q | q
          · omega
          · omega
    have hgt : ∀ y ∈ p.drop j, c x y < 0 := fun y hy => by
      obtain ⟨i, hi2, e⟩ := List.getElem_of_mem hy
      rw [List.length_drop] at hi2
      rw [List.getElem_drop] at e
      rw [← e, ← at_eq (by omega)]
      exact lo _ (by omega) (by omega)
    rw [List.pairwise_append]
    refine ⟨ih.sublist (List.take_sublist _ _), List.pairwise_cons.2 ⟨fun y hy => .inl (hgt y hy), ih.sublist (List.drop_sublist _ _)⟩, fun a ha b hb => ?_⟩
    rcases List.mem_cons.1 hb with e | e
    · subst e
      have := hle a ha
      by_cases z : c a b = 0
      · exact .inr ⟨z, hbx a (List.mem_of_mem_take ha)⟩
      · exact .inl (by omega)
    · exact .inl (hc.trans a x b (hle a ha) (hgt b e))
theorem isoL_mem {α : Type} [Inhabited α] {c : α → α → Int} {xs : List α} {x : α} : x ∈ isoL c xs xs.length ↔ x ∈ xs := by
  have := (isoL_perm c xs xs.length (Nat.le_refl _)).mem_iff (a := x)
  rwa [List.take_of_length_le (Nat.le_refl _)] at this
/-- The data in the midst of sorting. -/
theorem iso_start {α : Type} [Inhabited α] (c : α → α → Int) (xs : List α) : xs = isoL c xs (min 1 xs.length) ++ xs.drop 1 := by
  cases xs with
  | nil => rfl
  | cons x r => show x :: r = isoL c (x :: r) (min 1 (r.length + 1)) ++ r; rw [show min 1 (r.length + 1) = 1 from by omega, isoL_one]; rfl
theorem iso_in {α : Type} [Inhabited α] {c : α → α → Int} {xs : List α} {i : Nat} (hi : i < xs.length) : isoL c xs i ++ xs.drop i = shfL (isoL c xs i) (at_ xs i) i ++ xs.drop (i + 1) := by
  have hl := isoL_len c xs i
  have e : shfL (isoL c xs i) (at_ xs i) i = isoL c xs i ++ [at_ xs i] := by
    have := shf_end (isoL c xs i) (at_ xs i); rwa [hl] at this
  rw [e, List.append_assoc, at_eq hi, List.singleton_append, ← List.drop_eq_getElem_cons hi]
theorem iso_out {α : Type} [Inhabited α] {c : α → α → Int} {xs : List α} {i j : Nat} (hj : j ≤ i) (h : ∀ k : Nat, j ≤ k → k < i → c (at_ xs i) (at_ (isoL c xs i) k) < 0) (h2 : j = 0 ∨ ¬ c (at_ xs i) (at_ (isoL c xs i) (j - 1)) < 0) :
    shfL (isoL c xs i) (at_ xs i) j = isoL c xs (i + 1) := by
  have hl := isoL_len c xs i
  have := pos_hit (c := c) (x := at_ xs i) (p := isoL c xs i) (j := j) (fun k h3 h4 => h k h3 (by omega)) (by omega) h2
  show _ = insL c (isoL c xs i) (at_ xs i)
  unfold insL; rw [this]

theorem bk_in {a b : List Feat} {band : Int} (hab : okAB a b) : ∀ (s i j : Nat), i < a.length → j < b.length → inBd band i j → i + j ≤ s → ∀ p ∈ bk a b band s i j, inBd band p.I.toNat p.J.toNat
  | 0, i, j, hi, hj, hb, hs => fun p hp => by simp [bk] at hp; subst hp; simpa using hb
  | s + 1, i, j, hi, hj, hb, hs => fun p hp => by
    unfold bk at hp
    split at hp
    · simp at hp; subst hp; simpa using hb
    · rename_i h0
      rcases List.mem_cons.1 hp with e | e
      · subst e; simpa using hb
      · have n := nx_ok hab hi hj hb h0
        have l := nx_le a b band i j
        exact bk_in hab s _ _ (by omega) (by omega) n.1 (by omega) p e
theorem pcL_nn {a b : List Feat} : ∀ {P : List Pair}, (∀ p ∈ P, 0 ≤ costF (at_ a p.I.toNat) (at_ b p.J.toNat)) → 0 ≤ pcL a b P
  | [], _ => Int.le_refl _
  | p :: r, h => by
    have h1 := h p (by simp)
    have h2 := pcL_nn (a := a) (b := b) (P := r) fun q hq => h q (by simp [hq])
    simp only [pcL]; omega
/-- The path ends at the first pair. -/
theorem bk_first {a b : List Feat} {band : Int} (hab : okAB a b) : ∀ (s i j : Nat), i < a.length → j < b.length → inBd band i j → i + j ≤ s → costF (at_ a 0) (at_ b 0) ≤ pcL a b (bk a b band s i j)
  | 0, i, j, hi, hj, hb, hs => by
    obtain rfl : i = 0 := by omega
    obtain rfl : j = 0 := by omega
    simp [bk, pcL]
  | s + 1, i, j, hi, hj, hb, hs => by
    unfold bk
    by_cases h0 : i = 0 ∧ j = 0
    · obtain ⟨rfl, rfl⟩ := h0; simp [pcL]
    · have n := nx_ok hab hi hj hb h0
      have l := nx_le a b band i j
      have ih := bk_first hab s _ _ (show (nx a b band i j).1 < a.length by omega) (show (nx a b band i j).2 < b.length by omega) n.1 (by omega)
      have c := costF_bd (hab.1 i hi) (hab.2.1 j hj)
      rw [if_neg h0]
      simp only [pcL, Int.toNat_natCast]
      omega
theorem bk_both {a b : List Feat} {band : Int} (hab : okAB a b) {s i j : Nat} (hi : i < a.length) (hj : j < b.length) (hb : inBd band i j) (hs : i + j ≤ s) (h0 : ¬ (i = 0 ∧ j = 0)) : costF (at_ a 0) (at_ b 0) + costF (at_ a i) (at_ b j) ≤ pcL a b (bk a b band s i j) := by
  cases s with
  | zero => omega
  | succ s =>
    unfold bk
    have n := nx_ok hab hi hj hb h0
    have l := nx_le a b band i j
    have ih := bk_first hab s _ _ (show (nx a b band i j).1 < a.length by omega) (show (nx a b band i j).2 < b.length by omega) n.1 (by omega)
    rw [if_neg h0]
    simp only [pcL, Int.toNat_natCast]
    omega
def mnR (g : Nat → Int) (p : Nat) : Nat → Int
  | 0 => g p
  | k + 1 => min (mnR g p k) (g (p + k + 1))
def mxR (g : Nat → Int) (p : Nat) : Nat → Int
  | 0 => g p
  | k + 1 => max (mxR g p k) (g (p + k + 1))
theorem mnR_le (g : Nat → Int) (p : Nat) : ∀ k j : Nat, p ≤ j → j ≤ p + k → mnR g p k ≤ g j
  | 0, j, h1, h2 => by rw [show j = p from by omega]; exact Int.le_refl _
  | k + 1, j, h1, h2 => by
    unfold mnR
    by_cases e : j = p + k + 1
    · subst e; omega
    · have := mnR_le g p k j h1 (by omega); omega
theorem mxR_ge (g : Nat → Int) (p : Nat) : ∀ k j : Nat, p ≤ j → j ≤ p + k → g j ≤ mxR g p k
  | 0, j, h1, h2 => by rw [show j = p from by omega]; exact Int.le_refl _
  | k + 1, j, h1, h2 => by
    unfold mxR
    by_cases e : j = p + k + 1
    · subst e; omega
    · have := mxR_ge g p k j h1 (by omega); omega
theorem mnR_in {g : Nat → Int} {p : Nat} {lo hi : Int} : ∀ k : Nat, (∀ j : Nat, p ≤ j → j ≤ p + k → lo ≤ g j ∧ g j ≤ hi) → (lo ≤ mnR g p k ∧ mnR g p k ≤ hi) ∧ lo ≤ mxR g p k ∧ mxR g p k ≤ hi
  | 0, h => by have := h p (Nat.le_refl _) (Nat.le_refl _); exact ⟨this, this⟩
  | k + 1, h => by
    have ih := mnR_in k fun j h1 h2 => h j h1 (by omega)
    have := h (p + k + 1) (by omega) (by omega)
    unfold mnR mxR; omega
def fromN (band : Int) (i : Nat) : Nat := i - band.toNat
def cntN (m : Nat) (band : Int) (i : Nat) : Nat := min m (i + band.toNat + 1) - (i - band.toNat) - 1
def loE (g : Feat → Int) (b : List Feat) (band : Int) (i : Nat) : Int := mnR (fun j => g (at_ b j)) (fromN band i) (cntN b.length band i)
def hiE (g : Feat → Int) (b : List Feat) (band : Int) (i : Nat) : Int := mxR (fun j => g (at_ b j)) (fromN band i) (cntN b.length band i)
def offI (n low high : Int) : Int := max (max (low - n) (n - high)) 0
def outK (a b : List Feat) (band : Int) (i : Nat) : Int := offI (at_ a i).X (loE Feat.X b band i) (hiE Feat.X b band i) + offI (at_ a i).Y (loE Feat.Y b band i) (hiE Feat.Y b band i)
def outI (a b : List Feat) (band : Int) : Int := sumN a.length (outK a b band)
def endI (a b : List Feat) : Int := if 1 < a.length ∨ 1 < b.length then costF (at_ a 0) (at_ b 0) + costF (at_ a (a.length - 1)) (at_ b (b.length - 1)) else costF (at_ a 0) (at_ b 0)
/-- A bound of the least cost. -/
def lbI (a b : List Feat) (band : Int) : Int := max (outI a b band) (endI a b)
theorem smL_one {g : Pair → Int} {P : List Pair} {p : Pair} (hn : ∀ q ∈ P, 0 ≤ g q) (h : p ∈ P) : g p ≤ smL g P := by
  induction P with
  | nil => simp at h
  | cons q r ih =>
    have h0 := hn q (by simp)
    have hr : 0 ≤ smL g r := by
      clear ih h
      induction r with
      | nil => exact Int.le_refl _
      | cons x r ih =>
        have h1 := hn x (by simp)
        have := ih fun y hy => hn y (by rcases List.mem_cons.1 hy with e | e; (simp [e]); (simp [e]))
        simp only [smL]; omega
    rcases List.mem_cons.1 h with e | e
    · subst e; simp only [smL]; omega
    · have := ih (fun y hy => hn y (by simp [hy])) e
      simp only [smL]; omega
theorem smL_sum {g : Pair → Int} {P : List Pair} {f : Nat → Int} (h0 : ∀ p ∈ P, 0 ≤ p.I) (n : Nat) (h : ∀ k : Nat, k < n → f k ≤ smL g (P.filter fun p => decide (p.I = (k : Int)))) : sumN n f ≤ smL g (P.filter fun p => decide (p.I < (n : Int))) := by
  induction n with
  | zero => show (0 : Int) ≤ smL g (P.filter fun p => decide (p.I < (0 : Int))); rw [smL_none _ _ h0]; exact Int.le_refl _
  | succ n ih =>
    have e := smL_split g P (n : Int)
    have q := ih fun k hk => h k (by omega)
    have q2 := h n (by omega)
    rw [show ((n + 1 : Nat) : Int) = (n : Int) + 1 from rfl, e]
    simp only [sumN]; omega
theorem inBd_rng {m : Nat} {band : Int} {i j : Nat} (h : inBd band i j) (hj : j < m) : fromN band i ≤ j ∧ j ≤ fromN band i + cntN m band i := by
  unfold inBd at h
  unfold fromN cntN; omega
theorem out_one {a b : List Feat} {band : Int} {i j : Nat} (h : inBd band i j) (hj : j < b.length) (ha : okF (at_ a i) = true) (hb : okF (at_ b j) = true) : outK a b band i ≤ costF (at_ a i) (at_ b j) := by
  have r := inBd_rng h hj
  have x1 := mnR_le (fun j => (at_ b j).X) (fromN band i) (cntN b.length band i) j r.1 r.2
  have x2 := mxR_ge (fun j => (at_ b j).X) (fromN band i) (cntN b.length band i) j r.1 r.2
  have y1 := mnR_le (fun j => (at_ b j).Y) (fromN band i) (cntN b.length band i) j r.1 r.2
  have y2 := mxR_ge (fun j => (at_ b j).Y) (fromN band i) (cntN b.length band i) j r.1 r.2
  have f1 := okF_iff.1 ha
  have f2 := okF_iff.1 hb
  unfold outK offI costF loE hiE
  omega
/-- The bound is no greater than the cost. -/
theorem lb_le {a b : List Feat} {band : Int} (ha : okFeats a 72 = true) (hb : okFeats b 72 = true) (h : inBd band a.length b.length) : lbI a b band ≤ cv farS a b band (a.length - 1) (b.length - 1) := by
  have hab := okAB_of ha hb
  have n1 := okFeats_n ha
  have n2 := okFeats_n hb
  have he := inBd_end h n1.1 n2.1
  have e := bk_cost (band := band) hab (a.length + b.length - 1) (a.length - 1) (b.length - 1) (by omega) (by omega) he (by omega)
  rw [e]
  have hcost : ∀ p ∈ bk a b band (a.length + b.length - 1) (a.length - 1) (b.length - 1), 0 ≤ costF (at_ a p.I.toNat) (at_ b p.J.toNat) := fun p hp => by
    have m := bk_mem hp
    exact (costF_bd (hab.1 _ (by omega)) (hab.2.1 _ (by omega))).1
  unfold lbI
  refine Int.max_le.2 ⟨?_, ?_⟩
  · rw [pcL_eq]
    have hall : (bk a b band (a.length + b.length - 1) (a.length - 1) (b.length - 1)).filter (fun p => decide (p.I < (a.length : Int))) = bk a b band (a.length + b.length - 1) (a.length - 1) (b.length - 1) := List.filter_eq_self.2 fun p hp => by have := bk_mem hp; simp; omega
    rw [← hall]
    refine smL_sum (fun p hp => (bk_mem hp).1.1) a.length fun k hk => ?_
    obtain ⟨p, hp, hpk⟩ := bk_cov hab (a.length + b.length - 1) (a.length - 1) (b.length - 1) (by omega) (by omega) he (by omega) k (by omega)
    have m := bk_mem hp
    have hi := bk_in hab (a.length + b.length - 1) (a.length - 1) (b.length - 1) (by omega) (by omega) he (by omega) p hp
    rw [hpk, Int.toNat_natCast] at hi
    have o := out_one (a := a) hi (show p.J.toNat < b.length by omega) (hab.1 k hk) (hab.2.1 _ (by omega))
    refine Int.le_trans o ?_
    have := smL_one (g := fun p => costF (at_ a p.I.toNat) (at_ b p.J.toNat)) (P := (bk a b band (a.length + b.length - 1) (a.length - 1) (b.length - 1)).filter fun p => decide (p.I = (k : Int))) (p := p) (fun q hq => hcost q (List.mem_filter.1 hq).1) (List.mem_filter.2 ⟨hp, by simpa using hpk⟩)
    simp only [hpk, Int.toNat_natCast] at this
    exact this
  · unfold endI
    split
    · exact bk_both hab (by omega) (by omega) he (by omega) (by omega)
    · exact bk_first hab _ _ _ (by omega) (by omega) he (by omega)
theorem loE_bd {b : List Feat} {band : Int} {i n : Nat} {g : Feat → Int} (hb : okFeats b 72 = true) (hg : ∀ f : Feat, okF f = true → 0 ≤ g f ∧ g f ≤ 255) (h : inBd band n b.length) (hi : i < n) : (0 ≤ loE g b band i ∧ loE g b band i ≤ 255) ∧ 0 ≤ hiE g b band i ∧ hiE g b band i ≤ 255 := by
  have n2 := okFeats_n hb
  unfold inBd at h
  exact mnR_in (g := fun j => g (at_ b j)) (p := fromN band i) (lo := 0) (hi := 255) (cntN b.length band i) fun j h1 h2 => hg _ (okFeats_at hb (by unfold fromN cntN at *; omega))
/-- The lists that take part. -/
def inL (a : List Feat) (ls : List (List Feat)) (band : Int) (j : Nat) : Bool := inB band 0 72 && decide ((((a.length : Int) - ((at_ ls j).length : Int)).natAbs : Int) ≤ band)
def cstL (a : List Feat) (ls : List (List Feat)) (band : Int) (j : Nat) : Int := cv farS a (at_ ls j) band (a.length - 1) ((at_ ls j).length - 1)
def ordN (a : List Feat) (ls : List (List Feat)) (band : Int) : Nat → List Int
  | 0 => []
  | k + 1 => if inL a ls band k = true then ordN a ls band k ++ [(k : Int)] else ordN a ls band k
theorem ord_y {a : List Feat} {ls : List (List Feat)} {band : Int} {k : Nat} (h : inL a ls band k = true) : ordN a ls band (k + 1) = ordN a ls band k ++ [(k : Int)] := if_pos h
theorem ord_n {a : List Feat} {ls : List (List Feat)} {band : Int} {k : Nat} (h : ¬ inL a ls band k = true) : ordN a ls band (k + 1) = ordN a ls band k := if_neg h
theorem ord_mem {a : List Feat} {ls : List (List Feat)} {band x : Int} : ∀ {k : Nat}, x ∈ ordN a ls band k ↔ ∃ j : Nat, j < k ∧ inL a ls band j = true ∧ x = (j : Int)
  | 0 => by simp [ordN]
  | k + 1 => by
    by_cases g : inL a ls band k = true
    · rw [ord_y g, List.mem_append, ord_mem, List.mem_singleton]
      constructor
      · rintro (⟨j, h1, h2, h3⟩ | h)
        · exact ⟨j, by omega, h2, h3⟩
        · exact ⟨k, by omega, g, h⟩
      · rintro ⟨j, h1, h2, h3⟩
        by_cases e : j = k
        · subst e; exact .inr h3
        · exact .inl ⟨j, by omega, h2, h3⟩
    · rw [ord_n g, ord_mem]
      constructor
      · rintro ⟨j, h1, h2, h3⟩; exact ⟨j, by omega, h2, h3⟩
      · rintro ⟨j, h1, h2, h3⟩
        by_cases e : j = k
        · subst e; exact absurd h2 g
        · exact ⟨j, by omega, h2, h3⟩
theorem ord_len (a : List Feat) (ls : List (List Feat)) (band : Int) : ∀ k : Nat, (ordN a ls band k).length ≤ k
  | 0 => Nat.le_refl _
  | k + 1 => by
    have := ord_len a ls band k
    unfold ordN; split
    · simp; omega
    · omega
def bndOk (a : List Feat) (ls : List (List Feat)) (band : Int) (k : Nat) (bs : List Int) : Prop := bs.length = ls.length ∧ ∀ j : Nat, j < k → inL a ls band j = true → at_ bs j = lbI a (at_ ls j) band
def cmpB (bs : List Int) (x y : Int) : Int := cmpI (at_ bs x.toNat) (at_ bs y.toNat)
theorem cmpW_of' {α : Type} (f : α → Int) : CmpW (fun x y => cmpI (f x) (f y)) := ⟨fun x y => by have h1 := @cmpI_neg (f x) (f y); unfold cmpI; split <;> (try split) <;> (try split) <;> omega, fun x y z h1 h2 => by
  rw [cmpI_neg] at *
  have := @cmpI_neg (f y) (f x)
  have := @cmpI_zero (f x) (f y)
  have := @cmpI_neg (f x) (f y)
  omega⟩
theorem iso_all {α : Type} [Inhabited α] {c : α → α → Int} {xs : List α} {Q : α → Prop} (h : ∀ x ∈ xs, Q x) (k : Nat) (hk : k ≤ xs.length) : ∀ x ∈ isoL c xs k, Q x := fun x hx => h x (List.mem_of_mem_take ((isoL_perm c xs k hk).mem_iff.1 hx))
/-- The order of the bounds. -/
def boOk (a : List Feat) (ls : List (List Feat)) (band : Int) (v : List Int) : Prop :=
  (∀ x : Int, x ∈ v ↔ ∃ j : Nat, j < ls.length ∧ inL a ls band j = true ∧ x = (j : Int)) ∧ v.length = (ordN a ls band ls.length).length ∧ ∀ i : Nat, 0 < i → i < v.length → lbI a (at_ ls (at_ v (i - 1)).toNat) band ≤ lbI a (at_ ls (at_ v i).toNat) band
theorem bo_ok {a : List Feat} {ls : List (List Feat)} {band : Int} {bs : List Int} (h : bndOk a ls band ls.length bs) : boOk a ls band (isoL (cmpB bs) (ordN a ls band ls.length) (ordN a ls band ls.length).length) := by
  have hm : ∀ x : Int, x ∈ isoL (cmpB bs) (ordN a ls band ls.length) (ordN a ls band ls.length).length ↔ ∃ j : Nat, j < ls.length ∧ inL a ls band j = true ∧ x = (j : Int) := fun x => by rw [isoL_mem, ord_mem]
  refine ⟨hm, isoL_len _ _ _, fun i h0 hi => ?_⟩
  have hB : (ordN a ls band ls.length).Pairwise fun _ _ => True := List.pairwise_iff_getElem.2 fun _ _ _ _ _ => trivial
  have p := isoL_ord (c := cmpB bs) (cmpW_of' fun x : Int => at_ bs x.toNat) hB _ (Nat.le_refl _)
  have q := (List.pairwise_iff_getElem.1 p) (i - 1) i (by omega) hi (by omega)
  rw [← at_eq (by omega), ← at_eq hi] at q
  obtain ⟨j1, h1, h2, h3⟩ := (hm _).1 (at_mem (show i - 1 < _ from by omega))
  obtain ⟨j2, g1, g2, g3⟩ := (hm _).1 (at_mem hi)
  rw [h3, g3] at q ⊢
  rw [Int.toNat_natCast, Int.toNat_natCast, ← h.2 j1 h1 h2, ← h.2 j2 g1 g2]
  unfold ordR cmpB at q
  rw [cmpI_neg, cmpI_zero, Int.toNat_natCast, Int.toNat_natCast] at q
  omega
/-- The nearest of the first k lists. -/
def nrOk (a : List Feat) (ls : List (List Feat)) (band : Int) (k : Nat) (ix lst mt : Int) : Prop :=
  (mt = 0 ∧ ∀ j : Nat, j < k → ¬ inL a ls band j = true) ∨ (1 ≤ mt ∧ mt ≤ ((ordN a ls band k).length : Int) ∧ (0 ≤ ix ∧ ix < (k : Int)) ∧ inL a ls band ix.toNat = true ∧ lst = cstL a ls band ix.toNat ∧ ∀ j : Nat, j < k → inL a ls band j = true → lst ≤ cstL a ls band j ∧ ((j : Int) < ix → lst < cstL a ls band j))
theorem nr_skip {a : List Feat} {ls : List (List Feat)} {band ix lst mt : Int} {k : Nat} (h : nrOk a ls band k ix lst mt) (hs : inL a ls band k = true → 1 ≤ mt ∧ lst ≤ cstL a ls band k) : nrOk a ls band (k + 1) ix lst mt := by
  rcases h with ⟨h1, h2⟩ | ⟨h1, h2, h3, h4, h5, h6⟩
  · refine .inl ⟨h1, fun j hj => ?_⟩
    by_cases e : j = k
    · subst e; exact fun q => by have := hs q; omega
    · exact h2 j (by omega)
  · refine .inr ⟨h1, ?_, ⟨h3.1, by omega⟩, h4, h5, fun j hj hin => ?_⟩
    · by_cases g : inL a ls band k = true
      · rw [ord_y g]; simp; omega
      · rw [ord_n g]; exact h2
    · by_cases e : j = k
      · subst e; exact ⟨(hs hin).2, fun q => by omega⟩
      · exact h6 j (by omega) hin
theorem nr_take {a : List Feat} {ls : List (List Feat)} {band ix lst mt : Int} {k : Nat} (h : nrOk a ls band k ix lst mt) (hin : inL a ls band k = true) (hl : mt = 0 ∨ cstL a ls band k < lst) : nrOk a ls band (k + 1) (k : Int) (cstL a ls band k) (mt + 1) := by
  refine .inr ⟨?_, ?_, ⟨by omega, by omega⟩, by rw [Int.toNat_natCast]; exact hin, by rw [Int.toNat_natCast], fun j hj hj2 => ?_⟩
  · rcases h with h | h <;> omega
  · rw [ord_y hin]; simp
    rcases h with h | h <;> omega
  · by_cases e : j = k
    · subst e; exact ⟨Int.le_refl _, fun q => by omega⟩
    · rcases h with ⟨h1, h2⟩ | ⟨h1, h2, h3, h4, h5, h6⟩
      · exact absurd hj2 (h2 j (by omega))
      · have := h6 j (by omega) hj2
        rcases hl with q | q
        · omega
        · exact ⟨by omega, fun _ => by omega⟩
theorem nr_keep {a : List Feat} {ls : List (List Feat)} {band ix lst mt : Int} {k : Nat} (h : nrOk a ls band k ix lst mt) (hin : inL a ls band k = true) (hm : mt ≠ 0) (hl : ¬ cstL a ls band k < lst) : nrOk a ls band (k + 1) ix lst (mt + 1) := by
  rcases h with ⟨h1, h2⟩ | ⟨h1, h2, h3, h4, h5, h6⟩
  · omega
  · refine .inr ⟨by omega, by rw [ord_y hin]; simp; omega, ⟨h3.1, by omega⟩, h4, h5, fun j hj hj2 => ?_⟩
    by_cases e : j = k
    · subst e; exact ⟨by omega, fun q => by omega⟩
    · exact h6 j (by omega) hj2
theorem nr_zero {a : List Feat} {ls : List (List Feat)} {band ix lst : Int} {k : Nat} (h : nrOk a ls band k ix lst 0) : nrOk a ls band k 0 0 0 := by
  rcases h with h | h
  · exact Or.inl ⟨rfl, h.2⟩
  · exact absurd h.1 (by decide)
theorem nr_one {a : List Feat} {ls : List (List Feat)} {band i1 l1 m1 i2 l2 m2 : Int} {k : Nat} (h1 : nrOk a ls band k i1 l1 m1) (h2 : nrOk a ls band k i2 l2 m2) : (m1 = 0 ↔ m2 = 0) ∧ (m1 ≠ 0 → i1 = i2 ∧ l1 = l2) := by
  rcases h1 with ⟨a1, a2⟩ | ⟨a1, a2, a3, a4, a5, a6⟩ <;> rcases h2 with ⟨b1, b2⟩ | ⟨b1, b2, b3, b4, b5, b6⟩
  · exact ⟨by omega, fun q => absurd a1 q⟩
  · exact absurd b4 (a2 _ (by omega))
  · exact absurd a4 (b2 _ (by omega))
  · refine ⟨by omega, fun _ => ?_⟩
    have p := a6 i2.toNat (by omega) b4
    have q := b6 i1.toNat (by omega) a4
    have e : i1 = i2 := by omega
    subst e; exact ⟨rfl, by rw [a5, b5]⟩
/-- The lists within a cost. -/
def wcN (a : List Feat) (ls : List (List Feat)) (band lim : Int) : Nat → List Int
  | 0 => []
  | k + 1 => if inL a ls band k = true ∧ cstL a ls band k ≤ lim then wcN a ls band lim k ++ [(k : Int)] else wcN a ls band lim k
theorem wc_y {a : List Feat} {ls : List (List Feat)} {band lim : Int} {k : Nat} (h : inL a ls band k = true) (h2 : cstL a ls band k ≤ lim) : wcN a ls band lim (k + 1) = wcN a ls band lim k ++ [(k : Int)] := if_pos ⟨h, h2⟩
theorem wc_n {a : List Feat} {ls : List (List Feat)} {band lim : Int} {k : Nat} (h : ¬ (inL a ls band k = true ∧ cstL a ls band k ≤ lim)) : wcN a ls band lim (k + 1) = wcN a ls band lim k := if_neg h
theorem wc_len (a : List Feat) (ls : List (List Feat)) (band lim : Int) : ∀ k : Nat, (wcN a ls band lim k).length ≤ k
  | 0 => Nat.le_refl _
  | k + 1 => by
    have := wc_len a ls band lim k
    unfold wcN; split
    · simp; omega
    · omega
theorem wc_none {a : List Feat} {ls : List (List Feat)} {band lim : Int} : ∀ k : Nat, (∀ j : Nat, j < k → inL a ls band j = true → lim < cstL a ls band j) → wcN a ls band lim k = []
  | 0, _ => rfl
  | k + 1, h => by
    rw [wc_n (fun q => by have := h k (by omega) q.1; omega)]
    exact wc_none k fun j hj => h j (by omega)
theorem wc_first {a : List Feat} {ls : List (List Feat)} {band : Int} {n : Nat} {ix lst mt : Int} (h : nrOk a ls band n ix lst mt) (hm : mt ≠ 0) : (0 < (wcN a ls band lst n).length ∧ at_ (wcN a ls band lst n) 0 = ix) ∧ wcN a ls band (lst - 1) n = [] := by
  rcases h with ⟨h1, h2⟩ | ⟨h1, h2, h3, h4, h5, h6⟩
  · exact absurd h1 hm
  · refine ⟨?_, wc_none n fun j hj hin => by have := h6 j hj hin; omega⟩
    have base : wcN a ls band lst ix.toNat = [] := wc_none _ fun j hj hin => (h6 j (by omega) hin).2 (by omega)
    have step : ∀ d : Nat, ∃ r, wcN a ls band lst (ix.toNat + 1 + d) = ix :: r := fun d => by
      induction d with
      | zero => exact ⟨[], by show wcN a ls band lst (ix.toNat + 1) = _; rw [wc_y h4 (by omega), base, show ((ix.toNat : Nat) : Int) = ix from by omega]; rfl⟩
      | succ d ih =>
        obtain ⟨r, hr⟩ := ih
        show ∃ r, wcN a ls band lst (ix.toNat + 1 + d + 1) = ix :: r
        unfold wcN; split
        · exact ⟨r ++ [((ix.toNat + 1 + d : Nat) : Int)], by rw [hr]; rfl⟩
        · exact ⟨r, hr⟩
    obtain ⟨r, hr⟩ := step (n - (ix.toNat + 1))
    rw [show ix.toNat + 1 + (n - (ix.toNat + 1)) = n from by omega] at hr
    rw [hr]; exact ⟨by simp, rfl⟩

def elCode (a b : List Feat) (band : Int) : Int := if okFeats a 72 = true ∧ okFeats b 72 = true then (if (inB band 0 72 && decide ((((a.length : Int) - (b.length : Int)).natAbs : Int) ≤ band)) = true then 0 else 2) else 1
def elR (a b : List Feat) (band : Int) : Int × Int := if elCode a b band = 0 then (cv farS a b band (a.length - 1) (b.length - 1), 0) else (0, elCode a b band)
theorem elCode_0 {a b : List Feat} {band : Int} (h : elCode a b band = 0) : okFeats a 72 = true ∧ okFeats b 72 = true ∧ (0 ≤ band ∧ band ≤ 72) ∧ inBd band a.length b.length := by
  unfold elCode at h
  split at h
  · rename_i g
    split at h
    · rename_i g2
      simp only [Bool.and_eq_true, decide_eq_true_eq, inB] at g2
      refine ⟨g.1, g.2, g2.1, ?_⟩
      unfold inBd; omega
    · omega
  · omega
theorem elCode_any {a b : List Feat} (ha : okFeats a 72 = true) (hb : okFeats b 72 = true) : elCode a b 72 = 0 := by
  have h1 := okFeats_n ha
  have h2 := okFeats_n hb
  unfold elCode
  rw [if_pos ⟨ha, hb⟩, if_pos (by simp only [Bool.and_eq_true, decide_eq_true_eq, inB]; omega)]
theorem elR_any {a b : List Feat} (ha : okFeats a 72 = true) (hb : okFeats b 72 = true) : elR a b 72 = (cv farS a b 72 (a.length - 1) (b.length - 1), 0) := if_pos (elCode_any ha hb)
theorem fl_last {a b : List Feat} {band : Int} {out : List Int} (h : flOk a b band out (a.length * b.length)) (ha : 1 ≤ a.length) (hb : 1 ≤ b.length) : at_ out (out.length - 1) = cv farS a b band (a.length - 1) (b.length - 1) ∧ 1 ≤ out.length := by
  have e : a.length * b.length = (a.length - 1) * b.length + b.length := by
    obtain ⟨n, hn⟩ : ∃ n, a.length = n + 1 := ⟨a.length - 1, by omega⟩
    rw [hn, Nat.add_sub_cancel, Nat.succ_mul]
  have q := h.2 (a.length - 1) (b.length - 1) (by omega) (by omega) (by omega)
  have l := h.1
  rw [← q]
  refine ⟨?_, by omega⟩
  congr 1; omega

def rngM (f : Nat → Int) (k : Nat) : List Int := (List.range k).map f
theorem rngM_len (f : Nat → Int) (k : Nat) : (rngM f k).length = k := by simp [rngM]
theorem rngM_next {f : Nat → Int} {k : Nat} {y : Int} (h : y = f k) : rngM f k ++ [y] = rngM f (k + 1) := by subst h; simp [rngM, List.range_succ]
theorem rngM_at {f : Nat → Int} {k i : Nat} (h : i < k) : at_ (rngM f k) i = f i := by rw [at_eq (by rw [rngM_len]; exact h)]; simp [rngM]
def envV (b : List Feat) (band : Int) (n : Nat) : Envelope := ⟨rngM (loE Feat.X b band) n, rngM (hiE Feat.X b band) n, rngM (loE Feat.Y b band) n, rngM (hiE Feat.Y b band) n⟩
theorem mn_next (g : Nat → Int) (p c : Nat) : min (mnR g p (c - 1)) (g (p + c)) = mnR g p (c + 1 - 1) := by
  cases c with
  | zero => show min (g p) (g p) = g p; omega
  | succ c => rfl
theorem mx_next (g : Nat → Int) (p c : Nat) : max (mxR g p (c - 1)) (g (p + c)) = mxR g p (c + 1 - 1) := by
  cases c with
  | zero => show max (g p) (g p) = g p; omega
  | succ c => rfl
def offE (a : List Feat) (e : Envelope) (i : Nat) : Int := offI (at_ a i).X (at_ e.LowX i) (at_ e.HighX i) + offI (at_ a i).Y (at_ e.LowY i) (at_ e.HighY i)
def okEn (e : Envelope) (n : Nat) : Prop := (e.LowX.length = n ∧ e.HighX.length = n ∧ e.LowY.length = n ∧ e.HighY.length = n) ∧ ∀ i : Nat, i < n → (0 ≤ at_ e.LowX i ∧ at_ e.LowX i ≤ 255) ∧ (0 ≤ at_ e.HighX i ∧ at_ e.HighX i ≤ 255) ∧ (0 ≤ at_ e.LowY i ∧ at_ e.LowY i ≤ 255) ∧ 0 ≤ at_ e.HighY i ∧ at_ e.HighY i ≤ 255
theorem fX : ∀ f : Feat, okF f = true → 0 ≤ f.X ∧ f.X ≤ 255 := fun f h => by have := okF_iff.1 h; omega
theorem fY : ∀ f : Feat, okF f = true → 0 ≤ f.Y ∧ f.Y ≤ 255 := fun f h => by have := okF_iff.1 h; omega
theorem envV_ok {b : List Feat} {band : Int} {n : Nat} (hb : okFeats b 72 = true) (h : inBd band n b.length) : okEn (envV b band n) n := by
  refine ⟨⟨rngM_len _ _, rngM_len _ _, rngM_len _ _, rngM_len _ _⟩, fun i hi => ?_⟩
  have x := loE_bd hb fX h hi
  have y := loE_bd hb fY h hi
  unfold envV
  simp only [rngM_at hi]
  exact ⟨x.1, x.2, y.1, y.2⟩
theorem sumN_eq {n : Nat} {f g : Nat → Int} (h : ∀ i, i < n → f i = g i) : sumN n f = sumN n g := by
  induction n with
  | zero => rfl
  | succ n ih => simp only [sumN]; rw [ih fun i hi => h i (by omega), h n (by omega)]
theorem out_env (a b : List Feat) (band : Int) : sumN a.length (offE a (envV b band a.length)) = outI a b band := sumN_eq fun i hi => by
  unfold offE envV outK
  simp only [rngM_at hi]
theorem off_bd {a : List Feat} {e : Envelope} {n : Nat} (ha : okFeats a 72 = true) (hn : n = a.length) (he : okEn e n) {i : Nat} (hi : i < n) : 0 ≤ offE a e i ∧ offE a e i ≤ 510 := by
  have f := okF_iff.1 (okFeats_at ha (by omega : i < a.length))
  have q := he.2 i hi
  unfold offE offI; omega
theorem endI_bd {a b : List Feat} (ha : okFeats a 72 = true) (hb : okFeats b 72 = true) : 0 ≤ endI a b ∧ endI a b ≤ 1200 := by
  have n1 := okFeats_n ha
  have n2 := okFeats_n hb
  have c1 := costF_bd (okFeats_at ha (by omega : 0 < a.length)) (okFeats_at hb (by omega : 0 < b.length))
  have c2 := costF_bd (okFeats_at ha (by omega : a.length - 1 < a.length)) (okFeats_at hb (by omega : b.length - 1 < b.length))
  unfold endI; split <;> omega

def gV (b : List Feat) (ver : Bool) (j : Nat) : Int := bif ver then (at_ b j).Y else (at_ b j).X
theorem gV_bd {b : List Feat} (hb : okFeats b 72 = true) (ver : Bool) {j : Nat} (hj : j < b.length) : 0 ≤ gV b ver j ∧ gV b ver j ≤ 255 := by
  have f := okF_iff.1 (okFeats_at hb hj)
  unfold gV; cases ver <;> simp only [cond_true, cond_false] <;> omega
def rgL (b : List Feat) (ver : Bool) (p c : Nat) : Int := if c = 0 then 255 else mnR (gV b ver) p (c - 1)
def rgH (b : List Feat) (ver : Bool) (p c : Nat) : Int := if c = 0 then 0 else mxR (gV b ver) p (c - 1)
theorem rg_next {b : List Feat} (hb : okFeats b 72 = true) {ver : Bool} {p c : Nat} {v : Int} (hj : p + c < b.length) (hv : v = gV b ver (p + c)) : min (rgL b ver p c) v = rgL b ver p (c + 1) ∧ max (rgH b ver p c) v = rgH b ver p (c + 1) := by
  have g := gV_bd hb ver hj
  subst hv
  unfold rgL rgH
  cases c with
  | zero => simp only [if_pos, Nat.add_zero]; rw [if_neg (by omega), if_neg (by omega)]; show min 255 (gV b ver p) = gV b ver p ∧ max 0 (gV b ver p) = gV b ver p; rw [Nat.add_zero] at g; omega
  | succ c => rw [if_neg (by omega), if_neg (by omega), if_neg (by omega), if_neg (by omega)]; exact ⟨rfl, rfl⟩
theorem rg_bd {b : List Feat} (hb : okFeats b 72 = true) (ver : Bool) {p c : Nat} (h : p + c ≤ b.length) : (0 ≤ rgL b ver p c ∧ rgL b ver p c ≤ 255) ∧ 0 ≤ rgH b ver p c ∧ rgH b ver p c ≤ 255 := by
  unfold rgL rgH
  by_cases e : c = 0
  · rw [if_pos e, if_pos e]; omega
  · rw [if_neg e, if_neg e]
    exact mnR_in (g := gV b ver) (p := p) (lo := 0) (hi := 255) (c - 1) fun j h1 h2 => gV_bd hb ver (by omega)
/-- The bound, or nothing. -/
def lbR (a b : List Feat) (band : Int) : Int := if elCode a b band = 0 then lbI a b band else 0

-- impl.searchable
theorem searchable_ok (a : List Feat) (lists : List (List Feat)) (band : Int) (oka : okFeats a 72 = true) (hls : lists.length ≤ 18 ∧ ∀ l ∈ lists, okFeats l 72 = true) (hbd : 0 ≤ band ∧ band ≤ 72) : Con Try.prog 24 [slFeat false a, slLFeat false lists, I band] true (I 0) := by
  refine fn_ok (fn := Try.f24) (nt := 30) Try.func24 rfl rfl rfl rfl (by simp [taggedL, tagged, tagFeat, tagLFeat]) fun B hB => ?_
  refine aw_lens (x := slFeat false a) 0 rfl (fun len_a => ?_)
  simp [LenOK, LenL, cFeat, fFeat, slFeat] at len_a
  refine aw_lens (x := slLFeat false lists) 1 rfl (fun len_lists => ?_)
  simp [LenOK, LenL, cFeat, cLFeat, fFeat, fLFeat, slFeat, slLFeat] at len_lists
  refine aR [] [0, 1, 2] [] [slFeat false a, slLFeat false lists, I band] [] [] hB trivial ?_
  refine aw_seq ?_
  refine aR [(1, .call [(true, .any)] true (Bv true)), (6, .dec false)] [1, 2, 16] [] [slLFeat false lists, I band, Bv false] [] [Con Try.prog 35 [slFeat false a] true (Bv true) ∧ True, ¬ (40 < (lists.length : Int))] hB ⟨⟨(con_bool oka (ValidSeq_ok a)), trivial⟩, (by omega), trivial⟩ ?_
  refine aw_false rfl ?_
  refine aw_skip ?_
  refine ae_then ?_
  refine aw_seq ?_
  refine aR [] [2, 17, 18, 19] [] [I band, slLFeat false lists, I (lists.length : Int), I 0] [] [] hB trivial ?_
  refine aw_block ?_
  refine aw_loop (fun gn gσ => ∃ (t19 : Int), gn = ((lists.length : Int) - t19).toNat ∧ (0 ≤ t19 ∧ t19 ≤ (lists.length : Int)) ∧ gσ = mkS [(2, I band), (17, slLFeat false lists), (18, I (lists.length : Int)), (19, I t19)] []) (((lists.length : Int) - 0).toNat) ⟨0, rfl, (by omega), rfl⟩ (fun gn gσ hI => ?_)
  obtain ⟨t19, rfl, hi0, rfl⟩ := hI
  refine aw_seq ?_
  by_cases h1 : t19 < (lists.length : Int)
  ·have hi : t19.toNat < lists.length := by omega
   refine aw_r [(0, .dec true)] [2, 17, 18, 19, 20] [] [I band, slLFeat false lists, I (lists.length : Int), I t19, Bv true] [] [t19 < (lists.length : Int)] hB ⟨h1, trivial⟩ ?_
   refine ae_then ?_
   refine aw_seq ?_
   refine aw_true rfl ?_
   refine aw_skip ?_
   refine ae_then ?_
   refine aw_seq ?_
   refine aw_block ?_
   refine aR [] [2, 8, 17, 18, 19] [] [I band, slFeat false (at_ lists t19.toNat), slLFeat false lists, I (lists.length : Int), I t19] [] [(0 : Int) ≤ t19 ∧ t19 < (lists.length : Int)] hB ⟨⟨(by omega), (by omega)⟩, trivial⟩ ?_
   refine aR [(1, .call [(true, .any)] true (Bv true))] [2, 17, 18, 19, 25] [] [I band, slLFeat false lists, I (lists.length : Int), I t19, Bv false] [] [Con Try.prog 35 [slFeat false (at_ lists t19.toNat)] true (Bv true) ∧ True] hB ⟨⟨(con_bool (hls.2 _ (at_mem hi)) (ValidSeq_ok (at_ lists t19.toNat))), trivial⟩, trivial⟩ ?_
   refine aw_false rfl ?_
   refine aw_skip ?_
   refine ae_block 1 ?_
   refine ae_then ?_
   refine aw_r [] [2, 17, 18, 19] [] [I band, slLFeat false lists, I (lists.length : Int), I (t19 + 1)] [] [inR .i64 (t19 + 1)] hB ⟨(inR_i64 (by omega) (by omega)), trivial⟩ ?_
   exact ae_again _ (by omega) ⟨(t19 + 1), rfl, (by omega), rfl⟩
  refine aw_r [(0, .dec false)] [2, 17, 18, 19, 20] [] [I band, slLFeat false lists, I (lists.length : Int), I t19, Bv false] [] [¬ (t19 < (lists.length : Int))] hB ⟨h1, trivial⟩ ?_
  refine ae_then ?_
  refine aw_seq ?_
  refine aw_false rfl ?_
  refine aw_exit ?_
  refine ae_exit_then ?_
  refine ae_exit_then ?_
  refine ae_exit_same ?_
  refine ae_then ?_
  refine aw_seq ?_
  refine aR [(1, .call [(true, .any), (true, .any), (true, .any)] true (Bv true))] [29] [] [Bv false] [] [Con Try.prog 37 [I band, I 0, I 72] true (Bv true) ∧ True] hB ⟨⟨(con_bool (inB_iff.2 hbd) (within_ok band 0 72)), trivial⟩, trivial⟩ ?_
  refine aw_false rfl ?_
  refine aw_skip ?_
  refine ae_then ?_
  refine aR [] [6] [] [I 0] [] [] hB trivial ?_
  refine aw_ret ?_
  refine ae_ret hB (I 0) (by kernel_rfl) (.inl rfl) rfl (fun _ => trivial)


-- impl.abs
theorem abs_ok (n : Int) (hn : -9223372036854775807 ≤ n ∧ n ≤ 9223372036854775807) : Con Try.prog 44 [I n] true (I (n.natAbs : Int)) := by
  refine fn_ok (fn := Try.f44) (nt := 8) Try.func44 rfl rfl rfl rfl (by simp [taggedL, tagged]) fun B hB => ?_
  refine aR [] [0] [] [I n] [] [] hB trivial ?_
  refine aw_seq ?_
  refine aw_seq ?_
  by_cases h1 : n < 0
  ·refine aw_r [(1, .dec true)] [0, 4] [] [I n, Bv true] [] [n < 0] hB ⟨h1, trivial⟩ ?_
   refine ae_then ?_
   refine aw_true rfl ?_
   refine aR [] [2] [] [I (-n)] [] [inR .i64 (-n)] hB ⟨(inR_i64 (by omega) (by omega)), trivial⟩ ?_
   refine aw_ret ?_
   refine ae_ret_then ?_
   refine ae_ret hB (I (-n)) (by kernel_rfl) (.inl (by refine congrArg I ?_; omega)) rfl (fun _ => trivial)
  refine aw_r [(1, .dec false)] [0, 4] [] [I n, Bv false] [] [¬ (n < 0)] hB ⟨h1, trivial⟩ ?_
  refine ae_then ?_
  refine aw_false rfl ?_
  refine aw_skip ?_
  refine ae_then ?_
  refine aR [] [2] [] [I n] [] [] hB trivial ?_
  refine aw_ret ?_
  refine ae_ret hB (I n) (by kernel_rfl) (.inl (by refine congrArg I ?_; omega)) rfl (fun _ => trivial)


-- impl.isBand
theorem isBand_ok (band : Int) (n : Int) (m : Int) (hn : 0 ≤ n ∧ n ≤ 4611686018427387904) (hm : 0 ≤ m ∧ m ≤ 4611686018427387904) : Con Try.prog 25 [I band, I n, I m] true (Bv (inB band 0 72 && decide (((n - m).natAbs : Int) ≤ band))) := by
  refine fn_ok (fn := Try.f25) (nt := 17) Try.func25 rfl rfl rfl rfl (by simp [taggedL, tagged]) fun B hB => ?_
  refine aR [] [0, 1, 2] [] [I band, I n, I m] [] [] hB trivial ?_
  refine aw_seq ?_
  rcases Bool.eq_false_or_eq_true (inB band 0 72) with h1 | h1
  ·refine aw_r [(1, .call [(true, .any), (true, .any), (true, .any)] true (Bv true)), (6, .call [(true, .any)] true (I ((n - m).natAbs : Int)))] [6] [] [Bv (decide (((n - m).natAbs : Int) ≤ band))] [] [Con Try.prog 37 [I band, I 0, I 72] true (Bv true) ∧ True, inR .i64 (n - m), Con Try.prog 44 [I (n - m)] true (I ((n - m).natAbs : Int)) ∧ True] hB ⟨⟨(con_bool h1 (within_ok band 0 72)), trivial⟩, (inR_i64 (by omega) (by omega)), ⟨(abs_ok (n - m) (by omega)), trivial⟩, trivial⟩ ?_
   refine ae_then ?_
   refine aw_ret ?_
   refine ae_ret hB (Bv (decide (((n - m).natAbs : Int) ≤ band))) (by kernel_rfl) (.inl (by refine congrArg Bv ?_; first | (simp [*]; done) | (simp [inB] at *; omega))) rfl (fun _ => trivial)
  refine aw_r [(1, .call [(true, .any), (true, .any), (true, .any)] true (Bv false))] [6] [] [Bv false] [] [Con Try.prog 37 [I band, I 0, I 72] true (Bv false) ∧ True] hB ⟨⟨(con_bool h1 (within_ok band 0 72)), trivial⟩, trivial⟩ ?_
  refine ae_then ?_
  refine aw_ret ?_
  refine ae_ret hB (Bv false) (by kernel_rfl) (.inl (by refine congrArg Bv ?_; first | (simp [*]; done) | (simp [inB] at *; omega))) rfl (fun _ => trivial)


-- impl.envelopeOf
set_option maxHeartbeats 4000000 in
theorem envelopeOf_ok (b : List Feat) (n : Int) (band : Int) (okb : okFeats b 72 = true) (hn : 1 ≤ n ∧ n ≤ 72) (hbd : 0 ≤ band ∧ band ≤ 72) (hin : inBd band n.toNat b.length) : ∃ (v : Envelope), (v = envV b band n.toNat) ∧ Con Try.prog 46 [slFeat false b, I n, I band] true (agEnvelopeT v) := by
  have hbn := okFeats_n okb
  have hin2 := hin
  unfold inBd at hin2
  have hh : ∃ r : Envelope, ((r = envV b band n.toNat) ∧ (True)) ∧ CallOK Try.prog 46 [slFeat false b, I n, I band] (lookO []) true (agEnvelopeT r) (lookO []) := by
    refine fn_okX (Φ := fun r : Envelope => (r = envV b band n.toNat) ∧ (True)) [] (fun r => []) (fn := Try.f46) (nt := 102) Try.func46 rfl rfl (args := [slFeat false b, I n, I band]) rfl (allcons (.inl ⟨rfl, tagFeat false _⟩) (allcons (.inl ⟨rfl, trivial⟩) (allcons (.inl ⟨rfl, trivial⟩) allnil))) (res := fun r => agEnvelopeT r) ?_
    refine xR [(0, .new 6)] [0, 1, 2, 6] [6] [slFeat false b, I n, I band, .ref 6 0] [some (.box [nilA, nilA, nilA, nilA])] [] trivial ?_
    refine xR [(0, .new 7)] [0, 1, 2, 6, 7] [6, 7] [slFeat false b, I n, I band, .ref 6 0, .ref 7 0] [some (.box [nilA, nilA, nilA, nilA]), some (.box [nilA, nilA, nilA, nilA])] [] trivial ?_
    refine x_seq ?_
    refine xR [] [0, 2, 6, 7, 15, 16] [6, 7] [slFeat false b, I band, .ref 6 0, .ref 7 0, I n, I 0] [some (.box [nilA, nilA, nilA, nilA]), some (.box [nilA, nilA, nilA, nilA])] [] trivial ?_
    refine x_block ?_
    refine x_nilC 7 0 770 1 (fun _ => []) rfl (by kernel_rfl) ?_
    refine x_nilC 7 1 771 1 (fun _ => []) rfl (by kernel_rfl) ?_
    refine x_nilC 7 2 772 1 (fun _ => []) rfl (by kernel_rfl) ?_
    refine x_nilC 7 3 773 1 (fun _ => []) rfl (by kernel_rfl) ?_
    refine x_weak [] (T := [(0, slFeat false b), (2, I band), (6, .ref 6 0), (7, .ref 7 0), (15, I n), (16, I 0)]) (O := [(6, .box [nilA, nilA, nilA, nilA]), (7, .box [.arr 770, .arr 771, .arr 772, .arr 773]), (770, .arr 1 (([] : List Int).length) (fI ([] : List Int))), (771, .arr 1 (([] : List Int).length) (fI ([] : List Int))), (772, .arr 1 (([] : List Int).length) (fI ([] : List Int))), (773, .arr 1 (([] : List Int).length) (fI ([] : List Int)))]) rfl (⟨.inl rfl, .inl rfl, .inl rfl, .inl rfl, .inl rfl, .inl rfl, trivial⟩) (⟨.inl rfl, .inl rfl, .inr ⟨rfl, (by first | rfl | (simp; done) | (simp; omega) | omega), fun i_ hi_ => absurd hi_ (Nat.not_lt_zero _)⟩, .inr ⟨rfl, (by first | rfl | (simp; done) | (simp; omega) | omega), fun i_ hi_ => absurd hi_ (Nat.not_lt_zero _)⟩, .inr ⟨rfl, (by first | rfl | (simp; done) | (simp; omega) | omega), fun i_ hi_ => absurd hi_ (Nat.not_lt_zero _)⟩, .inr ⟨rfl, (by first | rfl | (simp; done) | (simp; omega) | omega), fun i_ hi_ => absurd hi_ (Nat.not_lt_zero _)⟩, trivial⟩) ?_
    refine x_loop (X := Int × (List Int) × (List Int) × (List Int) × (List Int)) (fun x => mkS [(0, slFeat false b), (2, I band), (6, .ref 6 0), (7, .ref 7 0), (15, I n), (16, I x.1)] [(6, .box [nilA, nilA, nilA, nilA]), (7, .box [.arr 770, .arr 771, .arr 772, .arr 773]), (770, .arr 1 x.2.1.length (fI x.2.1)), (771, .arr 1 x.2.2.1.length (fI x.2.2.1)), (772, .arr 1 x.2.2.2.1.length (fI x.2.2.2.1)), (773, .arr 1 x.2.2.2.2.length (fI x.2.2.2.2))]) (fun x => (0 ≤ x.1 ∧ x.1 ≤ n) ∧ (x.2.1 = rngM (loE Feat.X b band) x.1.toNat) ∧ (x.2.2.1 = rngM (hiE Feat.X b band) x.1.toNat) ∧ (x.2.2.2.1 = rngM (loE Feat.Y b band) x.1.toNat) ∧ (x.2.2.2.2 = rngM (hiE Feat.Y b band) x.1.toNat) ∧ True) (fun x => (n - x.1).toNat) (0, ([] : List Int), ([] : List Int), ([] : List Int), ([] : List Int)) rfl (show (0 ≤ (0 : Int) ∧ (0 : Int) ≤ n) ∧ (([] : List Int) = rngM (loE Feat.X b band) (0 : Int).toNat) ∧ (([] : List Int) = rngM (hiE Feat.X b band) (0 : Int).toNat) ∧ (([] : List Int) = rngM (loE Feat.Y b band) (0 : Int).toNat) ∧ (([] : List Int) = rngM (hiE Feat.Y b band) (0 : Int).toNat) ∧ True from ⟨(by omega), (by rfl), (by rfl), (by rfl), (by rfl), trivial⟩) (fun x hI => ?_)
    obtain ⟨t16, lx, hx, ly, hy⟩ := x
    obtain ⟨hi0, hlx, hhx, hly, hhy, _⟩ : (0 ≤ t16 ∧ t16 ≤ n) ∧ (lx = rngM (loE Feat.X b band) t16.toNat) ∧ (hx = rngM (hiE Feat.X b band) t16.toNat) ∧ (ly = rngM (loE Feat.Y b band) t16.toNat) ∧ (hy = rngM (hiE Feat.Y b band) t16.toNat) ∧ True := hI
    show XW _ _ _ _ (mkS [(0, slFeat false b), (2, I band), (6, .ref 6 0), (7, .ref 7 0), (15, I n), (16, I t16)] [(6, .box [nilA, nilA, nilA, nilA]), (7, .box [.arr 770, .arr 771, .arr 772, .arr 773]), (770, .arr 1 lx.length (fI lx)), (771, .arr 1 hx.length (fI hx)), (772, .arr 1 ly.length (fI ly)), (773, .arr 1 hy.length (fI hy))]) _ _
    refine x_seq ?_
    by_cases h1 : t16 < n
    ·have hix : ((t16.toNat : Nat) : Int) = t16 := by omega
     have hnx : (t16 + 1).toNat = t16.toNat + 1 := by omega
     have hfr : (max 0 (t16 - band)).toNat = fromN band t16.toNat := by unfold fromN; omega
     have hlx1 : lx.length = t16.toNat ∧ hx.length = t16.toNat ∧ ly.length = t16.toNat ∧ hy.length = t16.toNat := by rw [hlx, hhx, hly, hhy]; exact ⟨rngM_len _ _, rngM_len _ _, rngM_len _ _, rngM_len _ _⟩
     refine x_r [(0, .dec true)] [0, 2, 6, 7, 15, 16, 17] [6, 7, 770, 771, 772, 773] [slFeat false b, I band, .ref 6 0, .ref 7 0, I n, I t16, Bv true] [some (.box [nilA, nilA, nilA, nilA]), some (.box [.arr 770, .arr 771, .arr 772, .arr 773]), some (.arr 1 lx.length (fI lx)), some (.arr 1 hx.length (fI hx)), some (.arr 1 ly.length (fI ly)), some (.arr 1 hy.length (fI hy))] [t16 < n] ⟨h1, trivial⟩ ?_
     refine xe_then ?_
     refine x_seq ?_
     refine x_true rfl ?_
     refine x_skip ?_
     refine xe_then ?_
     refine x_seq ?_
     refine x_block ?_
     refine xR [] [0, 2, 6, 7, 8, 15, 16] [6, 7, 770, 771, 772, 773] [slFeat false b, I band, .ref 6 0, .ref 7 0, I t16, I n, I t16] [some (.box [nilA, nilA, nilA, nilA]), some (.box [.arr 770, .arr 771, .arr 772, .arr 773]), some (.arr 1 lx.length (fI lx)), some (.arr 1 hx.length (fI hx)), some (.arr 1 ly.length (fI ly)), some (.arr 1 hy.length (fI hy))] [] trivial ?_
     refine xR [] [0, 2, 6, 7, 9, 10, 15, 16] [6, 7, 770, 771, 772, 773] [slFeat false b, I band, .ref 6 0, .ref 7 0, I (max 0 (t16 - band)), I (min (b.length : Int) ((t16 + band) + 1)), I n, I t16] [some (.box [nilA, nilA, nilA, nilA]), some (.box [.arr 770, .arr 771, .arr 772, .arr 773]), some (.arr 1 lx.length (fI lx)), some (.arr 1 hx.length (fI hx)), some (.arr 1 ly.length (fI ly)), some (.arr 1 hy.length (fI hy))] [inR .i64 (t16 - band), inR .i64 (t16 + band), inR .i64 ((t16 + band) + 1)] ⟨(inR_i64 (by omega) (by omega)), (inR_i64 (by omega) (by omega)), (inR_i64 (by omega) (by omega)), trivial⟩ ?_
     refine xR [(8, .new 11), (9, .new 12)] [0, 2, 6, 7, 9, 10, 11, 12, 15, 16] [6, 7, 11, 12, 770, 771, 772, 773] [slFeat false b, I band, .ref 6 0, .ref 7 0, I (max 0 (t16 - band)), I (min (b.length : Int) ((t16 + band) + 1)), .ref 11 0, .ref 12 0, I n, I t16] [some (.box [nilA, nilA, nilA, nilA]), some (.box [.arr 770, .arr 771, .arr 772, .arr 773]), some (bxFeat (at_ b ((max 0 (t16 - band)).toNat))), some (bxFeat (at_ b ((max 0 (t16 - band)).toNat))), some (.arr 1 lx.length (fI lx)), some (.arr 1 hx.length (fI hx)), some (.arr 1 ly.length (fI ly)), some (.arr 1 hy.length (fI hy))] [(0 : Int) ≤ (max 0 (t16 - band)) ∧ (max 0 (t16 - band)) < (b.length : Int), (0 : Int) ≤ (max 0 (t16 - band)) ∧ (max 0 (t16 - band)) < (b.length : Int)] ⟨⟨(by omega), (by omega)⟩, ⟨(by omega), (by omega)⟩, trivial⟩ ?_
     refine x_seq ?_
     refine xR [] [0, 2, 6, 7, 11, 12, 15, 16, 41, 42, 43] [6, 7, 11, 12, 770, 771, 772, 773] [slFeat false b, I band, .ref 6 0, .ref 7 0, .ref 11 0, .ref 12 0, I n, I t16, .sl false 3 ((min (b.length : Int) ((t16 + band) + 1)).toNat - (max 0 (t16 - band)).toNat) (cutF ((max 0 (t16 - band)).toNat) (fFeat b)), I (((min (b.length : Int) ((t16 + band) + 1)).toNat - (max 0 (t16 - band)).toNat : Nat) : Int), I 0] [some (.box [nilA, nilA, nilA, nilA]), some (.box [.arr 770, .arr 771, .arr 772, .arr 773]), some (bxFeat (at_ b ((max 0 (t16 - band)).toNat))), some (bxFeat (at_ b ((max 0 (t16 - band)).toNat))), some (.arr 1 lx.length (fI lx)), some (.arr 1 hx.length (fI hx)), some (.arr 1 ly.length (fI ly)), some (.arr 1 hy.length (fI hy))] [(0 : Int) ≤ (max 0 (t16 - band)) ∧ (max 0 (t16 - band)) ≤ (min (b.length : Int) ((t16 + band) + 1)) ∧ (min (b.length : Int) ((t16 + band) + 1)) ≤ (b.length : Int)] ⟨⟨(by omega), (by omega), (by omega)⟩, trivial⟩ ?_
     refine x_block ?_
     refine x_loop (X := Int × Feat × Feat) (fun x => mkS [(0, slFeat false b), (2, I band), (6, .ref 6 0), (7, .ref 7 0), (11, .ref 11 0), (12, .ref 12 0), (15, I n), (16, I t16), (41, .sl false 3 ((min (b.length : Int) ((t16 + band) + 1)).toNat - (max 0 (t16 - band)).toNat) (cutF ((max 0 (t16 - band)).toNat) (fFeat b))), (42, I (((min (b.length : Int) ((t16 + band) + 1)).toNat - (max 0 (t16 - band)).toNat : Nat) : Int)), (43, I x.1)] [(6, .box [nilA, nilA, nilA, nilA]), (7, .box [.arr 770, .arr 771, .arr 772, .arr 773]), (11, bxFeat x.2.2), (12, bxFeat x.2.1), (770, .arr 1 lx.length (fI lx)), (771, .arr 1 hx.length (fI hx)), (772, .arr 1 ly.length (fI ly)), (773, .arr 1 hy.length (fI hy))]) (fun x => (0 ≤ x.1 ∧ x.1 ≤ (((min (b.length : Int) ((t16 + band) + 1)).toNat - (max 0 (t16 - band)).toNat : Nat) : Int)) ∧ (x.2.2.X = mnR (fun j => (at_ b j).X) (fromN band t16.toNat) (x.1.toNat - 1) ∧ x.2.2.Y = mnR (fun j => (at_ b j).Y) (fromN band t16.toNat) (x.1.toNat - 1)) ∧ (x.2.1.X = mxR (fun j => (at_ b j).X) (fromN band t16.toNat) (x.1.toNat - 1) ∧ x.2.1.Y = mxR (fun j => (at_ b j).Y) (fromN band t16.toNat) (x.1.toNat - 1)) ∧ True) (fun x => (((min (b.length : Int) ((t16 + band) + 1)).toNat - (max 0 (t16 - band)).toNat : Nat) - x.1.toNat)) (0, (at_ b ((max 0 (t16 - band)).toNat)), (at_ b ((max 0 (t16 - band)).toNat))) rfl (show (0 ≤ (0 : Int) ∧ (0 : Int) ≤ (((min (b.length : Int) ((t16 + band) + 1)).toNat - (max 0 (t16 - band)).toNat : Nat) : Int)) ∧ ((at_ b ((max 0 (t16 - band)).toNat)).X = mnR (fun j => (at_ b j).X) (fromN band t16.toNat) ((0 : Int).toNat - 1) ∧ (at_ b ((max 0 (t16 - band)).toNat)).Y = mnR (fun j => (at_ b j).Y) (fromN band t16.toNat) ((0 : Int).toNat - 1)) ∧ ((at_ b ((max 0 (t16 - band)).toNat)).X = mxR (fun j => (at_ b j).X) (fromN band t16.toNat) ((0 : Int).toNat - 1) ∧ (at_ b ((max 0 (t16 - band)).toNat)).Y = mxR (fun j => (at_ b j).Y) (fromN band t16.toNat) ((0 : Int).toNat - 1)) ∧ True from ⟨(by omega), (by (rw [hfr]; exact ⟨rfl, rfl⟩)), (by (rw [hfr]; exact ⟨rfl, rfl⟩)), trivial⟩) (fun x hI => ?_)
     obtain ⟨t43, high, low⟩ := x
     obtain ⟨hj0, hlo, hhi, _⟩ : (0 ≤ t43 ∧ t43 ≤ (((min (b.length : Int) ((t16 + band) + 1)).toNat - (max 0 (t16 - band)).toNat : Nat) : Int)) ∧ (low.X = mnR (fun j => (at_ b j).X) (fromN band t16.toNat) (t43.toNat - 1) ∧ low.Y = mnR (fun j => (at_ b j).Y) (fromN band t16.toNat) (t43.toNat - 1)) ∧ (high.X = mxR (fun j => (at_ b j).X) (fromN band t16.toNat) (t43.toNat - 1) ∧ high.Y = mxR (fun j => (at_ b j).Y) (fromN band t16.toNat) (t43.toNat - 1)) ∧ True := hI
     show XW _ _ _ _ (mkS [(0, slFeat false b), (2, I band), (6, .ref 6 0), (7, .ref 7 0), (11, .ref 11 0), (12, .ref 12 0), (15, I n), (16, I t16), (41, .sl false 3 ((min (b.length : Int) ((t16 + band) + 1)).toNat - (max 0 (t16 - band)).toNat) (cutF ((max 0 (t16 - band)).toNat) (fFeat b))), (42, I (((min (b.length : Int) ((t16 + band) + 1)).toNat - (max 0 (t16 - band)).toNat : Nat) : Int)), (43, I t43)] [(6, .box [nilA, nilA, nilA, nilA]), (7, .box [.arr 770, .arr 771, .arr 772, .arr 773]), (11, bxFeat low), (12, bxFeat high), (770, .arr 1 lx.length (fI lx)), (771, .arr 1 hx.length (fI hx)), (772, .arr 1 ly.length (fI ly)), (773, .arr 1 hy.length (fI hy))]) _ _
     refine x_seq ?_
     by_cases h2 : t43 < (((min (b.length : Int) ((t16 + band) + 1)).toNat - (max 0 (t16 - band)).toNat : Nat) : Int)
     ·have hnc : (t43 + 1).toNat = t43.toNat + 1 := by omega
      refine x_r [(0, .dec true)] [0, 2, 6, 7, 11, 12, 15, 16, 41, 42, 43, 44] [6, 7, 11, 12, 770, 771, 772, 773] [slFeat false b, I band, .ref 6 0, .ref 7 0, .ref 11 0, .ref 12 0, I n, I t16, .sl false 3 ((min (b.length : Int) ((t16 + band) + 1)).toNat - (max 0 (t16 - band)).toNat) (cutF ((max 0 (t16 - band)).toNat) (fFeat b)), I (((min (b.length : Int) ((t16 + band) + 1)).toNat - (max 0 (t16 - band)).toNat : Nat) : Int), I t43, Bv true] [some (.box [nilA, nilA, nilA, nilA]), some (.box [.arr 770, .arr 771, .arr 772, .arr 773]), some (bxFeat low), some (bxFeat high), some (.arr 1 lx.length (fI lx)), some (.arr 1 hx.length (fI hx)), some (.arr 1 ly.length (fI ly)), some (.arr 1 hy.length (fI hy))] [t43 < (((min (b.length : Int) ((t16 + band) + 1)).toNat - (max 0 (t16 - band)).toNat : Nat) : Int)] ⟨h2, trivial⟩ ?_
      refine xe_then ?_
      refine x_seq ?_
      refine x_true rfl ?_
      refine x_skip ?_
      refine xe_then ?_
      refine x_seq ?_
      refine x_block ?_
      refine xR [(2, .new 14)] [0, 2, 6, 7, 11, 12, 14, 15, 16, 41, 42, 43] [6, 7, 11, 12, 14, 770, 771, 772, 773] [slFeat false b, I band, .ref 6 0, .ref 7 0, .ref 11 0, .ref 12 0, .ref 14 0, I n, I t16, .sl false 3 ((min (b.length : Int) ((t16 + band) + 1)).toNat - (max 0 (t16 - band)).toNat) (cutF ((max 0 (t16 - band)).toNat) (fFeat b)), I (((min (b.length : Int) ((t16 + band) + 1)).toNat - (max 0 (t16 - band)).toNat : Nat) : Int), I t43] [some (.box [nilA, nilA, nilA, nilA]), some (.box [.arr 770, .arr 771, .arr 772, .arr 773]), some (bxFeat low), some (bxFeat high), some (bxFeat (at_ b ((max 0 (t16 - band)).toNat + t43.toNat))), some (.arr 1 lx.length (fI lx)), some (.arr 1 hx.length (fI hx)), some (.arr 1 ly.length (fI ly)), some (.arr 1 hy.length (fI hy))] [(0 : Int) ≤ t43 ∧ t43 < (((min (b.length : Int) ((t16 + band) + 1)).toNat - (max 0 (t16 - band)).toNat : Nat) : Int)] ⟨⟨(by omega), (by omega)⟩, trivial⟩ ?_
      refine xR [] [0, 2, 6, 7, 11, 12, 14, 15, 16, 41, 42, 43] [6, 7, 11, 12, 14, 770, 771, 772, 773] [slFeat false b, I band, .ref 6 0, .ref 7 0, .ref 11 0, .ref 12 0, .ref 14 0, I n, I t16, .sl false 3 ((min (b.length : Int) ((t16 + band) + 1)).toNat - (max 0 (t16 - band)).toNat) (cutF ((max 0 (t16 - band)).toNat) (fFeat b)), I (((min (b.length : Int) ((t16 + band) + 1)).toNat - (max 0 (t16 - band)).toNat : Nat) : Int), I t43] [some (.box [nilA, nilA, nilA, nilA]), some (.box [.arr 770, .arr 771, .arr 772, .arr 773]), some (.box [I (min low.X ((at_ b ((max 0 (t16 - band)).toNat + t43.toNat)).X)), I low.Y, I low.D]), some (.box [I (max high.X ((at_ b ((max 0 (t16 - band)).toNat + t43.toNat)).X)), I high.Y, I high.D]), some (bxFeat (at_ b ((max 0 (t16 - band)).toNat + t43.toNat))), some (.arr 1 lx.length (fI lx)), some (.arr 1 hx.length (fI hx)), some (.arr 1 ly.length (fI ly)), some (.arr 1 hy.length (fI hy))] [] trivial ?_
      refine x_r [] [0, 2, 6, 7, 11, 12, 15, 16, 41, 42, 43] [6, 7, 11, 12, 770, 771, 772, 773] [slFeat false b, I band, .ref 6 0, .ref 7 0, .ref 11 0, .ref 12 0, I n, I t16, .sl false 3 ((min (b.length : Int) ((t16 + band) + 1)).toNat - (max 0 (t16 - band)).toNat) (cutF ((max 0 (t16 - band)).toNat) (fFeat b)), I (((min (b.length : Int) ((t16 + band) + 1)).toNat - (max 0 (t16 - band)).toNat : Nat) : Int), I t43] [some (.box [nilA, nilA, nilA, nilA]), some (.box [.arr 770, .arr 771, .arr 772, .arr 773]), some (.box [I (min low.X ((at_ b ((max 0 (t16 - band)).toNat + t43.toNat)).X)), I (min low.Y ((at_ b ((max 0 (t16 - band)).toNat + t43.toNat)).Y)), I low.D]), some (.box [I (max high.X ((at_ b ((max 0 (t16 - band)).toNat + t43.toNat)).X)), I (max high.Y ((at_ b ((max 0 (t16 - band)).toNat + t43.toNat)).Y)), I high.D]), some (.arr 1 lx.length (fI lx)), some (.arr 1 hx.length (fI hx)), some (.arr 1 ly.length (fI ly)), some (.arr 1 hy.length (fI hy))] [] trivial ?_
      refine xe_block 3 ?_
      refine xe_then ?_
      refine x_r [] [0, 2, 6, 7, 11, 12, 15, 16, 41, 42, 43] [6, 7, 11, 12, 770, 771, 772, 773] [slFeat false b, I band, .ref 6 0, .ref 7 0, .ref 11 0, .ref 12 0, I n, I t16, .sl false 3 ((min (b.length : Int) ((t16 + band) + 1)).toNat - (max 0 (t16 - band)).toNat) (cutF ((max 0 (t16 - band)).toNat) (fFeat b)), I (((min (b.length : Int) ((t16 + band) + 1)).toNat - (max 0 (t16 - band)).toNat : Nat) : Int), I (t43 + 1)] [some (.box [nilA, nilA, nilA, nilA]), some (.box [.arr 770, .arr 771, .arr 772, .arr 773]), some (.box [I (min low.X ((at_ b ((max 0 (t16 - band)).toNat + t43.toNat)).X)), I (min low.Y ((at_ b ((max 0 (t16 - band)).toNat + t43.toNat)).Y)), I low.D]), some (.box [I (max high.X ((at_ b ((max 0 (t16 - band)).toNat + t43.toNat)).X)), I (max high.Y ((at_ b ((max 0 (t16 - band)).toNat + t43.toNat)).Y)), I high.D]), some (.arr 1 lx.length (fI lx)), some (.arr 1 hx.length (fI hx)), some (.arr 1 ly.length (fI ly)), some (.arr 1 hy.length (fI hy))] [inR .i64 (t43 + 1)] ⟨(inR_i64 (by omega) (by omega)), trivial⟩ ?_
      refine xe_weak [] (T := [(0, slFeat false b), (2, I band), (6, .ref 6 0), (7, .ref 7 0), (11, .ref 11 0), (12, .ref 12 0), (15, I n), (16, I t16), (41, .sl false 3 ((min (b.length : Int) ((t16 + band) + 1)).toNat - (max 0 (t16 - band)).toNat) (cutF ((max 0 (t16 - band)).toNat) (fFeat b))), (42, I (((min (b.length : Int) ((t16 + band) + 1)).toNat - (max 0 (t16 - band)).toNat : Nat) : Int)), (43, I (t43 + 1))]) (O := [(6, .box [nilA, nilA, nilA, nilA]), (7, .box [.arr 770, .arr 771, .arr 772, .arr 773]), (11, .box [I ((Feat.mk (min low.X ((at_ b ((max 0 (t16 - band)).toNat + t43.toNat)).X)) (min low.Y ((at_ b ((max 0 (t16 - band)).toNat + t43.toNat)).Y)) low.D).X), I ((Feat.mk (min low.X ((at_ b ((max 0 (t16 - band)).toNat + t43.toNat)).X)) (min low.Y ((at_ b ((max 0 (t16 - band)).toNat + t43.toNat)).Y)) low.D).Y), I ((Feat.mk (min low.X ((at_ b ((max 0 (t16 - band)).toNat + t43.toNat)).X)) (min low.Y ((at_ b ((max 0 (t16 - band)).toNat + t43.toNat)).Y)) low.D).D)]), (12, .box [I ((Feat.mk (max high.X ((at_ b ((max 0 (t16 - band)).toNat + t43.toNat)).X)) (max high.Y ((at_ b ((max 0 (t16 - band)).toNat + t43.toNat)).Y)) high.D).X), I ((Feat.mk (max high.X ((at_ b ((max 0 (t16 - band)).toNat + t43.toNat)).X)) (max high.Y ((at_ b ((max 0 (t16 - band)).toNat + t43.toNat)).Y)) high.D).Y), I ((Feat.mk (max high.X ((at_ b ((max 0 (t16 - band)).toNat + t43.toNat)).X)) (max high.Y ((at_ b ((max 0 (t16 - band)).toNat + t43.toNat)).Y)) high.D).D)]), (770, .arr 1 lx.length (fI lx)), (771, .arr 1 hx.length (fI hx)), (772, .arr 1 ly.length (fI ly)), (773, .arr 1 hy.length (fI hy))]) rfl (⟨.inl rfl, .inl rfl, .inl rfl, .inl rfl, .inl rfl, .inl rfl, .inl rfl, .inl rfl, .inl rfl, .inl rfl, .inl rfl, trivial⟩) (⟨.inl rfl, .inl rfl, .inr ⟨(by first | rfl | (simp [valOf]; done) | (simp [valOf]; omega)), ⟨(by first | rfl | (simp [valOf]; done) | (simp [valOf]; omega)), ⟨(by first | rfl | (simp [valOf]; done) | (simp [valOf]; omega)), rfl⟩⟩⟩, .inr ⟨(by first | rfl | (simp [valOf]; done) | (simp [valOf]; omega)), ⟨(by first | rfl | (simp [valOf]; done) | (simp [valOf]; omega)), ⟨(by first | rfl | (simp [valOf]; done) | (simp [valOf]; omega)), rfl⟩⟩⟩, .inl rfl, .inl rfl, .inl rfl, .inl rfl, trivial⟩) (xe_again ((t43 + 1), (Feat.mk (max high.X ((at_ b ((max 0 (t16 - band)).toNat + t43.toNat)).X)) (max high.Y ((at_ b ((max 0 (t16 - band)).toNat + t43.toNat)).Y)) high.D), (Feat.mk (min low.X ((at_ b ((max 0 (t16 - band)).toNat + t43.toNat)).X)) (min low.Y ((at_ b ((max 0 (t16 - band)).toNat + t43.toNat)).Y)) low.D)) rfl (show (0 ≤ (t43 + 1) ∧ (t43 + 1) ≤ (((min (b.length : Int) ((t16 + band) + 1)).toNat - (max 0 (t16 - band)).toNat : Nat) : Int)) ∧ ((Feat.mk (min low.X ((at_ b ((max 0 (t16 - band)).toNat + t43.toNat)).X)) (min low.Y ((at_ b ((max 0 (t16 - band)).toNat + t43.toNat)).Y)) low.D).X = mnR (fun j => (at_ b j).X) (fromN band t16.toNat) ((t43 + 1).toNat - 1) ∧ (Feat.mk (min low.X ((at_ b ((max 0 (t16 - band)).toNat + t43.toNat)).X)) (min low.Y ((at_ b ((max 0 (t16 - band)).toNat + t43.toNat)).Y)) low.D).Y = mnR (fun j => (at_ b j).Y) (fromN band t16.toNat) ((t43 + 1).toNat - 1)) ∧ ((Feat.mk (max high.X ((at_ b ((max 0 (t16 - band)).toNat + t43.toNat)).X)) (max high.Y ((at_ b ((max 0 (t16 - band)).toNat + t43.toNat)).Y)) high.D).X = mxR (fun j => (at_ b j).X) (fromN band t16.toNat) ((t43 + 1).toNat - 1) ∧ (Feat.mk (max high.X ((at_ b ((max 0 (t16 - band)).toNat + t43.toNat)).X)) (max high.Y ((at_ b ((max 0 (t16 - band)).toNat + t43.toNat)).Y)) high.D).Y = mxR (fun j => (at_ b j).Y) (fromN band t16.toNat) ((t43 + 1).toNat - 1)) ∧ True from ⟨(by omega), (by (rw [hnc, hfr]; dsimp only; rw [hlo.1, hlo.2]; exact ⟨mn_next (fun j => (at_ b j).X) _ _, mn_next (fun j => (at_ b j).Y) _ _⟩)), (by (rw [hnc, hfr]; dsimp only; rw [hhi.1, hhi.2]; exact ⟨mx_next (fun j => (at_ b j).X) _ _, mx_next (fun j => (at_ b j).Y) _ _⟩)), trivial⟩) (by first | (show ((((min (b.length : Int) ((t16 + band) + 1)).toNat - (max 0 (t16 - band)).toNat : Nat) - (t43 + 1).toNat) : Nat) < (((min (b.length : Int) ((t16 + band) + 1)).toNat - (max 0 (t16 - band)).toNat : Nat) - t43.toNat); omega) | (dsimp only; omega)))
     have hce : t43.toNat - 1 = cntN b.length band t16.toNat := by unfold cntN; omega
     rw [hce] at hlo hhi
     refine x_r [(0, .dec false)] [0, 2, 6, 7, 11, 12, 15, 16, 41, 42, 43, 44] [6, 7, 11, 12, 770, 771, 772, 773] [slFeat false b, I band, .ref 6 0, .ref 7 0, .ref 11 0, .ref 12 0, I n, I t16, .sl false 3 ((min (b.length : Int) ((t16 + band) + 1)).toNat - (max 0 (t16 - band)).toNat) (cutF ((max 0 (t16 - band)).toNat) (fFeat b)), I (((min (b.length : Int) ((t16 + band) + 1)).toNat - (max 0 (t16 - band)).toNat : Nat) : Int), I t43, Bv false] [some (.box [nilA, nilA, nilA, nilA]), some (.box [.arr 770, .arr 771, .arr 772, .arr 773]), some (bxFeat low), some (bxFeat high), some (.arr 1 lx.length (fI lx)), some (.arr 1 hx.length (fI hx)), some (.arr 1 ly.length (fI ly)), some (.arr 1 hy.length (fI hy))] [¬ (t43 < (((min (b.length : Int) ((t16 + band) + 1)).toNat - (max 0 (t16 - band)).toNat : Nat) : Int))] ⟨h2, trivial⟩ ?_
     refine xe_then ?_
     refine x_seq ?_
     refine x_false rfl ?_
     refine x_exit ?_
     refine xe_exit_then ?_
     refine xe_loop_exit ?_
     refine xe_exit_same ?_
     refine xe_then ?_
     refine xR [(4, .new 76), (5, .new 77), (10, .new 82), (11, .new 83)] [0, 2, 6, 7, 11, 12, 15, 16] [6, 7, 11, 12, 77, 83, 772, 773] [slFeat false b, I band, .ref 6 0, .ref 7 0, .ref 11 0, .ref 12 0, I n, I t16] [some (.box [nilA, nilA, nilA, nilA]), some (.box [.arr 77, .arr 83, .arr 772, .arr 773]), some (bxFeat low), some (bxFeat high), some (.arr 1 (lx.length + 1) (catF lx.length (fI lx) (litF [I low.X] 1))), some (.arr 1 (hx.length + 1) (catF hx.length (fI hx) (litF [I high.X] 1))), some (.arr 1 ly.length (fI ly)), some (.arr 1 hy.length (fI hy))] [(lx.length + 1) * 8 ≤ 140737488355328, (hx.length + 1) * 8 ≤ 140737488355328] ⟨(by omega), (by omega), trivial⟩ ?_
     refine x_r [(4, .new 90), (5, .new 91), (10, .new 96), (11, .new 97)] [0, 2, 6, 7, 15, 16] [6, 7, 77, 83, 91, 97] [slFeat false b, I band, .ref 6 0, .ref 7 0, I n, I t16] [some (.box [nilA, nilA, nilA, nilA]), some (.box [.arr 77, .arr 83, .arr 91, .arr 97]), some (.arr 1 (lx.length + 1) (catF lx.length (fI lx) (litF [I low.X] 1))), some (.arr 1 (hx.length + 1) (catF hx.length (fI hx) (litF [I high.X] 1))), some (.arr 1 (ly.length + 1) (catF ly.length (fI ly) (litF [I low.Y] 1))), some (.arr 1 (hy.length + 1) (catF hy.length (fI hy) (litF [I high.Y] 1)))] [(ly.length + 1) * 8 ≤ 140737488355328, (hy.length + 1) * 8 ≤ 140737488355328] ⟨(by omega), (by omega), trivial⟩ ?_
     refine xe_block 1 ?_
     refine xe_then ?_
     refine x_r [] [0, 2, 6, 7, 15, 16] [6, 7, 77, 83, 91, 97] [slFeat false b, I band, .ref 6 0, .ref 7 0, I n, I (t16 + 1)] [some (.box [nilA, nilA, nilA, nilA]), some (.box [.arr 77, .arr 83, .arr 91, .arr 97]), some (.arr 1 (lx.length + 1) (catF lx.length (fI lx) (litF [I low.X] 1))), some (.arr 1 (hx.length + 1) (catF hx.length (fI hx) (litF [I high.X] 1))), some (.arr 1 (ly.length + 1) (catF ly.length (fI ly) (litF [I low.Y] 1))), some (.arr 1 (hy.length + 1) (catF hy.length (fI hy) (litF [I high.Y] 1)))] [inR .i64 (t16 + 1)] ⟨(inR_i64 (by omega) (by omega)), trivial⟩ ?_
     refine xe_weak [(770, 77), (771, 83), (772, 91), (773, 97)] (T := [(0, slFeat false b), (2, I band), (6, .ref 6 0), (7, .ref 7 0), (15, I n), (16, I (t16 + 1))]) (O := [(6, .box [nilA, nilA, nilA, nilA]), (7, .box [.arr 770, .arr 771, .arr 772, .arr 773]), (770, .arr 1 ((lx ++ [low.X]).length) (fI (lx ++ [low.X]))), (771, .arr 1 ((hx ++ [high.X]).length) (fI (hx ++ [high.X]))), (772, .arr 1 ((ly ++ [low.Y]).length) (fI (ly ++ [low.Y]))), (773, .arr 1 ((hy ++ [high.Y]).length) (fI (hy ++ [high.Y])))]) rfl (⟨.inl rfl, .inl rfl, .inl rfl, .inl rfl, .inl rfl, .inl rfl, trivial⟩) (⟨.inl rfl, .inl rfl, .inr ⟨rfl, (by first | rfl | (simp; done) | (simp; omega) | omega), fun i_ hi_ => .inl (cat_snoc (enc := cI) (xs := lx) rfl i_ hi_)⟩, .inr ⟨rfl, (by first | rfl | (simp; done) | (simp; omega) | omega), fun i_ hi_ => .inl (cat_snoc (enc := cI) (xs := hx) rfl i_ hi_)⟩, .inr ⟨rfl, (by first | rfl | (simp; done) | (simp; omega) | omega), fun i_ hi_ => .inl (cat_snoc (enc := cI) (xs := ly) rfl i_ hi_)⟩, .inr ⟨rfl, (by first | rfl | (simp; done) | (simp; omega) | omega), fun i_ hi_ => .inl (cat_snoc (enc := cI) (xs := hy) rfl i_ hi_)⟩, trivial⟩) (xe_again ((t16 + 1), (lx ++ [low.X]), (hx ++ [high.X]), (ly ++ [low.Y]), (hy ++ [high.Y])) rfl (show (0 ≤ (t16 + 1) ∧ (t16 + 1) ≤ n) ∧ ((lx ++ [low.X]) = rngM (loE Feat.X b band) (t16 + 1).toNat) ∧ ((hx ++ [high.X]) = rngM (hiE Feat.X b band) (t16 + 1).toNat) ∧ ((ly ++ [low.Y]) = rngM (loE Feat.Y b band) (t16 + 1).toNat) ∧ ((hy ++ [high.Y]) = rngM (hiE Feat.Y b band) (t16 + 1).toNat) ∧ True from ⟨(by omega), (by (rw [hnx, hlx]; exact rngM_next hlo.1)), (by (rw [hnx, hhx]; exact rngM_next hhi.1)), (by (rw [hnx, hly]; exact rngM_next hlo.2)), (by (rw [hnx, hhy]; exact rngM_next hhi.2)), trivial⟩) (by first | (show ((n - (t16 + 1)).toNat : Nat) < (n - t16).toNat; omega) | (dsimp only; omega)))
    have hie : t16.toNat = n.toNat := by omega
    refine x_r [(0, .dec false)] [0, 2, 6, 7, 15, 16, 17] [6, 7, 770, 771, 772, 773] [slFeat false b, I band, .ref 6 0, .ref 7 0, I n, I t16, Bv false] [some (.box [nilA, nilA, nilA, nilA]), some (.box [.arr 770, .arr 771, .arr 772, .arr 773]), some (.arr 1 lx.length (fI lx)), some (.arr 1 hx.length (fI hx)), some (.arr 1 ly.length (fI ly)), some (.arr 1 hy.length (fI hy))] [¬ (t16 < n)] ⟨h1, trivial⟩ ?_
    refine xe_then ?_
    refine x_seq ?_
    refine x_false rfl ?_
    refine x_exit ?_
    refine xe_exit_then ?_
    refine xe_loop_exit ?_
    refine xe_exit_same ?_
    refine xe_then ?_
    refine xR [] [6] [6, 770, 771, 772, 773] [.ref 6 0] [some (.box [.arr 770, .arr 771, .arr 772, .arr 773]), some (.arr 1 lx.length (fI lx)), some (.arr 1 hx.length (fI hx)), some (.arr 1 ly.length (fI ly)), some (.arr 1 hy.length (fI hy))] [] trivial ?_
    refine x_ret ?_
    refine xe_end (Envelope.mk lx hx ly hy) (show ((Envelope.mk lx hx ly hy) = envV b band n.toNat) ∧ (True) from ⟨(by (unfold envV; rw [hlx, hhx, hly, hhy, hie])), trivial⟩) (trivial) (.agg [.arr 770, .arr 771, .arr 772, .arr 773]) (by kernel_rfl) (.inr ⟨⟨(fun _ => rfl), rfl, rfl, fun i _ => .inl rfl⟩, ⟨⟨(fun _ => rfl), rfl, rfl, fun i _ => .inl rfl⟩, ⟨⟨(fun _ => rfl), rfl, rfl, fun i _ => .inl rfl⟩, ⟨⟨(fun _ => rfl), rfl, rfl, fun i _ => .inl rfl⟩, rfl⟩⟩⟩⟩) (fun _ => rfl) (fun _ => (by simp [tagged, taggedL, tagI]))
  obtain ⟨v, ⟨hh0, _⟩, hc⟩ := hh
  exact ⟨v, hh0, hc⟩


-- impl.beyond
theorem beyond_ok (n : Int) (low : Int) (high : Int) (h1 : -1000 ≤ n ∧ n ≤ 1000) (h2 : -1000 ≤ low ∧ low ≤ 1000) (h3 : -1000 ≤ high ∧ high ≤ 1000) : Con Try.prog 71 [I n, I low, I high] true (I (offI n low high)) := by
  refine fn_ok (fn := Try.f71) (nt := 14) Try.func71 rfl rfl rfl rfl (by simp [taggedL, tagged]) fun B hB => ?_
  refine aR [] [0, 1, 2] [] [I n, I low, I high] [] [] hB trivial ?_
  refine aR [] [6] [] [I (max (max (low - n) (n - high)) 0)] [] [inR .i64 (low - n), inR .i64 (n - high)] hB ⟨(inR_i64 (by omega) (by omega)), (inR_i64 (by omega) (by omega)), trivial⟩ ?_
  refine aw_ret ?_
  refine ae_ret hB (I (max (max (low - n) (n - high)) 0)) (by kernel_rfl) (.inl (by refine congrArg I ?_; unfold offI; omega)) rfl (fun _ => trivial)


-- impl.outsideOf
theorem outsideOf_ok (a : List Feat) (e : Envelope) (oka : okFeats a 72 = true) (hen : okEn e a.length) : Con Try.prog 45 [slFeat false a, agEnvelope e] true (I (sumN a.length (offE a e))) := by
  have n1 := okFeats_n oka
  have hel := hen.1
  refine fn_ok (fn := Try.f45) (nt := 46) Try.func45 rfl rfl rfl rfl (by simp [taggedL, tagged, tagFeat, tagI]) fun B hB => ?_
  refine aw_lens (x := slFeat false a) 0 rfl (fun len_a => ?_)
  simp [LenOK, LenL, cFeat, fFeat, slFeat] at len_a
  refine aw_lens (x := agEnvelope e) 1 rfl (fun len_e => ?_)
  simp [LenOK, LenL, cI, fI, slI] at len_e
  refine aR [(0, .new 3)] [0, 3] [3] [slFeat false a, .ref 3 0] [some (bxEnvelope e)] [] hB trivial ?_
  refine aR [] [0, 3, 5] [3] [slFeat false a, .ref 3 0, I 0] [some (bxEnvelope e)] [] hB trivial ?_
  refine aw_seq ?_
  refine aR [] [3, 5, 8, 9, 10] [3] [.ref 3 0, I 0, slFeat false a, I (a.length : Int), I 0] [some (bxEnvelope e)] [] hB trivial ?_
  refine aw_block ?_
  refine aw_loop (fun gn gσ => ∃ (sum : Int) (t10 : Int), gn = ((a.length : Int) - t10).toNat ∧ (0 ≤ t10 ∧ t10 ≤ (a.length : Int)) ∧ (sum = sumN t10.toNat (offE a e)) ∧ (0 ≤ sum ∧ sum ≤ 510 * t10) ∧ gσ = mkS [(3, .ref 3 0), (5, I sum), (8, slFeat false a), (9, I (a.length : Int)), (10, I t10)] [(3, bxEnvelope e)]) (((a.length : Int) - 0).toNat) ⟨0, 0, rfl, (by omega), (by rfl), (by omega), rfl⟩ (fun gn gσ hI => ?_)
  obtain ⟨sum, t10, rfl, hi0, hsu, hsb, rfl⟩ := hI
  refine aw_seq ?_
  by_cases h1 : t10 < (a.length : Int)
  ·have hi : t10.toNat < a.length := by omega
   have hf := okF_iff.1 (okFeats_at oka hi)
   have heb := hen.2 t10.toNat hi
   have hob := off_bd oka rfl hen hi
   have ho2 : (-3000 ≤ offI (at_ a t10.toNat).X (at_ e.LowX t10.toNat) (at_ e.HighX t10.toNat) ∧ offI (at_ a t10.toNat).X (at_ e.LowX t10.toNat) (at_ e.HighX t10.toNat) ≤ 3000) ∧ -3000 ≤ offI (at_ a t10.toNat).Y (at_ e.LowY t10.toNat) (at_ e.HighY t10.toNat) ∧ offI (at_ a t10.toNat).Y (at_ e.LowY t10.toNat) (at_ e.HighY t10.toNat) ≤ 3000 := by unfold offI; omega
   refine aw_r [(0, .dec true)] [3, 5, 8, 9, 10, 11] [3] [.ref 3 0, I sum, slFeat false a, I (a.length : Int), I t10, Bv true] [some (bxEnvelope e)] [t10 < (a.length : Int)] hB ⟨h1, trivial⟩ ?_
   refine ae_then ?_
   refine aw_seq ?_
   refine aw_true rfl ?_
   refine aw_skip ?_
   refine ae_then ?_
   refine aw_seq ?_
   refine aw_block ?_
   refine aR [(3, .new 7)] [3, 5, 6, 7, 8, 9, 10] [3, 7] [.ref 3 0, I sum, I t10, .ref 7 0, slFeat false a, I (a.length : Int), I t10] [some (bxEnvelope e), some (bxFeat (at_ a t10.toNat))] [(0 : Int) ≤ t10 ∧ t10 < (a.length : Int)] hB ⟨⟨(by omega), (by omega)⟩, trivial⟩ ?_
   refine aw_r [(13, .call [(true, .any), (true, .any), (true, .any)] true (I (offI ((at_ a t10.toNat).X) (at_ e.LowX t10.toNat) (at_ e.HighX t10.toNat)))), (26, .call [(true, .any), (true, .any), (true, .any)] true (I (offI ((at_ a t10.toNat).Y) (at_ e.LowY t10.toNat) (at_ e.HighY t10.toNat))))] [3, 5, 8, 9, 10] [3] [.ref 3 0, I (sum + ((offI ((at_ a t10.toNat).X) (at_ e.LowX t10.toNat) (at_ e.HighX t10.toNat)) + (offI ((at_ a t10.toNat).Y) (at_ e.LowY t10.toNat) (at_ e.HighY t10.toNat)))), slFeat false a, I (a.length : Int), I t10] [some (bxEnvelope e)] [(0 : Int) ≤ t10 ∧ t10 < (e.LowX.length : Int), (0 : Int) ≤ t10 ∧ t10 < (e.HighX.length : Int), Con Try.prog 71 [I ((at_ a t10.toNat).X), I (at_ e.LowX t10.toNat), I (at_ e.HighX t10.toNat)] true (I (offI ((at_ a t10.toNat).X) (at_ e.LowX t10.toNat) (at_ e.HighX t10.toNat))) ∧ True, (0 : Int) ≤ t10 ∧ t10 < (e.LowY.length : Int), (0 : Int) ≤ t10 ∧ t10 < (e.HighY.length : Int), Con Try.prog 71 [I ((at_ a t10.toNat).Y), I (at_ e.LowY t10.toNat), I (at_ e.HighY t10.toNat)] true (I (offI ((at_ a t10.toNat).Y) (at_ e.LowY t10.toNat) (at_ e.HighY t10.toNat))) ∧ True, inR .i64 ((offI ((at_ a t10.toNat).X) (at_ e.LowX t10.toNat) (at_ e.HighX t10.toNat)) + (offI ((at_ a t10.toNat).Y) (at_ e.LowY t10.toNat) (at_ e.HighY t10.toNat))), inR .i64 (sum + ((offI ((at_ a t10.toNat).X) (at_ e.LowX t10.toNat) (at_ e.HighX t10.toNat)) + (offI ((at_ a t10.toNat).Y) (at_ e.LowY t10.toNat) (at_ e.HighY t10.toNat))))] hB ⟨⟨(by omega), (by omega)⟩, ⟨(by omega), (by omega)⟩, ⟨(beyond_ok ((at_ a t10.toNat).X) (at_ e.LowX t10.toNat) (at_ e.HighX t10.toNat) (by omega) (by omega) (by omega)), trivial⟩, ⟨(by omega), (by omega)⟩, ⟨(by omega), (by omega)⟩, ⟨(beyond_ok ((at_ a t10.toNat).Y) (at_ e.LowY t10.toNat) (at_ e.HighY t10.toNat) (by omega) (by omega) (by omega)), trivial⟩, (inR_i64 (by omega) (by omega)), (inR_i64 (by omega) (by omega)), trivial⟩ ?_
   refine ae_block 1 ?_
   refine ae_then ?_
   refine aw_r [] [3, 5, 8, 9, 10] [3] [.ref 3 0, I (sum + ((offI ((at_ a t10.toNat).X) (at_ e.LowX t10.toNat) (at_ e.HighX t10.toNat)) + (offI ((at_ a t10.toNat).Y) (at_ e.LowY t10.toNat) (at_ e.HighY t10.toNat)))), slFeat false a, I (a.length : Int), I (t10 + 1)] [some (bxEnvelope e)] [inR .i64 (t10 + 1)] hB ⟨(inR_i64 (by omega) (by omega)), trivial⟩ ?_
   exact ae_again _ (by omega) ⟨(sum + ((offI ((at_ a t10.toNat).X) (at_ e.LowX t10.toNat) (at_ e.HighX t10.toNat)) + (offI ((at_ a t10.toNat).Y) (at_ e.LowY t10.toNat) (at_ e.HighY t10.toNat)))), (t10 + 1), rfl, (by omega), (by (rw [sumN_succ hi0.1, ← hsu]; unfold offE; omega)), (by (unfold offE at hob; omega)), rfl⟩
  have hie : t10.toNat = a.length := by omega
  rw [hie] at hsu
  refine aw_r [(0, .dec false)] [3, 5, 8, 9, 10, 11] [3] [.ref 3 0, I sum, slFeat false a, I (a.length : Int), I t10, Bv false] [some (bxEnvelope e)] [¬ (t10 < (a.length : Int))] hB ⟨h1, trivial⟩ ?_
  refine ae_then ?_
  refine aw_seq ?_
  refine aw_false rfl ?_
  refine aw_exit ?_
  refine ae_exit_then ?_
  refine ae_exit_then ?_
  refine ae_exit_same ?_
  refine ae_then ?_
  refine aR [] [4] [] [I sum] [] [] hB trivial ?_
  refine aw_ret ?_
  refine ae_ret hB (I sum) (by kernel_rfl) (.inl (by (rw [hsu]))) rfl (fun _ => trivial)


-- impl.featCost
theorem featCost_ok (a : Feat) (b : Feat) (ha : okF a = true) (hb : okF b = true) : Con Try.prog 72 [agFeat a, agFeat b] true (I (costF a b)) := by
  have ha' := okF_iff.1 ha
  have hb' := okF_iff.1 hb
  refine fn_ok (fn := Try.f72) (nt := 31) Try.func72 rfl rfl rfl rfl (by simp [taggedL, tagged]) fun B hB => ?_
  refine aR [(0, .new 2), (1, .new 3)] [2, 3] [2, 3] [.ref 2 0, .ref 3 0] [some (bxFeat a), some (bxFeat b)] [] hB trivial ?_
  refine aR [(5, .call [(true, .any)] true (I ((a.D - b.D).natAbs : Int)))] [2, 3, 5] [2, 3] [.ref 2 0, .ref 3 0, I ((a.D - b.D).natAbs : Int)] [some (bxFeat a), some (bxFeat b)] [inR .i64 (a.D - b.D), Con Try.prog 44 [I (a.D - b.D)] true (I ((a.D - b.D).natAbs : Int)) ∧ True] hB ⟨(inR_i64 (by omega) (by omega)), ⟨(abs_ok (a.D - b.D) (by omega)), trivial⟩, trivial⟩ ?_
  refine aR [(5, .call [(true, .any)] true (I ((a.X - b.X).natAbs : Int))), (11, .call [(true, .any)] true (I ((a.Y - b.Y).natAbs : Int)))] [4] [] [I ((((a.X - b.X).natAbs : Int) + ((a.Y - b.Y).natAbs : Int)) + (16 * (min ((a.D - b.D).natAbs : Int) (8 - ((a.D - b.D).natAbs : Int)))))] [] [inR .i64 (a.X - b.X), Con Try.prog 44 [I (a.X - b.X)] true (I ((a.X - b.X).natAbs : Int)) ∧ True, inR .i64 (a.Y - b.Y), Con Try.prog 44 [I (a.Y - b.Y)] true (I ((a.Y - b.Y).natAbs : Int)) ∧ True, inR .i64 (((a.X - b.X).natAbs : Int) + ((a.Y - b.Y).natAbs : Int)), inR .i64 (8 - ((a.D - b.D).natAbs : Int)), inR .i64 (16 * (min ((a.D - b.D).natAbs : Int) (8 - ((a.D - b.D).natAbs : Int)))), inR .i64 ((((a.X - b.X).natAbs : Int) + ((a.Y - b.Y).natAbs : Int)) + (16 * (min ((a.D - b.D).natAbs : Int) (8 - ((a.D - b.D).natAbs : Int)))))] hB ⟨(inR_i64 (by omega) (by omega)), ⟨(abs_ok (a.X - b.X) (by omega)), trivial⟩, (inR_i64 (by omega) (by omega)), ⟨(abs_ok (a.Y - b.Y) (by omega)), trivial⟩, (inR_i64 (by omega) (by omega)), (inR_i64 (by omega) (by omega)), (inR_i64 (by omega) (by omega)), (inR_i64 (by omega) (by omega)), trivial⟩ ?_
  refine aw_ret ?_
  refine ae_ret hB (I ((((a.X - b.X).natAbs : Int) + ((a.Y - b.Y).natAbs : Int)) + (16 * (min ((a.D - b.D).natAbs : Int) (8 - ((a.D - b.D).natAbs : Int)))))) (by kernel_rfl) (.inl (by refine congrArg I ?_; first | rfl | (unfold costF; omega))) rfl (fun _ => trivial)


-- impl.endsBound
theorem endsBound_ok (a : List Feat) (b : List Feat) (oka : okFeats a 72 = true) (okb : okFeats b 72 = true) : Con Try.prog 47 [slFeat false a, slFeat false b] true (I (endI a b)) := by
  have n1 := okFeats_n oka
  have n2 := okFeats_n okb
  have q1 : ((a.length : Int) - 1).toNat = a.length - 1 := by omega
  have q2 : ((b.length : Int) - 1).toNat = b.length - 1 := by omega
  have c1 := costF_bd (okFeats_at oka (by omega : 0 < a.length)) (okFeats_at okb (by omega : 0 < b.length))
  have c2 := costF_bd (okFeats_at oka (by omega : a.length - 1 < a.length)) (okFeats_at okb (by omega : b.length - 1 < b.length))
  rw [← q1, ← q2] at c2
  refine fn_ok (fn := Try.f47) (nt := 37) Try.func47 rfl rfl rfl rfl (by simp [taggedL, tagged, tagFeat]) fun B hB => ?_
  refine aw_lens (x := slFeat false a) 0 rfl (fun len_a => ?_)
  simp [LenOK, LenL, cFeat, fFeat, slFeat] at len_a
  refine aw_lens (x := slFeat false b) 1 rfl (fun len_b => ?_)
  simp [LenOK, LenL, cFeat, fFeat, slFeat] at len_b
  refine aR [] [0, 1] [] [slFeat false a, slFeat false b] [] [] hB trivial ?_
  refine aR [(6, .call [(true, .any), (true, .any)] true (I (costF (at_ a 0) (at_ b 0))))] [0, 1, 5] [] [slFeat false a, slFeat false b, I (costF (at_ a 0) (at_ b 0))] [] [(0 : Int) ≤ 0 ∧ 0 < (a.length : Int), (0 : Int) ≤ 0 ∧ 0 < (b.length : Int), Con Try.prog 72 [agFeat (at_ a 0), agFeat (at_ b 0)] true (I (costF (at_ a 0) (at_ b 0))) ∧ True] hB ⟨⟨(by omega), (by omega)⟩, ⟨(by omega), (by omega)⟩, ⟨(featCost_ok (at_ a 0) (at_ b 0) (okFeats_at oka (by omega)) (okFeats_at okb (by omega))), trivial⟩, trivial⟩ ?_
  refine aw_seq ?_
  refine aw_seq ?_
  by_cases h1 : 1 < (a.length : Int)
  ·refine aw_r [(2, .dec true)] [0, 1, 5, 20] [] [slFeat false a, slFeat false b, I (costF (at_ a 0) (at_ b 0)), Bv true] [] [1 < (a.length : Int)] hB ⟨h1, trivial⟩ ?_
   refine ae_then ?_
   refine aw_true rfl ?_
   refine aw_r [(13, .call [(true, .any), (true, .any)] true (I (costF (at_ a (((a.length : Int) - 1).toNat)) (at_ b (((b.length : Int) - 1).toNat)))))] [5] [] [I ((costF (at_ a 0) (at_ b 0)) + (costF (at_ a (((a.length : Int) - 1).toNat)) (at_ b (((b.length : Int) - 1).toNat))))] [] [inR .i64 ((a.length : Int) - 1), (0 : Int) ≤ ((a.length : Int) - 1) ∧ ((a.length : Int) - 1) < (a.length : Int), inR .i64 ((b.length : Int) - 1), (0 : Int) ≤ ((b.length : Int) - 1) ∧ ((b.length : Int) - 1) < (b.length : Int), Con Try.prog 72 [agFeat (at_ a (((a.length : Int) - 1).toNat)), agFeat (at_ b (((b.length : Int) - 1).toNat))] true (I (costF (at_ a (((a.length : Int) - 1).toNat)) (at_ b (((b.length : Int) - 1).toNat)))) ∧ True, inR .i64 ((costF (at_ a 0) (at_ b 0)) + (costF (at_ a (((a.length : Int) - 1).toNat)) (at_ b (((b.length : Int) - 1).toNat))))] hB ⟨(inR_i64 (by omega) (by omega)), ⟨(by omega), (by omega)⟩, (inR_i64 (by omega) (by omega)), ⟨(by omega), (by omega)⟩, ⟨(featCost_ok (at_ a (((a.length : Int) - 1).toNat)) (at_ b (((b.length : Int) - 1).toNat)) (okFeats_at oka (by omega)) (okFeats_at okb (by omega))), trivial⟩, (inR_i64 (by omega) (by omega)), trivial⟩ ?_
   refine ae_then ?_
   refine aR [] [4] [] [I ((costF (at_ a 0) (at_ b 0)) + (costF (at_ a (((a.length : Int) - 1).toNat)) (at_ b (((b.length : Int) - 1).toNat))))] [] [] hB trivial ?_
   refine aw_ret ?_
   refine ae_ret hB (I ((costF (at_ a 0) (at_ b 0)) + (costF (at_ a (((a.length : Int) - 1).toNat)) (at_ b (((b.length : Int) - 1).toNat))))) (by kernel_rfl) (.inl (by refine congrArg I ?_; unfold endI; first | (rw [if_pos (by omega), q1, q2]; done) | (rw [if_neg (by omega)]; done))) rfl (fun _ => trivial)
  by_cases h2 : 1 < (b.length : Int)
  ·refine aw_r [(2, .dec false), (6, .dec true)] [0, 1, 5, 20] [] [slFeat false a, slFeat false b, I (costF (at_ a 0) (at_ b 0)), Bv true] [] [¬ (1 < (a.length : Int)), 1 < (b.length : Int)] hB ⟨h1, h2, trivial⟩ ?_
   refine ae_then ?_
   refine aw_true rfl ?_
   refine aw_r [(13, .call [(true, .any), (true, .any)] true (I (costF (at_ a (((a.length : Int) - 1).toNat)) (at_ b (((b.length : Int) - 1).toNat)))))] [5] [] [I ((costF (at_ a 0) (at_ b 0)) + (costF (at_ a (((a.length : Int) - 1).toNat)) (at_ b (((b.length : Int) - 1).toNat))))] [] [inR .i64 ((a.length : Int) - 1), (0 : Int) ≤ ((a.length : Int) - 1) ∧ ((a.length : Int) - 1) < (a.length : Int), inR .i64 ((b.length : Int) - 1), (0 : Int) ≤ ((b.length : Int) - 1) ∧ ((b.length : Int) - 1) < (b.length : Int), Con Try.prog 72 [agFeat (at_ a (((a.length : Int) - 1).toNat)), agFeat (at_ b (((b.length : Int) - 1).toNat))] true (I (costF (at_ a (((a.length : Int) - 1).toNat)) (at_ b (((b.length : Int) - 1).toNat)))) ∧ True, inR .i64 ((costF (at_ a 0) (at_ b 0)) + (costF (at_ a (((a.length : Int) - 1).toNat)) (at_ b (((b.length : Int) - 1).toNat))))] hB ⟨(inR_i64 (by omega) (by omega)), ⟨(by omega), (by omega)⟩, (inR_i64 (by omega) (by omega)), ⟨(by omega), (by omega)⟩, ⟨(featCost_ok (at_ a (((a.length : Int) - 1).toNat)) (at_ b (((b.length : Int) - 1).toNat)) (okFeats_at oka (by omega)) (okFeats_at okb (by omega))), trivial⟩, (inR_i64 (by omega) (by omega)), trivial⟩ ?_
   refine ae_then ?_
   refine aR [] [4] [] [I ((costF (at_ a 0) (at_ b 0)) + (costF (at_ a (((a.length : Int) - 1).toNat)) (at_ b (((b.length : Int) - 1).toNat))))] [] [] hB trivial ?_
   refine aw_ret ?_
   refine ae_ret hB (I ((costF (at_ a 0) (at_ b 0)) + (costF (at_ a (((a.length : Int) - 1).toNat)) (at_ b (((b.length : Int) - 1).toNat))))) (by kernel_rfl) (.inl (by refine congrArg I ?_; unfold endI; first | (rw [if_pos (by omega), q1, q2]; done) | (rw [if_neg (by omega)]; done))) rfl (fun _ => trivial)
  refine aw_r [(2, .dec false), (6, .dec false)] [0, 1, 5, 20] [] [slFeat false a, slFeat false b, I (costF (at_ a 0) (at_ b 0)), Bv false] [] [¬ (1 < (a.length : Int)), ¬ (1 < (b.length : Int))] hB ⟨h1, h2, trivial⟩ ?_
  refine ae_then ?_
  refine aw_false rfl ?_
  refine aw_skip ?_
  refine ae_then ?_
  refine aR [] [4] [] [I (costF (at_ a 0) (at_ b 0))] [] [] hB trivial ?_
  refine aw_ret ?_
  refine ae_ret hB (I (costF (at_ a 0) (at_ b 0))) (by kernel_rfl) (.inl (by refine congrArg I ?_; unfold endI; first | (rw [if_pos (by omega), q1, q2]; done) | (rw [if_neg (by omega)]; done))) rfl (fun _ => trivial)


-- impl.lowerBound
theorem lowerBound_ok (a : List Feat) (b : List Feat) (band : Int) (oka : okFeats a 72 = true) (okb : okFeats b 72 = true) (hbd : 0 ≤ band ∧ band ≤ 72) (hin : inBd band a.length b.length) : ∃ (v : Int), (v = lbI a b band) ∧ Con Try.prog 26 [slFeat false a, slFeat false b, I band] true (I v) := by
  have n1 := okFeats_n oka
  have hh : ∃ r : Int, ((r = lbI a b band) ∧ (True)) ∧ CallOK Try.prog 26 [slFeat false a, slFeat false b, I band] (lookO []) true (I r) (lookO []) := by
    refine fn_okX (Φ := fun r : Int => (r = lbI a b band) ∧ (True)) [] (fun r => []) (fn := Try.f26) (nt := 18) Try.func26 rfl rfl (args := [slFeat false a, slFeat false b, I band]) rfl (allcons (.inl ⟨rfl, tagFeat false _⟩) (allcons (.inl ⟨rfl, tagFeat false _⟩) (allcons (.inl ⟨rfl, trivial⟩) allnil))) (res := fun r => I r) ?_
    refine xR [] [0, 1, 2] [] [slFeat false a, slFeat false b, I band] [] [] trivial ?_
    refine x_seq ?_
    obtain ⟨v_1, hx1_0, hc1⟩ := envelopeOf_ok b (a.length : Int) band okb (by omega) hbd hin
    have hev : v_1 = envV b band a.length := by rw [hx1_0]; rfl
    have heo : okEn v_1 a.length := by rw [hev]; exact envV_ok okb hin
    have hso := out_env a b band
    rw [← hev] at hso
    refine x_r [(5, .call [(true, .any), (true, .any), (true, .any)] true (agEnvelopeT v_1)), (6, .call [(true, .any), (false, agEnvelope v_1)] true (I (sumN a.length (offE a v_1)))), (9, .call [(true, .any), (true, .any)] true (I (endI a b)))] [6] [] [I (max (sumN a.length (offE a v_1)) (endI a b))] [] [Con Try.prog 46 [slFeat false b, I (a.length : Int), I band] true (agEnvelopeT v_1) ∧ True, Con Try.prog 45 [slFeat false a, agEnvelope v_1] true (I (sumN a.length (offE a v_1))) ∧ (((false = true → true = true) ∧ 1 = 1 ∧ v_1.LowX.length = v_1.LowX.length ∧ ∀ i_, i_ < v_1.LowX.length → (fI v_1.LowX) i_ = (fI v_1.LowX) i_ ∨ (AV.idsL ((fI v_1.LowX) i_) = [] ∧ leL (fun _ => none) false ((fI v_1.LowX) i_) ((fI v_1.LowX) i_))) ∧ ((false = true → true = true) ∧ 1 = 1 ∧ v_1.HighX.length = v_1.HighX.length ∧ ∀ i_, i_ < v_1.HighX.length → (fI v_1.HighX) i_ = (fI v_1.HighX) i_ ∨ (AV.idsL ((fI v_1.HighX) i_) = [] ∧ leL (fun _ => none) false ((fI v_1.HighX) i_) ((fI v_1.HighX) i_))) ∧ ((false = true → true = true) ∧ 1 = 1 ∧ v_1.LowY.length = v_1.LowY.length ∧ ∀ i_, i_ < v_1.LowY.length → (fI v_1.LowY) i_ = (fI v_1.LowY) i_ ∨ (AV.idsL ((fI v_1.LowY) i_) = [] ∧ leL (fun _ => none) false ((fI v_1.LowY) i_) ((fI v_1.LowY) i_))) ∧ ((false = true → true = true) ∧ 1 = 1 ∧ v_1.HighY.length = v_1.HighY.length ∧ ∀ i_, i_ < v_1.HighY.length → (fI v_1.HighY) i_ = (fI v_1.HighY) i_ ∨ (AV.idsL ((fI v_1.HighY) i_) = [] ∧ leL (fun _ => none) false ((fI v_1.HighY) i_) ((fI v_1.HighY) i_))) ∧ ([] : List AV) = []) ∧ True, Con Try.prog 47 [slFeat false a, slFeat false b] true (I (endI a b)) ∧ True] ⟨⟨hc1, trivial⟩, ⟨(outsideOf_ok a v_1 oka heo), ⟨⟨(fun h => by cases h), rfl, rfl, fun i _ => .inl rfl⟩, ⟨⟨(fun h => by cases h), rfl, rfl, fun i _ => .inl rfl⟩, ⟨⟨(fun h => by cases h), rfl, rfl, fun i _ => .inl rfl⟩, ⟨⟨(fun h => by cases h), rfl, rfl, fun i _ => .inl rfl⟩, rfl⟩⟩⟩⟩, trivial⟩, ⟨(endsBound_ok a b oka okb), trivial⟩, trivial⟩ ?_
    refine xe_then ?_
    refine x_ret ?_
    refine xe_end (max (sumN a.length (offE a v_1)) (endI a b)) (show ((max (sumN a.length (offE a v_1)) (endI a b)) = lbI a b band) ∧ (True) from ⟨(by (unfold lbI; rw [← hso])), trivial⟩) (trivial) (I (max (sumN a.length (offE a v_1)) (endI a b))) (by kernel_rfl) (.inl rfl) (fun _ => rfl) (fun _ => trivial)
  obtain ⟨v, ⟨hh0, _⟩, hc⟩ := hh
  exact ⟨v, hh0, hc⟩

end Go.Proofs.Ytbapncplieakmaa.Ax
