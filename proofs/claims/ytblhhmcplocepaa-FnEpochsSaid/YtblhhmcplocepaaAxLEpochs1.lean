/- Contracts that the statement FnEpochs reaches, part 1. No conditions. -/
import Derived.Test.YtblhhmcplocepaaAxO
import Derived.Test.YtblhhmcplocepaaShelf
import Derived.Test.YtblhhmcplocepaaAxR
import Derived.Test.YtblhhmcplocepaaAxS
namespace Go.Proofs.Ytblhhmcplocepaa.Ax
open Go.RowKit Go.ChangeShapes Go.WideShapes
set_option linter.unusedVariables false
set_option linter.unusedSimpArgs false


def cU8 (x : Int) : List AV := [.val (.int .u8 x)]
def fU8 (xs : List Int) (i : Nat) : List AV := cU8 (at_ xs i)
def slU8 (fr : Bool) (xs : List Int) : AV := .sl fr 1 xs.length (fU8 xs)
theorem tagcU8 (t : Bool) (x : Int) : taggedL t (cU8 x) := by simp [cU8, taggedL, tagged]
theorem tagU8 (t : Bool) (xs : List Int) : tagged t (slU8 t xs) := by simp only [slU8, tagged]; exact ⟨trivial, fun i _ => tagcU8 t _⟩
theorem lenU8 (fr : Bool) (xs : List Int) : lenA noOb (slU8 fr xs) = some xs.length := rfl
def cS (x : ByteArray) : List AV := [Sv x]
def fS (xs : List ByteArray) (i : Nat) : List AV := cS (at_ xs i)
def slS (fr : Bool) (xs : List ByteArray) : AV := .sl fr 1 xs.length (fS xs)
theorem tagcS (t : Bool) (x : ByteArray) : taggedL t (cS x) := by simp [cS, taggedL, tagged]
theorem tagS (t : Bool) (xs : List ByteArray) : tagged t (slS t xs) := by simp only [slS, tagged]; exact ⟨trivial, fun i _ => tagcS t _⟩
theorem lenS (fr : Bool) (xs : List ByteArray) : lenA noOb (slS fr xs) = some xs.length := rfl
def cLS (fr : Bool) (x : List ByteArray) : List AV := [slS fr x]
def fLS (fr : Bool) (xs : List (List ByteArray)) (i : Nat) : List AV := cLS fr (at_ xs i)
def slLS (fr : Bool) (xs : List (List ByteArray)) : AV := .sl fr 1 xs.length (fLS fr xs)
theorem tagcLS (t : Bool) (x : List ByteArray) : taggedL t (cLS t x) := by simp [cLS, taggedL, tagged, tagS]
theorem tagLS (t : Bool) (xs : List (List ByteArray)) : tagged t (slLS t xs) := by simp only [slLS, tagged]; exact ⟨trivial, fun i _ => tagcLS t _⟩
theorem lenLS (fr : Bool) (xs : List (List ByteArray)) : lenA noOb (slLS fr xs) = some xs.length := rfl
theorem idsLS (fr : Bool) (x : List ByteArray) : AV.idsL (cLS fr x) = [] := rfl
theorem leLS (fr : Bool) (x : List ByteArray) (ob : Nat → Option Ob) : leL ob false (cLS fr x) (cLS false x) := (And.intro (And.intro (fun h => by cases h) (And.intro rfl (And.intro rfl (fun i _ => .inl rfl)))) rfl)
def cI (x : Int) : List AV := [I x]
def fI (xs : List Int) (i : Nat) : List AV := cI (at_ xs i)
def slI (fr : Bool) (xs : List Int) : AV := .sl fr 1 xs.length (fI xs)
theorem tagcI (t : Bool) (x : Int) : taggedL t (cI x) := by simp [cI, taggedL, tagged]
theorem tagI (t : Bool) (xs : List Int) : tagged t (slI t xs) := by simp only [slI, tagged]; exact ⟨trivial, fun i _ => tagcI t _⟩
theorem lenI (fr : Bool) (xs : List Int) : lenA noOb (slI fr xs) = some xs.length := rfl
def cLI (fr : Bool) (x : List Int) : List AV := [slI fr x]
def fLI (fr : Bool) (xs : List (List Int)) (i : Nat) : List AV := cLI fr (at_ xs i)
def slLI (fr : Bool) (xs : List (List Int)) : AV := .sl fr 1 xs.length (fLI fr xs)
theorem tagcLI (t : Bool) (x : List Int) : taggedL t (cLI t x) := by simp [cLI, taggedL, tagged, tagI]
theorem tagLI (t : Bool) (xs : List (List Int)) : tagged t (slLI t xs) := by simp only [slLI, tagged]; exact ⟨trivial, fun i _ => tagcLI t _⟩
theorem lenLI (fr : Bool) (xs : List (List Int)) : lenA noOb (slLI fr xs) = some xs.length := rfl
theorem idsLI (fr : Bool) (x : List Int) : AV.idsL (cLI fr x) = [] := rfl
theorem leLI (fr : Bool) (x : List Int) (ob : Nat → Option Ob) : leL ob false (cLI fr x) (cLI false x) := (And.intro (And.intro (fun h => by cases h) (And.intro rfl (And.intro rfl (fun i _ => .inl rfl)))) rfl)
def cLLI (fr : Bool) (x : List (List Int)) : List AV := [slLI fr x]
def fLLI (fr : Bool) (xs : List (List (List Int))) (i : Nat) : List AV := cLLI fr (at_ xs i)
def slLLI (fr : Bool) (xs : List (List (List Int))) : AV := .sl fr 1 xs.length (fLLI fr xs)
theorem tagcLLI (t : Bool) (x : List (List Int)) : taggedL t (cLLI t x) := by simp [cLLI, taggedL, tagged, tagLI]
theorem tagLLI (t : Bool) (xs : List (List (List Int))) : tagged t (slLLI t xs) := by simp only [slLLI, tagged]; exact ⟨trivial, fun i _ => tagcLLI t _⟩
theorem lenLLI (fr : Bool) (xs : List (List (List Int))) : lenA noOb (slLLI fr xs) = some xs.length := rfl
theorem idsLLI (fr : Bool) (x : List (List Int)) : AV.idsL (cLLI fr x) = [] := rfl
theorem leLLI (fr : Bool) (x : List (List Int)) (ob : Nat → Option Ob) : leL ob false (cLLI fr x) (cLLI false x) := (And.intro (And.intro (fun h => by cases h) (And.intro rfl (And.intro rfl (fun i _ => .inr ⟨idsLI _ _, leLI _ _ _⟩)))) rfl)
structure Perceptron where
  Labels : List ByteArray
  Weights : List (List Int)
deriving DecidableEq, Inhabited
def cPerceptron (fr : Bool) (x : Perceptron) : List AV := [slS fr x.Labels, slLI fr x.Weights]
def fPerceptron (fr : Bool) (xs : List Perceptron) (i : Nat) : List AV := cPerceptron fr (at_ xs i)
def slPerceptron (fr : Bool) (xs : List Perceptron) : AV := .sl fr 2 xs.length (fPerceptron fr xs)
theorem tagcPerceptron (t : Bool) (x : Perceptron) : taggedL t (cPerceptron t x) := by simp [cPerceptron, taggedL, tagged, tagLI, tagS]
theorem tagPerceptron (t : Bool) (xs : List Perceptron) : tagged t (slPerceptron t xs) := by simp only [slPerceptron, tagged]; exact ⟨trivial, fun i _ => tagcPerceptron t _⟩
theorem lenPerceptron (fr : Bool) (xs : List Perceptron) : lenA noOb (slPerceptron fr xs) = some xs.length := rfl
theorem idsPerceptron (fr : Bool) (x : Perceptron) : AV.idsL (cPerceptron fr x) = [] := rfl
theorem lePerceptron (fr : Bool) (x : Perceptron) (ob : Nat → Option Ob) : leL ob false (cPerceptron fr x) (cPerceptron false x) := (And.intro (And.intro (fun h => by cases h) (And.intro rfl (And.intro rfl (fun i _ => .inl rfl)))) (And.intro (And.intro (fun h => by cases h) (And.intro rfl (And.intro rfl (fun i _ => .inr ⟨idsLI _ _, leLI _ _ _⟩)))) rfl))
abbrev bxPerceptron (x : Perceptron) : Ob := .box [slS false x.Labels, slLI false x.Weights]
abbrev agPerceptron (x : Perceptron) : AV := .agg [slS false x.Labels, slLI false x.Weights]
abbrev bxPerceptronT (x : Perceptron) : Ob := .box [slS true x.Labels, slLI true x.Weights]
abbrev agPerceptronT (x : Perceptron) : AV := .agg [slS true x.Labels, slLI true x.Weights]
structure Feat where
  X : Int
  Y : Int
  D : Int
deriving DecidableEq, Inhabited
def cFeat (x : Feat) : List AV := [I x.X, I x.Y, I x.D]
def fFeat (xs : List Feat) (i : Nat) : List AV := cFeat (at_ xs i)
def slFeat (fr : Bool) (xs : List Feat) : AV := .sl fr 3 xs.length (fFeat xs)
theorem tagcFeat (t : Bool) (x : Feat) : taggedL t (cFeat x) := by simp [cFeat, taggedL, tagged]
theorem tagFeat (t : Bool) (xs : List Feat) : tagged t (slFeat t xs) := by simp only [slFeat, tagged]; exact ⟨trivial, fun i _ => tagcFeat t _⟩
theorem lenFeat (fr : Bool) (xs : List Feat) : lenA noOb (slFeat fr xs) = some xs.length := rfl
abbrev bxFeat (x : Feat) : Ob := .box [I x.X, I x.Y, I x.D]
abbrev agFeat (x : Feat) : AV := .agg [I x.X, I x.Y, I x.D]
def cLFeat (fr : Bool) (x : List Feat) : List AV := [slFeat fr x]
def fLFeat (fr : Bool) (xs : List (List Feat)) (i : Nat) : List AV := cLFeat fr (at_ xs i)
def slLFeat (fr : Bool) (xs : List (List Feat)) : AV := .sl fr 1 xs.length (fLFeat fr xs)
theorem tagcLFeat (t : Bool) (x : List Feat) : taggedL t (cLFeat t x) := by simp [cLFeat, taggedL, tagged, tagFeat]
theorem tagLFeat (t : Bool) (xs : List (List Feat)) : tagged t (slLFeat t xs) := by simp only [slLFeat, tagged]; exact ⟨trivial, fun i _ => tagcLFeat t _⟩
theorem lenLFeat (fr : Bool) (xs : List (List Feat)) : lenA noOb (slLFeat fr xs) = some xs.length := rfl
theorem idsLFeat (fr : Bool) (x : List Feat) : AV.idsL (cLFeat fr x) = [] := rfl
theorem leLFeat (fr : Bool) (x : List Feat) (ob : Nat → Option Ob) : leL ob false (cLFeat fr x) (cLFeat false x) := (And.intro (And.intro (fun h => by cases h) (And.intro rfl (And.intro rfl (fun i _ => .inl rfl)))) rfl)
structure Sample where
  Label : ByteArray
  Feats : List Feat
deriving DecidableEq, Inhabited
def cSample (fr : Bool) (x : Sample) : List AV := [Sv x.Label, slFeat fr x.Feats]
def fSample (fr : Bool) (xs : List Sample) (i : Nat) : List AV := cSample fr (at_ xs i)
def slSample (fr : Bool) (xs : List Sample) : AV := .sl fr 2 xs.length (fSample fr xs)
theorem tagcSample (t : Bool) (x : Sample) : taggedL t (cSample t x) := by simp [cSample, taggedL, tagged, tagFeat]
theorem tagSample (t : Bool) (xs : List Sample) : tagged t (slSample t xs) := by simp only [slSample, tagged]; exact ⟨trivial, fun i _ => tagcSample t _⟩
theorem lenSample (fr : Bool) (xs : List Sample) : lenA noOb (slSample fr xs) = some xs.length := rfl
theorem idsSample (fr : Bool) (x : Sample) : AV.idsL (cSample fr x) = [] := rfl
theorem leSample (fr : Bool) (x : Sample) (ob : Nat → Option Ob) : leL ob false (cSample fr x) (cSample false x) := (And.intro rfl (And.intro (And.intro (fun h => by cases h) (And.intro rfl (And.intro rfl (fun i _ => .inl rfl)))) rfl))
abbrev bxSample (x : Sample) : Ob := .box [Sv x.Label, slFeat false x.Feats]
abbrev agSample (x : Sample) : AV := .agg [Sv x.Label, slFeat false x.Feats]
abbrev bxSampleT (x : Sample) : Ob := .box [Sv x.Label, slFeat true x.Feats]
abbrev agSampleT (x : Sample) : AV := .agg [Sv x.Label, slFeat true x.Feats]
def cLU8 (fr : Bool) (x : List Int) : List AV := [slU8 fr x]
def fLU8 (fr : Bool) (xs : List (List Int)) (i : Nat) : List AV := cLU8 fr (at_ xs i)
def slLU8 (fr : Bool) (xs : List (List Int)) : AV := .sl fr 1 xs.length (fLU8 fr xs)
theorem tagcLU8 (t : Bool) (x : List Int) : taggedL t (cLU8 t x) := by simp [cLU8, taggedL, tagged, tagU8]
theorem tagLU8 (t : Bool) (xs : List (List Int)) : tagged t (slLU8 t xs) := by simp only [slLU8, tagged]; exact ⟨trivial, fun i _ => tagcLU8 t _⟩
theorem lenLU8 (fr : Bool) (xs : List (List Int)) : lenA noOb (slLU8 fr xs) = some xs.length := rfl
theorem idsLU8 (fr : Bool) (x : List Int) : AV.idsL (cLU8 fr x) = [] := rfl
theorem leLU8 (fr : Bool) (x : List Int) (ob : Nat → Option Ob) : leL ob false (cLU8 fr x) (cLU8 false x) := (And.intro (And.intro (fun h => by cases h) (And.intro rfl (And.intro rfl (fun i _ => .inl rfl)))) rfl)
def cU64 (x : Int) : List AV := [.val (.int .u64 x)]
def fU64 (xs : List Int) (i : Nat) : List AV := cU64 (at_ xs i)
def slU64 (fr : Bool) (xs : List Int) : AV := .sl fr 1 xs.length (fU64 xs)
theorem tagcU64 (t : Bool) (x : Int) : taggedL t (cU64 x) := by simp [cU64, taggedL, tagged]
theorem tagU64 (t : Bool) (xs : List Int) : tagged t (slU64 t xs) := by simp only [slU64, tagged]; exact ⟨trivial, fun i _ => tagcU64 t _⟩
theorem lenU64 (fr : Bool) (xs : List Int) : lenA noOb (slU64 fr xs) = some xs.length := rfl
structure l00Src where
  code : List Int
  atx : Int
  seed : Int
deriving DecidableEq, Inhabited
def cl00Src (fr : Bool) (x : l00Src) : List AV := [slU8 fr x.code, I x.atx, .val (.int .u64 x.seed)]
def fl00Src (fr : Bool) (xs : List l00Src) (i : Nat) : List AV := cl00Src fr (at_ xs i)
def sll00Src (fr : Bool) (xs : List l00Src) : AV := .sl fr 3 xs.length (fl00Src fr xs)
theorem tagcl00Src (t : Bool) (x : l00Src) : taggedL t (cl00Src t x) := by simp [cl00Src, taggedL, tagged, tagU8]
theorem tagl00Src (t : Bool) (xs : List l00Src) : tagged t (sll00Src t xs) := by simp only [sll00Src, tagged]; exact ⟨trivial, fun i _ => tagcl00Src t _⟩
theorem lenl00Src (fr : Bool) (xs : List l00Src) : lenA noOb (sll00Src fr xs) = some xs.length := rfl
theorem idsl00Src (fr : Bool) (x : l00Src) : AV.idsL (cl00Src fr x) = [] := rfl
theorem lel00Src (fr : Bool) (x : l00Src) (ob : Nat → Option Ob) : leL ob false (cl00Src fr x) (cl00Src false x) := (And.intro (And.intro (fun h => by cases h) (And.intro rfl (And.intro rfl (fun i _ => .inl rfl)))) (And.intro rfl (And.intro rfl rfl)))
abbrev bxl00Src (x : l00Src) : Ob := .box [slU8 false x.code, I x.atx, .val (.int .u64 x.seed)]
abbrev agl00Src (x : l00Src) : AV := .agg [slU8 false x.code, I x.atx, .val (.int .u64 x.seed)]
abbrev bxl00SrcT (x : l00Src) : Ob := .box [slU8 true x.code, I x.atx, .val (.int .u64 x.seed)]
abbrev agl00SrcT (x : l00Src) : AV := .agg [slU8 true x.code, I x.atx, .val (.int .u64 x.seed)]

-- laws.f6big
theorem f6big_ok (code : List Int) : Con Try.prog 5 [slU8 false code] true (Bv (decide (4096 < (code.length : Int)))) := by
  refine fn_ok (fn := Try.f5) (nt := 6) Try.func5 rfl rfl rfl rfl (by simp [taggedL, tagged, tagU8]) fun B hB => ?_
  refine aw_lens (x := slU8 false code) 0 rfl (fun len_code => ?_)
  simp [LenOK, LenL, cU8, fU8, slU8] at len_code
  refine aR [] [0] [] [slU8 false code] [] [] hB trivial ?_
  refine aR [] [2] [] [Bv (decide (4096 < (code.length : Int)))] [] [] hB trivial ?_
  refine aw_ret ?_
  refine ae_ret hB (Bv (decide (4096 < (code.length : Int)))) (by kernel_rfl) (.inl rfl) rfl (fun _ => trivial)


theorem set_at {α : Type} [Inhabited α] {ys xs : List α} {i : Int} (hl : ys.length = xs.length) (hi : i.toNat < xs.length) (h : ∀ j : Nat, (j : Int) < i → at_ ys j = at_ xs j) (j : Nat) (hj : j ≤ i.toNat) : at_ (ys.set i.toNat (at_ xs i.toNat)) j = at_ xs j := by
  by_cases e : i.toNat = j
  · subst e; simp [at_, hl, hi]
  · have := h j (by omega)
    simp only [at_] at this ⊢
    rw [← this]
    simp [e]
/-- Whether two things are the same. -/
def same {α : Type} [DecidableEq α] (x y : α) : Bool := decide (x = y)
theorem same_iff {α : Type} [DecidableEq α] {x y : α} : same x y = true ↔ x = y := by simp [same]
theorem ext_at {α : Type} [Inhabited α] {xs ys : List α} (hl : xs.length = ys.length) (h : ∀ j : Nat, j < xs.length → at_ xs j = at_ ys j) : xs = ys := by
  apply List.ext_getElem hl
  intro i h1 h2
  rw [← at_eq h1, ← at_eq h2]
  exact h i h1

theorem at_mem {α : Type} [Inhabited α] {xs : List α} {i : Nat} (h : i < xs.length) : at_ xs i ∈ xs := by rw [at_eq h]; exact List.getElem_mem h

/-- Whether p holds of all numbers below n. -/
def allN (n : Nat) (p : Nat → Bool) : Bool := (List.range n).all p
def anyN (n : Nat) (p : Nat → Bool) : Bool := !(allN n fun j => !(p j))
theorem allN_iff {n : Nat} {p : Nat → Bool} : allN n p = true ↔ ∀ j, j < n → p j = true := by simp [allN, List.all_eq_true]
theorem allN_at {n : Nat} {p : Nat → Bool} (h : ∀ j, j < n → p j = true) : allN n p = true := allN_iff.2 h
theorem allN_get {n : Nat} {p : Nat → Bool} (h : allN n p = true) {k : Nat} (hk : k < n) : p k = true := allN_iff.1 h k hk
theorem allN_not {n : Nat} {p : Nat → Bool} {k : Nat} (hk : k < n) (h : p k = false) : allN n p = false := by
  rw [← Bool.not_eq_true, allN_iff]; intro h'; rw [h' k hk] at h; cases h
theorem anyN_not (n : Nat) (p : Nat → Bool) : anyN n (fun j => !(p j)) = !(allN n p) := by simp [anyN]
theorem anyN_at {n : Nat} {p : Nat → Bool} {k : Nat} (hk : k < n) (h : p k = true) : anyN n p = true := by
  unfold anyN; rw [allN_not hk (by simp [h])]; rfl
theorem anyN_none {n : Nat} {p : Nat → Bool} (h : ∀ j, j < n → p j = false) : anyN n p = false := by
  unfold anyN; rw [allN_at (fun j hj => by simp [h j hj])]; rfl
theorem anyN_iff {n : Nat} {p : Nat → Bool} : anyN n p = true ↔ ∃ j, j < n ∧ p j = true := by
  constructor
  · intro h
    apply Classical.byContradiction
    intro hn
    rw [anyN_none (fun j hj => by rw [← Bool.not_eq_true]; exact fun hp => hn ⟨j, hj, hp⟩)] at h
    cases h
  · rintro ⟨j, hj, hp⟩; exact anyN_at hj hp
theorem up_to {n : Int} {p : Nat → Prop} {i : Int} (hi : 0 ≤ i) (h : ∀ j : Nat, (j : Int) < i → p j) (hp : p i.toNat) : ∀ j : Nat, (j : Int) < i + 1 → p j := fun j hj => by
  by_cases e : j = i.toNat
  · subst e; exact hp
  · exact h j (by omega)

/-- The source of choices is in order: its bytes are bytes, and its place is a number. -/
def okSrc (s : l00Src) : Prop := (∀ j, j < s.code.length → 0 ≤ at_ s.code j ∧ at_ s.code j ≤ 255) ∧ 0 ≤ s.atx ∧ s.code.length ≤ 4611686018427387904
theorem u64_wrap (n : Int) : 0 ≤ IntKind.u64.wrap n ∧ IntKind.u64.wrap n ≤ 18446744073709551615 := by
  simp only [IntKind.wrap, IntKind.signed, IntKind.bits]
  simp
  omega
theorem and_255 (a : Int) : 0 ≤ bitsI .and .u64 a 255 ∧ bitsI .and .u64 a 255 ≤ 255 := by
  obtain ⟨n, hn⟩ : ∃ n : Nat, n = (BitVec.ofInt 64 a &&& BitVec.ofInt 64 255).toNat := ⟨_, rfl⟩
  have h : n ≤ 255 := by rw [hn, BitVec.toNat_and]; exact Nat.and_le_right
  have e : bitsI .and .u64 a 255 = IntKind.u64.wrap (n : Int) := by rw [hn]; rfl
  have w : IntKind.u64.wrap (n : Int) = n := wrap_in (inR_u64 (by omega) (by omega))
  rw [e, w]; omega

-- spec.l00From
theorem l00From_ok (code : List Int) : ∃ (s' : l00Src), (s'.code = code ∧ s'.atx = 0) ∧ CallOK Try.prog 28 [slU8 false code] (lookO []) false (.ref 7001 0) (lookO [(7001, bxl00Src s')]) := by
  have hh : ∃ r : l00Src, ((r.code = code ∧ r.atx = 0) ∧ (True)) ∧ CallOK Try.prog 28 [slU8 false code] (lookO []) false (.ref 7001 0) (lookO [(7001, bxl00Src r)]) := by
    refine fn_okX (Φ := fun r : l00Src => (r.code = code ∧ r.atx = 0) ∧ (True)) [] (fun r => [(7001, bxl00Src r)]) (fn := Try.f28) (nt := 6) Try.func28 rfl rfl (args := [slU8 false code]) rfl (allcons (.inl ⟨rfl, tagU8 false _⟩) allnil) (res := fun r => .ref 7001 0) ?_
    refine xR [] [0] [] [slU8 false code] [] [] trivial ?_
    refine xR [(2, .new 7001)] [2] [7001] [.ref 7001 0] [some (.box [slU8 false code, I 0, .val (.int .u64 0)])] [] trivial ?_
    refine x_ret ?_
    refine xe_end (l00Src.mk code 0 0) (show ((l00Src.mk code 0 0).code = code ∧ (l00Src.mk code 0 0).atx = 0) ∧ (True) from ⟨(by first | rfl | (exact ⟨rfl, rfl⟩)), trivial⟩) (⟨.inl rfl, trivial⟩) (.ref 7001 0) (by kernel_rfl) (.inl rfl) (fun h => by cases h) (fun h => by cases h)
  obtain ⟨s', ⟨hh0, _⟩, hc⟩ := hh
  exact ⟨s', hh0, hc⟩


-- spec.l00Src).next
theorem next_ok (s : l00Src) (hs : okSrc s) (ha : s.atx ≤ 4000000000000000000) : ∃ (v : Int) (s' : l00Src), (0 ≤ v ∧ v ≤ 255) ∧ (okSrc s') ∧ (s'.code = s.code) ∧ (s.atx + 1 ≤ s'.atx ∧ s'.atx ≤ s.atx + 1) ∧ CallOK Try.prog 67 [.ref 7001 0] (lookO [(7001, bxl00Src s)]) true (I v) (lookO [(7001, bxl00Src s')]) := by
  have hs0 := hs.2.1
  have hs1 := hs.2.2
  have hh : ∃ r : Int × l00Src, ((0 ≤ r.1 ∧ r.1 ≤ 255) ∧ (okSrc r.2) ∧ (r.2.code = s.code) ∧ (s.atx + 1 ≤ r.2.atx ∧ r.2.atx ≤ s.atx + 1) ∧ (True)) ∧ CallOK Try.prog 67 [.ref 7001 0] (lookO [(7001, bxl00Src s)]) true (I r.1) (lookO [(7001, bxl00Src r.2)]) := by
    refine fn_okX (Φ := fun r : Int × l00Src => (0 ≤ r.1 ∧ r.1 ≤ 255) ∧ (okSrc r.2) ∧ (r.2.code = s.code) ∧ (s.atx + 1 ≤ r.2.atx ∧ r.2.atx ≤ s.atx + 1) ∧ (True)) [(7001, bxl00Src s)] (fun r => [(7001, bxl00Src r.2)]) (fn := Try.f67) (nt := 62) Try.func67 rfl rfl (args := [.ref 7001 0]) rfl (allcons (.inr trivial) allnil) (res := fun r => I r.1) ?_
    refine xR [] [0] [7001] [.ref 7001 0] [some (bxl00Src s)] [] trivial ?_
    refine xR [] [0, 3] [7001] [.ref 7001 0, I 0] [some (bxl00Src s)] [] trivial ?_
    refine x_seq ?_
    refine x_seq ?_
    by_cases h1 : s.atx < (s.code.length : Int)
    ·have hbt := hs.1 s.atx.toNat (by omega)
     refine x_r [(9, .dec true)] [0, 3, 13] [7001] [.ref 7001 0, I 0, Bv true] [some (bxl00Src s)] [s.atx < (s.code.length : Int)] ⟨h1, trivial⟩ ?_
     refine xe_then ?_
     refine x_true rfl ?_
     refine x_r [] [0, 3] [7001] [.ref 7001 0, I (at_ s.code s.atx.toNat)] [some (bxl00Src s)] [(0 : Int) ≤ s.atx ∧ s.atx < (s.code.length : Int), inR .i64 (at_ s.code s.atx.toNat)] ⟨⟨(by omega), (by omega)⟩, (inR_i64 (by omega) (by omega)), trivial⟩ ?_
     refine xe_then ?_
     refine xR [] [0, 3] [7001] [.ref 7001 0, I (at_ s.code s.atx.toNat)] [some (.box [slU8 false s.code, I (s.atx + 1), .val (.int .u64 s.seed)])] [inR .i64 (s.atx + 1)] ⟨(inR_i64 (by omega) (by omega)), trivial⟩ ?_
     refine xR [(5, .wrap), (8, .wrap), (9, .wrap)] [0, 3] [7001] [.ref 7001 0, I (at_ s.code s.atx.toNat)] [some (.box [slU8 false s.code, I (s.atx + 1), .val (.int .u64 (IntKind.u64.wrap ((IntKind.u64.wrap ((IntKind.u64.wrap (s.seed * 6364136223846793005)) + (at_ s.code s.atx.toNat))) + 1442695040888963407)))])] [inR .u64 (at_ s.code s.atx.toNat)] ⟨(inR_u64 (by omega) (by omega)), trivial⟩ ?_
     refine x_seq ?_
     refine x_seq ?_
     by_cases h2 : (s.atx + 1) ≤ (s.code.length : Int)
     ·refine x_r [(9, .dec true)] [0, 3, 53] [7001] [.ref 7001 0, I (at_ s.code s.atx.toNat), Bv true] [some (.box [slU8 false s.code, I (s.atx + 1), .val (.int .u64 (IntKind.u64.wrap ((IntKind.u64.wrap ((IntKind.u64.wrap (s.seed * 6364136223846793005)) + (at_ s.code s.atx.toNat))) + 1442695040888963407)))])] [(s.atx + 1) ≤ (s.code.length : Int)] ⟨h2, trivial⟩ ?_
      refine xe_then ?_
      refine x_true rfl ?_
      refine xR [] [2] [7001] [I (at_ s.code s.atx.toNat)] [some (.box [slU8 false s.code, I (s.atx + 1), .val (.int .u64 (IntKind.u64.wrap ((IntKind.u64.wrap ((IntKind.u64.wrap (s.seed * 6364136223846793005)) + (at_ s.code s.atx.toNat))) + 1442695040888963407)))])] [] trivial ?_
      refine x_ret ?_
      refine xe_ret_then ?_
      refine xe_end ((at_ s.code s.atx.toNat), (l00Src.mk s.code (s.atx + 1) (IntKind.u64.wrap ((IntKind.u64.wrap ((IntKind.u64.wrap (s.seed * 6364136223846793005)) + (at_ s.code s.atx.toNat))) + 1442695040888963407)))) (show (0 ≤ (at_ s.code s.atx.toNat) ∧ (at_ s.code s.atx.toNat) ≤ 255) ∧ (okSrc (l00Src.mk s.code (s.atx + 1) (IntKind.u64.wrap ((IntKind.u64.wrap ((IntKind.u64.wrap (s.seed * 6364136223846793005)) + (at_ s.code s.atx.toNat))) + 1442695040888963407)))) ∧ ((l00Src.mk s.code (s.atx + 1) (IntKind.u64.wrap ((IntKind.u64.wrap ((IntKind.u64.wrap (s.seed * 6364136223846793005)) + (at_ s.code s.atx.toNat))) + 1442695040888963407))).code = s.code) ∧ (s.atx + 1 ≤ (l00Src.mk s.code (s.atx + 1) (IntKind.u64.wrap ((IntKind.u64.wrap ((IntKind.u64.wrap (s.seed * 6364136223846793005)) + (at_ s.code s.atx.toNat))) + 1442695040888963407))).atx ∧ (l00Src.mk s.code (s.atx + 1) (IntKind.u64.wrap ((IntKind.u64.wrap ((IntKind.u64.wrap (s.seed * 6364136223846793005)) + (at_ s.code s.atx.toNat))) + 1442695040888963407))).atx ≤ s.atx + 1) ∧ (True) from ⟨(by first | omega | rfl | assumption | (dsimp only; first | omega | rfl | assumption) | (simp only [*]; done) | exact ⟨hs.1, (by dsimp only; omega), hs1⟩), (by first | omega | rfl | assumption | (dsimp only; first | omega | rfl | assumption) | (simp only [*]; done) | exact ⟨hs.1, (by dsimp only; omega), hs1⟩), (by first | omega | rfl | assumption | (dsimp only; first | omega | rfl | assumption) | (simp only [*]; done) | exact ⟨hs.1, (by dsimp only; omega), hs1⟩), (by first | omega | rfl | assumption | (dsimp only; first | omega | rfl | assumption) | (simp only [*]; done) | exact ⟨hs.1, (by dsimp only; omega), hs1⟩), trivial⟩) (⟨.inl rfl, trivial⟩) (I (at_ s.code s.atx.toNat)) (by kernel_rfl) (.inl rfl) (fun _ => rfl) (fun _ => trivial)
     refine x_r [(9, .dec false)] [0, 3, 53] [7001] [.ref 7001 0, I (at_ s.code s.atx.toNat), Bv false] [some (.box [slU8 false s.code, I (s.atx + 1), .val (.int .u64 (IntKind.u64.wrap ((IntKind.u64.wrap ((IntKind.u64.wrap (s.seed * 6364136223846793005)) + (at_ s.code s.atx.toNat))) + 1442695040888963407)))])] [¬ ((s.atx + 1) ≤ (s.code.length : Int))] ⟨h2, trivial⟩ ?_
     refine xe_then ?_
     refine x_false rfl ?_
     refine x_skip ?_
     refine xe_then ?_
     refine x_seq ?_
     have hb1 := and_255 ((IntKind.u64.wrap ((IntKind.u64.wrap ((IntKind.u64.wrap (s.seed * 6364136223846793005)) + (at_ s.code s.atx.toNat))) + 1442695040888963407)) / 1099511627776)
     refine x_r [] [2] [7001] [I (bitsI .and .u64 ((IntKind.u64.wrap ((IntKind.u64.wrap ((IntKind.u64.wrap (s.seed * 6364136223846793005)) + (at_ s.code s.atx.toNat))) + 1442695040888963407)) / 1099511627776) 255)] [some (.box [slU8 false s.code, I (s.atx + 1), .val (.int .u64 (IntKind.u64.wrap ((IntKind.u64.wrap ((IntKind.u64.wrap (s.seed * 6364136223846793005)) + (at_ s.code s.atx.toNat))) + 1442695040888963407)))])] [(0 : Int) ≤ 40 ∧ (40 : Int) ≤ ((IntKind.bits .u64 : Nat) : Int), inR .i64 (bitsI .and .u64 ((IntKind.u64.wrap ((IntKind.u64.wrap ((IntKind.u64.wrap (s.seed * 6364136223846793005)) + (at_ s.code s.atx.toNat))) + 1442695040888963407)) / 1099511627776) 255)] ⟨⟨(by decide), (by decide)⟩, (inR_i64 (by omega) (by omega)), trivial⟩ ?_
     refine xe_then ?_
     refine x_ret ?_
     refine xe_end ((bitsI .and .u64 ((IntKind.u64.wrap ((IntKind.u64.wrap ((IntKind.u64.wrap (s.seed * 6364136223846793005)) + (at_ s.code s.atx.toNat))) + 1442695040888963407)) / 1099511627776) 255), (l00Src.mk s.code (s.atx + 1) (IntKind.u64.wrap ((IntKind.u64.wrap ((IntKind.u64.wrap (s.seed * 6364136223846793005)) + (at_ s.code s.atx.toNat))) + 1442695040888963407)))) (show (0 ≤ (bitsI .and .u64 ((IntKind.u64.wrap ((IntKind.u64.wrap ((IntKind.u64.wrap (s.seed * 6364136223846793005)) + (at_ s.code s.atx.toNat))) + 1442695040888963407)) / 1099511627776) 255) ∧ (bitsI .and .u64 ((IntKind.u64.wrap ((IntKind.u64.wrap ((IntKind.u64.wrap (s.seed * 6364136223846793005)) + (at_ s.code s.atx.toNat))) + 1442695040888963407)) / 1099511627776) 255) ≤ 255) ∧ (okSrc (l00Src.mk s.code (s.atx + 1) (IntKind.u64.wrap ((IntKind.u64.wrap ((IntKind.u64.wrap (s.seed * 6364136223846793005)) + (at_ s.code s.atx.toNat))) + 1442695040888963407)))) ∧ ((l00Src.mk s.code (s.atx + 1) (IntKind.u64.wrap ((IntKind.u64.wrap ((IntKind.u64.wrap (s.seed * 6364136223846793005)) + (at_ s.code s.atx.toNat))) + 1442695040888963407))).code = s.code) ∧ (s.atx + 1 ≤ (l00Src.mk s.code (s.atx + 1) (IntKind.u64.wrap ((IntKind.u64.wrap ((IntKind.u64.wrap (s.seed * 6364136223846793005)) + (at_ s.code s.atx.toNat))) + 1442695040888963407))).atx ∧ (l00Src.mk s.code (s.atx + 1) (IntKind.u64.wrap ((IntKind.u64.wrap ((IntKind.u64.wrap (s.seed * 6364136223846793005)) + (at_ s.code s.atx.toNat))) + 1442695040888963407))).atx ≤ s.atx + 1) ∧ (True) from ⟨(by first | omega | rfl | assumption | (dsimp only; first | omega | rfl | assumption) | (simp only [*]; done) | exact ⟨hs.1, (by dsimp only; omega), hs1⟩), (by first | omega | rfl | assumption | (dsimp only; first | omega | rfl | assumption) | (simp only [*]; done) | exact ⟨hs.1, (by dsimp only; omega), hs1⟩), (by first | omega | rfl | assumption | (dsimp only; first | omega | rfl | assumption) | (simp only [*]; done) | exact ⟨hs.1, (by dsimp only; omega), hs1⟩), (by first | omega | rfl | assumption | (dsimp only; first | omega | rfl | assumption) | (simp only [*]; done) | exact ⟨hs.1, (by dsimp only; omega), hs1⟩), trivial⟩) (⟨.inl rfl, trivial⟩) (I (bitsI .and .u64 ((IntKind.u64.wrap ((IntKind.u64.wrap ((IntKind.u64.wrap (s.seed * 6364136223846793005)) + (at_ s.code s.atx.toNat))) + 1442695040888963407)) / 1099511627776) 255)) (by kernel_rfl) (.inl rfl) (fun _ => rfl) (fun _ => trivial)
    refine x_r [(9, .dec false)] [0, 3, 13] [7001] [.ref 7001 0, I 0, Bv false] [some (bxl00Src s)] [¬ (s.atx < (s.code.length : Int))] ⟨h1, trivial⟩ ?_
    refine xe_then ?_
    refine x_false rfl ?_
    refine x_skip ?_
    refine xe_then ?_
    refine xR [] [0, 3] [7001] [.ref 7001 0, I 0] [some (.box [slU8 false s.code, I (s.atx + 1), .val (.int .u64 s.seed)])] [inR .i64 (s.atx + 1)] ⟨(inR_i64 (by omega) (by omega)), trivial⟩ ?_
    refine xR [(5, .wrap), (8, .wrap), (9, .wrap)] [0, 3] [7001] [.ref 7001 0, I 0] [some (.box [slU8 false s.code, I (s.atx + 1), .val (.int .u64 (IntKind.u64.wrap ((IntKind.u64.wrap ((IntKind.u64.wrap (s.seed * 6364136223846793005)) + 0)) + 1442695040888963407)))])] [inR .u64 0] ⟨(inR_u64 (by omega) (by omega)), trivial⟩ ?_
    refine x_seq ?_
    refine x_seq ?_
    by_cases h3 : (s.atx + 1) ≤ (s.code.length : Int)
    ·refine x_r [(9, .dec true)] [0, 3, 53] [7001] [.ref 7001 0, I 0, Bv true] [some (.box [slU8 false s.code, I (s.atx + 1), .val (.int .u64 (IntKind.u64.wrap ((IntKind.u64.wrap ((IntKind.u64.wrap (s.seed * 6364136223846793005)) + 0)) + 1442695040888963407)))])] [(s.atx + 1) ≤ (s.code.length : Int)] ⟨h3, trivial⟩ ?_
     refine xe_then ?_
     refine x_true rfl ?_
     refine xR [] [2] [7001] [I 0] [some (.box [slU8 false s.code, I (s.atx + 1), .val (.int .u64 (IntKind.u64.wrap ((IntKind.u64.wrap ((IntKind.u64.wrap (s.seed * 6364136223846793005)) + 0)) + 1442695040888963407)))])] [] trivial ?_
     refine x_ret ?_
     refine xe_ret_then ?_
     refine xe_end (0, (l00Src.mk s.code (s.atx + 1) (IntKind.u64.wrap ((IntKind.u64.wrap ((IntKind.u64.wrap (s.seed * 6364136223846793005)) + 0)) + 1442695040888963407)))) (show (0 ≤ 0 ∧ 0 ≤ 255) ∧ (okSrc (l00Src.mk s.code (s.atx + 1) (IntKind.u64.wrap ((IntKind.u64.wrap ((IntKind.u64.wrap (s.seed * 6364136223846793005)) + 0)) + 1442695040888963407)))) ∧ ((l00Src.mk s.code (s.atx + 1) (IntKind.u64.wrap ((IntKind.u64.wrap ((IntKind.u64.wrap (s.seed * 6364136223846793005)) + 0)) + 1442695040888963407))).code = s.code) ∧ (s.atx + 1 ≤ (l00Src.mk s.code (s.atx + 1) (IntKind.u64.wrap ((IntKind.u64.wrap ((IntKind.u64.wrap (s.seed * 6364136223846793005)) + 0)) + 1442695040888963407))).atx ∧ (l00Src.mk s.code (s.atx + 1) (IntKind.u64.wrap ((IntKind.u64.wrap ((IntKind.u64.wrap (s.seed * 6364136223846793005)) + 0)) + 1442695040888963407))).atx ≤ s.atx + 1) ∧ (True) from ⟨(by first | omega | rfl | assumption | (dsimp only; first | omega | rfl | assumption) | (simp only [*]; done) | exact ⟨hs.1, (by dsimp only; omega), hs1⟩), (by first | omega | rfl | assumption | (dsimp only; first | omega | rfl | assumption) | (simp only [*]; done) | exact ⟨hs.1, (by dsimp only; omega), hs1⟩), (by first | omega | rfl | assumption | (dsimp only; first | omega | rfl | assumption) | (simp only [*]; done) | exact ⟨hs.1, (by dsimp only; omega), hs1⟩), (by first | omega | rfl | assumption | (dsimp only; first | omega | rfl | assumption) | (simp only [*]; done) | exact ⟨hs.1, (by dsimp only; omega), hs1⟩), trivial⟩) (⟨.inl rfl, trivial⟩) (I 0) (by kernel_rfl) (.inl rfl) (fun _ => rfl) (fun _ => trivial)
    refine x_r [(9, .dec false)] [0, 3, 53] [7001] [.ref 7001 0, I 0, Bv false] [some (.box [slU8 false s.code, I (s.atx + 1), .val (.int .u64 (IntKind.u64.wrap ((IntKind.u64.wrap ((IntKind.u64.wrap (s.seed * 6364136223846793005)) + 0)) + 1442695040888963407)))])] [¬ ((s.atx + 1) ≤ (s.code.length : Int))] ⟨h3, trivial⟩ ?_
    refine xe_then ?_
    refine x_false rfl ?_
    refine x_skip ?_
    refine xe_then ?_
    refine x_seq ?_
    have hb2 := and_255 ((IntKind.u64.wrap ((IntKind.u64.wrap ((IntKind.u64.wrap (s.seed * 6364136223846793005)) + 0)) + 1442695040888963407)) / 1099511627776)
    refine x_r [] [2] [7001] [I (bitsI .and .u64 ((IntKind.u64.wrap ((IntKind.u64.wrap ((IntKind.u64.wrap (s.seed * 6364136223846793005)) + 0)) + 1442695040888963407)) / 1099511627776) 255)] [some (.box [slU8 false s.code, I (s.atx + 1), .val (.int .u64 (IntKind.u64.wrap ((IntKind.u64.wrap ((IntKind.u64.wrap (s.seed * 6364136223846793005)) + 0)) + 1442695040888963407)))])] [(0 : Int) ≤ 40 ∧ (40 : Int) ≤ ((IntKind.bits .u64 : Nat) : Int), inR .i64 (bitsI .and .u64 ((IntKind.u64.wrap ((IntKind.u64.wrap ((IntKind.u64.wrap (s.seed * 6364136223846793005)) + 0)) + 1442695040888963407)) / 1099511627776) 255)] ⟨⟨(by decide), (by decide)⟩, (inR_i64 (by omega) (by omega)), trivial⟩ ?_
    refine xe_then ?_
    refine x_ret ?_
    refine xe_end ((bitsI .and .u64 ((IntKind.u64.wrap ((IntKind.u64.wrap ((IntKind.u64.wrap (s.seed * 6364136223846793005)) + 0)) + 1442695040888963407)) / 1099511627776) 255), (l00Src.mk s.code (s.atx + 1) (IntKind.u64.wrap ((IntKind.u64.wrap ((IntKind.u64.wrap (s.seed * 6364136223846793005)) + 0)) + 1442695040888963407)))) (show (0 ≤ (bitsI .and .u64 ((IntKind.u64.wrap ((IntKind.u64.wrap ((IntKind.u64.wrap (s.seed * 6364136223846793005)) + 0)) + 1442695040888963407)) / 1099511627776) 255) ∧ (bitsI .and .u64 ((IntKind.u64.wrap ((IntKind.u64.wrap ((IntKind.u64.wrap (s.seed * 6364136223846793005)) + 0)) + 1442695040888963407)) / 1099511627776) 255) ≤ 255) ∧ (okSrc (l00Src.mk s.code (s.atx + 1) (IntKind.u64.wrap ((IntKind.u64.wrap ((IntKind.u64.wrap (s.seed * 6364136223846793005)) + 0)) + 1442695040888963407)))) ∧ ((l00Src.mk s.code (s.atx + 1) (IntKind.u64.wrap ((IntKind.u64.wrap ((IntKind.u64.wrap (s.seed * 6364136223846793005)) + 0)) + 1442695040888963407))).code = s.code) ∧ (s.atx + 1 ≤ (l00Src.mk s.code (s.atx + 1) (IntKind.u64.wrap ((IntKind.u64.wrap ((IntKind.u64.wrap (s.seed * 6364136223846793005)) + 0)) + 1442695040888963407))).atx ∧ (l00Src.mk s.code (s.atx + 1) (IntKind.u64.wrap ((IntKind.u64.wrap ((IntKind.u64.wrap (s.seed * 6364136223846793005)) + 0)) + 1442695040888963407))).atx ≤ s.atx + 1) ∧ (True) from ⟨(by first | omega | rfl | assumption | (dsimp only; first | omega | rfl | assumption) | (simp only [*]; done) | exact ⟨hs.1, (by dsimp only; omega), hs1⟩), (by first | omega | rfl | assumption | (dsimp only; first | omega | rfl | assumption) | (simp only [*]; done) | exact ⟨hs.1, (by dsimp only; omega), hs1⟩), (by first | omega | rfl | assumption | (dsimp only; first | omega | rfl | assumption) | (simp only [*]; done) | exact ⟨hs.1, (by dsimp only; omega), hs1⟩), (by first | omega | rfl | assumption | (dsimp only; first | omega | rfl | assumption) | (simp only [*]; done) | exact ⟨hs.1, (by dsimp only; omega), hs1⟩), trivial⟩) (⟨.inl rfl, trivial⟩) (I (bitsI .and .u64 ((IntKind.u64.wrap ((IntKind.u64.wrap ((IntKind.u64.wrap (s.seed * 6364136223846793005)) + 0)) + 1442695040888963407)) / 1099511627776) 255)) (by kernel_rfl) (.inl rfl) (fun _ => rfl) (fun _ => trivial)
  obtain ⟨⟨v, s'⟩, ⟨hh0, hh1, hh2, hh3, _⟩, hc⟩ := hh
  exact ⟨v, s', hh0, hh1, hh2, hh3, hc⟩


-- spec.l00Src).pick
theorem pick_ok (s : l00Src) (n : Int) (hs : okSrc s) (ha : s.atx ≤ 3999999999999999990) : ∃ (v : Int) (s' : l00Src), (0 ≤ v ∧ (v < n ∨ v = 0)) ∧ (okSrc s') ∧ (s'.code = s.code) ∧ (s.atx + 0 ≤ s'.atx ∧ s'.atx ≤ s.atx + 2) ∧ CallOK Try.prog 32 [.ref 7001 0, I n] (lookO [(7001, bxl00Src s)]) true (I v) (lookO [(7001, bxl00Src s')]) := by
  have hs0 := hs.2.1
  have hs1 := hs.2.2
  have hh : ∃ r : Int × l00Src, ((0 ≤ r.1 ∧ (r.1 < n ∨ r.1 = 0)) ∧ (okSrc r.2) ∧ (r.2.code = s.code) ∧ (s.atx + 0 ≤ r.2.atx ∧ r.2.atx ≤ s.atx + 2) ∧ (True)) ∧ CallOK Try.prog 32 [.ref 7001 0, I n] (lookO [(7001, bxl00Src s)]) true (I r.1) (lookO [(7001, bxl00Src r.2)]) := by
    refine fn_okX (Φ := fun r : Int × l00Src => (0 ≤ r.1 ∧ (r.1 < n ∨ r.1 = 0)) ∧ (okSrc r.2) ∧ (r.2.code = s.code) ∧ (s.atx + 0 ≤ r.2.atx ∧ r.2.atx ≤ s.atx + 2) ∧ (True)) [(7001, bxl00Src s)] (fun r => [(7001, bxl00Src r.2)]) (fn := Try.f32) (nt := 20) Try.func32 rfl rfl (args := [.ref 7001 0, I n]) rfl (allcons (.inr trivial) (allcons (.inl ⟨rfl, trivial⟩) allnil)) (res := fun r => I r.1) ?_
    refine xR [] [0, 1] [7001] [.ref 7001 0, I n] [some (bxl00Src s)] [] trivial ?_
    refine x_seq ?_
    refine x_seq ?_
    by_cases h1 : n ≤ 1
    ·refine x_r [(1, .dec true)] [0, 1, 7] [7001] [.ref 7001 0, I n, Bv true] [some (bxl00Src s)] [n ≤ 1] ⟨h1, trivial⟩ ?_
     refine xe_then ?_
     refine x_true rfl ?_
     refine xR [] [4] [7001] [I 0] [some (bxl00Src s)] [] trivial ?_
     refine x_ret ?_
     refine xe_ret_then ?_
     refine xe_end (0, s) (show (0 ≤ 0 ∧ (0 < n ∨ 0 = 0)) ∧ (okSrc s) ∧ (s.code = s.code) ∧ (s.atx + 0 ≤ s.atx ∧ s.atx ≤ s.atx + 2) ∧ (True) from ⟨(by first | omega | rfl | assumption | (dsimp only; first | omega | rfl | assumption) | (simp only [*]; done) | exact ⟨Int.emod_nonneg _ (by omega), .inl (Int.emod_lt_of_pos _ (by omega))⟩), (by first | omega | rfl | assumption | (dsimp only; first | omega | rfl | assumption) | (simp only [*]; done) | exact ⟨Int.emod_nonneg _ (by omega), .inl (Int.emod_lt_of_pos _ (by omega))⟩), (by first | omega | rfl | assumption | (dsimp only; first | omega | rfl | assumption) | (simp only [*]; done) | exact ⟨Int.emod_nonneg _ (by omega), .inl (Int.emod_lt_of_pos _ (by omega))⟩), (by first | omega | rfl | assumption | (dsimp only; first | omega | rfl | assumption) | (simp only [*]; done) | exact ⟨Int.emod_nonneg _ (by omega), .inl (Int.emod_lt_of_pos _ (by omega))⟩), trivial⟩) (⟨.inl rfl, trivial⟩) (I 0) (by kernel_rfl) (.inl rfl) (fun _ => rfl) (fun _ => trivial)
    refine x_r [(1, .dec false)] [0, 1, 7] [7001] [.ref 7001 0, I n, Bv false] [some (bxl00Src s)] [¬ (n ≤ 1)] ⟨h1, trivial⟩ ?_
    refine xe_then ?_
    refine x_false rfl ?_
    refine x_skip ?_
    refine xe_then ?_
    refine x_seq ?_
    obtain ⟨v_1, s'_1, hx1_0, hx1_1, hx1_2, hx1_3, hc1⟩ := next_ok s (by first | assumption | (simp only [okSrc] at *; simp_all; done)) (by omega)
    refine x_r [(1, .lend [(7001, bxl00Src s, bxl00Src s'_1)] [] [(true, .any)] true (I v_1))] [0, 1, 5] [7001] [.ref 7001 0, I n, I v_1] [some (bxl00Src s'_1)] [CallOK Try.prog 67 [.ref 7001 0] (lookO [(7001, bxl00Src s)]) true (I v_1) (lookO [(7001, bxl00Src s'_1)]) ∧ (((bxl00Src s : Ob) = bxl00Src s ∨ obLe noOb true (bxl00Src s) (bxl00Src s)) ∧ taggedO false (bxl00Src s)) ∧ True] ⟨⟨hc1, ⟨.inl rfl, (by simp [taggedO, taggedL, tagged, tagU8])⟩, trivial⟩, trivial⟩ ?_
    refine xe_then ?_
    refine x_seq ?_
    refine x_seq ?_
    by_cases h2 : 200 < n
    ·refine x_r [(1, .dec true)] [0, 1, 5, 11] [7001] [.ref 7001 0, I n, I v_1, Bv true] [some (bxl00Src s'_1)] [200 < n] ⟨h2, trivial⟩ ?_
     refine xe_then ?_
     refine x_true rfl ?_
     obtain ⟨v_2, s'_2, hx2_0, hx2_1, hx2_2, hx2_3, hc2⟩ := next_ok s'_1 (by first | assumption | (simp only [okSrc] at *; simp_all; done)) (by omega)
     refine x_r [(3, .lend [(7001, bxl00Src s'_1, bxl00Src s'_2)] [] [(true, .any)] true (I v_2))] [1, 5] [7001] [I n, I ((v_1 * 256) + v_2)] [some (bxl00Src s'_2)] [inR .i64 (v_1 * 256), CallOK Try.prog 67 [.ref 7001 0] (lookO [(7001, bxl00Src s'_1)]) true (I v_2) (lookO [(7001, bxl00Src s'_2)]) ∧ (((bxl00Src s'_1 : Ob) = bxl00Src s'_1 ∨ obLe noOb true (bxl00Src s'_1) (bxl00Src s'_1)) ∧ taggedO false (bxl00Src s'_1)) ∧ True, inR .i64 ((v_1 * 256) + v_2)] ⟨(inR_i64 (by omega) (by omega)), ⟨hc2, ⟨.inl rfl, (by simp [taggedO, taggedL, tagged, tagU8])⟩, trivial⟩, (inR_i64 (by omega) (by omega)), trivial⟩ ?_
     refine xe_then ?_
     refine xR [(2, .nn)] [4] [7001] [I (((v_1 * 256) + v_2) % n)] [some (bxl00Src s'_2)] [(0 : Int) ≤ ((v_1 * 256) + v_2) ∧ (0 : Int) < n] ⟨⟨(by omega), (by omega)⟩, trivial⟩ ?_
     refine x_ret ?_
     refine xe_end ((((v_1 * 256) + v_2) % n), s'_2) (show (0 ≤ (((v_1 * 256) + v_2) % n) ∧ ((((v_1 * 256) + v_2) % n) < n ∨ (((v_1 * 256) + v_2) % n) = 0)) ∧ (okSrc s'_2) ∧ (s'_2.code = s.code) ∧ (s.atx + 0 ≤ s'_2.atx ∧ s'_2.atx ≤ s.atx + 2) ∧ (True) from ⟨(by first | omega | rfl | assumption | (dsimp only; first | omega | rfl | assumption) | (simp only [*]; done) | exact ⟨Int.emod_nonneg _ (by omega), .inl (Int.emod_lt_of_pos _ (by omega))⟩), (by first | omega | rfl | assumption | (dsimp only; first | omega | rfl | assumption) | (simp only [*]; done) | exact ⟨Int.emod_nonneg _ (by omega), .inl (Int.emod_lt_of_pos _ (by omega))⟩), (by first | omega | rfl | assumption | (dsimp only; first | omega | rfl | assumption) | (simp only [*]; done) | exact ⟨Int.emod_nonneg _ (by omega), .inl (Int.emod_lt_of_pos _ (by omega))⟩), (by first | omega | rfl | assumption | (dsimp only; first | omega | rfl | assumption) | (simp only [*]; done) | exact ⟨Int.emod_nonneg _ (by omega), .inl (Int.emod_lt_of_pos _ (by omega))⟩), trivial⟩) (⟨.inl rfl, trivial⟩) (I (((v_1 * 256) + v_2) % n)) (by kernel_rfl) (.inl rfl) (fun _ => rfl) (fun _ => trivial)
    refine x_r [(1, .dec false)] [0, 1, 5, 11] [7001] [.ref 7001 0, I n, I v_1, Bv false] [some (bxl00Src s'_1)] [¬ (200 < n)] ⟨h2, trivial⟩ ?_
    refine xe_then ?_
    refine x_false rfl ?_
    refine x_skip ?_
    refine xe_then ?_
    refine xR [(2, .nn)] [4] [7001] [I (v_1 % n)] [some (bxl00Src s'_1)] [(0 : Int) ≤ v_1 ∧ (0 : Int) < n] ⟨⟨(by omega), (by omega)⟩, trivial⟩ ?_
    refine x_ret ?_
    refine xe_end ((v_1 % n), s'_1) (show (0 ≤ (v_1 % n) ∧ ((v_1 % n) < n ∨ (v_1 % n) = 0)) ∧ (okSrc s'_1) ∧ (s'_1.code = s.code) ∧ (s.atx + 0 ≤ s'_1.atx ∧ s'_1.atx ≤ s.atx + 2) ∧ (True) from ⟨(by first | omega | rfl | assumption | (dsimp only; first | omega | rfl | assumption) | (simp only [*]; done) | exact ⟨Int.emod_nonneg _ (by omega), .inl (Int.emod_lt_of_pos _ (by omega))⟩), (by first | omega | rfl | assumption | (dsimp only; first | omega | rfl | assumption) | (simp only [*]; done) | exact ⟨Int.emod_nonneg _ (by omega), .inl (Int.emod_lt_of_pos _ (by omega))⟩), (by first | omega | rfl | assumption | (dsimp only; first | omega | rfl | assumption) | (simp only [*]; done) | exact ⟨Int.emod_nonneg _ (by omega), .inl (Int.emod_lt_of_pos _ (by omega))⟩), (by first | omega | rfl | assumption | (dsimp only; first | omega | rfl | assumption) | (simp only [*]; done) | exact ⟨Int.emod_nonneg _ (by omega), .inl (Int.emod_lt_of_pos _ (by omega))⟩), trivial⟩) (⟨.inl rfl, trivial⟩) (I (v_1 % n)) (by kernel_rfl) (.inl rfl) (fun _ => rfl) (fun _ => trivial)
  obtain ⟨⟨v, s'⟩, ⟨hh0, hh1, hh2, hh3, _⟩, hc⟩ := hh
  exact ⟨v, s', hh0, hh1, hh2, hh3, hc⟩


-- spec.l00Src).one
theorem one_ok (s : l00Src) (n : Int) (hs : okSrc s) (ha : s.atx ≤ 3999999999999999980) : ∃ (v : Bool) (s' : l00Src), (okSrc s') ∧ (s'.code = s.code) ∧ (s.atx + 0 ≤ s'.atx ∧ s'.atx ≤ s.atx + 2) ∧ CallOK Try.prog 30 [.ref 7001 0, I n] (lookO [(7001, bxl00Src s)]) true (Bv v) (lookO [(7001, bxl00Src s')]) := by
  have hh : ∃ r : Bool × l00Src, ((okSrc r.2) ∧ (r.2.code = s.code) ∧ (s.atx + 0 ≤ r.2.atx ∧ r.2.atx ≤ s.atx + 2) ∧ (True)) ∧ CallOK Try.prog 30 [.ref 7001 0, I n] (lookO [(7001, bxl00Src s)]) true (Bv r.1) (lookO [(7001, bxl00Src r.2)]) := by
    refine fn_okX (Φ := fun r : Bool × l00Src => (okSrc r.2) ∧ (r.2.code = s.code) ∧ (s.atx + 0 ≤ r.2.atx ∧ r.2.atx ≤ s.atx + 2) ∧ (True)) [(7001, bxl00Src s)] (fun r => [(7001, bxl00Src r.2)]) (fn := Try.f30) (nt := 9) Try.func30 rfl rfl (args := [.ref 7001 0, I n]) rfl (allcons (.inr trivial) (allcons (.inl ⟨rfl, trivial⟩) allnil)) (res := fun r => Bv r.1) ?_
    refine xR [] [0, 1] [7001] [.ref 7001 0, I n] [some (bxl00Src s)] [] trivial ?_
    refine x_seq ?_
    obtain ⟨v_1, s'_1, hx1_0, hx1_1, hx1_2, hx1_3, hc1⟩ := pick_ok s n (by first | assumption | (simp only [okSrc] at *; simp_all; done)) (by omega)
    refine x_r [(2, .lend [(7001, bxl00Src s, bxl00Src s'_1)] [] [(true, .any), (true, .any)] true (I v_1))] [4] [7001] [Bv (decide (v_1 = 0))] [some (bxl00Src s'_1)] [CallOK Try.prog 32 [.ref 7001 0, I n] (lookO [(7001, bxl00Src s)]) true (I v_1) (lookO [(7001, bxl00Src s'_1)]) ∧ (((bxl00Src s : Ob) = bxl00Src s ∨ obLe noOb true (bxl00Src s) (bxl00Src s)) ∧ taggedO false (bxl00Src s)) ∧ True] ⟨⟨hc1, ⟨.inl rfl, (by simp [taggedO, taggedL, tagged, tagU8])⟩, trivial⟩, trivial⟩ ?_
    refine xe_then ?_
    refine x_ret ?_
    refine xe_end (decide (v_1 = 0), s'_1) (show (okSrc s'_1) ∧ (s'_1.code = s.code) ∧ (s.atx + 0 ≤ s'_1.atx ∧ s'_1.atx ≤ s.atx + 2) ∧ (True) from ⟨(by first | omega | rfl | assumption | (dsimp only; first | omega | rfl | assumption) | (simp only [*]; done) | (simp_all; done)), (by first | omega | rfl | assumption | (dsimp only; first | omega | rfl | assumption) | (simp only [*]; done) | (simp_all; done)), (by first | omega | rfl | assumption | (dsimp only; first | omega | rfl | assumption) | (simp only [*]; done) | (simp_all; done)), trivial⟩) (⟨.inl rfl, trivial⟩) (Bv (decide (v_1 = 0))) (by kernel_rfl) (.inl rfl) (fun _ => rfl) (fun _ => trivial)
  obtain ⟨⟨v, s'⟩, ⟨hh0, hh1, hh2, _⟩, hc⟩ := hh
  exact ⟨v, s', hh0, hh1, hh2, hc⟩


def inB (a l h : Int) : Bool := decide (l ≤ a ∧ a ≤ h)
theorem inB_iff {a l h : Int} : inB a l h = true ↔ l ≤ a ∧ a ≤ h := by simp [inB]
theorem bAt_bd (s : ByteArray) (i : Nat) : 0 ≤ bAt s i ∧ bAt s i ≤ 255 := by
  unfold bAt
  have := (s.data.toList.getD i 0).toNat_lt
  omega

/-- Whether a byte is a label's. -/
def labB (n : Int) : Bool := decide ((97 ≤ n ∧ n ≤ 122) ∨ (48 ≤ n ∧ n ≤ 57) ∨ n = 43 ∨ n = 45 ∨ n = 42 ∨ n = 47 ∨ n = 61 ∨ n = 40 ∨ n = 41 ∨ n = 46 ∨ n = 44)
/-- Whether a string is a label. -/
def okLabel (s : ByteArray) : Bool := decide (s.size = 1) && labB (bAt s 0)

def okF (p : Feat) : Bool := inB p.X 0 255 && (inB p.Y 0 255 && inB p.D 0 7)
theorem okF_iff {p : Feat} : okF p = true ↔ (0 ≤ p.X ∧ p.X ≤ 255) ∧ (0 ≤ p.Y ∧ p.Y ≤ 255) ∧ (0 ≤ p.D ∧ p.D ≤ 7) := by simp [okF, inB, and_assoc]
/-- Whether all are features, and they are 1 to m. -/
def okFeats (xs : List Feat) (m : Int) : Bool := decide (1 ≤ (xs.length : Int) ∧ (xs.length : Int) ≤ m) && allN xs.length (fun j => okF (at_ xs j))
theorem okFeats_n {xs : List Feat} {m : Int} (h : okFeats xs m = true) : 1 ≤ xs.length ∧ (xs.length : Int) ≤ m := by
  simp only [okFeats, Bool.and_eq_true, decide_eq_true_eq] at h; omega
theorem okFeats_at {xs : List Feat} {m : Int} (h : okFeats xs m = true) {j : Nat} (hj : j < xs.length) : okF (at_ xs j) = true := by
  simp only [okFeats, Bool.and_eq_true] at h
  exact allN_get h.2 hj

theorem down_spec (n : Int) {d : Int} (hd : 0 < d) : (Int.tmod n d < 0 → Int.tdiv n d - 1 = n / d) ∧ (¬ Int.tmod n d < 0 → Int.tdiv n d = n / d) := by
  have h1 := Int.mul_tdiv_add_tmod n d
  have h2 := Int.tmod_lt_of_pos n hd
  have h3 := Int.lt_tmod_of_pos n hd
  generalize Int.tdiv n d = q at *
  generalize Int.tmod n d = r at *
  subst h1
  constructor
  · intro h
    have e : d * q + r = (r + d) + d * (q - 1) := by rw [Int.mul_sub, Int.mul_one]; omega
    rw [e, Int.add_mul_ediv_left _ _ (by omega), Int.ediv_eq_zero_of_lt (by omega) (by omega)]; omega
  · intro h
    rw [Int.add_comm, Int.add_mul_ediv_left _ _ (by omega), Int.ediv_eq_zero_of_lt (by omega) (by omega)]; omega
theorem quo_bd {n r : Int} (h : 0 ≤ n) (hr : 0 < r) : 0 ≤ n / r ∧ n / r ≤ n := ⟨Int.ediv_nonneg h (by omega), Int.ediv_le_self _ h⟩
theorem tdiv_bd (n d : Int) : ((Int.tdiv n d).natAbs : Int) ≤ (n.natAbs : Int) := by
  rw [Int.natAbs_tdiv]
  exact Int.ofNat_le.2 (Nat.div_le_self _ _)

/-- The integer nearest to a quotient by a positive number, halves up. -/
def nearI (n d : Int) : Int := (2 * n + d) / (2 * d)
theorem near_spec (n : Int) {d : Int} (hd : 0 < d) : (d - (n - n / d * d) ≤ n - n / d * d → n / d + 1 = nearI n d) ∧ (¬ d - (n - n / d * d) ≤ n - n / d * d → n / d = nearI n d) := by
  have h1 := Int.mul_ediv_add_emod n d
  have h2 := Int.emod_nonneg n (b := d) (by omega)
  have h3 := Int.emod_lt_of_pos n hd
  unfold nearI
  generalize n / d = q at *
  generalize n % d = r at *
  have e0 : q * d = d * q := Int.mul_comm _ _
  have e3 : 2 * d * q = 2 * (d * q) := Int.mul_assoc _ _ _
  constructor
  · intro h
    have e : 2 * n + d = (2 * r - d) + 2 * d * (q + 1) := by rw [Int.mul_add, e3]; omega
    rw [e, Int.add_mul_ediv_left _ _ (by omega), Int.ediv_eq_zero_of_lt (by omega) (by omega)]; omega
  · intro h
    have e : 2 * n + d = (2 * r + d) + 2 * d * q := by rw [e3]; omega
    rw [e, Int.add_mul_ediv_left _ _ (by omega), Int.ediv_eq_zero_of_lt (by omega) (by omega)]; omega
theorem rest_bd (n : Int) {d : Int} (hd : 0 < d) : 0 ≤ n - n / d * d ∧ n - n / d * d < d := by
  have h1 := Int.mul_ediv_add_emod n d
  have h2 := Int.emod_nonneg n (b := d) (by omega)
  have h3 := Int.emod_lt_of_pos n hd
  rw [Int.mul_comm] at h1
  omega
theorem ediv_bd (n : Int) {d : Int} (hd : 0 < d) : -(n.natAbs : Int) ≤ n / d ∧ n / d ≤ (n.natAbs : Int) := by
  constructor
  · rw [Int.le_ediv_iff_mul_le hd]
    have : (n.natAbs : Int) * 1 ≤ (n.natAbs : Int) * d := Int.mul_le_mul_of_nonneg_left (by omega) (by omega)
    rw [Int.neg_mul]; omega
  · have h1 : (n.natAbs : Int) * 1 ≤ (n.natAbs : Int) * d := Int.mul_le_mul_of_nonneg_left (by omega) (by omega)
    have b : n / d < (n.natAbs : Int) + 1 := Int.ediv_lt_of_lt_mul hd (by rw [Int.add_mul, Int.one_mul]; omega)
    omega
theorem near_between {x r d : Int} (hd : 0 < d) (h0 : 0 ≤ r) (h1 : r ≤ d) : (0 ≤ x → 0 ≤ nearI (x * r) d ∧ nearI (x * r) d ≤ x) ∧ (x ≤ 0 → x ≤ nearI (x * r) d ∧ nearI (x * r) d ≤ 0) := by
  unfold nearI
  constructor
  · intro hx
    have a1 : x * r ≤ x * d := Int.mul_le_mul_of_nonneg_left h1 hx
    have a2 : 0 ≤ x * r := Int.mul_nonneg hx h0
    have e : (x + 1) * (2 * d) = 2 * (x * d) + 2 * d := by rw [Int.add_mul, Int.one_mul, Int.mul_left_comm]
    have b : (2 * (x * r) + d) / (2 * d) < x + 1 := Int.ediv_lt_of_lt_mul (by omega) (by rw [e]; omega)
    exact ⟨Int.ediv_nonneg (by omega) (by omega), by omega⟩
  · intro hx
    have a1 : x * d ≤ x * r := Int.mul_le_mul_of_nonpos_left hx h1
    have a2 : x * r ≤ 0 := Int.mul_nonpos_of_nonpos_of_nonneg hx h0
    have e : x * (2 * d) = 2 * (x * d) := Int.mul_left_comm _ _ _
    have b : (2 * (x * r) + d) / (2 * d) < 0 + 1 := Int.ediv_lt_of_lt_mul (by omega) (by omega)
    exact ⟨Int.le_ediv_of_mul_le (by omega) (by rw [e]; omega), by omega⟩
theorem near_zero {x d : Int} (hd : 0 < d) : nearI (x * 0) d = 0 := by
  have := near_between (x := x) hd (Int.le_refl 0) (by omega)
  simp only [nearI, Int.mul_zero, Int.zero_add]
  exact Int.ediv_eq_zero_of_lt (by omega) (by omega)
theorem near_full {x d : Int} (hd : 0 < d) : nearI (x * d) d = x := by
  have e : 2 * (x * d) + d = d + 2 * d * x := by rw [Int.mul_comm x d, Int.mul_assoc]; omega
  rw [nearI, e, Int.add_mul_ediv_left _ _ (by omega), Int.ediv_eq_zero_of_lt (by omega) (by omega)]; omega
theorem mulP_bd {x y A B : Int} (h0 : 0 ≤ x) (h1 : x ≤ A) (h2 : 0 ≤ y) (h3 : y ≤ B) : 0 ≤ x * y ∧ x * y ≤ A * B :=
  ⟨Int.mul_nonneg h0 h2, Int.mul_le_mul h1 h3 h2 (by omega)⟩
theorem mulS_bd {x y A B : Int} (h0 : -A ≤ x) (h1 : x ≤ A) (h2 : 0 ≤ y) (h3 : y ≤ B) : -(A * B) ≤ x * y ∧ x * y ≤ A * B := by
  rcases Int.le_total 0 x with h | h
  · have := mulP_bd h h1 h2 h3; omega
  · have := mulP_bd (x := -x) (by omega) (by omega : -x ≤ A) h2 h3
    rw [Int.neg_mul] at this; omega

/-- f 0 + .. + f (n - 1). -/
def sumN : Nat → (Nat → Int) → Int
  | 0, _ => 0
  | n + 1, f => sumN n f + f n
theorem sumN_succ {n : Int} (h : 0 ≤ n) (f : Nat → Int) : sumN (n + 1).toNat f = sumN n.toNat f + f n.toNat := by
  have : (n + 1).toNat = n.toNat + 1 := by omega
  rw [this]; rfl

/-- The first number below n that p holds of, or -1. -/
def firstN (n : Nat) (p : Nat → Bool) : Int := match (List.range n).find? p with
  | some i => i
  | none => -1
theorem firstN_hit {n : Nat} {p : Nat → Bool} {k : Nat} (hk : k < n) (hp : p k = true) (hn : ∀ i, i < k → p i = false) : firstN n p = k := by
  have h : (List.range n).find? p = some k := by
    rw [List.find?_range_eq_some]
    exact ⟨hp, List.mem_range.2 hk, fun j hj => by simpa using hn j hj⟩
  simp [firstN, h]
theorem firstN_none {n : Nat} {p : Nat → Bool} (hn : ∀ i, i < n → p i = false) : firstN n p = -1 := by
  have h : (List.range n).find? p = none := by
    rw [List.find?_range_eq_none]
    intro i hi; simpa using hn i hi
  simp [firstN, h]
theorem firstN_cases (n : Nat) (p : Nat → Bool) : (firstN n p = -1 ∧ ∀ i, i < n → p i = false) ∨ ∃ k : Nat, firstN n p = k ∧ k < n ∧ p k = true ∧ ∀ i, i < k → p i = false := by
  by_cases h : ∃ k, k < n ∧ p k = true
  · right
    obtain ⟨k, hk, hp⟩ := h
    cases e : (List.range n).find? p with
    | none => rw [List.find?_range_eq_none] at e; exact absurd hp (by simpa using e k hk)
    | some i =>
      have e' := e
      rw [List.find?_range_eq_some] at e
      exact ⟨i, by simp [firstN, e'], List.mem_range.1 e.2.1, e.1, fun j hj => by simpa using e.2.2 j hj⟩
  · left
    have h' : ∀ i, i < n → p i = false := fun i hi => by rw [← Bool.not_eq_true]; exact fun hp => h ⟨i, hi, hp⟩
    exact ⟨firstN_none h', h'⟩
theorem firstN_any (n : Nat) (p : Nat → Bool) : decide (0 ≤ firstN n p) = anyN n p := by
  rcases firstN_cases n p with ⟨h1, h2⟩ | ⟨k, h1, h2, h3, _⟩
  · rw [h1, anyN_none h2]; decide
  · rw [h1, anyN_at h2 h3]; simp

/-- Strings compared. -/
def cmpS (a b : ByteArray) : Int := if sless a b = true then -1 else if sless a b = false ∧ a ≠ b then 1 else 0
/-- The first number that is not 0. -/
def orL : List Int → Int
  | [] => 0
  | x :: r => if x = 0 then orL r else x
theorem orL_at [Inhabited Int] {xs : List Int} : ∀ {k : Nat}, k < xs.length → (∀ j, j < k → at_ xs j = 0) → at_ xs k ≠ 0 → orL xs = at_ xs k := by
  induction xs with
  | nil => intro k h; simp at h
  | cons x r ih =>
    intro k h h0 hk
    cases k with
    | zero => have e : at_ (x :: r) 0 = x := rfl; rw [e] at hk ⊢; exact if_neg hk
    | succ k =>
      have e : at_ (x :: r) (k + 1) = at_ r k := by simp [at_]
      have e0 : x = 0 := h0 0 (by omega)
      rw [e] at hk ⊢
      unfold orL; rw [if_pos e0]
      refine ih (by simpa using h) (fun j hj => ?_) hk
      have := h0 (j + 1) (by omega)
      simpa [at_] using this
theorem orL_none [Inhabited Int] {xs : List Int} : (∀ j, j < xs.length → at_ xs j = 0) → orL xs = 0 := by
  induction xs with
  | nil => intro _; rfl
  | cons x r ih =>
    intro h
    have e0 : x = 0 := h 0 (by simp)
    unfold orL; rw [if_pos e0]
    refine ih fun j hj => ?_
    have := h (j + 1) (by simp; omega)
    simpa [at_] using this

theorem at_set_same {α : Type} [Inhabited α] {xs : List α} {i : Nat} {x : α} (h : i < xs.length) : at_ (xs.set i x) i = x := by simp [at_, h]
theorem at_set_oth {α : Type} [Inhabited α] {xs : List α} {i j : Nat} {x : α} (h : i ≠ j) : at_ (xs.set j x) i = at_ xs i := by
  have h' : ¬ j = i := fun e => h e.symm
  simp [at_, List.getElem?_set, h']

def cmpI (a b : Int) : Int := if a < b then -1 else if b < a then 1 else 0
theorem cmpI_neg {a b : Int} : cmpI a b < 0 ↔ a < b := by unfold cmpI; split <;> (try split) <;> omega
theorem cmpI_zero {a b : Int} : cmpI a b = 0 ↔ a = b := by unfold cmpI; split <;> (try split) <;> omega
theorem cmpI_bd (a b : Int) : -1 ≤ cmpI a b ∧ cmpI a b ≤ 1 := by unfold cmpI; split <;> (try split) <;> omega
/-- A list with x at place j. -/
def shfL {α : Type} (p : List α) (x : α) (j : Nat) : List α := p.take j ++ x :: p.drop j
theorem shf_len {α : Type} {p : List α} {x : α} {j : Nat} (h : j ≤ p.length) : (shfL p x j).length = p.length + 1 := by
  simp [shfL]; omega
theorem shf_end {α : Type} (p : List α) (x : α) : shfL p x p.length = p ++ [x] := by simp [shfL]
theorem shf_at {α : Type} [Inhabited α] {p r : List α} {x : α} {j : Nat} (h : j ≤ p.length) : at_ (shfL p x j ++ r) j = x := by
  have hl : (p.take j).length = j := by simp; omega
  rw [shfL, List.append_assoc, at_right (by omega), hl, Nat.sub_self]; simp [at_]
theorem shf_below {α : Type} [Inhabited α] {p r : List α} {x : α} {j k : Nat} (h : j ≤ p.length) (hk : k < j) : at_ (shfL p x j ++ r) k = at_ p k := by
  have hl : (p.take j).length = j := by simp; omega
  rw [shfL, List.append_assoc, at_left (by omega), at_eq (by omega), at_eq (by omega), List.getElem_take]
theorem at_cons {α : Type} [Inhabited α] (x : α) (l : List α) (k : Nat) : at_ (x :: l) (k + 1) = at_ l k := by simp [at_]
theorem at_drop {α : Type} [Inhabited α] (l : List α) (j k : Nat) : at_ (l.drop j) k = at_ l (j + k) := by simp [at_, List.getElem?_drop]
theorem shf_above {α : Type} [Inhabited α] {p r : List α} {x : α} {j k : Nat} (h : j ≤ p.length) (hk : j < k) : at_ (shfL p x j ++ r) k = at_ (p ++ r) (k - 1) := by
  have hl : (p.take j).length = j := by simp; omega
  have e : k - j = (k - 1 - j) + 1 := by omega
  rw [shfL, List.append_assoc, at_right (by omega), hl, e, List.cons_append, at_cons]
  by_cases c : k - 1 < p.length
  · rw [at_left (by simp; omega), at_left c, at_drop]; congr 1; omega
  · rw [at_right (by simp; omega), at_right (by omega)]; congr 1; simp; omega
theorem shf_step {α : Type} [Inhabited α] {p r : List α} {x : α} {j : Nat} (h : j + 1 ≤ p.length) : ((shfL p x (j + 1) ++ r).set (j + 1) (at_ p j)).set j x = shfL p x j ++ r := by
  refine ext_at (by simp [shf_len h, shf_len (show j ≤ p.length by omega)]) fun k hk => ?_
  have hl : (shfL p x (j + 1) ++ r).length = p.length + 1 + r.length := by rw [List.length_append, shf_len h]
  rw [List.length_set, List.length_set, hl] at hk
  by_cases e1 : k = j
  · rw [e1, at_set_same (by rw [List.length_set, hl]; omega), shf_at (by omega)]
  · rw [at_set_oth e1]
    by_cases e2 : k = j + 1
    · rw [e2, at_set_same (by rw [hl]; omega), shf_above (by omega) (by omega), at_left (by omega)]; rfl
    · rw [at_set_oth e2]
      by_cases c : k < j
      · rw [shf_below h (by omega), shf_below (by omega) c]
      · rw [shf_above h (by omega), shf_above (by omega) (by omega)]
/-- Where x goes among the first j of p. -/
def posL {α : Type} [Inhabited α] (c : α → α → Int) (x : α) (p : List α) : Nat → Nat
  | 0 => 0
  | j + 1 => if c x (at_ p j) < 0 then posL c x p j else j + 1
theorem posL_le {α : Type} [Inhabited α] (c : α → α → Int) (x : α) (p : List α) : ∀ j : Nat, posL c x p j ≤ j
  | 0 => Nat.le_refl _
  | j + 1 => by unfold posL; split; exact Nat.le_succ_of_le (posL_le c x p j); exact Nat.le_refl _
def insL {α : Type} [Inhabited α] (c : α → α → Int) (p : List α) (x : α) : List α := shfL p x (posL c x p p.length)
/-- The first k elements, sorted. -/
def isoL {α : Type} [Inhabited α] (c : α → α → Int) (xs : List α) : Nat → List α
  | 0 => []
  | k + 1 => insL c (isoL c xs k) (at_ xs k)
theorem isoL_len {α : Type} [Inhabited α] (c : α → α → Int) (xs : List α) : ∀ k : Nat, (isoL c xs k).length = k
  | 0 => rfl
  | k + 1 => by unfold isoL insL; rw [shf_len (posL_le _ _ _ _), isoL_len c xs k]
theorem isoL_one {α : Type} [Inhabited α] (c : α → α → Int) (xs : List α) : isoL c xs 1 = [at_ xs 0] := rfl
theorem pos_hit {α : Type} [Inhabited α] {c : α → α → Int} {x : α} {p : List α} {j : Nat} (h : ∀ k : Nat, j ≤ k → k < p.length → c x (at_ p k) < 0) (hj : j ≤ p.length) (h2 : j = 0 ∨ ¬ c x (at_ p (j - 1)) < 0) : posL c x p p.length = j := by
  have : ∀ m : Nat, m + j ≤ p.length → posL c x p (j + m) = j := fun m => by
    induction m with
    | zero =>
      intro _
      rcases h2 with e | e
      · subst e; rfl
      · cases j with
        | zero => rfl
        | succ j => exact if_neg e
    | succ m ih => intro hm; exact (if_pos (h (j + m) (by omega) (by omega))).trans (ih (by omega))
  have := this (p.length - j) (by omega)
  rwa [show j + (p.length - j) = p.length from by omega] at this
theorem shf_perm {α : Type} (p : List α) (x : α) (j : Nat) : List.Perm (shfL p x j) (p ++ [x]) := by
  unfold shfL
  refine List.perm_middle.trans ?_
  rw [List.take_append_drop]
  exact (List.perm_append_singleton x p).symm
theorem isoL_perm {α : Type} [Inhabited α] (c : α → α → Int) (xs : List α) : ∀ k : Nat, k ≤ xs.length → List.Perm (isoL c xs k) (xs.take k)
  | 0, _ => by simp [isoL]
  | k + 1, h => by
    rw [List.take_succ_eq_append_getElem (by omega), ← at_eq (by omega)]
    exact (shf_perm _ _ _).trans ((isoL_perm c xs k (by omega)).append_right _)
/-- Two elements are in order: by the comparison, and where it is even by B. -/
def ordR {α : Type} (c : α → α → Int) (B : α → α → Prop) (x y : α) : Prop := c x y < 0 ∨ c x y = 0 ∧ B x y
/-- A comparison that orders. -/
structure CmpW {α : Type} (c : α → α → Int) : Prop where
  anti : ∀ x y, c x y < 0 ↔ 0 < c y x
  trans : ∀ x y z, c x y ≤ 0 → c y z < 0 → c x z < 0
theorem CmpW.refl {α : Type} {c : α → α → Int} (h : CmpW c) (x : α) : c x x = 0 := by have := h.anti x x; omega
theorem CmpW.zero {α : Type} {c : α → α → Int} (h : CmpW c) {x y : α} (e : c x y = 0) : c y x = 0 := by have h1 := h.anti x y; have h2 := h.anti y x; omega
theorem CmpW.le {α : Type} {c : α → α → Int} (h : CmpW c) {x y z : α} (h1 : c x y ≤ 0) (h2 : c y z ≤ 0) : c x z ≤ 0 := by
  rcases Int.lt_or_le 0 (c x z) with g | g
  · have q := (h.anti z x).2 g
    have q2 : c y x < 0 := h.trans y z x h2 q
    have := (h.anti y x).1 q2; omega
  · exact g
theorem pos_lo {α : Type} [Inhabited α] {c : α → α → Int} {x : α} {p : List α} : ∀ (n k : Nat), posL c x p n ≤ k → k < n → c x (at_ p k) < 0
  | 0, k, _, h => absurd h (Nat.not_lt_zero _)
  | n + 1, k, h1, h2 => by
    unfold posL at h1
    split at h1
    · rename_i g
      by_cases e : k = n
      · subst e; exact g
      · exact pos_lo n k h1 (by omega)
    · omega
theorem pos_at {α : Type} [Inhabited α] {c : α → α → Int} {x : α} {p : List α} : ∀ n : Nat, posL c x p n = 0 ∨ ¬ c x (at_ p (posL c x p n - 1)) < 0
  | 0 => .inl rfl
  | n + 1 => by
    unfold posL
    split
    · exact pos_at n
    · right; assumption
/-- The list is in order, where all of xs are in order by B. -/
theorem isoL_ord {α : Type} [Inhabited α] {c : α → α → Int} (hc : CmpW c) {B : α → α → Prop} {xs : List α} (hB : xs.Pairwise B) : ∀ k : Nat, k ≤ xs.length → (isoL c xs k).Pairwise (ordR c B)
  | 0, _ => by simp [isoL]
  | k + 1, h => by
    have ih := isoL_ord hc hB k (by omega)
    have hp := isoL_perm c xs k (by omega)
    have hl := isoL_len c xs k
    obtain ⟨p, hpe⟩ : ∃ p, p = isoL c xs k := ⟨_, rfl⟩
    obtain ⟨x, hx⟩ : ∃ x, x = at_ xs k := ⟨_, rfl⟩
    rw [isoL, ← hpe, ← hx]
    rw [← hpe] at ih hp hl
    have hbx : ∀ y ∈ p, B y x := fun y hy => by
      have hm := hp.mem_iff.1 hy
      obtain ⟨i, hi, e⟩ := List.getElem_of_mem hm
      rw [List.length_take] at hi
      rw [List.getElem_take] at e
      rw [← e, hx, at_eq (by omega)]
      exact (List.pairwise_iff_getElem.1 hB) i k (by omega) (by omega) (by omega)
    unfold insL shfL
    have hj := posL_le c x p p.length
    have lo := fun k hk hk2 => pos_lo (c := c) (x := x) (p := p) p.length k hk hk2
    have hi := pos_at (c := c) (x := x) (p := p) p.length
    generalize posL c x p p.length = j at hj lo hi ⊢
    have hle : ∀ y ∈ p.take j, c y x ≤ 0 := fun y hy => by
      obtain ⟨i, hi2, e⟩ := List.getElem_of_mem hy
      rw [List.length_take] at hi2
      rw [List.getElem_take] at e
      rcases hi with e0 | e0
      · omega
      · have h3 : c (at_ p (j - 1)) x ≤ 0 := by
          rcases Int.lt_or_le 0 (c (at_ p (j - 1)) x) with g | g
          · exact absurd ((hc.anti _ _).2 g) e0
          · exact g
        rw [← e]
        by_cases ei : i = j - 1
        · have : p[i] = at_ p (j - 1) := by rw [at_eq (by omega)]; congr 1
          rw [this]; exact h3
        · have q := (List.pairwise_iff_getElem.1 ih) i (j - 1) (by omega) (by omega) (by omega)
          rw [← at_eq (show j - 1 < p.length by omega)] at q
          refine hc.le ?_ h3
          rcases q with q | q
          · omega
          · omega
    have hgt : ∀ y ∈ p.drop j, c x y < 0 := fun y hy => by
      obtain ⟨i, hi2, e⟩ := List.getElem_of_mem hy
      rw [List.length_drop] at hi2
      rw [List.getElem_drop] at e
      rw [← e, ← at_eq (by omega)]
      exact lo _ (by omega) (by omega)
    rw [List.pairwise_append]
    refine ⟨ih.sublist (List.take_sublist _ _), List.pairwise_cons.2 ⟨fun y hy => .inl (hgt y hy), ih.sublist (List.drop_sublist _ _)⟩, fun a ha b hb => ?_⟩
    rcases List.mem_cons.1 hb with e | e
    · subst e
      have := hle a ha
      by_cases z : c a b = 0
      · exact .inr ⟨z, hbx a (List.mem_of_mem_take ha)⟩
      · exact .inl (by omega)
    · exact .inl (hc.trans a x b (hle a ha) (hgt b e))
theorem isoL_mem {α : Type} [Inhabited α] {c : α → α → Int} {xs : List α} {x : α} : x ∈ isoL c xs xs.length ↔ x ∈ xs := by
  have := (isoL_perm c xs xs.length (Nat.le_refl _)).mem_iff (a := x)
  rwa [List.take_of_length_le (Nat.le_refl _)] at this
/-- The data in the midst of sorting. -/
theorem iso_start {α : Type} [Inhabited α] (c : α → α → Int) (xs : List α) : xs = isoL c xs (min 1 xs.length) ++ xs.drop 1 := by
  cases xs with
  | nil => rfl
  | cons x r => show x :: r = isoL c (x :: r) (min 1 (r.length + 1)) ++ r; rw [show min 1 (r.length + 1) = 1 from by omega, isoL_one]; rfl
theorem iso_in {α : Type} [Inhabited α] {c : α → α → Int} {xs : List α} {i : Nat} (hi : i < xs.length) : isoL c xs i ++ xs.drop i = shfL (isoL c xs i) (at_ xs i) i ++ xs.drop (i + 1) := by
  have hl := isoL_len c xs i
  have e : shfL (isoL c xs i) (at_ xs i) i = isoL c xs i ++ [at_ xs i] := by
    have := shf_end (isoL c xs i) (at_ xs i); rwa [hl] at this
  rw [e, List.append_assoc, at_eq hi, List.singleton_append, ← List.drop_eq_getElem_cons hi]
theorem iso_out {α : Type} [Inhabited α] {c : α → α → Int} {xs : List α} {i j : Nat} (hj : j ≤ i) (h : ∀ k : Nat, j ≤ k → k < i → c (at_ xs i) (at_ (isoL c xs i) k) < 0) (h2 : j = 0 ∨ ¬ c (at_ xs i) (at_ (isoL c xs i) (j - 1)) < 0) :
    shfL (isoL c xs i) (at_ xs i) j = isoL c xs (i + 1) := by
  have hl := isoL_len c xs i
  have := pos_hit (c := c) (x := at_ xs i) (p := isoL c xs i) (j := j) (fun k h3 h4 => h k h3 (by omega)) (by omega) h2
  show _ = insL c (isoL c xs i) (at_ xs i)
  unfold insL; rw [this]

theorem bl_irr : ∀ x : List UInt8, Op.bytesLess x x = false
  | [] => rfl
  | a :: x => by
    have h : ¬ a < a := fun q => by have := UInt8.lt_iff_toNat_lt.1 q; omega
    simp [Op.bytesLess, bl_irr x, h]
theorem bl_asym : ∀ x y : List UInt8, Op.bytesLess x y = true → Op.bytesLess y x = false
  | [], [], h => by simp [Op.bytesLess] at h
  | [], _ :: _, _ => by simp [Op.bytesLess]
  | _ :: _, [], h => by simp [Op.bytesLess] at h
  | a :: x, b :: y, h => by
    simp only [Op.bytesLess, Bool.or_eq_true, Bool.and_eq_true, decide_eq_true_eq, beq_iff_eq] at h
    rcases h with h | ⟨h, h2⟩
    · have q := UInt8.lt_iff_toNat_lt.1 h
      have n1 : ¬ b < a := fun z => by have := UInt8.lt_iff_toNat_lt.1 z; omega
      have n2 : ¬ b = a := fun z => by subst z; omega
      simp [Op.bytesLess, n1, n2]
    · subst h
      have n1 : ¬ a < a := fun z => by have := UInt8.lt_iff_toNat_lt.1 z; omega
      simp [Op.bytesLess, n1, bl_asym x y h2]
theorem bl_trans : ∀ x y z : List UInt8, Op.bytesLess x y = true → Op.bytesLess y z = true → Op.bytesLess x z = true
  | _, _, [], _, h => by simp [Op.bytesLess] at h
  | _, [], _ :: _, h, _ => by simp [Op.bytesLess] at h
  | [], _ :: _, _ :: _, _, _ => by simp [Op.bytesLess]
  | a :: x, b :: y, c :: z, h1, h2 => by
    simp only [Op.bytesLess, Bool.or_eq_true, Bool.and_eq_true, decide_eq_true_eq, beq_iff_eq] at h1 h2 ⊢
    rcases h1 with h1 | ⟨h1, g1⟩ <;> rcases h2 with h2 | ⟨h2, g2⟩
    · left; have := UInt8.lt_iff_toNat_lt.1 h1; have := UInt8.lt_iff_toNat_lt.1 h2; exact UInt8.lt_iff_toNat_lt.2 (by omega)
    · left; rw [← h2]; exact h1
    · left; rw [h1]; exact h2
    · right; exact ⟨h1.trans h2, bl_trans x y z g1 g2⟩
theorem bl_tri : ∀ x y : List UInt8, Op.bytesLess x y = false → x ≠ y → Op.bytesLess y x = true
  | [], [], _, h => absurd rfl h
  | [], _ :: _, h, _ => by simp [Op.bytesLess] at h
  | _ :: _, [], _, _ => by simp [Op.bytesLess]
  | a :: x, b :: y, h, hn => by
    simp only [Op.bytesLess, Bool.or_eq_false_iff, decide_eq_false_iff_not] at h
    simp only [Op.bytesLess, Bool.or_eq_true, Bool.and_eq_true, decide_eq_true_eq, beq_iff_eq]
    by_cases e : a = b
    · subst e
      right
      refine ⟨rfl, bl_tri x y ?_ fun q => hn (by rw [q])⟩
      have := h.2
      simpa using this
    · left
      have q : ¬ a.toNat < b.toNat := fun z => h.1 (UInt8.lt_iff_toNat_lt.2 z)
      have q2 : a.toNat ≠ b.toNat := fun z => e (UInt8.toNat_inj.1 z)
      exact UInt8.lt_iff_toNat_lt.2 (by omega)
theorem sl_tri {a b : ByteArray} (h : sless a b = false) (hn : a ≠ b) : sless b a = true := by
  unfold sless at *
  refine bl_tri _ _ h fun q => hn ?_
  rw [Lib.toList_data, Lib.toList_data] at q
  cases a; cases b
  simp only [ByteArray.mk.injEq]
  exact Array.toList_inj.1 q
theorem sl_asym {a b : ByteArray} (h : sless a b = true) : sless b a = false := bl_asym _ _ h
theorem sl_irr (a : ByteArray) : sless a a = false := bl_irr _
theorem sl_trans {a b c : ByteArray} (h1 : sless a b = true) (h2 : sless b c = true) : sless a c = true := bl_trans _ _ _ h1 h2
theorem sl_ne {a b : ByteArray} (h : sless a b = true) : a ≠ b := fun e => by subst e; rw [sl_irr] at h; cases h
theorem cmpS_neg {a b : ByteArray} : cmpS a b < 0 ↔ sless a b = true := by
  unfold cmpS
  by_cases h : sless a b = true
  · rw [if_pos h]; simp [h]
  · rw [if_neg h]; split <;> simp [h]
theorem cmpS_zero {a b : ByteArray} : cmpS a b = 0 ↔ a = b := by
  unfold cmpS
  by_cases h : sless a b = true
  · rw [if_pos h]; have := sl_ne h; simp [this]
  · rw [if_neg h]
    have h' : sless a b = false := by simpa using h
    by_cases e : a = b
    · subst e; simp
    · rw [if_pos ⟨h', e⟩]; simp [e]
theorem cmpS_pos {a b : ByteArray} : 0 < cmpS a b ↔ sless b a = true := by
  constructor
  · intro h
    have n1 : ¬ cmpS a b < 0 := by omega
    have n2 : ¬ cmpS a b = 0 := by omega
    rw [cmpS_neg] at n1; rw [cmpS_zero] at n2
    exact sl_tri (by simpa using n1) n2
  · intro h
    have n1 : ¬ cmpS a b < 0 := fun q => by rw [cmpS_neg] at q; have := sl_asym q; rw [h] at this; cases this
    have n2 : ¬ cmpS a b = 0 := fun q => by rw [cmpS_zero] at q; exact sl_ne h q.symm
    omega
theorem cmpS_w : CmpW cmpS := ⟨fun x y => by rw [cmpS_neg, cmpS_pos], fun x y z h1 h2 => by
  rw [cmpS_neg] at *
  by_cases e : cmpS x y = 0
  · rw [cmpS_zero] at e; subst e; exact h2
  · exact sl_trans (cmpS_neg.1 (by omega)) h2⟩
theorem cmpI_w : CmpW cmpI := ⟨fun x y => by unfold cmpI; split <;> (try split) <;> (try split) <;> omega, fun x y z h1 h2 => by
  rw [cmpI_neg] at *
  have := @cmpI_neg y x
  have := @cmpI_zero x y
  have := @cmpI_neg x y
  omega⟩
/-- Two comparisons one behind the other. -/
theorem CmpW.lex {α β : Type} {f : β → α} {c : α → α → Int} {d : β → β → Int} (hc : CmpW c) (hd : CmpW d) : CmpW fun x y : β => if c (f x) (f y) = 0 then d x y else c (f x) (f y) := ⟨fun x y => by
    have a1 := hc.anti (f x) (f y)
    have a2 := hc.anti (f y) (f x)
    have b1 := hd.anti x y
    show (if c (f x) (f y) = 0 then d x y else c (f x) (f y)) < 0 ↔ 0 < (if c (f y) (f x) = 0 then d y x else c (f y) (f x))
    by_cases e : c (f x) (f y) = 0
    · rw [if_pos e, if_pos (hc.zero e)]; exact b1
    · rw [if_neg e, if_neg (fun q => e (hc.zero q))]; exact a1, fun x y z h1 h2 => by
    replace h1 : (if c (f x) (f y) = 0 then d x y else c (f x) (f y)) ≤ 0 := h1
    replace h2 : (if c (f y) (f z) = 0 then d y z else c (f y) (f z)) < 0 := h2
    show (if c (f x) (f z) = 0 then d x z else c (f x) (f z)) < 0
    by_cases e1 : c (f x) (f y) = 0
    · rw [if_pos e1] at h1
      by_cases e2 : c (f y) (f z) = 0
      · rw [if_pos e2] at h2
        have l1 := hc.le (x := f x) (y := f y) (z := f z) (by omega) (by omega)
        have l2 := hc.le (x := f z) (y := f y) (z := f x) (by have := hc.zero e2; omega) (by have := hc.zero e1; omega)
        have a := hc.anti (f x) (f z)
        have a2 := hc.anti (f z) (f x)
        rw [if_pos (by omega)]
        exact hd.trans x y z h1 h2
      · rw [if_neg e2] at h2
        have := hc.trans (f x) (f y) (f z) (by omega) h2
        rw [if_neg (by omega)]; exact this
    · rw [if_neg e1] at h1
      have h1' : c (f x) (f y) < 0 := by omega
      have hz : c (f y) (f z) ≤ 0 := by
        by_cases e2 : c (f y) (f z) = 0
        · omega
        · rw [if_neg e2] at h2; omega
      have l := hc.le (x := f x) (y := f y) (z := f z) (by omega) hz
      have n : c (f x) (f z) ≠ 0 := fun q => by
        have q2 := hc.zero q
        have := hc.trans (f z) (f x) (f y) (by omega) h1'
        have a := hc.anti (f z) (f y)
        omega
      rw [if_neg n]; omega⟩
theorem CmpW.map {α β : Type} {c : α → α → Int} (hc : CmpW c) (f : β → α) : CmpW fun x y : β => c (f x) (f y) := ⟨fun x y => hc.anti _ _, fun x y z => hc.trans _ _ _⟩

def sameL {α : Type} [Inhabited α] [DecidableEq α] (a b : List α) : Bool := decide (a.length = b.length) && allN a.length (fun j => decide (at_ a j = at_ b j))
theorem sameL_refl {α : Type} [Inhabited α] [DecidableEq α] (a : List α) : sameL a a = true := by simp [sameL, allN_iff]

/-- What is left of l behind b. -/
def szTake (l : Int) (b : Nat) : Int := if l < b then -1 else l - b
theorem szTake_nn {l : Int} {b : Nat} (h : ¬ szTake l b < 0) : szTake l b = l - b ∧ (b : Int) ≤ l := by
  unfold szTake at *; split at h <;> simp_all <;> omega
theorem szTake_ng {l : Int} {b : Nat} (h : szTake l b < 0) (h0 : 0 ≤ l) : szTake l b = -1 ∧ l < b := by
  unfold szTake at *; split at h <;> simp_all <;> omega
theorem szTake_of {l : Int} {b : Nat} (h : (b : Int) ≤ l) : szTake l b = l - b := by unfold szTake; rw [if_neg (by omega)]
theorem szTake_neg {l : Int} {b : Nat} (h : l < b) : szTake l b = -1 := by unfold szTake; rw [if_pos h]
theorem take_snoc' {α : Type} [Inhabited α] {l : List α} {k : Nat} (h : k < l.length) : l.take (k + 1) = l.take k ++ [at_ l k] := by
  rw [List.take_succ_eq_append_getElem h, at_eq h]

theorem at_set {α : Type} [Inhabited α] (xs : List α) (k i : Nat) (v : α) : at_ (xs.set k v) i = if i = k ∧ k < xs.length then v else at_ xs i := by
  by_cases h : i = k
  · subst h
    by_cases h2 : i < xs.length
    · simp [at_, h2]
    · have : xs.set i v = xs := List.set_eq_of_length_le (by omega)
      simp [this, h2]
  · have h' : ¬ k = i := fun e => h e.symm
    simp [at_, h', h, List.getElem?_set]
theorem at_out {xs : List Int} {i : Nat} (h : xs.length ≤ i) : at_ xs i = 0 := by simp [at_, h]
theorem at_rep (n i : Nat) : at_ (List.replicate n (0 : Int)) i = 0 := by
  by_cases h : i < n
  · rw [at_eq (by simpa using h)]; simp
  · exact at_out (by simp; omega)
/-- Whether the label at k is one, and behind the one before. -/
def labOk (ls : List ByteArray) (k : Nat) : Bool := okLabel (at_ ls k) && (decide (k = 0) || sless (at_ ls (k - 1)) (at_ ls k))
def okLabels (ls : List ByteArray) : Bool := allN ls.length (labOk ls) && decide (1 ≤ (ls.length : Int) ∧ (ls.length : Int) ≤ 12)
def okW (x : Int) : Bool := inB x (-1000000) 1000000
def okRow (r : List Int) : Bool := decide ((r.length : Int) = 25) && allN r.length (fun k => okW (at_ r k))
def okRows (W : List (List Int)) : Bool := allN W.length (fun j => okRow (at_ W j))
def okPerc (p : Perceptron) : Bool := okLabels p.Labels && (decide ((p.Weights.length : Int) = (p.Labels.length : Int)) && okRows p.Weights)
theorem labOk_yes {ls : List ByteArray} {i : Int} (h0 : 0 ≤ i) (h1 : okLabel (at_ ls i.toNat) = true) (h2 : i ≤ 0 ∨ sless (at_ ls (i - 1).toNat) (at_ ls i.toNat) = true) : labOk ls i.toNat = true := by
  unfold labOk
  rw [h1, Bool.true_and, Bool.or_eq_true, decide_eq_true_eq]
  rcases h2 with h2 | h2
  · left; omega
  · right; rw [show i.toNat - 1 = (i - 1).toNat from by omega]; exact h2
theorem labOk_a {ls : List ByteArray} {k : Nat} (h1 : okLabel (at_ ls k) = false) : labOk ls k = false := by unfold labOk; rw [h1]; rfl
theorem labOk_b {ls : List ByteArray} {i : Int} (h0 : 0 < i) (h2 : sless (at_ ls (i - 1).toNat) (at_ ls i.toNat) = false) : labOk ls i.toNat = false := by
  unfold labOk
  rw [show i.toNat - 1 = (i - 1).toNat from by omega, h2, decide_eq_false (by omega)]
  simp
theorem okLabels_go {ls : List ByteArray} (h : ∀ j, j < ls.length → labOk ls j = true) : okLabels ls = decide (1 ≤ (ls.length : Int) ∧ (ls.length : Int) ≤ 12) := by unfold okLabels; rw [allN_at h, Bool.true_and]
theorem okLabels_no {ls : List ByteArray} {k : Nat} (hk : k < ls.length) (h : labOk ls k = false) : okLabels ls = false := by unfold okLabels; rw [allN_not hk h, Bool.false_and]
theorem rise_not {a b : ByteArray} (h : ¬ (sless b a = true ∨ b = a)) : sless a b = true := sl_tri (Bool.eq_false_iff.2 fun q => h (.inl q)) fun e => h (.inr e)
theorem rise_yes {a b : ByteArray} (h : sless b a = true ∨ b = a) : sless a b = false := by
  rcases h with h | h
  · exact sl_asym h
  · subst h; exact sl_irr _
theorem okLabels_n {ls : List ByteArray} (h : okLabels ls = true) : 1 ≤ ls.length ∧ ls.length ≤ 12 := by
  simp only [okLabels, Bool.and_eq_true, decide_eq_true_eq] at h; omega
theorem okLabels_at {ls : List ByteArray} (h : okLabels ls = true) {j : Nat} (hj : j < ls.length) : okLabel (at_ ls j) = true := by
  simp only [okLabels, Bool.and_eq_true] at h
  have := allN_get h.1 hj
  unfold labOk at this
  rw [Bool.and_eq_true] at this
  exact this.1
theorem okPerc_iff {p : Perceptron} : okPerc p = true ↔ okLabels p.Labels = true ∧ p.Weights.length = p.Labels.length ∧ okRows p.Weights = true := by
  simp only [okPerc, Bool.and_eq_true, decide_eq_true_eq]
  constructor
  · rintro ⟨h1, h2, h3⟩; exact ⟨h1, by omega, h3⟩
  · rintro ⟨h1, h2, h3⟩; exact ⟨h1, by omega, h3⟩
theorem okRow_iff {r : List Int} : okRow r = true ↔ r.length = 25 ∧ ∀ k, k < 25 → -1000000 ≤ at_ r k ∧ at_ r k ≤ 1000000 := by
  simp only [okRow, Bool.and_eq_true, decide_eq_true_eq, allN_iff, okW, inB_iff]
  constructor
  · rintro ⟨h1, h2⟩; exact ⟨by omega, fun k hk => h2 k (by omega)⟩
  · rintro ⟨h1, h2⟩; exact ⟨by omega, fun k hk => h2 k (by omega)⟩
theorem okRows_at {W : List (List Int)} (h : okRows W = true) {j : Nat} (hj : j < W.length) : (at_ W j).length = 25 ∧ ∀ k, k < 25 → -1000000 ≤ at_ (at_ W j) k ∧ at_ (at_ W j) k ≤ 1000000 := okRow_iff.1 (allN_get h hj)
theorem okRows_no {W : List (List Int)} {j : Nat} (hj : j < W.length) (h : okRow (at_ W j) = false) : okRows W = false := allN_not hj h
/-- The place of a feature's cell. -/
def celK (f : Feat) : Int := 8 + f.Y / 64 * 4 + f.X / 64
/-- How often each place is hit by the first k features. -/
def inpC (fs : List Feat) : Nat → List Int
  | 0 => List.replicate 25 0
  | k + 1 => ((inpC fs k).set (at_ fs k).D.toNat (at_ (inpC fs k) (at_ fs k).D.toNat + 1)).set (celK (at_ fs k)).toNat (at_ ((inpC fs k).set (at_ fs k).D.toNat (at_ (inpC fs k) (at_ fs k).D.toNat + 1)) (celK (at_ fs k)).toNat + 1)
theorem inpC_len (fs : List Feat) : ∀ k, (inpC fs k).length = 25
  | 0 => rfl
  | k + 1 => by simp only [inpC, List.length_set]; exact inpC_len fs k
theorem inpC_bd (fs : List Feat) : ∀ k i, 0 ≤ at_ (inpC fs k) i ∧ at_ (inpC fs k) i ≤ 2 * (k : Int)
  | 0, i => by rw [inpC, at_rep]; omega
  | k + 1, i => by
    have ih := inpC_bd fs k
    have h1 := ih i
    have h2 := ih (at_ fs k).D.toNat
    have h3 := ih (celK (at_ fs k)).toNat
    simp only [inpC, at_set]
    split <;> (try split) <;> (try split) <;> omega
theorem inpC_1 {fs : List Feat} {k : Int} (h : 0 ≤ k) : inpC fs (k + 1).toNat = ((inpC fs k.toNat).set (at_ fs k.toNat).D.toNat (at_ (inpC fs k.toNat) (at_ fs k.toNat).D.toNat + 1)).set (celK (at_ fs k.toNat)).toNat (at_ ((inpC fs k.toNat).set (at_ fs k.toNat).D.toNat (at_ (inpC fs k.toNat) (at_ fs k.toNat).D.toNat + 1)) (celK (at_ fs k.toNat)).toNat + 1) := by
  have : (k + 1).toNat = k.toNat + 1 := by omega
  rw [this]; rfl
/-- Numbers of which the first k are put into proportion. -/
def inpN (c : List Int) (n : Int) : Nat → List Int
  | 0 => c
  | k + 1 => (inpN c n k).set k (nearI (at_ (inpN c n k) k * 256) n)
theorem inpN_len (c : List Int) (n : Int) : ∀ k, (inpN c n k).length = c.length
  | 0 => rfl
  | k + 1 => by simp only [inpN, List.length_set]; exact inpN_len c n k
theorem inpN_1 {c : List Int} {n k : Int} (h : 0 ≤ k) : inpN c n (k + 1).toNat = (inpN c n k.toNat).set k.toNat (nearI (at_ (inpN c n k.toNat) k.toNat * 256) n) := by
  have : (k + 1).toNat = k.toNat + 1 := by omega
  rw [this]; rfl
theorem nearI_bd {x n : Int} (hn : 0 < n) (h0 : 0 ≤ x) (h1 : x ≤ 2 * n) : 0 ≤ nearI (x * 256) n ∧ nearI (x * 256) n ≤ 512 := by
  unfold nearI
  have hd : 0 < 2 * n := by omega
  refine ⟨Int.ediv_nonneg (by omega) (by omega), ?_⟩
  have : (2 * (x * 256) + n) / (2 * n) < 513 := Int.ediv_lt_of_lt_mul hd (by omega)
  omega
theorem inpN_bd {c : List Int} {n : Int} (hn : 0 < n) (hc : ∀ i, 0 ≤ at_ c i ∧ at_ c i ≤ 2 * n) : ∀ k i, (k ≤ i → at_ (inpN c n k) i = at_ c i) ∧ (i < k → 0 ≤ at_ (inpN c n k) i ∧ at_ (inpN c n k) i ≤ 512)
  | 0, i => ⟨fun _ => rfl, fun h => by omega⟩
  | k + 1, i => by
    have ih := inpN_bd hn hc k
    constructor
    · intro h
      simp only [inpN, at_set]
      rw [if_neg (by omega)]
      exact (ih i).1 (by omega)
    · intro h
      simp only [inpN, at_set]
      split
      · rw [(ih k).1 (Nat.le_refl _)]
        exact nearI_bd hn (hc k).1 (hc k).2
      · rename_i h2
        by_cases e : i = k
        · subst e
          rw [(ih i).1 (Nat.le_refl _), at_out (by rw [← inpN_len c n i]; omega)]; omega
        · exact (ih i).2 (by omega)
/-- The input of features. -/
def inpR (fs : List Feat) : List Int := (inpN (inpC fs fs.length) fs.length 24).set 24 256
theorem inpR_len (fs : List Feat) : (inpR fs).length = 25 := by unfold inpR; rw [List.length_set, inpN_len, inpC_len]
theorem inpR_def (fs : List Feat) : (inpN (inpC fs fs.length) fs.length 24).set 24 256 = inpR fs := by unfold inpR; rfl
theorem inpR_alt (fs : List Feat) : (inpN (inpC fs fs.length) fs.length 25).set 24 256 = inpR fs := by
  unfold inpR
  rw [inpN, List.set_set]
theorem inpR_bd {fs : List Feat} (h : 1 ≤ fs.length) (i : Nat) : 0 ≤ at_ (inpR fs) i ∧ at_ (inpR fs) i ≤ 512 := by
  unfold inpR
  rw [at_set]
  split
  · omega
  · rename_i h2
    by_cases e : i < 24
    · exact (inpN_bd (by omega) (inpC_bd fs fs.length) 24 i).2 e
    · rw [at_out]
      · omega
      · rw [inpN_len, inpC_len] at *; omega
/-- Scores. -/
def scT (r x : List Int) (k : Nat) : Int := sumN k fun j => at_ r j * at_ x j
theorem scT_1 {r x : List Int} {k : Int} (h : 0 ≤ k) : scT r x (k + 1).toNat = scT r x k.toNat + at_ r k.toNat * at_ x k.toNat := sumN_succ h _
def scR (W : List (List Int)) (x : List Int) : List Int := W.map fun r => scT r x 25
theorem scR_len (W : List (List Int)) (x : List Int) : (scR W x).length = W.length := by simp [scR]
theorem scR_at {W : List (List Int)} {x : List Int} {i : Nat} (h : i < W.length) : at_ (scR W x) i = scT (at_ W i) x 25 := by simp [scR, at_, h]
theorem scR_take {W : List (List Int)} {x : List Int} {i : Int} (h0 : 0 ≤ i) (h : i.toNat < W.length) : (W.take (i + 1).toNat).map (fun r => scT r x 25) = (W.take i.toNat).map (fun r => scT r x 25) ++ [scT (at_ W i.toNat) x 25] := by
  have : (i + 1).toNat = i.toNat + 1 := by omega
  rw [this, List.take_succ_eq_append_getElem h, ← at_eq h, List.map_append]; rfl
theorem mulX_bd {a b : Int} (h1 : -1000000 ≤ a ∧ a ≤ 1000000) (h2 : 0 ≤ b ∧ b ≤ 512) : -512000000 ≤ a * b ∧ a * b ≤ 512000000 := by
  have := mulS_bd h1.1 h1.2 h2.1 h2.2
  omega
theorem scT_bd {r x : List Int} (hr : ∀ k, k < 25 → -1000000 ≤ at_ r k ∧ at_ r k ≤ 1000000) (hx : ∀ i, 0 ≤ at_ x i ∧ at_ x i ≤ 512) : ∀ k : Nat, k ≤ 25 → -512000000 * (k : Int) ≤ scT r x k ∧ scT r x k ≤ 512000000 * (k : Int)
  | 0, _ => by simp [scT, sumN]
  | k + 1, h => by
    have ih := scT_bd hr hx k (by omega)
    have := mulX_bd (hr k (by omega)) (hx k)
    unfold scT at ih ⊢
    simp only [sumN]
    omega
/-- The index of the greatest of the first k numbers. -/
def bst (l : List Int) : Nat → Int
  | 0 => 0
  | k + 1 => if at_ l (bst l k).toNat < at_ l k then (k : Int) else bst l k
def bstI (l : List Int) : Int := bst l l.length
theorem bst_one (l : List Int) : bst l 1 = 0 := by simp [bst]
theorem bst_1 {l : List Int} {k : Int} (h : 0 ≤ k) : bst l (k + 1).toNat = if at_ l (bst l k.toNat).toNat < at_ l k.toNat then k else bst l k.toNat := by
  have e : (k + 1).toNat = k.toNat + 1 := by omega
  have e2 : ((k.toNat : Nat) : Int) = k := by omega
  rw [e, bst, e2]
theorem bst_ok (l : List Int) : ∀ k, 0 ≤ bst l k ∧ (bst l k < (k : Int) ∨ k = 0) ∧ (∀ j, j < k → at_ l j ≤ at_ l (bst l k).toNat) ∧ (∀ j : Nat, (j : Int) < bst l k → at_ l j < at_ l (bst l k).toNat)
  | 0 => ⟨Int.le_refl _, .inr rfl, fun j hj => by omega, fun j hj => by simp [bst] at hj; omega⟩
  | k + 1 => by
    obtain ⟨h1, h2, h3, h4⟩ := bst_ok l k
    rw [bst]
    split
    · rename_i h
      refine ⟨by omega, .inl (by omega), fun j hj => ?_, fun j hj => ?_⟩
      · by_cases e : j = k
        · subst e; simp
        · have := h3 j (by omega); simp only [Int.toNat_natCast]; omega
      · have := h3 j (by omega); simp only [Int.toNat_natCast]; omega
    · rename_i h
      refine ⟨h1, .inl (by rcases h2 with h2 | h2; omega; (subst h2; simp [bst])), fun j hj => ?_, h4⟩
      by_cases e : j = k
      · subst e; omega
      · exact h3 j (by omega)
theorem bstI_in {l : List Int} (h : 1 ≤ l.length) : 0 ≤ bstI l ∧ bstI l < (l.length : Int) := by
  have := bst_ok l l.length
  unfold bstI; omega
theorem bstI_ge {l : List Int} {j : Nat} (h : j < l.length) : at_ l j ≤ at_ l (bstI l).toNat := (bst_ok l l.length).2.2.1 j h
/-- The first place of the greatest number. -/
theorem bst_first {l : List Int} {M : Int} (h : 1 ≤ l.length) (hm : ∃ j, j < l.length ∧ at_ l j = M) (hx : ∀ j, j < l.length → at_ l j ≤ M) : firstN l.length (fun j => decide (at_ l j = M)) = bstI l := by
  obtain ⟨h1, h2, h3, h4⟩ := bst_ok l l.length
  obtain ⟨j, hj, e⟩ := hm
  have hM : at_ l (bst l l.length).toNat = M := Int.le_antisymm (hx _ (by omega)) (by rw [← e]; exact h3 j hj)
  have hh := firstN_hit (n := l.length) (p := fun j => decide (at_ l j = M)) (k := (bst l l.length).toNat) (by omega) (by simp [hM]) (fun i hi => by
    have := h4 i (by omega)
    rw [hM] at this
    exact decide_eq_false (by omega))
  rw [hh]; unfold bstI; omega
/-- The margin of the first k numbers to the one at b. -/
def mgn (l : List Int) (b : Int) : Nat → Int
  | 0 => -1
  | k + 1 => if (k : Int) ≠ b ∧ (mgn l b k < 0 ∨ at_ l b.toNat - at_ l k < mgn l b k) then at_ l b.toNat - at_ l k else mgn l b k
theorem mgn_1 {l : List Int} {b k : Int} (h : 0 ≤ k) : mgn l b (k + 1).toNat = if k ≠ b ∧ (mgn l b k.toNat < 0 ∨ at_ l b.toNat - at_ l k.toNat < mgn l b k.toNat) then at_ l b.toNat - at_ l k.toNat else mgn l b k.toNat := by
  have e : (k + 1).toNat = k.toNat + 1 := by omega
  have e2 : ((k.toNat : Nat) : Int) = k := by omega
  rw [e, mgn, e2]
theorem mgn_ok {l : List Int} {b : Int} (hb : ∀ j, j < l.length → at_ l j ≤ at_ l b.toNat) : ∀ k, k ≤ l.length → (mgn l b k = -1 ∧ ∀ j : Nat, j < k → (j : Int) = b) ∨ (0 ≤ mgn l b k ∧ (∃ j : Nat, j < k ∧ (j : Int) ≠ b ∧ mgn l b k = at_ l b.toNat - at_ l j) ∧ ∀ j : Nat, j < k → (j : Int) ≠ b → mgn l b k ≤ at_ l b.toNat - at_ l j)
  | 0, _ => .inl ⟨rfl, fun j hj => by omega⟩
  | k + 1, hk => by
    have ih := mgn_ok hb k (by omega)
    have hbk := hb k (by omega)
    rw [mgn]
    split
    · rename_i h
      right
      refine ⟨by omega, ⟨k, by omega, h.1, rfl⟩, fun j hj hn => ?_⟩
      by_cases e : j = k
      · subst e; exact Int.le_refl _
      · rcases ih with ih | ih
        · exact absurd (ih.2 j (by omega)) hn
        · have := ih.2.2 j (by omega) hn
          omega
    · rename_i h
      rcases ih with ih | ih
      · by_cases e : (k : Int) = b
        · refine .inl ⟨ih.1, fun j hj => ?_⟩
          by_cases e2 : j = k
          · subst e2; exact e
          · exact ih.2 j (by omega)
        · exact absurd ⟨e, .inl (by omega)⟩ h
      · right
        obtain ⟨j0, a1, a2, a3⟩ := ih.2.1
        refine ⟨ih.1, ⟨j0, by omega, a2, a3⟩, fun j hj hn => ?_⟩
        by_cases e : j = k
        · subst e
          by_cases e2 : at_ l b.toNat - at_ l j < mgn l b j
          · exact absurd ⟨hn, .inr e2⟩ h
          · omega
        · exact ih.2.2 j (by omega) hn
def mgI (l : List Int) : Int := max (mgn l (bstI l) l.length) 0
theorem rest_at {l : List Int} {b i : Nat} (hb : b < l.length) : at_ (l.take b ++ l.drop (b + 1)) i = if i < b then at_ l i else at_ l (i + 1) := by
  by_cases h : i < b
  · rw [if_pos h, at_left (by simp; omega)]; simp [at_, h]
  · rw [if_neg h]
    simp only [at_, List.getD_eq_getElem?_getD, List.getElem?_append, List.length_take, List.getElem?_drop]
    rw [if_neg (by omega), show b + 1 + (i - min b l.length) = i + 1 from by omega]
/-- The margin by the greatest of the others. -/
theorem mg_some {l : List Int} {M : Int} (h : 2 ≤ l.length) (hm : ∃ j, j < (l.take (bstI l).toNat ++ l.drop ((bstI l).toNat + 1)).length ∧ at_ (l.take (bstI l).toNat ++ l.drop ((bstI l).toNat + 1)) j = M) (hx : ∀ j, j < (l.take (bstI l).toNat ++ l.drop ((bstI l).toNat + 1)).length → at_ (l.take (bstI l).toNat ++ l.drop ((bstI l).toNat + 1)) j ≤ M) : at_ l (bstI l).toNat - M = mgI l := by
  obtain ⟨j9, hj9, e9⟩ := hm
  have hi := bstI_in (l := l) (by clear e9 hx hj9; omega)
  have hlen : (l.take (bstI l).toNat ++ l.drop ((bstI l).toNat + 1)).length = l.length - 1 := by clear e9 hx hj9; simp; omega
  rw [hlen] at hj9 hx
  have hb : (bstI l).toNat < l.length := by omega
  have hx' : ∀ j : Nat, j < l.length → (j : Int) ≠ bstI l → at_ l j ≤ M := fun j hj hn => by
    by_cases e : j < (bstI l).toNat
    · have := hx j (by omega)
      rw [rest_at hb, if_pos e] at this; exact this
    · have := hx (j - 1) (by omega)
      rw [rest_at hb, if_neg (by omega), show j - 1 + 1 = j from by omega] at this; exact this
  have hm' : ∃ j : Nat, j < l.length ∧ (j : Int) ≠ bstI l ∧ at_ l j = M := by
    rw [rest_at hb] at e9
    split at e9
    · exact ⟨j9, by omega, by omega, e9⟩
    · exact ⟨j9 + 1, by omega, by omega, e9⟩
  obtain ⟨j, a1, a2, a3⟩ := hm'
  have hk := mgn_ok (l := l) (b := bstI l) (fun j hj => bstI_ge hj) l.length (Nat.le_refl _)
  unfold mgI
  rcases hk with hk | hk
  · exact absurd (hk.2 j a1) a2
  · obtain ⟨i, b1, b2, b3⟩ := hk.2.1
    have c1 := hk.2.2 j a1 a2
    have c2 := hx' i b1 b2
    omega
theorem mg_none {l : List Int} (h : l.length = 1) : mgI l = 0 := by
  have hk := mgn_ok (l := l) (b := bstI l) (fun j hj => bstI_ge hj) l.length (Nat.le_refl _)
  have hi := bstI_in (l := l) (by omega)
  unfold mgI
  rcases hk with hk | hk
  · rw [hk.1]; rfl
  · obtain ⟨i, b1, b2, b3⟩ := hk.2.1
    omega
/-- What is told of features. -/
def clsR (p : Perceptron) (fs : List Feat) : (ByteArray × Int) × Int := if okPerc p = true ∧ okFeats fs 384 = true then ((at_ p.Labels (bstI (scR p.Weights (inpR fs))).toNat, mgI (scR p.Weights (inpR fs))), 0) else ((⟨#[]⟩, 0), 1)
def scoR (p : Perceptron) (fs : List Feat) : List Int × Int := if okPerc p = true ∧ okFeats fs 384 = true then (scR p.Weights (inpR fs), 0) else ([], 1)
theorem scoR_yes {p : Perceptron} {fs : List Feat} (h1 : okPerc p = true) (h2 : okFeats fs 384 = true) : scoR p fs = (scR p.Weights (inpR fs), 0) := if_pos ⟨h1, h2⟩
theorem scoR_n1 {p : Perceptron} {fs : List Feat} (h1 : okPerc p = false) : scoR p fs = ([], 1) := if_neg fun h => by rw [h1] at h; cases h.1
theorem scoR_n2 {p : Perceptron} {fs : List Feat} (h1 : okFeats fs 384 = false) : scoR p fs = ([], 1) := if_neg fun h => by rw [h1] at h; cases h.2
theorem clsR_yes {p : Perceptron} {fs : List Feat} (h1 : okPerc p = true) (h2 : okFeats fs 384 = true) : clsR p fs = ((at_ p.Labels (bstI (scR p.Weights (inpR fs))).toNat, mgI (scR p.Weights (inpR fs))), 0) := if_pos ⟨h1, h2⟩
theorem clsR_n1 {p : Perceptron} {fs : List Feat} (h1 : okPerc p = false) : clsR p fs = ((⟨#[]⟩, 0), 1) := if_neg fun h => by rw [h1] at h; cases h.1
theorem clsR_n2 {p : Perceptron} {fs : List Feat} (h1 : okFeats fs 384 = false) : clsR p fs = ((⟨#[]⟩, 0), 1) := if_neg fun h => by rw [h1] at h; cases h.2
def newR (ls : List ByteArray) : Perceptron × Int := if okLabels ls = true then (⟨ls, List.replicate ls.length (List.replicate 25 0)⟩, 0) else (⟨[], []⟩, 1)
def inoR (fs : List Feat) : List Int × Int := if okFeats fs 384 = true then (inpR fs, 0) else ([], 1)
def sameP (a b : Perceptron) : Bool := sameL a.Labels b.Labels && (decide (a.Weights.length = b.Weights.length) && allN a.Weights.length (fun j => sameL (at_ a.Weights j) (at_ b.Weights j)))
theorem sameP_refl (a : Perceptron) : sameP a a = true := by simp [sameP, sameL_refl, allN_iff]

/-- m is the greatest of the first k numbers. -/
def isMx (l : List Int) (k : Int) (m : Int) : Prop := (∃ j : Nat, (j : Int) < k ∧ at_ l j = m) ∧ ∀ j : Nat, (j : Int) < k → at_ l j ≤ m
theorem isMx_1 (l : List Int) : isMx l 1 (at_ l 0) := ⟨⟨0, by decide, rfl⟩, fun j hj => by rw [show j = 0 from by omega]; exact Int.le_refl _⟩
theorem isMx_next {l : List Int} {k m : Int} (h0 : 0 ≤ k) (h : isMx l k m) : isMx l (k + 1) (max m (at_ l k.toNat)) := by
  obtain ⟨⟨j, h1, h2⟩, h3⟩ := h
  refine ⟨?_, fun i hi => ?_⟩
  · by_cases e : at_ l k.toNat ≤ m
    · exact ⟨j, by omega, by omega⟩
    · exact ⟨k.toNat, by omega, by omega⟩
  · by_cases e : i = k.toNat
    · subst e; omega
    · have := h3 i (by omega); omega
theorem bst_win {l : List Int} {M : Int} (h : 1 ≤ l.length) (hm : isMx l l.length M) : firstN l.length (fun j => decide (at_ l j = M)) = bstI l := by
  obtain ⟨⟨j, h1, h2⟩, h3⟩ := hm
  exact bst_first h ⟨j, by omega, h2⟩ fun i hi => h3 i (by omega)
theorem mg_mx {l : List Int} {M : Int} (h : 2 ≤ l.length) (hm : isMx (l.take (bstI l).toNat ++ l.drop ((bstI l).toNat + 1)) (l.take (bstI l).toNat ++ l.drop ((bstI l).toNat + 1)).length M) : at_ l (bstI l).toNat - M = mgI l := by
  obtain ⟨⟨j, h1, h2⟩, h3⟩ := hm
  exact mg_some h ⟨j, by omega, h2⟩ fun i hi => h3 i (by omega)

theorem okPerc_mk {ls : List ByteArray} {W : List (List Int)} (h1 : okLabels ls = true) (h2 : W.length = ls.length) (h3 : okRows W = true) : okPerc ⟨ls, W⟩ = true := okPerc_iff.2 ⟨h1, h2, h3⟩

theorem inp_ok {v : List Int} {feats : List Feat} (h : okFeats feats 384 = true) (e : v = inpR feats) : (∀ i, 0 ≤ at_ v i ∧ at_ v i ≤ 512) ∧ v.length = 25 := by rw [e]; exact ⟨inpR_bd (fs := feats) (okFeats_n h).1, inpR_len feats⟩

/-- Two rows after the first k numbers of an input. -/
def updW (W : List (List Int)) (x : List Int) (w g : Nat) : Nat → List (List Int)
  | 0 => W
  | k + 1 => ((updW W x w g k).set w ((at_ (updW W x w g k) w).set k (at_ (at_ (updW W x w g k) w) k + at_ x k))).set g ((at_ ((updW W x w g k).set w ((at_ (updW W x w g k) w).set k (at_ (at_ (updW W x w g k) w) k + at_ x k))) g).set k (at_ (at_ ((updW W x w g k).set w ((at_ (updW W x w g k) w).set k (at_ (at_ (updW W x w g k) w) k + at_ x k))) g) k - at_ x k))
theorem updW_1 {W : List (List Int)} {x : List Int} {w g : Nat} {k : Int} (h : 0 ≤ k) : updW W x w g (k + 1).toNat = ((updW W x w g k.toNat).set w ((at_ (updW W x w g k.toNat) w).set k.toNat (at_ (at_ (updW W x w g k.toNat) w) k.toNat + at_ x k.toNat))).set g ((at_ ((updW W x w g k.toNat).set w ((at_ (updW W x w g k.toNat) w).set k.toNat (at_ (at_ (updW W x w g k.toNat) w) k.toNat + at_ x k.toNat))) g).set k.toNat (at_ (at_ ((updW W x w g k.toNat).set w ((at_ (updW W x w g k.toNat) w).set k.toNat (at_ (at_ (updW W x w g k.toNat) w) k.toNat + at_ x k.toNat))) g) k.toNat - at_ x k.toNat)) := by
  have : (k + 1).toNat = k.toNat + 1 := by omega
  rw [this]; rfl
theorem updW_len (W : List (List Int)) (x : List Int) (w g : Nat) : ∀ k, (updW W x w g k).length = W.length
  | 0 => rfl
  | k + 1 => by simp only [updW, List.length_set]; exact updW_len W x w g k
theorem set_row_len {V : List (List Int)} {a : Nat} {r : List Int} (h : r.length = (at_ V a).length) (j : Nat) : (at_ (V.set a r) j).length = (at_ V j).length := by
  rw [at_set]
  split
  · rename_i h2; rw [h2.1]; exact h
  · rfl
theorem updW_row (W : List (List Int)) (x : List Int) (w g : Nat) : ∀ k j, (at_ (updW W x w g k) j).length = (at_ W j).length
  | 0, _ => rfl
  | k + 1, j => (set_row_len (by rw [List.length_set]) j).trans ((set_row_len (by rw [List.length_set]) j).trans (updW_row W x w g k j))
theorem updW_at {W : List (List Int)} {x : List Int} {w g : Nat} (hw : w < W.length) (hg : g < W.length) (hne : w ≠ g) (hl : ∀ j, j < W.length → (at_ W j).length = 25) : ∀ k, k ≤ 25 → ∀ j i, at_ (at_ (updW W x w g k) j) i = at_ (at_ W j) i + (if i < k then (if j = w then at_ x i else if j = g then - at_ x i else 0) else 0)
  | 0, _, j, i => by simp [updW]
  | k + 1, hk, j, i => by
    have ih := updW_at (x := x) hw hg hne hl k (by omega)
    have hL := updW_len W x w g k
    have hR := updW_row W x w g k
    have h1 := ih j i
    simp only [updW, at_set, List.length_set, hL, hR]
    have hne' : ¬ g = w := fun e => hne e.symm
    by_cases e1 : j = g
    · subst e1
      have e1' : ¬ j = w := hne'
      simp only [e1', hg, hw, hl j hg, false_and, if_false, and_self, if_true, at_set, hR, true_and]
      by_cases e2 : i = k
      · subst e2
        rw [if_pos ⟨rfl, by omega⟩, ih j i, if_neg (by omega), if_pos (by omega)]; omega
      · rw [if_neg (fun h => e2 h.1), h1]
        simp only [e1', if_false, if_true]
        by_cases e3 : i < k
        · rw [if_pos e3, if_pos (by omega)]
        · rw [if_neg e3, if_neg (by omega)]
    · by_cases e4 : j = w
      · subst e4
        simp only [e1, hw, hl j hw, false_and, if_false, and_self, if_true, at_set, hR, true_and]
        by_cases e2 : i = k
        · subst e2
          rw [if_pos ⟨rfl, by omega⟩, ih j i, if_neg (by omega), if_pos (by omega)]; simp
        · rw [if_neg (fun h => e2 h.1), h1]
          simp only [if_true]
          by_cases e3 : i < k
          · rw [if_pos e3, if_pos (by omega)]
          · rw [if_neg e3, if_neg (by omega)]
      · simp only [e1, e4, false_and, if_false]
        rw [h1]; simp only [e1, e4, if_false, ite_self]
def fndL (ls : List ByteArray) (l : ByteArray) : Int := firstN ls.length fun j => decide (at_ ls j = l)
theorem fndL_in {ls : List ByteArray} {l : ByteArray} (h : l ∈ ls) : 0 ≤ fndL ls l ∧ fndL ls l < (ls.length : Int) := by
  unfold fndL
  rcases firstN_cases ls.length (fun j => decide (at_ ls j = l)) with ⟨_, h2⟩ | ⟨k, h1, h2, _⟩
  · obtain ⟨j, hj, e⟩ := List.getElem_of_mem h
    have := h2 j hj
    rw [at_eq hj, decide_eq_false_iff_not] at this
    exact absurd e this
  · omega
/-- A perceptron after a sample. -/
def stepR (p : Perceptron) (s : Sample) : Perceptron × Bool × Int := if bstI (scR p.Weights (inpR s.Feats)) = fndL p.Labels s.Label then (p, false, 0) else if okPerc ⟨p.Labels, updW p.Weights (inpR s.Feats) (fndL p.Labels s.Label).toNat (bstI (scR p.Weights (inpR s.Feats))).toNat 25⟩ = true then (⟨p.Labels, updW p.Weights (inpR s.Feats) (fndL p.Labels s.Label).toNat (bstI (scR p.Weights (inpR s.Feats))).toNat 25⟩, true, 0) else (⟨[], []⟩, false, 5)
theorem step_a {p : Perceptron} {s : Sample} (h : bstI (scR p.Weights (inpR s.Feats)) = fndL p.Labels s.Label) : stepR p s = (p, false, 0) := if_pos h
theorem step_b {p : Perceptron} {s : Sample} (h : ¬ bstI (scR p.Weights (inpR s.Feats)) = fndL p.Labels s.Label) (h2 : okPerc ⟨p.Labels, updW p.Weights (inpR s.Feats) (fndL p.Labels s.Label).toNat (bstI (scR p.Weights (inpR s.Feats))).toNat 25⟩ = true) : stepR p s = (⟨p.Labels, updW p.Weights (inpR s.Feats) (fndL p.Labels s.Label).toNat (bstI (scR p.Weights (inpR s.Feats))).toNat 25⟩, true, 0) := by unfold stepR; rw [if_neg h, if_pos h2]
theorem step_c {p : Perceptron} {s : Sample} (h : ¬ bstI (scR p.Weights (inpR s.Feats)) = fndL p.Labels s.Label) (h2 : ¬ okPerc ⟨p.Labels, updW p.Weights (inpR s.Feats) (fndL p.Labels s.Label).toNat (bstI (scR p.Weights (inpR s.Feats))).toNat 25⟩ = true) : stepR p s = (⟨[], []⟩, false, 5) := by unfold stepR; rw [if_neg h, if_neg h2]
def rowsB (W : List (List Int)) (B : Int) : Prop := ∀ j i, -B ≤ at_ (at_ W j) i ∧ at_ (at_ W j) i ≤ B
theorem rows_ok {W : List (List Int)} {B : Int} (hl : ∀ j, j < W.length → (at_ W j).length = 25) (hb : rowsB W B) (hB : B ≤ 1000000) : okRows W = true := allN_at fun j hj => okRow_iff.2 ⟨hl j hj, fun k _ => by have := hb j k; omega⟩
theorem step_in {p : Perceptron} {s : Sample} (hp : okPerc p = true) (hs : s.Label ∈ p.Labels) : (0 ≤ fndL p.Labels s.Label ∧ fndL p.Labels s.Label < (p.Weights.length : Int)) ∧ 0 ≤ bstI (scR p.Weights (inpR s.Feats)) ∧ bstI (scR p.Weights (inpR s.Feats)) < (p.Weights.length : Int) := by
  obtain ⟨h1, h2, h3⟩ := okPerc_iff.1 hp
  have a := fndL_in hs
  have b := bstI_in (l := scR p.Weights (inpR s.Feats)) (by rw [scR_len]; have := okLabels_n h1; omega)
  rw [scR_len] at b
  omega
theorem stp_ok {p : Perceptron} {s : Sample} (hp : okPerc p = true) (h : (stepR p s).2.2 = 0) : okPerc (stepR p s).1 = true ∧ (stepR p s).1.Labels = p.Labels := by
  by_cases h1 : bstI (scR p.Weights (inpR s.Feats)) = fndL p.Labels s.Label
  · rw [step_a h1]; exact ⟨hp, rfl⟩
  · by_cases h2 : okPerc ⟨p.Labels, updW p.Weights (inpR s.Feats) (fndL p.Labels s.Label).toNat (bstI (scR p.Weights (inpR s.Feats))).toNat 25⟩ = true
    · rw [step_b h1 h2]; exact ⟨h2, rfl⟩
    · rw [step_c h1 h2] at h; cases h
theorem step_bd {p : Perceptron} {s : Sample} {B : Int} (hp : okPerc p = true) (hs : s.Label ∈ p.Labels) (hf : okFeats s.Feats 384 = true) (hB : rowsB p.Weights B) (h0 : 0 ≤ B) (hm : B ≤ 999000) : (stepR p s).2.2 = 0 ∧ rowsB (stepR p s).1.Weights (B + 512) := by
  obtain ⟨q1, q2, q3⟩ := okPerc_iff.1 hp
  have hx := inpR_bd (fs := s.Feats) (okFeats_n hf).1
  by_cases h1 : bstI (scR p.Weights (inpR s.Feats)) = fndL p.Labels s.Label
  · rw [step_a h1]; exact ⟨rfl, fun j i => by have := hB j i; show -(B + 512) ≤ at_ (at_ p.Weights j) i ∧ at_ (at_ p.Weights j) i ≤ B + 512; omega⟩
  · have hi := step_in hp hs
    have hat := updW_at (W := p.Weights) (x := inpR s.Feats) (w := (fndL p.Labels s.Label).toNat) (g := (bstI (scR p.Weights (inpR s.Feats))).toNat) (by omega) (by omega) (by omega) (fun j hj => (okRows_at q3 hj).1) 25 (Nat.le_refl _)
    have hb : rowsB (updW p.Weights (inpR s.Feats) (fndL p.Labels s.Label).toNat (bstI (scR p.Weights (inpR s.Feats))).toNat 25) (B + 512) := by
      intro j i
      have e := hat j i
      have b1 := hB j i
      have b2 := hx i
      generalize at_ (at_ (updW p.Weights (inpR s.Feats) (fndL p.Labels s.Label).toNat (bstI (scR p.Weights (inpR s.Feats))).toNat 25) j) i = z at e ⊢
      generalize at_ (inpR s.Feats) i = y at e b2
      rw [e]
      split <;> (try split) <;> (try split) <;> omega
    have hl := updW_len p.Weights (inpR s.Feats) (fndL p.Labels s.Label).toNat (bstI (scR p.Weights (inpR s.Feats))).toNat 25
    have hr := updW_row p.Weights (inpR s.Feats) (fndL p.Labels s.Label).toNat (bstI (scR p.Weights (inpR s.Feats))).toNat 25
    have h3 := step_b h1
    generalize updW p.Weights (inpR s.Feats) (fndL p.Labels s.Label).toNat (bstI (scR p.Weights (inpR s.Feats))).toNat 25 = V at hl hr hb h3
    have h2 : okPerc ⟨p.Labels, V⟩ = true := okPerc_mk q1 (hl.trans q2) (rows_ok (fun j hj => (hr j).trans (okRows_at q3 (hl ▸ hj)).1) hb (by omega))
    rw [h3 h2]
    exact ⟨rfl, hb⟩
/-- A perceptron after the first k samples. -/
def epR (p : Perceptron) (list : List Sample) : Nat → Perceptron × Int × Int
  | 0 => (p, 0, 0)
  | k + 1 => if (epR p list k).2.2 = 0 then (if (stepR (epR p list k).1 (at_ list k)).2.2 = 0 then ((stepR (epR p list k).1 (at_ list k)).1, (epR p list k).2.1 + (if (stepR (epR p list k).1 (at_ list k)).2.1 = true then 1 else 0), 0) else (⟨[], []⟩, 0, (stepR (epR p list k).1 (at_ list k)).2.2)) else epR p list k
theorem epR_go {p q : Perceptron} {list : List Sample} {k n : Int} (h0 : 0 ≤ k) (h : epR p list k.toNat = (q, n, 0)) (hs : (stepR q (at_ list k.toNat)).2.2 = 0) : epR p list (k + 1).toNat = ((stepR q (at_ list k.toNat)).1, n + (if (stepR q (at_ list k.toNat)).2.1 = true then 1 else 0), 0) := by
  have e : (k + 1).toNat = k.toNat + 1 := by omega
  rw [e, epR, h, if_pos rfl, if_pos hs]
theorem epR_stop {p q : Perceptron} {list : List Sample} {n : Int} {k m : Nat} (h : epR p list k = (q, n, 0)) (hs : ¬ (stepR q (at_ list k)).2.2 = 0) (hm : k < m) : epR p list m = (⟨[], []⟩, 0, (stepR q (at_ list k)).2.2) := by
  induction m with
  | zero => omega
  | succ m ih =>
    by_cases e : k = m
    · subst e; rw [epR, h, if_pos rfl, if_neg hs]
    · have := ih (by omega)
      rw [epR, this, if_neg hs]
theorem ep_ok {p : Perceptron} {list : List Sample} (hp : okPerc p = true) : ∀ k, (epR p list k).2.2 = 0 → okPerc (epR p list k).1 = true ∧ (epR p list k).1.Labels = p.Labels
  | 0, _ => ⟨hp, rfl⟩
  | k + 1, h => by
    by_cases h1 : (epR p list k).2.2 = 0
    · obtain ⟨a, b⟩ := ep_ok hp k h1
      by_cases h2 : (stepR (epR p list k).1 (at_ list k)).2.2 = 0
      · have := stp_ok a h2
        rw [epR, if_pos h1, if_pos h2]
        exact ⟨this.1, this.2.trans b⟩
      · rw [epR, if_pos h1, if_neg h2] at h; exact absurd h h2
    · rw [epR, if_neg h1] at h; exact absurd h h1
theorem ep_bd {p : Perceptron} {list : List Sample} (hp : okPerc p = true) (hl : ∀ j, j < list.length → (at_ list j).Label ∈ p.Labels ∧ okFeats (at_ list j).Feats 384 = true) (h8 : list.length ≤ 100) (h0 : rowsB p.Weights 0) : ∀ k, k ≤ list.length → (epR p list k).2.2 = 0 ∧ rowsB (epR p list k).1.Weights (512 * (k : Int))
  | 0, _ => ⟨rfl, h0⟩
  | k + 1, hk => by
    obtain ⟨a, b⟩ := ep_bd hp hl h8 h0 k (by omega)
    have c := ep_ok (list := list) hp k a
    have d := hl k (by omega)
    have e := step_bd (s := at_ list k) c.1 (by rw [c.2]; exact d.1) d.2 b (by omega) (by omega)
    rw [epR, if_pos a, if_pos e.1]
    refine ⟨rfl, ?_⟩
    have e2 := e.2
    intro j i
    have := e2 j i
    show -(512 * ((k + 1 : Nat) : Int)) ≤ at_ (at_ (stepR (epR p list k).1 (at_ list k)).1.Weights j) i ∧ at_ (at_ (stepR (epR p list k).1 (at_ list k)).1.Weights j) i ≤ 512 * ((k + 1 : Nat) : Int)
    omega
theorem new_ok {ls : List ByteArray} (h : okLabels ls = true) : okPerc ⟨ls, List.replicate ls.length (List.replicate 25 0)⟩ = true := by
  refine okPerc_iff.2 ⟨h, by simp, allN_at fun j hj => okRow_iff.2 ?_⟩
  have hj' : j < ls.length := by simpa using hj
  have e : at_ (List.replicate ls.length (List.replicate 25 (0 : Int))) j = List.replicate 25 0 := by rw [at_eq hj]; simp
  show (at_ (List.replicate ls.length (List.replicate 25 (0 : Int))) j).length = 25 ∧ ∀ k, k < 25 → -1000000 ≤ at_ (at_ (List.replicate ls.length (List.replicate 25 (0 : Int))) j) k ∧ at_ (at_ (List.replicate ls.length (List.replicate 25 (0 : Int))) j) k ≤ 1000000
  rw [e]
  exact ⟨rfl, fun k hk => by rw [at_rep]; omega⟩
theorem new_bd (n : Nat) : rowsB (List.replicate n (List.replicate 25 0)) 0 := fun j i => by
  by_cases h : j < n
  · rw [show at_ (List.replicate n (List.replicate 25 (0 : Int))) j = List.replicate 25 0 from by rw [at_eq (by simpa using h)]; simp, at_rep]; omega
  · rw [show at_ (List.replicate n (List.replicate 25 (0 : Int))) j = [] from by unfold at_; rw [List.getD_eq_getElem?_getD, List.getElem?_eq_none (by simp; omega)]; rfl]
    rw [at_out (Nat.zero_le _)]; omega

theorem okP_sz {p : Perceptron} (h : okPerc p = true) : ∀ y ∈ p.Labels, y.size ≤ 9223372036854775807 := fun y hy => by
  obtain ⟨j, hj, e⟩ := List.getElem_of_mem hy
  have := okLabels_at (okPerc_iff.1 h).1 hj
  rw [at_eq hj, e] at this
  simp only [okLabel, Bool.and_eq_true, decide_eq_true_eq] at this
  omega
theorem okP_bd {p : Perceptron} (h : okPerc p = true) : (p.Labels.length ≤ 100 ∧ p.Weights.length ≤ 100) ∧ ∀ j, j < p.Weights.length → (at_ p.Weights j).length ≤ 100 := by
  obtain ⟨h1, h2, h3⟩ := okPerc_iff.1 h
  have := okLabels_n h1
  exact ⟨by omega, fun j hj => by have := (okRows_at h3 hj).1; omega⟩
theorem okP_n {p : Perceptron} (h : okPerc p = true) : 1 ≤ p.Labels.length ∧ p.Labels.length ≤ 12 ∧ p.Weights.length = p.Labels.length := by
  obtain ⟨h1, h2, h3⟩ := okPerc_iff.1 h
  have := okLabels_n h1
  omega
theorem upd_bd {p : Perceptron} {x : List Int} {w g : Nat} (h : okPerc p = true) (hx : ∀ i, 0 ≤ at_ x i ∧ at_ x i ≤ 512) (hw : w < p.Weights.length) (hg : g < p.Weights.length) (hne : w ≠ g) {k : Nat} (hk : k ≤ 25) {j i : Nat} (hj : j < p.Weights.length) (hi : i < 25) : -1000512 ≤ at_ (at_ (updW p.Weights x w g k) j) i ∧ at_ (at_ (updW p.Weights x w g k) j) i ≤ 1000512 := by
  have h3 := (okPerc_iff.1 h).2.2
  have e := updW_at (W := p.Weights) (x := x) hw hg hne (fun j hj => (okRows_at h3 hj).1) k hk j i
  have a := (okRows_at h3 hj).2 i hi
  have b := hx i
  rw [e]
  split <;> (try split) <;> (try split) <;> omega

theorem rep_1 {α : Type} {x : α} {i : Int} (h : 0 ≤ i) : List.replicate (i + 1).toNat x = List.replicate i.toNat x ++ [x] := by
  rw [show (i + 1).toNat = i.toNat + 1 from by omega, List.replicate_succ']
theorem newR_yes {ls : List ByteArray} (h : okLabels ls = true) : newR ls = (⟨ls, List.replicate ls.length (List.replicate 25 0)⟩, 0) := if_pos h
theorem newR_no {ls : List ByteArray} (h : ¬ okLabels ls = true) : newR ls = (⟨[], []⟩, 1) := if_neg h

theorem cat_one {α : Type} [Inhabited α] {enc : α → List AV} {x : α} {xs : List α} {g : Nat → List AV} (hx : g 0 = enc x) (i : Nat) (hi : i < ([x] ++ xs).length) : catF 1 g (fun i => enc (at_ xs i)) i = enc (at_ ([x] ++ xs) i) := by
  cases i with
  | zero => rw [catF_lt (by decide), hx]; rfl
  | succ i => rw [catF_ge (by omega), at_right (by simp)]; simp

/-- The string with these bytes. -/
def strB (xs : List Int) : ByteArray := ⟨(xs.map fun n => UInt8.ofNat n.toNat).toArray⟩
theorem strB_size (xs : List Int) : (strB xs).size = xs.length := by simp [strB, ByteArray.size]
theorem strB_at {xs : List Int} {i : Nat} (h : i < xs.length) (hb : 0 ≤ at_ xs i ∧ at_ xs i ≤ 255) : bAt (strB xs) i = at_ xs i := by
  have e : (strB xs).data.toList[i]? = some (UInt8.ofNat (at_ xs i).toNat) := by simp [strB, at_, List.getElem?_eq_getElem h]
  rw [bAt, List.getD_eq_getElem?_getD, e]
  simp
  omega
theorem strB_ok' {xs : List Int} (h : ∀ x ∈ xs, 0 ≤ x ∧ x ≤ 255) {n : Nat} {f : Nat → List AV} (hn : n = xs.length) (hf : ∀ i, i < xs.length → f i = fU8 xs i ∨ False) : (strB xs).size = n ∧ ∀ i, i < n → f i = byteF (strB xs) i := by
  subst hn
  refine ⟨strB_size xs, fun i hi => ?_⟩
  rw [(hf i hi).resolve_right id]
  unfold byteF
  rw [strB_at hi (h _ (at_mem hi))]
  rfl
theorem strB_ok {xs : List Int} (h : ∀ x ∈ xs, 0 ≤ x ∧ x ≤ 255) : (strB xs).size = xs.length ∧ ∀ i, i < xs.length → fU8 xs i = byteF (strB xs) i := strB_ok' h rfl fun i _ => .inl rfl
/-- A string's bytes. -/
def bytesL (s : ByteArray) : List Int := s.data.toList.map fun b => (b.toNat : Int)
theorem bytesL_len (s : ByteArray) : (bytesL s).length = s.size := by unfold bytesL; rw [List.length_map, Array.length_toList]; rfl
theorem bytesL_at {s : ByteArray} (i : Nat) (h : i < (bytesL s).length) : byteF s i = fU8 (bytesL s) i := by
  unfold byteF fU8 cU8
  have h' : i < s.data.toList.length := by simpa [bytesL] using h
  congr 3
  simp only [bAt, at_, bytesL, List.getD_eq_getElem?_getD, List.getElem?_map, List.getElem?_eq_getElem h', Option.map_some, Option.getD_some]

def labs6 : List ByteArray := [⟨#[49]⟩, ⟨#[55]⟩, ⟨#[97]⟩, ⟨#[98]⟩, ⟨#[99]⟩, ⟨#[120]⟩]
theorem sl_byte (a b : UInt8) (h : decide (a < b) = true) : sless ⟨#[a]⟩ ⟨#[b]⟩ = true := by
  unfold sless
  rw [ByteArray.toList_eq, ByteArray.toList_eq]
  show (decide (a < b) || _) = true
  rw [h]; rfl
theorem labs6_ok : okLabels labs6 = true := by
  rw [okLabels_go (fun j hj => ?_)]
  · rfl
  · have : j = 0 ∨ j = 1 ∨ j = 2 ∨ j = 3 ∨ j = 4 ∨ j = 5 := by have : labs6.length = 6 := rfl; omega
    rcases this with e | e | e | e | e | e <;> subst e
    · exact labOk_yes (ls := labs6) (i := 0) (by decide) (by decide) (.inl (by decide))
    · exact labOk_yes (ls := labs6) (i := 1) (by decide) (by decide) (.inr (sl_byte 49 55 (by decide)))
    · exact labOk_yes (ls := labs6) (i := 2) (by decide) (by decide) (.inr (sl_byte 55 97 (by decide)))
    · exact labOk_yes (ls := labs6) (i := 3) (by decide) (by decide) (.inr (sl_byte 97 98 (by decide)))
    · exact labOk_yes (ls := labs6) (i := 4) (by decide) (by decide) (.inr (sl_byte 98 99 (by decide)))
    · exact labOk_yes (ls := labs6) (i := 5) (by decide) (by decide) (.inr (sl_byte 99 120 (by decide)))
theorem sub_yes {α : Type} [Inhabited α] {out xs : List α} {i : Int} (h : out.Sublist (xs.take i.toNat)) (h0 : 0 ≤ i) (hi : i.toNat < xs.length) : (out ++ [at_ xs i.toNat]).Sublist (xs.take (i + 1).toNat) := by
  rw [show (i + 1).toNat = i.toNat + 1 from by omega, take_snoc' hi]
  exact h.append (List.Sublist.refl _)
theorem sub_no {α : Type} [Inhabited α] {out xs : List α} {i : Int} (h : out.Sublist (xs.take i.toNat)) (h0 : 0 ≤ i) (hi : i.toNat < xs.length) : out.Sublist (xs.take (i + 1).toNat) := by
  rw [show (i + 1).toNat = i.toNat + 1 from by omega, take_snoc' hi]
  exact h.trans (List.sublist_append_left _ _)
theorem okLabels_pw {ls : List ByteArray} (h : okLabels ls = true) : (∀ l ∈ ls, okLabel l = true) ∧ ls.Pairwise fun a b => sless a b = true := by
  refine ⟨fun l hl => ?_, ?_⟩
  · obtain ⟨j, hj, e⟩ := List.getElem_of_mem hl
    rw [← e, ← at_eq hj]; exact okLabels_at h hj
  · rw [List.pairwise_iff_getElem]
    have step : ∀ k, k + 1 < ls.length → sless (at_ ls k) (at_ ls (k + 1)) = true := fun k hk => by
      simp only [okLabels, Bool.and_eq_true] at h
      have := allN_get h.1 hk
      unfold labOk at this
      simp only [Bool.and_eq_true, Bool.or_eq_true, decide_eq_true_eq] at this
      rcases this.2 with q | q
      · omega
      · exact q
    have all : ∀ d i, i + d + 1 < ls.length → sless (at_ ls i) (at_ ls (i + d + 1)) = true := fun d => by
      induction d with
      | zero => intro i hi; exact step i hi
      | succ d ih => intro i hi; exact sl_trans (ih i (by omega)) (step (i + d + 1) (by omega))
    intro i j hi hj hij
    have := all (j - i - 1) i (by omega)
    rw [show i + (j - i - 1) + 1 = j from by omega] at this
    rw [← at_eq hi, ← at_eq hj]; exact this
theorem okLabels_of {ls : List ByteArray} (h1 : ∀ l ∈ ls, okLabel l = true) (h2 : ls.Pairwise fun a b => sless a b = true) (h3 : 1 ≤ ls.length ∧ ls.length ≤ 12) : okLabels ls = true := by
  rw [okLabels_go (fun j hj => ?_)]
  · exact decide_eq_true (by omega)
  · unfold labOk
    rw [h1 _ (at_mem hj), Bool.true_and, Bool.or_eq_true, decide_eq_true_eq]
    by_cases e : j = 0
    · exact .inl e
    · right
      have := List.pairwise_iff_getElem.1 h2 (j - 1) j (by omega) hj (by omega)
      rw [at_eq hj, at_eq (show j - 1 < ls.length by omega)]; exact this
theorem sub_labels {v : List ByteArray} (h : v.Sublist labs6) (hn : 1 ≤ v.length) : okLabels v = true := by
  have hp := okLabels_pw labs6_ok
  have hl := h.length_le
  exact okLabels_of (fun l hl => hp.1 l (h.subset hl)) (hp.2.sublist h) ⟨hn, by have : labs6.length = 6 := rfl; omega⟩
def okSm (ls : List ByteArray) (x : Sample) : Prop := x.Label ∈ ls ∧ okFeats x.Feats 384 = true
theorem okFeats_of {fs : List Feat} (h1 : ∀ f ∈ fs, okF f = true) (h2 : 1 ≤ fs.length ∧ (fs.length : Int) ≤ 384) : okFeats fs 384 = true := by
  unfold okFeats
  rw [decide_eq_true (by omega), allN_at (fun j hj => h1 _ (at_mem hj))]; rfl
theorem okF_mk {x y d : Int} (hx : 0 ≤ x ∧ x ≤ 255) (hy : 0 ≤ y ∧ y ≤ 255) (hd : 0 ≤ d ∧ d ≤ 7) : okF ⟨x, y, d⟩ = true := okF_iff.2 ⟨hx, hy, hd⟩
theorem all_snoc9 {α : Type} {P : α → Prop} {xs : List α} {x : α} (h : ∀ y ∈ xs, P y) (hx : P x) : ∀ y ∈ xs ++ [x], P y := by
  intro y hy
  rcases List.mem_append.1 hy with h1 | h1
  · exact h y h1
  · simp at h1; subst h1; exact hx
theorem ep_new {ls : List ByteArray} {list : List Sample} (h : okLabels ls = true) (hl : ∀ x ∈ list, okSm ls x) (hn : list.length ≤ 100) : (epR (newR ls).1 list list.length).2.2 = 0 ∧ okPerc (epR (newR ls).1 list list.length).1 = true ∧ (epR (newR ls).1 list list.length).1.Labels = ls := by
  rw [newR_yes h]
  have hp := new_ok h
  have hb := ep_bd (p := ⟨ls, List.replicate ls.length (List.replicate 25 0)⟩) (list := list) hp (fun j hj => hl _ (at_mem hj)) hn (new_bd _) list.length (Nat.le_refl _)
  exact ⟨hb.1, ep_ok hp _ hb.1⟩
/-- What is known of a perceptron that was drawn. -/
def drP (p : Perceptron) : Prop := p.Labels.length ≤ 20 ∧ (∀ l ∈ p.Labels, l.size ≤ 64) ∧ p.Weights.length ≤ 20
theorem okP_dr {p : Perceptron} (h : okPerc p = true) : drP p := by
  have := okP_n h
  refine ⟨by omega, fun y hy => ?_, by omega⟩
  obtain ⟨j, hj, e⟩ := List.getElem_of_mem hy
  have := okLabels_at (okPerc_iff.1 h).1 hj
  rw [at_eq hj, e] at this
  simp only [okLabel, Bool.and_eq_true, decide_eq_true_eq] at this
  omega

theorem drP_w {ls : List ByteArray} {W V : List (List Int)} (h : drP ⟨ls, W⟩) (hl : V.length ≤ W.length) : drP ⟨ls, V⟩ := ⟨h.1, h.2.1, Nat.le_trans hl h.2.2⟩
theorem drP_l {ls : List ByteArray} {W : List (List Int)} {k : Nat} {t : ByteArray} (h : drP ⟨ls, W⟩) (ht : t.size ≤ 16) : drP ⟨ls.set k t, W⟩ := by
  refine ⟨by show (ls.set k t).length ≤ 20; rw [List.length_set]; exact h.1, fun l hl => ?_, h.2.2⟩
  rcases List.mem_or_eq_of_mem_set hl with q | q
  · exact h.2.1 l q
  · rw [q]; omega

-- spec.l12DrawLabels
theorem l12DrawLabels_ok (s : l00Src) (hs : okSrc s) (ha : s.atx ≤ 3999999999999999900) : ∃ (v : List ByteArray) (s' : l00Src), (okSrc s') ∧ (s'.code = s.code) ∧ (s.atx + 0 ≤ s'.atx ∧ s'.atx ≤ s.atx + 20) ∧ (okLabels v = true) ∧ CallOK Try.prog 79 [.ref 7001 0] (lookO [(7001, bxl00Src s)]) true (slS true v) (lookO [(7001, bxl00Src s')]) := by
  have hh : ∃ r : (List ByteArray) × l00Src, ((okSrc r.2) ∧ (r.2.code = s.code) ∧ (s.atx + 0 ≤ r.2.atx ∧ r.2.atx ≤ s.atx + 20) ∧ (okLabels r.1 = true) ∧ (True)) ∧ CallOK Try.prog 79 [.ref 7001 0] (lookO [(7001, bxl00Src s)]) true (slS true r.1) (lookO [(7001, bxl00Src r.2)]) := by
    refine fn_okX (Φ := fun r : (List ByteArray) × l00Src => (okSrc r.2) ∧ (r.2.code = s.code) ∧ (s.atx + 0 ≤ r.2.atx ∧ r.2.atx ≤ s.atx + 20) ∧ (okLabels r.1 = true) ∧ (True)) [(7001, bxl00Src s)] (fun r => [(7001, bxl00Src r.2)]) (fn := Try.f79) (nt := 29) Try.func79 rfl rfl (args := [.ref 7001 0]) rfl (allcons (.inr trivial) allnil) (res := fun r => slS true r.1) ?_
    refine xR [] [0] [7001] [.ref 7001 0] [some (bxl00Src s)] [] trivial ?_
    refine xR [(0, .new 6)] [0, 3] [6, 7001] [.ref 7001 0, .arr 6] [some (.arr 1 6 (litF [Sv (⟨#[49]⟩ : ByteArray), Sv (⟨#[55]⟩ : ByteArray), Sv (⟨#[97]⟩ : ByteArray), Sv (⟨#[98]⟩ : ByteArray), Sv (⟨#[99]⟩ : ByteArray), Sv (⟨#[120]⟩ : ByteArray)] 1)), some (bxl00Src s)] [] trivial ?_
    refine xR [(0, .new 7)] [0, 3, 4] [6, 7, 7001] [.ref 7001 0, .arr 6, .arr 7] [some (.arr 1 6 (litF [Sv (⟨#[49]⟩ : ByteArray), Sv (⟨#[55]⟩ : ByteArray), Sv (⟨#[97]⟩ : ByteArray), Sv (⟨#[98]⟩ : ByteArray), Sv (⟨#[99]⟩ : ByteArray), Sv (⟨#[120]⟩ : ByteArray)] 1)), some (.arr 1 0 (litF [] 1)), some (bxl00Src s)] [] trivial ?_
    refine x_seq ?_
    refine xR [] [0, 3, 4, 5] [6, 7, 7001] [.ref 7001 0, .arr 6, .arr 7, I 0] [some (.arr 1 6 (litF [Sv (⟨#[49]⟩ : ByteArray), Sv (⟨#[55]⟩ : ByteArray), Sv (⟨#[97]⟩ : ByteArray), Sv (⟨#[98]⟩ : ByteArray), Sv (⟨#[99]⟩ : ByteArray), Sv (⟨#[120]⟩ : ByteArray)] 1)), some (.arr 1 0 (litF [] 1)), some (bxl00Src s)] [] trivial ?_
    refine x_block ?_
    refine x_weak [] (T := [(0, .ref 7001 0), (3, slS true ([(⟨#[49]⟩ : ByteArray), (⟨#[55]⟩ : ByteArray), (⟨#[97]⟩ : ByteArray), (⟨#[98]⟩ : ByteArray), (⟨#[99]⟩ : ByteArray), (⟨#[120]⟩ : ByteArray)])), (4, .arr 7), (5, I 0)]) (O := [(7, .arr 1 (([] : List ByteArray).length) (fS ([] : List ByteArray))), (7001, bxl00Src s)]) rfl (⟨.inl rfl, .inr ⟨(fun _ => rfl), rfl, (by first | rfl | (simp; done) | (simp; omega) | omega), fun i_ hi_ => .inl (match i_, hi_ with | 0, _ => rfl | 1, _ => rfl | 2, _ => rfl | 3, _ => rfl | 4, _ => rfl | 5, _ => rfl | (i + 6), h => absurd h (by simp))⟩, .inl rfl, .inl rfl, trivial⟩) (⟨.inr ⟨rfl, (by first | rfl | (simp; done) | (simp; omega) | omega), fun i_ hi_ => absurd hi_ (Nat.not_lt_zero _)⟩, .inl rfl, trivial⟩) ?_
    refine x_loop (X := (List ByteArray) × Int × l00Src) (fun x => mkS [(0, .ref 7001 0), (3, slS true ([(⟨#[49]⟩ : ByteArray), (⟨#[55]⟩ : ByteArray), (⟨#[97]⟩ : ByteArray), (⟨#[98]⟩ : ByteArray), (⟨#[99]⟩ : ByteArray), (⟨#[120]⟩ : ByteArray)])), (4, .arr 7), (5, I x.2.1)] [(7, .arr 1 x.1.length (fS x.1)), (7001, bxl00Src x.2.2)]) (fun x => (okSrc x.2.2 ∧ x.2.2.code = s.code ∧ s.atx ≤ x.2.2.atx ∧ x.2.2.atx ≤ s.atx + 2 * x.2.1) ∧ (0 ≤ x.2.1 ∧ x.2.1 ≤ 6) ∧ (x.1.Sublist (labs6.take x.2.1.toNat)) ∧ ((x.1.length : Int) ≤ x.2.1) ∧ True) (fun x => (6 - x.2.1).toNat) (([] : List ByteArray), 0, s) rfl (show (okSrc s ∧ s.code = s.code ∧ s.atx ≤ s.atx ∧ s.atx ≤ s.atx + 2 * (0 : Int)) ∧ (0 ≤ (0 : Int) ∧ (0 : Int) ≤ 6) ∧ (([] : List ByteArray).Sublist (labs6.take (0 : Int).toNat)) ∧ ((([] : List ByteArray).length : Int) ≤ (0 : Int)) ∧ True from ⟨(by exact ⟨by assumption, by first | assumption | rfl | (simp only [*]; done), by omega, by omega⟩), (by omega), (by exact List.Sublist.refl _), (by simp), trivial⟩) (fun x hI => ?_)
    obtain ⟨out, i, src⟩ := x
    obtain ⟨hs0, hi0, hsu, hol, _⟩ : (okSrc src ∧ src.code = s.code ∧ s.atx ≤ src.atx ∧ src.atx ≤ s.atx + 2 * i) ∧ (0 ≤ i ∧ i ≤ 6) ∧ (out.Sublist (labs6.take i.toNat)) ∧ ((out.length : Int) ≤ i) ∧ True := hI
    show XW _ _ _ _ (mkS [(0, .ref 7001 0), (3, slS true ([(⟨#[49]⟩ : ByteArray), (⟨#[55]⟩ : ByteArray), (⟨#[97]⟩ : ByteArray), (⟨#[98]⟩ : ByteArray), (⟨#[99]⟩ : ByteArray), (⟨#[120]⟩ : ByteArray)])), (4, .arr 7), (5, I i)] [(7, .arr 1 out.length (fS out)), (7001, bxl00Src src)]) _ _
    refine x_seq ?_
    refine x_seq ?_
    by_cases h1 : i < ((([(⟨#[49]⟩ : ByteArray), (⟨#[55]⟩ : ByteArray), (⟨#[97]⟩ : ByteArray), (⟨#[98]⟩ : ByteArray), (⟨#[99]⟩ : ByteArray), (⟨#[120]⟩ : ByteArray)]).length) : Int)
    ·have hl6 : i < 6 := h1
     refine x_r [(3, .dec true)] [0, 3, 4, 5, 11] [7, 7001] [.ref 7001 0, slS true ([(⟨#[49]⟩ : ByteArray), (⟨#[55]⟩ : ByteArray), (⟨#[97]⟩ : ByteArray), (⟨#[98]⟩ : ByteArray), (⟨#[99]⟩ : ByteArray), (⟨#[120]⟩ : ByteArray)]), .arr 7, I i, Bv true] [some (.arr 1 out.length (fS out)), some (bxl00Src src)] [i < ((([(⟨#[49]⟩ : ByteArray), (⟨#[55]⟩ : ByteArray), (⟨#[97]⟩ : ByteArray), (⟨#[98]⟩ : ByteArray), (⟨#[99]⟩ : ByteArray), (⟨#[120]⟩ : ByteArray)]).length) : Int)] ⟨h1, trivial⟩ ?_
     refine xe_then ?_
     refine x_true rfl ?_
     refine x_skip ?_
     refine xe_then ?_
     refine x_seq ?_
     refine x_block ?_
     refine x_seq ?_
     obtain ⟨v_1, s'_1, hx1_0, hx1_1, hx1_2, hc1⟩ := one_ok src 3 (by first | assumption | (simp only [okSrc] at *; simp_all; done)) (by omega)
     rcases Bool.eq_false_or_eq_true v_1 with h2 | h2
     ·subst h2
      refine x_r [(1, .lend [(7001, bxl00Src src, bxl00Src s'_1)] [] [(true, .any), (true, .any)] true (Bv true))] [0, 3, 4, 5, 16] [7, 7001] [.ref 7001 0, slS true ([(⟨#[49]⟩ : ByteArray), (⟨#[55]⟩ : ByteArray), (⟨#[97]⟩ : ByteArray), (⟨#[98]⟩ : ByteArray), (⟨#[99]⟩ : ByteArray), (⟨#[120]⟩ : ByteArray)]), .arr 7, I i, Bv false] [some (.arr 1 out.length (fS out)), some (bxl00Src s'_1)] [CallOK Try.prog 30 [.ref 7001 0, I 3] (lookO [(7001, bxl00Src src)]) true (Bv true) (lookO [(7001, bxl00Src s'_1)]) ∧ (((bxl00Src src : Ob) = bxl00Src src ∨ obLe noOb true (bxl00Src src) (bxl00Src src)) ∧ taggedO false (bxl00Src src)) ∧ True] ⟨⟨hc1, ⟨.inl rfl, (by simp [taggedO, taggedL, tagged, tagU8])⟩, trivial⟩, trivial⟩ ?_
      refine xe_then ?_
      refine x_false rfl ?_
      refine x_skip ?_
      refine xe_block 1 ?_
      refine xe_then ?_
      refine x_r [] [0, 3, 4, 5] [7, 7001] [.ref 7001 0, slS true ([(⟨#[49]⟩ : ByteArray), (⟨#[55]⟩ : ByteArray), (⟨#[97]⟩ : ByteArray), (⟨#[98]⟩ : ByteArray), (⟨#[99]⟩ : ByteArray), (⟨#[120]⟩ : ByteArray)]), .arr 7, I (i + 1)] [some (.arr 1 out.length (fS out)), some (bxl00Src s'_1)] [inR .i64 (i + 1)] ⟨(inR_i64 (by first | omega | (simp only [List.length_cons, List.length_nil]; omega)) (by first | omega | (simp only [List.length_cons, List.length_nil]; omega))), trivial⟩ ?_
      exact xe_again (out, (i + 1), s'_1) rfl (show (okSrc s'_1 ∧ s'_1.code = s.code ∧ s.atx ≤ s'_1.atx ∧ s'_1.atx ≤ s.atx + 2 * (i + 1)) ∧ (0 ≤ (i + 1) ∧ (i + 1) ≤ 6) ∧ (out.Sublist (labs6.take (i + 1).toNat)) ∧ ((out.length : Int) ≤ (i + 1)) ∧ True from ⟨(by exact ⟨by assumption, by first | assumption | rfl | (simp only [*]; done), by omega, by omega⟩), (by omega), (by first | exact sub_yes hsu hi0.1 (show i.toNat < 6 by omega) | exact sub_no hsu hi0.1 (show i.toNat < 6 by omega)), (by first | omega | (simp; omega)), trivial⟩) (by first | (show ((6 - (i + 1)).toNat : Nat) < (6 - i).toNat; omega) | (dsimp only; omega))
     subst h2
     refine x_r [(1, .lend [(7001, bxl00Src src, bxl00Src s'_1)] [] [(true, .any), (true, .any)] true (Bv false))] [0, 3, 4, 5, 16] [7, 7001] [.ref 7001 0, slS true ([(⟨#[49]⟩ : ByteArray), (⟨#[55]⟩ : ByteArray), (⟨#[97]⟩ : ByteArray), (⟨#[98]⟩ : ByteArray), (⟨#[99]⟩ : ByteArray), (⟨#[120]⟩ : ByteArray)]), .arr 7, I i, Bv true] [some (.arr 1 out.length (fS out)), some (bxl00Src s'_1)] [CallOK Try.prog 30 [.ref 7001 0, I 3] (lookO [(7001, bxl00Src src)]) true (Bv false) (lookO [(7001, bxl00Src s'_1)]) ∧ (((bxl00Src src : Ob) = bxl00Src src ∨ obLe noOb true (bxl00Src src) (bxl00Src src)) ∧ taggedO false (bxl00Src src)) ∧ True] ⟨⟨hc1, ⟨.inl rfl, (by simp [taggedO, taggedL, tagged, tagU8])⟩, trivial⟩, trivial⟩ ?_
     refine xe_then ?_
     refine x_true rfl ?_
     refine x_r [(5, .new 22), (6, .new 23)] [0, 3, 4, 5] [23, 7001] [.ref 7001 0, slS true ([(⟨#[49]⟩ : ByteArray), (⟨#[55]⟩ : ByteArray), (⟨#[97]⟩ : ByteArray), (⟨#[98]⟩ : ByteArray), (⟨#[99]⟩ : ByteArray), (⟨#[120]⟩ : ByteArray)]), .arr 23, I i] [some (.arr 1 (out.length + 1) (catF out.length (fS out) (litF [Sv (at_ ([(⟨#[49]⟩ : ByteArray), (⟨#[55]⟩ : ByteArray), (⟨#[97]⟩ : ByteArray), (⟨#[98]⟩ : ByteArray), (⟨#[99]⟩ : ByteArray), (⟨#[120]⟩ : ByteArray)]) i.toNat)] 1))), some (bxl00Src s'_1)] [(0 : Int) ≤ i ∧ i < ((([(⟨#[49]⟩ : ByteArray), (⟨#[55]⟩ : ByteArray), (⟨#[97]⟩ : ByteArray), (⟨#[98]⟩ : ByteArray), (⟨#[99]⟩ : ByteArray), (⟨#[120]⟩ : ByteArray)]).length) : Int), (out.length + 1) * 16 ≤ 140737488355328] ⟨⟨(by first | omega | (simp only [List.length_cons, List.length_nil]; omega)), (by first | omega | (simp only [List.length_cons, List.length_nil]; omega))⟩, (by first | omega | (simp only [List.length_cons, List.length_nil]; omega)), trivial⟩ ?_
     refine xe_block 1 ?_
     refine xe_then ?_
     refine x_r [] [0, 3, 4, 5] [23, 7001] [.ref 7001 0, slS true ([(⟨#[49]⟩ : ByteArray), (⟨#[55]⟩ : ByteArray), (⟨#[97]⟩ : ByteArray), (⟨#[98]⟩ : ByteArray), (⟨#[99]⟩ : ByteArray), (⟨#[120]⟩ : ByteArray)]), .arr 23, I (i + 1)] [some (.arr 1 (out.length + 1) (catF out.length (fS out) (litF [Sv (at_ ([(⟨#[49]⟩ : ByteArray), (⟨#[55]⟩ : ByteArray), (⟨#[97]⟩ : ByteArray), (⟨#[98]⟩ : ByteArray), (⟨#[99]⟩ : ByteArray), (⟨#[120]⟩ : ByteArray)]) i.toNat)] 1))), some (bxl00Src s'_1)] [inR .i64 (i + 1)] ⟨(inR_i64 (by first | omega | (simp only [List.length_cons, List.length_nil]; omega)) (by first | omega | (simp only [List.length_cons, List.length_nil]; omega))), trivial⟩ ?_
     refine xe_weak [(7, 23)] (T := [(0, .ref 7001 0), (3, slS true ([(⟨#[49]⟩ : ByteArray), (⟨#[55]⟩ : ByteArray), (⟨#[97]⟩ : ByteArray), (⟨#[98]⟩ : ByteArray), (⟨#[99]⟩ : ByteArray), (⟨#[120]⟩ : ByteArray)])), (4, .arr 7), (5, I (i + 1))]) (O := [(7, .arr 1 ((out ++ [(at_ ([(⟨#[49]⟩ : ByteArray), (⟨#[55]⟩ : ByteArray), (⟨#[97]⟩ : ByteArray), (⟨#[98]⟩ : ByteArray), (⟨#[99]⟩ : ByteArray), (⟨#[120]⟩ : ByteArray)]) i.toNat)]).length) (fS (out ++ [(at_ ([(⟨#[49]⟩ : ByteArray), (⟨#[55]⟩ : ByteArray), (⟨#[97]⟩ : ByteArray), (⟨#[98]⟩ : ByteArray), (⟨#[99]⟩ : ByteArray), (⟨#[120]⟩ : ByteArray)]) i.toNat)]))), (7001, bxl00Src s'_1)]) rfl (⟨.inl rfl, .inl rfl, .inl rfl, .inl rfl, trivial⟩) (⟨.inr ⟨rfl, (by first | rfl | (simp; done) | (simp; omega) | omega), fun i_ hi_ => .inl (cat_snoc (enc := cS) (xs := out) rfl i_ hi_)⟩, .inl rfl, trivial⟩) (xe_again ((out ++ [(at_ ([(⟨#[49]⟩ : ByteArray), (⟨#[55]⟩ : ByteArray), (⟨#[97]⟩ : ByteArray), (⟨#[98]⟩ : ByteArray), (⟨#[99]⟩ : ByteArray), (⟨#[120]⟩ : ByteArray)]) i.toNat)]), (i + 1), s'_1) rfl (show (okSrc s'_1 ∧ s'_1.code = s.code ∧ s.atx ≤ s'_1.atx ∧ s'_1.atx ≤ s.atx + 2 * (i + 1)) ∧ (0 ≤ (i + 1) ∧ (i + 1) ≤ 6) ∧ ((out ++ [(at_ ([(⟨#[49]⟩ : ByteArray), (⟨#[55]⟩ : ByteArray), (⟨#[97]⟩ : ByteArray), (⟨#[98]⟩ : ByteArray), (⟨#[99]⟩ : ByteArray), (⟨#[120]⟩ : ByteArray)]) i.toNat)]).Sublist (labs6.take (i + 1).toNat)) ∧ (((out ++ [(at_ ([(⟨#[49]⟩ : ByteArray), (⟨#[55]⟩ : ByteArray), (⟨#[97]⟩ : ByteArray), (⟨#[98]⟩ : ByteArray), (⟨#[99]⟩ : ByteArray), (⟨#[120]⟩ : ByteArray)]) i.toNat)]).length : Int) ≤ (i + 1)) ∧ True from ⟨(by exact ⟨by assumption, by first | assumption | rfl | (simp only [*]; done), by omega, by omega⟩), (by omega), (by first | exact sub_yes hsu hi0.1 (show i.toNat < 6 by omega) | exact sub_no hsu hi0.1 (show i.toNat < 6 by omega)), (by first | omega | (simp; omega)), trivial⟩) (by first | (show ((6 - (i + 1)).toNat : Nat) < (6 - i).toNat; omega) | (dsimp only; omega)))
    have hl6 : ¬ i < 6 := h1
    refine x_r [(3, .dec false)] [0, 3, 4, 5, 11] [7, 7001] [.ref 7001 0, slS true ([(⟨#[49]⟩ : ByteArray), (⟨#[55]⟩ : ByteArray), (⟨#[97]⟩ : ByteArray), (⟨#[98]⟩ : ByteArray), (⟨#[99]⟩ : ByteArray), (⟨#[120]⟩ : ByteArray)]), .arr 7, I i, Bv false] [some (.arr 1 out.length (fS out)), some (bxl00Src src)] [¬ (i < ((([(⟨#[49]⟩ : ByteArray), (⟨#[55]⟩ : ByteArray), (⟨#[97]⟩ : ByteArray), (⟨#[98]⟩ : ByteArray), (⟨#[99]⟩ : ByteArray), (⟨#[120]⟩ : ByteArray)]).length) : Int))] ⟨h1, trivial⟩ ?_
    refine xe_then ?_
    refine x_false rfl ?_
    refine x_exit ?_
    refine xe_exit_then ?_
    refine xe_loop_exit ?_
    refine xe_exit_same ?_
    refine xe_then ?_
    refine x_seq ?_
    refine x_seq ?_
    by_cases h3 : (out.length : Int) = 0
    ·refine x_r [(2, .dec true)] [4, 26] [7, 7001] [.arr 7, Bv true] [some (.arr 1 out.length (fS out)), some (bxl00Src src)] [(out.length : Int) = 0] ⟨h3, trivial⟩ ?_
     refine xe_then ?_
     refine x_true rfl ?_
     refine xR [(0, .new 27)] [2] [27, 7001] [.arr 27] [some (.arr 1 1 (litF [Sv (⟨#[97]⟩ : ByteArray)] 1)), some (bxl00Src src)] [] trivial ?_
     refine x_ret ?_
     refine xe_ret_then ?_
     refine xe_end ([(⟨#[97]⟩ : ByteArray)], src) (show (okSrc src) ∧ (src.code = s.code) ∧ (s.atx + 0 ≤ src.atx ∧ src.atx ≤ s.atx + 20) ∧ (okLabels ([(⟨#[97]⟩ : ByteArray)]) = true) ∧ (True) from ⟨(by first | omega | exact hs0.1 | exact hs0.2.1 | (decide) | exact sub_labels (hsu.trans (List.take_sublist _ _)) (by omega)), (by first | omega | exact hs0.1 | exact hs0.2.1 | (decide) | exact sub_labels (hsu.trans (List.take_sublist _ _)) (by omega)), (by first | omega | exact hs0.1 | exact hs0.2.1 | (decide) | exact sub_labels (hsu.trans (List.take_sublist _ _)) (by omega)), (by first | omega | exact hs0.1 | exact hs0.2.1 | (decide) | exact sub_labels (hsu.trans (List.take_sublist _ _)) (by omega)), trivial⟩) (⟨.inl rfl, trivial⟩) (.arr 27) (by kernel_rfl) (.inr ⟨(fun _ => rfl), rfl, (by first | rfl | (simp; done) | (simp; omega) | omega), fun i_ hi_ => .inl (match i_, hi_ with | 0, _ => rfl | (i + 1), h => absurd h (by simp))⟩) (fun _ => rfl) (fun _ => (tagS true _))
    refine x_r [(2, .dec false)] [4, 26] [7, 7001] [.arr 7, Bv false] [some (.arr 1 out.length (fS out)), some (bxl00Src src)] [¬ ((out.length : Int) = 0)] ⟨h3, trivial⟩ ?_
    refine xe_then ?_
    refine x_false rfl ?_
    refine x_skip ?_
    refine xe_then ?_
    refine xR [] [2] [7, 7001] [.arr 7] [some (.arr 1 out.length (fS out)), some (bxl00Src src)] [] trivial ?_
    refine x_ret ?_
    refine xe_end (out, src) (show (okSrc src) ∧ (src.code = s.code) ∧ (s.atx + 0 ≤ src.atx ∧ src.atx ≤ s.atx + 20) ∧ (okLabels out = true) ∧ (True) from ⟨(by first | omega | exact hs0.1 | exact hs0.2.1 | (decide) | exact sub_labels (hsu.trans (List.take_sublist _ _)) (by omega)), (by first | omega | exact hs0.1 | exact hs0.2.1 | (decide) | exact sub_labels (hsu.trans (List.take_sublist _ _)) (by omega)), (by first | omega | exact hs0.1 | exact hs0.2.1 | (decide) | exact sub_labels (hsu.trans (List.take_sublist _ _)) (by omega)), (by first | omega | exact hs0.1 | exact hs0.2.1 | (decide) | exact sub_labels (hsu.trans (List.take_sublist _ _)) (by omega)), trivial⟩) (⟨.inl rfl, trivial⟩) (.arr 7) (by kernel_rfl) (.inr ⟨(fun _ => rfl), rfl, rfl, fun i _ => .inl rfl⟩) (fun _ => rfl) (fun _ => (tagS true _))
  obtain ⟨⟨v, s'⟩, ⟨hh0, hh1, hh2, hh3, _⟩, hc⟩ := hh
  exact ⟨v, s', hh0, hh1, hh2, hh3, hc⟩


-- spec.l01Small
theorem l01Small_ok (c : Int) : Con Try.prog 108 [.val (.int .u8 c)] true (Bv (inB c 97 122)) := by
  refine fn_ok (fn := Try.f108) (nt := 9) Try.func108 rfl rfl rfl rfl (by simp [taggedL, tagged]) fun B hB => ?_
  refine aR [] [0] [] [.val (.int .u8 c)] [] [] hB trivial ?_
  refine aw_seq ?_
  by_cases h1 : 97 ≤ c
  ·refine aw_r [(1, .dec true)] [2] [] [Bv (decide (c ≤ 122))] [] [97 ≤ c] hB ⟨h1, trivial⟩ ?_
   refine ae_then ?_
   refine aw_ret ?_
   refine ae_ret hB (Bv (decide (c ≤ 122))) (by kernel_rfl) (.inl (by first | rfl | (refine congrArg Bv ?_; simp [inB, *]; done) | (refine congrArg Bv ?_; simp [inB, *]; omega) | (refine congrArg Bv ?_; simp_all [inB]; done) | (refine congrArg Bv ?_; simp_all [inB]; omega))) rfl (fun _ => trivial)
  refine aw_r [(1, .dec false)] [2] [] [Bv false] [] [¬ (97 ≤ c)] hB ⟨h1, trivial⟩ ?_
  refine ae_then ?_
  refine aw_ret ?_
  refine ae_ret hB (Bv false) (by kernel_rfl) (.inl (by first | rfl | (refine congrArg Bv ?_; simp [inB, *]; done) | (refine congrArg Bv ?_; simp [inB, *]; omega) | (refine congrArg Bv ?_; simp_all [inB]; done) | (refine congrArg Bv ?_; simp_all [inB]; omega))) rfl (fun _ => trivial)


-- spec.l11Label
theorem l11Label_ok (c : Int) : Con Try.prog 102 [.val (.int .u8 c)] true (Bv (labB c)) := by
  refine fn_ok (fn := Try.f102) (nt := 24) Try.func102 rfl rfl rfl rfl (by simp [taggedL, tagged]) fun B hB => ?_
  refine aR [] [0] [] [.val (.int .u8 c)] [] [] hB trivial ?_
  refine aw_seq ?_
  refine aR [] [0, 3] [] [.val (.int .u8 c), .val (.int .u8 c)] [] [] hB trivial ?_
  refine aw_block ?_
  refine aw_seq ?_
  refine aw_seq ?_
  by_cases h1 : c = 43
  ·refine aw_r [(0, .dec true)] [0, 3, 4] [] [.val (.int .u8 c), .val (.int .u8 c), Bv true] [] [c = 43] hB ⟨h1, trivial⟩ ?_
   refine ae_then ?_
   refine aw_true rfl ?_
   refine aw_skip ?_
   refine ae_then ?_
   refine aw_true rfl ?_
   refine aR [] [2] [] [Bv true] [] [] hB trivial ?_
   refine aw_ret ?_
   refine ae_ret_block (ae_ret_then ?_)
   refine ae_ret hB (Bv true) (by kernel_rfl) (.inl (by first | rfl | (refine congrArg Bv ?_; simp [labB, inB, *]; done) | (refine congrArg Bv ?_; simp [labB, inB, *]; omega) | (refine congrArg Bv ?_; simp_all [labB, inB]; done) | (refine congrArg Bv ?_; simp_all [labB, inB]; omega))) rfl (fun _ => trivial)
  refine aw_r [(0, .dec false)] [0, 3, 4] [] [.val (.int .u8 c), .val (.int .u8 c), Bv false] [] [¬ (c = 43)] hB ⟨h1, trivial⟩ ?_
  refine ae_then ?_
  refine aw_false rfl ?_
  refine aw_seq ?_
  by_cases h2 : c = 45
  ·refine aw_r [(0, .dec true)] [0, 3, 4] [] [.val (.int .u8 c), .val (.int .u8 c), Bv true] [] [c = 45] hB ⟨h2, trivial⟩ ?_
   refine ae_then ?_
   refine aw_true rfl ?_
   refine aw_skip ?_
   refine ae_then ?_
   refine aw_true rfl ?_
   refine aR [] [2] [] [Bv true] [] [] hB trivial ?_
   refine aw_ret ?_
   refine ae_ret_block (ae_ret_then ?_)
   refine ae_ret hB (Bv true) (by kernel_rfl) (.inl (by first | rfl | (refine congrArg Bv ?_; simp [labB, inB, *]; done) | (refine congrArg Bv ?_; simp [labB, inB, *]; omega) | (refine congrArg Bv ?_; simp_all [labB, inB]; done) | (refine congrArg Bv ?_; simp_all [labB, inB]; omega))) rfl (fun _ => trivial)
  refine aw_r [(0, .dec false)] [0, 3, 4] [] [.val (.int .u8 c), .val (.int .u8 c), Bv false] [] [¬ (c = 45)] hB ⟨h2, trivial⟩ ?_
  refine ae_then ?_
  refine aw_false rfl ?_
  refine aw_seq ?_
  by_cases h3 : c = 42
  ·refine aw_r [(0, .dec true)] [0, 3, 4] [] [.val (.int .u8 c), .val (.int .u8 c), Bv true] [] [c = 42] hB ⟨h3, trivial⟩ ?_
   refine ae_then ?_
   refine aw_true rfl ?_
   refine aw_skip ?_
   refine ae_then ?_
   refine aw_true rfl ?_
   refine aR [] [2] [] [Bv true] [] [] hB trivial ?_
   refine aw_ret ?_
   refine ae_ret_block (ae_ret_then ?_)
   refine ae_ret hB (Bv true) (by kernel_rfl) (.inl (by first | rfl | (refine congrArg Bv ?_; simp [labB, inB, *]; done) | (refine congrArg Bv ?_; simp [labB, inB, *]; omega) | (refine congrArg Bv ?_; simp_all [labB, inB]; done) | (refine congrArg Bv ?_; simp_all [labB, inB]; omega))) rfl (fun _ => trivial)
  refine aw_r [(0, .dec false)] [0, 3, 4] [] [.val (.int .u8 c), .val (.int .u8 c), Bv false] [] [¬ (c = 42)] hB ⟨h3, trivial⟩ ?_
  refine ae_then ?_
  refine aw_false rfl ?_
  refine aw_seq ?_
  by_cases h4 : c = 47
  ·refine aw_r [(0, .dec true)] [0, 3, 4] [] [.val (.int .u8 c), .val (.int .u8 c), Bv true] [] [c = 47] hB ⟨h4, trivial⟩ ?_
   refine ae_then ?_
   refine aw_true rfl ?_
   refine aw_skip ?_
   refine ae_then ?_
   refine aw_true rfl ?_
   refine aR [] [2] [] [Bv true] [] [] hB trivial ?_
   refine aw_ret ?_
   refine ae_ret_block (ae_ret_then ?_)
   refine ae_ret hB (Bv true) (by kernel_rfl) (.inl (by first | rfl | (refine congrArg Bv ?_; simp [labB, inB, *]; done) | (refine congrArg Bv ?_; simp [labB, inB, *]; omega) | (refine congrArg Bv ?_; simp_all [labB, inB]; done) | (refine congrArg Bv ?_; simp_all [labB, inB]; omega))) rfl (fun _ => trivial)
  refine aw_r [(0, .dec false)] [0, 3, 4] [] [.val (.int .u8 c), .val (.int .u8 c), Bv false] [] [¬ (c = 47)] hB ⟨h4, trivial⟩ ?_
  refine ae_then ?_
  refine aw_false rfl ?_
  refine aw_seq ?_
  by_cases h5 : c = 61
  ·refine aw_r [(0, .dec true)] [0, 3, 4] [] [.val (.int .u8 c), .val (.int .u8 c), Bv true] [] [c = 61] hB ⟨h5, trivial⟩ ?_
   refine ae_then ?_
   refine aw_true rfl ?_
   refine aw_skip ?_
   refine ae_then ?_
   refine aw_true rfl ?_
   refine aR [] [2] [] [Bv true] [] [] hB trivial ?_
   refine aw_ret ?_
   refine ae_ret_block (ae_ret_then ?_)
   refine ae_ret hB (Bv true) (by kernel_rfl) (.inl (by first | rfl | (refine congrArg Bv ?_; simp [labB, inB, *]; done) | (refine congrArg Bv ?_; simp [labB, inB, *]; omega) | (refine congrArg Bv ?_; simp_all [labB, inB]; done) | (refine congrArg Bv ?_; simp_all [labB, inB]; omega))) rfl (fun _ => trivial)
  refine aw_r [(0, .dec false)] [0, 3, 4] [] [.val (.int .u8 c), .val (.int .u8 c), Bv false] [] [¬ (c = 61)] hB ⟨h5, trivial⟩ ?_
  refine ae_then ?_
  refine aw_false rfl ?_
  refine aw_seq ?_
  by_cases h6 : c = 40
  ·refine aw_r [(0, .dec true)] [0, 3, 4] [] [.val (.int .u8 c), .val (.int .u8 c), Bv true] [] [c = 40] hB ⟨h6, trivial⟩ ?_
   refine ae_then ?_
   refine aw_true rfl ?_
   refine aw_skip ?_
   refine ae_then ?_
   refine aw_true rfl ?_
   refine aR [] [2] [] [Bv true] [] [] hB trivial ?_
   refine aw_ret ?_
   refine ae_ret_block (ae_ret_then ?_)
   refine ae_ret hB (Bv true) (by kernel_rfl) (.inl (by first | rfl | (refine congrArg Bv ?_; simp [labB, inB, *]; done) | (refine congrArg Bv ?_; simp [labB, inB, *]; omega) | (refine congrArg Bv ?_; simp_all [labB, inB]; done) | (refine congrArg Bv ?_; simp_all [labB, inB]; omega))) rfl (fun _ => trivial)
  refine aw_r [(0, .dec false)] [0, 3, 4] [] [.val (.int .u8 c), .val (.int .u8 c), Bv false] [] [¬ (c = 40)] hB ⟨h6, trivial⟩ ?_
  refine ae_then ?_
  refine aw_false rfl ?_
  refine aw_seq ?_
  by_cases h7 : c = 41
  ·refine aw_r [(0, .dec true)] [0, 3, 4] [] [.val (.int .u8 c), .val (.int .u8 c), Bv true] [] [c = 41] hB ⟨h7, trivial⟩ ?_
   refine ae_then ?_
   refine aw_true rfl ?_
   refine aw_skip ?_
   refine ae_then ?_
   refine aw_true rfl ?_
   refine aR [] [2] [] [Bv true] [] [] hB trivial ?_
   refine aw_ret ?_
   refine ae_ret_block (ae_ret_then ?_)
   refine ae_ret hB (Bv true) (by kernel_rfl) (.inl (by first | rfl | (refine congrArg Bv ?_; simp [labB, inB, *]; done) | (refine congrArg Bv ?_; simp [labB, inB, *]; omega) | (refine congrArg Bv ?_; simp_all [labB, inB]; done) | (refine congrArg Bv ?_; simp_all [labB, inB]; omega))) rfl (fun _ => trivial)
  refine aw_r [(0, .dec false)] [0, 3, 4] [] [.val (.int .u8 c), .val (.int .u8 c), Bv false] [] [¬ (c = 41)] hB ⟨h7, trivial⟩ ?_
  refine ae_then ?_
  refine aw_false rfl ?_
  refine aw_seq ?_
  by_cases h8 : c = 46
  ·refine aw_r [(0, .dec true)] [0, 3, 4] [] [.val (.int .u8 c), .val (.int .u8 c), Bv true] [] [c = 46] hB ⟨h8, trivial⟩ ?_
   refine ae_then ?_
   refine aw_true rfl ?_
   refine aw_skip ?_
   refine ae_then ?_
   refine aw_true rfl ?_
   refine aR [] [2] [] [Bv true] [] [] hB trivial ?_
   refine aw_ret ?_
   refine ae_ret_block (ae_ret_then ?_)
   refine ae_ret hB (Bv true) (by kernel_rfl) (.inl (by first | rfl | (refine congrArg Bv ?_; simp [labB, inB, *]; done) | (refine congrArg Bv ?_; simp [labB, inB, *]; omega) | (refine congrArg Bv ?_; simp_all [labB, inB]; done) | (refine congrArg Bv ?_; simp_all [labB, inB]; omega))) rfl (fun _ => trivial)
  refine aw_r [(0, .dec false)] [0, 3, 4] [] [.val (.int .u8 c), .val (.int .u8 c), Bv false] [] [¬ (c = 46)] hB ⟨h8, trivial⟩ ?_
  refine ae_then ?_
  refine aw_false rfl ?_
  by_cases h9 : c = 44
  ·refine aw_r [(0, .dec true)] [0, 4] [] [.val (.int .u8 c), Bv true] [] [c = 44] hB ⟨h9, trivial⟩ ?_
   refine ae_then ?_
   refine aw_true rfl ?_
   refine aR [] [2] [] [Bv true] [] [] hB trivial ?_
   refine aw_ret ?_
   refine ae_ret_block (ae_ret_then ?_)
   refine ae_ret hB (Bv true) (by kernel_rfl) (.inl (by first | rfl | (refine congrArg Bv ?_; simp [labB, inB, *]; done) | (refine congrArg Bv ?_; simp [labB, inB, *]; omega) | (refine congrArg Bv ?_; simp_all [labB, inB]; done) | (refine congrArg Bv ?_; simp_all [labB, inB]; omega))) rfl (fun _ => trivial)
  refine aw_r [(0, .dec false)] [0, 4] [] [.val (.int .u8 c), Bv false] [] [¬ (c = 44)] hB ⟨h9, trivial⟩ ?_
  refine ae_then ?_
  refine aw_false rfl ?_
  refine aw_skip ?_
  refine ae_block 0 ?_
  refine ae_then ?_
  refine aw_seq ?_
  rcases Bool.eq_false_or_eq_true (inB c 97 122) with h10 | h10
  ·refine aw_r [(1, .call [(true, .any)] true (Bv true))] [2] [] [Bv true] [] [Con Try.prog 108 [.val (.int .u8 c)] true (Bv true) ∧ True] hB ⟨⟨(con_bool h10 (l01Small_ok c)), trivial⟩, trivial⟩ ?_
   refine ae_then ?_
   refine aw_ret ?_
   refine ae_ret hB (Bv true) (by kernel_rfl) (.inl (by first | rfl | (refine congrArg Bv ?_; simp [labB, inB, *]; done) | (refine congrArg Bv ?_; simp [labB, inB, *]; omega) | (refine congrArg Bv ?_; simp_all [labB, inB]; done) | (refine congrArg Bv ?_; simp_all [labB, inB]; omega))) rfl (fun _ => trivial)
  by_cases h11 : 48 ≤ c
  ·refine aw_r [(1, .call [(true, .any)] true (Bv false)), (4, .dec true)] [2] [] [Bv (decide (c ≤ 57))] [] [Con Try.prog 108 [.val (.int .u8 c)] true (Bv false) ∧ True, 48 ≤ c] hB ⟨⟨(con_bool h10 (l01Small_ok c)), trivial⟩, h11, trivial⟩ ?_
   refine ae_then ?_
   refine aw_ret ?_
   refine ae_ret hB (Bv (decide (c ≤ 57))) (by kernel_rfl) (.inl (by first | rfl | (refine congrArg Bv ?_; simp [labB, inB, *]; done) | (refine congrArg Bv ?_; simp [labB, inB, *]; omega) | (refine congrArg Bv ?_; simp_all [labB, inB]; done) | (refine congrArg Bv ?_; simp_all [labB, inB]; omega))) rfl (fun _ => trivial)
  refine aw_r [(1, .call [(true, .any)] true (Bv false)), (4, .dec false)] [2] [] [Bv false] [] [Con Try.prog 108 [.val (.int .u8 c)] true (Bv false) ∧ True, ¬ (48 ≤ c)] hB ⟨⟨(con_bool h10 (l01Small_ok c)), trivial⟩, h11, trivial⟩ ?_
  refine ae_then ?_
  refine aw_ret ?_
  refine ae_ret hB (Bv false) (by kernel_rfl) (.inl (by first | rfl | (refine congrArg Bv ?_; simp [labB, inB, *]; done) | (refine congrArg Bv ?_; simp [labB, inB, *]; omega) | (refine congrArg Bv ?_; simp_all [labB, inB]; done) | (refine congrArg Bv ?_; simp_all [labB, inB]; omega))) rfl (fun _ => trivial)


-- spec.IsLabel
theorem specIsLabel_ok (s : ByteArray) (ok : s.size ≤ 9223372036854775807) : Con Try.prog 78 [Sv s] true (Bv (okLabel s)) := by
  refine fn_ok (fn := Try.f78) (nt := 11) Try.func78 rfl rfl rfl rfl (by simp [taggedL, tagged]) fun B hB => ?_
  refine aR [] [0] [] [Sv s] [] [] hB trivial ?_
  refine aw_seq ?_
  by_cases h1 : (s.size : Int) = 1
  ·refine aw_r [(2, .dec true), (6, .call [(true, .any)] true (Bv (labB (bAt s 0))))] [2] [] [Bv (labB (bAt s 0))] [] [(s.size : Int) = 1, (0 : Int) ≤ 0 ∧ 0 < (s.size : Int), Con Try.prog 102 [.val (.int .u8 (bAt s 0))] true (Bv (labB (bAt s 0))) ∧ True] hB ⟨h1, ⟨(by omega), (by omega)⟩, ⟨(l11Label_ok (bAt s 0)), trivial⟩, trivial⟩ ?_
   refine ae_then ?_
   refine aw_ret ?_
   refine ae_ret hB (Bv (labB (bAt s 0))) (by kernel_rfl) (.inl (by first | rfl | (refine congrArg Bv ?_; simp [okLabel, *]; done) | (refine congrArg Bv ?_; simp [okLabel, *]; omega) | (refine congrArg Bv ?_; simp_all [okLabel]; done) | (refine congrArg Bv ?_; simp_all [okLabel]; omega))) rfl (fun _ => trivial)
  refine aw_r [(2, .dec false)] [2] [] [Bv false] [] [¬ ((s.size : Int) = 1)] hB ⟨h1, trivial⟩ ?_
  refine ae_then ?_
  refine aw_ret ?_
  refine ae_ret hB (Bv false) (by kernel_rfl) (.inl (by first | rfl | (refine congrArg Bv ?_; simp [okLabel, *]; done) | (refine congrArg Bv ?_; simp [okLabel, *]; omega) | (refine congrArg Bv ?_; simp_all [okLabel]; done) | (refine congrArg Bv ?_; simp_all [okLabel]; omega))) rfl (fun _ => trivial)


-- spec.l00In
theorem l00In_ok (n : Int) (low : Int) (high : Int) : Con Try.prog 64 [I n, I low, I high] true (Bv (inB n low high)) := by
  refine fn_ok (fn := Try.f64) (nt := 15) Try.func64 rfl rfl rfl rfl (by simp [taggedL, tagged]) fun B hB => ?_
  refine aR [] [0, 1, 2] [] [I n, I low, I high] [] [] hB trivial ?_
  refine aw_seq ?_
  by_cases h1 : low ≤ n
  ·refine aw_r [(2, .dec true)] [6] [] [Bv (decide (n ≤ high))] [] [low ≤ n] hB ⟨h1, trivial⟩ ?_
   refine ae_then ?_
   refine aw_ret ?_
   refine ae_ret hB (Bv (decide (n ≤ high))) (by kernel_rfl) (.inl (by first | rfl | (refine congrArg Bv ?_; simp [inB, *]; done) | (refine congrArg Bv ?_; simp [inB, *]; omega) | (refine congrArg Bv ?_; simp_all [inB]; done) | (refine congrArg Bv ?_; simp_all [inB]; omega))) rfl (fun _ => trivial)
  refine aw_r [(2, .dec false)] [6] [] [Bv false] [] [¬ (low ≤ n)] hB ⟨h1, trivial⟩ ?_
  refine ae_then ?_
  refine aw_ret ?_
  refine ae_ret hB (Bv false) (by kernel_rfl) (.inl (by first | rfl | (refine congrArg Bv ?_; simp [inB, *]; done) | (refine congrArg Bv ?_; simp [inB, *]; omega) | (refine congrArg Bv ?_; simp_all [inB]; done) | (refine congrArg Bv ?_; simp_all [inB]; omega))) rfl (fun _ => trivial)


-- spec.l12Labels
theorem l12Labels_ok (labels : List ByteArray) (ok : ∀ y ∈ labels, y.size ≤ 9223372036854775807) : Con Try.prog 50 [slS false labels] true (Bv (okLabels labels)) := by
  refine fn_ok (fn := Try.f50) (nt := 35) Try.func50 rfl rfl rfl rfl (by simp [taggedL, tagged, tagS]) fun B hB => ?_
  refine aw_lens (x := slS false labels) 0 rfl (fun len_labels => ?_)
  simp [LenOK, LenL, cS, fS, slS] at len_labels
  refine aR [] [0] [] [slS false labels] [] [] hB trivial ?_
  refine aw_seq ?_
  refine aR [] [0, 3] [] [slS false labels, I 0] [] [] hB trivial ?_
  refine aw_block ?_
  refine aw_loop (fun gn gσ => ∃ (i : Int), gn = ((labels.length : Int) - i).toNat ∧ (0 ≤ i ∧ i ≤ (labels.length : Int)) ∧ (∀ j : Nat, (j : Int) < i → labOk labels j = true) ∧ gσ = mkS [(0, slS false labels), (3, I i)] []) (((labels.length : Int) - 0).toNat) ⟨0, rfl, (by omega), (by intro j hj; omega), rfl⟩ (fun gn gσ hI => ?_)
  obtain ⟨i, rfl, hi0, hall0, rfl⟩ := hI
  refine aw_seq ?_
  refine aw_seq ?_
  by_cases h1 : i < (labels.length : Int)
  ·have hi : i.toNat < labels.length := by omega
   refine aw_r [(3, .dec true)] [0, 3, 7] [] [slS false labels, I i, Bv true] [] [i < (labels.length : Int)] hB ⟨h1, trivial⟩ ?_
   refine ae_then ?_
   refine aw_true rfl ?_
   refine aw_skip ?_
   refine ae_then ?_
   refine aw_seq ?_
   refine aw_block ?_
   refine aw_seq ?_
   rcases Bool.eq_false_or_eq_true (okLabel (at_ labels i.toNat)) with h2 | h2
   ·have hlb := h2
    by_cases h3 : 0 < i
    ·by_cases h4 : sless (at_ labels ((i - 1).toNat)) (at_ labels i.toNat) = false
     ·have hst := okLabels_no hi (labOk_b (by omega) h4)
      refine aw_r [(4, .call [(true, .any)] true (Bv true)), (8, .dec true), (19, .dec true)] [0, 3, 31] [] [slS false labels, I i, Bv true] [] [(0 : Int) ≤ i ∧ i < (labels.length : Int), Con Try.prog 78 [Sv (at_ labels i.toNat)] true (Bv true) ∧ True, 0 < i, inR .i64 (i - 1), (0 : Int) ≤ (i - 1) ∧ (i - 1) < (labels.length : Int), (0 : Int) ≤ i ∧ i < (labels.length : Int), sless (at_ labels ((i - 1).toNat)) (at_ labels i.toNat) = false] hB ⟨⟨(by omega), (by omega)⟩, ⟨(con_bool h2 (specIsLabel_ok (at_ labels i.toNat) (ok _ (at_mem hi)))), trivial⟩, h3, (inR_i64 (by omega) (by omega)), ⟨(by omega), (by omega)⟩, ⟨(by omega), (by omega)⟩, h4, trivial⟩ ?_
      refine ae_then ?_
      refine aw_true rfl ?_
      refine aR [] [2] [] [Bv false] [] [] hB trivial ?_
      refine aw_ret ?_
      refine ae_ret_block (ae_ret_then (ae_ret_then (ae_ret_block (ae_ret_then ?_))))
      refine ae_ret hB (Bv false) (by kernel_rfl) (.inl (by refine congrArg Bv ?_; first | exact hst.symm | (rw [hgo]; first | rfl | exact (decide_eq_false (by omega)).symm | exact (decide_eq_true (by omega)).symm | exact decide_eq_decide.2 (by omega) | (unfold inB; exact decide_eq_decide.2 (by omega))))) rfl (fun _ => trivial)
     have hok := labOk_yes hi0.1 hlb (.inr (by simpa using h4))
     refine aw_r [(4, .call [(true, .any)] true (Bv true)), (8, .dec true), (19, .dec false)] [0, 3, 31] [] [slS false labels, I i, Bv false] [] [(0 : Int) ≤ i ∧ i < (labels.length : Int), Con Try.prog 78 [Sv (at_ labels i.toNat)] true (Bv true) ∧ True, 0 < i, inR .i64 (i - 1), (0 : Int) ≤ (i - 1) ∧ (i - 1) < (labels.length : Int), (0 : Int) ≤ i ∧ i < (labels.length : Int), ¬ (sless (at_ labels ((i - 1).toNat)) (at_ labels i.toNat) = false)] hB ⟨⟨(by omega), (by omega)⟩, ⟨(con_bool h2 (specIsLabel_ok (at_ labels i.toNat) (ok _ (at_mem hi)))), trivial⟩, h3, (inR_i64 (by omega) (by omega)), ⟨(by omega), (by omega)⟩, ⟨(by omega), (by omega)⟩, h4, trivial⟩ ?_
     refine ae_then ?_
     refine aw_false rfl ?_
     refine aw_skip ?_
     refine ae_block 1 ?_
     refine ae_then ?_
     refine aw_r [] [0, 3] [] [slS false labels, I (i + 1)] [] [inR .i64 (i + 1)] hB ⟨(inR_i64 (by omega) (by omega)), trivial⟩ ?_
     exact ae_again _ (by omega) ⟨(i + 1), rfl, (by omega), (by intro j hj; by_cases ej : j = i.toNat; (subst ej; first | assumption | exact hok); exact hall0 j (by omega)), rfl⟩
    have hok := labOk_yes hi0.1 hlb (.inl (by omega))
    refine aw_r [(4, .call [(true, .any)] true (Bv true)), (8, .dec false)] [0, 3, 31] [] [slS false labels, I i, Bv false] [] [(0 : Int) ≤ i ∧ i < (labels.length : Int), Con Try.prog 78 [Sv (at_ labels i.toNat)] true (Bv true) ∧ True, ¬ (0 < i)] hB ⟨⟨(by omega), (by omega)⟩, ⟨(con_bool h2 (specIsLabel_ok (at_ labels i.toNat) (ok _ (at_mem hi)))), trivial⟩, h3, trivial⟩ ?_
    refine ae_then ?_
    refine aw_false rfl ?_
    refine aw_skip ?_
    refine ae_block 1 ?_
    refine ae_then ?_
    refine aw_r [] [0, 3] [] [slS false labels, I (i + 1)] [] [inR .i64 (i + 1)] hB ⟨(inR_i64 (by omega) (by omega)), trivial⟩ ?_
    exact ae_again _ (by omega) ⟨(i + 1), rfl, (by omega), (by intro j hj; by_cases ej : j = i.toNat; (subst ej; first | assumption | exact hok); exact hall0 j (by omega)), rfl⟩
   have hst := okLabels_no hi (labOk_a h2)
   refine aw_r [(4, .call [(true, .any)] true (Bv false))] [0, 3, 31] [] [slS false labels, I i, Bv true] [] [(0 : Int) ≤ i ∧ i < (labels.length : Int), Con Try.prog 78 [Sv (at_ labels i.toNat)] true (Bv false) ∧ True] hB ⟨⟨(by omega), (by omega)⟩, ⟨(con_bool h2 (specIsLabel_ok (at_ labels i.toNat) (ok _ (at_mem hi)))), trivial⟩, trivial⟩ ?_
   refine ae_then ?_
   refine aw_true rfl ?_
   refine aR [] [2] [] [Bv false] [] [] hB trivial ?_
   refine aw_ret ?_
   refine ae_ret_block (ae_ret_then (ae_ret_then (ae_ret_block (ae_ret_then ?_))))
   refine ae_ret hB (Bv false) (by kernel_rfl) (.inl (by refine congrArg Bv ?_; first | exact hst.symm | (rw [hgo]; first | rfl | exact (decide_eq_false (by omega)).symm | exact (decide_eq_true (by omega)).symm | exact decide_eq_decide.2 (by omega) | (unfold inB; exact decide_eq_decide.2 (by omega))))) rfl (fun _ => trivial)
  have hgo := okLabels_go (ls := labels) (fun j hj => hall0 j (by omega))
  refine aw_r [(3, .dec false)] [0, 3, 7] [] [slS false labels, I i, Bv false] [] [¬ (i < (labels.length : Int))] hB ⟨h1, trivial⟩ ?_
  refine ae_then ?_
  refine aw_false rfl ?_
  refine aw_exit ?_
  refine ae_exit_then ?_
  refine ae_exit_then ?_
  refine ae_exit_same ?_
  refine ae_then ?_
  refine aR [(2, .call [(true, .any), (true, .any), (true, .any)] true (Bv (inB (labels.length : Int) 1 12)))] [2] [] [Bv (inB (labels.length : Int) 1 12)] [] [Con Try.prog 64 [I (labels.length : Int), I 1, I 12] true (Bv (inB (labels.length : Int) 1 12)) ∧ True] hB ⟨⟨(l00In_ok (labels.length : Int) 1 12), trivial⟩, trivial⟩ ?_
  refine aw_ret ?_
  refine ae_ret hB (Bv (inB (labels.length : Int) 1 12)) (by kernel_rfl) (.inl (by refine congrArg Bv ?_; first | exact hst.symm | (rw [hgo]; first | rfl | exact (decide_eq_false (by omega)).symm | exact (decide_eq_true (by omega)).symm | exact decide_eq_decide.2 (by omega) | (unfold inB; exact decide_eq_decide.2 (by omega))))) rfl (fun _ => trivial)


theorem beq_ne {i k : Nat} (h : i ≠ k) : Nat.beq i k = false := Bool.eq_false_iff.2 fun e => h (Nat.eq_of_beq_eq_true e)
theorem at_set_eq {α : Type} [Inhabited α] {xs : List α} {k : Nat} {c : α} (h : k < xs.length) : at_ (xs.set k c) k = c := by simp [at_, h]
theorem at_set_ne {α : Type} [Inhabited α] {xs : List α} {k i : Nat} {c : α} (h : i ≠ k) : at_ (xs.set k c) i = at_ xs i := by
  have : ¬ k = i := fun e => h e.symm
  simp [at_, this]
theorem le_row {ob : Nat → Option Ob} {F N sz p n : Nat} {m : Nat → Nat} {g : Nat → Nat → List AV} {fr : Bool} {f : Nat → List AV} (h : ob F = some (.fam N sz m g)) (hp : p < N) (hn : m p = n)
    (hf : ∀ i, i < n → g p i = f i ∨ (AV.idsL (f i) = [] ∧ leL (fun _ => none) false (g p i) (f i))) : le ob true (.row F p) (.sl fr sz n f) := by
  simp only [le, h]
  exact ⟨fun _ => trivial, hp, trivial, hn, hf⟩

def oLIc (F : Nat) (x : List Int) (i : Nat) : List AV := [.row F i]
def oLI (F : Nat) (xs : List (List Int)) (i : Nat) : List AV := oLIc F (at_ xs i) i
def mLI (xs : List (List Int)) (p : Nat) : Nat := (at_ xs p).length
def gLI (xs : List (List Int)) (p : Nat) : Nat → List AV := fI (at_ xs p)
theorem oleLI {ob : Nat → Option Ob} {F : Nat} (fr : Bool) (xs : List (List Int)) (h : ob F = some (.fam xs.length 1 (mLI xs) (gLI xs))) : ∀ i, i < xs.length → AV.idsL (fLI fr xs i) = [] ∧ leL ob true (oLI F xs i) (fLI fr xs i) :=
  fun i hi => And.intro rfl (And.intro (le_row h hi rfl (fun q _ => .inl rfl)) rfl)
theorem olecatLI {ob : Nat → Option Ob} {F : Nat} (fr : Bool) (xs : List (List Int)) (x : List Int) {f : Nat → List AV} (h : ob F = some (.fam xs.length 1 (mLI xs) (gLI xs))) (hx : leL ob true (f 0) (cLI fr x)) : ∀ i, i < (xs ++ [x]).length → AV.idsL (fLI fr (xs ++ [x]) i) = [] ∧ leL ob true (catF xs.length (oLI F xs) f i) (fLI fr (xs ++ [x]) i) := by
  intro i hi
  by_cases hl : i < xs.length
  · have := oleLI fr xs h i hl
    rw [catF_lt hl]
    have e : fLI fr (xs ++ [x]) i = fLI fr xs i := by show cLI fr (at_ _ _) = cLI fr (at_ _ _); rw [at_left hl]
    rw [e]; exact this
  · have e : i = xs.length := by simp at hi; omega
    subst e
    rw [catF_ge (Nat.le_refl _), Nat.sub_self]
    have e : fLI fr (xs ++ [x]) xs.length = cLI fr x := by show cLI fr (at_ _ _) = _; rw [at_right (Nat.le_refl _)]; simp [at_]
    rw [e]; exact ⟨rfl, hx⟩
theorem ocatLI {F j N : Nat} (hF : Nat.beq F j = false) {xs : List (List Int)} {x : List Int} {g : Nat → List AV} (hN : N = xs.length) (hx : AV.joiL j F N (g 0) = oLIc F x N) : ∀ i, i < (xs ++ [x]).length → AV.joiL j F N (catF xs.length (oLI F xs) g i) = oLI F (xs ++ [x]) i := by
  subst hN
  intro i hi
  by_cases h : i < xs.length
  · rw [catF_lt h]
    simp [oLI, oLIc, at_left h, AV.joiL, AV.joi, hF]
  · have e : i = xs.length := by simp at hi; omega
    subst e
    rw [catF_ge (Nat.le_refl _), Nat.sub_self, hx]
    simp [oLI, at_right (Nat.le_refl _), at_]
theorem fcatLI {xs : List (List Int)} (x : List Int) {n : Nat} {f : Nat → List AV} (hn : n = x.length) (hf : ∀ i, i < n → f i = fI x i) : xs.length + 1 = (xs ++ [x]).length ∧ 1 = 1 ∧ ∀ p, p < (xs ++ [x]).length → famUp xs.length n (mLI xs) p = mLI (xs ++ [x]) p ∧ ∀ i, i < mLI (xs ++ [x]) p → famUpF xs.length f (gLI xs) p i = gLI (xs ++ [x]) p i ∨ (AV.idsL (gLI (xs ++ [x]) p i) = [] ∧ leL (fun _ => none) false (famUpF xs.length f (gLI xs) p i) (gLI (xs ++ [x]) p i)) := by
  refine ⟨by simp, rfl, fun p hp => ?_⟩
  by_cases h : p < xs.length
  · have e : Nat.beq p xs.length = false := Bool.eq_false_iff.2 fun e => by have := Nat.eq_of_beq_eq_true e; omega
    simp [famUp, famUpF, e, mLI, gLI, at_left h]
  · have e : p = xs.length := by simp at hp; omega
    subst e
    have e2 : at_ (xs ++ [x]) xs.length = x := by simp [at_right (Nat.le_refl _), at_]
    simp only [famUp, famUpF, Nat.beq_refl, cond_true, mLI, gLI, e2]
    exact ⟨hn, fun i hi => .inl (hf i (by omega))⟩
theorem osetLI (F P : Nat) (xs : List (List Int)) (ys : List Int) (i : Nat) : oLI F xs i = oLI F (xs.set P ys) i := by
  unfold oLI
  by_cases h : P = i
  · subst h
    by_cases hl : P < xs.length
    · simp [at_, hl, oLIc]
    · rw [List.set_eq_of_length_le (by omega)]
  · simp [at_, h]
theorem fnilLI (n : Nat) {g : Nat → Nat → List AV} : n = (List.replicate n ([] : List Int)).length ∧ 1 = 1 ∧ ∀ p, p < (List.replicate n ([] : List Int)).length → (fun _ : Nat => (0 : Nat)) p = mLI (List.replicate n ([] : List Int)) p ∧ ∀ i, i < mLI (List.replicate n ([] : List Int)) p → g p i = gLI (List.replicate n ([] : List Int)) p i ∨ (AV.idsL (gLI (List.replicate n ([] : List Int)) p i) = [] ∧ leL (fun _ => none) false (g p i) (gLI (List.replicate n ([] : List Int)) p i)) := by
  refine ⟨by simp, rfl, fun p hp => ?_⟩
  have e : mLI (List.replicate n ([] : List Int)) p = 0 := by simp only [List.length_replicate] at hp; simp [mLI, at_, hp]
  exact ⟨e.symm, fun i hi => by rw [e] at hi; exact absurd hi (Nat.not_lt_zero _)⟩
theorem fputLI {xs : List (List Int)} {P m1 : Nat} {ys : List Int} {f1 : Nat → List AV} (hP : P < xs.length) (hm : m1 = ys.length) (hf : ∀ i, i < m1 → f1 i = fI ys i) : xs.length = (xs.set P ys).length ∧ 1 = 1 ∧ ∀ p, p < (xs.set P ys).length → famUp P m1 (mLI xs) p = mLI (xs.set P ys) p ∧ ∀ i, i < mLI (xs.set P ys) p → famUpF P f1 (gLI xs) p i = gLI (xs.set P ys) p i ∨ (AV.idsL (gLI (xs.set P ys) p i) = [] ∧ leL (fun _ => none) false (famUpF P f1 (gLI xs) p i) (gLI (xs.set P ys) p i)) := by
  refine ⟨by simp, rfl, fun p hp => ?_⟩
  by_cases h : p = P
  · subst h
    have e : at_ (xs.set p ys) p = ys := at_set_eq hP
    refine ⟨?_, fun i hi => .inl ?_⟩
    · simp only [famUp, Nat.beq_refl, cond_true, mLI, e]; exact hm
    · simp only [mLI, e] at hi; simp only [famUpF, Nat.beq_refl, cond_true, gLI, e]; exact hf i (by omega)
  · have e : at_ (xs.set P ys) p = at_ xs p := at_set_ne h
    have b := beq_ne h
    refine ⟨?_, fun i hi => .inl ?_⟩
    · simp only [famUp, b, cond_false, mLI, e]
    · simp only [famUpF, b, cond_false, gLI, e]
theorem fsetLI {xs : List (List Int)} {P k : Nat} {c : Int} {g' : Nat → Nat → List AV} (hP : P < xs.length) (hk : k < (at_ xs P).length) (h1 : g' P k = cI c) (h2 : ∀ i, i ≠ k → g' P i = gLI xs P i) (h3 : ∀ p, p ≠ P → g' p = gLI xs p) : xs.length = (xs.set P ((at_ xs P).set k c)).length ∧ 1 = 1 ∧ ∀ p, p < (xs.set P ((at_ xs P).set k c)).length → mLI xs p = mLI (xs.set P ((at_ xs P).set k c)) p ∧ ∀ i, i < mLI (xs.set P ((at_ xs P).set k c)) p → g' p i = gLI (xs.set P ((at_ xs P).set k c)) p i ∨ (AV.idsL (gLI (xs.set P ((at_ xs P).set k c)) p i) = [] ∧ leL (fun _ => none) false (g' p i) (gLI (xs.set P ((at_ xs P).set k c)) p i)) := by
  refine ⟨by simp, rfl, fun p hp => ?_⟩
  by_cases h : p = P
  · subst h
    have e2 : at_ (xs.set p ((at_ xs p).set k c)) p = ((at_ xs p).set k c) := at_set_eq hP
    have e3 : ((at_ xs p).set k c) = (at_ xs p).set k c := rfl
    simp only [mLI, gLI, e2, e3]
    refine ⟨by simp, fun i hi => .inl ?_⟩
    by_cases hi2 : i = k
    · subst hi2
      rw [h1]
      show _ = cI (at_ _ _)
      rw [at_set_eq hk]
    · rw [h2 i hi2]
      show cI (at_ _ _) = cI (at_ _ _)
      rw [at_set_ne hi2]
  · have e : at_ (xs.set P ((at_ xs P).set k c)) p = at_ xs p := at_set_ne h
    simp only [mLI, gLI, e]
    refine ⟨trivial, fun i hi => .inl ?_⟩
    rw [h3 p h]; rfl

-- spec.NewPerceptron
theorem specNewPerceptron_ok (labels : List ByteArray) (ok : ∀ y ∈ labels, y.size ≤ 9223372036854775807) : ∃ (v : Perceptron) (c : Int), ((v, c) = newR labels) ∧ Con Try.prog 13 [slS false labels] true (.tup [agPerceptronT v, I c]) := by
  have hh : ∃ r : Perceptron × Int, (((r.1, r.2) = newR labels) ∧ (True)) ∧ CallOK Try.prog 13 [slS false labels] (lookO []) true (.tup [agPerceptronT r.1, I r.2]) (lookO []) := by
    refine fn_okX (Φ := fun r : Perceptron × Int => ((r.1, r.2) = newR labels) ∧ (True)) [] (fun r => []) (fn := Try.f13) (nt := 25) Try.func13 rfl rfl (args := [slS false labels]) rfl (allcons (.inl ⟨rfl, tagS false _⟩) allnil) (res := fun r => .tup [agPerceptronT r.1, I r.2]) ?_
    refine xR [(0, .new 2)] [0, 2] [2] [slS false labels, .ref 2 0] [some (.box [nilA, nilA])] [] trivial ?_
    refine x_seq ?_
    refine x_seq ?_
    rcases Bool.eq_false_or_eq_true (okLabels labels) with h1 | h1
    ·have hln := okLabels_n h1
     refine x_r [(1, .call [(true, .any)] true (Bv true))] [0, 2, 7] [2] [slS false labels, .ref 2 0, Bv false] [some (.box [nilA, nilA])] [Con Try.prog 50 [slS false labels] true (Bv true) ∧ True] ⟨⟨(con_bool h1 (l12Labels_ok labels ok)), trivial⟩, trivial⟩ ?_
     refine xe_then ?_
     refine x_false rfl ?_
     refine x_skip ?_
     refine xe_then ?_
     refine xR [(0, .new 9), (2, .new 11), (4, .new 4)] [0, 2, 4] [2, 4, 11] [slS false labels, .ref 2 0, .ref 4 0] [some (.box [nilA, nilA]), some (.box [.arr 11, nilA]), some (.arr 1 (0 + labels.length) (catF 0 (litF [] 1) (fS labels)))] [(0 + labels.length) * 16 ≤ 140737488355328] ⟨(by omega), trivial⟩ ?_
     refine x_seq ?_
     refine xR [] [2, 4, 14, 15] [2, 4, 11] [.ref 2 0, .ref 4 0, I (labels.length : Int), I 0] [some (.box [nilA, nilA]), some (.box [.arr 11, nilA]), some (.arr 1 (0 + labels.length) (catF 0 (litF [] 1) (fS labels)))] [] trivial ?_
     refine x_block ?_
     refine x_nilC 4 1 741 1 (fun _ => []) rfl (by kernel_rfl) ?_
     refine x_fam 9253 1 (fun _ => 0) (fun _ _ => []) (by kernel_rfl) ?_
     refine x_weak [] (T := [(2, .ref 2 0), (4, .ref 4 0), (14, I (labels.length : Int)), (15, I 0)]) (O := [(2, .box [nilA, nilA]), (4, .box [.arr 11, .arr 741]), (11, .arr 1 (0 + labels.length) (catF 0 (litF [] 1) (fS labels))), (741, .oar [9253] 1 (([] : List (List Int)).length) (oLI 9253 ([] : List (List Int)))), (9253, .fam ([] : List (List Int)).length 1 (mLI ([] : List (List Int))) (gLI ([] : List (List Int))))]) rfl (⟨.inl rfl, .inl rfl, .inl rfl, .inl rfl, trivial⟩) (⟨.inl rfl, .inl rfl, .inl rfl, .inr ⟨rfl, rfl, fun i hi => absurd hi (Nat.not_lt_zero _)⟩, .inr ⟨rfl, rfl, fun p hp => absurd hp (Nat.not_lt_zero _)⟩, trivial⟩) ?_
     refine x_loop (X := Int × (List (List Int))) (fun x => mkS [(2, .ref 2 0), (4, .ref 4 0), (14, I (labels.length : Int)), (15, I x.1)] [(2, .box [nilA, nilA]), (4, .box [.arr 11, .arr 741]), (11, .arr 1 (0 + labels.length) (catF 0 (litF [] 1) (fS labels))), (741, .oar [9253] 1 x.2.length (oLI 9253 x.2)), (9253, .fam x.2.length 1 (mLI x.2) (gLI x.2))]) (fun x => (0 ≤ x.1 ∧ x.1 ≤ (labels.length : Int)) ∧ (x.2 = List.replicate x.1.toNat (List.replicate 25 0)) ∧ ((x.2.length : Int) = x.1) ∧ True) (fun x => ((labels.length : Int) - x.1).toNat) (0, ([] : List (List Int))) rfl (show (0 ≤ (0 : Int) ∧ (0 : Int) ≤ (labels.length : Int)) ∧ (([] : List (List Int)) = List.replicate (0 : Int).toNat (List.replicate 25 0)) ∧ ((([] : List (List Int)).length : Int) = (0 : Int)) ∧ True from ⟨(by omega), (by rfl), (by rfl), trivial⟩) (fun x hI => ?_)
     obtain ⟨t15, ws⟩ := x
     obtain ⟨hi0, hws, hwl, _⟩ : (0 ≤ t15 ∧ t15 ≤ (labels.length : Int)) ∧ (ws = List.replicate t15.toNat (List.replicate 25 0)) ∧ ((ws.length : Int) = t15) ∧ True := hI
     show XW _ _ _ _ (mkS [(2, .ref 2 0), (4, .ref 4 0), (14, I (labels.length : Int)), (15, I t15)] [(2, .box [nilA, nilA]), (4, .box [.arr 11, .arr 741]), (11, .arr 1 (0 + labels.length) (catF 0 (litF [] 1) (fS labels))), (741, .oar [9253] 1 ws.length (oLI 9253 ws)), (9253, .fam ws.length 1 (mLI ws) (gLI ws))]) _ _
     refine x_seq ?_
     by_cases h2 : t15 < (labels.length : Int)
     ·refine x_r [(0, .dec true)] [2, 4, 14, 15, 16] [2, 4, 11, 741, 9253] [.ref 2 0, .ref 4 0, I (labels.length : Int), I t15, Bv true] [some (.box [nilA, nilA]), some (.box [.arr 11, .arr 741]), some (.arr 1 (0 + labels.length) (catF 0 (litF [] 1) (fS labels))), some (.oar [9253] 1 ws.length (oLI 9253 ws)), some (.fam ws.length 1 (mLI ws) (gLI ws))] [t15 < (labels.length : Int)] ⟨h2, trivial⟩ ?_
      refine xe_then ?_
      refine x_seq ?_
      refine x_true rfl ?_
      refine x_skip ?_
      refine xe_then ?_
      refine x_seq ?_
      refine x_block ?_
      refine x_r [(2, .new 19), (3, .new 20), (4, .new 21)] [2, 4, 14, 15] [2, 4, 11, 19, 21, 9253] [.ref 2 0, .ref 4 0, I (labels.length : Int), I t15] [some (.box [nilA, nilA]), some (.box [.arr 11, .arr 21]), some (.arr 1 (0 + labels.length) (catF 0 (litF [] 1) (fS labels))), some (.arr 1 25 (fun _ => [I 0])), some (.oar [9253, 19] 1 (ws.length + 1) (catF ws.length (oLI 9253 ws) (litF [.arr 19] 1))), some (.fam ws.length 1 (mLI ws) (gLI ws))] [(0 : Int) ≤ 25 ∧ (25 : Int) ≤ 25 ∧ (8 : Int) * 25 ≤ 281474976710656 ∧ (25 : Int) ≤ 9223372036854775807, (ws.length + 1) * 24 ≤ 140737488355328] ⟨⟨(by omega), (by omega), (by omega), (by omega)⟩, (by omega), trivial⟩ ?_
      refine xe_block 1 ?_
      refine xe_then ?_
      refine x_r [] [2, 4, 14, 15] [2, 4, 11, 19, 21, 9253] [.ref 2 0, .ref 4 0, I (labels.length : Int), I (t15 + 1)] [some (.box [nilA, nilA]), some (.box [.arr 11, .arr 21]), some (.arr 1 (0 + labels.length) (catF 0 (litF [] 1) (fS labels))), some (.arr 1 25 (fun _ => [I 0])), some (.oar [9253, 19] 1 (ws.length + 1) (catF ws.length (oLI 9253 ws) (litF [.arr 19] 1))), some (.fam ws.length 1 (mLI ws) (gLI ws))] [inR .i64 (t15 + 1)] ⟨(inR_i64 (by omega) (by omega)), trivial⟩ ?_
      refine xe_join 19 9253 rfl rfl rfl ?_
      refine xe_weak [(741, 21)] (T := [(2, .ref 2 0), (4, .ref 4 0), (14, I (labels.length : Int)), (15, I (t15 + 1))]) (O := [(2, .box [nilA, nilA]), (4, .box [.arr 11, .arr 741]), (11, .arr 1 (0 + labels.length) (catF 0 (litF [] 1) (fS labels))), (741, .oar [9253] 1 ((ws ++ [(List.replicate 25 (0 : Int))]).length) (oLI 9253 (ws ++ [(List.replicate 25 (0 : Int))]))), (9253, .fam (ws ++ [(List.replicate 25 (0 : Int))]).length 1 (mLI (ws ++ [(List.replicate 25 (0 : Int))])) (gLI (ws ++ [(List.replicate 25 (0 : Int))])))]) rfl (⟨.inl rfl, .inl rfl, .inl rfl, .inl rfl, trivial⟩) (⟨.inl rfl, .inl rfl, .inl rfl, .inr ⟨rfl, rfl, (by simp), fun i hi => .inl (ocatLI rfl rfl rfl i hi)⟩, .inr (fcatLI (List.replicate 25 (0 : Int)) (xs := ws) (f := (fun _ => [I 0])) (n := 25) (by first | rfl | (simp; done)) (fun i_ hi_ => const_enc (enc := cI) rfl i_ (by simpa using hi_))), trivial⟩) (xe_again ((t15 + 1), (ws ++ [(List.replicate 25 (0 : Int))])) rfl (show (0 ≤ (t15 + 1) ∧ (t15 + 1) ≤ (labels.length : Int)) ∧ ((ws ++ [(List.replicate 25 (0 : Int))]) = List.replicate (t15 + 1).toNat (List.replicate 25 0)) ∧ (((ws ++ [(List.replicate 25 (0 : Int))]).length : Int) = (t15 + 1)) ∧ True from ⟨(by omega), (by rw [rep_1 hi0.1, ← hws]), (by simp; omega), trivial⟩) (by first | (show (((labels.length : Int) - (t15 + 1)).toNat : Nat) < ((labels.length : Int) - t15).toNat; omega) | (dsimp only; omega)))
     have hie : t15.toNat = labels.length := by omega
     rw [hie] at hws
     refine x_r [(0, .dec false)] [2, 4, 14, 15, 16] [2, 4, 11, 741, 9253] [.ref 2 0, .ref 4 0, I (labels.length : Int), I t15, Bv false] [some (.box [nilA, nilA]), some (.box [.arr 11, .arr 741]), some (.arr 1 (0 + labels.length) (catF 0 (litF [] 1) (fS labels))), some (.oar [9253] 1 ws.length (oLI 9253 ws)), some (.fam ws.length 1 (mLI ws) (gLI ws))] [¬ (t15 < (labels.length : Int))] ⟨h2, trivial⟩ ?_
     refine xe_then ?_
     refine x_seq ?_
     refine x_false rfl ?_
     refine x_exit ?_
     refine xe_exit_then ?_
     refine xe_loop_exit ?_
     refine xe_exit_same ?_
     refine xe_then ?_
     refine xR [] [2, 3] [2, 11, 741, 9253] [.ref 2 0, I 0] [some (.box [.arr 11, .arr 741]), some (.arr 1 (0 + labels.length) (catF 0 (litF [] 1) (fS labels))), some (.oar [9253] 1 ws.length (oLI 9253 ws)), some (.fam ws.length 1 (mLI ws) (gLI ws))] [] trivial ?_
     refine x_ret ?_
     refine xe_end ((Perceptron.mk labels ws), 0) (show (((Perceptron.mk labels ws), 0) = newR labels) ∧ (True) from ⟨(by first | exact (newR_no (by simp_all)).symm | (rw [newR_yes (by assumption), ← hws, hcs]) | (rw [newR_yes (by assumption), ← hws])), trivial⟩) (trivial) (.tup [.agg [.arr 11, .arr 741], I 0]) (by kernel_rfl) (.inr ⟨⟨⟨(fun _ => rfl), rfl, (by first | rfl | (simp; done) | (simp; omega) | omega), fun i_ hi_ => .inl (cat_nil i_)⟩, ⟨⟨(fun _ => rfl), rfl, rfl, oleLI _ _ rfl⟩, rfl⟩⟩, ⟨rfl, rfl⟩⟩) (fun _ => rfl) (fun _ => (by simp [tagged, taggedL, tagLI, tagS]))
    refine x_r [(1, .call [(true, .any)] true (Bv false))] [0, 2, 7] [2] [slS false labels, .ref 2 0, Bv true] [some (.box [nilA, nilA])] [Con Try.prog 50 [slS false labels] true (Bv false) ∧ True] ⟨⟨(con_bool h1 (l12Labels_ok labels ok)), trivial⟩, trivial⟩ ?_
    refine xe_then ?_
    refine x_true rfl ?_
    refine xR [] [2, 3] [2] [.ref 2 0, I 1] [some (.box [nilA, nilA])] [] trivial ?_
    refine x_ret ?_
    refine xe_ret_then ?_
    refine xe_end ((Perceptron.mk ([] : List ByteArray) ([] : List (List Int))), 1) (show (((Perceptron.mk ([] : List ByteArray) ([] : List (List Int))), 1) = newR labels) ∧ (True) from ⟨(by first | exact (newR_no (by simp_all)).symm | (rw [newR_yes (by assumption), ← hws, hcs]) | (rw [newR_yes (by assumption), ← hws])), trivial⟩) (trivial) (.tup [.agg [nilA, nilA], I 1]) (by kernel_rfl) (.inr ⟨⟨⟨rfl, rfl⟩, ⟨⟨rfl, rfl⟩, rfl⟩⟩, ⟨rfl, rfl⟩⟩) (fun _ => rfl) (fun _ => (by simp [tagged, taggedL, tagLI, tagS]))
  obtain ⟨⟨v, c⟩, ⟨hh0, _⟩, hc⟩ := hh
  exact ⟨v, c, hh0, hc⟩


-- spec.l12Shape
theorem l12Shape_ok (s : l00Src) (kind : Int) (hs : okSrc s) (ha : s.atx ≤ 3999999999999999800) (hk : 0 ≤ kind ∧ kind ≤ 100) : ∃ (v : List Feat) (s' : l00Src), (okSrc s') ∧ (s'.code = s.code) ∧ (s.atx + 0 ≤ s'.atx ∧ s'.atx ≤ s.atx + 60) ∧ (okFeats v 384 = true) ∧ CallOK Try.prog 31 [.ref 7001 0, I kind] (lookO [(7001, bxl00Src s)]) true (slFeat true v) (lookO [(7001, bxl00Src s')]) := by
  have hh : ∃ r : (List Feat) × l00Src, ((okSrc r.2) ∧ (r.2.code = s.code) ∧ (s.atx + 0 ≤ r.2.atx ∧ r.2.atx ≤ s.atx + 60) ∧ (okFeats r.1 384 = true) ∧ (True)) ∧ CallOK Try.prog 31 [.ref 7001 0, I kind] (lookO [(7001, bxl00Src s)]) true (slFeat true r.1) (lookO [(7001, bxl00Src r.2)]) := by
    refine fn_okX (Φ := fun r : (List Feat) × l00Src => (okSrc r.2) ∧ (r.2.code = s.code) ∧ (s.atx + 0 ≤ r.2.atx ∧ r.2.atx ≤ s.atx + 60) ∧ (okFeats r.1 384 = true) ∧ (True)) [(7001, bxl00Src s)] (fun r => [(7001, bxl00Src r.2)]) (fn := Try.f31) (nt := 49) Try.func31 rfl rfl (args := [.ref 7001 0, I kind]) rfl (allcons (.inr trivial) (allcons (.inl ⟨rfl, trivial⟩) allnil)) (res := fun r => slFeat true r.1) ?_
    refine xR [] [0, 1] [7001] [.ref 7001 0, I kind] [some (bxl00Src s)] [] trivial ?_
    refine xR [(0, .new 8)] [0, 1, 5] [8, 7001] [.ref 7001 0, I kind, .arr 8] [some (.arr 3 0 (litF [] 3)), some (bxl00Src s)] [] trivial ?_
    refine xR [(1, .nn)] [0, 1, 5, 6] [8, 7001] [.ref 7001 0, I kind, .arr 8, I (kind % 8)] [some (.arr 3 0 (litF [] 3)), some (bxl00Src s)] [(0 : Int) ≤ kind ∧ (0 : Int) < 8] ⟨⟨(by omega), (by omega)⟩, trivial⟩ ?_
    refine x_seq ?_
    refine xR [] [0, 1, 5, 6, 7] [8, 7001] [.ref 7001 0, I kind, .arr 8, I (kind % 8), I 0] [some (.arr 3 0 (litF [] 3)), some (bxl00Src s)] [] trivial ?_
    refine x_block ?_
    refine x_weak [] (T := [(0, .ref 7001 0), (1, I kind), (5, .arr 8), (6, I (kind % 8)), (7, I 0)]) (O := [(8, .arr 3 (([] : List Feat).length) (fFeat ([] : List Feat))), (7001, bxl00Src s)]) rfl (⟨.inl rfl, .inl rfl, .inl rfl, .inl rfl, .inl rfl, trivial⟩) (⟨.inr ⟨rfl, (by first | rfl | (simp; done) | (simp; omega) | omega), fun i_ hi_ => absurd hi_ (Nat.not_lt_zero _)⟩, .inl rfl, trivial⟩) ?_
    refine x_loop (X := (List Feat) × Int × Int × l00Src) (fun x => mkS [(0, .ref 7001 0), (1, I kind), (5, .arr 8), (6, I x.2.1), (7, I x.2.2.1)] [(8, .arr 3 x.1.length (fFeat x.1)), (7001, bxl00Src x.2.2.2)]) (fun x => (okSrc x.2.2.2 ∧ x.2.2.2.code = s.code ∧ s.atx ≤ x.2.2.2.atx ∧ x.2.2.2.atx ≤ s.atx + 8 * x.2.2.1) ∧ (0 ≤ x.2.2.1 ∧ x.2.2.1 ≤ 4 + kind % 3) ∧ ((x.1.length : Int) = x.2.2.1) ∧ (∀ f ∈ x.1, okF f = true) ∧ (0 ≤ x.2.1 ∧ x.2.1 ≤ 7) ∧ True) (fun x => (4 + kind % 3 - x.2.2.1).toNat) (([] : List Feat), (kind % 8), 0, s) rfl (show (okSrc s ∧ s.code = s.code ∧ s.atx ≤ s.atx ∧ s.atx ≤ s.atx + 8 * (0 : Int)) ∧ (0 ≤ (0 : Int) ∧ (0 : Int) ≤ 4 + kind % 3) ∧ ((([] : List Feat).length : Int) = (0 : Int)) ∧ (∀ f ∈ ([] : List Feat), okF f = true) ∧ (0 ≤ (kind % 8) ∧ (kind % 8) ≤ 7) ∧ True from ⟨(by exact ⟨by assumption, by first | assumption | rfl | (simp only [*]; done), by omega, by omega⟩), (by omega), (by rfl), (by (intro z hz; simp at hz)), (by omega), trivial⟩) (fun x hI => ?_)
    obtain ⟨out, d, k, src⟩ := x
    obtain ⟨hs0, hk0, hol, hfs, hd0, _⟩ : (okSrc src ∧ src.code = s.code ∧ s.atx ≤ src.atx ∧ src.atx ≤ s.atx + 8 * k) ∧ (0 ≤ k ∧ k ≤ 4 + kind % 3) ∧ ((out.length : Int) = k) ∧ (∀ f ∈ out, okF f = true) ∧ (0 ≤ d ∧ d ≤ 7) ∧ True := hI
    show XW _ _ _ _ (mkS [(0, .ref 7001 0), (1, I kind), (5, .arr 8), (6, I d), (7, I k)] [(8, .arr 3 out.length (fFeat out)), (7001, bxl00Src src)]) _ _
    refine x_seq ?_
    refine x_seq ?_
    by_cases h1 : k < (4 + (kind % 3))
    ·have hq2 : kind % 2 = 0 ∨ kind % 2 = 1 := by omega
     have hnl : 0 ≤ (40 * k) * (1 + kind % 2) ∧ (40 * k) * (1 + kind % 2) ≤ 1000 := by rcases hq2 with q | q <;> rw [q] <;> omega
     refine x_r [(2, .nn), (4, .dec true)] [0, 1, 5, 6, 7, 15] [8, 7001] [.ref 7001 0, I kind, .arr 8, I d, I k, Bv true] [some (.arr 3 out.length (fFeat out)), some (bxl00Src src)] [(0 : Int) ≤ kind ∧ (0 : Int) < 3, inR .i64 (4 + (kind % 3)), k < (4 + (kind % 3))] ⟨⟨(by omega), (by omega)⟩, (inR_i64 (by omega) (by omega)), h1, trivial⟩ ?_
     refine xe_then ?_
     refine x_true rfl ?_
     refine x_skip ?_
     refine xe_then ?_
     refine x_seq ?_
     refine x_block ?_
     refine x_seq ?_
     obtain ⟨v_1, s'_1, hx1_0, hx1_1, hx1_2, hx1_3, hc1⟩ := pick_ok src 20 (by first | assumption | (simp only [okSrc] at *; simp_all; done)) (by omega)
     obtain ⟨v_2, s'_2, hx2_0, hx2_1, hx2_2, hx2_3, hc2⟩ := pick_ok s'_1 20 (by first | assumption | (simp only [okSrc] at *; simp_all; done)) (by omega)
     refine x_r [(7, .lend [(7001, bxl00Src src, bxl00Src s'_1)] [] [(true, .any), (true, .any)] true (I v_1)), (9, .nn), (13, .nn), (17, .lend [(7001, bxl00Src s'_1, bxl00Src s'_2)] [] [(true, .any), (true, .any)] true (I v_2)), (19, .nn), (22, .new 40), (23, .new 41)] [0, 1, 5, 6, 7] [41, 7001] [.ref 7001 0, I kind, .arr 41, I d, I k] [some (.arr 3 (out.length + 1) (catF out.length (fFeat out) (litF [I ((((60 * k) + (30 * kind)) + v_1) % 256), I ((((40 * k) * (1 + (kind % 2))) + v_2) % 256), I d] 3))), some (bxl00Src s'_2)] [inR .i64 (60 * k), inR .i64 (30 * kind), inR .i64 ((60 * k) + (30 * kind)), CallOK Try.prog 32 [.ref 7001 0, I 20] (lookO [(7001, bxl00Src src)]) true (I v_1) (lookO [(7001, bxl00Src s'_1)]) ∧ (((bxl00Src src : Ob) = bxl00Src src ∨ obLe noOb true (bxl00Src src) (bxl00Src src)) ∧ taggedO false (bxl00Src src)) ∧ True, inR .i64 (((60 * k) + (30 * kind)) + v_1), (0 : Int) ≤ (((60 * k) + (30 * kind)) + v_1) ∧ (0 : Int) < 256, inR .i64 (40 * k), (0 : Int) ≤ kind ∧ (0 : Int) < 2, inR .i64 (1 + (kind % 2)), inR .i64 ((40 * k) * (1 + (kind % 2))), CallOK Try.prog 32 [.ref 7001 0, I 20] (lookO [(7001, bxl00Src s'_1)]) true (I v_2) (lookO [(7001, bxl00Src s'_2)]) ∧ (((bxl00Src s'_1 : Ob) = bxl00Src s'_1 ∨ obLe noOb true (bxl00Src s'_1) (bxl00Src s'_1)) ∧ taggedO false (bxl00Src s'_1)) ∧ True, inR .i64 (((40 * k) * (1 + (kind % 2))) + v_2), (0 : Int) ≤ (((40 * k) * (1 + (kind % 2))) + v_2) ∧ (0 : Int) < 256, (out.length + 1) * 24 ≤ 140737488355328] ⟨(inR_i64 (by omega) (by omega)), (inR_i64 (by omega) (by omega)), (inR_i64 (by omega) (by omega)), ⟨hc1, ⟨.inl rfl, (by simp [taggedO, taggedL, tagged, tagU8])⟩, trivial⟩, (inR_i64 (by omega) (by omega)), ⟨(by omega), (by omega)⟩, (inR_i64 (by omega) (by omega)), ⟨(by omega), (by omega)⟩, (inR_i64 (by omega) (by omega)), (inR_i64 (by omega) (by omega)), ⟨hc2, ⟨.inl rfl, (by simp [taggedO, taggedL, tagged, tagU8])⟩, trivial⟩, (inR_i64 (by omega) (by omega)), ⟨(by omega), (by omega)⟩, (by omega), trivial⟩ ?_
     refine xe_then ?_
     refine x_seq ?_
     obtain ⟨v_3, s'_3, hx3_0, hx3_1, hx3_2, hc3⟩ := one_ok s'_2 3 (by first | assumption | (simp only [okSrc] at *; simp_all; done)) (by omega)
     rcases Bool.eq_false_or_eq_true v_3 with h2 | h2
     ·subst h2
      refine x_r [(1, .lend [(7001, bxl00Src s'_2, bxl00Src s'_3)] [] [(true, .any), (true, .any)] true (Bv true))] [0, 1, 5, 6, 7, 43] [41, 7001] [.ref 7001 0, I kind, .arr 41, I d, I k, Bv true] [some (.arr 3 (out.length + 1) (catF out.length (fFeat out) (litF [I ((((60 * k) + (30 * kind)) + v_1) % 256), I ((((40 * k) * (1 + (kind % 2))) + v_2) % 256), I d] 3))), some (bxl00Src s'_3)] [CallOK Try.prog 30 [.ref 7001 0, I 3] (lookO [(7001, bxl00Src s'_2)]) true (Bv true) (lookO [(7001, bxl00Src s'_3)]) ∧ (((bxl00Src s'_2 : Ob) = bxl00Src s'_2 ∨ obLe noOb true (bxl00Src s'_2) (bxl00Src s'_2)) ∧ taggedO false (bxl00Src s'_2)) ∧ True] ⟨⟨hc3, ⟨.inl rfl, (by simp [taggedO, taggedL, tagged, tagU8])⟩, trivial⟩, trivial⟩ ?_
      refine xe_then ?_
      refine x_true rfl ?_
      refine x_r [(3, .nn)] [0, 1, 5, 6, 7] [41, 7001] [.ref 7001 0, I kind, .arr 41, I ((d + kind) % 8), I k] [some (.arr 3 (out.length + 1) (catF out.length (fFeat out) (litF [I ((((60 * k) + (30 * kind)) + v_1) % 256), I ((((40 * k) * (1 + (kind % 2))) + v_2) % 256), I d] 3))), some (bxl00Src s'_3)] [inR .i64 (d + kind), (0 : Int) ≤ (d + kind) ∧ (0 : Int) < 8] ⟨(inR_i64 (by omega) (by omega)), ⟨(by omega), (by omega)⟩, trivial⟩ ?_
      refine xe_block 1 ?_
      refine xe_then ?_
      refine x_r [] [0, 1, 5, 6, 7] [41, 7001] [.ref 7001 0, I kind, .arr 41, I ((d + kind) % 8), I (k + 1)] [some (.arr 3 (out.length + 1) (catF out.length (fFeat out) (litF [I ((((60 * k) + (30 * kind)) + v_1) % 256), I ((((40 * k) * (1 + (kind % 2))) + v_2) % 256), I d] 3))), some (bxl00Src s'_3)] [inR .i64 (k + 1)] ⟨(inR_i64 (by omega) (by omega)), trivial⟩ ?_
      refine xe_weak [(8, 41)] (T := [(0, .ref 7001 0), (1, I kind), (5, .arr 8), (6, I ((d + kind) % 8)), (7, I (k + 1))]) (O := [(8, .arr 3 ((out ++ [(Feat.mk ((((60 * k) + (30 * kind)) + v_1) % 256) ((((40 * k) * (1 + (kind % 2))) + v_2) % 256) d)]).length) (fFeat (out ++ [(Feat.mk ((((60 * k) + (30 * kind)) + v_1) % 256) ((((40 * k) * (1 + (kind % 2))) + v_2) % 256) d)]))), (7001, bxl00Src s'_3)]) rfl (⟨.inl rfl, .inl rfl, .inl rfl, .inl rfl, .inl rfl, trivial⟩) (⟨.inr ⟨rfl, (by first | rfl | (simp; done) | (simp; omega) | omega), fun i_ hi_ => .inl (cat_snoc (enc := cFeat) (xs := out) rfl i_ hi_)⟩, .inl rfl, trivial⟩) (xe_again ((out ++ [(Feat.mk ((((60 * k) + (30 * kind)) + v_1) % 256) ((((40 * k) * (1 + (kind % 2))) + v_2) % 256) d)]), ((d + kind) % 8), (k + 1), s'_3) rfl (show (okSrc s'_3 ∧ s'_3.code = s.code ∧ s.atx ≤ s'_3.atx ∧ s'_3.atx ≤ s.atx + 8 * (k + 1)) ∧ (0 ≤ (k + 1) ∧ (k + 1) ≤ 4 + kind % 3) ∧ (((out ++ [(Feat.mk ((((60 * k) + (30 * kind)) + v_1) % 256) ((((40 * k) * (1 + (kind % 2))) + v_2) % 256) d)]).length : Int) = (k + 1)) ∧ (∀ f ∈ (out ++ [(Feat.mk ((((60 * k) + (30 * kind)) + v_1) % 256) ((((40 * k) * (1 + (kind % 2))) + v_2) % 256) d)]), okF f = true) ∧ (0 ≤ ((d + kind) % 8) ∧ ((d + kind) % 8) ≤ 7) ∧ True from ⟨(by exact ⟨by assumption, by first | assumption | rfl | (simp only [*]; done), by omega, by omega⟩), (by omega), (by simp; omega), (by exact all_snoc9 hfs (okF_mk (by omega) (by omega) (by omega))), (by omega), trivial⟩) (by first | (show ((4 + kind % 3 - (k + 1)).toNat : Nat) < (4 + kind % 3 - k).toNat; omega) | (dsimp only; omega)))
     subst h2
     refine x_r [(1, .lend [(7001, bxl00Src s'_2, bxl00Src s'_3)] [] [(true, .any), (true, .any)] true (Bv false))] [0, 1, 5, 6, 7, 43] [41, 7001] [.ref 7001 0, I kind, .arr 41, I d, I k, Bv false] [some (.arr 3 (out.length + 1) (catF out.length (fFeat out) (litF [I ((((60 * k) + (30 * kind)) + v_1) % 256), I ((((40 * k) * (1 + (kind % 2))) + v_2) % 256), I d] 3))), some (bxl00Src s'_3)] [CallOK Try.prog 30 [.ref 7001 0, I 3] (lookO [(7001, bxl00Src s'_2)]) true (Bv false) (lookO [(7001, bxl00Src s'_3)]) ∧ (((bxl00Src s'_2 : Ob) = bxl00Src s'_2 ∨ obLe noOb true (bxl00Src s'_2) (bxl00Src s'_2)) ∧ taggedO false (bxl00Src s'_2)) ∧ True] ⟨⟨hc3, ⟨.inl rfl, (by simp [taggedO, taggedL, tagged, tagU8])⟩, trivial⟩, trivial⟩ ?_
     refine xe_then ?_
     refine x_false rfl ?_
     refine x_skip ?_
     refine xe_block 1 ?_
     refine xe_then ?_
     refine x_r [] [0, 1, 5, 6, 7] [41, 7001] [.ref 7001 0, I kind, .arr 41, I d, I (k + 1)] [some (.arr 3 (out.length + 1) (catF out.length (fFeat out) (litF [I ((((60 * k) + (30 * kind)) + v_1) % 256), I ((((40 * k) * (1 + (kind % 2))) + v_2) % 256), I d] 3))), some (bxl00Src s'_3)] [inR .i64 (k + 1)] ⟨(inR_i64 (by omega) (by omega)), trivial⟩ ?_
     refine xe_weak [(8, 41)] (T := [(0, .ref 7001 0), (1, I kind), (5, .arr 8), (6, I d), (7, I (k + 1))]) (O := [(8, .arr 3 ((out ++ [(Feat.mk ((((60 * k) + (30 * kind)) + v_1) % 256) ((((40 * k) * (1 + (kind % 2))) + v_2) % 256) d)]).length) (fFeat (out ++ [(Feat.mk ((((60 * k) + (30 * kind)) + v_1) % 256) ((((40 * k) * (1 + (kind % 2))) + v_2) % 256) d)]))), (7001, bxl00Src s'_3)]) rfl (⟨.inl rfl, .inl rfl, .inl rfl, .inl rfl, .inl rfl, trivial⟩) (⟨.inr ⟨rfl, (by first | rfl | (simp; done) | (simp; omega) | omega), fun i_ hi_ => .inl (cat_snoc (enc := cFeat) (xs := out) rfl i_ hi_)⟩, .inl rfl, trivial⟩) (xe_again ((out ++ [(Feat.mk ((((60 * k) + (30 * kind)) + v_1) % 256) ((((40 * k) * (1 + (kind % 2))) + v_2) % 256) d)]), d, (k + 1), s'_3) rfl (show (okSrc s'_3 ∧ s'_3.code = s.code ∧ s.atx ≤ s'_3.atx ∧ s'_3.atx ≤ s.atx + 8 * (k + 1)) ∧ (0 ≤ (k + 1) ∧ (k + 1) ≤ 4 + kind % 3) ∧ (((out ++ [(Feat.mk ((((60 * k) + (30 * kind)) + v_1) % 256) ((((40 * k) * (1 + (kind % 2))) + v_2) % 256) d)]).length : Int) = (k + 1)) ∧ (∀ f ∈ (out ++ [(Feat.mk ((((60 * k) + (30 * kind)) + v_1) % 256) ((((40 * k) * (1 + (kind % 2))) + v_2) % 256) d)]), okF f = true) ∧ (0 ≤ d ∧ d ≤ 7) ∧ True from ⟨(by exact ⟨by assumption, by first | assumption | rfl | (simp only [*]; done), by omega, by omega⟩), (by omega), (by simp; omega), (by exact all_snoc9 hfs (okF_mk (by omega) (by omega) (by omega))), (by omega), trivial⟩) (by first | (show ((4 + kind % 3 - (k + 1)).toNat : Nat) < (4 + kind % 3 - k).toNat; omega) | (dsimp only; omega)))
    refine x_r [(2, .nn), (4, .dec false)] [0, 1, 5, 6, 7, 15] [8, 7001] [.ref 7001 0, I kind, .arr 8, I d, I k, Bv false] [some (.arr 3 out.length (fFeat out)), some (bxl00Src src)] [(0 : Int) ≤ kind ∧ (0 : Int) < 3, inR .i64 (4 + (kind % 3)), ¬ (k < (4 + (kind % 3)))] ⟨⟨(by omega), (by omega)⟩, (inR_i64 (by omega) (by omega)), h1, trivial⟩ ?_
    refine xe_then ?_
    refine x_false rfl ?_
    refine x_exit ?_
    refine xe_exit_then ?_
    refine xe_loop_exit ?_
    refine xe_exit_same ?_
    refine xe_then ?_
    refine xR [] [4] [8, 7001] [.arr 8] [some (.arr 3 out.length (fFeat out)), some (bxl00Src src)] [] trivial ?_
    refine x_ret ?_
    refine xe_end (out, src) (show (okSrc src) ∧ (src.code = s.code) ∧ (s.atx + 0 ≤ src.atx ∧ src.atx ≤ s.atx + 60) ∧ (okFeats out 384 = true) ∧ (True) from ⟨(by first | omega | exact hs0.1 | exact hs0.2.1 | exact okFeats_of hfs (by omega)), (by first | omega | exact hs0.1 | exact hs0.2.1 | exact okFeats_of hfs (by omega)), (by first | omega | exact hs0.1 | exact hs0.2.1 | exact okFeats_of hfs (by omega)), (by first | omega | exact hs0.1 | exact hs0.2.1 | exact okFeats_of hfs (by omega)), trivial⟩) (⟨.inl rfl, trivial⟩) (.arr 8) (by kernel_rfl) (.inr ⟨(fun _ => rfl), rfl, rfl, fun i _ => .inl rfl⟩) (fun _ => rfl) (fun _ => (tagFeat true _))
  obtain ⟨⟨v, s'⟩, ⟨hh0, hh1, hh2, hh3, _⟩, hc⟩ := hh
  exact ⟨v, s', hh0, hh1, hh2, hh3, hc⟩


-- spec.l12DrawSamples
theorem l12DrawSamples_ok (s : l00Src) (p : Perceptron) (most : Int) (hs : okSrc s) (ha : s.atx ≤ 3999999999999998000) (hp : 1 ≤ p.Labels.length ∧ p.Labels.length ≤ 12) (hm : 0 ≤ most ∧ most ≤ 8) : ∃ (s' : l00Src) (sm : List Sample), (okSrc s') ∧ (s'.code = s.code) ∧ (s.atx + 0 ≤ s'.atx ∧ s'.atx ≤ s.atx + 700) ∧ ((sm.length : Int) ≤ most) ∧ (∀ x_ ∈ sm, okSm p.Labels x_) ∧ CallOK Try.prog 80 [.ref 7001 0, .ptr false [slS false p.Labels, slLI false p.Weights], I most] (lookO [(7001, bxl00Src s)]) false (.arr 9311) (lookO [(7001, bxl00Src s'), (9311, .arr 2 sm.length (fSample true sm))]) := by
  have hh : ∃ r : l00Src × (List Sample), ((okSrc r.1) ∧ (r.1.code = s.code) ∧ (s.atx + 0 ≤ r.1.atx ∧ r.1.atx ≤ s.atx + 700) ∧ ((r.2.length : Int) ≤ most) ∧ (∀ x_ ∈ r.2, okSm p.Labels x_) ∧ (True)) ∧ CallOK Try.prog 80 [.ref 7001 0, .ptr false [slS false p.Labels, slLI false p.Weights], I most] (lookO [(7001, bxl00Src s)]) false (.arr 9311) (lookO [(7001, bxl00Src r.1), (9311, .arr 2 r.2.length (fSample true r.2))]) := by
    refine fn_okX (Φ := fun r : l00Src × (List Sample) => (okSrc r.1) ∧ (r.1.code = s.code) ∧ (s.atx + 0 ≤ r.1.atx ∧ r.1.atx ≤ s.atx + 700) ∧ ((r.2.length : Int) ≤ most) ∧ (∀ x_ ∈ r.2, okSm p.Labels x_) ∧ (True)) [(7001, bxl00Src s)] (fun r => [(7001, bxl00Src r.1), (9311, .arr 2 r.2.length (fSample true r.2))]) (fn := Try.f80) (nt := 45) Try.func80 rfl rfl (args := [.ref 7001 0, .ptr false [slS false p.Labels, slLI false p.Weights], I most]) rfl (allcons (.inr trivial) (allcons (.inl ⟨rfl, by simp [tagged, taggedL, tagLI, tagS]⟩) (allcons (.inl ⟨rfl, trivial⟩) allnil))) (res := fun r => .arr 9311) ?_
    refine xR [] [0, 1, 2] [7001] [.ref 7001 0, .ptr false [slS false p.Labels, slLI false p.Weights], I most] [some (bxl00Src s)] [] trivial ?_
    refine xR [(0, .new 10)] [0, 1, 2, 7] [10, 7001] [.ref 7001 0, .ptr false [slS false p.Labels, slLI false p.Weights], I most, .arr 10] [some (.arr 2 0 (litF [] 2)), some (bxl00Src s)] [] trivial ?_
    refine x_seq ?_
    refine x_seq ?_
    obtain ⟨v_1, s'_1, hx1_0, hx1_1, hx1_2, hx1_3, hc1⟩ := pick_ok s (most + 1) (by first | assumption | (simp only [okSrc] at *; simp_all; done)) (by omega)
    refine x_r [(3, .lend [(7001, bxl00Src s, bxl00Src s'_1)] [] [(true, .any), (true, .any)] true (I v_1))] [0, 1, 7, 8] [10, 7001] [.ref 7001 0, .ptr false [slS false p.Labels, slLI false p.Weights], .arr 10, I v_1] [some (.arr 2 0 (litF [] 2)), some (bxl00Src s'_1)] [inR .i64 (most + 1), CallOK Try.prog 32 [.ref 7001 0, I (most + 1)] (lookO [(7001, bxl00Src s)]) true (I v_1) (lookO [(7001, bxl00Src s'_1)]) ∧ (((bxl00Src s : Ob) = bxl00Src s ∨ obLe noOb true (bxl00Src s) (bxl00Src s)) ∧ taggedO false (bxl00Src s)) ∧ True] ⟨(inR_i64 (by omega) (by omega)), ⟨hc1, ⟨.inl rfl, (by simp [taggedO, taggedL, tagged, tagU8])⟩, trivial⟩, trivial⟩ ?_
    refine xe_then ?_
    refine x_block ?_
    refine x_weak [] (T := [(0, .ref 7001 0), (1, .ptr false [slS false p.Labels, slLI false p.Weights]), (7, .arr 10), (8, I v_1)]) (O := [(10, .arr 2 (([] : List Sample).length) (fSample true ([] : List Sample))), (7001, bxl00Src s'_1)]) rfl (⟨.inl rfl, .inl rfl, .inl rfl, .inl rfl, trivial⟩) (⟨.inr ⟨rfl, (by first | rfl | (simp; done) | (simp; omega) | omega), fun i_ hi_ => absurd hi_ (Nat.not_lt_zero _)⟩, .inl rfl, trivial⟩) ?_
    refine x_loop (X := (List Sample) × Int × l00Src) (fun x => mkS [(0, .ref 7001 0), (1, .ptr false [slS false p.Labels, slLI false p.Weights]), (7, .arr 10), (8, I x.2.1)] [(10, .arr 2 x.1.length (fSample true x.1)), (7001, bxl00Src x.2.2)]) (fun x => (okSrc x.2.2 ∧ x.2.2.code = s.code ∧ s.atx ≤ x.2.2.atx ∧ x.2.2.atx ≤ s.atx + 2 + 80 * (most - x.2.1)) ∧ (0 ≤ x.2.1 ∧ x.2.1 ≤ most) ∧ ((x.1.length : Int) + x.2.1 ≤ most) ∧ (∀ x_ ∈ x.1, okSm p.Labels x_) ∧ True) (fun x => x.2.1.toNat) (([] : List Sample), v_1, s'_1) rfl (show (okSrc s'_1 ∧ s'_1.code = s.code ∧ s.atx ≤ s'_1.atx ∧ s'_1.atx ≤ s.atx + 2 + 80 * (most - v_1)) ∧ (0 ≤ v_1 ∧ v_1 ≤ most) ∧ ((([] : List Sample).length : Int) + v_1 ≤ most) ∧ (∀ x_ ∈ ([] : List Sample), okSm p.Labels x_) ∧ True from ⟨(by exact ⟨by assumption, by first | assumption | rfl | (simp only [*]; done), by omega, by omega⟩), (by omega), (by simp; omega), (by (intro z hz; simp at hz)), trivial⟩) (fun x hI => ?_)
    obtain ⟨out, k, src⟩ := x
    obtain ⟨hs0, hk0, hol, hsm, _⟩ : (okSrc src ∧ src.code = s.code ∧ s.atx ≤ src.atx ∧ src.atx ≤ s.atx + 2 + 80 * (most - k)) ∧ (0 ≤ k ∧ k ≤ most) ∧ ((out.length : Int) + k ≤ most) ∧ (∀ x_ ∈ out, okSm p.Labels x_) ∧ True := hI
    show XW _ _ _ _ (mkS [(0, .ref 7001 0), (1, .ptr false [slS false p.Labels, slLI false p.Weights]), (7, .arr 10), (8, I k)] [(10, .arr 2 out.length (fSample true out)), (7001, bxl00Src src)]) _ _
    refine x_seq ?_
    refine x_seq ?_
    by_cases h1 : 0 < k
    ·refine x_r [(1, .dec true)] [0, 1, 7, 8, 16] [10, 7001] [.ref 7001 0, .ptr false [slS false p.Labels, slLI false p.Weights], .arr 10, I k, Bv true] [some (.arr 2 out.length (fSample true out)), some (bxl00Src src)] [0 < k] ⟨h1, trivial⟩ ?_
     refine xe_then ?_
     refine x_true rfl ?_
     refine x_skip ?_
     refine xe_then ?_
     refine x_seq ?_
     refine x_block ?_
     refine x_seq ?_
     obtain ⟨v_2, s'_2, hx2_0, hx2_1, hx2_2, hx2_3, hc2⟩ := pick_ok src (p.Labels.length : Int) (by first | assumption | (simp only [okSrc] at *; simp_all; done)) (by omega)
     refine x_r [(6, .lend [(7001, bxl00Src src, bxl00Src s'_2)] [] [(true, .any), (true, .any)] true (I v_2))] [0, 1, 7, 8, 9] [10, 7001] [.ref 7001 0, .ptr false [slS false p.Labels, slLI false p.Weights], .arr 10, I k, I v_2] [some (.arr 2 out.length (fSample true out)), some (bxl00Src s'_2)] [CallOK Try.prog 32 [.ref 7001 0, I (p.Labels.length : Int)] (lookO [(7001, bxl00Src src)]) true (I v_2) (lookO [(7001, bxl00Src s'_2)]) ∧ (((bxl00Src src : Ob) = bxl00Src src ∨ obLe noOb true (bxl00Src src) (bxl00Src src)) ∧ taggedO false (bxl00Src src)) ∧ True] ⟨⟨hc2, ⟨.inl rfl, (by simp [taggedO, taggedL, tagged, tagU8])⟩, trivial⟩, trivial⟩ ?_
     refine xe_then ?_
     obtain ⟨v_3, s'_3, hx3_0, hx3_1, hx3_2, hx3_3, hc3⟩ := pick_ok s'_2 8 (by first | assumption | (simp only [okSrc] at *; simp_all; done)) (by omega)
     obtain ⟨v_4, s'_4, hx4_0, hx4_1, hx4_2, hx4_3, hc4⟩ := l12Shape_ok s'_3 (v_2 + (v_3 / 7)) (by first | assumption | (simp only [okSrc] at *; simp_all; done)) (by omega) (by omega)
     have hsh := hx4_3
     refine x_r [(11, .lend [(7001, bxl00Src s'_2, bxl00Src s'_3)] [] [(true, .any), (true, .any)] true (I v_3)), (12, .nn), (14, .lend [(7001, bxl00Src s'_3, bxl00Src s'_4)] [] [(true, .any), (true, .any)] true (slFeat true v_4)), (16, .new 42), (17, .new 43)] [0, 1, 7, 8] [43, 7001] [.ref 7001 0, .ptr false [slS false p.Labels, slLI false p.Weights], .arr 43, I k] [some (.arr 2 (out.length + 1) (catF out.length (fSample true out) (litF [Sv (at_ p.Labels v_2.toNat), slFeat true v_4] 2))), some (bxl00Src s'_4)] [(0 : Int) ≤ v_2 ∧ v_2 < (p.Labels.length : Int), CallOK Try.prog 32 [.ref 7001 0, I 8] (lookO [(7001, bxl00Src s'_2)]) true (I v_3) (lookO [(7001, bxl00Src s'_3)]) ∧ (((bxl00Src s'_2 : Ob) = bxl00Src s'_2 ∨ obLe noOb true (bxl00Src s'_2) (bxl00Src s'_2)) ∧ taggedO false (bxl00Src s'_2)) ∧ True, (0 : Int) ≤ v_3 ∧ (0 : Int) < 7 ∧ inR .i64 v_3, inR .i64 (v_2 + (v_3 / 7)), CallOK Try.prog 31 [.ref 7001 0, I (v_2 + (v_3 / 7))] (lookO [(7001, bxl00Src s'_3)]) true (slFeat true v_4) (lookO [(7001, bxl00Src s'_4)]) ∧ (((bxl00Src s'_3 : Ob) = bxl00Src s'_3 ∨ obLe noOb true (bxl00Src s'_3) (bxl00Src s'_3)) ∧ taggedO false (bxl00Src s'_3)) ∧ True, (out.length + 1) * 40 ≤ 140737488355328] ⟨⟨(by omega), (by omega)⟩, ⟨hc3, ⟨.inl rfl, (by simp [taggedO, taggedL, tagged, tagU8])⟩, trivial⟩, ⟨(by omega), (by omega), (inR_i64 (by omega) (by omega))⟩, (inR_i64 (by omega) (by omega)), ⟨hc4, ⟨.inl rfl, (by simp [taggedO, taggedL, tagged, tagU8])⟩, trivial⟩, (by omega), trivial⟩ ?_
     refine xe_block 1 ?_
     refine xe_then ?_
     refine x_r [] [0, 1, 7, 8] [43, 7001] [.ref 7001 0, .ptr false [slS false p.Labels, slLI false p.Weights], .arr 43, I (k - 1)] [some (.arr 2 (out.length + 1) (catF out.length (fSample true out) (litF [Sv (at_ p.Labels v_2.toNat), slFeat true v_4] 2))), some (bxl00Src s'_4)] [inR .i64 (k - 1)] ⟨(inR_i64 (by omega) (by omega)), trivial⟩ ?_
     refine xe_weak [(10, 43)] (T := [(0, .ref 7001 0), (1, .ptr false [slS false p.Labels, slLI false p.Weights]), (7, .arr 10), (8, I (k - 1))]) (O := [(10, .arr 2 ((out ++ [(Sample.mk (at_ p.Labels v_2.toNat) v_4)]).length) (fSample true (out ++ [(Sample.mk (at_ p.Labels v_2.toNat) v_4)]))), (7001, bxl00Src s'_4)]) rfl (⟨.inl rfl, .inl rfl, .inl rfl, .inl rfl, trivial⟩) (⟨.inr ⟨rfl, (by first | rfl | (simp; done) | (simp; omega) | omega), fun i_ hi_ => .inl (cat_snoc (enc := (cSample true)) (xs := out) rfl i_ hi_)⟩, .inl rfl, trivial⟩) (xe_again ((out ++ [(Sample.mk (at_ p.Labels v_2.toNat) v_4)]), (k - 1), s'_4) rfl (show (okSrc s'_4 ∧ s'_4.code = s.code ∧ s.atx ≤ s'_4.atx ∧ s'_4.atx ≤ s.atx + 2 + 80 * (most - (k - 1))) ∧ (0 ≤ (k - 1) ∧ (k - 1) ≤ most) ∧ (((out ++ [(Sample.mk (at_ p.Labels v_2.toNat) v_4)]).length : Int) + (k - 1) ≤ most) ∧ (∀ x_ ∈ (out ++ [(Sample.mk (at_ p.Labels v_2.toNat) v_4)]), okSm p.Labels x_) ∧ True from ⟨(by exact ⟨by assumption, by first | assumption | rfl | (simp only [*]; done), by omega, by omega⟩), (by omega), (by simp; omega), (by exact all_snoc9 hsm ⟨at_mem (by omega), hsh⟩), trivial⟩) (by first | (show ((k - 1).toNat : Nat) < k.toNat; omega) | (dsimp only; omega)))
    refine x_r [(1, .dec false)] [0, 1, 7, 8, 16] [10, 7001] [.ref 7001 0, .ptr false [slS false p.Labels, slLI false p.Weights], .arr 10, I k, Bv false] [some (.arr 2 out.length (fSample true out)), some (bxl00Src src)] [¬ (0 < k)] ⟨h1, trivial⟩ ?_
    refine xe_then ?_
    refine x_false rfl ?_
    refine x_exit ?_
    refine xe_exit_then ?_
    refine xe_loop_exit ?_
    refine xe_exit_same ?_
    refine xe_then ?_
    refine xR [] [6] [10, 7001] [.arr 10] [some (.arr 2 out.length (fSample true out)), some (bxl00Src src)] [] trivial ?_
    refine x_ret ?_
    refine xe_weak [(9311, 10)] (T := [(6, .arr 9311)]) (O := [(7001, bxl00Src src), (9311, .arr 2 out.length (fSample true out))]) rfl (⟨.inl rfl, trivial⟩) (⟨.inl rfl, .inl rfl, trivial⟩) ?_
    refine xe_end (src, out) (show (okSrc src) ∧ (src.code = s.code) ∧ (s.atx + 0 ≤ src.atx ∧ src.atx ≤ s.atx + 700) ∧ ((out.length : Int) ≤ most) ∧ (∀ x_ ∈ out, okSm p.Labels x_) ∧ (True) from ⟨(by first | omega | exact hs0.1 | exact hs0.2.1 | exact hsm), (by first | omega | exact hs0.1 | exact hs0.2.1 | exact hsm), (by first | omega | exact hs0.1 | exact hs0.2.1 | exact hsm), (by first | omega | exact hs0.1 | exact hs0.2.1 | exact hsm), (by first | omega | exact hs0.1 | exact hs0.2.1 | exact hsm), trivial⟩) (⟨.inl rfl, .inl rfl, trivial⟩) (.arr 9311) (by kernel_rfl) (.inl rfl) (fun h => by cases h) (fun h => by cases h)
  obtain ⟨⟨s', sm⟩, ⟨hh0, hh1, hh2, hh3, hh4, _⟩, hc⟩ := hh
  exact ⟨s', sm, hh0, hh1, hh2, hh3, hh4, hc⟩




/-- The number in the middle, the lesser one of two. -/
def medI (xs : List Int) : Int := at_ (sortL xs) ((xs.length - 1) / 2)
theorem medI_mem {xs : List Int} (h : 1 ≤ xs.length) : medI xs ∈ xs := sortL_mem.1 (at_mem (by rw [sortL_len]; omega))

-- spec.l00Own
theorem l00Own_ok (list : List Int) (hl : list.length ≤ 100000) : ∃ (out : List Int), (out = list) ∧ CallOK Try.prog 81 [slI false list] (lookO []) false (.arr 8201) (lookO [(8201, .arr 1 out.length (fI out))]) := by
  have hh : ∃ r : (List Int), ((r = list) ∧ (True)) ∧ CallOK Try.prog 81 [slI false list] (lookO []) false (.arr 8201) (lookO [(8201, .arr 1 r.length (fI r))]) := by
    refine fn_okX (Φ := fun r : (List Int) => (r = list) ∧ (True)) [] (fun r => [(8201, .arr 1 r.length (fI r))]) (fn := Try.f81) (nt := 6) Try.func81 rfl rfl (args := [slI false list]) rfl (allcons (.inl ⟨rfl, tagI false _⟩) allnil) (res := fun r => .arr 8201) ?_
    refine xR [] [0] [] [slI false list] [] [] trivial ?_
    refine xR [(0, .new 3), (2, .new 5)] [2] [5] [.arr 5] [some (.arr 1 (0 + list.length) (catF 0 (litF [] 1) (fI list)))] [(0 + list.length) * 8 ≤ 140737488355328] ⟨(by omega), trivial⟩ ?_
    refine x_ret ?_
    refine xe_weak [(8201, 5)] (T := [(2, .arr 8201)]) (O := [(8201, .arr 1 list.length (fI list))]) rfl (⟨.inl rfl, trivial⟩) (⟨.inr ⟨rfl, (by first | rfl | (simp; done) | (simp; omega) | omega), fun i_ hi_ => .inl (cat_nil i_)⟩, trivial⟩) ?_
    refine xe_end list (show (list = list) ∧ (True) from ⟨(by first | rfl | simp), trivial⟩) (⟨.inl rfl, trivial⟩) (.arr 8201) (by kernel_rfl) (.inl rfl) (fun h => by cases h) (fun h => by cases h)
  obtain ⟨out, ⟨hh0, _⟩, hc⟩ := hh
  exact ⟨out, hh0, hc⟩


-- spec.l12Own
theorem l12Own_ok (p : Perceptron) (hb : (p.Labels.length ≤ 100 ∧ p.Weights.length ≤ 100) ∧ ∀ j, j < p.Weights.length → (at_ p.Weights j).length ≤ 100) : ∃ (ls : List ByteArray) (ws : List (List Int)), (ls = p.Labels) ∧ (ws = p.Weights) ∧ CallOK Try.prog 52 [.ptr false [slS false p.Labels, slLI false p.Weights]] (lookO []) false (.agg [.arr 9201, .arr 9202]) (lookO [(9201, .arr 1 ls.length (fS ls)), (9202, .oar [9203] 1 ws.length (oLI 9203 ws)), (9203, .fam ws.length 1 (mLI ws) (gLI ws))]) := by
  have hh : ∃ r : (List ByteArray) × (List (List Int)), ((r.1 = p.Labels) ∧ (r.2 = p.Weights) ∧ (True)) ∧ CallOK Try.prog 52 [.ptr false [slS false p.Labels, slLI false p.Weights]] (lookO []) false (.agg [.arr 9201, .arr 9202]) (lookO [(9201, .arr 1 r.1.length (fS r.1)), (9202, .oar [9203] 1 r.2.length (oLI 9203 r.2)), (9203, .fam r.2.length 1 (mLI r.2) (gLI r.2))]) := by
    refine fn_okX (Φ := fun r : (List ByteArray) × (List (List Int)) => (r.1 = p.Labels) ∧ (r.2 = p.Weights) ∧ (True)) [] (fun r => [(9201, .arr 1 r.1.length (fS r.1)), (9202, .oar [9203] 1 r.2.length (oLI 9203 r.2)), (9203, .fam r.2.length 1 (mLI r.2) (gLI r.2))]) (fn := Try.f52) (nt := 35) Try.func52 rfl rfl (args := [.ptr false [slS false p.Labels, slLI false p.Weights]]) rfl (allcons (.inl ⟨rfl, by simp [tagged, taggedL, tagLI, tagS]⟩) allnil) (res := fun r => .agg [.arr 9201, .arr 9202]) ?_
    refine xR [(0, .new 2)] [0, 2] [2] [.ptr false [slS false p.Labels, slLI false p.Weights], .ref 2 0] [some (.box [nilA, nilA])] [] trivial ?_
    refine xR [(0, .new 5), (5, .new 10), (7, .new 3)] [0, 2, 3] [2, 3, 10] [.ptr false [slS false p.Labels, slLI false p.Weights], .ref 2 0, .ref 3 0] [some (.box [nilA, nilA]), some (.box [.arr 10, nilA]), some (.arr 1 (0 + p.Labels.length) (catF 0 (litF [] 1) (fS p.Labels)))] [(0 + p.Labels.length) * 16 ≤ 140737488355328] ⟨(by omega), trivial⟩ ?_
    refine x_seq ?_
    refine xR [] [0, 2, 3, 4] [2, 3, 10] [.ptr false [slS false p.Labels, slLI false p.Weights], .ref 2 0, .ref 3 0, I 0] [some (.box [nilA, nilA]), some (.box [.arr 10, nilA]), some (.arr 1 (0 + p.Labels.length) (catF 0 (litF [] 1) (fS p.Labels)))] [] trivial ?_
    refine x_block ?_
    refine x_nilC 3 1 731 1 (fun _ => []) rfl (by kernel_rfl) ?_
    refine x_fam 9203 1 (fun _ => 0) (fun _ _ => []) (by kernel_rfl) ?_
    refine x_weak [] (T := [(0, .ptr false [slS false p.Labels, slLI false p.Weights]), (2, .ref 2 0), (3, .ref 3 0), (4, I 0)]) (O := [(2, .box [nilA, nilA]), (3, .box [.arr 10, .arr 731]), (10, .arr 1 (0 + p.Labels.length) (catF 0 (litF [] 1) (fS p.Labels))), (731, .oar [9203] 1 (([] : List (List Int)).length) (oLI 9203 ([] : List (List Int)))), (9203, .fam ([] : List (List Int)).length 1 (mLI ([] : List (List Int))) (gLI ([] : List (List Int))))]) rfl (⟨.inl rfl, .inl rfl, .inl rfl, .inl rfl, trivial⟩) (⟨.inl rfl, .inl rfl, .inl rfl, .inr ⟨rfl, rfl, fun i hi => absurd hi (Nat.not_lt_zero _)⟩, .inr ⟨rfl, rfl, fun p hp => absurd hp (Nat.not_lt_zero _)⟩, trivial⟩) ?_
    refine x_loop (X := Int × (List (List Int))) (fun x => mkS [(0, .ptr false [slS false p.Labels, slLI false p.Weights]), (2, .ref 2 0), (3, .ref 3 0), (4, I x.1)] [(2, .box [nilA, nilA]), (3, .box [.arr 10, .arr 731]), (10, .arr 1 (0 + p.Labels.length) (catF 0 (litF [] 1) (fS p.Labels))), (731, .oar [9203] 1 x.2.length (oLI 9203 x.2)), (9203, .fam x.2.length 1 (mLI x.2) (gLI x.2))]) (fun x => (0 ≤ x.1 ∧ x.1 ≤ (p.Weights.length : Int)) ∧ (x.2 = p.Weights.take x.1.toNat) ∧ ((x.2.length : Int) = x.1) ∧ True) (fun x => ((p.Weights.length : Int) - x.1).toNat) (0, ([] : List (List Int))) rfl (show (0 ≤ (0 : Int) ∧ (0 : Int) ≤ (p.Weights.length : Int)) ∧ (([] : List (List Int)) = p.Weights.take (0 : Int).toNat) ∧ ((([] : List (List Int)).length : Int) = (0 : Int)) ∧ True from ⟨(by omega), (by rfl), (by rfl), trivial⟩) (fun x hI => ?_)
    obtain ⟨i, ws⟩ := x
    obtain ⟨hi0, hws, hwl, _⟩ : (0 ≤ i ∧ i ≤ (p.Weights.length : Int)) ∧ (ws = p.Weights.take i.toNat) ∧ ((ws.length : Int) = i) ∧ True := hI
    show XW _ _ _ _ (mkS [(0, .ptr false [slS false p.Labels, slLI false p.Weights]), (2, .ref 2 0), (3, .ref 3 0), (4, I i)] [(2, .box [nilA, nilA]), (3, .box [.arr 10, .arr 731]), (10, .arr 1 (0 + p.Labels.length) (catF 0 (litF [] 1) (fS p.Labels))), (731, .oar [9203] 1 ws.length (oLI 9203 ws)), (9203, .fam ws.length 1 (mLI ws) (gLI ws))]) _ _
    refine x_seq ?_
    refine x_seq ?_
    by_cases h1 : i < (p.Weights.length : Int)
    ·have hi : i.toNat < p.Weights.length := by omega
     refine x_r [(6, .dec true)] [0, 2, 3, 4, 18] [2, 3, 10, 731, 9203] [.ptr false [slS false p.Labels, slLI false p.Weights], .ref 2 0, .ref 3 0, I i, Bv true] [some (.box [nilA, nilA]), some (.box [.arr 10, .arr 731]), some (.arr 1 (0 + p.Labels.length) (catF 0 (litF [] 1) (fS p.Labels))), some (.oar [9203] 1 ws.length (oLI 9203 ws)), some (.fam ws.length 1 (mLI ws) (gLI ws))] [i < (p.Weights.length : Int)] ⟨h1, trivial⟩ ?_
     refine xe_then ?_
     refine x_true rfl ?_
     refine x_skip ?_
     refine xe_then ?_
     refine x_seq ?_
     refine x_block ?_
     obtain ⟨out_1, hx1_0, hc1⟩ := l00Own_ok (at_ p.Weights i.toNat) (by have := hb.2 i.toNat hi; omega)
     have how := hx1_0
     refine x_r [(9, .lend [] [(8201, .arr 1 out_1.length (fI out_1))] [(true, .any)] false (.arr 8201)), (10, .new 31), (11, .new 32)] [0, 2, 3, 4] [2, 3, 10, 32, 8201, 9203] [.ptr false [slS false p.Labels, slLI false p.Weights], .ref 2 0, .ref 3 0, I i] [some (.box [nilA, nilA]), some (.box [.arr 10, .arr 32]), some (.arr 1 (0 + p.Labels.length) (catF 0 (litF [] 1) (fS p.Labels))), some (.oar [9203, 8201] 1 (ws.length + 1) (catF ws.length (oLI 9203 ws) (litF [.arr 8201] 1))), some (.arr 1 out_1.length (fI out_1)), some (.fam ws.length 1 (mLI ws) (gLI ws))] [(0 : Int) ≤ i ∧ i < (p.Weights.length : Int), CallOK Try.prog 81 [slI false (at_ p.Weights i.toNat)] (lookO []) false (.arr 8201) (lookO [(8201, .arr 1 out_1.length (fI out_1))]) ∧ True, (ws.length + 1) * 24 ≤ 140737488355328] ⟨⟨(by omega), (by omega)⟩, ⟨hc1, trivial⟩, (by omega), trivial⟩ ?_
     refine xe_block 1 ?_
     refine xe_then ?_
     refine x_r [] [0, 2, 3, 4] [2, 3, 10, 32, 8201, 9203] [.ptr false [slS false p.Labels, slLI false p.Weights], .ref 2 0, .ref 3 0, I (i + 1)] [some (.box [nilA, nilA]), some (.box [.arr 10, .arr 32]), some (.arr 1 (0 + p.Labels.length) (catF 0 (litF [] 1) (fS p.Labels))), some (.oar [9203, 8201] 1 (ws.length + 1) (catF ws.length (oLI 9203 ws) (litF [.arr 8201] 1))), some (.arr 1 out_1.length (fI out_1)), some (.fam ws.length 1 (mLI ws) (gLI ws))] [inR .i64 (i + 1)] ⟨(inR_i64 (by omega) (by omega)), trivial⟩ ?_
     refine xe_join 8201 9203 rfl rfl rfl ?_
     refine xe_weak [(731, 32)] (T := [(0, .ptr false [slS false p.Labels, slLI false p.Weights]), (2, .ref 2 0), (3, .ref 3 0), (4, I (i + 1))]) (O := [(2, .box [nilA, nilA]), (3, .box [.arr 10, .arr 731]), (10, .arr 1 (0 + p.Labels.length) (catF 0 (litF [] 1) (fS p.Labels))), (731, .oar [9203] 1 ((ws ++ [out_1]).length) (oLI 9203 (ws ++ [out_1]))), (9203, .fam (ws ++ [out_1]).length 1 (mLI (ws ++ [out_1])) (gLI (ws ++ [out_1])))]) rfl (⟨.inl rfl, .inl rfl, .inl rfl, .inl rfl, trivial⟩) (⟨.inl rfl, .inl rfl, .inl rfl, .inr ⟨rfl, rfl, (by simp), fun i hi => .inl (ocatLI rfl rfl rfl i hi)⟩, .inr (fcatLI out_1 (by first | rfl | (simp; done)) (fun i _ => rfl)), trivial⟩) (xe_again ((i + 1), (ws ++ [out_1])) rfl (show (0 ≤ (i + 1) ∧ (i + 1) ≤ (p.Weights.length : Int)) ∧ ((ws ++ [out_1]) = p.Weights.take (i + 1).toNat) ∧ (((ws ++ [out_1]).length : Int) = (i + 1)) ∧ True from ⟨(by omega), (by rw [hws, how, show (i + 1).toNat = i.toNat + 1 from by omega, take_snoc' hi]), (by simp; omega), trivial⟩) (by first | (show (((p.Weights.length : Int) - (i + 1)).toNat : Nat) < ((p.Weights.length : Int) - i).toNat; omega) | (dsimp only; omega)))
    have hie : i.toNat = p.Weights.length := by omega
    rw [hie, List.take_of_length_le (Nat.le_refl _)] at hws
    refine x_r [(6, .dec false)] [0, 2, 3, 4, 18] [2, 3, 10, 731, 9203] [.ptr false [slS false p.Labels, slLI false p.Weights], .ref 2 0, .ref 3 0, I i, Bv false] [some (.box [nilA, nilA]), some (.box [.arr 10, .arr 731]), some (.arr 1 (0 + p.Labels.length) (catF 0 (litF [] 1) (fS p.Labels))), some (.oar [9203] 1 ws.length (oLI 9203 ws)), some (.fam ws.length 1 (mLI ws) (gLI ws))] [¬ (i < (p.Weights.length : Int))] ⟨h1, trivial⟩ ?_
    refine xe_then ?_
    refine x_false rfl ?_
    refine x_exit ?_
    refine xe_exit_then ?_
    refine xe_loop_exit ?_
    refine xe_exit_same ?_
    refine xe_then ?_
    refine xR [] [2] [2, 10, 731, 9203] [.ref 2 0] [some (.box [.arr 10, .arr 731]), some (.arr 1 (0 + p.Labels.length) (catF 0 (litF [] 1) (fS p.Labels))), some (.oar [9203] 1 ws.length (oLI 9203 ws)), some (.fam ws.length 1 (mLI ws) (gLI ws))] [] trivial ?_
    refine x_ret ?_
    refine xe_weak [(9201, 10), (9202, 731)] (T := [(2, .ref 2 0)]) (O := [(2, .box [.arr 9201, .arr 9202]), (9201, .arr 1 p.Labels.length (fS p.Labels)), (9202, .oar [9203] 1 ws.length (oLI 9203 ws)), (9203, .fam ws.length 1 (mLI ws) (gLI ws))]) rfl (⟨.inl rfl, trivial⟩) (⟨.inl rfl, .inr ⟨rfl, (by first | rfl | (simp; done) | (simp; omega) | omega), fun i_ hi_ => .inl (cat_nil i_)⟩, .inl rfl, .inl rfl, trivial⟩) ?_
    refine xe_end (p.Labels, ws) (show (p.Labels = p.Labels) ∧ (ws = p.Weights) ∧ (True) from ⟨(by first | rfl | exact hws | (simp; done)), (by first | rfl | exact hws | (simp; done)), trivial⟩) (⟨.inl rfl, .inl rfl, .inl rfl, trivial⟩) (.agg [.arr 9201, .arr 9202]) (by kernel_rfl) (.inl rfl) (fun h => by cases h) (fun h => by cases h)
  obtain ⟨⟨ls, ws⟩, ⟨hh0, hh1, _⟩, hc⟩ := hh
  exact ⟨ls, ws, hh0, hh1, hc⟩


-- spec.l05Down
theorem l05Down_ok (n : Int) (d : Int) (hn : (-4611686018427387904 ≤ n ∧ n ≤ 4611686018427387904) ∧ 0 < d) : Con Try.prog 99 [I n, I d] true (I (n / d)) := by
  have hq := tdiv_bd n d
  have hs := down_spec n hn.2
  refine fn_ok (fn := Try.f99) (nt := 16) Try.func99 rfl rfl rfl rfl (by simp [taggedL, tagged]) fun B hB => ?_
  refine aR [] [0, 1] [] [I n, I d] [] [] hB trivial ?_
  refine aR [] [0, 1, 5] [] [I n, I d, I (Int.tdiv n d)] [] [(d : Int) ≠ 0 ∧ inR .i64 (Int.tdiv n d)] hB ⟨⟨by omega, (inR_i64 (by omega) (by omega))⟩, trivial⟩ ?_
  refine aw_seq ?_
  refine aw_seq ?_
  by_cases h1 : (Int.tmod n d) < 0
  ·refine aw_r [(3, .dec true)] [5, 12] [] [I (Int.tdiv n d), Bv true] [] [(d : Int) ≠ 0, (Int.tmod n d) < 0] hB ⟨(by omega), h1, trivial⟩ ?_
   refine ae_then ?_
   refine aw_true rfl ?_
   refine aw_r [] [5] [] [I ((Int.tdiv n d) - 1)] [] [inR .i64 ((Int.tdiv n d) - 1)] hB ⟨(inR_i64 (by omega) (by omega)), trivial⟩ ?_
   refine ae_then ?_
   refine aR [] [4] [] [I ((Int.tdiv n d) - 1)] [] [] hB trivial ?_
   refine aw_ret ?_
   refine ae_ret hB (I ((Int.tdiv n d) - 1)) (by kernel_rfl) (.inl (by refine congrArg I ?_; first | exact hs.1 (by assumption) | exact hs.2 (by assumption))) rfl (fun _ => trivial)
  refine aw_r [(3, .dec false)] [5, 12] [] [I (Int.tdiv n d), Bv false] [] [(d : Int) ≠ 0, ¬ ((Int.tmod n d) < 0)] hB ⟨(by omega), h1, trivial⟩ ?_
  refine ae_then ?_
  refine aw_false rfl ?_
  refine aw_skip ?_
  refine ae_then ?_
  refine aR [] [4] [] [I (Int.tdiv n d)] [] [] hB trivial ?_
  refine aw_ret ?_
  refine ae_ret hB (I (Int.tdiv n d)) (by kernel_rfl) (.inl (by refine congrArg I ?_; first | exact hs.1 (by assumption) | exact hs.2 (by assumption))) rfl (fun _ => trivial)


-- spec.l05Near
theorem l05Near_ok (n : Int) (d : Int) (hn : (-1000000000000000000 ≤ n ∧ n ≤ 1000000000000000000) ∧ 0 < d ∧ d ≤ 1000000000000000000) : Con Try.prog 75 [I n, I d] true (I (nearI n d)) := by
  refine fn_ok (fn := Try.f75) (nt := 12) Try.func75 rfl rfl rfl rfl (by simp [taggedL, tagged]) fun B hB => ?_
  refine aR [] [0, 1] [] [I n, I d] [] [] hB trivial ?_
  refine aR [(6, .call [(true, .any), (true, .any)] true (I (((2 * n) + d) / (2 * d))))] [4] [] [I (((2 * n) + d) / (2 * d))] [] [inR .i64 (2 * n), inR .i64 ((2 * n) + d), inR .i64 (2 * d), Con Try.prog 99 [I ((2 * n) + d), I (2 * d)] true (I (((2 * n) + d) / (2 * d))) ∧ True] hB ⟨(inR_i64 (by omega) (by omega)), (inR_i64 (by omega) (by omega)), (inR_i64 (by omega) (by omega)), ⟨(l05Down_ok ((2 * n) + d) (2 * d) (by omega)), trivial⟩, trivial⟩ ?_
  refine aw_ret ?_
  refine ae_ret hB (I (((2 * n) + d) / (2 * d))) (by kernel_rfl) (.inl (by rfl)) rfl (fun _ => trivial)


-- spec.l12Input
theorem l12Input_ok (feats : List Feat) (hok : okFeats feats 384 = true) : ∃ (v : List Int), (v = inpR feats) ∧ Con Try.prog 41 [slFeat false feats] true (slI true v) := by
  have hfn := okFeats_n hok
  have hh : ∃ r : (List Int), ((r = inpR feats) ∧ (True)) ∧ CallOK Try.prog 41 [slFeat false feats] (lookO []) true (slI true r) (lookO []) := by
    refine fn_okX (Φ := fun r : (List Int) => (r = inpR feats) ∧ (True)) [] (fun r => []) (fn := Try.f41) (nt := 59) Try.func41 rfl rfl (args := [slFeat false feats]) rfl (allcons (.inl ⟨rfl, tagFeat false _⟩) allnil) (res := fun r => slI true r) ?_
    refine xR [] [0] [] [slFeat false feats] [] [] trivial ?_
    refine xR [(0, .new 8)] [0, 3] [8] [slFeat false feats, .arr 8] [some (.arr 1 25 (fun _ => [I 0]))] [(0 : Int) ≤ 25 ∧ (25 : Int) ≤ 25 ∧ (8 : Int) * 25 ≤ 281474976710656 ∧ (25 : Int) ≤ 9223372036854775807] ⟨⟨(by omega), (by omega), (by omega), (by omega)⟩, trivial⟩ ?_
    refine x_seq ?_
    refine xR [] [0, 3, 4] [8] [slFeat false feats, .arr 8, I 0] [some (.arr 1 25 (fun _ => [I 0]))] [] trivial ?_
    refine x_block ?_
    refine x_weak [] (T := [(0, slFeat false feats), (3, .arr 8), (4, I 0)]) (O := [(8, .arr 1 ((List.replicate 25 (0 : Int)).length) (fI (List.replicate 25 (0 : Int))))]) rfl (⟨.inl rfl, .inl rfl, .inl rfl, trivial⟩) (⟨.inr ⟨rfl, (by first | rfl | (simp; done) | (simp; omega) | omega), fun i_ hi_ => .inl (const_enc (enc := cI) rfl i_ hi_)⟩, trivial⟩) ?_
    refine x_loop (X := Int × (List Int)) (fun x => mkS [(0, slFeat false feats), (3, .arr 8), (4, I x.1)] [(8, .arr 1 x.2.length (fI x.2))]) (fun x => (0 ≤ x.1 ∧ x.1 ≤ (feats.length : Int)) ∧ (x.2 = inpC feats x.1.toNat) ∧ (x.2.length = 25) ∧ True) (fun x => ((feats.length : Int) - x.1).toNat) (0, (List.replicate 25 (0 : Int))) rfl (show (0 ≤ (0 : Int) ∧ (0 : Int) ≤ (feats.length : Int)) ∧ ((List.replicate 25 (0 : Int)) = inpC feats (0 : Int).toNat) ∧ ((List.replicate 25 (0 : Int)).length = 25) ∧ True from ⟨(by omega), (by rfl), (by rfl), trivial⟩) (fun x hI => ?_)
    obtain ⟨i, ys⟩ := x
    obtain ⟨hi0, hys, hyl, _⟩ : (0 ≤ i ∧ i ≤ (feats.length : Int)) ∧ (ys = inpC feats i.toNat) ∧ (ys.length = 25) ∧ True := hI
    show XW _ _ _ _ (mkS [(0, slFeat false feats), (3, .arr 8), (4, I i)] [(8, .arr 1 ys.length (fI ys))]) _ _
    refine x_seq ?_
    refine x_seq ?_
    by_cases h1 : i < (feats.length : Int)
    ·have hi : i.toNat < feats.length := by omega
     have hf := okF_iff.1 (okFeats_at hok hi)
     have hbb : ∀ j_, 0 ≤ at_ ys j_ ∧ at_ ys j_ ≤ 2 * i := fun j_ => by rw [hys]; have := inpC_bd feats i.toNat j_; omega
     have hb1 := hbb (at_ feats i.toNat).D.toNat
     refine x_r [(3, .dec true)] [0, 3, 4, 12] [8] [slFeat false feats, .arr 8, I i, Bv true] [some (.arr 1 ys.length (fI ys))] [i < (feats.length : Int)] ⟨h1, trivial⟩ ?_
     refine xe_then ?_
     refine x_true rfl ?_
     refine x_skip ?_
     refine xe_then ?_
     refine x_seq ?_
     refine x_block ?_
     refine xR [(4, .new 5)] [0, 3, 4, 5] [5, 8] [slFeat false feats, .arr 8, I i, .ref 5 0] [some (bxFeat (at_ feats i.toNat)), some (.arr 1 ys.length (fI ys))] [(0 : Int) ≤ i ∧ i < (feats.length : Int)] ⟨⟨(by omega), (by omega)⟩, trivial⟩ ?_
     refine xR [] [0, 3, 4, 5] [5, 8] [slFeat false feats, .arr 8, I i, .ref 5 0] [some (bxFeat (at_ feats i.toNat)), some (.arr 1 ys.length (fun q => bif Nat.beq q (((at_ feats i.toNat).D).toNat) then [I ((at_ ys (((at_ feats i.toNat).D).toNat)) + 1)] else (fI ys) q))] [(0 : Int) ≤ ((at_ feats i.toNat).D) ∧ ((at_ feats i.toNat).D) < (ys.length : Int), ((at_ feats i.toNat).D).toNat < ys.length, inR .i64 ((at_ ys (((at_ feats i.toNat).D).toNat)) + 1), (0 : Int) ≤ ((at_ feats i.toNat).D) ∧ ((at_ feats i.toNat).D) < (ys.length : Int), ((at_ feats i.toNat).D).toNat < ys.length] ⟨⟨(by omega), (by omega)⟩, (by omega), (inR_i64 (by omega) (by omega)), ⟨(by omega), (by omega)⟩, (by omega), trivial⟩ ?_
     refine x_weak [] (T := [(0, slFeat false feats), (3, .arr 8), (4, I i), (5, .ref 5 0)]) (O := [(5, bxFeat (at_ feats i.toNat)), (8, .arr 1 ((ys.set (((at_ feats i.toNat).D).toNat) ((at_ ys (((at_ feats i.toNat).D).toNat)) + 1)).length) (fI (ys.set (((at_ feats i.toNat).D).toNat) ((at_ ys (((at_ feats i.toNat).D).toNat)) + 1))))]) rfl (⟨.inl rfl, .inl rfl, .inl rfl, .inl rfl, trivial⟩) (⟨.inl rfl, .inr ⟨rfl, (by first | rfl | (simp; done) | (simp; omega) | omega), fun i_ hi_ => .inl (upd_enc (enc := cI) rfl i_ hi_)⟩, trivial⟩) ?_
     refine x_r [(3, .nn), (8, .nn)] [0, 3, 4] [8] [slFeat false feats, .arr 8, I i] [some (.arr 1 ((ys.set (((at_ feats i.toNat).D).toNat) ((at_ ys (((at_ feats i.toNat).D).toNat)) + 1)).length) (fun q => bif Nat.beq q (((8 + ((((at_ feats i.toNat).Y) / 64) * 4)) + (((at_ feats i.toNat).X) / 64)).toNat) then [I ((at_ (ys.set (((at_ feats i.toNat).D).toNat) ((at_ ys (((at_ feats i.toNat).D).toNat)) + 1)) (((8 + ((((at_ feats i.toNat).Y) / 64) * 4)) + (((at_ feats i.toNat).X) / 64)).toNat)) + 1)] else (fI (ys.set (((at_ feats i.toNat).D).toNat) ((at_ ys (((at_ feats i.toNat).D).toNat)) + 1))) q))] [(0 : Int) ≤ ((at_ feats i.toNat).Y) ∧ (0 : Int) < 64 ∧ inR .i64 ((at_ feats i.toNat).Y), inR .i64 ((((at_ feats i.toNat).Y) / 64) * 4), inR .i64 (8 + ((((at_ feats i.toNat).Y) / 64) * 4)), (0 : Int) ≤ ((at_ feats i.toNat).X) ∧ (0 : Int) < 64 ∧ inR .i64 ((at_ feats i.toNat).X), inR .i64 ((8 + ((((at_ feats i.toNat).Y) / 64) * 4)) + (((at_ feats i.toNat).X) / 64)), (0 : Int) ≤ ((8 + ((((at_ feats i.toNat).Y) / 64) * 4)) + (((at_ feats i.toNat).X) / 64)) ∧ ((8 + ((((at_ feats i.toNat).Y) / 64) * 4)) + (((at_ feats i.toNat).X) / 64)) < (((ys.set (((at_ feats i.toNat).D).toNat) ((at_ ys (((at_ feats i.toNat).D).toNat)) + 1)).length : Nat) : Int), ((8 + ((((at_ feats i.toNat).Y) / 64) * 4)) + (((at_ feats i.toNat).X) / 64)).toNat < (ys.set (((at_ feats i.toNat).D).toNat) ((at_ ys (((at_ feats i.toNat).D).toNat)) + 1)).length, inR .i64 ((at_ (ys.set (((at_ feats i.toNat).D).toNat) ((at_ ys (((at_ feats i.toNat).D).toNat)) + 1)) (((8 + ((((at_ feats i.toNat).Y) / 64) * 4)) + (((at_ feats i.toNat).X) / 64)).toNat)) + 1), (0 : Int) ≤ ((8 + ((((at_ feats i.toNat).Y) / 64) * 4)) + (((at_ feats i.toNat).X) / 64)) ∧ ((8 + ((((at_ feats i.toNat).Y) / 64) * 4)) + (((at_ feats i.toNat).X) / 64)) < (((ys.set (((at_ feats i.toNat).D).toNat) ((at_ ys (((at_ feats i.toNat).D).toNat)) + 1)).length : Nat) : Int), ((8 + ((((at_ feats i.toNat).Y) / 64) * 4)) + (((at_ feats i.toNat).X) / 64)).toNat < (ys.set (((at_ feats i.toNat).D).toNat) ((at_ ys (((at_ feats i.toNat).D).toNat)) + 1)).length] ⟨⟨(by omega), (by omega), (inR_i64 (by omega) (by omega))⟩, (inR_i64 (by omega) (by omega)), (inR_i64 (by omega) (by omega)), ⟨(by omega), (by omega), (inR_i64 (by omega) (by omega))⟩, (inR_i64 (by omega) (by omega)), ⟨(by first | omega | (simp only [List.length_set]; omega)), (by first | omega | (simp only [List.length_set]; omega))⟩, (by first | omega | (simp only [List.length_set]; omega)), (by have q1 := hbb (((8 + ((((at_ feats i.toNat).Y) / 64) * 4)) + (((at_ feats i.toNat).X) / 64)).toNat); have q2 := hbb (at_ feats i.toNat).D.toNat; simp only [at_set]; split <;> exact inR_i64 (by omega) (by omega)), ⟨(by first | omega | (simp only [List.length_set]; omega)), (by first | omega | (simp only [List.length_set]; omega))⟩, (by first | omega | (simp only [List.length_set]; omega)), trivial⟩ ?_
     refine xe_block 1 ?_
     refine xe_then ?_
     refine x_weak [] (T := [(0, slFeat false feats), (3, .arr 8), (4, I i)]) (O := [(8, .arr 1 (((ys.set (((at_ feats i.toNat).D).toNat) ((at_ ys (((at_ feats i.toNat).D).toNat)) + 1)).set (((8 + ((((at_ feats i.toNat).Y) / 64) * 4)) + (((at_ feats i.toNat).X) / 64)).toNat) ((at_ (ys.set (((at_ feats i.toNat).D).toNat) ((at_ ys (((at_ feats i.toNat).D).toNat)) + 1)) (((8 + ((((at_ feats i.toNat).Y) / 64) * 4)) + (((at_ feats i.toNat).X) / 64)).toNat)) + 1)).length) (fI ((ys.set (((at_ feats i.toNat).D).toNat) ((at_ ys (((at_ feats i.toNat).D).toNat)) + 1)).set (((8 + ((((at_ feats i.toNat).Y) / 64) * 4)) + (((at_ feats i.toNat).X) / 64)).toNat) ((at_ (ys.set (((at_ feats i.toNat).D).toNat) ((at_ ys (((at_ feats i.toNat).D).toNat)) + 1)) (((8 + ((((at_ feats i.toNat).Y) / 64) * 4)) + (((at_ feats i.toNat).X) / 64)).toNat)) + 1))))]) rfl (⟨.inl rfl, .inl rfl, .inl rfl, trivial⟩) (⟨.inr ⟨rfl, (by first | rfl | (simp; done) | (simp; omega) | omega), fun i_ hi_ => .inl (upd_enc (enc := cI) rfl i_ hi_)⟩, trivial⟩) ?_
     refine x_r [] [0, 3, 4] [8] [slFeat false feats, .arr 8, I (i + 1)] [some (.arr 1 (((ys.set (((at_ feats i.toNat).D).toNat) ((at_ ys (((at_ feats i.toNat).D).toNat)) + 1)).set (((8 + ((((at_ feats i.toNat).Y) / 64) * 4)) + (((at_ feats i.toNat).X) / 64)).toNat) ((at_ (ys.set (((at_ feats i.toNat).D).toNat) ((at_ ys (((at_ feats i.toNat).D).toNat)) + 1)) (((8 + ((((at_ feats i.toNat).Y) / 64) * 4)) + (((at_ feats i.toNat).X) / 64)).toNat)) + 1)).length) (fI ((ys.set (((at_ feats i.toNat).D).toNat) ((at_ ys (((at_ feats i.toNat).D).toNat)) + 1)).set (((8 + ((((at_ feats i.toNat).Y) / 64) * 4)) + (((at_ feats i.toNat).X) / 64)).toNat) ((at_ (ys.set (((at_ feats i.toNat).D).toNat) ((at_ ys (((at_ feats i.toNat).D).toNat)) + 1)) (((8 + ((((at_ feats i.toNat).Y) / 64) * 4)) + (((at_ feats i.toNat).X) / 64)).toNat)) + 1))))] [inR .i64 (i + 1)] ⟨(inR_i64 (by omega) (by omega)), trivial⟩ ?_
     exact xe_again ((i + 1), ((ys.set (((at_ feats i.toNat).D).toNat) ((at_ ys (((at_ feats i.toNat).D).toNat)) + 1)).set (((8 + ((((at_ feats i.toNat).Y) / 64) * 4)) + (((at_ feats i.toNat).X) / 64)).toNat) ((at_ (ys.set (((at_ feats i.toNat).D).toNat) ((at_ ys (((at_ feats i.toNat).D).toNat)) + 1)) (((8 + ((((at_ feats i.toNat).Y) / 64) * 4)) + (((at_ feats i.toNat).X) / 64)).toNat)) + 1))) rfl (show (0 ≤ (i + 1) ∧ (i + 1) ≤ (feats.length : Int)) ∧ (((ys.set (((at_ feats i.toNat).D).toNat) ((at_ ys (((at_ feats i.toNat).D).toNat)) + 1)).set (((8 + ((((at_ feats i.toNat).Y) / 64) * 4)) + (((at_ feats i.toNat).X) / 64)).toNat) ((at_ (ys.set (((at_ feats i.toNat).D).toNat) ((at_ ys (((at_ feats i.toNat).D).toNat)) + 1)) (((8 + ((((at_ feats i.toNat).Y) / 64) * 4)) + (((at_ feats i.toNat).X) / 64)).toNat)) + 1)) = inpC feats (i + 1).toNat) ∧ (((ys.set (((at_ feats i.toNat).D).toNat) ((at_ ys (((at_ feats i.toNat).D).toNat)) + 1)).set (((8 + ((((at_ feats i.toNat).Y) / 64) * 4)) + (((at_ feats i.toNat).X) / 64)).toNat) ((at_ (ys.set (((at_ feats i.toNat).D).toNat) ((at_ ys (((at_ feats i.toNat).D).toNat)) + 1)) (((8 + ((((at_ feats i.toNat).Y) / 64) * 4)) + (((at_ feats i.toNat).X) / 64)).toNat)) + 1)).length = 25) ∧ True from ⟨(by omega), (by rw [inpC_1 hi0.1, ← hys]; rfl), (by simp only [List.length_set]; exact hyl), trivial⟩) (by first | (show (((feats.length : Int) - (i + 1)).toNat : Nat) < ((feats.length : Int) - i).toNat; omega) | (dsimp only; omega))
    have hie : i.toNat = feats.length := by omega
    rw [hie] at hys
    refine x_r [(3, .dec false)] [0, 3, 4, 12] [8] [slFeat false feats, .arr 8, I i, Bv false] [some (.arr 1 ys.length (fI ys))] [¬ (i < (feats.length : Int))] ⟨h1, trivial⟩ ?_
    refine xe_then ?_
    refine x_false rfl ?_
    refine x_exit ?_
    refine xe_exit_then ?_
    refine xe_loop_exit ?_
    refine xe_exit_same ?_
    refine xe_then ?_
    refine xR [] [3, 6] [8] [.arr 8, I (feats.length : Int)] [some (.arr 1 ys.length (fI ys))] [] trivial ?_
    refine x_seq ?_
    refine xR [] [3, 6, 7] [8] [.arr 8, I (feats.length : Int), I 0] [some (.arr 1 ys.length (fI ys))] [] trivial ?_
    refine x_block ?_
    refine x_loop (X := Int × (List Int)) (fun x => mkS [(3, .arr 8), (6, I (feats.length : Int)), (7, I x.1)] [(8, .arr 1 x.2.length (fI x.2))]) (fun x => (0 ≤ x.1 ∧ x.1 ≤ (24 : Int)) ∧ (x.2 = inpN (inpC feats feats.length) (feats.length : Int) x.1.toNat) ∧ (x.2.length = 25) ∧ True) (fun x => ((24 : Int) - x.1).toNat) (0, ys) rfl (show (0 ≤ (0 : Int) ∧ (0 : Int) ≤ (24 : Int)) ∧ (ys = inpN (inpC feats feats.length) (feats.length : Int) (0 : Int).toNat) ∧ (ys.length = 25) ∧ True from ⟨(by omega), (by exact hys), (by exact hyl), trivial⟩) (fun x hI => ?_)
    obtain ⟨i', zs⟩ := x
    obtain ⟨hj0, hzs, hzl, _⟩ : (0 ≤ i' ∧ i' ≤ (24 : Int)) ∧ (zs = inpN (inpC feats feats.length) (feats.length : Int) i'.toNat) ∧ (zs.length = 25) ∧ True := hI
    show XW _ _ _ _ (mkS [(3, .arr 8), (6, I (feats.length : Int)), (7, I i')] [(8, .arr 1 zs.length (fI zs))]) _ _
    refine x_seq ?_
    refine x_seq ?_
    by_cases h2 : i' < 24
    ·have hi2 : i'.toNat < zs.length := by omega
     have hzb := inpC_bd feats feats.length i'.toNat
     have hze : at_ zs i'.toNat = at_ (inpC feats feats.length) i'.toNat := by rw [hzs]; exact (inpN_bd (n := (feats.length : Int)) (by omega) (inpC_bd feats feats.length) i'.toNat i'.toNat).1 (Nat.le_refl _)
     refine x_r [(1, .dec true)] [3, 6, 7, 43] [8] [.arr 8, I (feats.length : Int), I i', Bv true] [some (.arr 1 zs.length (fI zs))] [i' < 24] ⟨h2, trivial⟩ ?_
     refine xe_then ?_
     refine x_true rfl ?_
     refine x_skip ?_
     refine xe_then ?_
     refine x_seq ?_
     refine x_block ?_
     refine x_r [(8, .call [(true, .any), (true, .any)] true (I (nearI (256 * (at_ zs i'.toNat)) (feats.length : Int))))] [3, 6, 7] [8] [.arr 8, I (feats.length : Int), I i'] [some (.arr 1 zs.length (fun q => bif Nat.beq q i'.toNat then [I (nearI (256 * (at_ zs i'.toNat)) (feats.length : Int))] else (fI zs) q))] [(0 : Int) ≤ i' ∧ i' < (zs.length : Int), i'.toNat < zs.length, inR .i64 (256 * (at_ zs i'.toNat)), Con Try.prog 75 [I (256 * (at_ zs i'.toNat)), I (feats.length : Int)] true (I (nearI (256 * (at_ zs i'.toNat)) (feats.length : Int))) ∧ True, (0 : Int) ≤ i' ∧ i' < (zs.length : Int), i'.toNat < zs.length] ⟨⟨(by omega), (by omega)⟩, (by omega), (inR_i64 (by omega) (by omega)), ⟨(l05Near_ok (256 * (at_ zs i'.toNat)) (feats.length : Int) (by omega)), trivial⟩, ⟨(by omega), (by omega)⟩, (by omega), trivial⟩ ?_
     refine xe_block 3 ?_
     refine xe_then ?_
     refine x_weak [] (T := [(3, .arr 8), (6, I (feats.length : Int)), (7, I i')]) (O := [(8, .arr 1 ((zs.set i'.toNat (nearI (256 * (at_ zs i'.toNat)) (feats.length : Int))).length) (fI (zs.set i'.toNat (nearI (256 * (at_ zs i'.toNat)) (feats.length : Int)))))]) rfl (⟨.inl rfl, .inl rfl, .inl rfl, trivial⟩) (⟨.inr ⟨rfl, (by first | rfl | (simp; done) | (simp; omega) | omega), fun i_ hi_ => .inl (upd_enc (enc := cI) rfl i_ hi_)⟩, trivial⟩) ?_
     refine x_r [] [3, 6, 7] [8] [.arr 8, I (feats.length : Int), I (i' + 1)] [some (.arr 1 ((zs.set i'.toNat (nearI (256 * (at_ zs i'.toNat)) (feats.length : Int))).length) (fI (zs.set i'.toNat (nearI (256 * (at_ zs i'.toNat)) (feats.length : Int)))))] [inR .i64 (i' + 1)] ⟨(inR_i64 (by omega) (by omega)), trivial⟩ ?_
     exact xe_again ((i' + 1), (zs.set i'.toNat (nearI (256 * (at_ zs i'.toNat)) (feats.length : Int)))) rfl (show (0 ≤ (i' + 1) ∧ (i' + 1) ≤ (24 : Int)) ∧ ((zs.set i'.toNat (nearI (256 * (at_ zs i'.toNat)) (feats.length : Int))) = inpN (inpC feats feats.length) (feats.length : Int) (i' + 1).toNat) ∧ ((zs.set i'.toNat (nearI (256 * (at_ zs i'.toNat)) (feats.length : Int))).length = 25) ∧ True from ⟨(by omega), (by first | (rw [inpN_1 hj0.1, ← hzs]; done) | (rw [inpN_1 hj0.1, ← hzs, Int.mul_comm 256])), (by simp only [List.length_set]; exact hzl), trivial⟩) (by first | (show (((24 : Int) - (i' + 1)).toNat : Nat) < ((24 : Int) - i').toNat; omega) | (dsimp only; omega))
    have hie2 : i'.toNat = 24 := by omega
    rw [hie2] at hzs
    refine x_r [(1, .dec false)] [3, 6, 7, 43] [8] [.arr 8, I (feats.length : Int), I i', Bv false] [some (.arr 1 zs.length (fI zs))] [¬ (i' < 24)] ⟨h2, trivial⟩ ?_
    refine xe_then ?_
    refine x_false rfl ?_
    refine x_exit ?_
    refine xe_exit_then ?_
    refine xe_loop_exit ?_
    refine xe_exit_same ?_
    refine xe_then ?_
    refine xR [] [3] [8] [.arr 8] [some (.arr 1 zs.length (fun q => bif Nat.beq q 24 then [I 256] else (fI zs) q))] [(0 : Int) ≤ 24 ∧ 24 < (zs.length : Int), 24 < zs.length] ⟨⟨(by omega), (by omega)⟩, (by omega), trivial⟩ ?_
    refine x_seq ?_
    refine x_weak [] (T := [(3, .arr 8)]) (O := [(8, .arr 1 ((zs.set 24 256).length) (fI (zs.set 24 256)))]) rfl (⟨.inl rfl, trivial⟩) (⟨.inr ⟨rfl, (by first | rfl | (simp; done) | (simp; omega) | omega), fun i_ hi_ => .inl (upd_enc (enc := cI) rfl i_ hi_)⟩, trivial⟩) ?_
    refine x_r [] [2] [8] [.arr 8] [some (.arr 1 ((zs.set 24 256).length) (fI (zs.set 24 256)))] [] trivial ?_
    refine xe_then ?_
    refine x_ret ?_
    refine xe_end (zs.set 24 256) (show ((zs.set 24 256) = inpR feats) ∧ (True) from ⟨(by rw [hzs, inpR_def]), trivial⟩) (trivial) (.arr 8) (by kernel_rfl) (.inr ⟨(fun _ => rfl), rfl, rfl, fun i _ => .inl rfl⟩) (fun _ => rfl) (fun _ => (tagI true _))
  obtain ⟨v, ⟨hh0, _⟩, hc⟩ := hh
  exact ⟨v, hh0, hc⟩

end Go.Proofs.Ytblhhmcplocepaa.Ax
