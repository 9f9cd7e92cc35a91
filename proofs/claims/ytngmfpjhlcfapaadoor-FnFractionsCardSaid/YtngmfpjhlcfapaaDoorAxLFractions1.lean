/- Contracts that the statement FnFractions reaches, part 1. No conditions. -/
import Derived.Test.YtngmfpjhlcfapaaDoorAxO
import Derived.Test.YtngmfpjhlcfapaaDoorShelf
import Derived.Test.YtngmfpjhlcfapaaDoorTie
import Derived.Test.YtngmfpjhlcfapaaDoorCards
import Derived.LaidMore
import Derived.Lay
import Derived.Lib.ItoaNum
import Derived.OpenShut
import Derived.SevenTiedAt
import Derived.Stop.Joined
namespace Go.Proofs.YtngmfpjhlcfapaaDoor.Ax
open Go.RowKit Go.ChangeShapes Go.WideShapes
set_option linter.unusedVariables false
set_option linter.unusedSimpArgs false


def cU8 (x : Int) : List AV := [.val (.int .u8 x)]
def fU8 (xs : List Int) (i : Nat) : List AV := cU8 (at_ xs i)
def slU8 (fr : Bool) (xs : List Int) : AV := .sl fr 1 xs.length (fU8 xs)
theorem tagcU8 (t : Bool) (x : Int) : taggedL t (cU8 x) := by simp [cU8, taggedL, tagged]
theorem tagU8 (t : Bool) (xs : List Int) : tagged t (slU8 t xs) := by simp only [slU8, tagged]; exact ⟨trivial, fun i _ => tagcU8 t _⟩
theorem lenU8 (fr : Bool) (xs : List Int) : lenA noOb (slU8 fr xs) = some xs.length := rfl
def cI (x : Int) : List AV := [I x]
def fI (xs : List Int) (i : Nat) : List AV := cI (at_ xs i)
def slI (fr : Bool) (xs : List Int) : AV := .sl fr 1 xs.length (fI xs)
theorem tagcI (t : Bool) (x : Int) : taggedL t (cI x) := by simp [cI, taggedL, tagged]
theorem tagI (t : Bool) (xs : List Int) : tagged t (slI t xs) := by simp only [slI, tagged]; exact ⟨trivial, fun i _ => tagcI t _⟩
theorem lenI (fr : Bool) (xs : List Int) : lenA noOb (slI fr xs) = some xs.length := rfl
structure Fraction where
  Num : Int
  Den : Int
deriving DecidableEq, Inhabited
def cFraction (x : Fraction) : List AV := [I x.Num, I x.Den]
def fFraction (xs : List Fraction) (i : Nat) : List AV := cFraction (at_ xs i)
def slFraction (fr : Bool) (xs : List Fraction) : AV := .sl fr 2 xs.length (fFraction xs)
theorem tagcFraction (t : Bool) (x : Fraction) : taggedL t (cFraction x) := by simp [cFraction, taggedL, tagged]
theorem tagFraction (t : Bool) (xs : List Fraction) : tagged t (slFraction t xs) := by simp only [slFraction, tagged]; exact ⟨trivial, fun i _ => tagcFraction t _⟩
theorem lenFraction (fr : Bool) (xs : List Fraction) : lenA noOb (slFraction fr xs) = some xs.length := rfl
def cLU8 (fr : Bool) (x : List Int) : List AV := [slU8 fr x]
def fLU8 (fr : Bool) (xs : List (List Int)) (i : Nat) : List AV := cLU8 fr (at_ xs i)
def slLU8 (fr : Bool) (xs : List (List Int)) : AV := .sl fr 1 xs.length (fLU8 fr xs)
theorem tagcLU8 (t : Bool) (x : List Int) : taggedL t (cLU8 t x) := by simp [cLU8, taggedL, tagged, tagU8]
theorem tagLU8 (t : Bool) (xs : List (List Int)) : tagged t (slLU8 t xs) := by simp only [slLU8, tagged]; exact ⟨trivial, fun i _ => tagcLU8 t _⟩
theorem lenLU8 (fr : Bool) (xs : List (List Int)) : lenA noOb (slLU8 fr xs) = some xs.length := rfl
theorem idsLU8 (fr : Bool) (x : List Int) : AV.idsL (cLU8 fr x) = [] := rfl
theorem leLU8 (fr : Bool) (x : List Int) (ob : Nat → Option Ob) : leL ob false (cLU8 fr x) (cLU8 false x) := (And.intro (And.intro (fun h => by cases h) (And.intro rfl (And.intro rfl (fun i _ => .inl rfl)))) rfl)
def cU64 (x : Int) : List AV := [.val (.int .u64 x)]
def fU64 (xs : List Int) (i : Nat) : List AV := cU64 (at_ xs i)
def slU64 (fr : Bool) (xs : List Int) : AV := .sl fr 1 xs.length (fU64 xs)
theorem tagcU64 (t : Bool) (x : Int) : taggedL t (cU64 x) := by simp [cU64, taggedL, tagged]
theorem tagU64 (t : Bool) (xs : List Int) : tagged t (slU64 t xs) := by simp only [slU64, tagged]; exact ⟨trivial, fun i _ => tagcU64 t _⟩
theorem lenU64 (fr : Bool) (xs : List Int) : lenA noOb (slU64 fr xs) = some xs.length := rfl
structure l00Src where
  code : List Int
  atx : Int
  seed : Int
deriving DecidableEq, Inhabited
def cl00Src (fr : Bool) (x : l00Src) : List AV := [slU8 fr x.code, I x.atx, .val (.int .u64 x.seed)]
def fl00Src (fr : Bool) (xs : List l00Src) (i : Nat) : List AV := cl00Src fr (at_ xs i)
def sll00Src (fr : Bool) (xs : List l00Src) : AV := .sl fr 3 xs.length (fl00Src fr xs)
theorem tagcl00Src (t : Bool) (x : l00Src) : taggedL t (cl00Src t x) := by simp [cl00Src, taggedL, tagged, tagU8]
theorem tagl00Src (t : Bool) (xs : List l00Src) : tagged t (sll00Src t xs) := by simp only [sll00Src, tagged]; exact ⟨trivial, fun i _ => tagcl00Src t _⟩
theorem lenl00Src (fr : Bool) (xs : List l00Src) : lenA noOb (sll00Src fr xs) = some xs.length := rfl
theorem idsl00Src (fr : Bool) (x : l00Src) : AV.idsL (cl00Src fr x) = [] := rfl
theorem lel00Src (fr : Bool) (x : l00Src) (ob : Nat → Option Ob) : leL ob false (cl00Src fr x) (cl00Src false x) := (And.intro (And.intro (fun h => by cases h) (And.intro rfl (And.intro rfl (fun i _ => .inl rfl)))) (And.intro rfl (And.intro rfl rfl)))

-- laws.f6big
theorem f6big_ok (code : List Int) : Con Tryd.prog 5 [slU8 false code] true (Bv (decide (4096 < (code.length : Int)))) := by
  refine fn_ok (fn := Tryd.f5) (nt := 6) Tryd.func5 rfl rfl rfl rfl (by simp [taggedL, tagged, tagU8]) fun B hB => ?_
  refine aw_lens (x := slU8 false code) 0 rfl (fun len_code => ?_)
  simp [LenOK, LenL, cU8, fU8, slU8] at len_code
  refine aw_seq ?_
  refine aw_reg [] [0] [] [slU8 false code] [] [] (by kernel_rfl) hB trivial ?_
  refine ae_then ?_
  refine aw_seq ?_
  refine aw_reg [] [2] [] [Bv (decide (4096 < (code.length : Int)))] [] [] (by kernel_rfl) hB trivial ?_
  refine ae_then ?_
  refine aw_ret ?_
  refine ae_ret hB (Bv (decide (4096 < (code.length : Int)))) (by kernel_rfl) (.inl rfl) rfl (fun _ => trivial)


theorem set_at {α : Type} [Inhabited α] {ys xs : List α} {i : Int} (hl : ys.length = xs.length) (hi : i.toNat < xs.length) (h : ∀ j : Nat, (j : Int) < i → at_ ys j = at_ xs j) (j : Nat) (hj : j ≤ i.toNat) : at_ (ys.set i.toNat (at_ xs i.toNat)) j = at_ xs j := by
  by_cases e : i.toNat = j
  · subst e; simp [at_, hl, hi]
  · have := h j (by omega)
    simp only [at_] at this ⊢
    rw [← this]
    simp [e]
/-- Whether two things are the same. -/
def same {α : Type} [DecidableEq α] (x y : α) : Bool := decide (x = y)
theorem same_iff {α : Type} [DecidableEq α] {x y : α} : same x y = true ↔ x = y := by simp [same]
theorem ext_at {α : Type} [Inhabited α] {xs ys : List α} (hl : xs.length = ys.length) (h : ∀ j : Nat, j < xs.length → at_ xs j = at_ ys j) : xs = ys := by
  apply List.ext_getElem hl
  intro i h1 h2
  rw [← at_eq h1, ← at_eq h2]
  exact h i h1

theorem at_mem {α : Type} [Inhabited α] {xs : List α} {i : Nat} (h : i < xs.length) : at_ xs i ∈ xs := by rw [at_eq h]; exact List.getElem_mem h

/-- Whether p holds of all numbers below n. -/
def allN (n : Nat) (p : Nat → Bool) : Bool := (List.range n).all p
def anyN (n : Nat) (p : Nat → Bool) : Bool := !(allN n fun j => !(p j))
theorem allN_iff {n : Nat} {p : Nat → Bool} : allN n p = true ↔ ∀ j, j < n → p j = true := by simp [allN, List.all_eq_true]
theorem allN_at {n : Nat} {p : Nat → Bool} (h : ∀ j, j < n → p j = true) : allN n p = true := allN_iff.2 h
theorem allN_get {n : Nat} {p : Nat → Bool} (h : allN n p = true) {k : Nat} (hk : k < n) : p k = true := allN_iff.1 h k hk
theorem allN_not {n : Nat} {p : Nat → Bool} {k : Nat} (hk : k < n) (h : p k = false) : allN n p = false := by
  rw [← Bool.not_eq_true, allN_iff]; intro h'; rw [h' k hk] at h; cases h
theorem anyN_not (n : Nat) (p : Nat → Bool) : anyN n (fun j => !(p j)) = !(allN n p) := by simp [anyN]
theorem anyN_at {n : Nat} {p : Nat → Bool} {k : Nat} (hk : k < n) (h : p k = true) : anyN n p = true := by
  unfold anyN; rw [allN_not hk (by simp [h])]; rfl
theorem anyN_none {n : Nat} {p : Nat → Bool} (h : ∀ j, j < n → p j = false) : anyN n p = false := by
  unfold anyN; rw [allN_at (fun j hj => by simp [h j hj])]; rfl
theorem anyN_iff {n : Nat} {p : Nat → Bool} : anyN n p = true ↔ ∃ j, j < n ∧ p j = true := by
  constructor
  · intro h
    apply Classical.byContradiction
    intro hn
    rw [anyN_none (fun j hj => by rw [← Bool.not_eq_true]; exact fun hp => hn ⟨j, hj, hp⟩)] at h
    cases h
  · rintro ⟨j, hj, hp⟩; exact anyN_at hj hp
theorem up_to {n : Int} {p : Nat → Prop} {i : Int} (hi : 0 ≤ i) (h : ∀ j : Nat, (j : Int) < i → p j) (hp : p i.toNat) : ∀ j : Nat, (j : Int) < i + 1 → p j := fun j hj => by
  by_cases e : j = i.toNat
  · subst e; exact hp
  · exact h j (by omega)

/-- The source of choices is in order: its bytes are bytes, and its place is a number. -/
def okSrc (s : l00Src) : Prop := (∀ j, j < s.code.length → 0 ≤ at_ s.code j ∧ at_ s.code j ≤ 255) ∧ 0 ≤ s.atx ∧ s.code.length ≤ 4611686018427387904
theorem u64_wrap (n : Int) : 0 ≤ IntKind.u64.wrap n ∧ IntKind.u64.wrap n ≤ 18446744073709551615 := by
  simp only [IntKind.wrap, IntKind.signed, IntKind.bits]
  simp
  omega
theorem and_255 (a : Int) : 0 ≤ bitsI .and .u64 a 255 ∧ bitsI .and .u64 a 255 ≤ 255 := by
  obtain ⟨n, hn⟩ : ∃ n : Nat, n = (BitVec.ofInt 64 a &&& BitVec.ofInt 64 255).toNat := ⟨_, rfl⟩
  have h : n ≤ 255 := by rw [hn, BitVec.toNat_and]; exact Nat.and_le_right
  have e : bitsI .and .u64 a 255 = IntKind.u64.wrap (n : Int) := by rw [hn]; rfl
  have w : IntKind.u64.wrap (n : Int) = n := wrap_in (inR_u64 (by omega) (by omega))
  rw [e, w]; omega

-- spec.l00From
theorem l00From_ok (code : List Int) : ∃ (s' : l00Src), (s'.code = code ∧ s'.atx = 0) ∧ CallOK Tryd.prog 35 [slU8 false code] (lookO []) false (.ref 7001 0) (lookO [(7001, .box [slU8 false s'.code, I s'.atx, .val (.int .u64 s'.seed)])]) := by
  have hh : ∃ r : l00Src, ((r.code = code ∧ r.atx = 0) ∧ (True)) ∧ CallOK Tryd.prog 35 [slU8 false code] (lookO []) false (.ref 7001 0) (lookO [(7001, .box [slU8 false r.code, I r.atx, .val (.int .u64 r.seed)])]) := by
    refine fn_okX (Φ := fun r : l00Src => (r.code = code ∧ r.atx = 0) ∧ (True)) [] (fun r => [(7001, .box [slU8 false r.code, I r.atx, .val (.int .u64 r.seed)])]) (fn := Tryd.f35) (nt := 6) Tryd.func35 rfl rfl (args := [slU8 false code]) rfl (allcons (.inl ⟨rfl, tagU8 false _⟩) allnil) (res := fun r => .ref 7001 0) ?_
    refine x_seq ?_
    refine x_reg [] [0] [] [slU8 false code] [] [] (by kernel_rfl) trivial ?_
    refine xe_then ?_
    refine x_seq ?_
    refine x_reg [(2, .new 7001)] [2] [7001] [.ref 7001 0] [some (.box [slU8 false code, I 0, .val (.int .u64 0)])] [] (by kernel_rfl) trivial ?_
    refine xe_then ?_
    refine x_ret ?_
    refine xe_end (l00Src.mk code 0 0) (show ((l00Src.mk code 0 0).code = code ∧ (l00Src.mk code 0 0).atx = 0) ∧ (True) from ⟨(by first | rfl | (exact ⟨rfl, rfl⟩)), trivial⟩) (⟨.inl rfl, trivial⟩) (.ref 7001 0) (by kernel_rfl) (.inl rfl) (fun h => by cases h) (fun h => by cases h)
  obtain ⟨s', ⟨hh0, _⟩, hc⟩ := hh
  exact ⟨s', hh0, hc⟩


-- spec.l00Src).next
theorem next_ok (s : l00Src) (hs : okSrc s) (ha : s.atx ≤ 4000000000000000000) : ∃ (v : Int) (s' : l00Src), (0 ≤ v ∧ v ≤ 255) ∧ (okSrc s') ∧ (s'.code = s.code) ∧ (s.atx + 1 ≤ s'.atx ∧ s'.atx ≤ s.atx + 1) ∧ CallOK Tryd.prog 55 [.ref 7001 0] (lookO [(7001, .box [slU8 false s.code, I s.atx, .val (.int .u64 s.seed)])]) true (I v) (lookO [(7001, .box [slU8 false s'.code, I s'.atx, .val (.int .u64 s'.seed)])]) := by
  have hs0 := hs.2.1
  have hs1 := hs.2.2
  have hh : ∃ r : Int × l00Src, ((0 ≤ r.1 ∧ r.1 ≤ 255) ∧ (okSrc r.2) ∧ (r.2.code = s.code) ∧ (s.atx + 1 ≤ r.2.atx ∧ r.2.atx ≤ s.atx + 1) ∧ (True)) ∧ CallOK Tryd.prog 55 [.ref 7001 0] (lookO [(7001, .box [slU8 false s.code, I s.atx, .val (.int .u64 s.seed)])]) true (I r.1) (lookO [(7001, .box [slU8 false r.2.code, I r.2.atx, .val (.int .u64 r.2.seed)])]) := by
    refine fn_okX (Φ := fun r : Int × l00Src => (0 ≤ r.1 ∧ r.1 ≤ 255) ∧ (okSrc r.2) ∧ (r.2.code = s.code) ∧ (s.atx + 1 ≤ r.2.atx ∧ r.2.atx ≤ s.atx + 1) ∧ (True)) [(7001, .box [slU8 false s.code, I s.atx, .val (.int .u64 s.seed)])] (fun r => [(7001, .box [slU8 false r.2.code, I r.2.atx, .val (.int .u64 r.2.seed)])]) (fn := Tryd.f55) (nt := 62) Tryd.func55 rfl rfl (args := [.ref 7001 0]) rfl (allcons (.inr ⟨_, _, rfl⟩) allnil) (res := fun r => I r.1) ?_
    refine x_seq ?_
    refine x_reg [] [0] [7001] [.ref 7001 0] [some (.box [slU8 false s.code, I s.atx, .val (.int .u64 s.seed)])] [] (by kernel_rfl) trivial ?_
    refine xe_then ?_
    refine x_seq ?_
    refine x_reg [] [0, 3] [7001] [.ref 7001 0, I 0] [some (.box [slU8 false s.code, I s.atx, .val (.int .u64 s.seed)])] [] (by kernel_rfl) trivial ?_
    refine xe_then ?_
    refine x_seq ?_
    refine x_seq ?_
    by_cases h1 : s.atx < (s.code.length : Int)
    · have hbt := hs.1 s.atx.toNat (by omega)
      refine x_reg [(9, .dec true)] [0, 3, 13] [7001] [.ref 7001 0, I 0, Bv true] [some (.box [slU8 false s.code, I s.atx, .val (.int .u64 s.seed)])] [s.atx < (s.code.length : Int)] (by kernel_rfl) ⟨h1, trivial⟩ ?_
      refine xe_then ?_
      refine x_true rfl ?_
      refine x_reg [] [0, 3] [7001] [.ref 7001 0, I (at_ s.code s.atx.toNat)] [some (.box [slU8 false s.code, I s.atx, .val (.int .u64 s.seed)])] [(0 : Int) ≤ s.atx ∧ s.atx < (s.code.length : Int), inR .i64 (at_ s.code s.atx.toNat)] (by kernel_rfl) ⟨⟨(by omega), (by omega)⟩, (inR_i64 (by omega) (by omega)), trivial⟩ ?_
      refine xe_then ?_
      refine x_seq ?_
      refine x_reg [] [0, 3] [7001] [.ref 7001 0, I (at_ s.code s.atx.toNat)] [some (.box [slU8 false s.code, I (s.atx + 1), .val (.int .u64 s.seed)])] [inR .i64 (s.atx + 1)] (by kernel_rfl) ⟨(inR_i64 (by omega) (by omega)), trivial⟩ ?_
      refine xe_then ?_
      refine x_seq ?_
      refine x_reg [(5, .wrap), (8, .wrap), (9, .wrap)] [0, 3] [7001] [.ref 7001 0, I (at_ s.code s.atx.toNat)] [some (.box [slU8 false s.code, I (s.atx + 1), .val (.int .u64 (IntKind.u64.wrap ((IntKind.u64.wrap ((IntKind.u64.wrap (s.seed * 6364136223846793005)) + (at_ s.code s.atx.toNat))) + 1442695040888963407)))])] [inR .u64 (at_ s.code s.atx.toNat)] (by kernel_rfl) ⟨(inR_u64 (by omega) (by omega)), trivial⟩ ?_
      refine xe_then ?_
      refine x_seq ?_
      refine x_seq ?_
      by_cases h2 : (s.atx + 1) ≤ (s.code.length : Int)
      · refine x_reg [(9, .dec true)] [0, 3, 53] [7001] [.ref 7001 0, I (at_ s.code s.atx.toNat), Bv true] [some (.box [slU8 false s.code, I (s.atx + 1), .val (.int .u64 (IntKind.u64.wrap ((IntKind.u64.wrap ((IntKind.u64.wrap (s.seed * 6364136223846793005)) + (at_ s.code s.atx.toNat))) + 1442695040888963407)))])] [(s.atx + 1) ≤ (s.code.length : Int)] (by kernel_rfl) ⟨h2, trivial⟩ ?_
        refine xe_then ?_
        refine x_true rfl ?_
        refine x_seq ?_
        refine x_reg [] [2] [7001] [I (at_ s.code s.atx.toNat)] [some (.box [slU8 false s.code, I (s.atx + 1), .val (.int .u64 (IntKind.u64.wrap ((IntKind.u64.wrap ((IntKind.u64.wrap (s.seed * 6364136223846793005)) + (at_ s.code s.atx.toNat))) + 1442695040888963407)))])] [] (by kernel_rfl) trivial ?_
        refine xe_then ?_
        refine x_ret ?_
        refine xe_ret_then ?_
        refine xe_end ((at_ s.code s.atx.toNat), (l00Src.mk s.code (s.atx + 1) (IntKind.u64.wrap ((IntKind.u64.wrap ((IntKind.u64.wrap (s.seed * 6364136223846793005)) + (at_ s.code s.atx.toNat))) + 1442695040888963407)))) (show (0 ≤ (at_ s.code s.atx.toNat) ∧ (at_ s.code s.atx.toNat) ≤ 255) ∧ (okSrc (l00Src.mk s.code (s.atx + 1) (IntKind.u64.wrap ((IntKind.u64.wrap ((IntKind.u64.wrap (s.seed * 6364136223846793005)) + (at_ s.code s.atx.toNat))) + 1442695040888963407)))) ∧ ((l00Src.mk s.code (s.atx + 1) (IntKind.u64.wrap ((IntKind.u64.wrap ((IntKind.u64.wrap (s.seed * 6364136223846793005)) + (at_ s.code s.atx.toNat))) + 1442695040888963407))).code = s.code) ∧ (s.atx + 1 ≤ (l00Src.mk s.code (s.atx + 1) (IntKind.u64.wrap ((IntKind.u64.wrap ((IntKind.u64.wrap (s.seed * 6364136223846793005)) + (at_ s.code s.atx.toNat))) + 1442695040888963407))).atx ∧ (l00Src.mk s.code (s.atx + 1) (IntKind.u64.wrap ((IntKind.u64.wrap ((IntKind.u64.wrap (s.seed * 6364136223846793005)) + (at_ s.code s.atx.toNat))) + 1442695040888963407))).atx ≤ s.atx + 1) ∧ (True) from ⟨(by first | omega | rfl | assumption | (dsimp only; first | omega | rfl | assumption) | (simp only [*]; done) | exact ⟨hs.1, (by dsimp only; omega), hs1⟩), (by first | omega | rfl | assumption | (dsimp only; first | omega | rfl | assumption) | (simp only [*]; done) | exact ⟨hs.1, (by dsimp only; omega), hs1⟩), (by first | omega | rfl | assumption | (dsimp only; first | omega | rfl | assumption) | (simp only [*]; done) | exact ⟨hs.1, (by dsimp only; omega), hs1⟩), (by first | omega | rfl | assumption | (dsimp only; first | omega | rfl | assumption) | (simp only [*]; done) | exact ⟨hs.1, (by dsimp only; omega), hs1⟩), trivial⟩) (⟨.inl rfl, trivial⟩) (I (at_ s.code s.atx.toNat)) (by kernel_rfl) (.inl rfl) (fun _ => rfl) (fun _ => trivial)
      · refine x_reg [(9, .dec false)] [0, 3, 53] [7001] [.ref 7001 0, I (at_ s.code s.atx.toNat), Bv false] [some (.box [slU8 false s.code, I (s.atx + 1), .val (.int .u64 (IntKind.u64.wrap ((IntKind.u64.wrap ((IntKind.u64.wrap (s.seed * 6364136223846793005)) + (at_ s.code s.atx.toNat))) + 1442695040888963407)))])] [¬ ((s.atx + 1) ≤ (s.code.length : Int))] (by kernel_rfl) ⟨h2, trivial⟩ ?_
        refine xe_then ?_
        refine x_false rfl ?_
        refine x_skip ?_
        refine xe_then ?_
        refine x_seq ?_
        have hb1 := and_255 ((IntKind.u64.wrap ((IntKind.u64.wrap ((IntKind.u64.wrap (s.seed * 6364136223846793005)) + (at_ s.code s.atx.toNat))) + 1442695040888963407)) / 1099511627776)
        refine x_reg [] [2] [7001] [I (bitsI .and .u64 ((IntKind.u64.wrap ((IntKind.u64.wrap ((IntKind.u64.wrap (s.seed * 6364136223846793005)) + (at_ s.code s.atx.toNat))) + 1442695040888963407)) / 1099511627776) 255)] [some (.box [slU8 false s.code, I (s.atx + 1), .val (.int .u64 (IntKind.u64.wrap ((IntKind.u64.wrap ((IntKind.u64.wrap (s.seed * 6364136223846793005)) + (at_ s.code s.atx.toNat))) + 1442695040888963407)))])] [(0 : Int) ≤ 40 ∧ (40 : Int) ≤ ((IntKind.bits .u64 : Nat) : Int), inR .i64 (bitsI .and .u64 ((IntKind.u64.wrap ((IntKind.u64.wrap ((IntKind.u64.wrap (s.seed * 6364136223846793005)) + (at_ s.code s.atx.toNat))) + 1442695040888963407)) / 1099511627776) 255)] (by kernel_rfl) ⟨⟨(by decide), (by decide)⟩, (inR_i64 (by omega) (by omega)), trivial⟩ ?_
        refine xe_then ?_
        refine x_ret ?_
        refine xe_end ((bitsI .and .u64 ((IntKind.u64.wrap ((IntKind.u64.wrap ((IntKind.u64.wrap (s.seed * 6364136223846793005)) + (at_ s.code s.atx.toNat))) + 1442695040888963407)) / 1099511627776) 255), (l00Src.mk s.code (s.atx + 1) (IntKind.u64.wrap ((IntKind.u64.wrap ((IntKind.u64.wrap (s.seed * 6364136223846793005)) + (at_ s.code s.atx.toNat))) + 1442695040888963407)))) (show (0 ≤ (bitsI .and .u64 ((IntKind.u64.wrap ((IntKind.u64.wrap ((IntKind.u64.wrap (s.seed * 6364136223846793005)) + (at_ s.code s.atx.toNat))) + 1442695040888963407)) / 1099511627776) 255) ∧ (bitsI .and .u64 ((IntKind.u64.wrap ((IntKind.u64.wrap ((IntKind.u64.wrap (s.seed * 6364136223846793005)) + (at_ s.code s.atx.toNat))) + 1442695040888963407)) / 1099511627776) 255) ≤ 255) ∧ (okSrc (l00Src.mk s.code (s.atx + 1) (IntKind.u64.wrap ((IntKind.u64.wrap ((IntKind.u64.wrap (s.seed * 6364136223846793005)) + (at_ s.code s.atx.toNat))) + 1442695040888963407)))) ∧ ((l00Src.mk s.code (s.atx + 1) (IntKind.u64.wrap ((IntKind.u64.wrap ((IntKind.u64.wrap (s.seed * 6364136223846793005)) + (at_ s.code s.atx.toNat))) + 1442695040888963407))).code = s.code) ∧ (s.atx + 1 ≤ (l00Src.mk s.code (s.atx + 1) (IntKind.u64.wrap ((IntKind.u64.wrap ((IntKind.u64.wrap (s.seed * 6364136223846793005)) + (at_ s.code s.atx.toNat))) + 1442695040888963407))).atx ∧ (l00Src.mk s.code (s.atx + 1) (IntKind.u64.wrap ((IntKind.u64.wrap ((IntKind.u64.wrap (s.seed * 6364136223846793005)) + (at_ s.code s.atx.toNat))) + 1442695040888963407))).atx ≤ s.atx + 1) ∧ (True) from ⟨(by first | omega | rfl | assumption | (dsimp only; first | omega | rfl | assumption) | (simp only [*]; done) | exact ⟨hs.1, (by dsimp only; omega), hs1⟩), (by first | omega | rfl | assumption | (dsimp only; first | omega | rfl | assumption) | (simp only [*]; done) | exact ⟨hs.1, (by dsimp only; omega), hs1⟩), (by first | omega | rfl | assumption | (dsimp only; first | omega | rfl | assumption) | (simp only [*]; done) | exact ⟨hs.1, (by dsimp only; omega), hs1⟩), (by first | omega | rfl | assumption | (dsimp only; first | omega | rfl | assumption) | (simp only [*]; done) | exact ⟨hs.1, (by dsimp only; omega), hs1⟩), trivial⟩) (⟨.inl rfl, trivial⟩) (I (bitsI .and .u64 ((IntKind.u64.wrap ((IntKind.u64.wrap ((IntKind.u64.wrap (s.seed * 6364136223846793005)) + (at_ s.code s.atx.toNat))) + 1442695040888963407)) / 1099511627776) 255)) (by kernel_rfl) (.inl rfl) (fun _ => rfl) (fun _ => trivial)
    · refine x_reg [(9, .dec false)] [0, 3, 13] [7001] [.ref 7001 0, I 0, Bv false] [some (.box [slU8 false s.code, I s.atx, .val (.int .u64 s.seed)])] [¬ (s.atx < (s.code.length : Int))] (by kernel_rfl) ⟨h1, trivial⟩ ?_
      refine xe_then ?_
      refine x_false rfl ?_
      refine x_skip ?_
      refine xe_then ?_
      refine x_seq ?_
      refine x_reg [] [0, 3] [7001] [.ref 7001 0, I 0] [some (.box [slU8 false s.code, I (s.atx + 1), .val (.int .u64 s.seed)])] [inR .i64 (s.atx + 1)] (by kernel_rfl) ⟨(inR_i64 (by omega) (by omega)), trivial⟩ ?_
      refine xe_then ?_
      refine x_seq ?_
      refine x_reg [(5, .wrap), (8, .wrap), (9, .wrap)] [0, 3] [7001] [.ref 7001 0, I 0] [some (.box [slU8 false s.code, I (s.atx + 1), .val (.int .u64 (IntKind.u64.wrap ((IntKind.u64.wrap ((IntKind.u64.wrap (s.seed * 6364136223846793005)) + 0)) + 1442695040888963407)))])] [inR .u64 0] (by kernel_rfl) ⟨(inR_u64 (by omega) (by omega)), trivial⟩ ?_
      refine xe_then ?_
      refine x_seq ?_
      refine x_seq ?_
      by_cases h3 : (s.atx + 1) ≤ (s.code.length : Int)
      · refine x_reg [(9, .dec true)] [0, 3, 53] [7001] [.ref 7001 0, I 0, Bv true] [some (.box [slU8 false s.code, I (s.atx + 1), .val (.int .u64 (IntKind.u64.wrap ((IntKind.u64.wrap ((IntKind.u64.wrap (s.seed * 6364136223846793005)) + 0)) + 1442695040888963407)))])] [(s.atx + 1) ≤ (s.code.length : Int)] (by kernel_rfl) ⟨h3, trivial⟩ ?_
        refine xe_then ?_
        refine x_true rfl ?_
        refine x_seq ?_
        refine x_reg [] [2] [7001] [I 0] [some (.box [slU8 false s.code, I (s.atx + 1), .val (.int .u64 (IntKind.u64.wrap ((IntKind.u64.wrap ((IntKind.u64.wrap (s.seed * 6364136223846793005)) + 0)) + 1442695040888963407)))])] [] (by kernel_rfl) trivial ?_
        refine xe_then ?_
        refine x_ret ?_
        refine xe_ret_then ?_
        refine xe_end (0, (l00Src.mk s.code (s.atx + 1) (IntKind.u64.wrap ((IntKind.u64.wrap ((IntKind.u64.wrap (s.seed * 6364136223846793005)) + 0)) + 1442695040888963407)))) (show (0 ≤ 0 ∧ 0 ≤ 255) ∧ (okSrc (l00Src.mk s.code (s.atx + 1) (IntKind.u64.wrap ((IntKind.u64.wrap ((IntKind.u64.wrap (s.seed * 6364136223846793005)) + 0)) + 1442695040888963407)))) ∧ ((l00Src.mk s.code (s.atx + 1) (IntKind.u64.wrap ((IntKind.u64.wrap ((IntKind.u64.wrap (s.seed * 6364136223846793005)) + 0)) + 1442695040888963407))).code = s.code) ∧ (s.atx + 1 ≤ (l00Src.mk s.code (s.atx + 1) (IntKind.u64.wrap ((IntKind.u64.wrap ((IntKind.u64.wrap (s.seed * 6364136223846793005)) + 0)) + 1442695040888963407))).atx ∧ (l00Src.mk s.code (s.atx + 1) (IntKind.u64.wrap ((IntKind.u64.wrap ((IntKind.u64.wrap (s.seed * 6364136223846793005)) + 0)) + 1442695040888963407))).atx ≤ s.atx + 1) ∧ (True) from ⟨(by first | omega | rfl | assumption | (dsimp only; first | omega | rfl | assumption) | (simp only [*]; done) | exact ⟨hs.1, (by dsimp only; omega), hs1⟩), (by first | omega | rfl | assumption | (dsimp only; first | omega | rfl | assumption) | (simp only [*]; done) | exact ⟨hs.1, (by dsimp only; omega), hs1⟩), (by first | omega | rfl | assumption | (dsimp only; first | omega | rfl | assumption) | (simp only [*]; done) | exact ⟨hs.1, (by dsimp only; omega), hs1⟩), (by first | omega | rfl | assumption | (dsimp only; first | omega | rfl | assumption) | (simp only [*]; done) | exact ⟨hs.1, (by dsimp only; omega), hs1⟩), trivial⟩) (⟨.inl rfl, trivial⟩) (I 0) (by kernel_rfl) (.inl rfl) (fun _ => rfl) (fun _ => trivial)
      · refine x_reg [(9, .dec false)] [0, 3, 53] [7001] [.ref 7001 0, I 0, Bv false] [some (.box [slU8 false s.code, I (s.atx + 1), .val (.int .u64 (IntKind.u64.wrap ((IntKind.u64.wrap ((IntKind.u64.wrap (s.seed * 6364136223846793005)) + 0)) + 1442695040888963407)))])] [¬ ((s.atx + 1) ≤ (s.code.length : Int))] (by kernel_rfl) ⟨h3, trivial⟩ ?_
        refine xe_then ?_
        refine x_false rfl ?_
        refine x_skip ?_
        refine xe_then ?_
        refine x_seq ?_
        have hb2 := and_255 ((IntKind.u64.wrap ((IntKind.u64.wrap ((IntKind.u64.wrap (s.seed * 6364136223846793005)) + 0)) + 1442695040888963407)) / 1099511627776)
        refine x_reg [] [2] [7001] [I (bitsI .and .u64 ((IntKind.u64.wrap ((IntKind.u64.wrap ((IntKind.u64.wrap (s.seed * 6364136223846793005)) + 0)) + 1442695040888963407)) / 1099511627776) 255)] [some (.box [slU8 false s.code, I (s.atx + 1), .val (.int .u64 (IntKind.u64.wrap ((IntKind.u64.wrap ((IntKind.u64.wrap (s.seed * 6364136223846793005)) + 0)) + 1442695040888963407)))])] [(0 : Int) ≤ 40 ∧ (40 : Int) ≤ ((IntKind.bits .u64 : Nat) : Int), inR .i64 (bitsI .and .u64 ((IntKind.u64.wrap ((IntKind.u64.wrap ((IntKind.u64.wrap (s.seed * 6364136223846793005)) + 0)) + 1442695040888963407)) / 1099511627776) 255)] (by kernel_rfl) ⟨⟨(by decide), (by decide)⟩, (inR_i64 (by omega) (by omega)), trivial⟩ ?_
        refine xe_then ?_
        refine x_ret ?_
        refine xe_end ((bitsI .and .u64 ((IntKind.u64.wrap ((IntKind.u64.wrap ((IntKind.u64.wrap (s.seed * 6364136223846793005)) + 0)) + 1442695040888963407)) / 1099511627776) 255), (l00Src.mk s.code (s.atx + 1) (IntKind.u64.wrap ((IntKind.u64.wrap ((IntKind.u64.wrap (s.seed * 6364136223846793005)) + 0)) + 1442695040888963407)))) (show (0 ≤ (bitsI .and .u64 ((IntKind.u64.wrap ((IntKind.u64.wrap ((IntKind.u64.wrap (s.seed * 6364136223846793005)) + 0)) + 1442695040888963407)) / 1099511627776) 255) ∧ (bitsI .and .u64 ((IntKind.u64.wrap ((IntKind.u64.wrap ((IntKind.u64.wrap (s.seed * 6364136223846793005)) + 0)) + 1442695040888963407)) / 1099511627776) 255) ≤ 255) ∧ (okSrc (l00Src.mk s.code (s.atx + 1) (IntKind.u64.wrap ((IntKind.u64.wrap ((IntKind.u64.wrap (s.seed * 6364136223846793005)) + 0)) + 1442695040888963407)))) ∧ ((l00Src.mk s.code (s.atx + 1) (IntKind.u64.wrap ((IntKind.u64.wrap ((IntKind.u64.wrap (s.seed * 6364136223846793005)) + 0)) + 1442695040888963407))).code = s.code) ∧ (s.atx + 1 ≤ (l00Src.mk s.code (s.atx + 1) (IntKind.u64.wrap ((IntKind.u64.wrap ((IntKind.u64.wrap (s.seed * 6364136223846793005)) + 0)) + 1442695040888963407))).atx ∧ (l00Src.mk s.code (s.atx + 1) (IntKind.u64.wrap ((IntKind.u64.wrap ((IntKind.u64.wrap (s.seed * 6364136223846793005)) + 0)) + 1442695040888963407))).atx ≤ s.atx + 1) ∧ (True) from ⟨(by first | omega | rfl | assumption | (dsimp only; first | omega | rfl | assumption) | (simp only [*]; done) | exact ⟨hs.1, (by dsimp only; omega), hs1⟩), (by first | omega | rfl | assumption | (dsimp only; first | omega | rfl | assumption) | (simp only [*]; done) | exact ⟨hs.1, (by dsimp only; omega), hs1⟩), (by first | omega | rfl | assumption | (dsimp only; first | omega | rfl | assumption) | (simp only [*]; done) | exact ⟨hs.1, (by dsimp only; omega), hs1⟩), (by first | omega | rfl | assumption | (dsimp only; first | omega | rfl | assumption) | (simp only [*]; done) | exact ⟨hs.1, (by dsimp only; omega), hs1⟩), trivial⟩) (⟨.inl rfl, trivial⟩) (I (bitsI .and .u64 ((IntKind.u64.wrap ((IntKind.u64.wrap ((IntKind.u64.wrap (s.seed * 6364136223846793005)) + 0)) + 1442695040888963407)) / 1099511627776) 255)) (by kernel_rfl) (.inl rfl) (fun _ => rfl) (fun _ => trivial)
  obtain ⟨⟨v, s'⟩, ⟨hh0, hh1, hh2, hh3, _⟩, hc⟩ := hh
  exact ⟨v, s', hh0, hh1, hh2, hh3, hc⟩


-- spec.l00Src).pick
theorem pick_ok (s : l00Src) (n : Int) (hs : okSrc s) (ha : s.atx ≤ 3999999999999999990) : ∃ (v : Int) (s' : l00Src), (0 ≤ v ∧ (v < n ∨ v = 0)) ∧ (okSrc s') ∧ (s'.code = s.code) ∧ (s.atx + 0 ≤ s'.atx ∧ s'.atx ≤ s.atx + 2) ∧ CallOK Tryd.prog 38 [.ref 7001 0, I n] (lookO [(7001, .box [slU8 false s.code, I s.atx, .val (.int .u64 s.seed)])]) true (I v) (lookO [(7001, .box [slU8 false s'.code, I s'.atx, .val (.int .u64 s'.seed)])]) := by
  have hs0 := hs.2.1
  have hs1 := hs.2.2
  have hh : ∃ r : Int × l00Src, ((0 ≤ r.1 ∧ (r.1 < n ∨ r.1 = 0)) ∧ (okSrc r.2) ∧ (r.2.code = s.code) ∧ (s.atx + 0 ≤ r.2.atx ∧ r.2.atx ≤ s.atx + 2) ∧ (True)) ∧ CallOK Tryd.prog 38 [.ref 7001 0, I n] (lookO [(7001, .box [slU8 false s.code, I s.atx, .val (.int .u64 s.seed)])]) true (I r.1) (lookO [(7001, .box [slU8 false r.2.code, I r.2.atx, .val (.int .u64 r.2.seed)])]) := by
    refine fn_okX (Φ := fun r : Int × l00Src => (0 ≤ r.1 ∧ (r.1 < n ∨ r.1 = 0)) ∧ (okSrc r.2) ∧ (r.2.code = s.code) ∧ (s.atx + 0 ≤ r.2.atx ∧ r.2.atx ≤ s.atx + 2) ∧ (True)) [(7001, .box [slU8 false s.code, I s.atx, .val (.int .u64 s.seed)])] (fun r => [(7001, .box [slU8 false r.2.code, I r.2.atx, .val (.int .u64 r.2.seed)])]) (fn := Tryd.f38) (nt := 20) Tryd.func38 rfl rfl (args := [.ref 7001 0, I n]) rfl (allcons (.inr ⟨_, _, rfl⟩) (allcons (.inl ⟨rfl, trivial⟩) allnil)) (res := fun r => I r.1) ?_
    refine x_seq ?_
    refine x_reg [] [0, 1] [7001] [.ref 7001 0, I n] [some (.box [slU8 false s.code, I s.atx, .val (.int .u64 s.seed)])] [] (by kernel_rfl) trivial ?_
    refine xe_then ?_
    refine x_seq ?_
    refine x_seq ?_
    by_cases h1 : n ≤ 1
    · refine x_reg [(1, .dec true)] [0, 1, 7] [7001] [.ref 7001 0, I n, Bv true] [some (.box [slU8 false s.code, I s.atx, .val (.int .u64 s.seed)])] [n ≤ 1] (by kernel_rfl) ⟨h1, trivial⟩ ?_
      refine xe_then ?_
      refine x_true rfl ?_
      refine x_seq ?_
      refine x_reg [] [4] [7001] [I 0] [some (.box [slU8 false s.code, I s.atx, .val (.int .u64 s.seed)])] [] (by kernel_rfl) trivial ?_
      refine xe_then ?_
      refine x_ret ?_
      refine xe_ret_then ?_
      refine xe_end (0, s) (show (0 ≤ 0 ∧ (0 < n ∨ 0 = 0)) ∧ (okSrc s) ∧ (s.code = s.code) ∧ (s.atx + 0 ≤ s.atx ∧ s.atx ≤ s.atx + 2) ∧ (True) from ⟨(by first | omega | rfl | assumption | (dsimp only; first | omega | rfl | assumption) | (simp only [*]; done) | exact ⟨Int.emod_nonneg _ (by omega), .inl (Int.emod_lt_of_pos _ (by omega))⟩), (by first | omega | rfl | assumption | (dsimp only; first | omega | rfl | assumption) | (simp only [*]; done) | exact ⟨Int.emod_nonneg _ (by omega), .inl (Int.emod_lt_of_pos _ (by omega))⟩), (by first | omega | rfl | assumption | (dsimp only; first | omega | rfl | assumption) | (simp only [*]; done) | exact ⟨Int.emod_nonneg _ (by omega), .inl (Int.emod_lt_of_pos _ (by omega))⟩), (by first | omega | rfl | assumption | (dsimp only; first | omega | rfl | assumption) | (simp only [*]; done) | exact ⟨Int.emod_nonneg _ (by omega), .inl (Int.emod_lt_of_pos _ (by omega))⟩), trivial⟩) (⟨.inl rfl, trivial⟩) (I 0) (by kernel_rfl) (.inl rfl) (fun _ => rfl) (fun _ => trivial)
    · refine x_reg [(1, .dec false)] [0, 1, 7] [7001] [.ref 7001 0, I n, Bv false] [some (.box [slU8 false s.code, I s.atx, .val (.int .u64 s.seed)])] [¬ (n ≤ 1)] (by kernel_rfl) ⟨h1, trivial⟩ ?_
      refine xe_then ?_
      refine x_false rfl ?_
      refine x_skip ?_
      refine xe_then ?_
      refine x_seq ?_
      obtain ⟨v_1, s'_1, hx1_0, hx1_1, hx1_2, hx1_3, hc1⟩ := next_ok s (by first | assumption | (simp only [okSrc] at *; simp_all; done)) (by omega)
      refine x_reg [(1, .lend [(7001, .box [slU8 false s.code, I s.atx, .val (.int .u64 s.seed)], .box [slU8 false s'_1.code, I s'_1.atx, .val (.int .u64 s'_1.seed)])] [] [(true, .ref 7001 0)] true (I v_1))] [0, 1, 5] [7001] [.ref 7001 0, I n, I v_1] [some (.box [slU8 false s'_1.code, I s'_1.atx, .val (.int .u64 s'_1.seed)])] [CallOK Tryd.prog 55 [.ref 7001 0] (lookO [(7001, .box [slU8 false s.code, I s.atx, .val (.int .u64 s.seed)])]) true (I v_1) (lookO [(7001, .box [slU8 false s'_1.code, I s'_1.atx, .val (.int .u64 s'_1.seed)])]) ∧ ((.ref 7001 0 : AV) = .ref 7001 0) ∧ (((.box [slU8 false s.code, I s.atx, .val (.int .u64 s.seed)] : Ob) = .box [slU8 false s.code, I s.atx, .val (.int .u64 s.seed)] ∨ obLe noOb true (.box [slU8 false s.code, I s.atx, .val (.int .u64 s.seed)]) (.box [slU8 false s.code, I s.atx, .val (.int .u64 s.seed)])) ∧ taggedO false (.box [slU8 false s.code, I s.atx, .val (.int .u64 s.seed)])) ∧ True] (by kernel_rfl) ⟨⟨hc1, rfl, ⟨.inl rfl, (by simp [taggedO, taggedL, tagged, tagU8])⟩, trivial⟩, trivial⟩ ?_
      refine xe_then ?_
      refine x_seq ?_
      refine x_seq ?_
      by_cases h2 : 200 < n
      · refine x_reg [(1, .dec true)] [0, 1, 5, 11] [7001] [.ref 7001 0, I n, I v_1, Bv true] [some (.box [slU8 false s'_1.code, I s'_1.atx, .val (.int .u64 s'_1.seed)])] [200 < n] (by kernel_rfl) ⟨h2, trivial⟩ ?_
        refine xe_then ?_
        refine x_true rfl ?_
        obtain ⟨v_2, s'_2, hx2_0, hx2_1, hx2_2, hx2_3, hc2⟩ := next_ok s'_1 (by first | assumption | (simp only [okSrc] at *; simp_all; done)) (by omega)
        refine x_reg [(3, .lend [(7001, .box [slU8 false s'_1.code, I s'_1.atx, .val (.int .u64 s'_1.seed)], .box [slU8 false s'_2.code, I s'_2.atx, .val (.int .u64 s'_2.seed)])] [] [(true, .ref 7001 0)] true (I v_2))] [1, 5] [7001] [I n, I ((v_1 * 256) + v_2)] [some (.box [slU8 false s'_2.code, I s'_2.atx, .val (.int .u64 s'_2.seed)])] [inR .i64 (v_1 * 256), CallOK Tryd.prog 55 [.ref 7001 0] (lookO [(7001, .box [slU8 false s'_1.code, I s'_1.atx, .val (.int .u64 s'_1.seed)])]) true (I v_2) (lookO [(7001, .box [slU8 false s'_2.code, I s'_2.atx, .val (.int .u64 s'_2.seed)])]) ∧ ((.ref 7001 0 : AV) = .ref 7001 0) ∧ (((.box [slU8 false s'_1.code, I s'_1.atx, .val (.int .u64 s'_1.seed)] : Ob) = .box [slU8 false s'_1.code, I s'_1.atx, .val (.int .u64 s'_1.seed)] ∨ obLe noOb true (.box [slU8 false s'_1.code, I s'_1.atx, .val (.int .u64 s'_1.seed)]) (.box [slU8 false s'_1.code, I s'_1.atx, .val (.int .u64 s'_1.seed)])) ∧ taggedO false (.box [slU8 false s'_1.code, I s'_1.atx, .val (.int .u64 s'_1.seed)])) ∧ True, inR .i64 ((v_1 * 256) + v_2)] (by kernel_rfl) ⟨(inR_i64 (by omega) (by omega)), ⟨hc2, rfl, ⟨.inl rfl, (by simp [taggedO, taggedL, tagged, tagU8])⟩, trivial⟩, (inR_i64 (by omega) (by omega)), trivial⟩ ?_
        refine xe_then ?_
        refine x_seq ?_
        refine x_reg [(2, .nn)] [4] [7001] [I (((v_1 * 256) + v_2) % n)] [some (.box [slU8 false s'_2.code, I s'_2.atx, .val (.int .u64 s'_2.seed)])] [(0 : Int) ≤ ((v_1 * 256) + v_2) ∧ (0 : Int) < n] (by kernel_rfl) ⟨⟨(by omega), (by omega)⟩, trivial⟩ ?_
        refine xe_then ?_
        refine x_ret ?_
        refine xe_end ((((v_1 * 256) + v_2) % n), s'_2) (show (0 ≤ (((v_1 * 256) + v_2) % n) ∧ ((((v_1 * 256) + v_2) % n) < n ∨ (((v_1 * 256) + v_2) % n) = 0)) ∧ (okSrc s'_2) ∧ (s'_2.code = s.code) ∧ (s.atx + 0 ≤ s'_2.atx ∧ s'_2.atx ≤ s.atx + 2) ∧ (True) from ⟨(by first | omega | rfl | assumption | (dsimp only; first | omega | rfl | assumption) | (simp only [*]; done) | exact ⟨Int.emod_nonneg _ (by omega), .inl (Int.emod_lt_of_pos _ (by omega))⟩), (by first | omega | rfl | assumption | (dsimp only; first | omega | rfl | assumption) | (simp only [*]; done) | exact ⟨Int.emod_nonneg _ (by omega), .inl (Int.emod_lt_of_pos _ (by omega))⟩), (by first | omega | rfl | assumption | (dsimp only; first | omega | rfl | assumption) | (simp only [*]; done) | exact ⟨Int.emod_nonneg _ (by omega), .inl (Int.emod_lt_of_pos _ (by omega))⟩), (by first | omega | rfl | assumption | (dsimp only; first | omega | rfl | assumption) | (simp only [*]; done) | exact ⟨Int.emod_nonneg _ (by omega), .inl (Int.emod_lt_of_pos _ (by omega))⟩), trivial⟩) (⟨.inl rfl, trivial⟩) (I (((v_1 * 256) + v_2) % n)) (by kernel_rfl) (.inl rfl) (fun _ => rfl) (fun _ => trivial)
      · refine x_reg [(1, .dec false)] [0, 1, 5, 11] [7001] [.ref 7001 0, I n, I v_1, Bv false] [some (.box [slU8 false s'_1.code, I s'_1.atx, .val (.int .u64 s'_1.seed)])] [¬ (200 < n)] (by kernel_rfl) ⟨h2, trivial⟩ ?_
        refine xe_then ?_
        refine x_false rfl ?_
        refine x_skip ?_
        refine xe_then ?_
        refine x_seq ?_
        refine x_reg [(2, .nn)] [4] [7001] [I (v_1 % n)] [some (.box [slU8 false s'_1.code, I s'_1.atx, .val (.int .u64 s'_1.seed)])] [(0 : Int) ≤ v_1 ∧ (0 : Int) < n] (by kernel_rfl) ⟨⟨(by omega), (by omega)⟩, trivial⟩ ?_
        refine xe_then ?_
        refine x_ret ?_
        refine xe_end ((v_1 % n), s'_1) (show (0 ≤ (v_1 % n) ∧ ((v_1 % n) < n ∨ (v_1 % n) = 0)) ∧ (okSrc s'_1) ∧ (s'_1.code = s.code) ∧ (s.atx + 0 ≤ s'_1.atx ∧ s'_1.atx ≤ s.atx + 2) ∧ (True) from ⟨(by first | omega | rfl | assumption | (dsimp only; first | omega | rfl | assumption) | (simp only [*]; done) | exact ⟨Int.emod_nonneg _ (by omega), .inl (Int.emod_lt_of_pos _ (by omega))⟩), (by first | omega | rfl | assumption | (dsimp only; first | omega | rfl | assumption) | (simp only [*]; done) | exact ⟨Int.emod_nonneg _ (by omega), .inl (Int.emod_lt_of_pos _ (by omega))⟩), (by first | omega | rfl | assumption | (dsimp only; first | omega | rfl | assumption) | (simp only [*]; done) | exact ⟨Int.emod_nonneg _ (by omega), .inl (Int.emod_lt_of_pos _ (by omega))⟩), (by first | omega | rfl | assumption | (dsimp only; first | omega | rfl | assumption) | (simp only [*]; done) | exact ⟨Int.emod_nonneg _ (by omega), .inl (Int.emod_lt_of_pos _ (by omega))⟩), trivial⟩) (⟨.inl rfl, trivial⟩) (I (v_1 % n)) (by kernel_rfl) (.inl rfl) (fun _ => rfl) (fun _ => trivial)
  obtain ⟨⟨v, s'⟩, ⟨hh0, hh1, hh2, hh3, _⟩, hc⟩ := hh
  exact ⟨v, s', hh0, hh1, hh2, hh3, hc⟩


-- spec.l05Size
theorem l05Size_ok (n : Int) (hn : -9223372036854775807 ≤ n ∧ n ≤ 9223372036854775807) : Con Tryd.prog 53 [I n] true (I (n.natAbs : Int)) := by
  refine fn_ok (fn := Tryd.f53) (nt := 8) Tryd.func53 rfl rfl rfl rfl (by simp [taggedL, tagged]) fun B hB => ?_
  refine aw_seq ?_
  refine aw_reg [] [0] [] [I n] [] [] (by kernel_rfl) hB trivial ?_
  refine ae_then ?_
  refine aw_seq ?_
  refine aw_seq ?_
  by_cases h1 : n < 0
  · refine aw_reg [(1, .dec true)] [0, 4] [] [I n, Bv true] [] [n < 0] (by kernel_rfl) hB ⟨h1, trivial⟩ ?_
    refine ae_then ?_
    refine aw_true rfl ?_
    refine aw_seq ?_
    refine aw_reg [] [2] [] [I (-n)] [] [inR .i64 (-n)] (by kernel_rfl) hB ⟨(inR_i64 (by omega) (by omega)), trivial⟩ ?_
    refine ae_then ?_
    refine aw_ret ?_
    refine ae_ret_then ?_
    refine ae_ret hB (I (-n)) (by kernel_rfl) (.inl (by refine congrArg I ?_; omega)) rfl (fun _ => trivial)
  · refine aw_reg [(1, .dec false)] [0, 4] [] [I n, Bv false] [] [¬ (n < 0)] (by kernel_rfl) hB ⟨h1, trivial⟩ ?_
    refine ae_then ?_
    refine aw_false rfl ?_
    refine aw_skip ?_
    refine ae_then ?_
    refine aw_seq ?_
    refine aw_reg [] [2] [] [I n] [] [] (by kernel_rfl) hB trivial ?_
    refine ae_then ?_
    refine aw_ret ?_
    refine ae_ret hB (I n) (by kernel_rfl) (.inl (by refine congrArg I ?_; omega)) rfl (fun _ => trivial)


def inB (a l h : Int) : Bool := decide (l ≤ a ∧ a ≤ h)
theorem inB_iff {a l h : Int} : inB a l h = true ↔ l ≤ a ∧ a ≤ h := by simp [inB]
theorem bAt_bd (s : ByteArray) (i : Nat) : 0 ≤ bAt s i ∧ bAt s i ≤ 255 := by
  unfold bAt
  have := (s.data.toList.getD i 0).toNat_lt
  omega

theorem down_spec (n : Int) {d : Int} (hd : 0 < d) : (Int.tmod n d < 0 → Int.tdiv n d - 1 = n / d) ∧ (¬ Int.tmod n d < 0 → Int.tdiv n d = n / d) := by
  have h1 := Int.mul_tdiv_add_tmod n d
  have h2 := Int.tmod_lt_of_pos n hd
  have h3 := Int.lt_tmod_of_pos n hd
  generalize Int.tdiv n d = q at *
  generalize Int.tmod n d = r at *
  subst h1
  constructor
  · intro h
    have e : d * q + r = (r + d) + d * (q - 1) := by rw [Int.mul_sub, Int.mul_one]; omega
    rw [e, Int.add_mul_ediv_left _ _ (by omega), Int.ediv_eq_zero_of_lt (by omega) (by omega)]; omega
  · intro h
    rw [Int.add_comm, Int.add_mul_ediv_left _ _ (by omega), Int.ediv_eq_zero_of_lt (by omega) (by omega)]; omega
theorem tdiv_bd (n d : Int) : ((Int.tdiv n d).natAbs : Int) ≤ (n.natAbs : Int) := by
  rw [Int.natAbs_tdiv]
  exact Int.ofNat_le.2 (Nat.div_le_self _ _)

def gcdI (a b : Int) : Int := (Nat.gcd a.natAbs b.natAbs : Int)
theorem gcdI_zero (a : Int) : gcdI a 0 = (a.natAbs : Int) := by simp [gcdI]
theorem gcdI_step {a b : Int} : gcdI b (Int.tmod a b) = gcdI a b := by
  unfold gcdI
  rw [Int.natAbs_tmod, Nat.gcd_comm b.natAbs, ← Nat.gcd_rec, Nat.gcd_comm]
theorem gcdI_comm (a b : Int) : gcdI a b = gcdI b a := by simp [gcdI, Nat.gcd_comm]
theorem gcdI_neg (a b : Int) : gcdI (-a) b = gcdI a b := by simp [gcdI]
theorem gcdI_neg2 (a b : Int) : gcdI a (-b) = gcdI a b := by simp [gcdI]
theorem gcdI_abs (a b : Int) : gcdI (a.natAbs : Int) b = gcdI a b := by simp [gcdI]
theorem gcdI_pos {a b : Int} (h : b ≠ 0) : 0 < gcdI a b := by
  have : 0 < Nat.gcd a.natAbs b.natAbs := Nat.gcd_pos_of_pos_right _ (by omega)
  unfold gcdI; omega
theorem gcdI_le {a b : Int} (h : b ≠ 0) : gcdI a b ≤ (b.natAbs : Int) := by
  have : Nat.gcd a.natAbs b.natAbs ≤ b.natAbs := Nat.gcd_le_right _ (by omega)
  unfold gcdI; omega
theorem tmod_lt {a b : Int} (h : b ≠ 0) : ((Int.tmod a b).natAbs : Int) < (b.natAbs : Int) := by
  rw [Int.natAbs_tmod]
  have := Nat.mod_lt a.natAbs (show 0 < b.natAbs by omega)
  omega
theorem gcdI_mul {g a b : Int} (h : 0 < g) : gcdI (g * a) (g * b) = g * gcdI a b := by
  unfold gcdI
  rw [Int.natAbs_mul, Int.natAbs_mul, Nat.gcd_mul_left, Int.natCast_mul]
  congr 1
  omega
theorem gcdI_dvd (a b : Int) : gcdI a b ∣ a ∧ gcdI a b ∣ b := by
  unfold gcdI
  exact ⟨Int.ofNat_dvd_left.2 (Nat.gcd_dvd_left _ _), Int.ofNat_dvd_left.2 (Nat.gcd_dvd_right _ _)⟩
/-- What is valid. -/
def okFr (f : Fraction) : Bool := inB f.Num (-1000000000) 1000000000 && (inB f.Den 1 1000000000 && decide (gcdI f.Num f.Den = 1))
theorem okFr_iff {f : Fraction} : okFr f = true ↔ (-1000000000 ≤ f.Num ∧ f.Num ≤ 1000000000) ∧ (1 ≤ f.Den ∧ f.Den ≤ 1000000000) ∧ gcdI f.Num f.Den = 1 := by simp [okFr, inB]
def sgI (n d : Int) : Int := if d < 0 then -(gcdI n d) else gcdI n d
def redF (n d : Int) : Fraction := ⟨Int.tdiv n (sgI n d), Int.tdiv d (sgI n d)⟩
/-- A fraction in its lowest terms, and a code. -/
def redR (n d : Int) : Fraction × Int := if okFr (redF n d) = true then (redF n d, 0) else (⟨0, 0⟩, 2)
theorem redF_flip {n d : Int} (h : d < 0) : redF n d = redF (-n) (-d) := by
  have e1 : sgI n d = -(gcdI n d) := if_pos h
  have e2 : sgI (-n) (-d) = gcdI n d := by unfold sgI; rw [if_neg (by omega), gcdI_neg, gcdI_neg2]
  unfold redF
  rw [e1, e2]
  simp
theorem sgI_pos {n d : Int} (h : 0 < d) : sgI n d = gcdI n d := if_neg (by omega)
theorem redF_spec {n d : Int} (h : 0 < d) : 0 < gcdI n d ∧ gcdI n d * (redF n d).Num = n ∧ gcdI n d * (redF n d).Den = d ∧ 0 < (redF n d).Den := by
  have hg := gcdI_pos (a := n) (b := d) (by omega)
  obtain ⟨h1, h2⟩ := gcdI_dvd n d
  have e1 : gcdI n d * (redF n d).Num = n := by unfold redF; rw [sgI_pos h]; exact Int.mul_tdiv_cancel' h1
  have e2 : gcdI n d * (redF n d).Den = d := by unfold redF; rw [sgI_pos h]; exact Int.mul_tdiv_cancel' h2
  refine ⟨hg, e1, e2, ?_⟩
  apply Classical.byContradiction
  intro hn
  have : gcdI n d * (redF n d).Den ≤ 0 := Int.mul_nonpos_of_nonneg_of_nonpos (by omega) (by omega)
  omega
theorem coprime_eq {a b c d : Nat} (h1 : Nat.gcd a b = 1) (h2 : Nat.gcd c d = 1) (hb : 0 < b) (hd : 0 < d) (h : a * d = c * b) : a = c ∧ b = d := by
  have c1 : Nat.Coprime b a := by rw [Nat.Coprime, Nat.gcd_comm]; exact h1
  have c2 : Nat.Coprime d c := by rw [Nat.Coprime, Nat.gcd_comm]; exact h2
  have d1 : b ∣ d := c1.dvd_of_dvd_mul_left (show b ∣ a * d from h ▸ ⟨c, Nat.mul_comm _ _⟩)
  have d2 : d ∣ b := c2.dvd_of_dvd_mul_left (show d ∣ c * b from h ▸ ⟨a, Nat.mul_comm _ _⟩)
  have e := Nat.dvd_antisymm d1 d2
  subst e
  exact ⟨Nat.eq_of_mul_eq_mul_right hb h, rfl⟩
/-- The lowest terms are one's own. -/
theorem red_unique {n d : Int} {f : Fraction} (hd : 0 < d) (hf : okFr f = true) (h : n * f.Den = f.Num * d) : redR n d = (f, 0) := by
  have hf' := okFr_iff.1 hf
  obtain ⟨hg, e1, e2, e3⟩ := redF_spec (n := n) hd
  have hc : gcdI (redF n d).Num (redF n d).Den = 1 := by
    have h1 := gcdI_mul (a := (redF n d).Num) (b := (redF n d).Den) hg
    rw [e1, e2] at h1
    exact Int.eq_of_mul_eq_mul_left (a := gcdI n d) (by omega) (by rw [← h1]; omega)
  have hx : (redF n d).Num * f.Den = f.Num * (redF n d).Den := by
    apply Int.eq_of_mul_eq_mul_left (a := gcdI n d) (by omega)
    rw [← Int.mul_assoc, e1, h, ← e2]
    grind
  have hgoal : redF n d = f → redR n d = (f, 0) := fun e => by unfold redR; rw [e, if_pos hf]
  apply hgoal
  clear hgoal
  generalize redF n d = r at *
  obtain ⟨rN, rD⟩ := r
  obtain ⟨fN, fD⟩ := f
  simp only at *
  have hn : rN.natAbs * fD.natAbs = fN.natAbs * rD.natAbs := by rw [← Int.natAbs_mul, ← Int.natAbs_mul, hx]
  have hcc : Nat.gcd rN.natAbs rD.natAbs = 1 := by unfold gcdI at hc; omega
  have hcf : Nat.gcd fN.natAbs fD.natAbs = 1 := by have := hf'.2.2; unfold gcdI at this; omega
  obtain ⟨a1, a2⟩ := coprime_eq hcc hcf (by omega) (by omega) hn
  have hD : rD = fD := by omega
  subst hD
  have hN : rN = fN := Int.eq_of_mul_eq_mul_right (by omega) hx
  subst hN
  rfl
theorem redR_ok {n d : Int} (hd : 0 < d) (h : (redR n d).2 = 0) : okFr (redR n d).1 = true ∧ 0 < gcdI n d ∧ gcdI n d * (redR n d).1.Num = n ∧ gcdI n d * (redR n d).1.Den = d := by
  unfold redR at *
  split at h
  · rename_i h1
    have := redF_spec (n := n) hd
    rw [if_pos h1]
    exact ⟨h1, this.1, this.2.1, this.2.2.1⟩
  · cases h
theorem redR_zero {n d : Int} (h : ¬ (redR n d).2 = 0) : (redR n d).1 = ⟨0, 0⟩ := by
  unfold redR at *
  split at h
  · exact absurd rfl h
  · rename_i h1; rw [if_neg h1]
def addR (a b : Fraction) : Fraction × Int := if okFr a = true ∧ okFr b = true then redR (a.Num * b.Den + b.Num * a.Den) (a.Den * b.Den) else (⟨0, 0⟩, 1)
def timesR (a b : Fraction) : Fraction × Int := if okFr a = true ∧ okFr b = true then redR (a.Num * b.Num) (a.Den * b.Den) else (⟨0, 0⟩, 1)
theorem timesR_zero {a b : Fraction} (h : ¬ (timesR a b).2 = 0) : (timesR a b).1 = ⟨0, 0⟩ := by
  unfold timesR at *
  split at h
  · rename_i h1; rw [if_pos h1]; exact redR_zero h
  · rename_i h1; rw [if_neg h1]
theorem okFr_neg {b : Fraction} (h : okFr b = true) : okFr ⟨-b.Num, b.Den⟩ = true := by
  have := okFr_iff.1 h
  refine okFr_iff.2 ⟨by simp only; omega, this.2.1, ?_⟩
  simp only [gcdI_neg]; exact this.2.2
theorem den_pos {a b : Fraction} (ha : okFr a = true) (hb : okFr b = true) : 0 < a.Den * b.Den := Int.mul_pos (by have := (okFr_iff.1 ha).2.1; omega) (by have := (okFr_iff.1 hb).2.1; omega)
/-- Adding the negative leads back. -/
theorem add_back {a b : Fraction} (h : (addR a b).2 = 0) : okFr a = true ∧ okFr b = true ∧ addR (addR a b).1 ⟨-b.Num, b.Den⟩ = (a, 0) := by
  unfold addR at h
  split at h
  · rename_i hab
    obtain ⟨ha, hb⟩ := hab
    have e : addR a b = redR (a.Num * b.Den + b.Num * a.Den) (a.Den * b.Den) := if_pos ⟨ha, hb⟩
    rw [e]
    obtain ⟨h1, h2, h3, h4⟩ := redR_ok (den_pos ha hb) h
    generalize (redR (a.Num * b.Den + b.Num * a.Den) (a.Den * b.Den)).1 = x at *
    have hnb := okFr_neg hb
    refine ⟨ha, hb, ?_⟩
    unfold addR
    rw [if_pos ⟨h1, hnb⟩]
    refine red_unique (den_pos h1 hnb) ha ?_
    simp only
    generalize gcdI (a.Num * b.Den + b.Num * a.Den) (a.Den * b.Den) = g at *
    apply Int.eq_of_mul_eq_mul_left (a := g) (by omega)
    grind
  · cases h
/-- The reciprocal of a fraction that is not 0. -/
def turnF (a : Fraction) : Fraction := if a.Num < 0 then ⟨-a.Den, -a.Num⟩ else ⟨a.Den, a.Num⟩
theorem turn_ok {a : Fraction} (h : okFr a = true) (h0 : a.Num ≠ 0) : okFr (turnF a) = true ∧ (turnF a).Num * a.Num = (turnF a).Den * a.Den := by
  have h' := okFr_iff.1 h
  unfold turnF
  split
  · refine ⟨okFr_iff.2 ⟨by simp only; omega, by simp only; omega, ?_⟩, by simp only; grind⟩
    simp only [gcdI_neg, gcdI_neg2]; rw [gcdI_comm]; exact h'.2.2
  · refine ⟨okFr_iff.2 ⟨by simp only; omega, by simp only; omega, ?_⟩, by simp only; grind⟩
    simp only; rw [gcdI_comm]; exact h'.2.2
theorem turn_red {a : Fraction} (h : okFr a = true) (h0 : a.Num ≠ 0) : redR a.Den a.Num = (turnF a, 0) := by
  obtain ⟨h1, h2⟩ := turn_ok h h0
  by_cases hn : a.Num < 0
  · have e : redR a.Den a.Num = redR (-a.Den) (-a.Num) := by unfold redR; rw [redF_flip hn]
    rw [e]
    refine red_unique (by omega) h1 ?_
    unfold turnF
    rw [if_pos hn]
  · refine red_unique (by omega) h1 ?_
    unfold turnF
    rw [if_neg hn]
def oneF : Fraction := ⟨1, 1⟩
theorem times_one {a : Fraction} (h : okFr a = true) : timesR oneF a = (a, 0) := by
  have h1 : okFr oneF = true := by decide
  unfold timesR
  rw [if_pos ⟨h1, h⟩]
  refine red_unique (den_pos h1 h) h ?_
  simp only [oneF]; grind
/-- a's power. -/
def powL (a : Fraction) : Nat → Fraction × Int
  | 0 => (oneF, 0)
  | k + 1 => if (powL a k).2 = 0 then timesR (powL a k).1 a else powL a k
theorem powL_none {a : Fraction} {k : Nat} (h : ¬ (powL a k).2 = 0) : ∀ {m : Nat}, k ≤ m → powL a m = powL a k := by
  intro m hm
  induction m with
  | zero => have : k = 0 := by omega
            subst this; rfl
  | succ m ih =>
    by_cases e : k = m + 1
    · rw [e]
    · have := ih (by omega)
      rw [powL, this, if_neg h]
theorem powL_zero {a : Fraction} : ∀ {k : Nat}, ¬ (powL a k).2 = 0 → (powL a k).1 = ⟨0, 0⟩
  | 0, h => absurd rfl h
  | k + 1, h => by
    unfold powL at *
    split at h
    · rename_i h1; rw [if_pos h1]; exact timesR_zero h
    · rename_i h1; rw [if_neg h1]; exact powL_zero h1
theorem timesR_okF {a b : Fraction} (h : (timesR a b).2 = 0) : okFr (timesR a b).1 = true := by
  unfold timesR at *
  split at h
  · rename_i h1; rw [if_pos h1]; exact (redR_ok (den_pos h1.1 h1.2) h).1
  · cases h
theorem powL_ok {a : Fraction} : ∀ {k : Nat}, (powL a k).2 = 0 → okFr (powL a k).1 = true
  | 0, _ => (by decide : okFr oneF = true)
  | k + 1, h => by
    unfold powL at *
    split at h
    · rename_i h1; rw [if_pos h1]; exact timesR_okF h
    · rename_i h1; exact absurd h h1
def powR (a : Fraction) (p : Int) : Fraction × Int :=
  if okFr a = true then (if inB p (-20) 20 = true then (if p < 0 ∧ a.Num = 0 then (⟨0, 0⟩, 6) else powL (if p < 0 then turnF a else a) p.natAbs) else (⟨0, 0⟩, 2)) else (⟨0, 0⟩, 1)
/-- Multiplying by the reciprocal leads back. -/
theorem times_back {a b : Fraction} (h : (timesR a b).2 = 0) (h0 : b.Num ≠ 0) : powR b (-1) = (turnF b, 0) ∧ timesR (timesR a b).1 (turnF b) = (a, 0) := by
  unfold timesR at h
  split at h
  · rename_i hab
    obtain ⟨ha, hb⟩ := hab
    have e : timesR a b = redR (a.Num * b.Num) (a.Den * b.Den) := if_pos ⟨ha, hb⟩
    rw [e]
    obtain ⟨h1, h2, h3, h4⟩ := redR_ok (den_pos ha hb) h
    obtain ⟨t1, t2⟩ := turn_ok hb h0
    constructor
    · unfold powR
      rw [if_pos hb, if_pos (by decide), if_neg (by omega), if_pos (by omega)]
      show (if (powL (turnF b) 0).2 = 0 then timesR (powL (turnF b) 0).1 (turnF b) else powL (turnF b) 0) = _
      rw [if_pos (show (powL (turnF b) 0).2 = 0 from rfl)]
      exact times_one t1
    · generalize (redR (a.Num * b.Num) (a.Den * b.Den)).1 = x at *
      unfold timesR
      rw [if_pos ⟨h1, t1⟩]
      refine red_unique (den_pos h1 t1) ha ?_
      generalize turnF b = t at *
      generalize gcdI (a.Num * b.Num) (a.Den * b.Den) = g at *
      apply Int.eq_of_mul_eq_mul_left (a := g) (by omega)
      grind
  · cases h
theorem pow_two {s r : Fraction} (hs : okFr s = true) (hr : okFr r = true) (h1 : s.Num * s.Num = r.Num) (h2 : s.Den * s.Den = r.Den) : powR s 2 = (r, 0) := by
  have e1 : powL s 1 = (s, 0) := by
    show (if (powL s 0).2 = 0 then timesR (powL s 0).1 s else powL s 0) = _
    rw [if_pos (show (powL s 0).2 = 0 from rfl)]
    exact times_one hs
  have e2 : powL s 2 = timesR s s := by
    show (if (powL s 1).2 = 0 then timesR (powL s 1).1 s else powL s 1) = _
    rw [e1]; rfl
  unfold powR
  rw [if_pos hs, if_pos (by decide), if_neg (by omega), if_neg (by omega)]
  show powL s 2 = _
  rw [e2]
  unfold timesR
  rw [if_pos ⟨hs, hs⟩]
  refine red_unique (den_pos hs hs) hr ?_
  rw [h1, h2]
theorem root_okF {r : Fraction} {p q : Int} (hr : okFr r = true) (h0 : 0 ≤ p) (h1 : 0 ≤ q) (hp : p * p = r.Num) (hq : q * q = r.Den) : okFr ⟨p, q⟩ = true := by
  have h := okFr_iff.1 hr
  have hq0 : q ≠ 0 := by rintro rfl; omega
  have b1 : p ≤ p * p ∨ p = 0 := by
    by_cases e : p = 0
    · exact .inr e
    · left
      have := Int.mul_le_mul_of_nonneg_left (show (1 : Int) ≤ p by omega) h0
      omega
  have b2 : q ≤ q * q := by
    have := Int.mul_le_mul_of_nonneg_left (show (1 : Int) ≤ q by omega) h1
    omega
  refine okFr_iff.2 ⟨by simp only; omega, by simp only; omega, ?_⟩
  simp only
  have hd := gcdI_dvd p q
  have hpos := gcdI_pos (a := p) hq0
  have g1 : Nat.gcd (p * p).natAbs (q * q).natAbs = 1 := by have := h.2.2; rw [← hp, ← hq] at this; unfold gcdI at this; omega
  have d1 : Nat.gcd p.natAbs q.natAbs ∣ (p * p).natAbs := by rw [Int.natAbs_mul]; exact Nat.dvd_mul_right_of_dvd (Nat.gcd_dvd_left _ _) _
  have d2 : Nat.gcd p.natAbs q.natAbs ∣ (q * q).natAbs := by rw [Int.natAbs_mul]; exact Nat.dvd_mul_right_of_dvd (Nat.gcd_dvd_right _ _) _
  have := Nat.dvd_gcd d1 d2
  rw [g1] at this
  have := Nat.dvd_one.1 this
  unfold gcdI; omega

theorem prod_bd {x y : Int} (hx : -1000000000 ≤ x ∧ x ≤ 1000000000) (hy : -1000000000 ≤ y ∧ y ≤ 1000000000) : -1000000000000000000 ≤ x * y ∧ x * y ≤ 1000000000000000000 := by
  have h := Nat.mul_le_mul (show x.natAbs ≤ 1000000000 by omega) (show y.natAbs ≤ 1000000000 by omega)
  rw [← Int.natAbs_mul] at h
  omega
def codeR (f : Fraction) (ok : Bool) : Fraction × Int := if ok = true then (f, 0) else (⟨0, 0⟩, 2)
theorem codeR_red (n d : Int) : codeR (redF n d) (okFr (redF n d)) = redR n d := rfl
def makeR (n d : Int) : Fraction × Int := if inB n (-1000000000000000000) 1000000000000000000 = true ∧ inB d (-1000000000000000000) 1000000000000000000 = true ∧ d ≠ 0 then redR n d else (⟨0, 0⟩, 2)
theorem redR_flip {n d : Int} (h : d < 0) : redR n d = redR (-n) (-d) := by unfold redR; rw [redF_flip h]
theorem powL_at {x : Fraction} {z : Int} (h : z ≤ 0) : powL x z.toNat = (⟨1, 1⟩, 0) := by
  have : z.toNat = 0 := by omega
  rw [this]; rfl
theorem powL_step {x y f : Fraction} {k : Nat} (h : powL x k = (f, 0)) (hxy : x = y) (h2 : (timesR f y).2 = 0) : powL x (k + 1) = ((timesR f y).1, 0) := by
  subst hxy
  rw [powL, h, if_pos rfl]
  exact Prod.ext rfl h2
theorem powL_stop {x y f : Fraction} {k : Nat} (h : powL x k = (f, 0)) (hxy : x = y) (h2 : ¬ (timesR f y).2 = 0) {m : Nat} (hm : k + 1 ≤ m) : powL x m = timesR f y := by
  subst hxy
  have e : powL x (k + 1) = timesR f x := by rw [powL, h, if_pos rfl]
  rw [powL_none (k := k + 1) (by rw [e]; exact h2) hm, e]
section
variable {a : Fraction} {p : Int}
theorem powR_1 (h : okFr a = false) : powR a p = (⟨0, 0⟩, 1) := by simp [powR, h]
theorem powR_2 (h : okFr a = true) (h2 : inB p (-20) 20 = false) : powR a p = (⟨0, 0⟩, 2) := by simp [powR, h, h2]
theorem powR_6 (h : okFr a = true) (h2 : inB p (-20) 20 = true) (h3 : p < 0 ∧ a.Num = 0) : powR a p = (⟨0, 0⟩, 6) := by rw [powR, if_pos h, if_pos h2, if_pos h3]
theorem powR_eq (h : okFr a = true) (h2 : inB p (-20) 20 = true) (h3 : ¬ (p < 0 ∧ a.Num = 0)) : powR a p = powL (if p < 0 then turnF a else a) p.natAbs := by rw [powR, if_pos h, if_pos h2, if_neg h3]
end

-- spec.l22Gcd
theorem l22Gcd_ok (a : Int) (b : Int) (h : (0 ≤ a ∧ a ≤ 4000000000000000000) ∧ 0 ≤ b ∧ b ≤ 4000000000000000000) : Con Tryd.prog 52 [I a, I b] true (I (gcdI a b)) := by
  refine fn_ok (fn := Tryd.f52) (nt := 12) Tryd.func52 rfl rfl rfl rfl (by simp [taggedL, tagged]) fun B hB => ?_
  refine aw_seq ?_
  refine aw_reg [] [0, 1] [] [I a, I b] [] [] (by kernel_rfl) hB trivial ?_
  refine ae_then ?_
  refine aw_seq ?_
  refine aw_block ?_
  refine aw_loop (fun gn gσ => ∃ (a' : Int) (b' : Int), gn = b'.natAbs ∧ (gcdI a' b' = gcdI a b) ∧ (((a'.natAbs : Int) ≤ 4000000000000000000 ∧ (b'.natAbs : Int) ≤ 4000000000000000000)) ∧ (0 ≤ a' ∧ 0 ≤ b') ∧ gσ = mkS [(0, I a'), (1, I b')] []) (b.natAbs) ⟨a, b, rfl, (by rfl), (by omega), (by omega), rfl⟩ (fun gn gσ hI => ?_)
  obtain ⟨a', b', rfl, hg1, hg2, hg3, rfl⟩ := hI
  refine aw_seq ?_
  refine aw_seq ?_
  by_cases h1 : b' = 0
  · rw [h1, gcdI_zero] at hg1
    refine aw_reg [(1, .dec false)] [0, 1, 6] [] [I a', I b', Bv false] [] [¬ (b' ≠ 0)] (by kernel_rfl) hB ⟨(fun hq => hq h1), trivial⟩ ?_
    refine ae_then ?_
    refine aw_false rfl ?_
    refine aw_exit ?_
    refine ae_exit_then ?_
    refine ae_exit_then ?_
    refine ae_exit_same ?_
    refine ae_then ?_
    refine aw_seq ?_
    refine aw_reg [] [4] [] [I a'] [] [] (by kernel_rfl) hB trivial ?_
    refine ae_then ?_
    refine aw_ret ?_
    refine ae_ret hB (I a') (by kernel_rfl) (.inl (by refine congrArg I ?_; omega)) rfl (fun _ => trivial)
  · have htm := tmod_lt (a := a') (b := b') h1
    have htn := Int.tmod_nonneg b' hg3.1
    refine aw_reg [(1, .dec true)] [0, 1, 6] [] [I a', I b', Bv true] [] [b' ≠ 0] (by kernel_rfl) hB ⟨h1, trivial⟩ ?_
    refine ae_then ?_
    refine aw_true rfl ?_
    refine aw_skip ?_
    refine ae_then ?_
    refine aw_block ?_
    refine aw_reg [] [0, 1] [] [I b', I (Int.tmod a' b')] [] [(b' : Int) ≠ 0] (by kernel_rfl) hB ⟨(by omega), trivial⟩ ?_
    refine ae_block 1 ?_
    exact ae_again _ (by omega) ⟨b', (Int.tmod a' b'), rfl, (by rw [gcdI_step]; exact hg1), (by omega), (by omega), rfl⟩


-- spec.l00In
theorem l00In_ok (n : Int) (low : Int) (high : Int) : Con Tryd.prog 43 [I n, I low, I high] true (Bv (inB n low high)) := by
  refine fn_ok (fn := Tryd.f43) (nt := 15) Tryd.func43 rfl rfl rfl rfl (by simp [taggedL, tagged]) fun B hB => ?_
  refine aw_seq ?_
  refine aw_reg [] [0, 1, 2] [] [I n, I low, I high] [] [] (by kernel_rfl) hB trivial ?_
  refine ae_then ?_
  refine aw_seq ?_
  by_cases h1 : low ≤ n
  · refine aw_reg [(2, .dec true)] [6] [] [Bv (decide (n ≤ high))] [] [low ≤ n] (by kernel_rfl) hB ⟨h1, trivial⟩ ?_
    refine ae_then ?_
    refine aw_ret ?_
    refine ae_ret hB (Bv (decide (n ≤ high))) (by kernel_rfl) (.inl (by first | rfl | (refine congrArg Bv ?_; simp [inB, *]; done) | (refine congrArg Bv ?_; simp [inB, *]; omega) | (refine congrArg Bv ?_; simp_all [inB]; done) | (refine congrArg Bv ?_; simp_all [inB]; omega))) rfl (fun _ => trivial)
  · refine aw_reg [(2, .dec false)] [6] [] [Bv false] [] [¬ (low ≤ n)] (by kernel_rfl) hB ⟨h1, trivial⟩ ?_
    refine ae_then ?_
    refine aw_ret ?_
    refine ae_ret hB (Bv false) (by kernel_rfl) (.inl (by first | rfl | (refine congrArg Bv ?_; simp [inB, *]; done) | (refine congrArg Bv ?_; simp [inB, *]; omega) | (refine congrArg Bv ?_; simp_all [inB]; done) | (refine congrArg Bv ?_; simp_all [inB]; omega))) rfl (fun _ => trivial)


-- spec.l22Ok
theorem l22Ok_ok (f : Fraction) : Con Tryd.prog 31 [.agg [I f.Num, I f.Den]] true (Bv (okFr f)) := by
  refine fn_ok (fn := Tryd.f31) (nt := 20) Tryd.func31 rfl rfl rfl rfl (by simp [taggedL, tagged]) fun B hB => ?_
  refine aw_seq ?_
  refine aw_reg [(0, .new 1)] [1] [1] [.ref 1 0] [some (.box [I f.Num, I f.Den])] [] (by kernel_rfl) hB trivial ?_
  refine ae_then ?_
  refine aw_seq ?_
  rcases Bool.eq_false_or_eq_true (inB f.Den 1 1000000000) with h1 | h1
  · have hinh1 := inB_iff.1 h1
    rcases Bool.eq_false_or_eq_true (inB f.Num (-1000000000) 1000000000) with h2 | h2
    · have hinh2 := inB_iff.1 h2
      refine aw_reg [(2, .call [(true, I f.Den), (true, I 1), (true, I 1000000000)] true (Bv true)), (6, .call [(true, I f.Num), (true, I (-1000000000)), (true, I 1000000000)] true (Bv true)), (11, .call [(true, I f.Num)] true (I (f.Num.natAbs : Int))), (14, .call [(true, I (f.Num.natAbs : Int)), (true, I f.Den)] true (I (gcdI (f.Num.natAbs : Int) f.Den)))] [2] [] [Bv (decide ((gcdI (f.Num.natAbs : Int) f.Den) = 1))] [] [Con Tryd.prog 43 [I f.Den, I 1, I 1000000000] true (Bv true) ∧ ((I f.Den : AV) = I f.Den) ∧ ((I 1 : AV) = I 1) ∧ ((I 1000000000 : AV) = I 1000000000) ∧ True, Con Tryd.prog 43 [I f.Num, I (-1000000000), I 1000000000] true (Bv true) ∧ ((I f.Num : AV) = I f.Num) ∧ ((I (-1000000000) : AV) = I (-1000000000)) ∧ ((I 1000000000 : AV) = I 1000000000) ∧ True, Con Tryd.prog 53 [I f.Num] true (I (f.Num.natAbs : Int)) ∧ ((I f.Num : AV) = I f.Num) ∧ True, Con Tryd.prog 52 [I (f.Num.natAbs : Int), I f.Den] true (I (gcdI (f.Num.natAbs : Int) f.Den)) ∧ ((I (f.Num.natAbs : Int) : AV) = I (f.Num.natAbs : Int)) ∧ ((I f.Den : AV) = I f.Den) ∧ True] (by kernel_rfl) hB ⟨⟨(con_bool h1 (l00In_ok f.Den 1 1000000000)), rfl, rfl, rfl, trivial⟩, ⟨(con_bool h2 (l00In_ok f.Num (-1000000000) 1000000000)), rfl, rfl, rfl, trivial⟩, ⟨(l05Size_ok f.Num (by omega)), rfl, trivial⟩, ⟨(l22Gcd_ok (f.Num.natAbs : Int) f.Den (by omega)), rfl, rfl, trivial⟩, trivial⟩ ?_
      refine ae_then ?_
      refine aw_ret ?_
      refine ae_ret hB (Bv (decide ((gcdI (f.Num.natAbs : Int) f.Den) = 1))) (by kernel_rfl) (.inl (by first | rfl | (refine congrArg Bv ?_; simp [okFr, inB, gcdI_abs, *]; done) | (refine congrArg Bv ?_; simp_all [okFr, inB, gcdI_abs]; done) | (refine congrArg Bv ?_; simp_all [okFr, inB, gcdI_abs]; omega))) rfl (fun _ => trivial)
    · have hinh2 := (not_congr inB_iff).1 (Bool.eq_false_iff.1 h2)
      refine aw_reg [(2, .call [(true, I f.Den), (true, I 1), (true, I 1000000000)] true (Bv true)), (6, .call [(true, I f.Num), (true, I (-1000000000)), (true, I 1000000000)] true (Bv false))] [2] [] [Bv false] [] [Con Tryd.prog 43 [I f.Den, I 1, I 1000000000] true (Bv true) ∧ ((I f.Den : AV) = I f.Den) ∧ ((I 1 : AV) = I 1) ∧ ((I 1000000000 : AV) = I 1000000000) ∧ True, Con Tryd.prog 43 [I f.Num, I (-1000000000), I 1000000000] true (Bv false) ∧ ((I f.Num : AV) = I f.Num) ∧ ((I (-1000000000) : AV) = I (-1000000000)) ∧ ((I 1000000000 : AV) = I 1000000000) ∧ True] (by kernel_rfl) hB ⟨⟨(con_bool h1 (l00In_ok f.Den 1 1000000000)), rfl, rfl, rfl, trivial⟩, ⟨(con_bool h2 (l00In_ok f.Num (-1000000000) 1000000000)), rfl, rfl, rfl, trivial⟩, trivial⟩ ?_
      refine ae_then ?_
      refine aw_ret ?_
      refine ae_ret hB (Bv false) (by kernel_rfl) (.inl (by first | rfl | (refine congrArg Bv ?_; simp [okFr, inB, gcdI_abs, *]; done) | (refine congrArg Bv ?_; simp_all [okFr, inB, gcdI_abs]; done) | (refine congrArg Bv ?_; simp_all [okFr, inB, gcdI_abs]; omega))) rfl (fun _ => trivial)
  · have hinh1 := (not_congr inB_iff).1 (Bool.eq_false_iff.1 h1)
    refine aw_reg [(2, .call [(true, I f.Den), (true, I 1), (true, I 1000000000)] true (Bv false))] [2] [] [Bv false] [] [Con Tryd.prog 43 [I f.Den, I 1, I 1000000000] true (Bv false) ∧ ((I f.Den : AV) = I f.Den) ∧ ((I 1 : AV) = I 1) ∧ ((I 1000000000 : AV) = I 1000000000) ∧ True] (by kernel_rfl) hB ⟨⟨(con_bool h1 (l00In_ok f.Den 1 1000000000)), rfl, rfl, rfl, trivial⟩, trivial⟩ ?_
    refine ae_then ?_
    refine aw_ret ?_
    refine ae_ret hB (Bv false) (by kernel_rfl) (.inl (by first | rfl | (refine congrArg Bv ?_; simp [okFr, inB, gcdI_abs, *]; done) | (refine congrArg Bv ?_; simp_all [okFr, inB, gcdI_abs]; done) | (refine congrArg Bv ?_; simp_all [okFr, inB, gcdI_abs]; omega))) rfl (fun _ => trivial)


-- spec.l22Make
theorem l22Make_ok (num : Int) (den : Int) (hd : ((num.natAbs : Int) ≤ 4000000000000000000) ∧ (den.natAbs : Int) ≤ 4000000000000000000) (h0 : 0 < den) : Con Tryd.prog 33 [I num, I den] true (.tup [.agg [I ((redF num den).Num), I ((redF num den).Den)], Bv (okFr (redF num den))]) := by
  have hg := gcdI_pos (a := num) (b := den) (by omega)
  have hgl := gcdI_le (a := num) (b := den) (by omega)
  have q1 := tdiv_bd num (gcdI num den)
  have q2 := tdiv_bd den (gcdI num den)
  have q3 := tdiv_bd num (-(gcdI num den))
  have q4 := tdiv_bd den (-(gcdI num den))
  have hga := gcdI_abs num den
  have q5 := tdiv_bd num (gcdI (num.natAbs : Int) den)
  have q6 := tdiv_bd den (gcdI (num.natAbs : Int) den)
  refine fn_ok (fn := Tryd.f33) (nt := 22) Tryd.func33 rfl rfl rfl rfl (by simp [taggedL, tagged]) fun B hB => ?_
  refine aw_seq ?_
  refine aw_reg [(0, .new 4)] [0, 1, 4] [4] [I num, I den, .ref 4 0] [some (.box [I 0, I 0])] [] (by kernel_rfl) hB trivial ?_
  refine ae_then ?_
  refine aw_seq ?_
  refine aw_reg [(1, .call [(true, I num)] true (I (num.natAbs : Int))), (3, .call [(true, I (num.natAbs : Int)), (true, I den)] true (I (gcdI (num.natAbs : Int) den)))] [0, 1, 4, 6] [4] [I num, I den, .ref 4 0, I (gcdI (num.natAbs : Int) den)] [some (.box [I 0, I 0])] [Con Tryd.prog 53 [I num] true (I (num.natAbs : Int)) ∧ ((I num : AV) = I num) ∧ True, Con Tryd.prog 52 [I (num.natAbs : Int), I den] true (I (gcdI (num.natAbs : Int) den)) ∧ ((I (num.natAbs : Int) : AV) = I (num.natAbs : Int)) ∧ ((I den : AV) = I den) ∧ True] (by kernel_rfl) hB ⟨⟨(l05Size_ok num (by omega)), rfl, trivial⟩, ⟨(l22Gcd_ok (num.natAbs : Int) den (by omega)), rfl, rfl, trivial⟩, trivial⟩ ?_
  refine ae_then ?_
  refine aw_seq ?_
  refine aw_reg [(7, .new 7)] [4, 7] [4, 7] [.ref 4 0, .ref 7 0] [some (.box [I 0, I 0]), some (.box [I (Int.tdiv num (gcdI (num.natAbs : Int) den)), I (Int.tdiv den (gcdI (num.natAbs : Int) den))])] [((gcdI (num.natAbs : Int) den) : Int) ≠ 0 ∧ inR .i64 (Int.tdiv num (gcdI (num.natAbs : Int) den)), ((gcdI (num.natAbs : Int) den) : Int) ≠ 0 ∧ inR .i64 (Int.tdiv den (gcdI (num.natAbs : Int) den))] (by kernel_rfl) hB ⟨⟨by omega, (inR_i64 (by omega) (by omega))⟩, ⟨by omega, (inR_i64 (by omega) (by omega))⟩, trivial⟩ ?_
  refine ae_then ?_
  refine aw_seq ?_
  refine aw_reg [(2, .call [(true, .agg [I (Int.tdiv num (gcdI (num.natAbs : Int) den)), I (Int.tdiv den (gcdI (num.natAbs : Int) den))])] true (Bv (okFr (Fraction.mk (Int.tdiv num (gcdI (num.natAbs : Int) den)) (Int.tdiv den (gcdI (num.natAbs : Int) den))))))] [4, 5] [4] [.ref 4 0, Bv (okFr (Fraction.mk (Int.tdiv num (gcdI (num.natAbs : Int) den)) (Int.tdiv den (gcdI (num.natAbs : Int) den))))] [some (.box [I (Int.tdiv num (gcdI (num.natAbs : Int) den)), I (Int.tdiv den (gcdI (num.natAbs : Int) den))])] [Con Tryd.prog 31 [.agg [I (Int.tdiv num (gcdI (num.natAbs : Int) den)), I (Int.tdiv den (gcdI (num.natAbs : Int) den))]] true (Bv (okFr (Fraction.mk (Int.tdiv num (gcdI (num.natAbs : Int) den)) (Int.tdiv den (gcdI (num.natAbs : Int) den))))) ∧ ((.agg [I (Int.tdiv num (gcdI (num.natAbs : Int) den)), I (Int.tdiv den (gcdI (num.natAbs : Int) den))] : AV) = .agg [I (Int.tdiv num (gcdI (num.natAbs : Int) den)), I (Int.tdiv den (gcdI (num.natAbs : Int) den))]) ∧ True] (by kernel_rfl) hB ⟨⟨(l22Ok_ok (Fraction.mk (Int.tdiv num (gcdI (num.natAbs : Int) den)) (Int.tdiv den (gcdI (num.natAbs : Int) den)))), rfl, trivial⟩, trivial⟩ ?_
  refine ae_then ?_
  refine aw_ret ?_
  refine ae_ret hB (.tup [.agg [I (Int.tdiv num (gcdI (num.natAbs : Int) den)), I (Int.tdiv den (gcdI (num.natAbs : Int) den))], Bv (okFr (Fraction.mk (Int.tdiv num (gcdI (num.natAbs : Int) den)) (Int.tdiv den (gcdI (num.natAbs : Int) den))))]) (by kernel_rfl) (.inl (by have e : redF num den = ⟨Int.tdiv num (gcdI num den), Int.tdiv den (gcdI num den)⟩ := (by unfold redF; rw [sgI_pos h0]); simp [e, gcdI_abs])) rfl (fun _ => (by simp [tagged, taggedL]))


-- spec.l00Src).among
theorem among_ok (s : l00Src) (list : List Int) (hs : okSrc s) (ha : s.atx ≤ 3999999999999999980) (hl : 0 < list.length ∧ list.length ≤ 1000) : ∃ (v : Int) (s' : l00Src), (v ∈ list) ∧ (okSrc s') ∧ (s'.code = s.code) ∧ (s.atx + 0 ≤ s'.atx ∧ s'.atx ≤ s.atx + 2) ∧ CallOK Tryd.prog 40 [.ref 7001 0, slI false list] (lookO [(7001, .box [slU8 false s.code, I s.atx, .val (.int .u64 s.seed)])]) true (I v) (lookO [(7001, .box [slU8 false s'.code, I s'.atx, .val (.int .u64 s'.seed)])]) := by
  have hh : ∃ r : Int × l00Src, ((r.1 ∈ list) ∧ (okSrc r.2) ∧ (r.2.code = s.code) ∧ (s.atx + 0 ≤ r.2.atx ∧ r.2.atx ≤ s.atx + 2) ∧ (True)) ∧ CallOK Tryd.prog 40 [.ref 7001 0, slI false list] (lookO [(7001, .box [slU8 false s.code, I s.atx, .val (.int .u64 s.seed)])]) true (I r.1) (lookO [(7001, .box [slU8 false r.2.code, I r.2.atx, .val (.int .u64 r.2.seed)])]) := by
    refine fn_okX (Φ := fun r : Int × l00Src => (r.1 ∈ list) ∧ (okSrc r.2) ∧ (r.2.code = s.code) ∧ (s.atx + 0 ≤ r.2.atx ∧ r.2.atx ≤ s.atx + 2) ∧ (True)) [(7001, .box [slU8 false s.code, I s.atx, .val (.int .u64 s.seed)])] (fun r => [(7001, .box [slU8 false r.2.code, I r.2.atx, .val (.int .u64 r.2.seed)])]) (fn := Tryd.f40) (nt := 12) Tryd.func40 rfl rfl (args := [.ref 7001 0, slI false list]) rfl (allcons (.inr ⟨_, _, rfl⟩) (allcons (.inl ⟨rfl, tagI false _⟩) allnil)) (res := fun r => I r.1) ?_
    refine x_seq ?_
    refine x_reg [] [0, 1] [7001] [.ref 7001 0, slI false list] [some (.box [slU8 false s.code, I s.atx, .val (.int .u64 s.seed)])] [] (by kernel_rfl) trivial ?_
    refine xe_then ?_
    refine x_seq ?_
    obtain ⟨v_1, s'_1, hx1_0, hx1_1, hx1_2, hx1_3, hc1⟩ := pick_ok s (list.length : Int) (by first | assumption | (simp only [okSrc] at *; simp_all; done)) (by omega)
    refine x_reg [(4, .lend [(7001, .box [slU8 false s.code, I s.atx, .val (.int .u64 s.seed)], .box [slU8 false s'_1.code, I s'_1.atx, .val (.int .u64 s'_1.seed)])] [] [(true, .ref 7001 0), (true, I (list.length : Int))] true (I v_1))] [4] [7001] [I (at_ list v_1.toNat)] [some (.box [slU8 false s'_1.code, I s'_1.atx, .val (.int .u64 s'_1.seed)])] [CallOK Tryd.prog 38 [.ref 7001 0, I (list.length : Int)] (lookO [(7001, .box [slU8 false s.code, I s.atx, .val (.int .u64 s.seed)])]) true (I v_1) (lookO [(7001, .box [slU8 false s'_1.code, I s'_1.atx, .val (.int .u64 s'_1.seed)])]) ∧ ((.ref 7001 0 : AV) = .ref 7001 0) ∧ ((I (list.length : Int) : AV) = I (list.length : Int)) ∧ (((.box [slU8 false s.code, I s.atx, .val (.int .u64 s.seed)] : Ob) = .box [slU8 false s.code, I s.atx, .val (.int .u64 s.seed)] ∨ obLe noOb true (.box [slU8 false s.code, I s.atx, .val (.int .u64 s.seed)]) (.box [slU8 false s.code, I s.atx, .val (.int .u64 s.seed)])) ∧ taggedO false (.box [slU8 false s.code, I s.atx, .val (.int .u64 s.seed)])) ∧ True, (0 : Int) ≤ v_1 ∧ v_1 < (list.length : Int)] (by kernel_rfl) ⟨⟨hc1, rfl, rfl, ⟨.inl rfl, (by simp [taggedO, taggedL, tagged, tagU8])⟩, trivial⟩, ⟨(by omega), (by omega)⟩, trivial⟩ ?_
    refine xe_then ?_
    refine x_ret ?_
    refine xe_end ((at_ list v_1.toNat), s'_1) (show ((at_ list v_1.toNat) ∈ list) ∧ (okSrc s'_1) ∧ (s'_1.code = s.code) ∧ (s.atx + 0 ≤ s'_1.atx ∧ s'_1.atx ≤ s.atx + 2) ∧ (True) from ⟨(by first | omega | rfl | assumption | (dsimp only; first | omega | rfl | assumption) | (simp only [*]; done) | (exact at_mem (by omega)) | (simp_all; done)), (by first | omega | rfl | assumption | (dsimp only; first | omega | rfl | assumption) | (simp only [*]; done) | (exact at_mem (by omega)) | (simp_all; done)), (by first | omega | rfl | assumption | (dsimp only; first | omega | rfl | assumption) | (simp only [*]; done) | (exact at_mem (by omega)) | (simp_all; done)), (by first | omega | rfl | assumption | (dsimp only; first | omega | rfl | assumption) | (simp only [*]; done) | (exact at_mem (by omega)) | (simp_all; done)), trivial⟩) (⟨.inl rfl, trivial⟩) (I (at_ list v_1.toNat)) (by kernel_rfl) (.inl rfl) (fun _ => rfl) (fun _ => trivial)
  obtain ⟨⟨v, s'⟩, ⟨hh0, hh1, hh2, hh3, _⟩, hc⟩ := hh
  exact ⟨v, s', hh0, hh1, hh2, hh3, hc⟩


theorem sqb {v B : Int} (h : 0 ≤ v ∧ (v < B ∨ v = 0)) (hB : 0 < B ∧ B ≤ 100) : (0 ≤ v * v ∧ v * v ≤ 10000) ∧ 1 ≤ (1 + v) * (1 + v) ∧ (1 + v) * (1 + v) ≤ 10201 := by
  have h1 : v * v ≤ 100 * 100 := Int.mul_le_mul (by omega) (by omega) h.1 (by omega)
  have h2 : (1 + v) * (1 + v) ≤ 101 * 101 := Int.mul_le_mul (by omega) (by omega) (by omega) (by omega)
  have h3 := Int.mul_nonneg h.1 h.1
  have h4 : 1 * 1 ≤ (1 + v) * (1 + v) := Int.mul_le_mul (by omega) (by omega) (by omega) (by omega)
  omega

-- spec.l22Draw
theorem l22Draw_ok (s : l00Src) (hs : okSrc s) (ha : s.atx ≤ 3999999999999999900) : ∃ (v : Fraction) (s' : l00Src), (okSrc s') ∧ (s'.code = s.code) ∧ (s.atx + 0 ≤ s'.atx ∧ s'.atx ≤ s.atx + 30) ∧ CallOK Tryd.prog 34 [.ref 7001 0] (lookO [(7001, .box [slU8 false s.code, I s.atx, .val (.int .u64 s.seed)])]) true (.agg [I v.Num, I v.Den]) (lookO [(7001, .box [slU8 false s'.code, I s'.atx, .val (.int .u64 s'.seed)])]) := by
  have hh : ∃ r : Fraction × l00Src, ((okSrc r.2) ∧ (r.2.code = s.code) ∧ (s.atx + 0 ≤ r.2.atx ∧ r.2.atx ≤ s.atx + 30) ∧ (True)) ∧ CallOK Tryd.prog 34 [.ref 7001 0] (lookO [(7001, .box [slU8 false s.code, I s.atx, .val (.int .u64 s.seed)])]) true (.agg [I r.1.Num, I r.1.Den]) (lookO [(7001, .box [slU8 false r.2.code, I r.2.atx, .val (.int .u64 r.2.seed)])]) := by
    refine fn_okX (Φ := fun r : Fraction × l00Src => (okSrc r.2) ∧ (r.2.code = s.code) ∧ (s.atx + 0 ≤ r.2.atx ∧ r.2.atx ≤ s.atx + 30) ∧ (True)) [(7001, .box [slU8 false s.code, I s.atx, .val (.int .u64 s.seed)])] (fun r => [(7001, .box [slU8 false r.2.code, I r.2.atx, .val (.int .u64 r.2.seed)])]) (fn := Tryd.f34) (nt := 49) Tryd.func34 rfl rfl (args := [.ref 7001 0]) rfl (allcons (.inr ⟨_, _, rfl⟩) allnil) (res := fun r => .agg [I r.1.Num, I r.1.Den]) ?_
    refine x_seq ?_
    refine x_reg [(0, .new 2)] [0, 2] [2, 7001] [.ref 7001 0, .ref 2 0] [some (.box [I 0, I 0]), some (.box [slU8 false s.code, I s.atx, .val (.int .u64 s.seed)])] [] (by kernel_rfl) trivial ?_
    refine xe_then ?_
    refine x_seq ?_
    obtain ⟨v_1, s'_1, hx1_0, hx1_1, hx1_2, hx1_3, hc1⟩ := pick_ok s 61 (by first | assumption | (simp only [okSrc] at *; simp_all; done)) (by omega)
    have hsq_v_1 := sqb (B := 61) hx1_0 (by decide)
    obtain ⟨v_2, s'_2, hx2_0, hx2_1, hx2_2, hx2_3, hc2⟩ := pick_ok s'_1 12 (by first | assumption | (simp only [okSrc] at *; simp_all; done)) (by omega)
    have hsq_v_2 := sqb (B := 12) hx2_0 (by decide)
    refine x_reg [(1, .lend [(7001, .box [slU8 false s.code, I s.atx, .val (.int .u64 s.seed)], .box [slU8 false s'_1.code, I s'_1.atx, .val (.int .u64 s'_1.seed)])] [] [(true, .ref 7001 0), (true, I 61)] true (I v_1)), (4, .lend [(7001, .box [slU8 false s'_1.code, I s'_1.atx, .val (.int .u64 s'_1.seed)], .box [slU8 false s'_2.code, I s'_2.atx, .val (.int .u64 s'_2.seed)])] [] [(true, .ref 7001 0), (true, I 12)] true (I v_2)), (6, .call [(true, I (v_1 - 30)), (true, I (1 + v_2))] true (.tup [.agg [I ((redF (v_1 - 30) (1 + v_2)).Num), I ((redF (v_1 - 30) (1 + v_2)).Den)], Bv (okFr (redF (v_1 - 30) (1 + v_2)))])), (10, .new 3)] [0, 2, 3] [2, 3, 7001] [.ref 7001 0, .ref 2 0, .ref 3 0] [some (.box [I 0, I 0]), some (.box [I ((redF (v_1 - 30) (1 + v_2)).Num), I ((redF (v_1 - 30) (1 + v_2)).Den)]), some (.box [slU8 false s'_2.code, I s'_2.atx, .val (.int .u64 s'_2.seed)])] [CallOK Tryd.prog 38 [.ref 7001 0, I 61] (lookO [(7001, .box [slU8 false s.code, I s.atx, .val (.int .u64 s.seed)])]) true (I v_1) (lookO [(7001, .box [slU8 false s'_1.code, I s'_1.atx, .val (.int .u64 s'_1.seed)])]) ∧ ((.ref 7001 0 : AV) = .ref 7001 0) ∧ ((I 61 : AV) = I 61) ∧ (((.box [slU8 false s.code, I s.atx, .val (.int .u64 s.seed)] : Ob) = .box [slU8 false s.code, I s.atx, .val (.int .u64 s.seed)] ∨ obLe noOb true (.box [slU8 false s.code, I s.atx, .val (.int .u64 s.seed)]) (.box [slU8 false s.code, I s.atx, .val (.int .u64 s.seed)])) ∧ taggedO false (.box [slU8 false s.code, I s.atx, .val (.int .u64 s.seed)])) ∧ True, inR .i64 (v_1 - 30), CallOK Tryd.prog 38 [.ref 7001 0, I 12] (lookO [(7001, .box [slU8 false s'_1.code, I s'_1.atx, .val (.int .u64 s'_1.seed)])]) true (I v_2) (lookO [(7001, .box [slU8 false s'_2.code, I s'_2.atx, .val (.int .u64 s'_2.seed)])]) ∧ ((.ref 7001 0 : AV) = .ref 7001 0) ∧ ((I 12 : AV) = I 12) ∧ (((.box [slU8 false s'_1.code, I s'_1.atx, .val (.int .u64 s'_1.seed)] : Ob) = .box [slU8 false s'_1.code, I s'_1.atx, .val (.int .u64 s'_1.seed)] ∨ obLe noOb true (.box [slU8 false s'_1.code, I s'_1.atx, .val (.int .u64 s'_1.seed)]) (.box [slU8 false s'_1.code, I s'_1.atx, .val (.int .u64 s'_1.seed)])) ∧ taggedO false (.box [slU8 false s'_1.code, I s'_1.atx, .val (.int .u64 s'_1.seed)])) ∧ True, inR .i64 (1 + v_2), Con Tryd.prog 33 [I (v_1 - 30), I (1 + v_2)] true (.tup [.agg [I ((redF (v_1 - 30) (1 + v_2)).Num), I ((redF (v_1 - 30) (1 + v_2)).Den)], Bv (okFr (redF (v_1 - 30) (1 + v_2)))]) ∧ ((I (v_1 - 30) : AV) = I (v_1 - 30)) ∧ ((I (1 + v_2) : AV) = I (1 + v_2)) ∧ True] (by kernel_rfl) ⟨⟨hc1, rfl, rfl, ⟨.inl rfl, (by simp [taggedO, taggedL, tagged, tagU8])⟩, trivial⟩, (inR_i64 (by omega) (by omega)), ⟨hc2, rfl, rfl, ⟨.inl rfl, (by simp [taggedO, taggedL, tagged, tagU8])⟩, trivial⟩, (inR_i64 (by omega) (by omega)), ⟨(l22Make_ok (v_1 - 30) (1 + v_2) (by omega) (by omega)), rfl, rfl, trivial⟩, trivial⟩ ?_
    refine xe_then ?_
    refine x_seq ?_
    refine x_seq ?_
    obtain ⟨v_3, s'_3, hx3_0, hx3_1, hx3_2, hx3_3, hc3⟩ := pick_ok s'_2 20 (by first | assumption | (simp only [okSrc] at *; simp_all; done)) (by omega)
    have hsq_v_3 := sqb (B := 20) hx3_0 (by decide)
    refine x_reg [(1, .lend [(7001, .box [slU8 false s'_2.code, I s'_2.atx, .val (.int .u64 s'_2.seed)], .box [slU8 false s'_3.code, I s'_3.atx, .val (.int .u64 s'_3.seed)])] [] [(true, .ref 7001 0), (true, I 20)] true (I v_3))] [0, 2, 3, 18] [2, 3, 7001] [.ref 7001 0, .ref 2 0, .ref 3 0, I v_3] [some (.box [I 0, I 0]), some (.box [I ((redF (v_1 - 30) (1 + v_2)).Num), I ((redF (v_1 - 30) (1 + v_2)).Den)]), some (.box [slU8 false s'_3.code, I s'_3.atx, .val (.int .u64 s'_3.seed)])] [CallOK Tryd.prog 38 [.ref 7001 0, I 20] (lookO [(7001, .box [slU8 false s'_2.code, I s'_2.atx, .val (.int .u64 s'_2.seed)])]) true (I v_3) (lookO [(7001, .box [slU8 false s'_3.code, I s'_3.atx, .val (.int .u64 s'_3.seed)])]) ∧ ((.ref 7001 0 : AV) = .ref 7001 0) ∧ ((I 20 : AV) = I 20) ∧ (((.box [slU8 false s'_2.code, I s'_2.atx, .val (.int .u64 s'_2.seed)] : Ob) = .box [slU8 false s'_2.code, I s'_2.atx, .val (.int .u64 s'_2.seed)] ∨ obLe noOb true (.box [slU8 false s'_2.code, I s'_2.atx, .val (.int .u64 s'_2.seed)]) (.box [slU8 false s'_2.code, I s'_2.atx, .val (.int .u64 s'_2.seed)])) ∧ taggedO false (.box [slU8 false s'_2.code, I s'_2.atx, .val (.int .u64 s'_2.seed)])) ∧ True] (by kernel_rfl) ⟨⟨hc3, rfl, rfl, ⟨.inl rfl, (by simp [taggedO, taggedL, tagged, tagU8])⟩, trivial⟩, trivial⟩ ?_
    refine xe_then ?_
    refine x_block ?_
    refine x_seq ?_
    by_cases h1 : v_3 = 0
    · refine x_reg [(0, .dec true)] [0, 2, 3, 18, 19] [2, 3, 7001] [.ref 7001 0, .ref 2 0, .ref 3 0, I v_3, Bv true] [some (.box [I 0, I 0]), some (.box [I ((redF (v_1 - 30) (1 + v_2)).Num), I ((redF (v_1 - 30) (1 + v_2)).Den)]), some (.box [slU8 false s'_3.code, I s'_3.atx, .val (.int .u64 s'_3.seed)])] [v_3 = 0] (by kernel_rfl) ⟨h1, trivial⟩ ?_
      refine xe_then ?_
      refine x_true rfl ?_
      obtain ⟨v_4, s'_4, hx4_0, hx4_1, hx4_2, hx4_3, hc4⟩ := among_ok s'_3 ([1000000000, 1000000001, (-1000000000), 0, 36, 144]) (by first | assumption | (simp only [okSrc] at *; simp_all; done)) (by omega) (by simp)
      refine x_reg [(1, .new 22), (2, .lend [(7001, .box [slU8 false s'_3.code, I s'_3.atx, .val (.int .u64 s'_3.seed)], .box [slU8 false s'_4.code, I s'_4.atx, .val (.int .u64 s'_4.seed)])] [] [(true, .ref 7001 0), (false, slI false ([1000000000, 1000000001, (-1000000000), 0, 36, 144]))] true (I v_4))] [2, 3] [2, 3, 7001] [.ref 2 0, .ref 3 0] [some (.box [I 0, I 0]), some (.box [I v_4, I ((redF (v_1 - 30) (1 + v_2)).Den)]), some (.box [slU8 false s'_4.code, I s'_4.atx, .val (.int .u64 s'_4.seed)])] [CallOK Tryd.prog 40 [.ref 7001 0, slI false ([1000000000, 1000000001, (-1000000000), 0, 36, 144])] (lookO [(7001, .box [slU8 false s'_3.code, I s'_3.atx, .val (.int .u64 s'_3.seed)])]) true (I v_4) (lookO [(7001, .box [slU8 false s'_4.code, I s'_4.atx, .val (.int .u64 s'_4.seed)])]) ∧ ((.ref 7001 0 : AV) = .ref 7001 0) ∧ ((false = true → true = true) ∧ 1 = 1 ∧ 6 = (([1000000000, 1000000001, (-1000000000), 0, 36, 144]).length) ∧ ∀ i, i < (([1000000000, 1000000001, (-1000000000), 0, 36, 144]).length) → (litF [I 1000000000, I 1000000001, I (-1000000000), I 0, I 36, I 144] 1) i = (fI ([1000000000, 1000000001, (-1000000000), 0, 36, 144])) i ∨ (AV.idsL ((fI ([1000000000, 1000000001, (-1000000000), 0, 36, 144])) i) = [] ∧ leL (fun _ => none) false ((litF [I 1000000000, I 1000000001, I (-1000000000), I 0, I 36, I 144] 1) i) ((fI ([1000000000, 1000000001, (-1000000000), 0, 36, 144])) i))) ∧ (((.box [slU8 false s'_3.code, I s'_3.atx, .val (.int .u64 s'_3.seed)] : Ob) = .box [slU8 false s'_3.code, I s'_3.atx, .val (.int .u64 s'_3.seed)] ∨ obLe noOb true (.box [slU8 false s'_3.code, I s'_3.atx, .val (.int .u64 s'_3.seed)]) (.box [slU8 false s'_3.code, I s'_3.atx, .val (.int .u64 s'_3.seed)])) ∧ taggedO false (.box [slU8 false s'_3.code, I s'_3.atx, .val (.int .u64 s'_3.seed)])) ∧ True] (by kernel_rfl) ⟨⟨hc4, rfl, ⟨(fun h => by cases h), rfl, (by first | rfl | (simp; done) | (simp; omega) | omega), fun i hi => .inl (match i, hi with | 0, _ => rfl | 1, _ => rfl | 2, _ => rfl | 3, _ => rfl | 4, _ => rfl | 5, _ => rfl | (i + 6), h => absurd h (by simp))⟩, ⟨.inl rfl, (by simp [taggedO, taggedL, tagged, tagU8])⟩, trivial⟩, trivial⟩ ?_
      refine xe_block 0 ?_
      refine xe_then ?_
      refine x_seq ?_
      refine x_reg [] [2] [2, 7001] [.ref 2 0] [some (.box [I v_4, I ((redF (v_1 - 30) (1 + v_2)).Den)]), some (.box [slU8 false s'_4.code, I s'_4.atx, .val (.int .u64 s'_4.seed)])] [] (by kernel_rfl) trivial ?_
      refine xe_then ?_
      refine x_ret ?_
      refine xe_end ((Fraction.mk v_4 ((redF (v_1 - 30) (1 + v_2)).Den)), s'_4) (show (okSrc s'_4) ∧ (s'_4.code = s.code) ∧ (s.atx + 0 ≤ s'_4.atx ∧ s'_4.atx ≤ s.atx + 30) ∧ (True) from ⟨(by first | omega | rfl | assumption | (dsimp only; first | omega | rfl | assumption) | (simp only [*]; done) | (simp_all; done)), (by first | omega | rfl | assumption | (dsimp only; first | omega | rfl | assumption) | (simp only [*]; done) | (simp_all; done)), (by first | omega | rfl | assumption | (dsimp only; first | omega | rfl | assumption) | (simp only [*]; done) | (simp_all; done)), trivial⟩) (⟨.inl rfl, trivial⟩) (.agg [I v_4, I ((redF (v_1 - 30) (1 + v_2)).Den)]) (by kernel_rfl) (.inl rfl) (fun _ => rfl) (fun _ => (by simp [tagged, taggedL]))
    · refine x_reg [(0, .dec false)] [0, 2, 3, 18, 19] [2, 3, 7001] [.ref 7001 0, .ref 2 0, .ref 3 0, I v_3, Bv false] [some (.box [I 0, I 0]), some (.box [I ((redF (v_1 - 30) (1 + v_2)).Num), I ((redF (v_1 - 30) (1 + v_2)).Den)]), some (.box [slU8 false s'_3.code, I s'_3.atx, .val (.int .u64 s'_3.seed)])] [¬ (v_3 = 0)] (by kernel_rfl) ⟨h1, trivial⟩ ?_
      refine xe_then ?_
      refine x_false rfl ?_
      refine x_seq ?_
      by_cases h2 : v_3 = 1
      · refine x_reg [(0, .dec true)] [0, 2, 3, 18, 25] [2, 3, 7001] [.ref 7001 0, .ref 2 0, .ref 3 0, I v_3, Bv true] [some (.box [I 0, I 0]), some (.box [I ((redF (v_1 - 30) (1 + v_2)).Num), I ((redF (v_1 - 30) (1 + v_2)).Den)]), some (.box [slU8 false s'_3.code, I s'_3.atx, .val (.int .u64 s'_3.seed)])] [v_3 = 1] (by kernel_rfl) ⟨h2, trivial⟩ ?_
        refine xe_then ?_
        refine x_true rfl ?_
        obtain ⟨v_5, s'_5, hx5_0, hx5_1, hx5_2, hx5_3, hc5⟩ := among_ok s'_3 ([0, 1, (-1), 1000000000, 1000000001, 9]) (by first | assumption | (simp only [okSrc] at *; simp_all; done)) (by omega) (by simp)
        refine x_reg [(1, .new 28), (2, .lend [(7001, .box [slU8 false s'_3.code, I s'_3.atx, .val (.int .u64 s'_3.seed)], .box [slU8 false s'_5.code, I s'_5.atx, .val (.int .u64 s'_5.seed)])] [] [(true, .ref 7001 0), (false, slI false ([0, 1, (-1), 1000000000, 1000000001, 9]))] true (I v_5))] [2, 3] [2, 3, 7001] [.ref 2 0, .ref 3 0] [some (.box [I 0, I 0]), some (.box [I ((redF (v_1 - 30) (1 + v_2)).Num), I v_5]), some (.box [slU8 false s'_5.code, I s'_5.atx, .val (.int .u64 s'_5.seed)])] [CallOK Tryd.prog 40 [.ref 7001 0, slI false ([0, 1, (-1), 1000000000, 1000000001, 9])] (lookO [(7001, .box [slU8 false s'_3.code, I s'_3.atx, .val (.int .u64 s'_3.seed)])]) true (I v_5) (lookO [(7001, .box [slU8 false s'_5.code, I s'_5.atx, .val (.int .u64 s'_5.seed)])]) ∧ ((.ref 7001 0 : AV) = .ref 7001 0) ∧ ((false = true → true = true) ∧ 1 = 1 ∧ 6 = (([0, 1, (-1), 1000000000, 1000000001, 9]).length) ∧ ∀ i, i < (([0, 1, (-1), 1000000000, 1000000001, 9]).length) → (litF [I 0, I 1, I (-1), I 1000000000, I 1000000001, I 9] 1) i = (fI ([0, 1, (-1), 1000000000, 1000000001, 9])) i ∨ (AV.idsL ((fI ([0, 1, (-1), 1000000000, 1000000001, 9])) i) = [] ∧ leL (fun _ => none) false ((litF [I 0, I 1, I (-1), I 1000000000, I 1000000001, I 9] 1) i) ((fI ([0, 1, (-1), 1000000000, 1000000001, 9])) i))) ∧ (((.box [slU8 false s'_3.code, I s'_3.atx, .val (.int .u64 s'_3.seed)] : Ob) = .box [slU8 false s'_3.code, I s'_3.atx, .val (.int .u64 s'_3.seed)] ∨ obLe noOb true (.box [slU8 false s'_3.code, I s'_3.atx, .val (.int .u64 s'_3.seed)]) (.box [slU8 false s'_3.code, I s'_3.atx, .val (.int .u64 s'_3.seed)])) ∧ taggedO false (.box [slU8 false s'_3.code, I s'_3.atx, .val (.int .u64 s'_3.seed)])) ∧ True] (by kernel_rfl) ⟨⟨hc5, rfl, ⟨(fun h => by cases h), rfl, (by first | rfl | (simp; done) | (simp; omega) | omega), fun i hi => .inl (match i, hi with | 0, _ => rfl | 1, _ => rfl | 2, _ => rfl | 3, _ => rfl | 4, _ => rfl | 5, _ => rfl | (i + 6), h => absurd h (by simp))⟩, ⟨.inl rfl, (by simp [taggedO, taggedL, tagged, tagU8])⟩, trivial⟩, trivial⟩ ?_
        refine xe_block 0 ?_
        refine xe_then ?_
        refine x_seq ?_
        refine x_reg [] [2] [2, 7001] [.ref 2 0] [some (.box [I ((redF (v_1 - 30) (1 + v_2)).Num), I v_5]), some (.box [slU8 false s'_5.code, I s'_5.atx, .val (.int .u64 s'_5.seed)])] [] (by kernel_rfl) trivial ?_
        refine xe_then ?_
        refine x_ret ?_
        refine xe_end ((Fraction.mk ((redF (v_1 - 30) (1 + v_2)).Num) v_5), s'_5) (show (okSrc s'_5) ∧ (s'_5.code = s.code) ∧ (s.atx + 0 ≤ s'_5.atx ∧ s'_5.atx ≤ s.atx + 30) ∧ (True) from ⟨(by first | omega | rfl | assumption | (dsimp only; first | omega | rfl | assumption) | (simp only [*]; done) | (simp_all; done)), (by first | omega | rfl | assumption | (dsimp only; first | omega | rfl | assumption) | (simp only [*]; done) | (simp_all; done)), (by first | omega | rfl | assumption | (dsimp only; first | omega | rfl | assumption) | (simp only [*]; done) | (simp_all; done)), trivial⟩) (⟨.inl rfl, trivial⟩) (.agg [I ((redF (v_1 - 30) (1 + v_2)).Num), I v_5]) (by kernel_rfl) (.inl rfl) (fun _ => rfl) (fun _ => (by simp [tagged, taggedL]))
      · refine x_reg [(0, .dec false)] [0, 2, 3, 18, 25] [2, 3, 7001] [.ref 7001 0, .ref 2 0, .ref 3 0, I v_3, Bv false] [some (.box [I 0, I 0]), some (.box [I ((redF (v_1 - 30) (1 + v_2)).Num), I ((redF (v_1 - 30) (1 + v_2)).Den)]), some (.box [slU8 false s'_3.code, I s'_3.atx, .val (.int .u64 s'_3.seed)])] [¬ (v_3 = 1)] (by kernel_rfl) ⟨h2, trivial⟩ ?_
        refine xe_then ?_
        refine x_false rfl ?_
        refine x_seq ?_
        by_cases h3 : v_3 = 2
        · refine x_reg [(0, .dec true)] [0, 2, 3, 31] [2, 3, 7001] [.ref 7001 0, .ref 2 0, .ref 3 0, Bv true] [some (.box [I 0, I 0]), some (.box [I ((redF (v_1 - 30) (1 + v_2)).Num), I ((redF (v_1 - 30) (1 + v_2)).Den)]), some (.box [slU8 false s'_3.code, I s'_3.atx, .val (.int .u64 s'_3.seed)])] [v_3 = 2] (by kernel_rfl) ⟨h3, trivial⟩ ?_
          refine xe_then ?_
          refine x_true rfl ?_
          refine x_seq ?_
          obtain ⟨v_6, s'_6, hx6_0, hx6_1, hx6_2, hx6_3, hc6⟩ := pick_ok s'_3 20 (by first | assumption | (simp only [okSrc] at *; simp_all; done)) (by omega)
          have hsq_v_6 := sqb (B := 20) hx6_0 (by decide)
          refine x_reg [(1, .lend [(7001, .box [slU8 false s'_3.code, I s'_3.atx, .val (.int .u64 s'_3.seed)], .box [slU8 false s'_6.code, I s'_6.atx, .val (.int .u64 s'_6.seed)])] [] [(true, .ref 7001 0), (true, I 20)] true (I v_6))] [0, 2, 3, 5] [2, 3, 7001] [.ref 7001 0, .ref 2 0, .ref 3 0, I v_6] [some (.box [I 0, I 0]), some (.box [I ((redF (v_1 - 30) (1 + v_2)).Num), I ((redF (v_1 - 30) (1 + v_2)).Den)]), some (.box [slU8 false s'_6.code, I s'_6.atx, .val (.int .u64 s'_6.seed)])] [CallOK Tryd.prog 38 [.ref 7001 0, I 20] (lookO [(7001, .box [slU8 false s'_3.code, I s'_3.atx, .val (.int .u64 s'_3.seed)])]) true (I v_6) (lookO [(7001, .box [slU8 false s'_6.code, I s'_6.atx, .val (.int .u64 s'_6.seed)])]) ∧ ((.ref 7001 0 : AV) = .ref 7001 0) ∧ ((I 20 : AV) = I 20) ∧ (((.box [slU8 false s'_3.code, I s'_3.atx, .val (.int .u64 s'_3.seed)] : Ob) = .box [slU8 false s'_3.code, I s'_3.atx, .val (.int .u64 s'_3.seed)] ∨ obLe noOb true (.box [slU8 false s'_3.code, I s'_3.atx, .val (.int .u64 s'_3.seed)]) (.box [slU8 false s'_3.code, I s'_3.atx, .val (.int .u64 s'_3.seed)])) ∧ taggedO false (.box [slU8 false s'_3.code, I s'_3.atx, .val (.int .u64 s'_3.seed)])) ∧ True] (by kernel_rfl) ⟨⟨hc6, rfl, rfl, ⟨.inl rfl, (by simp [taggedO, taggedL, tagged, tagU8])⟩, trivial⟩, trivial⟩ ?_
          refine xe_then ?_
          refine x_seq ?_
          obtain ⟨v_7, s'_7, hx7_0, hx7_1, hx7_2, hx7_3, hc7⟩ := pick_ok s'_6 9 (by first | assumption | (simp only [okSrc] at *; simp_all; done)) (by omega)
          have hsq_v_7 := sqb (B := 9) hx7_0 (by decide)
          refine x_reg [(1, .lend [(7001, .box [slU8 false s'_6.code, I s'_6.atx, .val (.int .u64 s'_6.seed)], .box [slU8 false s'_7.code, I s'_7.atx, .val (.int .u64 s'_7.seed)])] [] [(true, .ref 7001 0), (true, I 9)] true (I v_7))] [2, 3, 5, 6] [2, 3, 7001] [.ref 2 0, .ref 3 0, I v_6, I (1 + v_7)] [some (.box [I 0, I 0]), some (.box [I ((redF (v_1 - 30) (1 + v_2)).Num), I ((redF (v_1 - 30) (1 + v_2)).Den)]), some (.box [slU8 false s'_7.code, I s'_7.atx, .val (.int .u64 s'_7.seed)])] [CallOK Tryd.prog 38 [.ref 7001 0, I 9] (lookO [(7001, .box [slU8 false s'_6.code, I s'_6.atx, .val (.int .u64 s'_6.seed)])]) true (I v_7) (lookO [(7001, .box [slU8 false s'_7.code, I s'_7.atx, .val (.int .u64 s'_7.seed)])]) ∧ ((.ref 7001 0 : AV) = .ref 7001 0) ∧ ((I 9 : AV) = I 9) ∧ (((.box [slU8 false s'_6.code, I s'_6.atx, .val (.int .u64 s'_6.seed)] : Ob) = .box [slU8 false s'_6.code, I s'_6.atx, .val (.int .u64 s'_6.seed)] ∨ obLe noOb true (.box [slU8 false s'_6.code, I s'_6.atx, .val (.int .u64 s'_6.seed)]) (.box [slU8 false s'_6.code, I s'_6.atx, .val (.int .u64 s'_6.seed)])) ∧ taggedO false (.box [slU8 false s'_6.code, I s'_6.atx, .val (.int .u64 s'_6.seed)])) ∧ True, inR .i64 (1 + v_7)] (by kernel_rfl) ⟨⟨hc7, rfl, rfl, ⟨.inl rfl, (by simp [taggedO, taggedL, tagged, tagU8])⟩, trivial⟩, (inR_i64 (by omega) (by omega)), trivial⟩ ?_
          refine xe_then ?_
          refine x_reg [(6, .call [(true, I (v_6 * v_6)), (true, I ((1 + v_7) * (1 + v_7)))] true (.tup [.agg [I ((redF (v_6 * v_6) ((1 + v_7) * (1 + v_7))).Num), I ((redF (v_6 * v_6) ((1 + v_7) * (1 + v_7))).Den)], Bv (okFr (redF (v_6 * v_6) ((1 + v_7) * (1 + v_7))))]))] [2, 3] [2, 3, 7001] [.ref 2 0, .ref 3 0] [some (.box [I 0, I 0]), some (.box [I ((redF (v_6 * v_6) ((1 + v_7) * (1 + v_7))).Num), I ((redF (v_6 * v_6) ((1 + v_7) * (1 + v_7))).Den)]), some (.box [slU8 false s'_7.code, I s'_7.atx, .val (.int .u64 s'_7.seed)])] [inR .i64 (v_6 * v_6), inR .i64 ((1 + v_7) * (1 + v_7)), Con Tryd.prog 33 [I (v_6 * v_6), I ((1 + v_7) * (1 + v_7))] true (.tup [.agg [I ((redF (v_6 * v_6) ((1 + v_7) * (1 + v_7))).Num), I ((redF (v_6 * v_6) ((1 + v_7) * (1 + v_7))).Den)], Bv (okFr (redF (v_6 * v_6) ((1 + v_7) * (1 + v_7))))]) ∧ ((I (v_6 * v_6) : AV) = I (v_6 * v_6)) ∧ ((I ((1 + v_7) * (1 + v_7)) : AV) = I ((1 + v_7) * (1 + v_7))) ∧ True] (by kernel_rfl) ⟨(inR_i64 (by omega) (by omega)), (inR_i64 (by omega) (by omega)), ⟨(l22Make_ok (v_6 * v_6) ((1 + v_7) * (1 + v_7)) (by omega) (by omega)), rfl, rfl, trivial⟩, trivial⟩ ?_
          refine xe_block 0 ?_
          refine xe_then ?_
          refine x_seq ?_
          refine x_reg [] [2] [2, 7001] [.ref 2 0] [some (.box [I ((redF (v_6 * v_6) ((1 + v_7) * (1 + v_7))).Num), I ((redF (v_6 * v_6) ((1 + v_7) * (1 + v_7))).Den)]), some (.box [slU8 false s'_7.code, I s'_7.atx, .val (.int .u64 s'_7.seed)])] [] (by kernel_rfl) trivial ?_
          refine xe_then ?_
          refine x_ret ?_
          refine xe_end ((redF (v_6 * v_6) ((1 + v_7) * (1 + v_7))), s'_7) (show (okSrc s'_7) ∧ (s'_7.code = s.code) ∧ (s.atx + 0 ≤ s'_7.atx ∧ s'_7.atx ≤ s.atx + 30) ∧ (True) from ⟨(by first | omega | rfl | assumption | (dsimp only; first | omega | rfl | assumption) | (simp only [*]; done) | (simp_all; done)), (by first | omega | rfl | assumption | (dsimp only; first | omega | rfl | assumption) | (simp only [*]; done) | (simp_all; done)), (by first | omega | rfl | assumption | (dsimp only; first | omega | rfl | assumption) | (simp only [*]; done) | (simp_all; done)), trivial⟩) (⟨.inl rfl, trivial⟩) (.agg [I ((redF (v_6 * v_6) ((1 + v_7) * (1 + v_7))).Num), I ((redF (v_6 * v_6) ((1 + v_7) * (1 + v_7))).Den)]) (by kernel_rfl) (.inl rfl) (fun _ => rfl) (fun _ => (by simp [tagged, taggedL]))
        · refine x_reg [(0, .dec false)] [0, 2, 3, 31] [2, 3, 7001] [.ref 7001 0, .ref 2 0, .ref 3 0, Bv false] [some (.box [I 0, I 0]), some (.box [I ((redF (v_1 - 30) (1 + v_2)).Num), I ((redF (v_1 - 30) (1 + v_2)).Den)]), some (.box [slU8 false s'_3.code, I s'_3.atx, .val (.int .u64 s'_3.seed)])] [¬ (v_3 = 2)] (by kernel_rfl) ⟨h3, trivial⟩ ?_
          refine xe_then ?_
          refine x_false rfl ?_
          refine x_skip ?_
          refine xe_block 0 ?_
          refine xe_then ?_
          refine x_seq ?_
          refine x_reg [] [2] [2, 7001] [.ref 2 0] [some (.box [I ((redF (v_1 - 30) (1 + v_2)).Num), I ((redF (v_1 - 30) (1 + v_2)).Den)]), some (.box [slU8 false s'_3.code, I s'_3.atx, .val (.int .u64 s'_3.seed)])] [] (by kernel_rfl) trivial ?_
          refine xe_then ?_
          refine x_ret ?_
          refine xe_end ((redF (v_1 - 30) (1 + v_2)), s'_3) (show (okSrc s'_3) ∧ (s'_3.code = s.code) ∧ (s.atx + 0 ≤ s'_3.atx ∧ s'_3.atx ≤ s.atx + 30) ∧ (True) from ⟨(by first | omega | rfl | assumption | (dsimp only; first | omega | rfl | assumption) | (simp only [*]; done) | (simp_all; done)), (by first | omega | rfl | assumption | (dsimp only; first | omega | rfl | assumption) | (simp only [*]; done) | (simp_all; done)), (by first | omega | rfl | assumption | (dsimp only; first | omega | rfl | assumption) | (simp only [*]; done) | (simp_all; done)), trivial⟩) (⟨.inl rfl, trivial⟩) (.agg [I ((redF (v_1 - 30) (1 + v_2)).Num), I ((redF (v_1 - 30) (1 + v_2)).Den)]) (by kernel_rfl) (.inl rfl) (fun _ => rfl) (fun _ => (by simp [tagged, taggedL]))
  obtain ⟨⟨v, s'⟩, ⟨hh0, hh1, hh2, _⟩, hc⟩ := hh
  exact ⟨v, s', hh0, hh1, hh2, hc⟩


-- spec.l22Pair
theorem l22Pair_ok (code : List Int) (hc : (∀ j, j < code.length → 0 ≤ at_ code j ∧ at_ code j ≤ 255) ∧ code.length ≤ 4611686018427387904) : ∃ (v : Fraction) (w : Fraction), Con Tryd.prog 29 [slU8 false code] true (.tup [.agg [I v.Num, I v.Den], .agg [I w.Num, I w.Den]]) := by
  have hh : ∃ r : Fraction × Fraction, (True) ∧ CallOK Tryd.prog 29 [slU8 false code] (lookO []) true (.tup [.agg [I r.1.Num, I r.1.Den], .agg [I r.2.Num, I r.2.Den]]) (lookO []) := by
    refine fn_okX (Φ := fun r : Fraction × Fraction => True) [] (fun r => []) (fn := Tryd.f29) (nt := 13) Tryd.func29 rfl rfl (args := [slU8 false code]) rfl (allcons (.inl ⟨rfl, tagU8 false _⟩) allnil) (res := fun r => .tup [.agg [I r.1.Num, I r.1.Den], .agg [I r.2.Num, I r.2.Den]]) ?_
    refine x_seq ?_
    refine x_reg [(0, .new 2), (1, .new 3)] [0, 2, 3] [2, 3] [slU8 false code, .ref 2 0, .ref 3 0] [some (.box [I 0, I 0]), some (.box [I 0, I 0])] [] (by kernel_rfl) trivial ?_
    refine xe_then ?_
    refine x_seq ?_
    obtain ⟨s'_1, hx1_0, hc1⟩ := l00From_ok code
    have hsrc : okSrc s'_1 := ⟨by rw [hx1_0.1]; exact hc.1, by rw [hx1_0.2]; decide, by rw [hx1_0.1]; exact hc.2⟩
    have hat0 := hx1_0.2
    refine x_reg [(1, .lend [] [(7001, .box [slU8 false s'_1.code, I s'_1.atx, .val (.int .u64 s'_1.seed)])] [(true, slU8 false code)] false (.ref 7001 0))] [2, 3, 4] [2, 3, 7001] [.ref 2 0, .ref 3 0, .ref 7001 0] [some (.box [I 0, I 0]), some (.box [I 0, I 0]), some (.box [slU8 false s'_1.code, I s'_1.atx, .val (.int .u64 s'_1.seed)])] [CallOK Tryd.prog 35 [slU8 false code] (lookO []) false (.ref 7001 0) (lookO [(7001, .box [slU8 false s'_1.code, I s'_1.atx, .val (.int .u64 s'_1.seed)])]) ∧ ((slU8 false code : AV) = slU8 false code) ∧ True] (by kernel_rfl) ⟨⟨hc1, rfl, trivial⟩, trivial⟩ ?_
    refine xe_then ?_
    refine x_seq ?_
    obtain ⟨v_2, s'_2, hx2_0, hx2_1, hx2_2, hc2⟩ := l22Draw_ok s'_1 (by first | assumption | (simp only [okSrc] at *; simp_all; done)) (by omega)
    refine x_reg [(1, .lend [(7001, .box [slU8 false s'_1.code, I s'_1.atx, .val (.int .u64 s'_1.seed)], .box [slU8 false s'_2.code, I s'_2.atx, .val (.int .u64 s'_2.seed)])] [] [(true, .ref 7001 0)] true (.agg [I v_2.Num, I v_2.Den])), (2, .new 5)] [2, 3, 4, 5] [2, 3, 5, 7001] [.ref 2 0, .ref 3 0, .ref 7001 0, .ref 5 0] [some (.box [I 0, I 0]), some (.box [I 0, I 0]), some (.box [I v_2.Num, I v_2.Den]), some (.box [slU8 false s'_2.code, I s'_2.atx, .val (.int .u64 s'_2.seed)])] [CallOK Tryd.prog 34 [.ref 7001 0] (lookO [(7001, .box [slU8 false s'_1.code, I s'_1.atx, .val (.int .u64 s'_1.seed)])]) true (.agg [I v_2.Num, I v_2.Den]) (lookO [(7001, .box [slU8 false s'_2.code, I s'_2.atx, .val (.int .u64 s'_2.seed)])]) ∧ ((.ref 7001 0 : AV) = .ref 7001 0) ∧ (((.box [slU8 false s'_1.code, I s'_1.atx, .val (.int .u64 s'_1.seed)] : Ob) = .box [slU8 false s'_1.code, I s'_1.atx, .val (.int .u64 s'_1.seed)] ∨ obLe noOb true (.box [slU8 false s'_1.code, I s'_1.atx, .val (.int .u64 s'_1.seed)]) (.box [slU8 false s'_1.code, I s'_1.atx, .val (.int .u64 s'_1.seed)])) ∧ taggedO false (.box [slU8 false s'_1.code, I s'_1.atx, .val (.int .u64 s'_1.seed)])) ∧ True] (by kernel_rfl) ⟨⟨hc2, rfl, ⟨.inl rfl, (by simp [taggedO, taggedL, tagged, tagU8])⟩, trivial⟩, trivial⟩ ?_
    refine xe_then ?_
    refine x_seq ?_
    obtain ⟨v_3, s'_3, hx3_0, hx3_1, hx3_2, hc3⟩ := l22Draw_ok s'_2 (by first | assumption | (simp only [okSrc] at *; simp_all; done)) (by omega)
    refine x_reg [(2, .lend [(7001, .box [slU8 false s'_2.code, I s'_2.atx, .val (.int .u64 s'_2.seed)], .box [slU8 false s'_3.code, I s'_3.atx, .val (.int .u64 s'_3.seed)])] [] [(true, .ref 7001 0)] true (.agg [I v_3.Num, I v_3.Den]))] [2, 3] [2, 3] [.ref 2 0, .ref 3 0] [some (.box [I v_2.Num, I v_2.Den]), some (.box [I v_3.Num, I v_3.Den])] [CallOK Tryd.prog 34 [.ref 7001 0] (lookO [(7001, .box [slU8 false s'_2.code, I s'_2.atx, .val (.int .u64 s'_2.seed)])]) true (.agg [I v_3.Num, I v_3.Den]) (lookO [(7001, .box [slU8 false s'_3.code, I s'_3.atx, .val (.int .u64 s'_3.seed)])]) ∧ ((.ref 7001 0 : AV) = .ref 7001 0) ∧ (((.box [slU8 false s'_2.code, I s'_2.atx, .val (.int .u64 s'_2.seed)] : Ob) = .box [slU8 false s'_2.code, I s'_2.atx, .val (.int .u64 s'_2.seed)] ∨ obLe noOb true (.box [slU8 false s'_2.code, I s'_2.atx, .val (.int .u64 s'_2.seed)]) (.box [slU8 false s'_2.code, I s'_2.atx, .val (.int .u64 s'_2.seed)])) ∧ taggedO false (.box [slU8 false s'_2.code, I s'_2.atx, .val (.int .u64 s'_2.seed)])) ∧ True] (by kernel_rfl) ⟨⟨hc3, rfl, ⟨.inl rfl, (by simp [taggedO, taggedL, tagged, tagU8])⟩, trivial⟩, trivial⟩ ?_
    refine xe_then ?_
    refine x_ret ?_
    refine xe_end (v_2, v_3) trivial (trivial) (.tup [.agg [I v_2.Num, I v_2.Den], .agg [I v_3.Num, I v_3.Den]]) (by kernel_rfl) (.inl rfl) (fun _ => rfl) (fun _ => (by simp [tagged, taggedL]))
  obtain ⟨⟨v, w⟩, _, hc⟩ := hh
  exact ⟨v, w, hc⟩


-- spec.DrawAddFractions
theorem DrawAddFractions_ok (code : List Int) (hc : (∀ j, j < code.length → 0 ≤ at_ code j ∧ at_ code j ≤ 255) ∧ code.length ≤ 4611686018427387904) : ∃ (v : Fraction) (w : Fraction), Con Tryd.prog 6 [slU8 false code] true (.tup [.agg [I v.Num, I v.Den], .agg [I w.Num, I w.Den]]) := by
  have hh : ∃ r : Fraction × Fraction, (True) ∧ CallOK Tryd.prog 6 [slU8 false code] (lookO []) true (.tup [.agg [I r.1.Num, I r.1.Den], .agg [I r.2.Num, I r.2.Den]]) (lookO []) := by
    refine fn_okX (Φ := fun r : Fraction × Fraction => True) [] (fun r => []) (fn := Tryd.f6) (nt := 8) Tryd.func6 rfl rfl (args := [slU8 false code]) rfl (allcons (.inl ⟨rfl, tagU8 false _⟩) allnil) (res := fun r => .tup [.agg [I r.1.Num, I r.1.Den], .agg [I r.2.Num, I r.2.Den]]) ?_
    refine x_seq ?_
    refine x_reg [(0, .new 2), (1, .new 3)] [0, 2, 3] [2, 3] [slU8 false code, .ref 2 0, .ref 3 0] [some (.box [I 0, I 0]), some (.box [I 0, I 0])] [] (by kernel_rfl) trivial ?_
    refine xe_then ?_
    refine x_seq ?_
    obtain ⟨v_1, w_1, hc1⟩ := l22Pair_ok code (by assumption)
    refine x_reg [(1, .call [(true, slU8 false code)] true (.tup [.agg [I v_1.Num, I v_1.Den], .agg [I w_1.Num, I w_1.Den]]))] [2, 3] [2, 3] [.ref 2 0, .ref 3 0] [some (.box [I v_1.Num, I v_1.Den]), some (.box [I w_1.Num, I w_1.Den])] [Con Tryd.prog 29 [slU8 false code] true (.tup [.agg [I v_1.Num, I v_1.Den], .agg [I w_1.Num, I w_1.Den]]) ∧ ((slU8 false code : AV) = slU8 false code) ∧ True] (by kernel_rfl) ⟨⟨hc1, rfl, trivial⟩, trivial⟩ ?_
    refine xe_then ?_
    refine x_ret ?_
    refine xe_end (v_1, w_1) trivial (trivial) (.tup [.agg [I v_1.Num, I v_1.Den], .agg [I w_1.Num, I w_1.Den]]) (by kernel_rfl) (.inl rfl) (fun _ => rfl) (fun _ => (by simp [tagged, taggedL]))
  obtain ⟨⟨v, w⟩, _, hc⟩ := hh
  exact ⟨v, w, hc⟩


-- impl.within
theorem within_ok (n : Int) (low : Int) (high : Int) : Con Tryd.prog 41 [I n, I low, I high] true (Bv (inB n low high)) := by
  refine fn_ok (fn := Tryd.f41) (nt := 15) Tryd.func41 rfl rfl rfl rfl (by simp [taggedL, tagged]) fun B hB => ?_
  refine aw_seq ?_
  refine aw_reg [] [0, 1, 2] [] [I n, I low, I high] [] [] (by kernel_rfl) hB trivial ?_
  refine ae_then ?_
  refine aw_seq ?_
  by_cases h1 : low ≤ n
  · refine aw_reg [(2, .dec true)] [6] [] [Bv (decide (n ≤ high))] [] [low ≤ n] (by kernel_rfl) hB ⟨h1, trivial⟩ ?_
    refine ae_then ?_
    refine aw_ret ?_
    refine ae_ret hB (Bv (decide (n ≤ high))) (by kernel_rfl) (.inl (by first | rfl | (refine congrArg Bv ?_; simp [inB, *]; done) | (refine congrArg Bv ?_; simp [inB, *]; omega) | (refine congrArg Bv ?_; simp_all [inB]; done) | (refine congrArg Bv ?_; simp_all [inB]; omega))) rfl (fun _ => trivial)
  · refine aw_reg [(2, .dec false)] [6] [] [Bv false] [] [¬ (low ≤ n)] (by kernel_rfl) hB ⟨h1, trivial⟩ ?_
    refine ae_then ?_
    refine aw_ret ?_
    refine ae_ret hB (Bv false) (by kernel_rfl) (.inl (by first | rfl | (refine congrArg Bv ?_; simp [inB, *]; done) | (refine congrArg Bv ?_; simp [inB, *]; omega) | (refine congrArg Bv ?_; simp_all [inB]; done) | (refine congrArg Bv ?_; simp_all [inB]; omega))) rfl (fun _ => trivial)


-- impl.abs
theorem abs_ok (n : Int) (hn : -9223372036854775807 ≤ n ∧ n ≤ 9223372036854775807) : Con Tryd.prog 56 [I n] true (I (n.natAbs : Int)) := by
  refine fn_ok (fn := Tryd.f56) (nt := 8) Tryd.func56 rfl rfl rfl rfl (by simp [taggedL, tagged]) fun B hB => ?_
  refine aw_seq ?_
  refine aw_reg [] [0] [] [I n] [] [] (by kernel_rfl) hB trivial ?_
  refine ae_then ?_
  refine aw_seq ?_
  refine aw_seq ?_
  by_cases h1 : n < 0
  · refine aw_reg [(1, .dec true)] [0, 4] [] [I n, Bv true] [] [n < 0] (by kernel_rfl) hB ⟨h1, trivial⟩ ?_
    refine ae_then ?_
    refine aw_true rfl ?_
    refine aw_seq ?_
    refine aw_reg [] [2] [] [I (-n)] [] [inR .i64 (-n)] (by kernel_rfl) hB ⟨(inR_i64 (by omega) (by omega)), trivial⟩ ?_
    refine ae_then ?_
    refine aw_ret ?_
    refine ae_ret_then ?_
    refine ae_ret hB (I (-n)) (by kernel_rfl) (.inl (by refine congrArg I ?_; omega)) rfl (fun _ => trivial)
  · refine aw_reg [(1, .dec false)] [0, 4] [] [I n, Bv false] [] [¬ (n < 0)] (by kernel_rfl) hB ⟨h1, trivial⟩ ?_
    refine ae_then ?_
    refine aw_false rfl ?_
    refine aw_skip ?_
    refine ae_then ?_
    refine aw_seq ?_
    refine aw_reg [] [2] [] [I n] [] [] (by kernel_rfl) hB trivial ?_
    refine ae_then ?_
    refine aw_ret ?_
    refine ae_ret hB (I n) (by kernel_rfl) (.inl (by refine congrArg I ?_; omega)) rfl (fun _ => trivial)


-- impl.gcd
theorem gcd_ok (a : Int) (b : Int) (h : ((a.natAbs : Int) ≤ 4000000000000000000) ∧ (b.natAbs : Int) ≤ 4000000000000000000) : Con Tryd.prog 45 [I a, I b] true (I (gcdI a b)) := by
  refine fn_ok (fn := Tryd.f45) (nt := 13) Tryd.func45 rfl rfl rfl rfl (by simp [taggedL, tagged]) fun B hB => ?_
  refine aw_seq ?_
  refine aw_reg [] [0, 1] [] [I a, I b] [] [] (by kernel_rfl) hB trivial ?_
  refine ae_then ?_
  refine aw_seq ?_
  refine aw_block ?_
  refine aw_loop (fun gn gσ => ∃ (a' : Int) (b' : Int), gn = b'.natAbs ∧ (gcdI a' b' = gcdI a b) ∧ (((a'.natAbs : Int) ≤ 4000000000000000000 ∧ (b'.natAbs : Int) ≤ 4000000000000000000)) ∧ gσ = mkS [(0, I a'), (1, I b')] []) (b.natAbs) ⟨a, b, rfl, (by rfl), (by omega), rfl⟩ (fun gn gσ hI => ?_)
  obtain ⟨a', b', rfl, hg1, hg2, rfl⟩ := hI
  refine aw_seq ?_
  refine aw_seq ?_
  by_cases h1 : b' = 0
  · rw [h1, gcdI_zero] at hg1
    refine aw_reg [(1, .dec false)] [0, 1, 6] [] [I a', I b', Bv false] [] [¬ (b' ≠ 0)] (by kernel_rfl) hB ⟨(fun hq => hq h1), trivial⟩ ?_
    refine ae_then ?_
    refine aw_false rfl ?_
    refine aw_exit ?_
    refine ae_exit_then ?_
    refine ae_exit_then ?_
    refine ae_exit_same ?_
    refine ae_then ?_
    refine aw_seq ?_
    refine aw_reg [(1, .call [(true, I a')] true (I (a'.natAbs : Int)))] [4] [] [I (a'.natAbs : Int)] [] [Con Tryd.prog 56 [I a'] true (I (a'.natAbs : Int)) ∧ ((I a' : AV) = I a') ∧ True] (by kernel_rfl) hB ⟨⟨(abs_ok a' (by omega)), rfl, trivial⟩, trivial⟩ ?_
    refine ae_then ?_
    refine aw_ret ?_
    refine ae_ret hB (I (a'.natAbs : Int)) (by kernel_rfl) (.inl (by refine congrArg I ?_; omega)) rfl (fun _ => trivial)
  · have htm := tmod_lt (a := a') (b := b') h1
    refine aw_reg [(1, .dec true)] [0, 1, 6] [] [I a', I b', Bv true] [] [b' ≠ 0] (by kernel_rfl) hB ⟨h1, trivial⟩ ?_
    refine ae_then ?_
    refine aw_true rfl ?_
    refine aw_skip ?_
    refine ae_then ?_
    refine aw_block ?_
    refine aw_reg [] [0, 1] [] [I b', I (Int.tmod a' b')] [] [(b' : Int) ≠ 0] (by kernel_rfl) hB ⟨(by omega), trivial⟩ ?_
    refine ae_block 1 ?_
    exact ae_again _ (by omega) ⟨b', (Int.tmod a' b'), rfl, (by rw [gcdI_step]; exact hg1), (by omega), rfl⟩


-- impl.ValidFraction
theorem ValidFraction_ok (f : Fraction) : Con Tryd.prog 20 [.agg [I f.Num, I f.Den]] true (Bv (okFr f)) := by
  refine fn_ok (fn := Tryd.f20) (nt := 19) Tryd.func20 rfl rfl rfl rfl (by simp [taggedL, tagged]) fun B hB => ?_
  refine aw_seq ?_
  refine aw_reg [(0, .new 1)] [1] [1] [.ref 1 0] [some (.box [I f.Num, I f.Den])] [] (by kernel_rfl) hB trivial ?_
  refine ae_then ?_
  refine aw_seq ?_
  rcases Bool.eq_false_or_eq_true (inB f.Num (-1000000000) 1000000000) with h1 | h1
  · have hinh1 := inB_iff.1 h1
    rcases Bool.eq_false_or_eq_true (inB f.Den 1 1000000000) with h2 | h2
    · have hinh2 := inB_iff.1 h2
      refine aw_reg [(2, .call [(true, I f.Num), (true, I (-1000000000)), (true, I 1000000000)] true (Bv true)), (6, .call [(true, I f.Den), (true, I 1), (true, I 1000000000)] true (Bv true)), (13, .call [(true, I f.Num), (true, I f.Den)] true (I (gcdI f.Num f.Den)))] [2] [] [Bv (decide ((gcdI f.Num f.Den) = 1))] [] [Con Tryd.prog 41 [I f.Num, I (-1000000000), I 1000000000] true (Bv true) ∧ ((I f.Num : AV) = I f.Num) ∧ ((I (-1000000000) : AV) = I (-1000000000)) ∧ ((I 1000000000 : AV) = I 1000000000) ∧ True, Con Tryd.prog 41 [I f.Den, I 1, I 1000000000] true (Bv true) ∧ ((I f.Den : AV) = I f.Den) ∧ ((I 1 : AV) = I 1) ∧ ((I 1000000000 : AV) = I 1000000000) ∧ True, Con Tryd.prog 45 [I f.Num, I f.Den] true (I (gcdI f.Num f.Den)) ∧ ((I f.Num : AV) = I f.Num) ∧ ((I f.Den : AV) = I f.Den) ∧ True] (by kernel_rfl) hB ⟨⟨(con_bool h1 (within_ok f.Num (-1000000000) 1000000000)), rfl, rfl, rfl, trivial⟩, ⟨(con_bool h2 (within_ok f.Den 1 1000000000)), rfl, rfl, rfl, trivial⟩, ⟨(gcd_ok f.Num f.Den (by omega)), rfl, rfl, trivial⟩, trivial⟩ ?_
      refine ae_then ?_
      refine aw_ret ?_
      refine ae_ret hB (Bv (decide ((gcdI f.Num f.Den) = 1))) (by kernel_rfl) (.inl (by first | rfl | (refine congrArg Bv ?_; simp [okFr, inB, gcdI_abs, *]; done) | (refine congrArg Bv ?_; simp_all [okFr, inB, gcdI_abs]; done) | (refine congrArg Bv ?_; simp_all [okFr, inB, gcdI_abs]; omega))) rfl (fun _ => trivial)
    · have hinh2 := (not_congr inB_iff).1 (Bool.eq_false_iff.1 h2)
      refine aw_reg [(2, .call [(true, I f.Num), (true, I (-1000000000)), (true, I 1000000000)] true (Bv true)), (6, .call [(true, I f.Den), (true, I 1), (true, I 1000000000)] true (Bv false))] [2] [] [Bv false] [] [Con Tryd.prog 41 [I f.Num, I (-1000000000), I 1000000000] true (Bv true) ∧ ((I f.Num : AV) = I f.Num) ∧ ((I (-1000000000) : AV) = I (-1000000000)) ∧ ((I 1000000000 : AV) = I 1000000000) ∧ True, Con Tryd.prog 41 [I f.Den, I 1, I 1000000000] true (Bv false) ∧ ((I f.Den : AV) = I f.Den) ∧ ((I 1 : AV) = I 1) ∧ ((I 1000000000 : AV) = I 1000000000) ∧ True] (by kernel_rfl) hB ⟨⟨(con_bool h1 (within_ok f.Num (-1000000000) 1000000000)), rfl, rfl, rfl, trivial⟩, ⟨(con_bool h2 (within_ok f.Den 1 1000000000)), rfl, rfl, rfl, trivial⟩, trivial⟩ ?_
      refine ae_then ?_
      refine aw_ret ?_
      refine ae_ret hB (Bv false) (by kernel_rfl) (.inl (by first | rfl | (refine congrArg Bv ?_; simp [okFr, inB, gcdI_abs, *]; done) | (refine congrArg Bv ?_; simp_all [okFr, inB, gcdI_abs]; done) | (refine congrArg Bv ?_; simp_all [okFr, inB, gcdI_abs]; omega))) rfl (fun _ => trivial)
  · have hinh1 := (not_congr inB_iff).1 (Bool.eq_false_iff.1 h1)
    refine aw_reg [(2, .call [(true, I f.Num), (true, I (-1000000000)), (true, I 1000000000)] true (Bv false))] [2] [] [Bv false] [] [Con Tryd.prog 41 [I f.Num, I (-1000000000), I 1000000000] true (Bv false) ∧ ((I f.Num : AV) = I f.Num) ∧ ((I (-1000000000) : AV) = I (-1000000000)) ∧ ((I 1000000000 : AV) = I 1000000000) ∧ True] (by kernel_rfl) hB ⟨⟨(con_bool h1 (within_ok f.Num (-1000000000) 1000000000)), rfl, rfl, rfl, trivial⟩, trivial⟩ ?_
    refine ae_then ?_
    refine aw_ret ?_
    refine ae_ret hB (Bv false) (by kernel_rfl) (.inl (by first | rfl | (refine congrArg Bv ?_; simp [okFr, inB, gcdI_abs, *]; done) | (refine congrArg Bv ?_; simp_all [okFr, inB, gcdI_abs]; done) | (refine congrArg Bv ?_; simp_all [okFr, inB, gcdI_abs]; omega))) rfl (fun _ => trivial)


-- impl.reduced
theorem reduced_ok (num : Int) (den : Int) (hd : ((num.natAbs : Int) ≤ 4000000000000000000) ∧ (den.natAbs : Int) ≤ 4000000000000000000) (h0 : den ≠ 0) : Con Tryd.prog 30 [I num, I den] true (.tup [.agg [I (((redR num den).1).Num), I (((redR num den).1).Den)], I ((redR num den).2)]) := by
  have hg := gcdI_pos (a := num) (b := den) (by omega)
  have hgl := gcdI_le (a := num) (b := den) (by omega)
  have q1 := tdiv_bd num (gcdI num den)
  have q2 := tdiv_bd den (gcdI num den)
  have q3 := tdiv_bd num (-(gcdI num den))
  have q4 := tdiv_bd den (-(gcdI num den))
  refine fn_ok (fn := Tryd.f30) (nt := 27) Tryd.func30 rfl rfl rfl rfl (by simp [taggedL, tagged]) fun B hB => ?_
  refine aw_seq ?_
  refine aw_reg [(0, .new 4)] [0, 1, 4] [4] [I num, I den, .ref 4 0] [some (.box [I 0, I 0])] [] (by kernel_rfl) hB trivial ?_
  refine ae_then ?_
  refine aw_seq ?_
  refine aw_reg [(2, .call [(true, I num), (true, I den)] true (I (gcdI num den)))] [0, 1, 4, 6] [4] [I num, I den, .ref 4 0, I (gcdI num den)] [some (.box [I 0, I 0])] [Con Tryd.prog 45 [I num, I den] true (I (gcdI num den)) ∧ ((I num : AV) = I num) ∧ ((I den : AV) = I den) ∧ True] (by kernel_rfl) hB ⟨⟨(gcd_ok num den (by omega)), rfl, rfl, trivial⟩, trivial⟩ ?_
  refine ae_then ?_
  refine aw_seq ?_
  refine aw_seq ?_
  by_cases h1 : den < 0
  · have hrf : redF num den = ⟨Int.tdiv num (-(gcdI num den)), Int.tdiv den (-(gcdI num den))⟩ := by unfold redF sgI; rw [if_pos h1]
    refine aw_reg [(1, .dec true)] [0, 1, 4, 6, 12] [4] [I num, I den, .ref 4 0, I (gcdI num den), Bv true] [some (.box [I 0, I 0])] [den < 0] (by kernel_rfl) hB ⟨h1, trivial⟩ ?_
    refine ae_then ?_
    refine aw_true rfl ?_
    refine aw_reg [] [0, 1, 4, 6] [4] [I num, I den, .ref 4 0, I (-(gcdI num den))] [some (.box [I 0, I 0])] [inR .i64 (-(gcdI num den))] (by kernel_rfl) hB ⟨(inR_i64 (by omega) (by omega)), trivial⟩ ?_
    refine ae_then ?_
    refine aw_seq ?_
    refine aw_reg [(7, .new 7)] [4, 7] [4, 7] [.ref 4 0, .ref 7 0] [some (.box [I 0, I 0]), some (.box [I (Int.tdiv num (-(gcdI num den))), I (Int.tdiv den (-(gcdI num den)))])] [((-(gcdI num den)) : Int) ≠ 0 ∧ inR .i64 (Int.tdiv num (-(gcdI num den))), ((-(gcdI num den)) : Int) ≠ 0 ∧ inR .i64 (Int.tdiv den (-(gcdI num den)))] (by kernel_rfl) hB ⟨⟨by omega, (inR_i64 (by omega) (by omega))⟩, ⟨by omega, (inR_i64 (by omega) (by omega))⟩, trivial⟩ ?_
    refine ae_then ?_
    refine aw_seq ?_
    refine aw_seq ?_
    rcases Bool.eq_false_or_eq_true (okFr (Fraction.mk (Int.tdiv num (-(gcdI num den))) (Int.tdiv den (-(gcdI num den))))) with h2 | h2
    · refine aw_reg [(1, .call [(true, .agg [I (Int.tdiv num (-(gcdI num den))), I (Int.tdiv den (-(gcdI num den)))])] true (Bv true))] [4, 7, 24] [4, 7] [.ref 4 0, .ref 7 0, Bv false] [some (.box [I 0, I 0]), some (.box [I (Int.tdiv num (-(gcdI num den))), I (Int.tdiv den (-(gcdI num den)))])] [Con Tryd.prog 20 [.agg [I (Int.tdiv num (-(gcdI num den))), I (Int.tdiv den (-(gcdI num den)))]] true (Bv true) ∧ ((.agg [I (Int.tdiv num (-(gcdI num den))), I (Int.tdiv den (-(gcdI num den)))] : AV) = .agg [I (Int.tdiv num (-(gcdI num den))), I (Int.tdiv den (-(gcdI num den)))]) ∧ True] (by kernel_rfl) hB ⟨⟨(con_bool h2 (ValidFraction_ok (Fraction.mk (Int.tdiv num (-(gcdI num den))) (Int.tdiv den (-(gcdI num den)))))), rfl, trivial⟩, trivial⟩ ?_
      refine ae_then ?_
      refine aw_false rfl ?_
      refine aw_skip ?_
      refine ae_then ?_
      refine aw_seq ?_
      refine aw_reg [] [4, 5] [4] [.ref 4 0, I 0] [some (.box [I (Int.tdiv num (-(gcdI num den))), I (Int.tdiv den (-(gcdI num den)))])] [] (by kernel_rfl) hB trivial ?_
      refine ae_then ?_
      refine aw_ret ?_
      refine ae_ret hB (.tup [.agg [I (Int.tdiv num (-(gcdI num den))), I (Int.tdiv den (-(gcdI num den)))], I 0]) (by kernel_rfl) (.inl (by first | (rw [show redR num den = (redF num den, 0) from if_pos (by rw [hrf]; assumption), hrf]; done) | (rw [show redR num den = (⟨0, 0⟩, 2) from if_neg (by rw [hrf]; exact Bool.eq_false_iff.1 (by assumption))]; done))) rfl (fun _ => (by simp [tagged, taggedL]))
    · refine aw_reg [(1, .call [(true, .agg [I (Int.tdiv num (-(gcdI num den))), I (Int.tdiv den (-(gcdI num den)))])] true (Bv false))] [4, 7, 24] [4, 7] [.ref 4 0, .ref 7 0, Bv true] [some (.box [I 0, I 0]), some (.box [I (Int.tdiv num (-(gcdI num den))), I (Int.tdiv den (-(gcdI num den)))])] [Con Tryd.prog 20 [.agg [I (Int.tdiv num (-(gcdI num den))), I (Int.tdiv den (-(gcdI num den)))]] true (Bv false) ∧ ((.agg [I (Int.tdiv num (-(gcdI num den))), I (Int.tdiv den (-(gcdI num den)))] : AV) = .agg [I (Int.tdiv num (-(gcdI num den))), I (Int.tdiv den (-(gcdI num den)))]) ∧ True] (by kernel_rfl) hB ⟨⟨(con_bool h2 (ValidFraction_ok (Fraction.mk (Int.tdiv num (-(gcdI num den))) (Int.tdiv den (-(gcdI num den)))))), rfl, trivial⟩, trivial⟩ ?_
      refine ae_then ?_
      refine aw_true rfl ?_
      refine aw_seq ?_
      refine aw_reg [] [4, 5] [4] [.ref 4 0, I 2] [some (.box [I 0, I 0])] [] (by kernel_rfl) hB trivial ?_
      refine ae_then ?_
      refine aw_ret ?_
      refine ae_ret_then ?_
      refine ae_ret hB (.tup [.agg [I 0, I 0], I 2]) (by kernel_rfl) (.inl (by first | (rw [show redR num den = (redF num den, 0) from if_pos (by rw [hrf]; assumption), hrf]; done) | (rw [show redR num den = (⟨0, 0⟩, 2) from if_neg (by rw [hrf]; exact Bool.eq_false_iff.1 (by assumption))]; done))) rfl (fun _ => (by simp [tagged, taggedL]))
  · have hrf : redF num den = ⟨Int.tdiv num (gcdI num den), Int.tdiv den (gcdI num den)⟩ := by unfold redF sgI; rw [if_neg h1]
    refine aw_reg [(1, .dec false)] [0, 1, 4, 6, 12] [4] [I num, I den, .ref 4 0, I (gcdI num den), Bv false] [some (.box [I 0, I 0])] [¬ (den < 0)] (by kernel_rfl) hB ⟨h1, trivial⟩ ?_
    refine ae_then ?_
    refine aw_false rfl ?_
    refine aw_skip ?_
    refine ae_then ?_
    refine aw_seq ?_
    refine aw_reg [(7, .new 7)] [4, 7] [4, 7] [.ref 4 0, .ref 7 0] [some (.box [I 0, I 0]), some (.box [I (Int.tdiv num (gcdI num den)), I (Int.tdiv den (gcdI num den))])] [((gcdI num den) : Int) ≠ 0 ∧ inR .i64 (Int.tdiv num (gcdI num den)), ((gcdI num den) : Int) ≠ 0 ∧ inR .i64 (Int.tdiv den (gcdI num den))] (by kernel_rfl) hB ⟨⟨by omega, (inR_i64 (by omega) (by omega))⟩, ⟨by omega, (inR_i64 (by omega) (by omega))⟩, trivial⟩ ?_
    refine ae_then ?_
    refine aw_seq ?_
    refine aw_seq ?_
    rcases Bool.eq_false_or_eq_true (okFr (Fraction.mk (Int.tdiv num (gcdI num den)) (Int.tdiv den (gcdI num den)))) with h3 | h3
    · refine aw_reg [(1, .call [(true, .agg [I (Int.tdiv num (gcdI num den)), I (Int.tdiv den (gcdI num den))])] true (Bv true))] [4, 7, 24] [4, 7] [.ref 4 0, .ref 7 0, Bv false] [some (.box [I 0, I 0]), some (.box [I (Int.tdiv num (gcdI num den)), I (Int.tdiv den (gcdI num den))])] [Con Tryd.prog 20 [.agg [I (Int.tdiv num (gcdI num den)), I (Int.tdiv den (gcdI num den))]] true (Bv true) ∧ ((.agg [I (Int.tdiv num (gcdI num den)), I (Int.tdiv den (gcdI num den))] : AV) = .agg [I (Int.tdiv num (gcdI num den)), I (Int.tdiv den (gcdI num den))]) ∧ True] (by kernel_rfl) hB ⟨⟨(con_bool h3 (ValidFraction_ok (Fraction.mk (Int.tdiv num (gcdI num den)) (Int.tdiv den (gcdI num den))))), rfl, trivial⟩, trivial⟩ ?_
      refine ae_then ?_
      refine aw_false rfl ?_
      refine aw_skip ?_
      refine ae_then ?_
      refine aw_seq ?_
      refine aw_reg [] [4, 5] [4] [.ref 4 0, I 0] [some (.box [I (Int.tdiv num (gcdI num den)), I (Int.tdiv den (gcdI num den))])] [] (by kernel_rfl) hB trivial ?_
      refine ae_then ?_
      refine aw_ret ?_
      refine ae_ret hB (.tup [.agg [I (Int.tdiv num (gcdI num den)), I (Int.tdiv den (gcdI num den))], I 0]) (by kernel_rfl) (.inl (by first | (rw [show redR num den = (redF num den, 0) from if_pos (by rw [hrf]; assumption), hrf]; done) | (rw [show redR num den = (⟨0, 0⟩, 2) from if_neg (by rw [hrf]; exact Bool.eq_false_iff.1 (by assumption))]; done))) rfl (fun _ => (by simp [tagged, taggedL]))
    · refine aw_reg [(1, .call [(true, .agg [I (Int.tdiv num (gcdI num den)), I (Int.tdiv den (gcdI num den))])] true (Bv false))] [4, 7, 24] [4, 7] [.ref 4 0, .ref 7 0, Bv true] [some (.box [I 0, I 0]), some (.box [I (Int.tdiv num (gcdI num den)), I (Int.tdiv den (gcdI num den))])] [Con Tryd.prog 20 [.agg [I (Int.tdiv num (gcdI num den)), I (Int.tdiv den (gcdI num den))]] true (Bv false) ∧ ((.agg [I (Int.tdiv num (gcdI num den)), I (Int.tdiv den (gcdI num den))] : AV) = .agg [I (Int.tdiv num (gcdI num den)), I (Int.tdiv den (gcdI num den))]) ∧ True] (by kernel_rfl) hB ⟨⟨(con_bool h3 (ValidFraction_ok (Fraction.mk (Int.tdiv num (gcdI num den)) (Int.tdiv den (gcdI num den))))), rfl, trivial⟩, trivial⟩ ?_
      refine ae_then ?_
      refine aw_true rfl ?_
      refine aw_seq ?_
      refine aw_reg [] [4, 5] [4] [.ref 4 0, I 2] [some (.box [I 0, I 0])] [] (by kernel_rfl) hB trivial ?_
      refine ae_then ?_
      refine aw_ret ?_
      refine ae_ret_then ?_
      refine ae_ret hB (.tup [.agg [I 0, I 0], I 2]) (by kernel_rfl) (.inl (by first | (rw [show redR num den = (redF num den, 0) from if_pos (by rw [hrf]; assumption), hrf]; done) | (rw [show redR num den = (⟨0, 0⟩, 2) from if_neg (by rw [hrf]; exact Bool.eq_false_iff.1 (by assumption))]; done))) rfl (fun _ => (by simp [tagged, taggedL]))


-- impl.AddFractions
theorem implAddFractions_ok (a : Fraction) (b : Fraction) : Con Tryd.prog 7 [.agg [I a.Num, I a.Den], .agg [I b.Num, I b.Den]] true (.tup [.agg [I (((addR a b).1).Num), I (((addR a b).1).Den)], I ((addR a b).2)]) := by
  refine fn_ok (fn := Tryd.f7) (nt := 34) Tryd.func7 rfl rfl rfl rfl (by simp [taggedL, tagged]) fun B hB => ?_
  refine aw_seq ?_
  refine aw_reg [(0, .new 2), (1, .new 3), (2, .new 4)] [2, 3, 4] [2, 3, 4] [.ref 2 0, .ref 3 0, .ref 4 0] [some (.box [I a.Num, I a.Den]), some (.box [I b.Num, I b.Den]), some (.box [I 0, I 0])] [] (by kernel_rfl) hB trivial ?_
  refine ae_then ?_
  refine aw_seq ?_
  refine aw_seq ?_
  rcases Bool.eq_false_or_eq_true (okFr a) with h1 | h1
  · rcases Bool.eq_false_or_eq_true (okFr b) with h2 | h2
    · have fA_ := okFr_iff.1 (by assumption : okFr a = true)
      have fB_ := okFr_iff.1 (by assumption : okFr b = true)
      have p1 := prod_bd (x := a.Num) (y := b.Den) (by omega) (by omega)
      have p2 := prod_bd (x := b.Num) (y := a.Den) (by omega) (by omega)
      have p3 := prod_bd (x := a.Den) (y := b.Den) (by omega) (by omega)
      have p4 := prod_bd (x := a.Num) (y := b.Num) (by omega) (by omega)
      have p5 : 0 < a.Den * b.Den := Int.mul_pos (by omega) (by omega)
      refine aw_reg [(1, .call [(true, .agg [I a.Num, I a.Den])] true (Bv true)), (5, .call [(true, .agg [I b.Num, I b.Den])] true (Bv true))] [2, 3, 4, 13] [2, 3, 4] [.ref 2 0, .ref 3 0, .ref 4 0, Bv false] [some (.box [I a.Num, I a.Den]), some (.box [I b.Num, I b.Den]), some (.box [I 0, I 0])] [Con Tryd.prog 20 [.agg [I a.Num, I a.Den]] true (Bv true) ∧ ((.agg [I a.Num, I a.Den] : AV) = .agg [I a.Num, I a.Den]) ∧ True, Con Tryd.prog 20 [.agg [I b.Num, I b.Den]] true (Bv true) ∧ ((.agg [I b.Num, I b.Den] : AV) = .agg [I b.Num, I b.Den]) ∧ True] (by kernel_rfl) hB ⟨⟨(con_bool h1 (ValidFraction_ok a)), rfl, trivial⟩, ⟨(con_bool h2 (ValidFraction_ok b)), rfl, trivial⟩, trivial⟩ ?_
      refine ae_then ?_
      refine aw_false rfl ?_
      refine aw_skip ?_
      refine ae_then ?_
      refine aw_seq ?_
      refine aw_reg [(16, .call [(true, I ((a.Num * b.Den) + (b.Num * a.Den))), (true, I (a.Den * b.Den))] true (.tup [.agg [I (((redR ((a.Num * b.Den) + (b.Num * a.Den)) (a.Den * b.Den)).1).Num), I (((redR ((a.Num * b.Den) + (b.Num * a.Den)) (a.Den * b.Den)).1).Den)], I ((redR ((a.Num * b.Den) + (b.Num * a.Den)) (a.Den * b.Den)).2)]))] [4, 5] [4] [.ref 4 0, I ((redR ((a.Num * b.Den) + (b.Num * a.Den)) (a.Den * b.Den)).2)] [some (.box [I (((redR ((a.Num * b.Den) + (b.Num * a.Den)) (a.Den * b.Den)).1).Num), I (((redR ((a.Num * b.Den) + (b.Num * a.Den)) (a.Den * b.Den)).1).Den)])] [inR .i64 (a.Num * b.Den), inR .i64 (b.Num * a.Den), inR .i64 ((a.Num * b.Den) + (b.Num * a.Den)), inR .i64 (a.Den * b.Den), Con Tryd.prog 30 [I ((a.Num * b.Den) + (b.Num * a.Den)), I (a.Den * b.Den)] true (.tup [.agg [I (((redR ((a.Num * b.Den) + (b.Num * a.Den)) (a.Den * b.Den)).1).Num), I (((redR ((a.Num * b.Den) + (b.Num * a.Den)) (a.Den * b.Den)).1).Den)], I ((redR ((a.Num * b.Den) + (b.Num * a.Den)) (a.Den * b.Den)).2)]) ∧ ((I ((a.Num * b.Den) + (b.Num * a.Den)) : AV) = I ((a.Num * b.Den) + (b.Num * a.Den))) ∧ ((I (a.Den * b.Den) : AV) = I (a.Den * b.Den)) ∧ True] (by kernel_rfl) hB ⟨(inR_i64 (by omega) (by omega)), (inR_i64 (by omega) (by omega)), (inR_i64 (by omega) (by omega)), (inR_i64 (by omega) (by omega)), ⟨(reduced_ok ((a.Num * b.Den) + (b.Num * a.Den)) (a.Den * b.Den) (by omega) (by omega)), rfl, rfl, trivial⟩, trivial⟩ ?_
      refine ae_then ?_
      refine aw_ret ?_
      refine ae_ret hB (.tup [.agg [I (((redR ((a.Num * b.Den) + (b.Num * a.Den)) (a.Den * b.Den)).1).Num), I (((redR ((a.Num * b.Den) + (b.Num * a.Den)) (a.Den * b.Den)).1).Den)], I ((redR ((a.Num * b.Den) + (b.Num * a.Den)) (a.Den * b.Den)).2)]) (by kernel_rfl) (.inl (by simp [addR, codeR_red, *])) rfl (fun _ => (by simp [tagged, taggedL]))
    · refine aw_reg [(1, .call [(true, .agg [I a.Num, I a.Den])] true (Bv true)), (5, .call [(true, .agg [I b.Num, I b.Den])] true (Bv false))] [2, 3, 4, 13] [2, 3, 4] [.ref 2 0, .ref 3 0, .ref 4 0, Bv true] [some (.box [I a.Num, I a.Den]), some (.box [I b.Num, I b.Den]), some (.box [I 0, I 0])] [Con Tryd.prog 20 [.agg [I a.Num, I a.Den]] true (Bv true) ∧ ((.agg [I a.Num, I a.Den] : AV) = .agg [I a.Num, I a.Den]) ∧ True, Con Tryd.prog 20 [.agg [I b.Num, I b.Den]] true (Bv false) ∧ ((.agg [I b.Num, I b.Den] : AV) = .agg [I b.Num, I b.Den]) ∧ True] (by kernel_rfl) hB ⟨⟨(con_bool h1 (ValidFraction_ok a)), rfl, trivial⟩, ⟨(con_bool h2 (ValidFraction_ok b)), rfl, trivial⟩, trivial⟩ ?_
      refine ae_then ?_
      refine aw_true rfl ?_
      refine aw_seq ?_
      refine aw_reg [] [4, 5] [4] [.ref 4 0, I 1] [some (.box [I 0, I 0])] [] (by kernel_rfl) hB trivial ?_
      refine ae_then ?_
      refine aw_ret ?_
      refine ae_ret_then ?_
      refine ae_ret hB (.tup [.agg [I 0, I 0], I 1]) (by kernel_rfl) (.inl (by simp [addR, codeR_red, *])) rfl (fun _ => (by simp [tagged, taggedL]))
  · refine aw_reg [(1, .call [(true, .agg [I a.Num, I a.Den])] true (Bv false))] [2, 3, 4, 13] [2, 3, 4] [.ref 2 0, .ref 3 0, .ref 4 0, Bv true] [some (.box [I a.Num, I a.Den]), some (.box [I b.Num, I b.Den]), some (.box [I 0, I 0])] [Con Tryd.prog 20 [.agg [I a.Num, I a.Den]] true (Bv false) ∧ ((.agg [I a.Num, I a.Den] : AV) = .agg [I a.Num, I a.Den]) ∧ True] (by kernel_rfl) hB ⟨⟨(con_bool h1 (ValidFraction_ok a)), rfl, trivial⟩, trivial⟩ ?_
    refine ae_then ?_
    refine aw_true rfl ?_
    refine aw_seq ?_
    refine aw_reg [] [4, 5] [4] [.ref 4 0, I 1] [some (.box [I 0, I 0])] [] (by kernel_rfl) hB trivial ?_
    refine ae_then ?_
    refine aw_ret ?_
    refine ae_ret_then ?_
    refine ae_ret hB (.tup [.agg [I 0, I 0], I 1]) (by kernel_rfl) (.inl (by simp [addR, codeR_red, *])) rfl (fun _ => (by simp [tagged, taggedL]))


-- spec.l22Code
theorem l22Code_ok (f : Fraction) (ok : Bool) : Con Tryd.prog 32 [.agg [I f.Num, I f.Den], Bv ok] true (.tup [.agg [I (((codeR f ok).1).Num), I (((codeR f ok).1).Den)], I ((codeR f ok).2)]) := by
  refine fn_ok (fn := Tryd.f32) (nt := 10) Tryd.func32 rfl rfl rfl rfl (by simp [taggedL, tagged]) fun B hB => ?_
  refine aw_seq ?_
  refine aw_reg [(0, .new 2), (1, .new 4)] [1, 2, 4] [2, 4] [Bv ok, .ref 2 0, .ref 4 0] [some (.box [I f.Num, I f.Den]), some (.box [I 0, I 0])] [] (by kernel_rfl) hB trivial ?_
  refine ae_then ?_
  refine aw_seq ?_
  refine aw_seq ?_
  rcases Bool.eq_false_or_eq_true ok with h1 | h1
  · subst h1
    refine aw_reg [] [2, 4, 7] [2, 4] [.ref 2 0, .ref 4 0, Bv false] [some (.box [I f.Num, I f.Den]), some (.box [I 0, I 0])] [] (by kernel_rfl) hB trivial ?_
    refine ae_then ?_
    refine aw_false rfl ?_
    refine aw_skip ?_
    refine ae_then ?_
    refine aw_seq ?_
    refine aw_reg [] [4, 5] [4] [.ref 4 0, I 0] [some (.box [I f.Num, I f.Den])] [] (by kernel_rfl) hB trivial ?_
    refine ae_then ?_
    refine aw_ret ?_
    refine ae_ret hB (.tup [.agg [I f.Num, I f.Den], I 0]) (by kernel_rfl) (.inl (by simp [codeR, *])) rfl (fun _ => (by simp [tagged, taggedL]))
  · subst h1
    refine aw_reg [] [2, 4, 7] [2, 4] [.ref 2 0, .ref 4 0, Bv true] [some (.box [I f.Num, I f.Den]), some (.box [I 0, I 0])] [] (by kernel_rfl) hB trivial ?_
    refine ae_then ?_
    refine aw_true rfl ?_
    refine aw_seq ?_
    refine aw_reg [] [4, 5] [4] [.ref 4 0, I 2] [some (.box [I 0, I 0])] [] (by kernel_rfl) hB trivial ?_
    refine ae_then ?_
    refine aw_ret ?_
    refine ae_ret_then ?_
    refine ae_ret hB (.tup [.agg [I 0, I 0], I 2]) (by kernel_rfl) (.inl (by simp [codeR, *])) rfl (fun _ => (by simp [tagged, taggedL]))


-- spec.AddFractions
theorem specAddFractions_ok (a : Fraction) (b : Fraction) : Con Tryd.prog 8 [.agg [I a.Num, I a.Den], .agg [I b.Num, I b.Den]] true (.tup [.agg [I (((addR a b).1).Num), I (((addR a b).1).Den)], I ((addR a b).2)]) := by
  refine fn_ok (fn := Tryd.f8) (nt := 37) Tryd.func8 rfl rfl rfl rfl (by simp [taggedL, tagged]) fun B hB => ?_
  refine aw_seq ?_
  refine aw_reg [(0, .new 2), (1, .new 3), (2, .new 4)] [2, 3, 4] [2, 3, 4] [.ref 2 0, .ref 3 0, .ref 4 0] [some (.box [I a.Num, I a.Den]), some (.box [I b.Num, I b.Den]), some (.box [I 0, I 0])] [] (by kernel_rfl) hB trivial ?_
  refine ae_then ?_
  refine aw_seq ?_
  refine aw_seq ?_
  rcases Bool.eq_false_or_eq_true (okFr a) with h1 | h1
  · rcases Bool.eq_false_or_eq_true (okFr b) with h2 | h2
    · have fA_ := okFr_iff.1 (by assumption : okFr a = true)
      have fB_ := okFr_iff.1 (by assumption : okFr b = true)
      have p1 := prod_bd (x := a.Num) (y := b.Den) (by omega) (by omega)
      have p2 := prod_bd (x := b.Num) (y := a.Den) (by omega) (by omega)
      have p3 := prod_bd (x := a.Den) (y := b.Den) (by omega) (by omega)
      have p4 := prod_bd (x := a.Num) (y := b.Num) (by omega) (by omega)
      have p5 : 0 < a.Den * b.Den := Int.mul_pos (by omega) (by omega)
      refine aw_reg [(1, .call [(true, .agg [I a.Num, I a.Den])] true (Bv true)), (5, .call [(true, .agg [I b.Num, I b.Den])] true (Bv true))] [2, 3, 4, 13] [2, 3, 4] [.ref 2 0, .ref 3 0, .ref 4 0, Bv false] [some (.box [I a.Num, I a.Den]), some (.box [I b.Num, I b.Den]), some (.box [I 0, I 0])] [Con Tryd.prog 31 [.agg [I a.Num, I a.Den]] true (Bv true) ∧ ((.agg [I a.Num, I a.Den] : AV) = .agg [I a.Num, I a.Den]) ∧ True, Con Tryd.prog 31 [.agg [I b.Num, I b.Den]] true (Bv true) ∧ ((.agg [I b.Num, I b.Den] : AV) = .agg [I b.Num, I b.Den]) ∧ True] (by kernel_rfl) hB ⟨⟨(con_bool h1 (l22Ok_ok a)), rfl, trivial⟩, ⟨(con_bool h2 (l22Ok_ok b)), rfl, trivial⟩, trivial⟩ ?_
      refine ae_then ?_
      refine aw_false rfl ?_
      refine aw_skip ?_
      refine ae_then ?_
      refine aw_seq ?_
      refine aw_reg [(16, .call [(true, I ((a.Num * b.Den) + (b.Num * a.Den))), (true, I (a.Den * b.Den))] true (.tup [.agg [I ((redF ((a.Num * b.Den) + (b.Num * a.Den)) (a.Den * b.Den)).Num), I ((redF ((a.Num * b.Den) + (b.Num * a.Den)) (a.Den * b.Den)).Den)], Bv (okFr (redF ((a.Num * b.Den) + (b.Num * a.Den)) (a.Den * b.Den)))])), (19, .call [(true, .agg [I ((redF ((a.Num * b.Den) + (b.Num * a.Den)) (a.Den * b.Den)).Num), I ((redF ((a.Num * b.Den) + (b.Num * a.Den)) (a.Den * b.Den)).Den)]), (true, Bv (okFr (redF ((a.Num * b.Den) + (b.Num * a.Den)) (a.Den * b.Den))))] true (.tup [.agg [I (((codeR (redF ((a.Num * b.Den) + (b.Num * a.Den)) (a.Den * b.Den)) (okFr (redF ((a.Num * b.Den) + (b.Num * a.Den)) (a.Den * b.Den)))).1).Num), I (((codeR (redF ((a.Num * b.Den) + (b.Num * a.Den)) (a.Den * b.Den)) (okFr (redF ((a.Num * b.Den) + (b.Num * a.Den)) (a.Den * b.Den)))).1).Den)], I ((codeR (redF ((a.Num * b.Den) + (b.Num * a.Den)) (a.Den * b.Den)) (okFr (redF ((a.Num * b.Den) + (b.Num * a.Den)) (a.Den * b.Den)))).2)]))] [4, 5] [4] [.ref 4 0, I ((codeR (redF ((a.Num * b.Den) + (b.Num * a.Den)) (a.Den * b.Den)) (okFr (redF ((a.Num * b.Den) + (b.Num * a.Den)) (a.Den * b.Den)))).2)] [some (.box [I (((codeR (redF ((a.Num * b.Den) + (b.Num * a.Den)) (a.Den * b.Den)) (okFr (redF ((a.Num * b.Den) + (b.Num * a.Den)) (a.Den * b.Den)))).1).Num), I (((codeR (redF ((a.Num * b.Den) + (b.Num * a.Den)) (a.Den * b.Den)) (okFr (redF ((a.Num * b.Den) + (b.Num * a.Den)) (a.Den * b.Den)))).1).Den)])] [inR .i64 (a.Num * b.Den), inR .i64 (b.Num * a.Den), inR .i64 ((a.Num * b.Den) + (b.Num * a.Den)), inR .i64 (a.Den * b.Den), Con Tryd.prog 33 [I ((a.Num * b.Den) + (b.Num * a.Den)), I (a.Den * b.Den)] true (.tup [.agg [I ((redF ((a.Num * b.Den) + (b.Num * a.Den)) (a.Den * b.Den)).Num), I ((redF ((a.Num * b.Den) + (b.Num * a.Den)) (a.Den * b.Den)).Den)], Bv (okFr (redF ((a.Num * b.Den) + (b.Num * a.Den)) (a.Den * b.Den)))]) ∧ ((I ((a.Num * b.Den) + (b.Num * a.Den)) : AV) = I ((a.Num * b.Den) + (b.Num * a.Den))) ∧ ((I (a.Den * b.Den) : AV) = I (a.Den * b.Den)) ∧ True, Con Tryd.prog 32 [.agg [I ((redF ((a.Num * b.Den) + (b.Num * a.Den)) (a.Den * b.Den)).Num), I ((redF ((a.Num * b.Den) + (b.Num * a.Den)) (a.Den * b.Den)).Den)], Bv (okFr (redF ((a.Num * b.Den) + (b.Num * a.Den)) (a.Den * b.Den)))] true (.tup [.agg [I (((codeR (redF ((a.Num * b.Den) + (b.Num * a.Den)) (a.Den * b.Den)) (okFr (redF ((a.Num * b.Den) + (b.Num * a.Den)) (a.Den * b.Den)))).1).Num), I (((codeR (redF ((a.Num * b.Den) + (b.Num * a.Den)) (a.Den * b.Den)) (okFr (redF ((a.Num * b.Den) + (b.Num * a.Den)) (a.Den * b.Den)))).1).Den)], I ((codeR (redF ((a.Num * b.Den) + (b.Num * a.Den)) (a.Den * b.Den)) (okFr (redF ((a.Num * b.Den) + (b.Num * a.Den)) (a.Den * b.Den)))).2)]) ∧ ((.agg [I ((redF ((a.Num * b.Den) + (b.Num * a.Den)) (a.Den * b.Den)).Num), I ((redF ((a.Num * b.Den) + (b.Num * a.Den)) (a.Den * b.Den)).Den)] : AV) = .agg [I ((redF ((a.Num * b.Den) + (b.Num * a.Den)) (a.Den * b.Den)).Num), I ((redF ((a.Num * b.Den) + (b.Num * a.Den)) (a.Den * b.Den)).Den)]) ∧ ((Bv (okFr (redF ((a.Num * b.Den) + (b.Num * a.Den)) (a.Den * b.Den))) : AV) = Bv (okFr (redF ((a.Num * b.Den) + (b.Num * a.Den)) (a.Den * b.Den)))) ∧ True] (by kernel_rfl) hB ⟨(inR_i64 (by omega) (by omega)), (inR_i64 (by omega) (by omega)), (inR_i64 (by omega) (by omega)), (inR_i64 (by omega) (by omega)), ⟨(l22Make_ok ((a.Num * b.Den) + (b.Num * a.Den)) (a.Den * b.Den) (by omega) (by omega)), rfl, rfl, trivial⟩, ⟨(l22Code_ok (redF ((a.Num * b.Den) + (b.Num * a.Den)) (a.Den * b.Den)) (okFr (redF ((a.Num * b.Den) + (b.Num * a.Den)) (a.Den * b.Den)))), rfl, rfl, trivial⟩, trivial⟩ ?_
      refine ae_then ?_
      refine aw_ret ?_
      refine ae_ret hB (.tup [.agg [I (((codeR (redF ((a.Num * b.Den) + (b.Num * a.Den)) (a.Den * b.Den)) (okFr (redF ((a.Num * b.Den) + (b.Num * a.Den)) (a.Den * b.Den)))).1).Num), I (((codeR (redF ((a.Num * b.Den) + (b.Num * a.Den)) (a.Den * b.Den)) (okFr (redF ((a.Num * b.Den) + (b.Num * a.Den)) (a.Den * b.Den)))).1).Den)], I ((codeR (redF ((a.Num * b.Den) + (b.Num * a.Den)) (a.Den * b.Den)) (okFr (redF ((a.Num * b.Den) + (b.Num * a.Den)) (a.Den * b.Den)))).2)]) (by kernel_rfl) (.inl (by simp [addR, codeR_red, *])) rfl (fun _ => (by simp [tagged, taggedL]))
    · refine aw_reg [(1, .call [(true, .agg [I a.Num, I a.Den])] true (Bv true)), (5, .call [(true, .agg [I b.Num, I b.Den])] true (Bv false))] [2, 3, 4, 13] [2, 3, 4] [.ref 2 0, .ref 3 0, .ref 4 0, Bv true] [some (.box [I a.Num, I a.Den]), some (.box [I b.Num, I b.Den]), some (.box [I 0, I 0])] [Con Tryd.prog 31 [.agg [I a.Num, I a.Den]] true (Bv true) ∧ ((.agg [I a.Num, I a.Den] : AV) = .agg [I a.Num, I a.Den]) ∧ True, Con Tryd.prog 31 [.agg [I b.Num, I b.Den]] true (Bv false) ∧ ((.agg [I b.Num, I b.Den] : AV) = .agg [I b.Num, I b.Den]) ∧ True] (by kernel_rfl) hB ⟨⟨(con_bool h1 (l22Ok_ok a)), rfl, trivial⟩, ⟨(con_bool h2 (l22Ok_ok b)), rfl, trivial⟩, trivial⟩ ?_
      refine ae_then ?_
      refine aw_true rfl ?_
      refine aw_seq ?_
      refine aw_reg [] [4, 5] [4] [.ref 4 0, I 1] [some (.box [I 0, I 0])] [] (by kernel_rfl) hB trivial ?_
      refine ae_then ?_
      refine aw_ret ?_
      refine ae_ret_then ?_
      refine ae_ret hB (.tup [.agg [I 0, I 0], I 1]) (by kernel_rfl) (.inl (by simp [addR, codeR_red, *])) rfl (fun _ => (by simp [tagged, taggedL]))
  · refine aw_reg [(1, .call [(true, .agg [I a.Num, I a.Den])] true (Bv false))] [2, 3, 4, 13] [2, 3, 4] [.ref 2 0, .ref 3 0, .ref 4 0, Bv true] [some (.box [I a.Num, I a.Den]), some (.box [I b.Num, I b.Den]), some (.box [I 0, I 0])] [Con Tryd.prog 31 [.agg [I a.Num, I a.Den]] true (Bv false) ∧ ((.agg [I a.Num, I a.Den] : AV) = .agg [I a.Num, I a.Den]) ∧ True] (by kernel_rfl) hB ⟨⟨(con_bool h1 (l22Ok_ok a)), rfl, trivial⟩, trivial⟩ ?_
    refine ae_then ?_
    refine aw_true rfl ?_
    refine aw_seq ?_
    refine aw_reg [] [4, 5] [4] [.ref 4 0, I 1] [some (.box [I 0, I 0])] [] (by kernel_rfl) hB trivial ?_
    refine ae_then ?_
    refine aw_ret ?_
    refine ae_ret_then ?_
    refine ae_ret hB (.tup [.agg [I 0, I 0], I 1]) (by kernel_rfl) (.inl (by simp [addR, codeR_red, *])) rfl (fun _ => (by simp [tagged, taggedL]))


-- impl.TimesFractions
theorem implTimesFractions_ok (a : Fraction) (b : Fraction) : Con Tryd.prog 9 [.agg [I a.Num, I a.Den], .agg [I b.Num, I b.Den]] true (.tup [.agg [I (((timesR a b).1).Num), I (((timesR a b).1).Den)], I ((timesR a b).2)]) := by
  refine fn_ok (fn := Tryd.f9) (nt := 28) Tryd.func9 rfl rfl rfl rfl (by simp [taggedL, tagged]) fun B hB => ?_
  refine aw_seq ?_
  refine aw_reg [(0, .new 2), (1, .new 3), (2, .new 4)] [2, 3, 4] [2, 3, 4] [.ref 2 0, .ref 3 0, .ref 4 0] [some (.box [I a.Num, I a.Den]), some (.box [I b.Num, I b.Den]), some (.box [I 0, I 0])] [] (by kernel_rfl) hB trivial ?_
  refine ae_then ?_
  refine aw_seq ?_
  refine aw_seq ?_
  rcases Bool.eq_false_or_eq_true (okFr a) with h1 | h1
  · rcases Bool.eq_false_or_eq_true (okFr b) with h2 | h2
    · have fA_ := okFr_iff.1 (by assumption : okFr a = true)
      have fB_ := okFr_iff.1 (by assumption : okFr b = true)
      have p1 := prod_bd (x := a.Num) (y := b.Den) (by omega) (by omega)
      have p2 := prod_bd (x := b.Num) (y := a.Den) (by omega) (by omega)
      have p3 := prod_bd (x := a.Den) (y := b.Den) (by omega) (by omega)
      have p4 := prod_bd (x := a.Num) (y := b.Num) (by omega) (by omega)
      have p5 : 0 < a.Den * b.Den := Int.mul_pos (by omega) (by omega)
      refine aw_reg [(1, .call [(true, .agg [I a.Num, I a.Den])] true (Bv true)), (5, .call [(true, .agg [I b.Num, I b.Den])] true (Bv true))] [2, 3, 4, 13] [2, 3, 4] [.ref 2 0, .ref 3 0, .ref 4 0, Bv false] [some (.box [I a.Num, I a.Den]), some (.box [I b.Num, I b.Den]), some (.box [I 0, I 0])] [Con Tryd.prog 20 [.agg [I a.Num, I a.Den]] true (Bv true) ∧ ((.agg [I a.Num, I a.Den] : AV) = .agg [I a.Num, I a.Den]) ∧ True, Con Tryd.prog 20 [.agg [I b.Num, I b.Den]] true (Bv true) ∧ ((.agg [I b.Num, I b.Den] : AV) = .agg [I b.Num, I b.Den]) ∧ True] (by kernel_rfl) hB ⟨⟨(con_bool h1 (ValidFraction_ok a)), rfl, trivial⟩, ⟨(con_bool h2 (ValidFraction_ok b)), rfl, trivial⟩, trivial⟩ ?_
      refine ae_then ?_
      refine aw_false rfl ?_
      refine aw_skip ?_
      refine ae_then ?_
      refine aw_seq ?_
      refine aw_reg [(10, .call [(true, I (a.Num * b.Num)), (true, I (a.Den * b.Den))] true (.tup [.agg [I (((redR (a.Num * b.Num) (a.Den * b.Den)).1).Num), I (((redR (a.Num * b.Num) (a.Den * b.Den)).1).Den)], I ((redR (a.Num * b.Num) (a.Den * b.Den)).2)]))] [4, 5] [4] [.ref 4 0, I ((redR (a.Num * b.Num) (a.Den * b.Den)).2)] [some (.box [I (((redR (a.Num * b.Num) (a.Den * b.Den)).1).Num), I (((redR (a.Num * b.Num) (a.Den * b.Den)).1).Den)])] [inR .i64 (a.Num * b.Num), inR .i64 (a.Den * b.Den), Con Tryd.prog 30 [I (a.Num * b.Num), I (a.Den * b.Den)] true (.tup [.agg [I (((redR (a.Num * b.Num) (a.Den * b.Den)).1).Num), I (((redR (a.Num * b.Num) (a.Den * b.Den)).1).Den)], I ((redR (a.Num * b.Num) (a.Den * b.Den)).2)]) ∧ ((I (a.Num * b.Num) : AV) = I (a.Num * b.Num)) ∧ ((I (a.Den * b.Den) : AV) = I (a.Den * b.Den)) ∧ True] (by kernel_rfl) hB ⟨(inR_i64 (by omega) (by omega)), (inR_i64 (by omega) (by omega)), ⟨(reduced_ok (a.Num * b.Num) (a.Den * b.Den) (by omega) (by omega)), rfl, rfl, trivial⟩, trivial⟩ ?_
      refine ae_then ?_
      refine aw_ret ?_
      refine ae_ret hB (.tup [.agg [I (((redR (a.Num * b.Num) (a.Den * b.Den)).1).Num), I (((redR (a.Num * b.Num) (a.Den * b.Den)).1).Den)], I ((redR (a.Num * b.Num) (a.Den * b.Den)).2)]) (by kernel_rfl) (.inl (by simp [timesR, codeR_red, *])) rfl (fun _ => (by simp [tagged, taggedL]))
    · refine aw_reg [(1, .call [(true, .agg [I a.Num, I a.Den])] true (Bv true)), (5, .call [(true, .agg [I b.Num, I b.Den])] true (Bv false))] [2, 3, 4, 13] [2, 3, 4] [.ref 2 0, .ref 3 0, .ref 4 0, Bv true] [some (.box [I a.Num, I a.Den]), some (.box [I b.Num, I b.Den]), some (.box [I 0, I 0])] [Con Tryd.prog 20 [.agg [I a.Num, I a.Den]] true (Bv true) ∧ ((.agg [I a.Num, I a.Den] : AV) = .agg [I a.Num, I a.Den]) ∧ True, Con Tryd.prog 20 [.agg [I b.Num, I b.Den]] true (Bv false) ∧ ((.agg [I b.Num, I b.Den] : AV) = .agg [I b.Num, I b.Den]) ∧ True] (by kernel_rfl) hB ⟨⟨(con_bool h1 (ValidFraction_ok a)), rfl, trivial⟩, ⟨(con_bool h2 (ValidFraction_ok b)), rfl, trivial⟩, trivial⟩ ?_
      refine ae_then ?_
      refine aw_true rfl ?_
      refine aw_seq ?_
      refine aw_reg [] [4, 5] [4] [.ref 4 0, I 1] [some (.box [I 0, I 0])] [] (by kernel_rfl) hB trivial ?_
      refine ae_then ?_
      refine aw_ret ?_
      refine ae_ret_then ?_
      refine ae_ret hB (.tup [.agg [I 0, I 0], I 1]) (by kernel_rfl) (.inl (by simp [timesR, codeR_red, *])) rfl (fun _ => (by simp [tagged, taggedL]))
  · refine aw_reg [(1, .call [(true, .agg [I a.Num, I a.Den])] true (Bv false))] [2, 3, 4, 13] [2, 3, 4] [.ref 2 0, .ref 3 0, .ref 4 0, Bv true] [some (.box [I a.Num, I a.Den]), some (.box [I b.Num, I b.Den]), some (.box [I 0, I 0])] [Con Tryd.prog 20 [.agg [I a.Num, I a.Den]] true (Bv false) ∧ ((.agg [I a.Num, I a.Den] : AV) = .agg [I a.Num, I a.Den]) ∧ True] (by kernel_rfl) hB ⟨⟨(con_bool h1 (ValidFraction_ok a)), rfl, trivial⟩, trivial⟩ ?_
    refine ae_then ?_
    refine aw_true rfl ?_
    refine aw_seq ?_
    refine aw_reg [] [4, 5] [4] [.ref 4 0, I 1] [some (.box [I 0, I 0])] [] (by kernel_rfl) hB trivial ?_
    refine ae_then ?_
    refine aw_ret ?_
    refine ae_ret_then ?_
    refine ae_ret hB (.tup [.agg [I 0, I 0], I 1]) (by kernel_rfl) (.inl (by simp [timesR, codeR_red, *])) rfl (fun _ => (by simp [tagged, taggedL]))


-- spec.TimesFractions
theorem specTimesFractions_ok (a : Fraction) (b : Fraction) : Con Tryd.prog 10 [.agg [I a.Num, I a.Den], .agg [I b.Num, I b.Den]] true (.tup [.agg [I (((timesR a b).1).Num), I (((timesR a b).1).Den)], I ((timesR a b).2)]) := by
  refine fn_ok (fn := Tryd.f10) (nt := 31) Tryd.func10 rfl rfl rfl rfl (by simp [taggedL, tagged]) fun B hB => ?_
  refine aw_seq ?_
  refine aw_reg [(0, .new 2), (1, .new 3), (2, .new 4)] [2, 3, 4] [2, 3, 4] [.ref 2 0, .ref 3 0, .ref 4 0] [some (.box [I a.Num, I a.Den]), some (.box [I b.Num, I b.Den]), some (.box [I 0, I 0])] [] (by kernel_rfl) hB trivial ?_
  refine ae_then ?_
  refine aw_seq ?_
  refine aw_seq ?_
  rcases Bool.eq_false_or_eq_true (okFr a) with h1 | h1
  · rcases Bool.eq_false_or_eq_true (okFr b) with h2 | h2
    · have fA_ := okFr_iff.1 (by assumption : okFr a = true)
      have fB_ := okFr_iff.1 (by assumption : okFr b = true)
      have p1 := prod_bd (x := a.Num) (y := b.Den) (by omega) (by omega)
      have p2 := prod_bd (x := b.Num) (y := a.Den) (by omega) (by omega)
      have p3 := prod_bd (x := a.Den) (y := b.Den) (by omega) (by omega)
      have p4 := prod_bd (x := a.Num) (y := b.Num) (by omega) (by omega)
      have p5 : 0 < a.Den * b.Den := Int.mul_pos (by omega) (by omega)
      refine aw_reg [(1, .call [(true, .agg [I a.Num, I a.Den])] true (Bv true)), (5, .call [(true, .agg [I b.Num, I b.Den])] true (Bv true))] [2, 3, 4, 13] [2, 3, 4] [.ref 2 0, .ref 3 0, .ref 4 0, Bv false] [some (.box [I a.Num, I a.Den]), some (.box [I b.Num, I b.Den]), some (.box [I 0, I 0])] [Con Tryd.prog 31 [.agg [I a.Num, I a.Den]] true (Bv true) ∧ ((.agg [I a.Num, I a.Den] : AV) = .agg [I a.Num, I a.Den]) ∧ True, Con Tryd.prog 31 [.agg [I b.Num, I b.Den]] true (Bv true) ∧ ((.agg [I b.Num, I b.Den] : AV) = .agg [I b.Num, I b.Den]) ∧ True] (by kernel_rfl) hB ⟨⟨(con_bool h1 (l22Ok_ok a)), rfl, trivial⟩, ⟨(con_bool h2 (l22Ok_ok b)), rfl, trivial⟩, trivial⟩ ?_
      refine ae_then ?_
      refine aw_false rfl ?_
      refine aw_skip ?_
      refine ae_then ?_
      refine aw_seq ?_
      refine aw_reg [(10, .call [(true, I (a.Num * b.Num)), (true, I (a.Den * b.Den))] true (.tup [.agg [I ((redF (a.Num * b.Num) (a.Den * b.Den)).Num), I ((redF (a.Num * b.Num) (a.Den * b.Den)).Den)], Bv (okFr (redF (a.Num * b.Num) (a.Den * b.Den)))])), (13, .call [(true, .agg [I ((redF (a.Num * b.Num) (a.Den * b.Den)).Num), I ((redF (a.Num * b.Num) (a.Den * b.Den)).Den)]), (true, Bv (okFr (redF (a.Num * b.Num) (a.Den * b.Den))))] true (.tup [.agg [I (((codeR (redF (a.Num * b.Num) (a.Den * b.Den)) (okFr (redF (a.Num * b.Num) (a.Den * b.Den)))).1).Num), I (((codeR (redF (a.Num * b.Num) (a.Den * b.Den)) (okFr (redF (a.Num * b.Num) (a.Den * b.Den)))).1).Den)], I ((codeR (redF (a.Num * b.Num) (a.Den * b.Den)) (okFr (redF (a.Num * b.Num) (a.Den * b.Den)))).2)]))] [4, 5] [4] [.ref 4 0, I ((codeR (redF (a.Num * b.Num) (a.Den * b.Den)) (okFr (redF (a.Num * b.Num) (a.Den * b.Den)))).2)] [some (.box [I (((codeR (redF (a.Num * b.Num) (a.Den * b.Den)) (okFr (redF (a.Num * b.Num) (a.Den * b.Den)))).1).Num), I (((codeR (redF (a.Num * b.Num) (a.Den * b.Den)) (okFr (redF (a.Num * b.Num) (a.Den * b.Den)))).1).Den)])] [inR .i64 (a.Num * b.Num), inR .i64 (a.Den * b.Den), Con Tryd.prog 33 [I (a.Num * b.Num), I (a.Den * b.Den)] true (.tup [.agg [I ((redF (a.Num * b.Num) (a.Den * b.Den)).Num), I ((redF (a.Num * b.Num) (a.Den * b.Den)).Den)], Bv (okFr (redF (a.Num * b.Num) (a.Den * b.Den)))]) ∧ ((I (a.Num * b.Num) : AV) = I (a.Num * b.Num)) ∧ ((I (a.Den * b.Den) : AV) = I (a.Den * b.Den)) ∧ True, Con Tryd.prog 32 [.agg [I ((redF (a.Num * b.Num) (a.Den * b.Den)).Num), I ((redF (a.Num * b.Num) (a.Den * b.Den)).Den)], Bv (okFr (redF (a.Num * b.Num) (a.Den * b.Den)))] true (.tup [.agg [I (((codeR (redF (a.Num * b.Num) (a.Den * b.Den)) (okFr (redF (a.Num * b.Num) (a.Den * b.Den)))).1).Num), I (((codeR (redF (a.Num * b.Num) (a.Den * b.Den)) (okFr (redF (a.Num * b.Num) (a.Den * b.Den)))).1).Den)], I ((codeR (redF (a.Num * b.Num) (a.Den * b.Den)) (okFr (redF (a.Num * b.Num) (a.Den * b.Den)))).2)]) ∧ ((.agg [I ((redF (a.Num * b.Num) (a.Den * b.Den)).Num), I ((redF (a.Num * b.Num) (a.Den * b.Den)).Den)] : AV) = .agg [I ((redF (a.Num * b.Num) (a.Den * b.Den)).Num), I ((redF (a.Num * b.Num) (a.Den * b.Den)).Den)]) ∧ ((Bv (okFr (redF (a.Num * b.Num) (a.Den * b.Den))) : AV) = Bv (okFr (redF (a.Num * b.Num) (a.Den * b.Den)))) ∧ True] (by kernel_rfl) hB ⟨(inR_i64 (by omega) (by omega)), (inR_i64 (by omega) (by omega)), ⟨(l22Make_ok (a.Num * b.Num) (a.Den * b.Den) (by omega) (by omega)), rfl, rfl, trivial⟩, ⟨(l22Code_ok (redF (a.Num * b.Num) (a.Den * b.Den)) (okFr (redF (a.Num * b.Num) (a.Den * b.Den)))), rfl, rfl, trivial⟩, trivial⟩ ?_
      refine ae_then ?_
      refine aw_ret ?_
      refine ae_ret hB (.tup [.agg [I (((codeR (redF (a.Num * b.Num) (a.Den * b.Den)) (okFr (redF (a.Num * b.Num) (a.Den * b.Den)))).1).Num), I (((codeR (redF (a.Num * b.Num) (a.Den * b.Den)) (okFr (redF (a.Num * b.Num) (a.Den * b.Den)))).1).Den)], I ((codeR (redF (a.Num * b.Num) (a.Den * b.Den)) (okFr (redF (a.Num * b.Num) (a.Den * b.Den)))).2)]) (by kernel_rfl) (.inl (by simp [timesR, codeR_red, *])) rfl (fun _ => (by simp [tagged, taggedL]))
    · refine aw_reg [(1, .call [(true, .agg [I a.Num, I a.Den])] true (Bv true)), (5, .call [(true, .agg [I b.Num, I b.Den])] true (Bv false))] [2, 3, 4, 13] [2, 3, 4] [.ref 2 0, .ref 3 0, .ref 4 0, Bv true] [some (.box [I a.Num, I a.Den]), some (.box [I b.Num, I b.Den]), some (.box [I 0, I 0])] [Con Tryd.prog 31 [.agg [I a.Num, I a.Den]] true (Bv true) ∧ ((.agg [I a.Num, I a.Den] : AV) = .agg [I a.Num, I a.Den]) ∧ True, Con Tryd.prog 31 [.agg [I b.Num, I b.Den]] true (Bv false) ∧ ((.agg [I b.Num, I b.Den] : AV) = .agg [I b.Num, I b.Den]) ∧ True] (by kernel_rfl) hB ⟨⟨(con_bool h1 (l22Ok_ok a)), rfl, trivial⟩, ⟨(con_bool h2 (l22Ok_ok b)), rfl, trivial⟩, trivial⟩ ?_
      refine ae_then ?_
      refine aw_true rfl ?_
      refine aw_seq ?_
      refine aw_reg [] [4, 5] [4] [.ref 4 0, I 1] [some (.box [I 0, I 0])] [] (by kernel_rfl) hB trivial ?_
      refine ae_then ?_
      refine aw_ret ?_
      refine ae_ret_then ?_
      refine ae_ret hB (.tup [.agg [I 0, I 0], I 1]) (by kernel_rfl) (.inl (by simp [timesR, codeR_red, *])) rfl (fun _ => (by simp [tagged, taggedL]))
  · refine aw_reg [(1, .call [(true, .agg [I a.Num, I a.Den])] true (Bv false))] [2, 3, 4, 13] [2, 3, 4] [.ref 2 0, .ref 3 0, .ref 4 0, Bv true] [some (.box [I a.Num, I a.Den]), some (.box [I b.Num, I b.Den]), some (.box [I 0, I 0])] [Con Tryd.prog 31 [.agg [I a.Num, I a.Den]] true (Bv false) ∧ ((.agg [I a.Num, I a.Den] : AV) = .agg [I a.Num, I a.Den]) ∧ True] (by kernel_rfl) hB ⟨⟨(con_bool h1 (l22Ok_ok a)), rfl, trivial⟩, trivial⟩ ?_
    refine ae_then ?_
    refine aw_true rfl ?_
    refine aw_seq ?_
    refine aw_reg [] [4, 5] [4] [.ref 4 0, I 1] [some (.box [I 0, I 0])] [] (by kernel_rfl) hB trivial ?_
    refine ae_then ?_
    refine aw_ret ?_
    refine ae_ret_then ?_
    refine ae_ret hB (.tup [.agg [I 0, I 0], I 1]) (by kernel_rfl) (.inl (by simp [timesR, codeR_red, *])) rfl (fun _ => (by simp [tagged, taggedL]))


-- spec.DrawRootFraction
theorem DrawRootFraction_ok (code : List Int) (hc : (∀ j, j < code.length → 0 ≤ at_ code j ∧ at_ code j ≤ 255) ∧ code.length ≤ 4611686018427387904) : ∃ (v : Fraction), Con Tryd.prog 11 [slU8 false code] true (.agg [I v.Num, I v.Den]) := by
  have hh : ∃ r : Fraction, (True) ∧ CallOK Tryd.prog 11 [slU8 false code] (lookO []) true (.agg [I r.Num, I r.Den]) (lookO []) := by
    refine fn_okX (Φ := fun r : Fraction => True) [] (fun r => []) (fn := Tryd.f11) (nt := 6) Tryd.func11 rfl rfl (args := [slU8 false code]) rfl (allcons (.inl ⟨rfl, tagU8 false _⟩) allnil) (res := fun r => .agg [I r.Num, I r.Den]) ?_
    refine x_seq ?_
    refine x_reg [(0, .new 2)] [0, 2] [2] [slU8 false code, .ref 2 0] [some (.box [I 0, I 0])] [] (by kernel_rfl) trivial ?_
    refine xe_then ?_
    refine x_seq ?_
    obtain ⟨s'_1, hx1_0, hc1⟩ := l00From_ok code
    have hsrc : okSrc s'_1 := ⟨by rw [hx1_0.1]; exact hc.1, by rw [hx1_0.2]; decide, by rw [hx1_0.1]; exact hc.2⟩
    have hat0 := hx1_0.2
    obtain ⟨v_2, s'_2, hx2_0, hx2_1, hx2_2, hc2⟩ := l22Draw_ok s'_1 (by first | assumption | (simp only [okSrc] at *; simp_all; done)) (by omega)
    refine x_reg [(1, .lend [] [(7001, .box [slU8 false s'_1.code, I s'_1.atx, .val (.int .u64 s'_1.seed)])] [(true, slU8 false code)] false (.ref 7001 0)), (2, .lend [(7001, .box [slU8 false s'_1.code, I s'_1.atx, .val (.int .u64 s'_1.seed)], .box [slU8 false s'_2.code, I s'_2.atx, .val (.int .u64 s'_2.seed)])] [] [(true, .ref 7001 0)] true (.agg [I v_2.Num, I v_2.Den]))] [2] [2] [.ref 2 0] [some (.box [I v_2.Num, I v_2.Den])] [CallOK Tryd.prog 35 [slU8 false code] (lookO []) false (.ref 7001 0) (lookO [(7001, .box [slU8 false s'_1.code, I s'_1.atx, .val (.int .u64 s'_1.seed)])]) ∧ ((slU8 false code : AV) = slU8 false code) ∧ True, CallOK Tryd.prog 34 [.ref 7001 0] (lookO [(7001, .box [slU8 false s'_1.code, I s'_1.atx, .val (.int .u64 s'_1.seed)])]) true (.agg [I v_2.Num, I v_2.Den]) (lookO [(7001, .box [slU8 false s'_2.code, I s'_2.atx, .val (.int .u64 s'_2.seed)])]) ∧ ((.ref 7001 0 : AV) = .ref 7001 0) ∧ (((.box [slU8 false s'_1.code, I s'_1.atx, .val (.int .u64 s'_1.seed)] : Ob) = .box [slU8 false s'_1.code, I s'_1.atx, .val (.int .u64 s'_1.seed)] ∨ obLe noOb true (.box [slU8 false s'_1.code, I s'_1.atx, .val (.int .u64 s'_1.seed)]) (.box [slU8 false s'_1.code, I s'_1.atx, .val (.int .u64 s'_1.seed)])) ∧ taggedO false (.box [slU8 false s'_1.code, I s'_1.atx, .val (.int .u64 s'_1.seed)])) ∧ True] (by kernel_rfl) ⟨⟨hc1, rfl, trivial⟩, ⟨hc2, rfl, ⟨.inl rfl, (by simp [taggedO, taggedL, tagged, tagU8])⟩, trivial⟩, trivial⟩ ?_
    refine xe_then ?_
    refine x_ret ?_
    refine xe_end v_2 trivial (trivial) (.agg [I v_2.Num, I v_2.Den]) (by kernel_rfl) (.inl rfl) (fun _ => rfl) (fun _ => (by simp [tagged, taggedL]))
  obtain ⟨v, _, hc⟩ := hh
  exact ⟨v, hc⟩


-- bits.Len64
theorem len64_ok (x : Int) (h : 0 ≤ x ∧ x ≤ 18446744073709551615) : Con Tryd.prog 54 [.val (.int .u64 x)] true (I ((Lib.bitLen x.toNat : Nat) : Int)) := by
  refine con_of_calls (vals := [.int .u64 x]) fun w _ => ?_
  refine (Tryd.bits_Len64 x w h.1 h.2).mono ?_
  rintro e w' ⟨rfl, rfl⟩
  exact ⟨rfl, Below.refl _ _⟩


theorem bitLen_spec (x : Nat) (h : x < 2 ^ 64) : x < 2 ^ Lib.bitLen x ∧ ∀ k, x < 2 ^ k → Lib.bitLen x ≤ k := by
  induction x using Nat.strongRecOn with
  | _ x ih =>
    by_cases h0 : x = 0
    · subst h0
      have : Lib.bitLen 0 = 0 := by decide
      rw [this]
      exact ⟨by decide, fun k _ => Nat.zero_le _⟩
    · have e := Lib.bitLen_half x h0 h
      obtain ⟨h1, h2⟩ := ih (x / 2) (by omega) (by omega)
      rw [e]
      refine ⟨by rw [Nat.pow_add]; omega, fun k hk => ?_⟩
      cases k with
      | zero => simp at hk; omega
      | succ k =>
        have := h2 k (by rw [Nat.pow_succ] at hk; omega)
        omega
theorem sq_le {a b : Int} (h0 : 0 ≤ a) (h : a ≤ b) : a * a ≤ b * b := Int.mul_le_mul h h h0 (by omega)
theorem sq_lt {a b : Int} (h0 : 0 ≤ b) (h : a * a < b * b) : a < b := by
  by_cases h' : a < b
  · exact h'
  · have := sq_le h0 (Int.not_lt.1 h'); omega
def rootN : Nat → Nat
  | 0 => 0
  | n + 1 => if (rootN n + 1) * (rootN n + 1) ≤ n + 1 then rootN n + 1 else rootN n
theorem rootN_spec (n : Nat) : rootN n * rootN n ≤ n ∧ n < (rootN n + 1) * (rootN n + 1) := by
  induction n with
  | zero => simp [rootN]
  | succ n ih =>
    unfold rootN
    split
    · rename_i h
      refine ⟨h, ?_⟩
      have : (rootN n + 1 + 1) * (rootN n + 1 + 1) = (rootN n + 1) * (rootN n + 1) + 2 * (rootN n + 1) + 1 := by
        generalize rootN n + 1 = a
        rw [Nat.add_mul, Nat.mul_add]; omega
      omega
    · omega
/-- The greatest number whose square is at most n. -/
def rootI (n : Int) : Int := (rootN n.toNat : Int)
theorem rootI_spec {n : Int} (h : 0 ≤ n) : 0 ≤ rootI n ∧ rootI n * rootI n ≤ n ∧ n < (rootI n + 1) * (rootI n + 1) := by
  have := rootN_spec n.toNat
  unfold rootI
  refine ⟨by omega, ?_, ?_⟩
  · have h1 : ((rootN n.toNat * rootN n.toNat : Nat) : Int) ≤ (n.toNat : Int) := Int.ofNat_le.2 this.1
    rw [Int.natCast_mul] at h1; omega
  · have h1 : ((n.toNat : Nat) : Int) < (((rootN n.toNat + 1) * (rootN n.toNat + 1) : Nat) : Int) := Int.ofNat_lt.2 this.2
    rw [Int.natCast_mul] at h1
    have e : ((rootN n.toNat + 1 : Nat) : Int) = (rootN n.toNat : Int) + 1 := by omega
    rw [e] at h1; omega
theorem rootI_eq {n r : Int} (h0 : 0 ≤ r) (h1 : r * r ≤ n) (h2 : n < (r + 1) * (r + 1)) : rootI n = r := by
  have hn : 0 ≤ n := Int.le_trans (Int.mul_nonneg h0 h0) h1
  obtain ⟨a, b, c⟩ := rootI_spec hn
  have e1 : rootI n < r + 1 := sq_lt (by omega) (by omega)
  have e2 : r < rootI n + 1 := sq_lt (by omega) (by omega)
  omega
theorem rootI_bd {n B : Int} (h : 0 ≤ n) (hB : 0 ≤ B) (h2 : n < (B + 1) * (B + 1)) : 0 ≤ rootI n ∧ rootI n ≤ B := by
  obtain ⟨a, b, c⟩ := rootI_spec h
  have : rootI n < B + 1 := sq_lt (by omega) (by omega)
  omega
/-- A step of the way down. -/
theorem newton {n r : Int} (hr : 0 < r) : n < ((r + n / r) / 2 + 1) * ((r + n / r) / 2 + 1) := by
  obtain ⟨m, hm⟩ : ∃ m, m = n / r := ⟨_, rfl⟩
  have h1 : n < r * (m + 1) := by
    have := Int.lt_mul_ediv_self_add (x := n) hr
    rw [← hm] at this; rw [Int.mul_add]; omega
  rw [← hm]
  obtain ⟨q, hq⟩ : ∃ q, q = (r + m) / 2 := ⟨_, rfl⟩
  rw [← hq]
  have h2 : r + m + 1 ≤ 2 * (q + 1) := by omega
  by_cases h0 : n < 0
  · have : 0 ≤ (q + 1) * (q + 1) := by
      rcases Int.le_total 0 (q + 1) with h | h
      · exact Int.mul_nonneg h h
      · exact Int.mul_nonneg_of_nonpos_of_nonpos h h
    omega
  have h0 := Int.not_lt.1 h0
  have hm0 : 0 ≤ m := by rw [hm]; exact Int.ediv_nonneg h0 (by omega)
  have h3 := sq_le (show 0 ≤ r + m + 1 by omega) h2
  have h4 : (2 * (q + 1)) * (2 * (q + 1)) = 4 * ((q + 1) * (q + 1)) := by
    generalize q + 1 = a
    rw [show (2 * a) * (2 * a) = (2 * 2) * (a * a) by rw [Int.mul_assoc, Int.mul_left_comm a 2 a, ← Int.mul_assoc]]; omega
  have h5 : 4 * (r * (m + 1)) ≤ (r + m + 1) * (r + m + 1) := by
    have h6 : 0 ≤ (r - (m + 1)) * (r - (m + 1)) := by
      rcases Int.le_total 0 (r - (m + 1)) with h | h
      · exact Int.mul_nonneg h h
      · exact Int.mul_nonneg_of_nonpos_of_nonpos h h
    have e : r + m + 1 = r + (m + 1) := by omega
    rw [e]
    generalize m + 1 = k at h6 ⊢
    have e1 : (r - k) * (r - k) = r * r - 2 * (r * k) + k * k := by rw [Int.sub_mul, Int.mul_sub, Int.mul_sub, Int.mul_comm k r]; omega
    have e2 : (r + k) * (r + k) = r * r + 2 * (r * k) + k * k := by rw [Int.add_mul, Int.mul_add, Int.mul_add, Int.mul_comm k r]; omega
    omega
  omega
theorem newton_end {n r : Int} (hr : 0 < r) (h : ¬ (r + n / r) / 2 < r) : r * r ≤ n := by
  have h1 : r ≤ n / r := by omega
  have h2 := Int.mul_ediv_self_le (x := n) (k := r) (by omega)
  exact Int.le_trans (Int.mul_le_mul_of_nonneg_left h1 (by omega)) h2

theorem root0 {n : Int} (h0 : 0 ≤ n) (h1 : n ≤ 1000000000000000) : (Lib.bitLen n.toNat ≤ 50) ∧ (1 ≤ 1 * ((2 ^ ((((Lib.bitLen n.toNat : Nat) : Int) + 1) / 2).toNat : Nat) : Int) ∧ 1 * ((2 ^ ((((Lib.bitLen n.toNat : Nat) : Int) + 1) / 2).toNat : Nat) : Int) ≤ 33554432) ∧
    n < (1 * ((2 ^ ((((Lib.bitLen n.toNat : Nat) : Int) + 1) / 2).toNat : Nat) : Int) + 1) * (1 * ((2 ^ ((((Lib.bitLen n.toNat : Nat) : Int) + 1) / 2).toNat : Nat) : Int) + 1) := by
  obtain ⟨a, b⟩ := bitLen_spec n.toNat (by omega)
  have hL := b 50 (by omega)
  generalize Lib.bitLen n.toNat = L at *
  have e : (((L : Int) + 1) / 2).toNat = (L + 1) / 2 := by omega
  rw [e]
  have hk : (L + 1) / 2 ≤ 25 := by omega
  have h3 : 2 ^ ((L + 1) / 2) ≤ 2 ^ 25 := Nat.pow_le_pow_right (by decide) hk
  have h4 : 1 ≤ 2 ^ ((L + 1) / 2) := Nat.one_le_two_pow
  have h5 : 2 ^ L ≤ 2 ^ ((L + 1) / 2) * 2 ^ ((L + 1) / 2) := by rw [← Nat.pow_add]; exact Nat.pow_le_pow_right (by decide) (by omega)
  generalize 2 ^ ((L + 1) / 2) = R at *
  have h6 : n.toNat < R * R := Nat.lt_of_lt_of_le a h5
  have h7 : ((n.toNat : Nat) : Int) < ((R * R : Nat) : Int) := Int.ofNat_lt.2 h6
  rw [Int.natCast_mul] at h7
  refine ⟨hL, by omega, ?_⟩
  have e2 : (1 * (R : Int) + 1) * (1 * (R : Int) + 1) = (R : Int) * R + 2 * R + 1 := by rw [Int.one_mul, Int.add_mul, Int.mul_add]; omega
  omega
theorem div_bd {n r : Int} (h : 0 ≤ n) (hr : 0 < r) : 0 ≤ n / r ∧ n / r ≤ n := ⟨Int.ediv_nonneg h (by omega), Int.ediv_le_self _ h⟩
theorem newton_pos {n q : Int} (h : 0 < n) (hq : 0 ≤ q) (h2 : n < (q + 1) * (q + 1)) : 0 < q := by
  by_cases e : q = 0
  · subst e; omega
  · omega

-- impl.rootOf
theorem rootOf_ok (n : Int) (hn : 0 ≤ n ∧ n ≤ 1000000000000000) : Con Tryd.prog 36 [I n] true (I (rootI n)) := by
  refine fn_ok (fn := Tryd.f36) (nt := 30) Tryd.func36 rfl rfl rfl rfl (by simp [taggedL, tagged]) fun B hB => ?_
  refine aw_seq ?_
  refine aw_reg [] [0] [] [I n] [] [] (by kernel_rfl) hB trivial ?_
  refine ae_then ?_
  refine aw_seq ?_
  refine aw_seq ?_
  by_cases h1 : n = 0
  · refine aw_reg [(1, .dec true)] [0, 6] [] [I n, Bv true] [] [n = 0] (by kernel_rfl) hB ⟨h1, trivial⟩ ?_
    refine ae_then ?_
    refine aw_true rfl ?_
    refine aw_seq ?_
    refine aw_reg [] [2] [] [I 0] [] [] (by kernel_rfl) hB trivial ?_
    refine ae_then ?_
    refine aw_ret ?_
    refine ae_ret_then ?_
    refine ae_ret hB (I 0) (by kernel_rfl) (.inl (by first | (exact congrArg I (Eq.symm (rootI_eq (by omega) hfin hr1))) | (refine congrArg I ?_; rw [h1]; rfl))) rfl (fun _ => trivial)
  · obtain ⟨hb1, hb2, hb3⟩ := root0 hn.1 hn.2
    have hq0 := div_bd (r := (1 * ((2 ^ ((((Lib.bitLen n.toNat : Nat) : Int) + 1) / 2).toNat : Nat) : Int))) hn.1 (by omega)
    refine aw_reg [(1, .dec false)] [0, 6] [] [I n, Bv false] [] [¬ (n = 0)] (by kernel_rfl) hB ⟨h1, trivial⟩ ?_
    refine ae_then ?_
    refine aw_false rfl ?_
    refine aw_skip ?_
    refine ae_then ?_
    refine aw_seq ?_
    refine aw_reg [(2, .call [(true, .val (.int .u64 n))] true (I ((Lib.bitLen n.toNat : Nat) : Int))), (4, .nn)] [0, 3] [] [I n, I (1 * ((2 ^ ((((Lib.bitLen n.toNat : Nat) : Int) + 1) / 2).toNat : Nat) : Int))] [] [inR .u64 n, Con Tryd.prog 54 [.val (.int .u64 n)] true (I ((Lib.bitLen n.toNat : Nat) : Int)) ∧ ((.val (.int .u64 n) : AV) = .val (.int .u64 n)) ∧ True, inR .i64 (((Lib.bitLen n.toNat : Nat) : Int) + 1), (0 : Int) ≤ (((Lib.bitLen n.toNat : Nat) : Int) + 1) ∧ (0 : Int) < 2 ∧ inR .i64 (((Lib.bitLen n.toNat : Nat) : Int) + 1), (0 : Int) ≤ ((((Lib.bitLen n.toNat : Nat) : Int) + 1) / 2) ∧ ((((Lib.bitLen n.toNat : Nat) : Int) + 1) / 2) ≤ ((IntKind.bits .i64 : Nat) : Int) ∧ inR .i64 (1 * ((2 ^ ((((Lib.bitLen n.toNat : Nat) : Int) + 1) / 2).toNat : Nat) : Int))] (by kernel_rfl) hB ⟨(inR_u64 (by omega) (by omega)), ⟨(len64_ok n (by omega)), rfl, trivial⟩, (inR_i64 (by omega) (by omega)), ⟨(by omega), (by omega), (inR_i64 (by omega) (by omega))⟩, ⟨(by omega), (show ((((Lib.bitLen n.toNat : Nat) : Int) + 1) / 2) ≤ (64 : Int) from by omega), (inR_i64 (by omega) (by omega))⟩, trivial⟩ ?_
    refine ae_then ?_
    refine aw_seq ?_
    refine aw_seq ?_
    refine aw_reg [(3, .nn), (5, .nn)] [0, 3, 4] [] [I n, I (1 * ((2 ^ ((((Lib.bitLen n.toNat : Nat) : Int) + 1) / 2).toNat : Nat) : Int)), I (((1 * ((2 ^ ((((Lib.bitLen n.toNat : Nat) : Int) + 1) / 2).toNat : Nat) : Int)) + (n / (1 * ((2 ^ ((((Lib.bitLen n.toNat : Nat) : Int) + 1) / 2).toNat : Nat) : Int)))) / 2)] [] [(0 : Int) ≤ n ∧ (0 : Int) < (1 * ((2 ^ ((((Lib.bitLen n.toNat : Nat) : Int) + 1) / 2).toNat : Nat) : Int)) ∧ inR .i64 n, inR .i64 ((1 * ((2 ^ ((((Lib.bitLen n.toNat : Nat) : Int) + 1) / 2).toNat : Nat) : Int)) + (n / (1 * ((2 ^ ((((Lib.bitLen n.toNat : Nat) : Int) + 1) / 2).toNat : Nat) : Int)))), (0 : Int) ≤ ((1 * ((2 ^ ((((Lib.bitLen n.toNat : Nat) : Int) + 1) / 2).toNat : Nat) : Int)) + (n / (1 * ((2 ^ ((((Lib.bitLen n.toNat : Nat) : Int) + 1) / 2).toNat : Nat) : Int)))) ∧ (0 : Int) < 2 ∧ inR .i64 ((1 * ((2 ^ ((((Lib.bitLen n.toNat : Nat) : Int) + 1) / 2).toNat : Nat) : Int)) + (n / (1 * ((2 ^ ((((Lib.bitLen n.toNat : Nat) : Int) + 1) / 2).toNat : Nat) : Int))))] (by kernel_rfl) hB ⟨⟨(by omega), (by omega), (inR_i64 (by omega) (by omega))⟩, (inR_i64 (by omega) (by omega)), ⟨(by omega), (by omega), (inR_i64 (by omega) (by omega))⟩, trivial⟩ ?_
    refine ae_then ?_
    refine aw_block ?_
    refine aw_loop (fun gn gσ => ∃ (r : Int) (next : Int), gn = r.toNat ∧ (0 < r ∧ r ≤ 33554432) ∧ (n < (r + 1) * (r + 1)) ∧ (next = (r + n / r) / 2) ∧ gσ = mkS [(0, I n), (3, I r), (4, I next)] []) ((1 * ((2 ^ ((((Lib.bitLen n.toNat : Nat) : Int) + 1) / 2).toNat : Nat) : Int)).toNat) ⟨(1 * ((2 ^ ((((Lib.bitLen n.toNat : Nat) : Int) + 1) / 2).toNat : Nat) : Int)), (((1 * ((2 ^ ((((Lib.bitLen n.toNat : Nat) : Int) + 1) / 2).toNat : Nat) : Int)) + (n / (1 * ((2 ^ ((((Lib.bitLen n.toNat : Nat) : Int) + 1) / 2).toNat : Nat) : Int)))) / 2), rfl, (by omega), (by exact hb3), (by rfl), rfl⟩ (fun gn gσ hI => ?_)
    obtain ⟨r, next, rfl, hr0, hr1, hr2, rfl⟩ := hI
    refine aw_seq ?_
    refine aw_seq ?_
    by_cases h2 : next < r
    · have hn1 := newton (n := n) hr0.1
      rw [← hr2] at hn1
      have hq1 := div_bd (r := r) hn.1 hr0.1
      have hnp := newton_pos (q := next) (by omega) (by omega) hn1
      have hq2 := div_bd (r := next) hn.1 hnp
      refine aw_reg [(2, .dec true)] [0, 3, 4, 21] [] [I n, I r, I next, Bv true] [] [next < r] (by kernel_rfl) hB ⟨h2, trivial⟩ ?_
      refine ae_then ?_
      refine aw_true rfl ?_
      refine aw_skip ?_
      refine ae_then ?_
      refine aw_seq ?_
      refine aw_block ?_
      refine aw_reg [] [0, 3] [] [I n, I next] [] [] (by kernel_rfl) hB trivial ?_
      refine ae_block 1 ?_
      refine ae_then ?_
      refine aw_reg [(3, .nn), (5, .nn)] [0, 3, 4] [] [I n, I next, I ((next + (n / next)) / 2)] [] [(0 : Int) ≤ n ∧ (0 : Int) < next ∧ inR .i64 n, inR .i64 (next + (n / next)), (0 : Int) ≤ (next + (n / next)) ∧ (0 : Int) < 2 ∧ inR .i64 (next + (n / next))] (by kernel_rfl) hB ⟨⟨(by omega), (by omega), (inR_i64 (by omega) (by omega))⟩, (inR_i64 (by omega) (by omega)), ⟨(by omega), (by omega), (inR_i64 (by omega) (by omega))⟩, trivial⟩ ?_
      exact ae_again _ (by omega) ⟨next, ((next + (n / next)) / 2), rfl, (by omega), (by exact hn1), (by rfl), rfl⟩
    · have hfin := newton_end hr0.1 (by rw [← hr2]; exact h2)
      refine aw_reg [(2, .dec false)] [0, 3, 4, 21] [] [I n, I r, I next, Bv false] [] [¬ (next < r)] (by kernel_rfl) hB ⟨h2, trivial⟩ ?_
      refine ae_then ?_
      refine aw_false rfl ?_
      refine aw_exit ?_
      refine ae_exit_then ?_
      refine ae_exit_then ?_
      refine ae_exit_same ?_
      refine ae_then ?_
      refine aw_seq ?_
      refine aw_reg [] [2] [] [I r] [] [] (by kernel_rfl) hB trivial ?_
      refine ae_then ?_
      refine aw_ret ?_
      refine ae_ret hB (I r) (by kernel_rfl) (.inl (by first | (exact congrArg I (Eq.symm (rootI_eq (by omega) hfin hr1))) | (refine congrArg I ?_; rw [h1]; rfl))) rfl (fun _ => trivial)


def rootR (a : Fraction) : Fraction × Int := if okFr a = true then (if a.Num < 0 then (⟨0, 0⟩, 6) else if rootI a.Num * rootI a.Num = a.Num ∧ rootI a.Den * rootI a.Den = a.Den then (⟨rootI a.Num, rootI a.Den⟩, 0) else (⟨0, 0⟩, 6)) else (⟨0, 0⟩, 1)
theorem root_square {a : Fraction} (h : (rootR a).2 = 0) : powR (rootR a).1 2 = (a, 0) := by
  unfold rootR at *
  split at h
  · rename_i h1
    split at h
    · cases h
    · rename_i h2
      split at h
      · rename_i h3
        rw [if_pos h1, if_neg h2, if_pos h3]
        have hf := okFr_iff.1 h1
        have s1 := rootI_spec (n := a.Num) (by omega)
        have s2 := rootI_spec (n := a.Den) (by omega)
        exact pow_two (root_okF h1 s1.1 s2.1 h3.1 h3.2) h1 h3.1 h3.2
      · cases h
  · cases h

-- impl.RootFraction
theorem implRootFraction_ok (a : Fraction) : Con Tryd.prog 12 [.agg [I a.Num, I a.Den]] true (.tup [.agg [I (((rootR a).1).Num), I (((rootR a).1).Den)], I ((rootR a).2)]) := by
  refine fn_ok (fn := Tryd.f12) (nt := 40) Tryd.func12 rfl rfl rfl rfl (by simp [taggedL, tagged]) fun B hB => ?_
  refine aw_seq ?_
  refine aw_reg [(0, .new 1), (1, .new 2)] [1, 2] [1, 2] [.ref 1 0, .ref 2 0] [some (.box [I a.Num, I a.Den]), some (.box [I 0, I 0])] [] (by kernel_rfl) hB trivial ?_
  refine ae_then ?_
  refine aw_seq ?_
  refine aw_seq ?_
  rcases Bool.eq_false_or_eq_true (okFr a) with h1 | h1
  · refine aw_reg [(1, .call [(true, .agg [I a.Num, I a.Den])] true (Bv true))] [1, 2, 7] [1, 2] [.ref 1 0, .ref 2 0, Bv false] [some (.box [I a.Num, I a.Den]), some (.box [I 0, I 0])] [Con Tryd.prog 20 [.agg [I a.Num, I a.Den]] true (Bv true) ∧ ((.agg [I a.Num, I a.Den] : AV) = .agg [I a.Num, I a.Den]) ∧ True] (by kernel_rfl) hB ⟨⟨(con_bool h1 (ValidFraction_ok a)), rfl, trivial⟩, trivial⟩ ?_
    refine ae_then ?_
    refine aw_false rfl ?_
    refine aw_skip ?_
    refine ae_then ?_
    refine aw_seq ?_
    refine aw_seq ?_
    by_cases h2 : a.Num < 0
    · refine aw_reg [(2, .dec true)] [1, 2, 11] [1, 2] [.ref 1 0, .ref 2 0, Bv true] [some (.box [I a.Num, I a.Den]), some (.box [I 0, I 0])] [a.Num < 0] (by kernel_rfl) hB ⟨h2, trivial⟩ ?_
      refine ae_then ?_
      refine aw_true rfl ?_
      refine aw_seq ?_
      refine aw_reg [] [2, 3] [2] [.ref 2 0, I 6] [some (.box [I 0, I 0])] [] (by kernel_rfl) hB trivial ?_
      refine ae_then ?_
      refine aw_ret ?_
      refine ae_ret_then ?_
      refine ae_ret hB (.tup [.agg [I 0, I 0], I 6]) (by kernel_rfl) (.inl (by simp [rootR, *])) rfl (fun _ => (by simp [tagged, taggedL]))
    · have fA_ := okFr_iff.1 (by assumption : okFr a = true)
      have s1 := rootI_spec (n := a.Num) (by omega)
      have s2 := rootI_spec (n := a.Den) (by omega)
      have s3 := Int.mul_nonneg s1.1 s1.1
      have s4 := Int.mul_nonneg s2.1 s2.1
      refine aw_reg [(2, .dec false)] [1, 2, 11] [1, 2] [.ref 1 0, .ref 2 0, Bv false] [some (.box [I a.Num, I a.Den]), some (.box [I 0, I 0])] [¬ (a.Num < 0)] (by kernel_rfl) hB ⟨h2, trivial⟩ ?_
      refine ae_then ?_
      refine aw_false rfl ?_
      refine aw_skip ?_
      refine ae_then ?_
      refine aw_seq ?_
      refine aw_reg [(2, .call [(true, I a.Num)] true (I (rootI a.Num))), (5, .call [(true, I a.Den)] true (I (rootI a.Den))), (7, .new 4)] [1, 2, 4] [1, 2, 4] [.ref 1 0, .ref 2 0, .ref 4 0] [some (.box [I a.Num, I a.Den]), some (.box [I 0, I 0]), some (.box [I (rootI a.Num), I (rootI a.Den)])] [Con Tryd.prog 36 [I a.Num] true (I (rootI a.Num)) ∧ ((I a.Num : AV) = I a.Num) ∧ True, Con Tryd.prog 36 [I a.Den] true (I (rootI a.Den)) ∧ ((I a.Den : AV) = I a.Den) ∧ True] (by kernel_rfl) hB ⟨⟨(rootOf_ok a.Num (by omega)), rfl, trivial⟩, ⟨(rootOf_ok a.Den (by omega)), rfl, trivial⟩, trivial⟩ ?_
      refine ae_then ?_
      refine aw_seq ?_
      refine aw_seq ?_
      by_cases h3 : ((rootI a.Num) * (rootI a.Num)) = a.Num
      · by_cases h4 : ((rootI a.Den) * (rootI a.Den)) = a.Den
        · refine aw_reg [(7, .dec false), (16, .dec false)] [2, 4, 37] [2, 4] [.ref 2 0, .ref 4 0, Bv false] [some (.box [I 0, I 0]), some (.box [I (rootI a.Num), I (rootI a.Den)])] [inR .i64 ((rootI a.Num) * (rootI a.Num)), ¬ (((rootI a.Num) * (rootI a.Num)) ≠ a.Num), inR .i64 ((rootI a.Den) * (rootI a.Den)), ¬ (((rootI a.Den) * (rootI a.Den)) ≠ a.Den)] (by kernel_rfl) hB ⟨(inR_i64 (by omega) (by omega)), (fun hq => hq h3), (inR_i64 (by omega) (by omega)), (fun hq => hq h4), trivial⟩ ?_
          refine ae_then ?_
          refine aw_false rfl ?_
          refine aw_skip ?_
          refine ae_then ?_
          refine aw_seq ?_
          refine aw_reg [] [2, 3] [2] [.ref 2 0, I 0] [some (.box [I (rootI a.Num), I (rootI a.Den)])] [] (by kernel_rfl) hB trivial ?_
          refine ae_then ?_
          refine aw_ret ?_
          refine ae_ret hB (.tup [.agg [I (rootI a.Num), I (rootI a.Den)], I 0]) (by kernel_rfl) (.inl (by simp [rootR, *])) rfl (fun _ => (by simp [tagged, taggedL]))
        · refine aw_reg [(7, .dec false), (16, .dec true)] [2, 4, 37] [2, 4] [.ref 2 0, .ref 4 0, Bv true] [some (.box [I 0, I 0]), some (.box [I (rootI a.Num), I (rootI a.Den)])] [inR .i64 ((rootI a.Num) * (rootI a.Num)), ¬ (((rootI a.Num) * (rootI a.Num)) ≠ a.Num), inR .i64 ((rootI a.Den) * (rootI a.Den)), ((rootI a.Den) * (rootI a.Den)) ≠ a.Den] (by kernel_rfl) hB ⟨(inR_i64 (by omega) (by omega)), (fun hq => hq h3), (inR_i64 (by omega) (by omega)), h4, trivial⟩ ?_
          refine ae_then ?_
          refine aw_true rfl ?_
          refine aw_seq ?_
          refine aw_reg [] [2, 3] [2] [.ref 2 0, I 6] [some (.box [I 0, I 0])] [] (by kernel_rfl) hB trivial ?_
          refine ae_then ?_
          refine aw_ret ?_
          refine ae_ret_then ?_
          refine ae_ret hB (.tup [.agg [I 0, I 0], I 6]) (by kernel_rfl) (.inl (by simp [rootR, *])) rfl (fun _ => (by simp [tagged, taggedL]))
      · refine aw_reg [(7, .dec true)] [2, 4, 37] [2, 4] [.ref 2 0, .ref 4 0, Bv true] [some (.box [I 0, I 0]), some (.box [I (rootI a.Num), I (rootI a.Den)])] [inR .i64 ((rootI a.Num) * (rootI a.Num)), ((rootI a.Num) * (rootI a.Num)) ≠ a.Num] (by kernel_rfl) hB ⟨(inR_i64 (by omega) (by omega)), h3, trivial⟩ ?_
        refine ae_then ?_
        refine aw_true rfl ?_
        refine aw_seq ?_
        refine aw_reg [] [2, 3] [2] [.ref 2 0, I 6] [some (.box [I 0, I 0])] [] (by kernel_rfl) hB trivial ?_
        refine ae_then ?_
        refine aw_ret ?_
        refine ae_ret_then ?_
        refine ae_ret hB (.tup [.agg [I 0, I 0], I 6]) (by kernel_rfl) (.inl (by simp [rootR, *])) rfl (fun _ => (by simp [tagged, taggedL]))
  · refine aw_reg [(1, .call [(true, .agg [I a.Num, I a.Den])] true (Bv false))] [1, 2, 7] [1, 2] [.ref 1 0, .ref 2 0, Bv true] [some (.box [I a.Num, I a.Den]), some (.box [I 0, I 0])] [Con Tryd.prog 20 [.agg [I a.Num, I a.Den]] true (Bv false) ∧ ((.agg [I a.Num, I a.Den] : AV) = .agg [I a.Num, I a.Den]) ∧ True] (by kernel_rfl) hB ⟨⟨(con_bool h1 (ValidFraction_ok a)), rfl, trivial⟩, trivial⟩ ?_
    refine ae_then ?_
    refine aw_true rfl ?_
    refine aw_seq ?_
    refine aw_reg [] [2, 3] [2] [.ref 2 0, I 1] [some (.box [I 0, I 0])] [] (by kernel_rfl) hB trivial ?_
    refine ae_then ?_
    refine aw_ret ?_
    refine ae_ret_then ?_
    refine ae_ret hB (.tup [.agg [I 0, I 0], I 1]) (by kernel_rfl) (.inl (by simp [rootR, *])) rfl (fun _ => (by simp [tagged, taggedL]))


-- spec.l05Root
theorem l05Root_ok (n : Int) (hn : 0 ≤ n ∧ n ≤ 1000000000000000) : Con Tryd.prog 37 [I n] true (I (rootI n)) := by
  refine fn_ok (fn := Tryd.f37) (nt := 23) Tryd.func37 rfl rfl rfl rfl (by simp [taggedL, tagged]) fun B hB => ?_
  refine aw_seq ?_
  refine aw_reg [] [0] [] [I n] [] [] (by kernel_rfl) hB trivial ?_
  refine ae_then ?_
  refine aw_seq ?_
  refine aw_reg [] [0, 3] [] [I n, I 0] [] [] (by kernel_rfl) hB trivial ?_
  refine ae_then ?_
  refine aw_seq ?_
  refine aw_reg [] [0, 3, 4] [] [I n, I 0, I 40000000] [] [] (by kernel_rfl) hB trivial ?_
  refine ae_then ?_
  refine aw_seq ?_
  refine aw_block ?_
  refine aw_loop (fun gn gσ => ∃ (low : Int) (high : Int), gn = ((high : Int) - low).toNat ∧ (0 ≤ low ∧ low ≤ high ∧ high ≤ 40000000) ∧ (low * low ≤ n) ∧ (n < (high + 1) * (high + 1)) ∧ gσ = mkS [(0, I n), (3, I low), (4, I high)] []) (((40000000 : Int) - 0).toNat) ⟨0, 40000000, rfl, (by omega), (by omega), (by omega), rfl⟩ (fun gn gσ hI => ?_)
  obtain ⟨low, high, rfl, hl0, hl1, hl2, rfl⟩ := hI
  have hmm := sq_le (a := (((low + high) + 1) / 2)) (b := 40000000) (by omega) (by omega)
  have hmz := sq_le (a := 0) (b := (((low + high) + 1) / 2)) (by omega) (by omega)
  refine aw_seq ?_
  refine aw_seq ?_
  by_cases h1 : low < high
  · refine aw_reg [(2, .dec true)] [0, 3, 4, 8] [] [I n, I low, I high, Bv true] [] [low < high] (by kernel_rfl) hB ⟨h1, trivial⟩ ?_
    refine ae_then ?_
    refine aw_true rfl ?_
    refine aw_skip ?_
    refine ae_then ?_
    refine aw_block ?_
    refine aw_seq ?_
    refine aw_reg [(4, .nn)] [0, 3, 4, 5] [] [I n, I low, I high, I (((low + high) + 1) / 2)] [] [inR .i64 (low + high), inR .i64 ((low + high) + 1), (0 : Int) ≤ ((low + high) + 1) ∧ (0 : Int) < 2 ∧ inR .i64 ((low + high) + 1)] (by kernel_rfl) hB ⟨(inR_i64 (by omega) (by omega)), (inR_i64 (by omega) (by omega)), ⟨(by omega), (by omega), (inR_i64 (by omega) (by omega))⟩, trivial⟩ ?_
    refine ae_then ?_
    refine aw_seq ?_
    by_cases h2 : ((((low + high) + 1) / 2) * (((low + high) + 1) / 2)) ≤ n
    · refine aw_reg [(4, .dec true)] [0, 3, 4, 5, 18] [] [I n, I low, I high, I (((low + high) + 1) / 2), Bv true] [] [inR .i64 ((((low + high) + 1) / 2) * (((low + high) + 1) / 2)), ((((low + high) + 1) / 2) * (((low + high) + 1) / 2)) ≤ n] (by kernel_rfl) hB ⟨(inR_i64 (by omega) (by omega)), h2, trivial⟩ ?_
      refine ae_then ?_
      refine aw_true rfl ?_
      refine aw_reg [] [0, 3, 4] [] [I n, I (((low + high) + 1) / 2), I high] [] [] (by kernel_rfl) hB trivial ?_
      refine ae_block 1 ?_
      exact ae_again _ (by omega) ⟨(((low + high) + 1) / 2), high, rfl, (by omega), (by omega), (by first | omega | (rw [show ∀ x : Int, x - 1 + 1 = x from fun x => by omega]; omega)), rfl⟩
    · refine aw_reg [(4, .dec false)] [0, 3, 4, 5, 18] [] [I n, I low, I high, I (((low + high) + 1) / 2), Bv false] [] [inR .i64 ((((low + high) + 1) / 2) * (((low + high) + 1) / 2)), ¬ (((((low + high) + 1) / 2) * (((low + high) + 1) / 2)) ≤ n)] (by kernel_rfl) hB ⟨(inR_i64 (by omega) (by omega)), h2, trivial⟩ ?_
      refine ae_then ?_
      refine aw_false rfl ?_
      refine aw_reg [] [0, 3, 4] [] [I n, I low, I ((((low + high) + 1) / 2) - 1)] [] [inR .i64 ((((low + high) + 1) / 2) - 1)] (by kernel_rfl) hB ⟨(inR_i64 (by omega) (by omega)), trivial⟩ ?_
      refine ae_block 1 ?_
      exact ae_again _ (by omega) ⟨low, ((((low + high) + 1) / 2) - 1), rfl, (by omega), (by omega), (by first | omega | (rw [show ∀ x : Int, x - 1 + 1 = x from fun x => by omega]; omega)), rfl⟩
  · refine aw_reg [(2, .dec false)] [0, 3, 4, 8] [] [I n, I low, I high, Bv false] [] [¬ (low < high)] (by kernel_rfl) hB ⟨h1, trivial⟩ ?_
    refine ae_then ?_
    refine aw_false rfl ?_
    refine aw_exit ?_
    refine ae_exit_then ?_
    refine ae_exit_then ?_
    refine ae_exit_same ?_
    refine ae_then ?_
    refine aw_seq ?_
    refine aw_reg [] [2] [] [I low] [] [] (by kernel_rfl) hB trivial ?_
    refine ae_then ?_
    refine aw_ret ?_
    refine ae_ret hB (I low) (by kernel_rfl) (.inl (by exact congrArg I (Eq.symm (rootI_eq hl0.1 hl1 (by have e : high = low := (by omega); rw [e] at hl2; exact hl2))))) rfl (fun _ => trivial)


-- spec.RootFraction
theorem specRootFraction_ok (a : Fraction) : Con Tryd.prog 13 [.agg [I a.Num, I a.Den]] true (.tup [.agg [I (((rootR a).1).Num), I (((rootR a).1).Den)], I ((rootR a).2)]) := by
  refine fn_ok (fn := Tryd.f13) (nt := 38) Tryd.func13 rfl rfl rfl rfl (by simp [taggedL, tagged]) fun B hB => ?_
  refine aw_seq ?_
  refine aw_reg [(0, .new 1), (1, .new 2)] [1, 2] [1, 2] [.ref 1 0, .ref 2 0] [some (.box [I a.Num, I a.Den]), some (.box [I 0, I 0])] [] (by kernel_rfl) hB trivial ?_
  refine ae_then ?_
  refine aw_seq ?_
  refine aw_seq ?_
  rcases Bool.eq_false_or_eq_true (okFr a) with h1 | h1
  · refine aw_reg [(1, .call [(true, .agg [I a.Num, I a.Den])] true (Bv true))] [1, 2, 8] [1, 2] [.ref 1 0, .ref 2 0, Bv false] [some (.box [I a.Num, I a.Den]), some (.box [I 0, I 0])] [Con Tryd.prog 31 [.agg [I a.Num, I a.Den]] true (Bv true) ∧ ((.agg [I a.Num, I a.Den] : AV) = .agg [I a.Num, I a.Den]) ∧ True] (by kernel_rfl) hB ⟨⟨(con_bool h1 (l22Ok_ok a)), rfl, trivial⟩, trivial⟩ ?_
    refine ae_then ?_
    refine aw_false rfl ?_
    refine aw_skip ?_
    refine ae_then ?_
    refine aw_seq ?_
    refine aw_seq ?_
    by_cases h2 : a.Num < 0
    · refine aw_reg [(2, .dec true)] [1, 2, 12] [1, 2] [.ref 1 0, .ref 2 0, Bv true] [some (.box [I a.Num, I a.Den]), some (.box [I 0, I 0])] [a.Num < 0] (by kernel_rfl) hB ⟨h2, trivial⟩ ?_
      refine ae_then ?_
      refine aw_true rfl ?_
      refine aw_seq ?_
      refine aw_reg [] [2, 3] [2] [.ref 2 0, I 6] [some (.box [I 0, I 0])] [] (by kernel_rfl) hB trivial ?_
      refine ae_then ?_
      refine aw_ret ?_
      refine ae_ret_then ?_
      refine ae_ret hB (.tup [.agg [I 0, I 0], I 6]) (by kernel_rfl) (.inl (by simp [rootR, *])) rfl (fun _ => (by simp [tagged, taggedL]))
    · have fA_ := okFr_iff.1 (by assumption : okFr a = true)
      have s1 := rootI_spec (n := a.Num) (by omega)
      have s2 := rootI_spec (n := a.Den) (by omega)
      have s3 := Int.mul_nonneg s1.1 s1.1
      have s4 := Int.mul_nonneg s2.1 s2.1
      refine aw_reg [(2, .dec false)] [1, 2, 12] [1, 2] [.ref 1 0, .ref 2 0, Bv false] [some (.box [I a.Num, I a.Den]), some (.box [I 0, I 0])] [¬ (a.Num < 0)] (by kernel_rfl) hB ⟨h2, trivial⟩ ?_
      refine ae_then ?_
      refine aw_false rfl ?_
      refine aw_skip ?_
      refine ae_then ?_
      refine aw_seq ?_
      refine aw_reg [(2, .call [(true, I a.Num)] true (I (rootI a.Num)))] [1, 2, 4] [1, 2] [.ref 1 0, .ref 2 0, I (rootI a.Num)] [some (.box [I a.Num, I a.Den]), some (.box [I 0, I 0])] [Con Tryd.prog 37 [I a.Num] true (I (rootI a.Num)) ∧ ((I a.Num : AV) = I a.Num) ∧ True] (by kernel_rfl) hB ⟨⟨(l05Root_ok a.Num (by omega)), rfl, trivial⟩, trivial⟩ ?_
      refine ae_then ?_
      refine aw_seq ?_
      refine aw_reg [(2, .call [(true, I a.Den)] true (I (rootI a.Den)))] [1, 2, 4, 5] [1, 2] [.ref 1 0, .ref 2 0, I (rootI a.Num), I (rootI a.Den)] [some (.box [I a.Num, I a.Den]), some (.box [I 0, I 0])] [Con Tryd.prog 37 [I a.Den] true (I (rootI a.Den)) ∧ ((I a.Den : AV) = I a.Den) ∧ True] (by kernel_rfl) hB ⟨⟨(l05Root_ok a.Den (by omega)), rfl, trivial⟩, trivial⟩ ?_
      refine ae_then ?_
      refine aw_seq ?_
      refine aw_seq ?_
      by_cases h3 : ((rootI a.Num) * (rootI a.Num)) = a.Num
      · by_cases h4 : ((rootI a.Den) * (rootI a.Den)) = a.Den
        · refine aw_reg [(5, .dec false), (12, .dec false)] [2, 4, 5, 33] [2] [.ref 2 0, I (rootI a.Num), I (rootI a.Den), Bv false] [some (.box [I 0, I 0])] [inR .i64 ((rootI a.Num) * (rootI a.Num)), ¬ (((rootI a.Num) * (rootI a.Num)) ≠ a.Num), inR .i64 ((rootI a.Den) * (rootI a.Den)), ¬ (((rootI a.Den) * (rootI a.Den)) ≠ a.Den)] (by kernel_rfl) hB ⟨(inR_i64 (by omega) (by omega)), (fun hq => hq h3), (inR_i64 (by omega) (by omega)), (fun hq => hq h4), trivial⟩ ?_
          refine ae_then ?_
          refine aw_false rfl ?_
          refine aw_skip ?_
          refine ae_then ?_
          refine aw_seq ?_
          refine aw_reg [] [2, 3] [2] [.ref 2 0, I 0] [some (.box [I (rootI a.Num), I (rootI a.Den)])] [] (by kernel_rfl) hB trivial ?_
          refine ae_then ?_
          refine aw_ret ?_
          refine ae_ret hB (.tup [.agg [I (rootI a.Num), I (rootI a.Den)], I 0]) (by kernel_rfl) (.inl (by simp [rootR, *])) rfl (fun _ => (by simp [tagged, taggedL]))
        · refine aw_reg [(5, .dec false), (12, .dec true)] [2, 4, 5, 33] [2] [.ref 2 0, I (rootI a.Num), I (rootI a.Den), Bv true] [some (.box [I 0, I 0])] [inR .i64 ((rootI a.Num) * (rootI a.Num)), ¬ (((rootI a.Num) * (rootI a.Num)) ≠ a.Num), inR .i64 ((rootI a.Den) * (rootI a.Den)), ((rootI a.Den) * (rootI a.Den)) ≠ a.Den] (by kernel_rfl) hB ⟨(inR_i64 (by omega) (by omega)), (fun hq => hq h3), (inR_i64 (by omega) (by omega)), h4, trivial⟩ ?_
          refine ae_then ?_
          refine aw_true rfl ?_
          refine aw_seq ?_
          refine aw_reg [] [2, 3] [2] [.ref 2 0, I 6] [some (.box [I 0, I 0])] [] (by kernel_rfl) hB trivial ?_
          refine ae_then ?_
          refine aw_ret ?_
          refine ae_ret_then ?_
          refine ae_ret hB (.tup [.agg [I 0, I 0], I 6]) (by kernel_rfl) (.inl (by simp [rootR, *])) rfl (fun _ => (by simp [tagged, taggedL]))
      · refine aw_reg [(5, .dec true)] [2, 4, 5, 33] [2] [.ref 2 0, I (rootI a.Num), I (rootI a.Den), Bv true] [some (.box [I 0, I 0])] [inR .i64 ((rootI a.Num) * (rootI a.Num)), ((rootI a.Num) * (rootI a.Num)) ≠ a.Num] (by kernel_rfl) hB ⟨(inR_i64 (by omega) (by omega)), h3, trivial⟩ ?_
        refine ae_then ?_
        refine aw_true rfl ?_
        refine aw_seq ?_
        refine aw_reg [] [2, 3] [2] [.ref 2 0, I 6] [some (.box [I 0, I 0])] [] (by kernel_rfl) hB trivial ?_
        refine ae_then ?_
        refine aw_ret ?_
        refine ae_ret_then ?_
        refine ae_ret hB (.tup [.agg [I 0, I 0], I 6]) (by kernel_rfl) (.inl (by simp [rootR, *])) rfl (fun _ => (by simp [tagged, taggedL]))
  · refine aw_reg [(1, .call [(true, .agg [I a.Num, I a.Den])] true (Bv false))] [1, 2, 8] [1, 2] [.ref 1 0, .ref 2 0, Bv true] [some (.box [I a.Num, I a.Den]), some (.box [I 0, I 0])] [Con Tryd.prog 31 [.agg [I a.Num, I a.Den]] true (Bv false) ∧ ((.agg [I a.Num, I a.Den] : AV) = .agg [I a.Num, I a.Den]) ∧ True] (by kernel_rfl) hB ⟨⟨(con_bool h1 (l22Ok_ok a)), rfl, trivial⟩, trivial⟩ ?_
    refine ae_then ?_
    refine aw_true rfl ?_
    refine aw_seq ?_
    refine aw_reg [] [2, 3] [2] [.ref 2 0, I 1] [some (.box [I 0, I 0])] [] (by kernel_rfl) hB trivial ?_
    refine ae_then ?_
    refine aw_ret ?_
    refine ae_ret_then ?_
    refine ae_ret hB (.tup [.agg [I 0, I 0], I 1]) (by kernel_rfl) (.inl (by simp [rootR, *])) rfl (fun _ => (by simp [tagged, taggedL]))


-- spec.l00Src).one
theorem one_ok (s : l00Src) (n : Int) (hs : okSrc s) (ha : s.atx ≤ 3999999999999999980) : ∃ (v : Bool) (s' : l00Src), (okSrc s') ∧ (s'.code = s.code) ∧ (s.atx + 0 ≤ s'.atx ∧ s'.atx ≤ s.atx + 2) ∧ CallOK Tryd.prog 39 [.ref 7001 0, I n] (lookO [(7001, .box [slU8 false s.code, I s.atx, .val (.int .u64 s.seed)])]) true (Bv v) (lookO [(7001, .box [slU8 false s'.code, I s'.atx, .val (.int .u64 s'.seed)])]) := by
  have hh : ∃ r : Bool × l00Src, ((okSrc r.2) ∧ (r.2.code = s.code) ∧ (s.atx + 0 ≤ r.2.atx ∧ r.2.atx ≤ s.atx + 2) ∧ (True)) ∧ CallOK Tryd.prog 39 [.ref 7001 0, I n] (lookO [(7001, .box [slU8 false s.code, I s.atx, .val (.int .u64 s.seed)])]) true (Bv r.1) (lookO [(7001, .box [slU8 false r.2.code, I r.2.atx, .val (.int .u64 r.2.seed)])]) := by
    refine fn_okX (Φ := fun r : Bool × l00Src => (okSrc r.2) ∧ (r.2.code = s.code) ∧ (s.atx + 0 ≤ r.2.atx ∧ r.2.atx ≤ s.atx + 2) ∧ (True)) [(7001, .box [slU8 false s.code, I s.atx, .val (.int .u64 s.seed)])] (fun r => [(7001, .box [slU8 false r.2.code, I r.2.atx, .val (.int .u64 r.2.seed)])]) (fn := Tryd.f39) (nt := 9) Tryd.func39 rfl rfl (args := [.ref 7001 0, I n]) rfl (allcons (.inr ⟨_, _, rfl⟩) (allcons (.inl ⟨rfl, trivial⟩) allnil)) (res := fun r => Bv r.1) ?_
    refine x_seq ?_
    refine x_reg [] [0, 1] [7001] [.ref 7001 0, I n] [some (.box [slU8 false s.code, I s.atx, .val (.int .u64 s.seed)])] [] (by kernel_rfl) trivial ?_
    refine xe_then ?_
    refine x_seq ?_
    obtain ⟨v_1, s'_1, hx1_0, hx1_1, hx1_2, hx1_3, hc1⟩ := pick_ok s n (by first | assumption | (simp only [okSrc] at *; simp_all; done)) (by omega)
    refine x_reg [(2, .lend [(7001, .box [slU8 false s.code, I s.atx, .val (.int .u64 s.seed)], .box [slU8 false s'_1.code, I s'_1.atx, .val (.int .u64 s'_1.seed)])] [] [(true, .ref 7001 0), (true, I n)] true (I v_1))] [4] [7001] [Bv (decide (v_1 = 0))] [some (.box [slU8 false s'_1.code, I s'_1.atx, .val (.int .u64 s'_1.seed)])] [CallOK Tryd.prog 38 [.ref 7001 0, I n] (lookO [(7001, .box [slU8 false s.code, I s.atx, .val (.int .u64 s.seed)])]) true (I v_1) (lookO [(7001, .box [slU8 false s'_1.code, I s'_1.atx, .val (.int .u64 s'_1.seed)])]) ∧ ((.ref 7001 0 : AV) = .ref 7001 0) ∧ ((I n : AV) = I n) ∧ (((.box [slU8 false s.code, I s.atx, .val (.int .u64 s.seed)] : Ob) = .box [slU8 false s.code, I s.atx, .val (.int .u64 s.seed)] ∨ obLe noOb true (.box [slU8 false s.code, I s.atx, .val (.int .u64 s.seed)]) (.box [slU8 false s.code, I s.atx, .val (.int .u64 s.seed)])) ∧ taggedO false (.box [slU8 false s.code, I s.atx, .val (.int .u64 s.seed)])) ∧ True] (by kernel_rfl) ⟨⟨hc1, rfl, rfl, ⟨.inl rfl, (by simp [taggedO, taggedL, tagged, tagU8])⟩, trivial⟩, trivial⟩ ?_
    refine xe_then ?_
    refine x_ret ?_
    refine xe_end (decide (v_1 = 0), s'_1) (show (okSrc s'_1) ∧ (s'_1.code = s.code) ∧ (s.atx + 0 ≤ s'_1.atx ∧ s'_1.atx ≤ s.atx + 2) ∧ (True) from ⟨(by first | omega | rfl | assumption | (dsimp only; first | omega | rfl | assumption) | (simp only [*]; done) | (simp_all; done)), (by first | omega | rfl | assumption | (dsimp only; first | omega | rfl | assumption) | (simp only [*]; done) | (simp_all; done)), (by first | omega | rfl | assumption | (dsimp only; first | omega | rfl | assumption) | (simp only [*]; done) | (simp_all; done)), trivial⟩) (⟨.inl rfl, trivial⟩) (Bv (decide (v_1 = 0))) (by kernel_rfl) (.inl rfl) (fun _ => rfl) (fun _ => trivial)
  obtain ⟨⟨v, s'⟩, ⟨hh0, hh1, hh2, _⟩, hc⟩ := hh
  exact ⟨v, s', hh0, hh1, hh2, hc⟩


-- spec.DrawPowerFraction
theorem DrawPowerFraction_ok (code : List Int) (hc : (∀ j, j < code.length → 0 ≤ at_ code j ∧ at_ code j ≤ 255) ∧ code.length ≤ 4611686018427387904) : ∃ (v : Fraction) (n : Int), Con Tryd.prog 14 [slU8 false code] true (.tup [.agg [I v.Num, I v.Den], I n]) := by
  have hh : ∃ r : Fraction × Int, (True) ∧ CallOK Tryd.prog 14 [slU8 false code] (lookO []) true (.tup [.agg [I r.1.Num, I r.1.Den], I r.2]) (lookO []) := by
    refine fn_okX (Φ := fun r : Fraction × Int => True) [] (fun r => []) (fn := Tryd.f14) (nt := 21) Tryd.func14 rfl rfl (args := [slU8 false code]) rfl (allcons (.inl ⟨rfl, tagU8 false _⟩) allnil) (res := fun r => .tup [.agg [I r.1.Num, I r.1.Den], I r.2]) ?_
    refine x_seq ?_
    refine x_reg [(0, .new 2)] [0, 2] [2] [slU8 false code, .ref 2 0] [some (.box [I 0, I 0])] [] (by kernel_rfl) trivial ?_
    refine xe_then ?_
    refine x_seq ?_
    obtain ⟨s'_1, hx1_0, hc1⟩ := l00From_ok code
    have hsrc : okSrc s'_1 := ⟨by rw [hx1_0.1]; exact hc.1, by rw [hx1_0.2]; decide, by rw [hx1_0.1]; exact hc.2⟩
    have hat0 := hx1_0.2
    refine x_reg [(1, .lend [] [(7001, .box [slU8 false s'_1.code, I s'_1.atx, .val (.int .u64 s'_1.seed)])] [(true, slU8 false code)] false (.ref 7001 0))] [2, 4] [2, 7001] [.ref 2 0, .ref 7001 0] [some (.box [I 0, I 0]), some (.box [slU8 false s'_1.code, I s'_1.atx, .val (.int .u64 s'_1.seed)])] [CallOK Tryd.prog 35 [slU8 false code] (lookO []) false (.ref 7001 0) (lookO [(7001, .box [slU8 false s'_1.code, I s'_1.atx, .val (.int .u64 s'_1.seed)])]) ∧ ((slU8 false code : AV) = slU8 false code) ∧ True] (by kernel_rfl) ⟨⟨hc1, rfl, trivial⟩, trivial⟩ ?_
    refine xe_then ?_
    refine x_seq ?_
    obtain ⟨v_2, s'_2, hx2_0, hx2_1, hx2_2, hc2⟩ := l22Draw_ok s'_1 (by first | assumption | (simp only [okSrc] at *; simp_all; done)) (by omega)
    refine x_reg [(1, .lend [(7001, .box [slU8 false s'_1.code, I s'_1.atx, .val (.int .u64 s'_1.seed)], .box [slU8 false s'_2.code, I s'_2.atx, .val (.int .u64 s'_2.seed)])] [] [(true, .ref 7001 0)] true (.agg [I v_2.Num, I v_2.Den])), (2, .new 5)] [2, 4, 5] [2, 5, 7001] [.ref 2 0, .ref 7001 0, .ref 5 0] [some (.box [I 0, I 0]), some (.box [I v_2.Num, I v_2.Den]), some (.box [slU8 false s'_2.code, I s'_2.atx, .val (.int .u64 s'_2.seed)])] [CallOK Tryd.prog 34 [.ref 7001 0] (lookO [(7001, .box [slU8 false s'_1.code, I s'_1.atx, .val (.int .u64 s'_1.seed)])]) true (.agg [I v_2.Num, I v_2.Den]) (lookO [(7001, .box [slU8 false s'_2.code, I s'_2.atx, .val (.int .u64 s'_2.seed)])]) ∧ ((.ref 7001 0 : AV) = .ref 7001 0) ∧ (((.box [slU8 false s'_1.code, I s'_1.atx, .val (.int .u64 s'_1.seed)] : Ob) = .box [slU8 false s'_1.code, I s'_1.atx, .val (.int .u64 s'_1.seed)] ∨ obLe noOb true (.box [slU8 false s'_1.code, I s'_1.atx, .val (.int .u64 s'_1.seed)]) (.box [slU8 false s'_1.code, I s'_1.atx, .val (.int .u64 s'_1.seed)])) ∧ taggedO false (.box [slU8 false s'_1.code, I s'_1.atx, .val (.int .u64 s'_1.seed)])) ∧ True] (by kernel_rfl) ⟨⟨hc2, rfl, ⟨.inl rfl, (by simp [taggedO, taggedL, tagged, tagU8])⟩, trivial⟩, trivial⟩ ?_
    refine xe_then ?_
    refine x_seq ?_
    obtain ⟨v_3, s'_3, hx3_0, hx3_1, hx3_2, hx3_3, hc3⟩ := pick_ok s'_2 11 (by first | assumption | (simp only [okSrc] at *; simp_all; done)) (by omega)
    refine x_reg [(1, .lend [(7001, .box [slU8 false s'_2.code, I s'_2.atx, .val (.int .u64 s'_2.seed)], .box [slU8 false s'_3.code, I s'_3.atx, .val (.int .u64 s'_3.seed)])] [] [(true, .ref 7001 0), (true, I 11)] true (I v_3))] [2, 4, 5, 6] [2, 5, 7001] [.ref 2 0, .ref 7001 0, .ref 5 0, I (v_3 - 4)] [some (.box [I 0, I 0]), some (.box [I v_2.Num, I v_2.Den]), some (.box [slU8 false s'_3.code, I s'_3.atx, .val (.int .u64 s'_3.seed)])] [CallOK Tryd.prog 38 [.ref 7001 0, I 11] (lookO [(7001, .box [slU8 false s'_2.code, I s'_2.atx, .val (.int .u64 s'_2.seed)])]) true (I v_3) (lookO [(7001, .box [slU8 false s'_3.code, I s'_3.atx, .val (.int .u64 s'_3.seed)])]) ∧ ((.ref 7001 0 : AV) = .ref 7001 0) ∧ ((I 11 : AV) = I 11) ∧ (((.box [slU8 false s'_2.code, I s'_2.atx, .val (.int .u64 s'_2.seed)] : Ob) = .box [slU8 false s'_2.code, I s'_2.atx, .val (.int .u64 s'_2.seed)] ∨ obLe noOb true (.box [slU8 false s'_2.code, I s'_2.atx, .val (.int .u64 s'_2.seed)]) (.box [slU8 false s'_2.code, I s'_2.atx, .val (.int .u64 s'_2.seed)])) ∧ taggedO false (.box [slU8 false s'_2.code, I s'_2.atx, .val (.int .u64 s'_2.seed)])) ∧ True, inR .i64 (v_3 - 4)] (by kernel_rfl) ⟨⟨hc3, rfl, rfl, ⟨.inl rfl, (by simp [taggedO, taggedL, tagged, tagU8])⟩, trivial⟩, (inR_i64 (by omega) (by omega)), trivial⟩ ?_
    refine xe_then ?_
    refine x_seq ?_
    refine x_seq ?_
    obtain ⟨v_4, s'_4, hx4_0, hx4_1, hx4_2, hc4⟩ := one_ok s'_3 10 (by first | assumption | (simp only [okSrc] at *; simp_all; done)) (by omega)
    rcases Bool.eq_false_or_eq_true v_4 with h1 | h1
    · subst h1
      refine x_reg [(1, .lend [(7001, .box [slU8 false s'_3.code, I s'_3.atx, .val (.int .u64 s'_3.seed)], .box [slU8 false s'_4.code, I s'_4.atx, .val (.int .u64 s'_4.seed)])] [] [(true, .ref 7001 0), (true, I 10)] true (Bv true))] [2, 4, 5, 6, 15] [2, 5, 7001] [.ref 2 0, .ref 7001 0, .ref 5 0, I (v_3 - 4), Bv true] [some (.box [I 0, I 0]), some (.box [I v_2.Num, I v_2.Den]), some (.box [slU8 false s'_4.code, I s'_4.atx, .val (.int .u64 s'_4.seed)])] [CallOK Tryd.prog 39 [.ref 7001 0, I 10] (lookO [(7001, .box [slU8 false s'_3.code, I s'_3.atx, .val (.int .u64 s'_3.seed)])]) true (Bv true) (lookO [(7001, .box [slU8 false s'_4.code, I s'_4.atx, .val (.int .u64 s'_4.seed)])]) ∧ ((.ref 7001 0 : AV) = .ref 7001 0) ∧ ((I 10 : AV) = I 10) ∧ (((.box [slU8 false s'_3.code, I s'_3.atx, .val (.int .u64 s'_3.seed)] : Ob) = .box [slU8 false s'_3.code, I s'_3.atx, .val (.int .u64 s'_3.seed)] ∨ obLe noOb true (.box [slU8 false s'_3.code, I s'_3.atx, .val (.int .u64 s'_3.seed)]) (.box [slU8 false s'_3.code, I s'_3.atx, .val (.int .u64 s'_3.seed)])) ∧ taggedO false (.box [slU8 false s'_3.code, I s'_3.atx, .val (.int .u64 s'_3.seed)])) ∧ True] (by kernel_rfl) ⟨⟨hc4, rfl, rfl, ⟨.inl rfl, (by simp [taggedO, taggedL, tagged, tagU8])⟩, trivial⟩, trivial⟩ ?_
      refine xe_then ?_
      refine x_true rfl ?_
      obtain ⟨v_5, s'_5, hx5_0, hx5_1, hx5_2, hx5_3, hc5⟩ := among_ok s'_4 ([(-21), (-20), 20, 21]) (by first | assumption | (simp only [okSrc] at *; simp_all; done)) (by omega) (by simp)
      refine x_reg [(1, .new 17), (2, .lend [(7001, .box [slU8 false s'_4.code, I s'_4.atx, .val (.int .u64 s'_4.seed)], .box [slU8 false s'_5.code, I s'_5.atx, .val (.int .u64 s'_5.seed)])] [] [(true, .ref 7001 0), (false, slI false ([(-21), (-20), 20, 21]))] true (I v_5))] [2, 5, 6] [2, 5] [.ref 2 0, .ref 5 0, I v_5] [some (.box [I 0, I 0]), some (.box [I v_2.Num, I v_2.Den])] [CallOK Tryd.prog 40 [.ref 7001 0, slI false ([(-21), (-20), 20, 21])] (lookO [(7001, .box [slU8 false s'_4.code, I s'_4.atx, .val (.int .u64 s'_4.seed)])]) true (I v_5) (lookO [(7001, .box [slU8 false s'_5.code, I s'_5.atx, .val (.int .u64 s'_5.seed)])]) ∧ ((.ref 7001 0 : AV) = .ref 7001 0) ∧ ((false = true → true = true) ∧ 1 = 1 ∧ 4 = (([(-21), (-20), 20, 21]).length) ∧ ∀ i, i < (([(-21), (-20), 20, 21]).length) → (litF [I (-21), I (-20), I 20, I 21] 1) i = (fI ([(-21), (-20), 20, 21])) i ∨ (AV.idsL ((fI ([(-21), (-20), 20, 21])) i) = [] ∧ leL (fun _ => none) false ((litF [I (-21), I (-20), I 20, I 21] 1) i) ((fI ([(-21), (-20), 20, 21])) i))) ∧ (((.box [slU8 false s'_4.code, I s'_4.atx, .val (.int .u64 s'_4.seed)] : Ob) = .box [slU8 false s'_4.code, I s'_4.atx, .val (.int .u64 s'_4.seed)] ∨ obLe noOb true (.box [slU8 false s'_4.code, I s'_4.atx, .val (.int .u64 s'_4.seed)]) (.box [slU8 false s'_4.code, I s'_4.atx, .val (.int .u64 s'_4.seed)])) ∧ taggedO false (.box [slU8 false s'_4.code, I s'_4.atx, .val (.int .u64 s'_4.seed)])) ∧ True] (by kernel_rfl) ⟨⟨hc5, rfl, ⟨(fun h => by cases h), rfl, (by first | rfl | (simp; done) | (simp; omega) | omega), fun i hi => .inl (match i, hi with | 0, _ => rfl | 1, _ => rfl | 2, _ => rfl | 3, _ => rfl | (i + 4), h => absurd h (by simp))⟩, ⟨.inl rfl, (by simp [taggedO, taggedL, tagged, tagU8])⟩, trivial⟩, trivial⟩ ?_
      refine xe_then ?_
      refine x_seq ?_
      refine x_reg [] [2, 3] [2] [.ref 2 0, I v_5] [some (.box [I v_2.Num, I v_2.Den])] [] (by kernel_rfl) trivial ?_
      refine xe_then ?_
      refine x_ret ?_
      refine xe_end (v_2, v_5) trivial (trivial) (.tup [.agg [I v_2.Num, I v_2.Den], I v_5]) (by kernel_rfl) (.inl rfl) (fun _ => rfl) (fun _ => (by simp [tagged, taggedL]))
    · subst h1
      refine x_reg [(1, .lend [(7001, .box [slU8 false s'_3.code, I s'_3.atx, .val (.int .u64 s'_3.seed)], .box [slU8 false s'_4.code, I s'_4.atx, .val (.int .u64 s'_4.seed)])] [] [(true, .ref 7001 0), (true, I 10)] true (Bv false))] [2, 4, 5, 6, 15] [2, 5, 7001] [.ref 2 0, .ref 7001 0, .ref 5 0, I (v_3 - 4), Bv false] [some (.box [I 0, I 0]), some (.box [I v_2.Num, I v_2.Den]), some (.box [slU8 false s'_4.code, I s'_4.atx, .val (.int .u64 s'_4.seed)])] [CallOK Tryd.prog 39 [.ref 7001 0, I 10] (lookO [(7001, .box [slU8 false s'_3.code, I s'_3.atx, .val (.int .u64 s'_3.seed)])]) true (Bv false) (lookO [(7001, .box [slU8 false s'_4.code, I s'_4.atx, .val (.int .u64 s'_4.seed)])]) ∧ ((.ref 7001 0 : AV) = .ref 7001 0) ∧ ((I 10 : AV) = I 10) ∧ (((.box [slU8 false s'_3.code, I s'_3.atx, .val (.int .u64 s'_3.seed)] : Ob) = .box [slU8 false s'_3.code, I s'_3.atx, .val (.int .u64 s'_3.seed)] ∨ obLe noOb true (.box [slU8 false s'_3.code, I s'_3.atx, .val (.int .u64 s'_3.seed)]) (.box [slU8 false s'_3.code, I s'_3.atx, .val (.int .u64 s'_3.seed)])) ∧ taggedO false (.box [slU8 false s'_3.code, I s'_3.atx, .val (.int .u64 s'_3.seed)])) ∧ True] (by kernel_rfl) ⟨⟨hc4, rfl, rfl, ⟨.inl rfl, (by simp [taggedO, taggedL, tagged, tagU8])⟩, trivial⟩, trivial⟩ ?_
      refine xe_then ?_
      refine x_false rfl ?_
      refine x_skip ?_
      refine xe_then ?_
      refine x_seq ?_
      refine x_reg [] [2, 3] [2] [.ref 2 0, I (v_3 - 4)] [some (.box [I v_2.Num, I v_2.Den])] [] (by kernel_rfl) trivial ?_
      refine xe_then ?_
      refine x_ret ?_
      refine xe_end (v_2, (v_3 - 4)) trivial (trivial) (.tup [.agg [I v_2.Num, I v_2.Den], I (v_3 - 4)]) (by kernel_rfl) (.inl rfl) (fun _ => rfl) (fun _ => (by simp [tagged, taggedL]))
  obtain ⟨⟨v, n⟩, _, hc⟩ := hh
  exact ⟨v, n, hc⟩


-- impl.reciprocal
theorem reciprocal_ok (a : Fraction) (ha : okFr a = true) (h0 : a.Num ≠ 0) : Con Tryd.prog 42 [.agg [I a.Num, I a.Den]] true (.agg [I ((turnF a).Num), I ((turnF a).Den)]) := by
  have fA_ := okFr_iff.1 ha
  have htr := turn_red ha h0
  refine fn_ok (fn := Tryd.f42) (nt := 14) Tryd.func42 rfl rfl rfl rfl (by simp [taggedL, tagged]) fun B hB => ?_
  refine aw_seq ?_
  refine aw_reg [(0, .new 1), (1, .new 2)] [1, 2] [1, 2] [.ref 1 0, .ref 2 0] [some (.box [I a.Num, I a.Den]), some (.box [I 0, I 0])] [] (by kernel_rfl) hB trivial ?_
  refine ae_then ?_
  refine aw_seq ?_
  refine aw_reg [(4, .call [(true, I a.Den), (true, I a.Num)] true (.tup [.agg [I (((redR a.Den a.Num).1).Num), I (((redR a.Den a.Num).1).Den)], I ((redR a.Den a.Num).2)])), (8, .new 3)] [2, 3] [2, 3] [.ref 2 0, .ref 3 0] [some (.box [I 0, I 0]), some (.box [I (((redR a.Den a.Num).1).Num), I (((redR a.Den a.Num).1).Den)])] [Con Tryd.prog 30 [I a.Den, I a.Num] true (.tup [.agg [I (((redR a.Den a.Num).1).Num), I (((redR a.Den a.Num).1).Den)], I ((redR a.Den a.Num).2)]) ∧ ((I a.Den : AV) = I a.Den) ∧ ((I a.Num : AV) = I a.Num) ∧ True] (by kernel_rfl) hB ⟨⟨(reduced_ok a.Den a.Num (by omega) (by omega)), rfl, rfl, trivial⟩, trivial⟩ ?_
  refine ae_then ?_
  refine aw_seq ?_
  refine aw_reg [] [2] [2] [.ref 2 0] [some (.box [I (((redR a.Den a.Num).1).Num), I (((redR a.Den a.Num).1).Den)])] [] (by kernel_rfl) hB trivial ?_
  refine ae_then ?_
  refine aw_ret ?_
  refine ae_ret hB (.agg [I (((redR a.Den a.Num).1).Num), I (((redR a.Den a.Num).1).Den)]) (by kernel_rfl) (.inl (by simp [htr])) rfl (fun _ => (by simp [tagged, taggedL]))


-- impl.PowerFraction
theorem implPowerFraction_ok (a : Fraction) (power : Int) : Con Tryd.prog 15 [.agg [I a.Num, I a.Den], I power] true (.tup [.agg [I (((powR a power).1).Num), I (((powR a power).1).Den)], I ((powR a power).2)]) := by
  refine fn_ok (fn := Tryd.f15) (nt := 51) Tryd.func15 rfl rfl rfl rfl (by simp [taggedL, tagged]) fun B hB => ?_
  refine aw_seq ?_
  refine aw_reg [(0, .new 2), (1, .new 4)] [1, 2, 4] [2, 4] [I power, .ref 2 0, .ref 4 0] [some (.box [I a.Num, I a.Den]), some (.box [I 0, I 0])] [] (by kernel_rfl) hB trivial ?_
  refine ae_then ?_
  refine aw_seq ?_
  refine aw_block ?_
  refine aw_seq ?_
  rcases Bool.eq_false_or_eq_true (okFr a) with h1 | h1
  · refine aw_reg [(1, .call [(true, .agg [I a.Num, I a.Den])] true (Bv true))] [1, 2, 4, 9] [2, 4] [I power, .ref 2 0, .ref 4 0, Bv false] [some (.box [I a.Num, I a.Den]), some (.box [I 0, I 0])] [Con Tryd.prog 20 [.agg [I a.Num, I a.Den]] true (Bv true) ∧ ((.agg [I a.Num, I a.Den] : AV) = .agg [I a.Num, I a.Den]) ∧ True] (by kernel_rfl) hB ⟨⟨(con_bool h1 (ValidFraction_ok a)), rfl, trivial⟩, trivial⟩ ?_
    refine ae_then ?_
    refine aw_false rfl ?_
    refine aw_seq ?_
    rcases Bool.eq_false_or_eq_true (inB power (-20) 20) with h2 | h2
    · have hinh2 := inB_iff.1 h2
      refine aw_reg [(1, .call [(true, I power), (true, I (-20)), (true, I 20)] true (Bv true))] [1, 2, 4, 14] [2, 4] [I power, .ref 2 0, .ref 4 0, Bv false] [some (.box [I a.Num, I a.Den]), some (.box [I 0, I 0])] [Con Tryd.prog 41 [I power, I (-20), I 20] true (Bv true) ∧ ((I power : AV) = I power) ∧ ((I (-20) : AV) = I (-20)) ∧ ((I 20 : AV) = I 20) ∧ True] (by kernel_rfl) hB ⟨⟨(con_bool h2 (within_ok power (-20) 20)), rfl, rfl, rfl, trivial⟩, trivial⟩ ?_
      refine ae_then ?_
      refine aw_false rfl ?_
      refine aw_seq ?_
      by_cases h3 : power < 0
      · by_cases h4 : a.Num = 0
        · refine aw_reg [(1, .dec true), (5, .dec true)] [1, 2, 4, 19] [2, 4] [I power, .ref 2 0, .ref 4 0, Bv true] [some (.box [I a.Num, I a.Den]), some (.box [I 0, I 0])] [power < 0, a.Num = 0] (by kernel_rfl) hB ⟨h3, h4, trivial⟩ ?_
          refine ae_then ?_
          refine aw_true rfl ?_
          refine aw_seq ?_
          refine aw_reg [] [4, 5] [4] [.ref 4 0, I 6] [some (.box [I 0, I 0])] [] (by kernel_rfl) hB trivial ?_
          refine ae_then ?_
          refine aw_ret ?_
          refine ae_ret_block (ae_ret_then ?_)
          refine ae_ret hB (.tup [.agg [I 0, I 0], I 6]) (by kernel_rfl) (.inl (by first | (rw [powR_1 (by assumption)]; done) | (rw [powR_2 (by assumption) (by assumption)]; done) | (rw [powR_6 (by assumption) (by assumption) (by constructor <;> assumption)]; done) | (rw [powR_eq (by assumption) (by assumption) (by omega), hp1]; done) | (rw [powR_eq (by assumption) (by assumption) (by omega), hfail, hz]; done))) rfl (fun _ => (by simp [tagged, taggedL]))
        · have h0 : a.Num ≠ 0 := h4
          refine aw_reg [(1, .dec true), (5, .dec false)] [1, 2, 4, 19] [2, 4] [I power, .ref 2 0, .ref 4 0, Bv false] [some (.box [I a.Num, I a.Den]), some (.box [I 0, I 0])] [power < 0, ¬ (a.Num = 0)] (by kernel_rfl) hB ⟨h3, h4, trivial⟩ ?_
          refine ae_then ?_
          refine aw_false rfl ?_
          refine aw_skip ?_
          refine ae_block 0 ?_
          refine ae_then ?_
          refine aw_seq ?_
          refine aw_seq ?_
          refine aw_reg [(1, .dec true)] [1, 2, 4, 29] [2, 4] [I power, .ref 2 0, .ref 4 0, Bv true] [some (.box [I a.Num, I a.Den]), some (.box [I 0, I 0])] [power < 0] (by kernel_rfl) hB ⟨h3, trivial⟩ ?_
          refine ae_then ?_
          refine aw_true rfl ?_
          refine aw_reg [(1, .call [(true, .agg [I a.Num, I a.Den])] true (.agg [I ((turnF a).Num), I ((turnF a).Den)]))] [1, 2, 4] [2, 4] [I (-power), .ref 2 0, .ref 4 0] [some (.box [I ((turnF a).Num), I ((turnF a).Den)]), some (.box [I 0, I 0])] [Con Tryd.prog 42 [.agg [I a.Num, I a.Den]] true (.agg [I ((turnF a).Num), I ((turnF a).Den)]) ∧ ((.agg [I a.Num, I a.Den] : AV) = .agg [I a.Num, I a.Den]) ∧ True, inR .i64 (-power)] (by kernel_rfl) hB ⟨⟨(reciprocal_ok a (by assumption) (by assumption)), rfl, trivial⟩, (inR_i64 (by omega) (by omega)), trivial⟩ ?_
          refine ae_then ?_
          refine aw_seq ?_
          refine aw_reg [(1, .new 6)] [1, 2, 4, 6] [2, 4, 6] [I (-power), .ref 2 0, .ref 4 0, .ref 6 0] [some (.box [I ((turnF a).Num), I ((turnF a).Den)]), some (.box [I 0, I 0]), some (.box [I 1, I 1])] [] (by kernel_rfl) hB trivial ?_
          refine ae_then ?_
          refine aw_seq ?_
          refine aw_block ?_
          refine aw_loop (fun gn gσ => ∃ (power' : Int) (fn_ : Int) (fd_ : Int) (b4_0 : Int) (b4_1 : Int), gn = (power').toNat ∧ (0 ≤ power' ∧ power' ≤ (power.natAbs : Int)) ∧ (powL (if power < 0 then turnF a else a) ((power.natAbs : Int) - power').toNat = (Fraction.mk fn_ fd_, 0)) ∧ gσ = mkS [(1, I power'), (2, .ref 2 0), (4, .ref 4 0), (6, .ref 6 0)] [(2, .box [I ((turnF a).Num), I ((turnF a).Den)]), (4, .box [I b4_0, I b4_1]), (6, .box [I fn_, I fd_])]) (((-power)).toNat) ⟨(-power), 1, 1, 0, 0, rfl, (by omega), (by exact powL_at (by omega)), rfl⟩ (fun gn gσ hI => ?_)
          obtain ⟨power', fn_, fd_, b4_0, b4_1, rfl, hi0, hp1, rfl⟩ := hI
          refine aw_seq ?_
          refine aw_seq ?_
          by_cases h5 : 0 < power'
          · refine aw_reg [(1, .dec true)] [1, 2, 4, 6, 36] [2, 4, 6] [I power', .ref 2 0, .ref 4 0, .ref 6 0, Bv true] [some (.box [I ((turnF a).Num), I ((turnF a).Den)]), some (.box [I b4_0, I b4_1]), some (.box [I fn_, I fd_])] [0 < power'] (by kernel_rfl) hB ⟨h5, trivial⟩ ?_
            refine ae_then ?_
            refine aw_true rfl ?_
            refine aw_skip ?_
            refine ae_then ?_
            refine aw_seq ?_
            refine aw_block ?_
            refine aw_seq ?_
            refine aw_reg [(2, .call [(true, .agg [I fn_, I fd_]), (true, .agg [I ((turnF a).Num), I ((turnF a).Den)])] true (.tup [.agg [I (((timesR (Fraction.mk fn_ fd_) (turnF a)).1).Num), I (((timesR (Fraction.mk fn_ fd_) (turnF a)).1).Den)], I ((timesR (Fraction.mk fn_ fd_) (turnF a)).2)])), (6, .new 7)] [1, 2, 4, 6, 7, 8] [2, 4, 6, 7] [I power', .ref 2 0, .ref 4 0, .ref 6 0, .ref 7 0, I ((timesR (Fraction.mk fn_ fd_) (turnF a)).2)] [some (.box [I ((turnF a).Num), I ((turnF a).Den)]), some (.box [I b4_0, I b4_1]), some (.box [I fn_, I fd_]), some (.box [I (((timesR (Fraction.mk fn_ fd_) (turnF a)).1).Num), I (((timesR (Fraction.mk fn_ fd_) (turnF a)).1).Den)])] [Con Tryd.prog 9 [.agg [I fn_, I fd_], .agg [I ((turnF a).Num), I ((turnF a).Den)]] true (.tup [.agg [I (((timesR (Fraction.mk fn_ fd_) (turnF a)).1).Num), I (((timesR (Fraction.mk fn_ fd_) (turnF a)).1).Den)], I ((timesR (Fraction.mk fn_ fd_) (turnF a)).2)]) ∧ ((.agg [I fn_, I fd_] : AV) = .agg [I fn_, I fd_]) ∧ ((.agg [I ((turnF a).Num), I ((turnF a).Den)] : AV) = .agg [I ((turnF a).Num), I ((turnF a).Den)]) ∧ True] (by kernel_rfl) hB ⟨⟨(implTimesFractions_ok (Fraction.mk fn_ fd_) (turnF a)), rfl, rfl, trivial⟩, trivial⟩ ?_
            refine ae_then ?_
            refine aw_seq ?_
            refine aw_seq ?_
            by_cases h6 : ((timesR (Fraction.mk fn_ fd_) (turnF a)).2) = 0
            · have hst := powL_step hp1 (by first | exact if_pos (by assumption) | exact if_neg (by assumption)) h6
              rw [show ((power.natAbs : Int) - power').toNat + 1 = ((power.natAbs : Int) - (power' - 1)).toNat from by omega] at hst
              refine aw_reg [(1, .dec false)] [1, 2, 4, 6, 7, 8, 46] [2, 4, 6, 7] [I power', .ref 2 0, .ref 4 0, .ref 6 0, .ref 7 0, I ((timesR (Fraction.mk fn_ fd_) (turnF a)).2), Bv false] [some (.box [I ((turnF a).Num), I ((turnF a).Den)]), some (.box [I b4_0, I b4_1]), some (.box [I fn_, I fd_]), some (.box [I (((timesR (Fraction.mk fn_ fd_) (turnF a)).1).Num), I (((timesR (Fraction.mk fn_ fd_) (turnF a)).1).Den)])] [¬ (((timesR (Fraction.mk fn_ fd_) (turnF a)).2) ≠ 0)] (by kernel_rfl) hB ⟨(fun hq => hq h6), trivial⟩ ?_
              refine ae_then ?_
              refine aw_false rfl ?_
              refine aw_skip ?_
              refine ae_then ?_
              refine aw_reg [] [1, 2, 4, 6] [2, 4, 6] [I power', .ref 2 0, .ref 4 0, .ref 6 0] [some (.box [I ((turnF a).Num), I ((turnF a).Den)]), some (.box [I b4_0, I b4_1]), some (.box [I (((timesR (Fraction.mk fn_ fd_) (turnF a)).1).Num), I (((timesR (Fraction.mk fn_ fd_) (turnF a)).1).Den)])] [] (by kernel_rfl) hB trivial ?_
              refine ae_block 2 ?_
              refine ae_then ?_
              refine aw_reg [] [1, 2, 4, 6] [2, 4, 6] [I (power' - 1), .ref 2 0, .ref 4 0, .ref 6 0] [some (.box [I ((turnF a).Num), I ((turnF a).Den)]), some (.box [I b4_0, I b4_1]), some (.box [I (((timesR (Fraction.mk fn_ fd_) (turnF a)).1).Num), I (((timesR (Fraction.mk fn_ fd_) (turnF a)).1).Den)])] [inR .i64 (power' - 1)] (by kernel_rfl) hB ⟨(inR_i64 (by omega) (by omega)), trivial⟩ ?_
              exact ae_again _ (by omega) ⟨(power' - 1), ((timesR (Fraction.mk fn_ fd_) (turnF a)).1).Num, ((timesR (Fraction.mk fn_ fd_) (turnF a)).1).Den, b4_0, b4_1, rfl, (by omega), (by exact hst), rfl⟩
            · have hfail := powL_stop hp1 (by first | exact if_pos (by assumption) | exact if_neg (by assumption)) h6 (m := power.natAbs) (by omega)
              have hz := timesR_zero h6
              refine aw_reg [(1, .dec true)] [1, 2, 4, 6, 7, 8, 46] [2, 4, 6, 7] [I power', .ref 2 0, .ref 4 0, .ref 6 0, .ref 7 0, I ((timesR (Fraction.mk fn_ fd_) (turnF a)).2), Bv true] [some (.box [I ((turnF a).Num), I ((turnF a).Den)]), some (.box [I b4_0, I b4_1]), some (.box [I fn_, I fd_]), some (.box [I (((timesR (Fraction.mk fn_ fd_) (turnF a)).1).Num), I (((timesR (Fraction.mk fn_ fd_) (turnF a)).1).Den)])] [((timesR (Fraction.mk fn_ fd_) (turnF a)).2) ≠ 0] (by kernel_rfl) hB ⟨h6, trivial⟩ ?_
              refine ae_then ?_
              refine aw_true rfl ?_
              refine aw_seq ?_
              refine aw_reg [] [4, 5] [4] [.ref 4 0, I ((timesR (Fraction.mk fn_ fd_) (turnF a)).2)] [some (.box [I 0, I 0])] [] (by kernel_rfl) hB trivial ?_
              refine ae_then ?_
              refine aw_ret ?_
              refine ae_ret_then (ae_ret_block (ae_ret_then (ae_ret_then (ae_ret_block (ae_ret_then ?_)))))
              refine ae_ret hB (.tup [.agg [I 0, I 0], I ((timesR (Fraction.mk fn_ fd_) (turnF a)).2)]) (by kernel_rfl) (.inl (by first | (rw [powR_1 (by assumption)]; done) | (rw [powR_2 (by assumption) (by assumption)]; done) | (rw [powR_6 (by assumption) (by assumption) (by constructor <;> assumption)]; done) | (rw [powR_eq (by assumption) (by assumption) (by omega), hp1]; done) | (rw [powR_eq (by assumption) (by assumption) (by omega), hfail, hz]; done))) rfl (fun _ => (by simp [tagged, taggedL]))
          · rw [show ((power.natAbs : Int) - power').toNat = power.natAbs from by omega] at hp1
            refine aw_reg [(1, .dec false)] [1, 2, 4, 6, 36] [2, 4, 6] [I power', .ref 2 0, .ref 4 0, .ref 6 0, Bv false] [some (.box [I ((turnF a).Num), I ((turnF a).Den)]), some (.box [I b4_0, I b4_1]), some (.box [I fn_, I fd_])] [¬ (0 < power')] (by kernel_rfl) hB ⟨h5, trivial⟩ ?_
            refine ae_then ?_
            refine aw_false rfl ?_
            refine aw_exit ?_
            refine ae_exit_then ?_
            refine ae_exit_then ?_
            refine ae_exit_same ?_
            refine ae_then ?_
            refine aw_seq ?_
            refine aw_reg [] [4, 5] [4] [.ref 4 0, I 0] [some (.box [I fn_, I fd_])] [] (by kernel_rfl) hB trivial ?_
            refine ae_then ?_
            refine aw_ret ?_
            refine ae_ret hB (.tup [.agg [I fn_, I fd_], I 0]) (by kernel_rfl) (.inl (by first | (rw [powR_1 (by assumption)]; done) | (rw [powR_2 (by assumption) (by assumption)]; done) | (rw [powR_6 (by assumption) (by assumption) (by constructor <;> assumption)]; done) | (rw [powR_eq (by assumption) (by assumption) (by omega), hp1]; done) | (rw [powR_eq (by assumption) (by assumption) (by omega), hfail, hz]; done))) rfl (fun _ => (by simp [tagged, taggedL]))
      · refine aw_reg [(1, .dec false)] [1, 2, 4, 19] [2, 4] [I power, .ref 2 0, .ref 4 0, Bv false] [some (.box [I a.Num, I a.Den]), some (.box [I 0, I 0])] [¬ (power < 0)] (by kernel_rfl) hB ⟨h3, trivial⟩ ?_
        refine ae_then ?_
        refine aw_false rfl ?_
        refine aw_skip ?_
        refine ae_block 0 ?_
        refine ae_then ?_
        refine aw_seq ?_
        refine aw_seq ?_
        refine aw_reg [(1, .dec false)] [1, 2, 4, 29] [2, 4] [I power, .ref 2 0, .ref 4 0, Bv false] [some (.box [I a.Num, I a.Den]), some (.box [I 0, I 0])] [¬ (power < 0)] (by kernel_rfl) hB ⟨h3, trivial⟩ ?_
        refine ae_then ?_
        refine aw_false rfl ?_
        refine aw_skip ?_
        refine ae_then ?_
        refine aw_seq ?_
        refine aw_reg [(1, .new 6)] [1, 2, 4, 6] [2, 4, 6] [I power, .ref 2 0, .ref 4 0, .ref 6 0] [some (.box [I a.Num, I a.Den]), some (.box [I 0, I 0]), some (.box [I 1, I 1])] [] (by kernel_rfl) hB trivial ?_
        refine ae_then ?_
        refine aw_seq ?_
        refine aw_block ?_
        refine aw_loop (fun gn gσ => ∃ (power' : Int) (fn_ : Int) (fd_ : Int) (b4_0 : Int) (b4_1 : Int), gn = (power').toNat ∧ (0 ≤ power' ∧ power' ≤ (power.natAbs : Int)) ∧ (powL (if power < 0 then turnF a else a) ((power.natAbs : Int) - power').toNat = (Fraction.mk fn_ fd_, 0)) ∧ gσ = mkS [(1, I power'), (2, .ref 2 0), (4, .ref 4 0), (6, .ref 6 0)] [(2, .box [I a.Num, I a.Den]), (4, .box [I b4_0, I b4_1]), (6, .box [I fn_, I fd_])]) ((power).toNat) ⟨power, 1, 1, 0, 0, rfl, (by omega), (by exact powL_at (by omega)), rfl⟩ (fun gn gσ hI => ?_)
        obtain ⟨power', fn_, fd_, b4_0, b4_1, rfl, hi0, hp1, rfl⟩ := hI
        refine aw_seq ?_
        refine aw_seq ?_
        by_cases h7 : 0 < power'
        · refine aw_reg [(1, .dec true)] [1, 2, 4, 6, 36] [2, 4, 6] [I power', .ref 2 0, .ref 4 0, .ref 6 0, Bv true] [some (.box [I a.Num, I a.Den]), some (.box [I b4_0, I b4_1]), some (.box [I fn_, I fd_])] [0 < power'] (by kernel_rfl) hB ⟨h7, trivial⟩ ?_
          refine ae_then ?_
          refine aw_true rfl ?_
          refine aw_skip ?_
          refine ae_then ?_
          refine aw_seq ?_
          refine aw_block ?_
          refine aw_seq ?_
          refine aw_reg [(2, .call [(true, .agg [I fn_, I fd_]), (true, .agg [I a.Num, I a.Den])] true (.tup [.agg [I (((timesR (Fraction.mk fn_ fd_) a).1).Num), I (((timesR (Fraction.mk fn_ fd_) a).1).Den)], I ((timesR (Fraction.mk fn_ fd_) a).2)])), (6, .new 7)] [1, 2, 4, 6, 7, 8] [2, 4, 6, 7] [I power', .ref 2 0, .ref 4 0, .ref 6 0, .ref 7 0, I ((timesR (Fraction.mk fn_ fd_) a).2)] [some (.box [I a.Num, I a.Den]), some (.box [I b4_0, I b4_1]), some (.box [I fn_, I fd_]), some (.box [I (((timesR (Fraction.mk fn_ fd_) a).1).Num), I (((timesR (Fraction.mk fn_ fd_) a).1).Den)])] [Con Tryd.prog 9 [.agg [I fn_, I fd_], .agg [I a.Num, I a.Den]] true (.tup [.agg [I (((timesR (Fraction.mk fn_ fd_) a).1).Num), I (((timesR (Fraction.mk fn_ fd_) a).1).Den)], I ((timesR (Fraction.mk fn_ fd_) a).2)]) ∧ ((.agg [I fn_, I fd_] : AV) = .agg [I fn_, I fd_]) ∧ ((.agg [I a.Num, I a.Den] : AV) = .agg [I a.Num, I a.Den]) ∧ True] (by kernel_rfl) hB ⟨⟨(implTimesFractions_ok (Fraction.mk fn_ fd_) a), rfl, rfl, trivial⟩, trivial⟩ ?_
          refine ae_then ?_
          refine aw_seq ?_
          refine aw_seq ?_
          by_cases h8 : ((timesR (Fraction.mk fn_ fd_) a).2) = 0
          · have hst := powL_step hp1 (by first | exact if_pos (by assumption) | exact if_neg (by assumption)) h8
            rw [show ((power.natAbs : Int) - power').toNat + 1 = ((power.natAbs : Int) - (power' - 1)).toNat from by omega] at hst
            refine aw_reg [(1, .dec false)] [1, 2, 4, 6, 7, 8, 46] [2, 4, 6, 7] [I power', .ref 2 0, .ref 4 0, .ref 6 0, .ref 7 0, I ((timesR (Fraction.mk fn_ fd_) a).2), Bv false] [some (.box [I a.Num, I a.Den]), some (.box [I b4_0, I b4_1]), some (.box [I fn_, I fd_]), some (.box [I (((timesR (Fraction.mk fn_ fd_) a).1).Num), I (((timesR (Fraction.mk fn_ fd_) a).1).Den)])] [¬ (((timesR (Fraction.mk fn_ fd_) a).2) ≠ 0)] (by kernel_rfl) hB ⟨(fun hq => hq h8), trivial⟩ ?_
            refine ae_then ?_
            refine aw_false rfl ?_
            refine aw_skip ?_
            refine ae_then ?_
            refine aw_reg [] [1, 2, 4, 6] [2, 4, 6] [I power', .ref 2 0, .ref 4 0, .ref 6 0] [some (.box [I a.Num, I a.Den]), some (.box [I b4_0, I b4_1]), some (.box [I (((timesR (Fraction.mk fn_ fd_) a).1).Num), I (((timesR (Fraction.mk fn_ fd_) a).1).Den)])] [] (by kernel_rfl) hB trivial ?_
            refine ae_block 2 ?_
            refine ae_then ?_
            refine aw_reg [] [1, 2, 4, 6] [2, 4, 6] [I (power' - 1), .ref 2 0, .ref 4 0, .ref 6 0] [some (.box [I a.Num, I a.Den]), some (.box [I b4_0, I b4_1]), some (.box [I (((timesR (Fraction.mk fn_ fd_) a).1).Num), I (((timesR (Fraction.mk fn_ fd_) a).1).Den)])] [inR .i64 (power' - 1)] (by kernel_rfl) hB ⟨(inR_i64 (by omega) (by omega)), trivial⟩ ?_
            exact ae_again _ (by omega) ⟨(power' - 1), ((timesR (Fraction.mk fn_ fd_) a).1).Num, ((timesR (Fraction.mk fn_ fd_) a).1).Den, b4_0, b4_1, rfl, (by omega), (by exact hst), rfl⟩
          · have hfail := powL_stop hp1 (by first | exact if_pos (by assumption) | exact if_neg (by assumption)) h8 (m := power.natAbs) (by omega)
            have hz := timesR_zero h8
            refine aw_reg [(1, .dec true)] [1, 2, 4, 6, 7, 8, 46] [2, 4, 6, 7] [I power', .ref 2 0, .ref 4 0, .ref 6 0, .ref 7 0, I ((timesR (Fraction.mk fn_ fd_) a).2), Bv true] [some (.box [I a.Num, I a.Den]), some (.box [I b4_0, I b4_1]), some (.box [I fn_, I fd_]), some (.box [I (((timesR (Fraction.mk fn_ fd_) a).1).Num), I (((timesR (Fraction.mk fn_ fd_) a).1).Den)])] [((timesR (Fraction.mk fn_ fd_) a).2) ≠ 0] (by kernel_rfl) hB ⟨h8, trivial⟩ ?_
            refine ae_then ?_
            refine aw_true rfl ?_
            refine aw_seq ?_
            refine aw_reg [] [4, 5] [4] [.ref 4 0, I ((timesR (Fraction.mk fn_ fd_) a).2)] [some (.box [I 0, I 0])] [] (by kernel_rfl) hB trivial ?_
            refine ae_then ?_
            refine aw_ret ?_
            refine ae_ret_then (ae_ret_block (ae_ret_then (ae_ret_then (ae_ret_block (ae_ret_then ?_)))))
            refine ae_ret hB (.tup [.agg [I 0, I 0], I ((timesR (Fraction.mk fn_ fd_) a).2)]) (by kernel_rfl) (.inl (by first | (rw [powR_1 (by assumption)]; done) | (rw [powR_2 (by assumption) (by assumption)]; done) | (rw [powR_6 (by assumption) (by assumption) (by constructor <;> assumption)]; done) | (rw [powR_eq (by assumption) (by assumption) (by omega), hp1]; done) | (rw [powR_eq (by assumption) (by assumption) (by omega), hfail, hz]; done))) rfl (fun _ => (by simp [tagged, taggedL]))
        · rw [show ((power.natAbs : Int) - power').toNat = power.natAbs from by omega] at hp1
          refine aw_reg [(1, .dec false)] [1, 2, 4, 6, 36] [2, 4, 6] [I power', .ref 2 0, .ref 4 0, .ref 6 0, Bv false] [some (.box [I a.Num, I a.Den]), some (.box [I b4_0, I b4_1]), some (.box [I fn_, I fd_])] [¬ (0 < power')] (by kernel_rfl) hB ⟨h7, trivial⟩ ?_
          refine ae_then ?_
          refine aw_false rfl ?_
          refine aw_exit ?_
          refine ae_exit_then ?_
          refine ae_exit_then ?_
          refine ae_exit_same ?_
          refine ae_then ?_
          refine aw_seq ?_
          refine aw_reg [] [4, 5] [4] [.ref 4 0, I 0] [some (.box [I fn_, I fd_])] [] (by kernel_rfl) hB trivial ?_
          refine ae_then ?_
          refine aw_ret ?_
          refine ae_ret hB (.tup [.agg [I fn_, I fd_], I 0]) (by kernel_rfl) (.inl (by first | (rw [powR_1 (by assumption)]; done) | (rw [powR_2 (by assumption) (by assumption)]; done) | (rw [powR_6 (by assumption) (by assumption) (by constructor <;> assumption)]; done) | (rw [powR_eq (by assumption) (by assumption) (by omega), hp1]; done) | (rw [powR_eq (by assumption) (by assumption) (by omega), hfail, hz]; done))) rfl (fun _ => (by simp [tagged, taggedL]))
    · have hinh2 := (not_congr inB_iff).1 (Bool.eq_false_iff.1 h2)
      refine aw_reg [(1, .call [(true, I power), (true, I (-20)), (true, I 20)] true (Bv false))] [1, 2, 4, 14] [2, 4] [I power, .ref 2 0, .ref 4 0, Bv true] [some (.box [I a.Num, I a.Den]), some (.box [I 0, I 0])] [Con Tryd.prog 41 [I power, I (-20), I 20] true (Bv false) ∧ ((I power : AV) = I power) ∧ ((I (-20) : AV) = I (-20)) ∧ ((I 20 : AV) = I 20) ∧ True] (by kernel_rfl) hB ⟨⟨(con_bool h2 (within_ok power (-20) 20)), rfl, rfl, rfl, trivial⟩, trivial⟩ ?_
      refine ae_then ?_
      refine aw_true rfl ?_
      refine aw_seq ?_
      refine aw_reg [] [4, 5] [4] [.ref 4 0, I 2] [some (.box [I 0, I 0])] [] (by kernel_rfl) hB trivial ?_
      refine ae_then ?_
      refine aw_ret ?_
      refine ae_ret_block (ae_ret_then ?_)
      refine ae_ret hB (.tup [.agg [I 0, I 0], I 2]) (by kernel_rfl) (.inl (by first | (rw [powR_1 (by assumption)]; done) | (rw [powR_2 (by assumption) (by assumption)]; done) | (rw [powR_6 (by assumption) (by assumption) (by constructor <;> assumption)]; done) | (rw [powR_eq (by assumption) (by assumption) (by omega), hp1]; done) | (rw [powR_eq (by assumption) (by assumption) (by omega), hfail, hz]; done))) rfl (fun _ => (by simp [tagged, taggedL]))
  · refine aw_reg [(1, .call [(true, .agg [I a.Num, I a.Den])] true (Bv false))] [1, 2, 4, 9] [2, 4] [I power, .ref 2 0, .ref 4 0, Bv true] [some (.box [I a.Num, I a.Den]), some (.box [I 0, I 0])] [Con Tryd.prog 20 [.agg [I a.Num, I a.Den]] true (Bv false) ∧ ((.agg [I a.Num, I a.Den] : AV) = .agg [I a.Num, I a.Den]) ∧ True] (by kernel_rfl) hB ⟨⟨(con_bool h1 (ValidFraction_ok a)), rfl, trivial⟩, trivial⟩ ?_
    refine ae_then ?_
    refine aw_true rfl ?_
    refine aw_seq ?_
    refine aw_reg [] [4, 5] [4] [.ref 4 0, I 1] [some (.box [I 0, I 0])] [] (by kernel_rfl) hB trivial ?_
    refine ae_then ?_
    refine aw_ret ?_
    refine ae_ret_block (ae_ret_then ?_)
    refine ae_ret hB (.tup [.agg [I 0, I 0], I 1]) (by kernel_rfl) (.inl (by first | (rw [powR_1 (by assumption)]; done) | (rw [powR_2 (by assumption) (by assumption)]; done) | (rw [powR_6 (by assumption) (by assumption) (by constructor <;> assumption)]; done) | (rw [powR_eq (by assumption) (by assumption) (by omega), hp1]; done) | (rw [powR_eq (by assumption) (by assumption) (by omega), hfail, hz]; done))) rfl (fun _ => (by simp [tagged, taggedL]))


-- spec.l22Turn
theorem l22Turn_ok (a : Fraction) (ha : okFr a = true) : Con Tryd.prog 44 [.agg [I a.Num, I a.Den]] true (.agg [I ((turnF a).Num), I ((turnF a).Den)]) := by
  have fA_ := okFr_iff.1 ha
  refine fn_ok (fn := Tryd.f44) (nt := 18) Tryd.func44 rfl rfl rfl rfl (by simp [taggedL, tagged]) fun B hB => ?_
  refine aw_seq ?_
  refine aw_reg [(0, .new 1), (1, .new 2)] [1, 2] [1, 2] [.ref 1 0, .ref 2 0] [some (.box [I a.Num, I a.Den]), some (.box [I 0, I 0])] [] (by kernel_rfl) hB trivial ?_
  refine ae_then ?_
  refine aw_seq ?_
  refine aw_seq ?_
  by_cases h1 : a.Num < 0
  · refine aw_reg [(2, .dec true)] [1, 2, 5] [1, 2] [.ref 1 0, .ref 2 0, Bv true] [some (.box [I a.Num, I a.Den]), some (.box [I 0, I 0])] [a.Num < 0] (by kernel_rfl) hB ⟨h1, trivial⟩ ?_
    refine ae_then ?_
    refine aw_true rfl ?_
    refine aw_seq ?_
    refine aw_reg [] [2] [2] [.ref 2 0] [some (.box [I (-a.Den), I (-a.Num)])] [inR .i64 (-a.Den), inR .i64 (-a.Num)] (by kernel_rfl) hB ⟨(inR_i64 (by omega) (by omega)), (inR_i64 (by omega) (by omega)), trivial⟩ ?_
    refine ae_then ?_
    refine aw_ret ?_
    refine ae_ret_then ?_
    refine ae_ret hB (.agg [I (-a.Den), I (-a.Num)]) (by kernel_rfl) (.inl (by simp [turnF, *])) rfl (fun _ => (by simp [tagged, taggedL]))
  · refine aw_reg [(2, .dec false)] [1, 2, 5] [1, 2] [.ref 1 0, .ref 2 0, Bv false] [some (.box [I a.Num, I a.Den]), some (.box [I 0, I 0])] [¬ (a.Num < 0)] (by kernel_rfl) hB ⟨h1, trivial⟩ ?_
    refine ae_then ?_
    refine aw_false rfl ?_
    refine aw_skip ?_
    refine ae_then ?_
    refine aw_seq ?_
    refine aw_reg [] [2] [2] [.ref 2 0] [some (.box [I a.Den, I a.Num])] [] (by kernel_rfl) hB trivial ?_
    refine ae_then ?_
    refine aw_ret ?_
    refine ae_ret hB (.agg [I a.Den, I a.Num]) (by kernel_rfl) (.inl (by simp [turnF, *])) rfl (fun _ => (by simp [tagged, taggedL]))

end Go.Proofs.YtngmfpjhlcfapaaDoor.Ax
