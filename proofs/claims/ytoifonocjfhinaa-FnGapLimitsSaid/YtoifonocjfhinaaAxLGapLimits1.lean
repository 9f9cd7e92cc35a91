/- Contracts that the statement FnGapLimits reaches, part 1. No conditions. -/
import Derived.Test.YtoifonocjfhinaaAxO
import Derived.Test.YtoifonocjfhinaaShelf
import Derived.Test.YtoifonocjfhinaaAxS
import Derived.Test.YtoifonocjfhinaaSortShelf
namespace Go.Proofs.Ytoifonocjfhinaa.Ax
open Go.RowKit Go.ChangeShapes Go.WideShapes
set_option linter.unusedVariables false
set_option linter.unusedSimpArgs false


def cU8 (x : Int) : List AV := [.val (.int .u8 x)]
def fU8 (xs : List Int) (i : Nat) : List AV := cU8 (at_ xs i)
def slU8 (fr : Bool) (xs : List Int) : AV := .sl fr 1 xs.length (fU8 xs)
theorem tagcU8 (t : Bool) (x : Int) : taggedL t (cU8 x) := by simp [cU8, taggedL, tagged]
theorem tagU8 (t : Bool) (xs : List Int) : tagged t (slU8 t xs) := by simp only [slU8, tagged]; exact ⟨trivial, fun i _ => tagcU8 t _⟩
theorem lenU8 (fr : Bool) (xs : List Int) : lenA noOb (slU8 fr xs) = some xs.length := rfl
def cI (x : Int) : List AV := [I x]
def fI (xs : List Int) (i : Nat) : List AV := cI (at_ xs i)
def slI (fr : Bool) (xs : List Int) : AV := .sl fr 1 xs.length (fI xs)
theorem tagcI (t : Bool) (x : Int) : taggedL t (cI x) := by simp [cI, taggedL, tagged]
theorem tagI (t : Bool) (xs : List Int) : tagged t (slI t xs) := by simp only [slI, tagged]; exact ⟨trivial, fun i _ => tagcI t _⟩
theorem lenI (fr : Bool) (xs : List Int) : lenA noOb (slI fr xs) = some xs.length := rfl
def cLU8 (fr : Bool) (x : List Int) : List AV := [slU8 fr x]
def fLU8 (fr : Bool) (xs : List (List Int)) (i : Nat) : List AV := cLU8 fr (at_ xs i)
def slLU8 (fr : Bool) (xs : List (List Int)) : AV := .sl fr 1 xs.length (fLU8 fr xs)
theorem tagcLU8 (t : Bool) (x : List Int) : taggedL t (cLU8 t x) := by simp [cLU8, taggedL, tagged, tagU8]
theorem tagLU8 (t : Bool) (xs : List (List Int)) : tagged t (slLU8 t xs) := by simp only [slLU8, tagged]; exact ⟨trivial, fun i _ => tagcLU8 t _⟩
theorem lenLU8 (fr : Bool) (xs : List (List Int)) : lenA noOb (slLU8 fr xs) = some xs.length := rfl
theorem idsLU8 (fr : Bool) (x : List Int) : AV.idsL (cLU8 fr x) = [] := rfl
theorem leLU8 (fr : Bool) (x : List Int) (ob : Nat → Option Ob) : leL ob false (cLU8 fr x) (cLU8 false x) := (And.intro (And.intro (fun h => by cases h) (And.intro rfl (And.intro rfl (fun i _ => .inl rfl)))) rfl)
def cU64 (x : Int) : List AV := [.val (.int .u64 x)]
def fU64 (xs : List Int) (i : Nat) : List AV := cU64 (at_ xs i)
def slU64 (fr : Bool) (xs : List Int) : AV := .sl fr 1 xs.length (fU64 xs)
theorem tagcU64 (t : Bool) (x : Int) : taggedL t (cU64 x) := by simp [cU64, taggedL, tagged]
theorem tagU64 (t : Bool) (xs : List Int) : tagged t (slU64 t xs) := by simp only [slU64, tagged]; exact ⟨trivial, fun i _ => tagcU64 t _⟩
theorem lenU64 (fr : Bool) (xs : List Int) : lenA noOb (slU64 fr xs) = some xs.length := rfl
structure l00Src where
  code : List Int
  atx : Int
  seed : Int
deriving DecidableEq, Inhabited
def cl00Src (fr : Bool) (x : l00Src) : List AV := [slU8 fr x.code, I x.atx, .val (.int .u64 x.seed)]
def fl00Src (fr : Bool) (xs : List l00Src) (i : Nat) : List AV := cl00Src fr (at_ xs i)
def sll00Src (fr : Bool) (xs : List l00Src) : AV := .sl fr 3 xs.length (fl00Src fr xs)
theorem tagcl00Src (t : Bool) (x : l00Src) : taggedL t (cl00Src t x) := by simp [cl00Src, taggedL, tagged, tagU8]
theorem tagl00Src (t : Bool) (xs : List l00Src) : tagged t (sll00Src t xs) := by simp only [sll00Src, tagged]; exact ⟨trivial, fun i _ => tagcl00Src t _⟩
theorem lenl00Src (fr : Bool) (xs : List l00Src) : lenA noOb (sll00Src fr xs) = some xs.length := rfl
theorem idsl00Src (fr : Bool) (x : l00Src) : AV.idsL (cl00Src fr x) = [] := rfl
theorem lel00Src (fr : Bool) (x : l00Src) (ob : Nat → Option Ob) : leL ob false (cl00Src fr x) (cl00Src false x) := (And.intro (And.intro (fun h => by cases h) (And.intro rfl (And.intro rfl (fun i _ => .inl rfl)))) (And.intro rfl (And.intro rfl rfl)))
abbrev bxl00Src (x : l00Src) : Ob := .box [slU8 false x.code, I x.atx, .val (.int .u64 x.seed)]
abbrev agl00Src (x : l00Src) : AV := .agg [slU8 false x.code, I x.atx, .val (.int .u64 x.seed)]
abbrev bxl00SrcT (x : l00Src) : Ob := .box [slU8 true x.code, I x.atx, .val (.int .u64 x.seed)]
abbrev agl00SrcT (x : l00Src) : AV := .agg [slU8 true x.code, I x.atx, .val (.int .u64 x.seed)]
structure Box where
  X1 : Int
  Y1 : Int
  X2 : Int
  Y2 : Int
deriving DecidableEq, Inhabited
def cBox (x : Box) : List AV := [I x.X1, I x.Y1, I x.X2, I x.Y2]
def fBox (xs : List Box) (i : Nat) : List AV := cBox (at_ xs i)
def slBox (fr : Bool) (xs : List Box) : AV := .sl fr 4 xs.length (fBox xs)
theorem tagcBox (t : Bool) (x : Box) : taggedL t (cBox x) := by simp [cBox, taggedL, tagged]
theorem tagBox (t : Bool) (xs : List Box) : tagged t (slBox t xs) := by simp only [slBox, tagged]; exact ⟨trivial, fun i _ => tagcBox t _⟩
theorem lenBox (fr : Bool) (xs : List Box) : lenA noOb (slBox fr xs) = some xs.length := rfl
abbrev bxBox (x : Box) : Ob := .box [I x.X1, I x.Y1, I x.X2, I x.Y2]
abbrev agBox (x : Box) : AV := .agg [I x.X1, I x.Y1, I x.X2, I x.Y2]

-- laws.f6big
theorem f6big_ok (code : List Int) : Con Try.prog 19 [slU8 false code] true (Bv (decide (4096 < (code.length : Int)))) := by
  refine fn_ok (fn := Try.f19) (nt := 6) Try.func19 rfl rfl rfl rfl (by simp [taggedL, tagged, tagU8]) fun B hB => ?_
  refine aw_lens (x := slU8 false code) 0 rfl (fun len_code => ?_)
  simp [LenOK, LenL, cU8, fU8, slU8] at len_code
  refine aw_seq ?_
  refine aw_reg [] [0] [] [slU8 false code] [] [] (by kernel_rfl) hB trivial ?_
  refine ae_then ?_
  refine aw_seq ?_
  refine aw_reg [] [2] [] [Bv (decide (4096 < (code.length : Int)))] [] [] (by kernel_rfl) hB trivial ?_
  refine ae_then ?_
  refine aw_ret ?_
  refine ae_ret hB (Bv (decide (4096 < (code.length : Int)))) (by kernel_rfl) (.inl rfl) rfl (fun _ => trivial)


theorem set_at {α : Type} [Inhabited α] {ys xs : List α} {i : Int} (hl : ys.length = xs.length) (hi : i.toNat < xs.length) (h : ∀ j : Nat, (j : Int) < i → at_ ys j = at_ xs j) (j : Nat) (hj : j ≤ i.toNat) : at_ (ys.set i.toNat (at_ xs i.toNat)) j = at_ xs j := by
  by_cases e : i.toNat = j
  · subst e; simp [at_, hl, hi]
  · have := h j (by omega)
    simp only [at_] at this ⊢
    rw [← this]
    simp [e]
/-- Whether two things are the same. -/
def same {α : Type} [DecidableEq α] (x y : α) : Bool := decide (x = y)
theorem same_iff {α : Type} [DecidableEq α] {x y : α} : same x y = true ↔ x = y := by simp [same]
theorem ext_at {α : Type} [Inhabited α] {xs ys : List α} (hl : xs.length = ys.length) (h : ∀ j : Nat, j < xs.length → at_ xs j = at_ ys j) : xs = ys := by
  apply List.ext_getElem hl
  intro i h1 h2
  rw [← at_eq h1, ← at_eq h2]
  exact h i h1

theorem at_mem {α : Type} [Inhabited α] {xs : List α} {i : Nat} (h : i < xs.length) : at_ xs i ∈ xs := by rw [at_eq h]; exact List.getElem_mem h

/-- Whether p holds of all numbers below n. -/
def allN (n : Nat) (p : Nat → Bool) : Bool := (List.range n).all p
def anyN (n : Nat) (p : Nat → Bool) : Bool := !(allN n fun j => !(p j))
theorem allN_iff {n : Nat} {p : Nat → Bool} : allN n p = true ↔ ∀ j, j < n → p j = true := by simp [allN, List.all_eq_true]
theorem allN_at {n : Nat} {p : Nat → Bool} (h : ∀ j, j < n → p j = true) : allN n p = true := allN_iff.2 h
theorem allN_get {n : Nat} {p : Nat → Bool} (h : allN n p = true) {k : Nat} (hk : k < n) : p k = true := allN_iff.1 h k hk
theorem allN_not {n : Nat} {p : Nat → Bool} {k : Nat} (hk : k < n) (h : p k = false) : allN n p = false := by
  rw [← Bool.not_eq_true, allN_iff]; intro h'; rw [h' k hk] at h; cases h
theorem anyN_not (n : Nat) (p : Nat → Bool) : anyN n (fun j => !(p j)) = !(allN n p) := by simp [anyN]
theorem anyN_at {n : Nat} {p : Nat → Bool} {k : Nat} (hk : k < n) (h : p k = true) : anyN n p = true := by
  unfold anyN; rw [allN_not hk (by simp [h])]; rfl
theorem anyN_none {n : Nat} {p : Nat → Bool} (h : ∀ j, j < n → p j = false) : anyN n p = false := by
  unfold anyN; rw [allN_at (fun j hj => by simp [h j hj])]; rfl
theorem anyN_iff {n : Nat} {p : Nat → Bool} : anyN n p = true ↔ ∃ j, j < n ∧ p j = true := by
  constructor
  · intro h
    apply Classical.byContradiction
    intro hn
    rw [anyN_none (fun j hj => by rw [← Bool.not_eq_true]; exact fun hp => hn ⟨j, hj, hp⟩)] at h
    cases h
  · rintro ⟨j, hj, hp⟩; exact anyN_at hj hp
theorem up_to {n : Int} {p : Nat → Prop} {i : Int} (hi : 0 ≤ i) (h : ∀ j : Nat, (j : Int) < i → p j) (hp : p i.toNat) : ∀ j : Nat, (j : Int) < i + 1 → p j := fun j hj => by
  by_cases e : j = i.toNat
  · subst e; exact hp
  · exact h j (by omega)

/-- The source of choices is in order: its bytes are bytes, and its place is a number. -/
def okSrc (s : l00Src) : Prop := (∀ j, j < s.code.length → 0 ≤ at_ s.code j ∧ at_ s.code j ≤ 255) ∧ 0 ≤ s.atx ∧ s.code.length ≤ 4611686018427387904
theorem u64_wrap (n : Int) : 0 ≤ IntKind.u64.wrap n ∧ IntKind.u64.wrap n ≤ 18446744073709551615 := by
  simp only [IntKind.wrap, IntKind.signed, IntKind.bits]
  simp
  omega
theorem and_255 (a : Int) : 0 ≤ bitsI .and .u64 a 255 ∧ bitsI .and .u64 a 255 ≤ 255 := by
  obtain ⟨n, hn⟩ : ∃ n : Nat, n = (BitVec.ofInt 64 a &&& BitVec.ofInt 64 255).toNat := ⟨_, rfl⟩
  have h : n ≤ 255 := by rw [hn, BitVec.toNat_and]; exact Nat.and_le_right
  have e : bitsI .and .u64 a 255 = IntKind.u64.wrap (n : Int) := by rw [hn]; rfl
  have w : IntKind.u64.wrap (n : Int) = n := wrap_in (inR_u64 (by omega) (by omega))
  rw [e, w]; omega

-- spec.l00From
theorem l00From_ok (code : List Int) : ∃ (s' : l00Src), (s'.code = code ∧ s'.atx = 0) ∧ CallOK Try.prog 48 [slU8 false code] (lookO []) false (.ref 7001 0) (lookO [(7001, bxl00Src s')]) := by
  have hh : ∃ r : l00Src, ((r.code = code ∧ r.atx = 0) ∧ (True)) ∧ CallOK Try.prog 48 [slU8 false code] (lookO []) false (.ref 7001 0) (lookO [(7001, bxl00Src r)]) := by
    refine fn_okX (Φ := fun r : l00Src => (r.code = code ∧ r.atx = 0) ∧ (True)) [] (fun r => [(7001, bxl00Src r)]) (fn := Try.f48) (nt := 6) Try.func48 rfl rfl (args := [slU8 false code]) rfl (allcons (.inl ⟨rfl, tagU8 false _⟩) allnil) (res := fun r => .ref 7001 0) ?_
    refine x_seq ?_
    refine x_reg [] [0] [] [slU8 false code] [] [] (by kernel_rfl) trivial ?_
    refine xe_then ?_
    refine x_seq ?_
    refine x_reg [(2, .new 7001)] [2] [7001] [.ref 7001 0] [some (.box [slU8 false code, I 0, .val (.int .u64 0)])] [] (by kernel_rfl) trivial ?_
    refine xe_then ?_
    refine x_ret ?_
    refine xe_end (l00Src.mk code 0 0) (show ((l00Src.mk code 0 0).code = code ∧ (l00Src.mk code 0 0).atx = 0) ∧ (True) from ⟨(by first | rfl | (exact ⟨rfl, rfl⟩)), trivial⟩) (⟨.inl rfl, trivial⟩) (.ref 7001 0) (by kernel_rfl) (.inl rfl) (fun h => by cases h) (fun h => by cases h)
  obtain ⟨s', ⟨hh0, _⟩, hc⟩ := hh
  exact ⟨s', hh0, hc⟩


-- spec.l00Src).next
theorem next_ok (s : l00Src) (hs : okSrc s) (ha : s.atx ≤ 4000000000000000000) : ∃ (v : Int) (s' : l00Src), (0 ≤ v ∧ v ≤ 255) ∧ (okSrc s') ∧ (s'.code = s.code) ∧ (s.atx + 1 ≤ s'.atx ∧ s'.atx ≤ s.atx + 1) ∧ CallOK Try.prog 108 [.ref 7001 0] (lookO [(7001, bxl00Src s)]) true (I v) (lookO [(7001, bxl00Src s')]) := by
  have hs0 := hs.2.1
  have hs1 := hs.2.2
  have hh : ∃ r : Int × l00Src, ((0 ≤ r.1 ∧ r.1 ≤ 255) ∧ (okSrc r.2) ∧ (r.2.code = s.code) ∧ (s.atx + 1 ≤ r.2.atx ∧ r.2.atx ≤ s.atx + 1) ∧ (True)) ∧ CallOK Try.prog 108 [.ref 7001 0] (lookO [(7001, bxl00Src s)]) true (I r.1) (lookO [(7001, bxl00Src r.2)]) := by
    refine fn_okX (Φ := fun r : Int × l00Src => (0 ≤ r.1 ∧ r.1 ≤ 255) ∧ (okSrc r.2) ∧ (r.2.code = s.code) ∧ (s.atx + 1 ≤ r.2.atx ∧ r.2.atx ≤ s.atx + 1) ∧ (True)) [(7001, bxl00Src s)] (fun r => [(7001, bxl00Src r.2)]) (fn := Try.f108) (nt := 62) Try.func108 rfl rfl (args := [.ref 7001 0]) rfl (allcons (.inr trivial) allnil) (res := fun r => I r.1) ?_
    refine x_seq ?_
    refine x_reg [] [0] [7001] [.ref 7001 0] [some (bxl00Src s)] [] (by kernel_rfl) trivial ?_
    refine xe_then ?_
    refine x_seq ?_
    refine x_reg [] [0, 3] [7001] [.ref 7001 0, I 0] [some (bxl00Src s)] [] (by kernel_rfl) trivial ?_
    refine xe_then ?_
    refine x_seq ?_
    refine x_seq ?_
    by_cases h1 : s.atx < (s.code.length : Int)
    ·have hbt := hs.1 s.atx.toNat (by omega)
     refine x_reg [(9, .dec true)] [0, 3, 13] [7001] [.ref 7001 0, I 0, Bv true] [some (bxl00Src s)] [s.atx < (s.code.length : Int)] (by kernel_rfl) ⟨h1, trivial⟩ ?_
     refine xe_then ?_
     refine x_true rfl ?_
     refine x_reg [] [0, 3] [7001] [.ref 7001 0, I (at_ s.code s.atx.toNat)] [some (bxl00Src s)] [(0 : Int) ≤ s.atx ∧ s.atx < (s.code.length : Int), inR .i64 (at_ s.code s.atx.toNat)] (by kernel_rfl) ⟨⟨(by omega), (by omega)⟩, (inR_i64 (by omega) (by omega)), trivial⟩ ?_
     refine xe_then ?_
     refine x_seq ?_
     refine x_reg [] [0, 3] [7001] [.ref 7001 0, I (at_ s.code s.atx.toNat)] [some (.box [slU8 false s.code, I (s.atx + 1), .val (.int .u64 s.seed)])] [inR .i64 (s.atx + 1)] (by kernel_rfl) ⟨(inR_i64 (by omega) (by omega)), trivial⟩ ?_
     refine xe_then ?_
     refine x_seq ?_
     refine x_reg [(5, .wrap), (8, .wrap), (9, .wrap)] [0, 3] [7001] [.ref 7001 0, I (at_ s.code s.atx.toNat)] [some (.box [slU8 false s.code, I (s.atx + 1), .val (.int .u64 (IntKind.u64.wrap ((IntKind.u64.wrap ((IntKind.u64.wrap (s.seed * 6364136223846793005)) + (at_ s.code s.atx.toNat))) + 1442695040888963407)))])] [inR .u64 (at_ s.code s.atx.toNat)] (by kernel_rfl) ⟨(inR_u64 (by omega) (by omega)), trivial⟩ ?_
     refine xe_then ?_
     refine x_seq ?_
     refine x_seq ?_
     by_cases h2 : (s.atx + 1) ≤ (s.code.length : Int)
     ·refine x_reg [(9, .dec true)] [0, 3, 53] [7001] [.ref 7001 0, I (at_ s.code s.atx.toNat), Bv true] [some (.box [slU8 false s.code, I (s.atx + 1), .val (.int .u64 (IntKind.u64.wrap ((IntKind.u64.wrap ((IntKind.u64.wrap (s.seed * 6364136223846793005)) + (at_ s.code s.atx.toNat))) + 1442695040888963407)))])] [(s.atx + 1) ≤ (s.code.length : Int)] (by kernel_rfl) ⟨h2, trivial⟩ ?_
      refine xe_then ?_
      refine x_true rfl ?_
      refine x_seq ?_
      refine x_reg [] [2] [7001] [I (at_ s.code s.atx.toNat)] [some (.box [slU8 false s.code, I (s.atx + 1), .val (.int .u64 (IntKind.u64.wrap ((IntKind.u64.wrap ((IntKind.u64.wrap (s.seed * 6364136223846793005)) + (at_ s.code s.atx.toNat))) + 1442695040888963407)))])] [] (by kernel_rfl) trivial ?_
      refine xe_then ?_
      refine x_ret ?_
      refine xe_ret_then ?_
      refine xe_end ((at_ s.code s.atx.toNat), (l00Src.mk s.code (s.atx + 1) (IntKind.u64.wrap ((IntKind.u64.wrap ((IntKind.u64.wrap (s.seed * 6364136223846793005)) + (at_ s.code s.atx.toNat))) + 1442695040888963407)))) (show (0 ≤ (at_ s.code s.atx.toNat) ∧ (at_ s.code s.atx.toNat) ≤ 255) ∧ (okSrc (l00Src.mk s.code (s.atx + 1) (IntKind.u64.wrap ((IntKind.u64.wrap ((IntKind.u64.wrap (s.seed * 6364136223846793005)) + (at_ s.code s.atx.toNat))) + 1442695040888963407)))) ∧ ((l00Src.mk s.code (s.atx + 1) (IntKind.u64.wrap ((IntKind.u64.wrap ((IntKind.u64.wrap (s.seed * 6364136223846793005)) + (at_ s.code s.atx.toNat))) + 1442695040888963407))).code = s.code) ∧ (s.atx + 1 ≤ (l00Src.mk s.code (s.atx + 1) (IntKind.u64.wrap ((IntKind.u64.wrap ((IntKind.u64.wrap (s.seed * 6364136223846793005)) + (at_ s.code s.atx.toNat))) + 1442695040888963407))).atx ∧ (l00Src.mk s.code (s.atx + 1) (IntKind.u64.wrap ((IntKind.u64.wrap ((IntKind.u64.wrap (s.seed * 6364136223846793005)) + (at_ s.code s.atx.toNat))) + 1442695040888963407))).atx ≤ s.atx + 1) ∧ (True) from ⟨(by first | omega | rfl | assumption | (dsimp only; first | omega | rfl | assumption) | (simp only [*]; done) | exact ⟨hs.1, (by dsimp only; omega), hs1⟩), (by first | omega | rfl | assumption | (dsimp only; first | omega | rfl | assumption) | (simp only [*]; done) | exact ⟨hs.1, (by dsimp only; omega), hs1⟩), (by first | omega | rfl | assumption | (dsimp only; first | omega | rfl | assumption) | (simp only [*]; done) | exact ⟨hs.1, (by dsimp only; omega), hs1⟩), (by first | omega | rfl | assumption | (dsimp only; first | omega | rfl | assumption) | (simp only [*]; done) | exact ⟨hs.1, (by dsimp only; omega), hs1⟩), trivial⟩) (⟨.inl rfl, trivial⟩) (I (at_ s.code s.atx.toNat)) (by kernel_rfl) (.inl rfl) (fun _ => rfl) (fun _ => trivial)
     ·refine x_reg [(9, .dec false)] [0, 3, 53] [7001] [.ref 7001 0, I (at_ s.code s.atx.toNat), Bv false] [some (.box [slU8 false s.code, I (s.atx + 1), .val (.int .u64 (IntKind.u64.wrap ((IntKind.u64.wrap ((IntKind.u64.wrap (s.seed * 6364136223846793005)) + (at_ s.code s.atx.toNat))) + 1442695040888963407)))])] [¬ ((s.atx + 1) ≤ (s.code.length : Int))] (by kernel_rfl) ⟨h2, trivial⟩ ?_
      refine xe_then ?_
      refine x_false rfl ?_
      refine x_skip ?_
      refine xe_then ?_
      refine x_seq ?_
      have hb1 := and_255 ((IntKind.u64.wrap ((IntKind.u64.wrap ((IntKind.u64.wrap (s.seed * 6364136223846793005)) + (at_ s.code s.atx.toNat))) + 1442695040888963407)) / 1099511627776)
      refine x_reg [] [2] [7001] [I (bitsI .and .u64 ((IntKind.u64.wrap ((IntKind.u64.wrap ((IntKind.u64.wrap (s.seed * 6364136223846793005)) + (at_ s.code s.atx.toNat))) + 1442695040888963407)) / 1099511627776) 255)] [some (.box [slU8 false s.code, I (s.atx + 1), .val (.int .u64 (IntKind.u64.wrap ((IntKind.u64.wrap ((IntKind.u64.wrap (s.seed * 6364136223846793005)) + (at_ s.code s.atx.toNat))) + 1442695040888963407)))])] [(0 : Int) ≤ 40 ∧ (40 : Int) ≤ ((IntKind.bits .u64 : Nat) : Int), inR .i64 (bitsI .and .u64 ((IntKind.u64.wrap ((IntKind.u64.wrap ((IntKind.u64.wrap (s.seed * 6364136223846793005)) + (at_ s.code s.atx.toNat))) + 1442695040888963407)) / 1099511627776) 255)] (by kernel_rfl) ⟨⟨(by decide), (by decide)⟩, (inR_i64 (by omega) (by omega)), trivial⟩ ?_
      refine xe_then ?_
      refine x_ret ?_
      refine xe_end ((bitsI .and .u64 ((IntKind.u64.wrap ((IntKind.u64.wrap ((IntKind.u64.wrap (s.seed * 6364136223846793005)) + (at_ s.code s.atx.toNat))) + 1442695040888963407)) / 1099511627776) 255), (l00Src.mk s.code (s.atx + 1) (IntKind.u64.wrap ((IntKind.u64.wrap ((IntKind.u64.wrap (s.seed * 6364136223846793005)) + (at_ s.code s.atx.toNat))) + 1442695040888963407)))) (show (0 ≤ (bitsI .and .u64 ((IntKind.u64.wrap ((IntKind.u64.wrap ((IntKind.u64.wrap (s.seed * 6364136223846793005)) + (at_ s.code s.atx.toNat))) + 1442695040888963407)) / 1099511627776) 255) ∧ (bitsI .and .u64 ((IntKind.u64.wrap ((IntKind.u64.wrap ((IntKind.u64.wrap (s.seed * 6364136223846793005)) + (at_ s.code s.atx.toNat))) + 1442695040888963407)) / 1099511627776) 255) ≤ 255) ∧ (okSrc (l00Src.mk s.code (s.atx + 1) (IntKind.u64.wrap ((IntKind.u64.wrap ((IntKind.u64.wrap (s.seed * 6364136223846793005)) + (at_ s.code s.atx.toNat))) + 1442695040888963407)))) ∧ ((l00Src.mk s.code (s.atx + 1) (IntKind.u64.wrap ((IntKind.u64.wrap ((IntKind.u64.wrap (s.seed * 6364136223846793005)) + (at_ s.code s.atx.toNat))) + 1442695040888963407))).code = s.code) ∧ (s.atx + 1 ≤ (l00Src.mk s.code (s.atx + 1) (IntKind.u64.wrap ((IntKind.u64.wrap ((IntKind.u64.wrap (s.seed * 6364136223846793005)) + (at_ s.code s.atx.toNat))) + 1442695040888963407))).atx ∧ (l00Src.mk s.code (s.atx + 1) (IntKind.u64.wrap ((IntKind.u64.wrap ((IntKind.u64.wrap (s.seed * 6364136223846793005)) + (at_ s.code s.atx.toNat))) + 1442695040888963407))).atx ≤ s.atx + 1) ∧ (True) from ⟨(by first | omega | rfl | assumption | (dsimp only; first | omega | rfl | assumption) | (simp only [*]; done) | exact ⟨hs.1, (by dsimp only; omega), hs1⟩), (by first | omega | rfl | assumption | (dsimp only; first | omega | rfl | assumption) | (simp only [*]; done) | exact ⟨hs.1, (by dsimp only; omega), hs1⟩), (by first | omega | rfl | assumption | (dsimp only; first | omega | rfl | assumption) | (simp only [*]; done) | exact ⟨hs.1, (by dsimp only; omega), hs1⟩), (by first | omega | rfl | assumption | (dsimp only; first | omega | rfl | assumption) | (simp only [*]; done) | exact ⟨hs.1, (by dsimp only; omega), hs1⟩), trivial⟩) (⟨.inl rfl, trivial⟩) (I (bitsI .and .u64 ((IntKind.u64.wrap ((IntKind.u64.wrap ((IntKind.u64.wrap (s.seed * 6364136223846793005)) + (at_ s.code s.atx.toNat))) + 1442695040888963407)) / 1099511627776) 255)) (by kernel_rfl) (.inl rfl) (fun _ => rfl) (fun _ => trivial)
    ·refine x_reg [(9, .dec false)] [0, 3, 13] [7001] [.ref 7001 0, I 0, Bv false] [some (bxl00Src s)] [¬ (s.atx < (s.code.length : Int))] (by kernel_rfl) ⟨h1, trivial⟩ ?_
     refine xe_then ?_
     refine x_false rfl ?_
     refine x_skip ?_
     refine xe_then ?_
     refine x_seq ?_
     refine x_reg [] [0, 3] [7001] [.ref 7001 0, I 0] [some (.box [slU8 false s.code, I (s.atx + 1), .val (.int .u64 s.seed)])] [inR .i64 (s.atx + 1)] (by kernel_rfl) ⟨(inR_i64 (by omega) (by omega)), trivial⟩ ?_
     refine xe_then ?_
     refine x_seq ?_
     refine x_reg [(5, .wrap), (8, .wrap), (9, .wrap)] [0, 3] [7001] [.ref 7001 0, I 0] [some (.box [slU8 false s.code, I (s.atx + 1), .val (.int .u64 (IntKind.u64.wrap ((IntKind.u64.wrap ((IntKind.u64.wrap (s.seed * 6364136223846793005)) + 0)) + 1442695040888963407)))])] [inR .u64 0] (by kernel_rfl) ⟨(inR_u64 (by omega) (by omega)), trivial⟩ ?_
     refine xe_then ?_
     refine x_seq ?_
     refine x_seq ?_
     by_cases h3 : (s.atx + 1) ≤ (s.code.length : Int)
     ·refine x_reg [(9, .dec true)] [0, 3, 53] [7001] [.ref 7001 0, I 0, Bv true] [some (.box [slU8 false s.code, I (s.atx + 1), .val (.int .u64 (IntKind.u64.wrap ((IntKind.u64.wrap ((IntKind.u64.wrap (s.seed * 6364136223846793005)) + 0)) + 1442695040888963407)))])] [(s.atx + 1) ≤ (s.code.length : Int)] (by kernel_rfl) ⟨h3, trivial⟩ ?_
      refine xe_then ?_
      refine x_true rfl ?_
      refine x_seq ?_
      refine x_reg [] [2] [7001] [I 0] [some (.box [slU8 false s.code, I (s.atx + 1), .val (.int .u64 (IntKind.u64.wrap ((IntKind.u64.wrap ((IntKind.u64.wrap (s.seed * 6364136223846793005)) + 0)) + 1442695040888963407)))])] [] (by kernel_rfl) trivial ?_
      refine xe_then ?_
      refine x_ret ?_
      refine xe_ret_then ?_
      refine xe_end (0, (l00Src.mk s.code (s.atx + 1) (IntKind.u64.wrap ((IntKind.u64.wrap ((IntKind.u64.wrap (s.seed * 6364136223846793005)) + 0)) + 1442695040888963407)))) (show (0 ≤ 0 ∧ 0 ≤ 255) ∧ (okSrc (l00Src.mk s.code (s.atx + 1) (IntKind.u64.wrap ((IntKind.u64.wrap ((IntKind.u64.wrap (s.seed * 6364136223846793005)) + 0)) + 1442695040888963407)))) ∧ ((l00Src.mk s.code (s.atx + 1) (IntKind.u64.wrap ((IntKind.u64.wrap ((IntKind.u64.wrap (s.seed * 6364136223846793005)) + 0)) + 1442695040888963407))).code = s.code) ∧ (s.atx + 1 ≤ (l00Src.mk s.code (s.atx + 1) (IntKind.u64.wrap ((IntKind.u64.wrap ((IntKind.u64.wrap (s.seed * 6364136223846793005)) + 0)) + 1442695040888963407))).atx ∧ (l00Src.mk s.code (s.atx + 1) (IntKind.u64.wrap ((IntKind.u64.wrap ((IntKind.u64.wrap (s.seed * 6364136223846793005)) + 0)) + 1442695040888963407))).atx ≤ s.atx + 1) ∧ (True) from ⟨(by first | omega | rfl | assumption | (dsimp only; first | omega | rfl | assumption) | (simp only [*]; done) | exact ⟨hs.1, (by dsimp only; omega), hs1⟩), (by first | omega | rfl | assumption | (dsimp only; first | omega | rfl | assumption) | (simp only [*]; done) | exact ⟨hs.1, (by dsimp only; omega), hs1⟩), (by first | omega | rfl | assumption | (dsimp only; first | omega | rfl | assumption) | (simp only [*]; done) | exact ⟨hs.1, (by dsimp only; omega), hs1⟩), (by first | omega | rfl | assumption | (dsimp only; first | omega | rfl | assumption) | (simp only [*]; done) | exact ⟨hs.1, (by dsimp only; omega), hs1⟩), trivial⟩) (⟨.inl rfl, trivial⟩) (I 0) (by kernel_rfl) (.inl rfl) (fun _ => rfl) (fun _ => trivial)
     ·refine x_reg [(9, .dec false)] [0, 3, 53] [7001] [.ref 7001 0, I 0, Bv false] [some (.box [slU8 false s.code, I (s.atx + 1), .val (.int .u64 (IntKind.u64.wrap ((IntKind.u64.wrap ((IntKind.u64.wrap (s.seed * 6364136223846793005)) + 0)) + 1442695040888963407)))])] [¬ ((s.atx + 1) ≤ (s.code.length : Int))] (by kernel_rfl) ⟨h3, trivial⟩ ?_
      refine xe_then ?_
      refine x_false rfl ?_
      refine x_skip ?_
      refine xe_then ?_
      refine x_seq ?_
      have hb2 := and_255 ((IntKind.u64.wrap ((IntKind.u64.wrap ((IntKind.u64.wrap (s.seed * 6364136223846793005)) + 0)) + 1442695040888963407)) / 1099511627776)
      refine x_reg [] [2] [7001] [I (bitsI .and .u64 ((IntKind.u64.wrap ((IntKind.u64.wrap ((IntKind.u64.wrap (s.seed * 6364136223846793005)) + 0)) + 1442695040888963407)) / 1099511627776) 255)] [some (.box [slU8 false s.code, I (s.atx + 1), .val (.int .u64 (IntKind.u64.wrap ((IntKind.u64.wrap ((IntKind.u64.wrap (s.seed * 6364136223846793005)) + 0)) + 1442695040888963407)))])] [(0 : Int) ≤ 40 ∧ (40 : Int) ≤ ((IntKind.bits .u64 : Nat) : Int), inR .i64 (bitsI .and .u64 ((IntKind.u64.wrap ((IntKind.u64.wrap ((IntKind.u64.wrap (s.seed * 6364136223846793005)) + 0)) + 1442695040888963407)) / 1099511627776) 255)] (by kernel_rfl) ⟨⟨(by decide), (by decide)⟩, (inR_i64 (by omega) (by omega)), trivial⟩ ?_
      refine xe_then ?_
      refine x_ret ?_
      refine xe_end ((bitsI .and .u64 ((IntKind.u64.wrap ((IntKind.u64.wrap ((IntKind.u64.wrap (s.seed * 6364136223846793005)) + 0)) + 1442695040888963407)) / 1099511627776) 255), (l00Src.mk s.code (s.atx + 1) (IntKind.u64.wrap ((IntKind.u64.wrap ((IntKind.u64.wrap (s.seed * 6364136223846793005)) + 0)) + 1442695040888963407)))) (show (0 ≤ (bitsI .and .u64 ((IntKind.u64.wrap ((IntKind.u64.wrap ((IntKind.u64.wrap (s.seed * 6364136223846793005)) + 0)) + 1442695040888963407)) / 1099511627776) 255) ∧ (bitsI .and .u64 ((IntKind.u64.wrap ((IntKind.u64.wrap ((IntKind.u64.wrap (s.seed * 6364136223846793005)) + 0)) + 1442695040888963407)) / 1099511627776) 255) ≤ 255) ∧ (okSrc (l00Src.mk s.code (s.atx + 1) (IntKind.u64.wrap ((IntKind.u64.wrap ((IntKind.u64.wrap (s.seed * 6364136223846793005)) + 0)) + 1442695040888963407)))) ∧ ((l00Src.mk s.code (s.atx + 1) (IntKind.u64.wrap ((IntKind.u64.wrap ((IntKind.u64.wrap (s.seed * 6364136223846793005)) + 0)) + 1442695040888963407))).code = s.code) ∧ (s.atx + 1 ≤ (l00Src.mk s.code (s.atx + 1) (IntKind.u64.wrap ((IntKind.u64.wrap ((IntKind.u64.wrap (s.seed * 6364136223846793005)) + 0)) + 1442695040888963407))).atx ∧ (l00Src.mk s.code (s.atx + 1) (IntKind.u64.wrap ((IntKind.u64.wrap ((IntKind.u64.wrap (s.seed * 6364136223846793005)) + 0)) + 1442695040888963407))).atx ≤ s.atx + 1) ∧ (True) from ⟨(by first | omega | rfl | assumption | (dsimp only; first | omega | rfl | assumption) | (simp only [*]; done) | exact ⟨hs.1, (by dsimp only; omega), hs1⟩), (by first | omega | rfl | assumption | (dsimp only; first | omega | rfl | assumption) | (simp only [*]; done) | exact ⟨hs.1, (by dsimp only; omega), hs1⟩), (by first | omega | rfl | assumption | (dsimp only; first | omega | rfl | assumption) | (simp only [*]; done) | exact ⟨hs.1, (by dsimp only; omega), hs1⟩), (by first | omega | rfl | assumption | (dsimp only; first | omega | rfl | assumption) | (simp only [*]; done) | exact ⟨hs.1, (by dsimp only; omega), hs1⟩), trivial⟩) (⟨.inl rfl, trivial⟩) (I (bitsI .and .u64 ((IntKind.u64.wrap ((IntKind.u64.wrap ((IntKind.u64.wrap (s.seed * 6364136223846793005)) + 0)) + 1442695040888963407)) / 1099511627776) 255)) (by kernel_rfl) (.inl rfl) (fun _ => rfl) (fun _ => trivial)
  obtain ⟨⟨v, s'⟩, ⟨hh0, hh1, hh2, hh3, _⟩, hc⟩ := hh
  exact ⟨v, s', hh0, hh1, hh2, hh3, hc⟩


-- spec.l00Src).pick
theorem pick_ok (s : l00Src) (n : Int) (hs : okSrc s) (ha : s.atx ≤ 3999999999999999990) : ∃ (v : Int) (s' : l00Src), (0 ≤ v ∧ (v < n ∨ v = 0)) ∧ (okSrc s') ∧ (s'.code = s.code) ∧ (s.atx + 0 ≤ s'.atx ∧ s'.atx ≤ s.atx + 2) ∧ CallOK Try.prog 50 [.ref 7001 0, I n] (lookO [(7001, bxl00Src s)]) true (I v) (lookO [(7001, bxl00Src s')]) := by
  have hs0 := hs.2.1
  have hs1 := hs.2.2
  have hh : ∃ r : Int × l00Src, ((0 ≤ r.1 ∧ (r.1 < n ∨ r.1 = 0)) ∧ (okSrc r.2) ∧ (r.2.code = s.code) ∧ (s.atx + 0 ≤ r.2.atx ∧ r.2.atx ≤ s.atx + 2) ∧ (True)) ∧ CallOK Try.prog 50 [.ref 7001 0, I n] (lookO [(7001, bxl00Src s)]) true (I r.1) (lookO [(7001, bxl00Src r.2)]) := by
    refine fn_okX (Φ := fun r : Int × l00Src => (0 ≤ r.1 ∧ (r.1 < n ∨ r.1 = 0)) ∧ (okSrc r.2) ∧ (r.2.code = s.code) ∧ (s.atx + 0 ≤ r.2.atx ∧ r.2.atx ≤ s.atx + 2) ∧ (True)) [(7001, bxl00Src s)] (fun r => [(7001, bxl00Src r.2)]) (fn := Try.f50) (nt := 20) Try.func50 rfl rfl (args := [.ref 7001 0, I n]) rfl (allcons (.inr trivial) (allcons (.inl ⟨rfl, trivial⟩) allnil)) (res := fun r => I r.1) ?_
    refine x_seq ?_
    refine x_reg [] [0, 1] [7001] [.ref 7001 0, I n] [some (bxl00Src s)] [] (by kernel_rfl) trivial ?_
    refine xe_then ?_
    refine x_seq ?_
    refine x_seq ?_
    by_cases h1 : n ≤ 1
    ·refine x_reg [(1, .dec true)] [0, 1, 7] [7001] [.ref 7001 0, I n, Bv true] [some (bxl00Src s)] [n ≤ 1] (by kernel_rfl) ⟨h1, trivial⟩ ?_
     refine xe_then ?_
     refine x_true rfl ?_
     refine x_seq ?_
     refine x_reg [] [4] [7001] [I 0] [some (bxl00Src s)] [] (by kernel_rfl) trivial ?_
     refine xe_then ?_
     refine x_ret ?_
     refine xe_ret_then ?_
     refine xe_end (0, s) (show (0 ≤ 0 ∧ (0 < n ∨ 0 = 0)) ∧ (okSrc s) ∧ (s.code = s.code) ∧ (s.atx + 0 ≤ s.atx ∧ s.atx ≤ s.atx + 2) ∧ (True) from ⟨(by first | omega | rfl | assumption | (dsimp only; first | omega | rfl | assumption) | (simp only [*]; done) | exact ⟨Int.emod_nonneg _ (by omega), .inl (Int.emod_lt_of_pos _ (by omega))⟩), (by first | omega | rfl | assumption | (dsimp only; first | omega | rfl | assumption) | (simp only [*]; done) | exact ⟨Int.emod_nonneg _ (by omega), .inl (Int.emod_lt_of_pos _ (by omega))⟩), (by first | omega | rfl | assumption | (dsimp only; first | omega | rfl | assumption) | (simp only [*]; done) | exact ⟨Int.emod_nonneg _ (by omega), .inl (Int.emod_lt_of_pos _ (by omega))⟩), (by first | omega | rfl | assumption | (dsimp only; first | omega | rfl | assumption) | (simp only [*]; done) | exact ⟨Int.emod_nonneg _ (by omega), .inl (Int.emod_lt_of_pos _ (by omega))⟩), trivial⟩) (⟨.inl rfl, trivial⟩) (I 0) (by kernel_rfl) (.inl rfl) (fun _ => rfl) (fun _ => trivial)
    ·refine x_reg [(1, .dec false)] [0, 1, 7] [7001] [.ref 7001 0, I n, Bv false] [some (bxl00Src s)] [¬ (n ≤ 1)] (by kernel_rfl) ⟨h1, trivial⟩ ?_
     refine xe_then ?_
     refine x_false rfl ?_
     refine x_skip ?_
     refine xe_then ?_
     refine x_seq ?_
     obtain ⟨v_1, s'_1, hx1_0, hx1_1, hx1_2, hx1_3, hc1⟩ := next_ok s (by first | assumption | (simp only [okSrc] at *; simp_all; done)) (by omega)
     refine x_reg [(1, .lend [(7001, bxl00Src s, bxl00Src s'_1)] [] [(true, .ref 7001 0)] true (I v_1))] [0, 1, 5] [7001] [.ref 7001 0, I n, I v_1] [some (bxl00Src s'_1)] [CallOK Try.prog 108 [.ref 7001 0] (lookO [(7001, bxl00Src s)]) true (I v_1) (lookO [(7001, bxl00Src s'_1)]) ∧ ((.ref 7001 0 : AV) = .ref 7001 0) ∧ (((bxl00Src s : Ob) = bxl00Src s ∨ obLe noOb true (bxl00Src s) (bxl00Src s)) ∧ taggedO false (bxl00Src s)) ∧ True] (by kernel_rfl) ⟨⟨hc1, rfl, ⟨.inl rfl, (by simp [taggedO, taggedL, tagged, tagU8])⟩, trivial⟩, trivial⟩ ?_
     refine xe_then ?_
     refine x_seq ?_
     refine x_seq ?_
     by_cases h2 : 200 < n
     ·refine x_reg [(1, .dec true)] [0, 1, 5, 11] [7001] [.ref 7001 0, I n, I v_1, Bv true] [some (bxl00Src s'_1)] [200 < n] (by kernel_rfl) ⟨h2, trivial⟩ ?_
      refine xe_then ?_
      refine x_true rfl ?_
      obtain ⟨v_2, s'_2, hx2_0, hx2_1, hx2_2, hx2_3, hc2⟩ := next_ok s'_1 (by first | assumption | (simp only [okSrc] at *; simp_all; done)) (by omega)
      refine x_reg [(3, .lend [(7001, bxl00Src s'_1, bxl00Src s'_2)] [] [(true, .ref 7001 0)] true (I v_2))] [1, 5] [7001] [I n, I ((v_1 * 256) + v_2)] [some (bxl00Src s'_2)] [inR .i64 (v_1 * 256), CallOK Try.prog 108 [.ref 7001 0] (lookO [(7001, bxl00Src s'_1)]) true (I v_2) (lookO [(7001, bxl00Src s'_2)]) ∧ ((.ref 7001 0 : AV) = .ref 7001 0) ∧ (((bxl00Src s'_1 : Ob) = bxl00Src s'_1 ∨ obLe noOb true (bxl00Src s'_1) (bxl00Src s'_1)) ∧ taggedO false (bxl00Src s'_1)) ∧ True, inR .i64 ((v_1 * 256) + v_2)] (by kernel_rfl) ⟨(inR_i64 (by omega) (by omega)), ⟨hc2, rfl, ⟨.inl rfl, (by simp [taggedO, taggedL, tagged, tagU8])⟩, trivial⟩, (inR_i64 (by omega) (by omega)), trivial⟩ ?_
      refine xe_then ?_
      refine x_seq ?_
      refine x_reg [(2, .nn)] [4] [7001] [I (((v_1 * 256) + v_2) % n)] [some (bxl00Src s'_2)] [(0 : Int) ≤ ((v_1 * 256) + v_2) ∧ (0 : Int) < n] (by kernel_rfl) ⟨⟨(by omega), (by omega)⟩, trivial⟩ ?_
      refine xe_then ?_
      refine x_ret ?_
      refine xe_end ((((v_1 * 256) + v_2) % n), s'_2) (show (0 ≤ (((v_1 * 256) + v_2) % n) ∧ ((((v_1 * 256) + v_2) % n) < n ∨ (((v_1 * 256) + v_2) % n) = 0)) ∧ (okSrc s'_2) ∧ (s'_2.code = s.code) ∧ (s.atx + 0 ≤ s'_2.atx ∧ s'_2.atx ≤ s.atx + 2) ∧ (True) from ⟨(by first | omega | rfl | assumption | (dsimp only; first | omega | rfl | assumption) | (simp only [*]; done) | exact ⟨Int.emod_nonneg _ (by omega), .inl (Int.emod_lt_of_pos _ (by omega))⟩), (by first | omega | rfl | assumption | (dsimp only; first | omega | rfl | assumption) | (simp only [*]; done) | exact ⟨Int.emod_nonneg _ (by omega), .inl (Int.emod_lt_of_pos _ (by omega))⟩), (by first | omega | rfl | assumption | (dsimp only; first | omega | rfl | assumption) | (simp only [*]; done) | exact ⟨Int.emod_nonneg _ (by omega), .inl (Int.emod_lt_of_pos _ (by omega))⟩), (by first | omega | rfl | assumption | (dsimp only; first | omega | rfl | assumption) | (simp only [*]; done) | exact ⟨Int.emod_nonneg _ (by omega), .inl (Int.emod_lt_of_pos _ (by omega))⟩), trivial⟩) (⟨.inl rfl, trivial⟩) (I (((v_1 * 256) + v_2) % n)) (by kernel_rfl) (.inl rfl) (fun _ => rfl) (fun _ => trivial)
     ·refine x_reg [(1, .dec false)] [0, 1, 5, 11] [7001] [.ref 7001 0, I n, I v_1, Bv false] [some (bxl00Src s'_1)] [¬ (200 < n)] (by kernel_rfl) ⟨h2, trivial⟩ ?_
      refine xe_then ?_
      refine x_false rfl ?_
      refine x_skip ?_
      refine xe_then ?_
      refine x_seq ?_
      refine x_reg [(2, .nn)] [4] [7001] [I (v_1 % n)] [some (bxl00Src s'_1)] [(0 : Int) ≤ v_1 ∧ (0 : Int) < n] (by kernel_rfl) ⟨⟨(by omega), (by omega)⟩, trivial⟩ ?_
      refine xe_then ?_
      refine x_ret ?_
      refine xe_end ((v_1 % n), s'_1) (show (0 ≤ (v_1 % n) ∧ ((v_1 % n) < n ∨ (v_1 % n) = 0)) ∧ (okSrc s'_1) ∧ (s'_1.code = s.code) ∧ (s.atx + 0 ≤ s'_1.atx ∧ s'_1.atx ≤ s.atx + 2) ∧ (True) from ⟨(by first | omega | rfl | assumption | (dsimp only; first | omega | rfl | assumption) | (simp only [*]; done) | exact ⟨Int.emod_nonneg _ (by omega), .inl (Int.emod_lt_of_pos _ (by omega))⟩), (by first | omega | rfl | assumption | (dsimp only; first | omega | rfl | assumption) | (simp only [*]; done) | exact ⟨Int.emod_nonneg _ (by omega), .inl (Int.emod_lt_of_pos _ (by omega))⟩), (by first | omega | rfl | assumption | (dsimp only; first | omega | rfl | assumption) | (simp only [*]; done) | exact ⟨Int.emod_nonneg _ (by omega), .inl (Int.emod_lt_of_pos _ (by omega))⟩), (by first | omega | rfl | assumption | (dsimp only; first | omega | rfl | assumption) | (simp only [*]; done) | exact ⟨Int.emod_nonneg _ (by omega), .inl (Int.emod_lt_of_pos _ (by omega))⟩), trivial⟩) (⟨.inl rfl, trivial⟩) (I (v_1 % n)) (by kernel_rfl) (.inl rfl) (fun _ => rfl) (fun _ => trivial)
  obtain ⟨⟨v, s'⟩, ⟨hh0, hh1, hh2, hh3, _⟩, hc⟩ := hh
  exact ⟨v, s', hh0, hh1, hh2, hh3, hc⟩


-- spec.l00Src).one
theorem one_ok (s : l00Src) (n : Int) (hs : okSrc s) (ha : s.atx ≤ 3999999999999999980) : ∃ (v : Bool) (s' : l00Src), (okSrc s') ∧ (s'.code = s.code) ∧ (s.atx + 0 ≤ s'.atx ∧ s'.atx ≤ s.atx + 2) ∧ CallOK Try.prog 51 [.ref 7001 0, I n] (lookO [(7001, bxl00Src s)]) true (Bv v) (lookO [(7001, bxl00Src s')]) := by
  have hh : ∃ r : Bool × l00Src, ((okSrc r.2) ∧ (r.2.code = s.code) ∧ (s.atx + 0 ≤ r.2.atx ∧ r.2.atx ≤ s.atx + 2) ∧ (True)) ∧ CallOK Try.prog 51 [.ref 7001 0, I n] (lookO [(7001, bxl00Src s)]) true (Bv r.1) (lookO [(7001, bxl00Src r.2)]) := by
    refine fn_okX (Φ := fun r : Bool × l00Src => (okSrc r.2) ∧ (r.2.code = s.code) ∧ (s.atx + 0 ≤ r.2.atx ∧ r.2.atx ≤ s.atx + 2) ∧ (True)) [(7001, bxl00Src s)] (fun r => [(7001, bxl00Src r.2)]) (fn := Try.f51) (nt := 9) Try.func51 rfl rfl (args := [.ref 7001 0, I n]) rfl (allcons (.inr trivial) (allcons (.inl ⟨rfl, trivial⟩) allnil)) (res := fun r => Bv r.1) ?_
    refine x_seq ?_
    refine x_reg [] [0, 1] [7001] [.ref 7001 0, I n] [some (bxl00Src s)] [] (by kernel_rfl) trivial ?_
    refine xe_then ?_
    refine x_seq ?_
    obtain ⟨v_1, s'_1, hx1_0, hx1_1, hx1_2, hx1_3, hc1⟩ := pick_ok s n (by first | assumption | (simp only [okSrc] at *; simp_all; done)) (by omega)
    refine x_reg [(2, .lend [(7001, bxl00Src s, bxl00Src s'_1)] [] [(true, .ref 7001 0), (true, I n)] true (I v_1))] [4] [7001] [Bv (decide (v_1 = 0))] [some (bxl00Src s'_1)] [CallOK Try.prog 50 [.ref 7001 0, I n] (lookO [(7001, bxl00Src s)]) true (I v_1) (lookO [(7001, bxl00Src s'_1)]) ∧ ((.ref 7001 0 : AV) = .ref 7001 0) ∧ ((I n : AV) = I n) ∧ (((bxl00Src s : Ob) = bxl00Src s ∨ obLe noOb true (bxl00Src s) (bxl00Src s)) ∧ taggedO false (bxl00Src s)) ∧ True] (by kernel_rfl) ⟨⟨hc1, rfl, rfl, ⟨.inl rfl, (by simp [taggedO, taggedL, tagged, tagU8])⟩, trivial⟩, trivial⟩ ?_
    refine xe_then ?_
    refine x_ret ?_
    refine xe_end (decide (v_1 = 0), s'_1) (show (okSrc s'_1) ∧ (s'_1.code = s.code) ∧ (s.atx + 0 ≤ s'_1.atx ∧ s'_1.atx ≤ s.atx + 2) ∧ (True) from ⟨(by first | omega | rfl | assumption | (dsimp only; first | omega | rfl | assumption) | (simp only [*]; done) | (simp_all; done)), (by first | omega | rfl | assumption | (dsimp only; first | omega | rfl | assumption) | (simp only [*]; done) | (simp_all; done)), (by first | omega | rfl | assumption | (dsimp only; first | omega | rfl | assumption) | (simp only [*]; done) | (simp_all; done)), trivial⟩) (⟨.inl rfl, trivial⟩) (Bv (decide (v_1 = 0))) (by kernel_rfl) (.inl rfl) (fun _ => rfl) (fun _ => trivial)
  obtain ⟨⟨v, s'⟩, ⟨hh0, hh1, hh2, _⟩, hc⟩ := hh
  exact ⟨v, s', hh0, hh1, hh2, hc⟩


-- spec.l00Src).among
theorem among_ok (s : l00Src) (list : List Int) (hs : okSrc s) (ha : s.atx ≤ 3999999999999999980) (hl : 0 < list.length ∧ list.length ≤ 1000) : ∃ (v : Int) (s' : l00Src), (v ∈ list) ∧ (okSrc s') ∧ (s'.code = s.code) ∧ (s.atx + 0 ≤ s'.atx ∧ s'.atx ≤ s.atx + 2) ∧ CallOK Try.prog 92 [.ref 7001 0, slI false list] (lookO [(7001, bxl00Src s)]) true (I v) (lookO [(7001, bxl00Src s')]) := by
  have hh : ∃ r : Int × l00Src, ((r.1 ∈ list) ∧ (okSrc r.2) ∧ (r.2.code = s.code) ∧ (s.atx + 0 ≤ r.2.atx ∧ r.2.atx ≤ s.atx + 2) ∧ (True)) ∧ CallOK Try.prog 92 [.ref 7001 0, slI false list] (lookO [(7001, bxl00Src s)]) true (I r.1) (lookO [(7001, bxl00Src r.2)]) := by
    refine fn_okX (Φ := fun r : Int × l00Src => (r.1 ∈ list) ∧ (okSrc r.2) ∧ (r.2.code = s.code) ∧ (s.atx + 0 ≤ r.2.atx ∧ r.2.atx ≤ s.atx + 2) ∧ (True)) [(7001, bxl00Src s)] (fun r => [(7001, bxl00Src r.2)]) (fn := Try.f92) (nt := 12) Try.func92 rfl rfl (args := [.ref 7001 0, slI false list]) rfl (allcons (.inr trivial) (allcons (.inl ⟨rfl, tagI false _⟩) allnil)) (res := fun r => I r.1) ?_
    refine x_seq ?_
    refine x_reg [] [0, 1] [7001] [.ref 7001 0, slI false list] [some (bxl00Src s)] [] (by kernel_rfl) trivial ?_
    refine xe_then ?_
    refine x_seq ?_
    obtain ⟨v_1, s'_1, hx1_0, hx1_1, hx1_2, hx1_3, hc1⟩ := pick_ok s (list.length : Int) (by first | assumption | (simp only [okSrc] at *; simp_all; done)) (by omega)
    refine x_reg [(4, .lend [(7001, bxl00Src s, bxl00Src s'_1)] [] [(true, .ref 7001 0), (true, I (list.length : Int))] true (I v_1))] [4] [7001] [I (at_ list v_1.toNat)] [some (bxl00Src s'_1)] [CallOK Try.prog 50 [.ref 7001 0, I (list.length : Int)] (lookO [(7001, bxl00Src s)]) true (I v_1) (lookO [(7001, bxl00Src s'_1)]) ∧ ((.ref 7001 0 : AV) = .ref 7001 0) ∧ ((I (list.length : Int) : AV) = I (list.length : Int)) ∧ (((bxl00Src s : Ob) = bxl00Src s ∨ obLe noOb true (bxl00Src s) (bxl00Src s)) ∧ taggedO false (bxl00Src s)) ∧ True, (0 : Int) ≤ v_1 ∧ v_1 < (list.length : Int)] (by kernel_rfl) ⟨⟨hc1, rfl, rfl, ⟨.inl rfl, (by simp [taggedO, taggedL, tagged, tagU8])⟩, trivial⟩, ⟨(by omega), (by omega)⟩, trivial⟩ ?_
    refine xe_then ?_
    refine x_ret ?_
    refine xe_end ((at_ list v_1.toNat), s'_1) (show ((at_ list v_1.toNat) ∈ list) ∧ (okSrc s'_1) ∧ (s'_1.code = s.code) ∧ (s.atx + 0 ≤ s'_1.atx ∧ s'_1.atx ≤ s.atx + 2) ∧ (True) from ⟨(by first | omega | rfl | assumption | (dsimp only; first | omega | rfl | assumption) | (simp only [*]; done) | (exact at_mem (by omega)) | (simp_all; done)), (by first | omega | rfl | assumption | (dsimp only; first | omega | rfl | assumption) | (simp only [*]; done) | (exact at_mem (by omega)) | (simp_all; done)), (by first | omega | rfl | assumption | (dsimp only; first | omega | rfl | assumption) | (simp only [*]; done) | (exact at_mem (by omega)) | (simp_all; done)), (by first | omega | rfl | assumption | (dsimp only; first | omega | rfl | assumption) | (simp only [*]; done) | (exact at_mem (by omega)) | (simp_all; done)), trivial⟩) (⟨.inl rfl, trivial⟩) (I (at_ list v_1.toNat)) (by kernel_rfl) (.inl rfl) (fun _ => rfl) (fun _ => trivial)
  obtain ⟨⟨v, s'⟩, ⟨hh0, hh1, hh2, hh3, _⟩, hc⟩ := hh
  exact ⟨v, s', hh0, hh1, hh2, hh3, hc⟩


-- spec.l19DrawGap
theorem l19DrawGap_ok (s : l00Src) (hs : okSrc s) (ha : s.atx ≤ 3999999999999999940) : ∃ (v : Int) (s' : l00Src), (-1 ≤ v ∧ v ≤ 4096) ∧ (okSrc s') ∧ (s'.code = s.code) ∧ (s.atx + 0 ≤ s'.atx ∧ s'.atx ≤ s.atx + 20) ∧ CallOK Try.prog 71 [.ref 7001 0] (lookO [(7001, bxl00Src s)]) true (I v) (lookO [(7001, bxl00Src s')]) := by
  have hh : ∃ r : Int × l00Src, ((-1 ≤ r.1 ∧ r.1 ≤ 4096) ∧ (okSrc r.2) ∧ (r.2.code = s.code) ∧ (s.atx + 0 ≤ r.2.atx ∧ r.2.atx ≤ s.atx + 20) ∧ (True)) ∧ CallOK Try.prog 71 [.ref 7001 0] (lookO [(7001, bxl00Src s)]) true (I r.1) (lookO [(7001, bxl00Src r.2)]) := by
    refine fn_okX (Φ := fun r : Int × l00Src => (-1 ≤ r.1 ∧ r.1 ≤ 4096) ∧ (okSrc r.2) ∧ (r.2.code = s.code) ∧ (s.atx + 0 ≤ r.2.atx ∧ r.2.atx ≤ s.atx + 20) ∧ (True)) [(7001, bxl00Src s)] (fun r => [(7001, bxl00Src r.2)]) (fn := Try.f71) (nt := 10) Try.func71 rfl rfl (args := [.ref 7001 0]) rfl (allcons (.inr trivial) allnil) (res := fun r => I r.1) ?_
    refine x_seq ?_
    refine x_reg [] [0] [7001] [.ref 7001 0] [some (bxl00Src s)] [] (by kernel_rfl) trivial ?_
    refine xe_then ?_
    refine x_seq ?_
    refine x_seq ?_
    obtain ⟨v_1, s'_1, hx1_0, hx1_1, hx1_2, hc1⟩ := one_ok s 12 (by first | assumption | (simp only [okSrc] at *; simp_all; done)) (by omega)
    rcases Bool.eq_false_or_eq_true v_1 with h1 | h1
    ·subst h1
     refine x_reg [(1, .lend [(7001, bxl00Src s, bxl00Src s'_1)] [] [(true, .ref 7001 0), (true, I 12)] true (Bv true))] [0, 4] [7001] [.ref 7001 0, Bv true] [some (bxl00Src s'_1)] [CallOK Try.prog 51 [.ref 7001 0, I 12] (lookO [(7001, bxl00Src s)]) true (Bv true) (lookO [(7001, bxl00Src s'_1)]) ∧ ((.ref 7001 0 : AV) = .ref 7001 0) ∧ ((I 12 : AV) = I 12) ∧ (((bxl00Src s : Ob) = bxl00Src s ∨ obLe noOb true (bxl00Src s) (bxl00Src s)) ∧ taggedO false (bxl00Src s)) ∧ True] (by kernel_rfl) ⟨⟨hc1, rfl, rfl, ⟨.inl rfl, (by simp [taggedO, taggedL, tagged, tagU8])⟩, trivial⟩, trivial⟩ ?_
     refine xe_then ?_
     refine x_true rfl ?_
     refine x_seq ?_
     obtain ⟨v_2, s'_2, hx2_0, hx2_1, hx2_2, hx2_3, hc2⟩ := among_ok s'_1 ([(-1), 0, 4095, 4096]) (by first | assumption | (simp only [okSrc] at *; simp_all; done)) (by omega) (by simp)
     have ham_v_2 : v_2 = (-1) ∨ v_2 = 0 ∨ v_2 = 4095 ∨ v_2 = 4096 := by simpa using hx2_0
     refine x_reg [(1, .new 6), (2, .lend [(7001, bxl00Src s'_1, bxl00Src s'_2)] [] [(true, .ref 7001 0), (false, slI false ([(-1), 0, 4095, 4096]))] true (I v_2))] [2] [7001] [I v_2] [some (bxl00Src s'_2)] [CallOK Try.prog 92 [.ref 7001 0, slI false ([(-1), 0, 4095, 4096])] (lookO [(7001, bxl00Src s'_1)]) true (I v_2) (lookO [(7001, bxl00Src s'_2)]) ∧ ((.ref 7001 0 : AV) = .ref 7001 0) ∧ ((false = true → true = true) ∧ 1 = 1 ∧ 4 = (([(-1), 0, 4095, 4096]).length) ∧ ∀ i, i < (([(-1), 0, 4095, 4096]).length) → (litF [I (-1), I 0, I 4095, I 4096] 1) i = (fI ([(-1), 0, 4095, 4096])) i ∨ (AV.idsL ((fI ([(-1), 0, 4095, 4096])) i) = [] ∧ leL (fun _ => none) false ((litF [I (-1), I 0, I 4095, I 4096] 1) i) ((fI ([(-1), 0, 4095, 4096])) i))) ∧ (((bxl00Src s'_1 : Ob) = bxl00Src s'_1 ∨ obLe noOb true (bxl00Src s'_1) (bxl00Src s'_1)) ∧ taggedO false (bxl00Src s'_1)) ∧ True] (by kernel_rfl) ⟨⟨hc2, rfl, ⟨(fun h => by cases h), rfl, (by first | rfl | (simp; done) | (simp; omega) | omega), fun i_ hi_ => .inl (match i_, hi_ with | 0, _ => rfl | 1, _ => rfl | 2, _ => rfl | 3, _ => rfl | (i + 4), h => absurd h (by simp))⟩, ⟨.inl rfl, (by simp [taggedO, taggedL, tagged, tagU8])⟩, trivial⟩, trivial⟩ ?_
     refine xe_then ?_
     refine x_ret ?_
     refine xe_ret_then ?_
     refine xe_end (v_2, s'_2) (show (-1 ≤ v_2 ∧ v_2 ≤ 4096) ∧ (okSrc s'_2) ∧ (s'_2.code = s.code) ∧ (s.atx + 0 ≤ s'_2.atx ∧ s'_2.atx ≤ s.atx + 20) ∧ (True) from ⟨(by first | omega | assumption | rfl | (simp; done) | (simp; omega) | (simp_all; done)), (by first | omega | assumption | rfl | (simp; done) | (simp; omega) | (simp_all; done)), (by first | omega | assumption | rfl | (simp; done) | (simp; omega) | (simp_all; done)), (by first | omega | assumption | rfl | (simp; done) | (simp; omega) | (simp_all; done)), trivial⟩) (⟨.inl rfl, trivial⟩) (I v_2) (by kernel_rfl) (.inl rfl) (fun _ => rfl) (fun _ => trivial)
    ·subst h1
     refine x_reg [(1, .lend [(7001, bxl00Src s, bxl00Src s'_1)] [] [(true, .ref 7001 0), (true, I 12)] true (Bv false))] [0, 4] [7001] [.ref 7001 0, Bv false] [some (bxl00Src s'_1)] [CallOK Try.prog 51 [.ref 7001 0, I 12] (lookO [(7001, bxl00Src s)]) true (Bv false) (lookO [(7001, bxl00Src s'_1)]) ∧ ((.ref 7001 0 : AV) = .ref 7001 0) ∧ ((I 12 : AV) = I 12) ∧ (((bxl00Src s : Ob) = bxl00Src s ∨ obLe noOb true (bxl00Src s) (bxl00Src s)) ∧ taggedO false (bxl00Src s)) ∧ True] (by kernel_rfl) ⟨⟨hc1, rfl, rfl, ⟨.inl rfl, (by simp [taggedO, taggedL, tagged, tagU8])⟩, trivial⟩, trivial⟩ ?_
     refine xe_then ?_
     refine x_false rfl ?_
     refine x_skip ?_
     refine xe_then ?_
     refine x_seq ?_
     obtain ⟨v_3, s'_3, hx3_0, hx3_1, hx3_2, hx3_3, hc3⟩ := pick_ok s'_1 40 (by first | assumption | (simp only [okSrc] at *; simp_all; done)) (by omega)
     refine x_reg [(1, .lend [(7001, bxl00Src s'_1, bxl00Src s'_3)] [] [(true, .ref 7001 0), (true, I 40)] true (I v_3))] [2] [7001] [I v_3] [some (bxl00Src s'_3)] [CallOK Try.prog 50 [.ref 7001 0, I 40] (lookO [(7001, bxl00Src s'_1)]) true (I v_3) (lookO [(7001, bxl00Src s'_3)]) ∧ ((.ref 7001 0 : AV) = .ref 7001 0) ∧ ((I 40 : AV) = I 40) ∧ (((bxl00Src s'_1 : Ob) = bxl00Src s'_1 ∨ obLe noOb true (bxl00Src s'_1) (bxl00Src s'_1)) ∧ taggedO false (bxl00Src s'_1)) ∧ True] (by kernel_rfl) ⟨⟨hc3, rfl, rfl, ⟨.inl rfl, (by simp [taggedO, taggedL, tagged, tagU8])⟩, trivial⟩, trivial⟩ ?_
     refine xe_then ?_
     refine x_ret ?_
     refine xe_end (v_3, s'_3) (show (-1 ≤ v_3 ∧ v_3 ≤ 4096) ∧ (okSrc s'_3) ∧ (s'_3.code = s.code) ∧ (s.atx + 0 ≤ s'_3.atx ∧ s'_3.atx ≤ s.atx + 20) ∧ (True) from ⟨(by first | omega | assumption | rfl | (simp; done) | (simp; omega) | (simp_all; done)), (by first | omega | assumption | rfl | (simp; done) | (simp; omega) | (simp_all; done)), (by first | omega | assumption | rfl | (simp; done) | (simp; omega) | (simp_all; done)), (by first | omega | assumption | rfl | (simp; done) | (simp; omega) | (simp_all; done)), trivial⟩) (⟨.inl rfl, trivial⟩) (I v_3) (by kernel_rfl) (.inl rfl) (fun _ => rfl) (fun _ => trivial)
  obtain ⟨⟨v, s'⟩, ⟨hh0, hh1, hh2, hh3, _⟩, hc⟩ := hh
  exact ⟨v, s', hh0, hh1, hh2, hh3, hc⟩


-- spec.DrawGapLimit
theorem DrawGapLimit_ok (code : List Int) (hc : (∀ j, j < code.length → 0 ≤ at_ code j ∧ at_ code j ≤ 255) ∧ code.length ≤ 4611686018427387904) : ∃ (v : List Int), (v.length ≤ 100) ∧ Con Try.prog 20 [slU8 false code] true (slI true v) := by
  have hh : ∃ r : (List Int), ((r.length ≤ 100) ∧ (True)) ∧ CallOK Try.prog 20 [slU8 false code] (lookO []) true (slI true r) (lookO []) := by
    refine fn_okX (Φ := fun r : (List Int) => (r.length ≤ 100) ∧ (True)) [] (fun r => []) (fn := Try.f20) (nt := 43) Try.func20 rfl rfl (args := [slU8 false code]) rfl (allcons (.inl ⟨rfl, tagU8 false _⟩) allnil) (res := fun r => slI true r) ?_
    refine x_seq ?_
    refine x_reg [] [0] [] [slU8 false code] [] [] (by kernel_rfl) trivial ?_
    refine xe_then ?_
    refine x_seq ?_
    obtain ⟨s'_1, hx1_0, hc1⟩ := l00From_ok code
    have hsrc : okSrc s'_1 := ⟨by rw [hx1_0.1]; exact hc.1, by rw [hx1_0.2]; decide, by rw [hx1_0.1]; exact hc.2⟩
    have hat0 := hx1_0.2
    refine x_reg [(1, .lend [] [(7001, bxl00Src s'_1)] [(true, slU8 false code)] false (.ref 7001 0))] [3] [7001] [.ref 7001 0] [some (bxl00Src s'_1)] [CallOK Try.prog 48 [slU8 false code] (lookO []) false (.ref 7001 0) (lookO [(7001, bxl00Src s'_1)]) ∧ ((slU8 false code : AV) = slU8 false code) ∧ True] (by kernel_rfl) ⟨⟨hc1, rfl, trivial⟩, trivial⟩ ?_
    refine xe_then ?_
    refine x_seq ?_
    refine x_reg [(0, .new 9)] [3, 4] [9, 7001] [.ref 7001 0, .arr 9] [some (.arr 1 0 (litF [] 1)), some (bxl00Src s'_1)] [] (by kernel_rfl) trivial ?_
    refine xe_then ?_
    refine x_seq ?_
    refine x_seq ?_
    obtain ⟨v_2, s'_2, hx2_0, hx2_1, hx2_2, hx2_3, hc2⟩ := pick_ok s'_1 9 (by first | assumption | (simp only [okSrc] at *; simp_all; done)) (by omega)
    refine x_reg [(1, .lend [(7001, bxl00Src s'_1, bxl00Src s'_2)] [] [(true, .ref 7001 0), (true, I 9)] true (I v_2))] [3, 4, 5] [9, 7001] [.ref 7001 0, .arr 9, I v_2] [some (.arr 1 0 (litF [] 1)), some (bxl00Src s'_2)] [CallOK Try.prog 50 [.ref 7001 0, I 9] (lookO [(7001, bxl00Src s'_1)]) true (I v_2) (lookO [(7001, bxl00Src s'_2)]) ∧ ((.ref 7001 0 : AV) = .ref 7001 0) ∧ ((I 9 : AV) = I 9) ∧ (((bxl00Src s'_1 : Ob) = bxl00Src s'_1 ∨ obLe noOb true (bxl00Src s'_1) (bxl00Src s'_1)) ∧ taggedO false (bxl00Src s'_1)) ∧ True] (by kernel_rfl) ⟨⟨hc2, rfl, rfl, ⟨.inl rfl, (by simp [taggedO, taggedL, tagged, tagU8])⟩, trivial⟩, trivial⟩ ?_
    refine xe_then ?_
    refine x_block ?_
    refine x_weak [] (T := [(3, .ref 7001 0), (4, .arr 9), (5, I v_2)]) (O := [(9, .arr 1 (([] : List Int).length) (fI ([] : List Int))), (7001, bxl00Src s'_2)]) rfl (⟨.inl rfl, .inl rfl, .inl rfl, trivial⟩) (⟨.inr ⟨rfl, (by first | rfl | (simp; done) | (simp; omega) | omega), fun i_ hi_ => absurd hi_ (Nat.not_lt_zero _)⟩, .inl rfl, trivial⟩) ?_
    refine x_loop (X := (List Int) × Int × l00Src) (fun x => mkS [(3, .ref 7001 0), (4, .arr 9), (5, I x.2.1)] [(9, .arr 1 x.1.length (fI x.1)), (7001, bxl00Src x.2.2)]) (fun x => (okSrc x.2.2 ∧ x.2.2.atx ≤ 10 + 30 * (9 - x.2.1)) ∧ (0 ≤ x.2.1 ∧ x.2.1 ≤ 9) ∧ ((x.1.length : Int) + x.2.1 ≤ 9) ∧ True) (fun x => x.2.1.toNat) (([] : List Int), v_2, s'_2) rfl (show (okSrc s'_2 ∧ s'_2.atx ≤ 10 + 30 * (9 - v_2)) ∧ (0 ≤ v_2 ∧ v_2 ≤ 9) ∧ ((([] : List Int).length : Int) + v_2 ≤ 9) ∧ True from ⟨(by constructor <;> first | assumption | omega), (by omega), (by simp; omega), trivial⟩) (fun x hI => ?_)
    obtain ⟨out, k, src⟩ := x
    obtain ⟨hs0, hk0, hl0, _⟩ : (okSrc src ∧ src.atx ≤ 10 + 30 * (9 - k)) ∧ (0 ≤ k ∧ k ≤ 9) ∧ ((out.length : Int) + k ≤ 9) ∧ True := hI
    show XW _ _ _ _ (mkS [(3, .ref 7001 0), (4, .arr 9), (5, I k)] [(9, .arr 1 out.length (fI out)), (7001, bxl00Src src)]) _ _
    refine x_seq ?_
    refine x_seq ?_
    by_cases h1 : 0 < k
    ·refine x_reg [(1, .dec true)] [3, 4, 5, 13] [9, 7001] [.ref 7001 0, .arr 9, I k, Bv true] [some (.arr 1 out.length (fI out)), some (bxl00Src src)] [0 < k] (by kernel_rfl) ⟨h1, trivial⟩ ?_
     refine xe_then ?_
     refine x_true rfl ?_
     refine x_skip ?_
     refine xe_then ?_
     refine x_seq ?_
     refine x_block ?_
     refine x_seq ?_
     obtain ⟨v_3, s'_3, hx3_0, hx3_1, hx3_2, hx3_3, hc3⟩ := pick_ok src 6 (by first | assumption | (simp only [okSrc] at *; simp_all; done)) (by omega)
     refine x_reg [(1, .lend [(7001, bxl00Src src, bxl00Src s'_3)] [] [(true, .ref 7001 0), (true, I 6)] true (I v_3))] [3, 4, 5, 6] [9, 7001] [.ref 7001 0, .arr 9, I k, I v_3] [some (.arr 1 out.length (fI out)), some (bxl00Src s'_3)] [CallOK Try.prog 50 [.ref 7001 0, I 6] (lookO [(7001, bxl00Src src)]) true (I v_3) (lookO [(7001, bxl00Src s'_3)]) ∧ ((.ref 7001 0 : AV) = .ref 7001 0) ∧ ((I 6 : AV) = I 6) ∧ (((bxl00Src src : Ob) = bxl00Src src ∨ obLe noOb true (bxl00Src src) (bxl00Src src)) ∧ taggedO false (bxl00Src src)) ∧ True] (by kernel_rfl) ⟨⟨hc3, rfl, rfl, ⟨.inl rfl, (by simp [taggedO, taggedL, tagged, tagU8])⟩, trivial⟩, trivial⟩ ?_
     refine xe_then ?_
     refine x_seq ?_
     refine x_seq ?_
     obtain ⟨v_4, s'_4, hx4_0, hx4_1, hx4_2, hc4⟩ := one_ok s'_3 3 (by first | assumption | (simp only [okSrc] at *; simp_all; done)) (by omega)
     rcases Bool.eq_false_or_eq_true v_4 with h2 | h2
     ·subst h2
      refine x_reg [(1, .lend [(7001, bxl00Src s'_3, bxl00Src s'_4)] [] [(true, .ref 7001 0), (true, I 3)] true (Bv true))] [3, 4, 5, 6, 19] [9, 7001] [.ref 7001 0, .arr 9, I k, I v_3, Bv true] [some (.arr 1 out.length (fI out)), some (bxl00Src s'_4)] [CallOK Try.prog 51 [.ref 7001 0, I 3] (lookO [(7001, bxl00Src s'_3)]) true (Bv true) (lookO [(7001, bxl00Src s'_4)]) ∧ ((.ref 7001 0 : AV) = .ref 7001 0) ∧ ((I 3 : AV) = I 3) ∧ (((bxl00Src s'_3 : Ob) = bxl00Src s'_3 ∨ obLe noOb true (bxl00Src s'_3) (bxl00Src s'_3)) ∧ taggedO false (bxl00Src s'_3)) ∧ True] (by kernel_rfl) ⟨⟨hc4, rfl, rfl, ⟨.inl rfl, (by simp [taggedO, taggedL, tagged, tagU8])⟩, trivial⟩, trivial⟩ ?_
      refine xe_then ?_
      refine x_true rfl ?_
      obtain ⟨v_5, s'_5, hx5_0, hx5_1, hx5_2, hx5_3, hc5⟩ := pick_ok s'_4 12 (by first | assumption | (simp only [okSrc] at *; simp_all; done)) (by omega)
      refine x_reg [(1, .lend [(7001, bxl00Src s'_4, bxl00Src s'_5)] [] [(true, .ref 7001 0), (true, I 12)] true (I v_5))] [3, 4, 5, 6] [9, 7001] [.ref 7001 0, .arr 9, I k, I (30 + v_5)] [some (.arr 1 out.length (fI out)), some (bxl00Src s'_5)] [CallOK Try.prog 50 [.ref 7001 0, I 12] (lookO [(7001, bxl00Src s'_4)]) true (I v_5) (lookO [(7001, bxl00Src s'_5)]) ∧ ((.ref 7001 0 : AV) = .ref 7001 0) ∧ ((I 12 : AV) = I 12) ∧ (((bxl00Src s'_4 : Ob) = bxl00Src s'_4 ∨ obLe noOb true (bxl00Src s'_4) (bxl00Src s'_4)) ∧ taggedO false (bxl00Src s'_4)) ∧ True, inR .i64 (30 + v_5)] (by kernel_rfl) ⟨⟨hc5, rfl, rfl, ⟨.inl rfl, (by simp [taggedO, taggedL, tagged, tagU8])⟩, trivial⟩, (inR_i64 (by omega) (by omega)), trivial⟩ ?_
      refine xe_then ?_
      refine x_reg [(2, .new 25), (3, .new 26)] [3, 4, 5] [26, 7001] [.ref 7001 0, .arr 26, I k] [some (.arr 1 (out.length + 1) (catF out.length (fI out) (litF [I (30 + v_5)] 1))), some (bxl00Src s'_5)] [(out.length + 1) * 8 ≤ 140737488355328] (by kernel_rfl) ⟨(by omega), trivial⟩ ?_
      refine xe_block 1 ?_
      refine xe_then ?_
      refine x_reg [] [3, 4, 5] [26, 7001] [.ref 7001 0, .arr 26, I (k - 1)] [some (.arr 1 (out.length + 1) (catF out.length (fI out) (litF [I (30 + v_5)] 1))), some (bxl00Src s'_5)] [inR .i64 (k - 1)] (by kernel_rfl) ⟨(inR_i64 (by omega) (by omega)), trivial⟩ ?_
      refine xe_weak [(9, 26)] (T := [(3, .ref 7001 0), (4, .arr 9), (5, I (k - 1))]) (O := [(9, .arr 1 ((out ++ [(30 + v_5)]).length) (fI (out ++ [(30 + v_5)]))), (7001, bxl00Src s'_5)]) rfl (⟨.inl rfl, .inl rfl, .inl rfl, trivial⟩) (⟨.inr ⟨rfl, (by first | rfl | (simp; done) | (simp; omega) | omega), fun i_ hi_ => .inl (cat_snoc (enc := cI) (xs := out) rfl i_ hi_)⟩, .inl rfl, trivial⟩) (xe_again ((out ++ [(30 + v_5)]), (k - 1), s'_5) rfl (show (okSrc s'_5 ∧ s'_5.atx ≤ 10 + 30 * (9 - (k - 1))) ∧ (0 ≤ (k - 1) ∧ (k - 1) ≤ 9) ∧ (((out ++ [(30 + v_5)]).length : Int) + (k - 1) ≤ 9) ∧ True from ⟨(by constructor <;> first | assumption | omega), (by omega), (by simp; omega), trivial⟩) (by show ((k - 1).toNat : Nat) < k.toNat; omega))
     ·subst h2
      refine x_reg [(1, .lend [(7001, bxl00Src s'_3, bxl00Src s'_4)] [] [(true, .ref 7001 0), (true, I 3)] true (Bv false))] [3, 4, 5, 6, 19] [9, 7001] [.ref 7001 0, .arr 9, I k, I v_3, Bv false] [some (.arr 1 out.length (fI out)), some (bxl00Src s'_4)] [CallOK Try.prog 51 [.ref 7001 0, I 3] (lookO [(7001, bxl00Src s'_3)]) true (Bv false) (lookO [(7001, bxl00Src s'_4)]) ∧ ((.ref 7001 0 : AV) = .ref 7001 0) ∧ ((I 3 : AV) = I 3) ∧ (((bxl00Src s'_3 : Ob) = bxl00Src s'_3 ∨ obLe noOb true (bxl00Src s'_3) (bxl00Src s'_3)) ∧ taggedO false (bxl00Src s'_3)) ∧ True] (by kernel_rfl) ⟨⟨hc4, rfl, rfl, ⟨.inl rfl, (by simp [taggedO, taggedL, tagged, tagU8])⟩, trivial⟩, trivial⟩ ?_
      refine xe_then ?_
      refine x_false rfl ?_
      refine x_skip ?_
      refine xe_then ?_
      refine x_reg [(2, .new 25), (3, .new 26)] [3, 4, 5] [26, 7001] [.ref 7001 0, .arr 26, I k] [some (.arr 1 (out.length + 1) (catF out.length (fI out) (litF [I v_3] 1))), some (bxl00Src s'_4)] [(out.length + 1) * 8 ≤ 140737488355328] (by kernel_rfl) ⟨(by omega), trivial⟩ ?_
      refine xe_block 1 ?_
      refine xe_then ?_
      refine x_reg [] [3, 4, 5] [26, 7001] [.ref 7001 0, .arr 26, I (k - 1)] [some (.arr 1 (out.length + 1) (catF out.length (fI out) (litF [I v_3] 1))), some (bxl00Src s'_4)] [inR .i64 (k - 1)] (by kernel_rfl) ⟨(inR_i64 (by omega) (by omega)), trivial⟩ ?_
      refine xe_weak [(9, 26)] (T := [(3, .ref 7001 0), (4, .arr 9), (5, I (k - 1))]) (O := [(9, .arr 1 ((out ++ [v_3]).length) (fI (out ++ [v_3]))), (7001, bxl00Src s'_4)]) rfl (⟨.inl rfl, .inl rfl, .inl rfl, trivial⟩) (⟨.inr ⟨rfl, (by first | rfl | (simp; done) | (simp; omega) | omega), fun i_ hi_ => .inl (cat_snoc (enc := cI) (xs := out) rfl i_ hi_)⟩, .inl rfl, trivial⟩) (xe_again ((out ++ [v_3]), (k - 1), s'_4) rfl (show (okSrc s'_4 ∧ s'_4.atx ≤ 10 + 30 * (9 - (k - 1))) ∧ (0 ≤ (k - 1) ∧ (k - 1) ≤ 9) ∧ (((out ++ [v_3]).length : Int) + (k - 1) ≤ 9) ∧ True from ⟨(by constructor <;> first | assumption | omega), (by omega), (by simp; omega), trivial⟩) (by show ((k - 1).toNat : Nat) < k.toNat; omega))
    ·refine x_reg [(1, .dec false)] [3, 4, 5, 13] [9, 7001] [.ref 7001 0, .arr 9, I k, Bv false] [some (.arr 1 out.length (fI out)), some (bxl00Src src)] [¬ (0 < k)] (by kernel_rfl) ⟨h1, trivial⟩ ?_
     refine xe_then ?_
     refine x_false rfl ?_
     refine x_exit ?_
     refine xe_exit_then ?_
     refine xe_loop_exit ?_
     refine xe_exit_same ?_
     refine xe_then ?_
     refine x_seq ?_
     refine x_seq ?_
     obtain ⟨v_6, s'_6, hx6_0, hx6_1, hx6_2, hx6_3, hc6⟩ := pick_ok src 16 (by first | assumption | (simp only [okSrc] at *; simp_all; done)) (by omega)
     refine x_reg [(1, .lend [(7001, bxl00Src src, bxl00Src s'_6)] [] [(true, .ref 7001 0), (true, I 16)] true (I v_6))] [3, 4, 28] [9, 7001] [.ref 7001 0, .arr 9, I v_6] [some (.arr 1 out.length (fI out)), some (bxl00Src s'_6)] [CallOK Try.prog 50 [.ref 7001 0, I 16] (lookO [(7001, bxl00Src src)]) true (I v_6) (lookO [(7001, bxl00Src s'_6)]) ∧ ((.ref 7001 0 : AV) = .ref 7001 0) ∧ ((I 16 : AV) = I 16) ∧ (((bxl00Src src : Ob) = bxl00Src src ∨ obLe noOb true (bxl00Src src) (bxl00Src src)) ∧ taggedO false (bxl00Src src)) ∧ True] (by kernel_rfl) ⟨⟨hc6, rfl, rfl, ⟨.inl rfl, (by simp [taggedO, taggedL, tagged, tagU8])⟩, trivial⟩, trivial⟩ ?_
     refine xe_then ?_
     refine x_block ?_
     refine x_seq ?_
     by_cases h3 : v_6 = 0
     ·refine x_reg [(0, .dec true)] [3, 4, 28, 29] [9, 7001] [.ref 7001 0, .arr 9, I v_6, Bv true] [some (.arr 1 out.length (fI out)), some (bxl00Src s'_6)] [v_6 = 0] (by kernel_rfl) ⟨h3, trivial⟩ ?_
      refine xe_then ?_
      refine x_true rfl ?_
      obtain ⟨v_7, s'_7, hx7_0, hx7_1, hx7_2, hx7_3, hc7⟩ := l19DrawGap_ok s'_6 (by first | assumption | (simp only [okSrc] at *; simp_all; done)) (by omega)
      refine x_reg [(2, .lend [(7001, bxl00Src s'_6, bxl00Src s'_7)] [] [(true, .ref 7001 0)] true (I v_7)), (3, .new 34), (4, .new 35)] [4] [35] [.arr 35] [some (.arr 1 (out.length + 1) (catF out.length (fI out) (litF [I v_7] 1)))] [CallOK Try.prog 71 [.ref 7001 0] (lookO [(7001, bxl00Src s'_6)]) true (I v_7) (lookO [(7001, bxl00Src s'_7)]) ∧ ((.ref 7001 0 : AV) = .ref 7001 0) ∧ (((bxl00Src s'_6 : Ob) = bxl00Src s'_6 ∨ obLe noOb true (bxl00Src s'_6) (bxl00Src s'_6)) ∧ taggedO false (bxl00Src s'_6)) ∧ True, (out.length + 1) * 8 ≤ 140737488355328] (by kernel_rfl) ⟨⟨hc7, rfl, ⟨.inl rfl, (by simp [taggedO, taggedL, tagged, tagU8])⟩, trivial⟩, (by omega), trivial⟩ ?_
      refine xe_block 2 ?_
      refine xe_then ?_
      refine x_seq ?_
      refine x_reg [] [2] [35] [.arr 35] [some (.arr 1 (out.length + 1) (catF out.length (fI out) (litF [I v_7] 1)))] [] (by kernel_rfl) trivial ?_
      refine xe_then ?_
      refine x_ret ?_
      refine xe_end (out ++ [v_7]) (show ((out ++ [v_7]).length ≤ 100) ∧ (True) from ⟨(by first | omega | assumption | rfl | (simp; done) | (simp; omega) | (simp_all; done)), trivial⟩) (trivial) (.arr 35) (by kernel_rfl) (.inr ⟨(fun _ => rfl), rfl, (by first | rfl | (simp; done) | (simp; omega) | omega), fun i_ hi_ => .inl (cat_snoc (enc := cI) (xs := out) rfl i_ hi_)⟩) (fun _ => rfl) (fun _ => (tagI true _))
     ·refine x_reg [(0, .dec false)] [3, 4, 28, 29] [9, 7001] [.ref 7001 0, .arr 9, I v_6, Bv false] [some (.arr 1 out.length (fI out)), some (bxl00Src s'_6)] [¬ (v_6 = 0)] (by kernel_rfl) ⟨h3, trivial⟩ ?_
      refine xe_then ?_
      refine x_false rfl ?_
      refine x_seq ?_
      by_cases h4 : v_6 = 1
      ·refine x_reg [(0, .dec true)] [3, 4, 36] [9, 7001] [.ref 7001 0, .arr 9, Bv true] [some (.arr 1 out.length (fI out)), some (bxl00Src s'_6)] [v_6 = 1] (by kernel_rfl) ⟨h4, trivial⟩ ?_
       refine xe_then ?_
       refine x_true rfl ?_
       obtain ⟨v_8, s'_8, hx8_0, hx8_1, hx8_2, hx8_3, hc8⟩ := pick_ok s'_6 2 (by first | assumption | (simp only [okSrc] at *; simp_all; done)) (by omega)
       refine x_reg [(1, .lend [(7001, bxl00Src s'_6, bxl00Src s'_8)] [] [(true, .ref 7001 0), (true, I 2)] true (I v_8)), (3, .new 41)] [4] [41] [.arr 41] [some (.arr 1 ((60 + v_8).toNat) (fun _ => [I 0]))] [CallOK Try.prog 50 [.ref 7001 0, I 2] (lookO [(7001, bxl00Src s'_6)]) true (I v_8) (lookO [(7001, bxl00Src s'_8)]) ∧ ((.ref 7001 0 : AV) = .ref 7001 0) ∧ ((I 2 : AV) = I 2) ∧ (((bxl00Src s'_6 : Ob) = bxl00Src s'_6 ∨ obLe noOb true (bxl00Src s'_6) (bxl00Src s'_6)) ∧ taggedO false (bxl00Src s'_6)) ∧ True, inR .i64 (60 + v_8), (0 : Int) ≤ (60 + v_8) ∧ ((60 + v_8) : Int) ≤ (60 + v_8) ∧ (8 : Int) * (60 + v_8) ≤ 281474976710656 ∧ (60 + v_8) ≤ 9223372036854775807] (by kernel_rfl) ⟨⟨hc8, rfl, rfl, ⟨.inl rfl, (by simp [taggedO, taggedL, tagged, tagU8])⟩, trivial⟩, (inR_i64 (by omega) (by omega)), ⟨(by omega), (by omega), (by omega), (by omega)⟩, trivial⟩ ?_
       refine xe_block 2 ?_
       refine xe_then ?_
       refine x_seq ?_
       refine x_reg [] [2] [41] [.arr 41] [some (.arr 1 ((60 + v_8).toNat) (fun _ => [I 0]))] [] (by kernel_rfl) trivial ?_
       refine xe_then ?_
       refine x_ret ?_
       refine xe_end (List.replicate ((60 + v_8).toNat) 0) (show ((List.replicate ((60 + v_8).toNat) 0).length ≤ 100) ∧ (True) from ⟨(by first | omega | assumption | rfl | (simp; done) | (simp; omega) | (simp_all; done)), trivial⟩) (trivial) (.arr 41) (by kernel_rfl) (.inr ⟨(fun _ => rfl), rfl, (by first | rfl | (simp; done) | (simp; omega) | omega), fun i_ hi_ => .inl (const_enc (enc := cI) rfl i_ hi_)⟩) (fun _ => rfl) (fun _ => (tagI true _))
      ·refine x_reg [(0, .dec false)] [3, 4, 36] [9, 7001] [.ref 7001 0, .arr 9, Bv false] [some (.arr 1 out.length (fI out)), some (bxl00Src s'_6)] [¬ (v_6 = 1)] (by kernel_rfl) ⟨h4, trivial⟩ ?_
       refine xe_then ?_
       refine x_false rfl ?_
       refine x_skip ?_
       refine xe_block 2 ?_
       refine xe_then ?_
       refine x_seq ?_
       refine x_reg [] [2] [9] [.arr 9] [some (.arr 1 out.length (fI out))] [] (by kernel_rfl) trivial ?_
       refine xe_then ?_
       refine x_ret ?_
       refine xe_end out (show (out.length ≤ 100) ∧ (True) from ⟨(by first | omega | assumption | rfl | (simp; done) | (simp; omega) | (simp_all; done)), trivial⟩) (trivial) (.arr 9) (by kernel_rfl) (.inr ⟨(fun _ => rfl), rfl, rfl, fun i _ => .inl rfl⟩) (fun _ => rfl) (fun _ => (tagI true _))
  obtain ⟨v, ⟨hh0, _⟩, hc⟩ := hh
  exact ⟨v, hh0, hc⟩


def inB (a l h : Int) : Bool := decide (l ≤ a ∧ a ≤ h)
theorem inB_iff {a l h : Int} : inB a l h = true ↔ l ≤ a ∧ a ≤ h := by simp [inB]
theorem bAt_bd (s : ByteArray) (i : Nat) : 0 ≤ bAt s i ∧ bAt s i ≤ 255 := by
  unfold bAt
  have := (s.data.toList.getD i 0).toNat_lt
  omega

-- impl.within
theorem within_ok (n : Int) (low : Int) (high : Int) : Con Try.prog 93 [I n, I low, I high] true (Bv (inB n low high)) := by
  refine fn_ok (fn := Try.f93) (nt := 15) Try.func93 rfl rfl rfl rfl (by simp [taggedL, tagged]) fun B hB => ?_
  refine aw_seq ?_
  refine aw_reg [] [0, 1, 2] [] [I n, I low, I high] [] [] (by kernel_rfl) hB trivial ?_
  refine ae_then ?_
  refine aw_seq ?_
  by_cases h1 : low ≤ n
  ·refine aw_reg [(2, .dec true)] [6] [] [Bv (decide (n ≤ high))] [] [low ≤ n] (by kernel_rfl) hB ⟨h1, trivial⟩ ?_
   refine ae_then ?_
   refine aw_ret ?_
   refine ae_ret hB (Bv (decide (n ≤ high))) (by kernel_rfl) (.inl (by first | rfl | (refine congrArg Bv ?_; simp [inB, *]; done) | (refine congrArg Bv ?_; simp [inB, *]; omega) | (refine congrArg Bv ?_; simp_all [inB]; done) | (refine congrArg Bv ?_; simp_all [inB]; omega))) rfl (fun _ => trivial)
  ·refine aw_reg [(2, .dec false)] [6] [] [Bv false] [] [¬ (low ≤ n)] (by kernel_rfl) hB ⟨h1, trivial⟩ ?_
   refine ae_then ?_
   refine aw_ret ?_
   refine ae_ret hB (Bv false) (by kernel_rfl) (.inl (by first | rfl | (refine congrArg Bv ?_; simp [inB, *]; done) | (refine congrArg Bv ?_; simp [inB, *]; omega) | (refine congrArg Bv ?_; simp_all [inB]; done) | (refine congrArg Bv ?_; simp_all [inB]; omega))) rfl (fun _ => trivial)




/-- The number in the middle, the lesser one of two. -/
def medI (xs : List Int) : Int := at_ (sortL xs) ((xs.length - 1) / 2)
theorem medI_mem {xs : List Int} (h : 1 ≤ xs.length) : medI xs ∈ xs := sortL_mem.1 (at_mem (by rw [sortL_len]; omega))

theorem sortL_pw (xs : List Int) : (sortL xs).Pairwise fun x y => x ≤ y := by
  have h := List.pairwise_mergeSort (le := fun (x y : Int) => decide (x ≤ y)) (fun a b c h1 h2 => by simp only [decide_eq_true_eq] at *; omega) (fun a b => by simp only [Bool.or_eq_true, decide_eq_true_eq]; omega) xs
  exact h.imp fun h => by simpa using h
theorem sortL_perm (xs : List Int) : List.Perm (sortL xs) xs := List.mergeSort_perm _ _
theorem sort_uniq {a b : List Int} (ha : a.Pairwise fun x y => x ≤ y) (hb : b.Pairwise fun x y => x ≤ y) (h : List.Perm a b) : a = b :=
  List.Perm.eq_of_pairwise (le := fun x y => x ≤ y) (fun x y _ _ h1 h2 => Int.le_antisymm h1 h2) ha hb h
/-- A number put to its place. -/
theorem ins_sort {p : List Int} {x : Int} {k : Nat} (hk : k ≤ (sortL p).length) (h1 : ∀ j, k ≤ j → j < (sortL p).length → x < at_ (sortL p) j) (h2 : k = 0 ∨ at_ (sortL p) (k - 1) ≤ x) :
    (sortL p).take k ++ [x] ++ (sortL p).drop k = sortL (p ++ [x]) := by
  have hs := sortL_pw p
  generalize hl : sortL p = l at *
  refine sort_uniq ?_ (sortL_pw _) ?_
  · have ht := hs
    rw [← List.take_append_drop k l, List.pairwise_append] at ht
    obtain ⟨ta, tb, tc⟩ := ht
    have hlow : ∀ a ∈ l.take k, a ≤ x := fun a ha => by
      obtain ⟨j, hj, e⟩ := List.getElem_of_mem ha
      rcases h2 with h2 | h2
      · subst h2; simp at ha
      · have hjk : j < k := by simp at hj; omega
        have hjl : j < l.length := by simp at hj; omega
        have he : a = at_ l j := by rw [← e, at_eq hjl]; simp
        by_cases e2 : j = k - 1
        · rw [he, e2]; exact h2
        · have := List.pairwise_iff_getElem.1 hs j (k - 1) hjl (by omega) (by omega)
          rw [he, at_eq hjl]
          rw [at_eq (by omega)] at h2
          omega
    have hhigh : ∀ b ∈ l.drop k, x ≤ b := fun b hb => by
      obtain ⟨j, hj, e⟩ := List.getElem_of_mem hb
      simp at hj
      have h := h1 (k + j) (by omega) (by omega)
      rw [at_eq (by omega)] at h
      rw [← e]; simp; omega
    rw [List.append_assoc, List.pairwise_append]
    refine ⟨ta, ?_, ?_⟩
    · rw [List.singleton_append, List.pairwise_cons]
      exact ⟨hhigh, tb⟩
    · intro a ha b hb
      simp at hb
      rcases hb with rfl | hb
      · exact hlow a ha
      · exact tc a ha b hb
  · have e : List.Perm l p := by rw [← hl]; exact sortL_perm p
    refine List.Perm.trans ?_ (sortL_perm (p ++ [x])).symm
    refine List.Perm.trans ?_ (e.append_right [x])
    rw [List.append_assoc]
    refine List.Perm.trans (List.perm_append_comm.append_left _) ?_
    rw [← List.append_assoc, List.take_append_drop]
theorem sortL_nil : sortL [] = [] := by simp [sortL]
theorem sorted_le {p : List Int} {i j : Nat} (hij : i ≤ j) (hj : j < (sortL p).length) : at_ (sortL p) i ≤ at_ (sortL p) j := by
  by_cases e : i = j
  · subst e; exact Int.le_refl _
  · have := List.pairwise_iff_getElem.1 (sortL_pw p) i j (by omega) hj (by omega)
    rw [at_eq (by omega), at_eq hj]; exact this

theorem ins_next {xs l : List Int} {i k : Int} (e : l = sortL (xs.take i.toNat)) (h0 : 0 ≤ i) (hi : i.toNat < xs.length) (hk : 0 ≤ k ∧ k ≤ (l.length : Int)) (h1 : ∀ j : Nat, k ≤ (j : Int) → j < l.length → at_ xs i.toNat < at_ l j) (h2 : k ≤ 0 ∨ at_ l (k - 1).toNat ≤ at_ xs i.toNat) :
    l.take k.toNat ++ [at_ xs i.toNat] ++ l.drop k.toNat = sortL (xs.take (i + 1).toNat) := by
  subst e
  have e1 : (i + 1).toNat = i.toNat + 1 := by omega
  rw [e1, List.take_succ_eq_append_getElem hi, ← at_eq hi]
  refine ins_sort (by omega) (fun j hj hl => h1 j (by omega) hl) ?_
  rcases h2 with h2 | h2
  · left; omega
  · by_cases hz : k.toNat = 0
    · exact .inl hz
    · right
      have e2 : (k - 1).toNat = k.toNat - 1 := by omega
      rw [e2] at h2; exact h2

def joinB (a b : Box) : Box := ⟨min a.X1 b.X1, min a.Y1 b.Y1, max a.X2 b.X2, max a.Y2 b.Y2⟩

/-- f 0 + .. + f (n - 1). -/
def sumN : Nat → (Nat → Int) → Int
  | 0, _ => 0
  | n + 1, f => sumN n f + f n
theorem sumN_succ {n : Int} (h : 0 ≤ n) (f : Nat → Int) : sumN (n + 1).toNat f = sumN n.toNat f + f n.toNat := by
  have : (n + 1).toNat = n.toNat + 1 := by omega
  rw [this]; rfl

/-- The first number below n that p holds of, or -1. -/
def firstN (n : Nat) (p : Nat → Bool) : Int := match (List.range n).find? p with
  | some i => i
  | none => -1
theorem firstN_hit {n : Nat} {p : Nat → Bool} {k : Nat} (hk : k < n) (hp : p k = true) (hn : ∀ i, i < k → p i = false) : firstN n p = k := by
  have h : (List.range n).find? p = some k := by
    rw [List.find?_range_eq_some]
    exact ⟨hp, List.mem_range.2 hk, fun j hj => by simpa using hn j hj⟩
  simp [firstN, h]
theorem firstN_none {n : Nat} {p : Nat → Bool} (hn : ∀ i, i < n → p i = false) : firstN n p = -1 := by
  have h : (List.range n).find? p = none := by
    rw [List.find?_range_eq_none]
    intro i hi; simpa using hn i hi
  simp [firstN, h]
theorem firstN_cases (n : Nat) (p : Nat → Bool) : (firstN n p = -1 ∧ ∀ i, i < n → p i = false) ∨ ∃ k : Nat, firstN n p = k ∧ k < n ∧ p k = true ∧ ∀ i, i < k → p i = false := by
  by_cases h : ∃ k, k < n ∧ p k = true
  · right
    obtain ⟨k, hk, hp⟩ := h
    cases e : (List.range n).find? p with
    | none => rw [List.find?_range_eq_none] at e; exact absurd hp (by simpa using e k hk)
    | some i =>
      have e' := e
      rw [List.find?_range_eq_some] at e
      exact ⟨i, by simp [firstN, e'], List.mem_range.1 e.2.1, e.1, fun j hj => by simpa using e.2.2 j hj⟩
  · left
    have h' : ∀ i, i < n → p i = false := fun i hi => by rw [← Bool.not_eq_true]; exact fun hp => h ⟨i, hi, hp⟩
    exact ⟨firstN_none h', h'⟩
theorem firstN_any (n : Nat) (p : Nat → Bool) : decide (0 ≤ firstN n p) = anyN n p := by
  rcases firstN_cases n p with ⟨h1, h2⟩ | ⟨k, h1, h2, h3, _⟩
  · rw [h1, anyN_none h2]; decide
  · rw [h1, anyN_at h2 h3]; simp

theorem down_spec (n : Int) {d : Int} (hd : 0 < d) : (Int.tmod n d < 0 → Int.tdiv n d - 1 = n / d) ∧ (¬ Int.tmod n d < 0 → Int.tdiv n d = n / d) := by
  have h1 := Int.mul_tdiv_add_tmod n d
  have h2 := Int.tmod_lt_of_pos n hd
  have h3 := Int.lt_tmod_of_pos n hd
  generalize Int.tdiv n d = q at *
  generalize Int.tmod n d = r at *
  subst h1
  constructor
  · intro h
    have e : d * q + r = (r + d) + d * (q - 1) := by rw [Int.mul_sub, Int.mul_one]; omega
    rw [e, Int.add_mul_ediv_left _ _ (by omega), Int.ediv_eq_zero_of_lt (by omega) (by omega)]; omega
  · intro h
    rw [Int.add_comm, Int.add_mul_ediv_left _ _ (by omega), Int.ediv_eq_zero_of_lt (by omega) (by omega)]; omega
theorem quo_bd {n r : Int} (h : 0 ≤ n) (hr : 0 < r) : 0 ≤ n / r ∧ n / r ≤ n := ⟨Int.ediv_nonneg h (by omega), Int.ediv_le_self _ h⟩
theorem tdiv_bd (n d : Int) : ((Int.tdiv n d).natAbs : Int) ≤ (n.natAbs : Int) := by
  rw [Int.natAbs_tdiv]
  exact Int.ofNat_le.2 (Nat.div_le_self _ _)

/-- The integer nearest to a quotient by a positive number, halves up. -/
def nearI (n d : Int) : Int := (2 * n + d) / (2 * d)
theorem near_spec (n : Int) {d : Int} (hd : 0 < d) : (d - (n - n / d * d) ≤ n - n / d * d → n / d + 1 = nearI n d) ∧ (¬ d - (n - n / d * d) ≤ n - n / d * d → n / d = nearI n d) := by
  have h1 := Int.mul_ediv_add_emod n d
  have h2 := Int.emod_nonneg n (b := d) (by omega)
  have h3 := Int.emod_lt_of_pos n hd
  unfold nearI
  generalize n / d = q at *
  generalize n % d = r at *
  have e0 : q * d = d * q := Int.mul_comm _ _
  have e3 : 2 * d * q = 2 * (d * q) := Int.mul_assoc _ _ _
  constructor
  · intro h
    have e : 2 * n + d = (2 * r - d) + 2 * d * (q + 1) := by rw [Int.mul_add, e3]; omega
    rw [e, Int.add_mul_ediv_left _ _ (by omega), Int.ediv_eq_zero_of_lt (by omega) (by omega)]; omega
  · intro h
    have e : 2 * n + d = (2 * r + d) + 2 * d * q := by rw [e3]; omega
    rw [e, Int.add_mul_ediv_left _ _ (by omega), Int.ediv_eq_zero_of_lt (by omega) (by omega)]; omega
theorem rest_bd (n : Int) {d : Int} (hd : 0 < d) : 0 ≤ n - n / d * d ∧ n - n / d * d < d := by
  have h1 := Int.mul_ediv_add_emod n d
  have h2 := Int.emod_nonneg n (b := d) (by omega)
  have h3 := Int.emod_lt_of_pos n hd
  rw [Int.mul_comm] at h1
  omega
theorem ediv_bd (n : Int) {d : Int} (hd : 0 < d) : -(n.natAbs : Int) ≤ n / d ∧ n / d ≤ (n.natAbs : Int) := by
  constructor
  · rw [Int.le_ediv_iff_mul_le hd]
    have : (n.natAbs : Int) * 1 ≤ (n.natAbs : Int) * d := Int.mul_le_mul_of_nonneg_left (by omega) (by omega)
    rw [Int.neg_mul]; omega
  · have h1 : (n.natAbs : Int) * 1 ≤ (n.natAbs : Int) * d := Int.mul_le_mul_of_nonneg_left (by omega) (by omega)
    have b : n / d < (n.natAbs : Int) + 1 := Int.ediv_lt_of_lt_mul hd (by rw [Int.add_mul, Int.one_mul]; omega)
    omega
theorem near_between {x r d : Int} (hd : 0 < d) (h0 : 0 ≤ r) (h1 : r ≤ d) : (0 ≤ x → 0 ≤ nearI (x * r) d ∧ nearI (x * r) d ≤ x) ∧ (x ≤ 0 → x ≤ nearI (x * r) d ∧ nearI (x * r) d ≤ 0) := by
  unfold nearI
  constructor
  · intro hx
    have a1 : x * r ≤ x * d := Int.mul_le_mul_of_nonneg_left h1 hx
    have a2 : 0 ≤ x * r := Int.mul_nonneg hx h0
    have e : (x + 1) * (2 * d) = 2 * (x * d) + 2 * d := by rw [Int.add_mul, Int.one_mul, Int.mul_left_comm]
    have b : (2 * (x * r) + d) / (2 * d) < x + 1 := Int.ediv_lt_of_lt_mul (by omega) (by rw [e]; omega)
    exact ⟨Int.ediv_nonneg (by omega) (by omega), by omega⟩
  · intro hx
    have a1 : x * d ≤ x * r := Int.mul_le_mul_of_nonpos_left hx h1
    have a2 : x * r ≤ 0 := Int.mul_nonpos_of_nonpos_of_nonneg hx h0
    have e : x * (2 * d) = 2 * (x * d) := Int.mul_left_comm _ _ _
    have b : (2 * (x * r) + d) / (2 * d) < 0 + 1 := Int.ediv_lt_of_lt_mul (by omega) (by omega)
    exact ⟨Int.le_ediv_of_mul_le (by omega) (by rw [e]; omega), by omega⟩
theorem near_zero {x d : Int} (hd : 0 < d) : nearI (x * 0) d = 0 := by
  have := near_between (x := x) hd (Int.le_refl 0) (by omega)
  simp only [nearI, Int.mul_zero, Int.zero_add]
  exact Int.ediv_eq_zero_of_lt (by omega) (by omega)
theorem near_full {x d : Int} (hd : 0 < d) : nearI (x * d) d = x := by
  have e : 2 * (x * d) + d = d + 2 * d * x := by rw [Int.mul_comm x d, Int.mul_assoc]; omega
  rw [nearI, e, Int.add_mul_ediv_left _ _ (by omega), Int.ediv_eq_zero_of_lt (by omega) (by omega)]; omega
theorem mulP_bd {x y A B : Int} (h0 : 0 ≤ x) (h1 : x ≤ A) (h2 : 0 ≤ y) (h3 : y ≤ B) : 0 ≤ x * y ∧ x * y ≤ A * B :=
  ⟨Int.mul_nonneg h0 h2, Int.mul_le_mul h1 h3 h2 (by omega)⟩
theorem mulS_bd {x y A B : Int} (h0 : -A ≤ x) (h1 : x ≤ A) (h2 : 0 ≤ y) (h3 : y ≤ B) : -(A * B) ≤ x * y ∧ x * y ≤ A * B := by
  rcases Int.le_total 0 x with h | h
  · have := mulP_bd h h1 h2 h3; omega
  · have := mulP_bd (x := -x) (by omega) (by omega : -x ≤ A) h2 h3
    rw [Int.neg_mul] at this; omega

def okBx (b : Box) : Bool := inB b.X1 0 b.X2 && (inB b.Y1 0 b.Y2 && (decide (b.X2 ≤ 4095) && decide (b.Y2 ≤ 4095)))
def okPage (bs : List Box) : Bool := decide ((bs.length : Int) ≤ 60) && allN bs.length (fun j => okBx (at_ bs j))
/-- The box of the first item and the first k items. -/
def itB (bs : List Box) (xs : List Int) : Nat → Box
  | 0 => at_ bs (at_ xs 0).toNat
  | k + 1 => joinB (itB bs xs k) (at_ bs (at_ xs k).toNat)
theorem itB_succ {bs : List Box} {xs : List Int} {i : Int} (h : 0 ≤ i) : itB bs xs (i + 1).toNat = joinB (itB bs xs i.toNat) (at_ bs (at_ xs i.toNat).toNat) := by
  have : (i + 1).toNat = i.toNat + 1 := by omega
  rw [this]; rfl
theorem itB_one (bs : List Box) (xs : List Int) : itB bs xs 1 = at_ bs (at_ xs 0).toNat := by simp [itB, joinB]
def inIx (bs : List Box) (xs : List Int) : Bool := allN xs.length (fun j => inB (at_ xs j) 0 ((bs.length : Int) - 1))
def boiR (bs : List Box) (xs : List Int) : Box × Int := if okPage bs = true then (if inIx bs xs = true then (if (xs.length : Int) = 0 then (⟨0, 0, 0, 0⟩, 6) else (itB bs xs xs.length, 0)) else (⟨0, 0, 0, 0⟩, 2)) else (⟨0, 0, 0, 0⟩, 1)
theorem boi_inv {bs : List Box} {xs : List Int} (h : okPage bs = false) : boiR bs xs = (⟨0, 0, 0, 0⟩, 1) := by simp [boiR, h]
theorem boi_rng {bs : List Box} {xs : List Int} (h : okPage bs = true) (h2 : inIx bs xs = false) : boiR bs xs = (⟨0, 0, 0, 0⟩, 2) := by simp [boiR, h, h2]
theorem boi_st {bs : List Box} {xs : List Int} (h : okPage bs = true) (h2 : inIx bs xs = true) (h3 : (xs.length : Int) = 0) : boiR bs xs = (⟨0, 0, 0, 0⟩, 6) := by rw [boiR, if_pos h, if_pos h2, if_pos h3]
theorem boi_yes {bs : List Box} {xs : List Int} (h : okPage bs = true) (h2 : inIx bs xs = true) (h3 : ¬ (xs.length : Int) = 0) : boiR bs xs = (itB bs xs xs.length, 0) := by rw [boiR, if_pos h, if_pos h2, if_neg h3]
theorem inIx_at {bs : List Box} {xs : List Int} (h : inIx bs xs = true) {j : Nat} (hj : j < xs.length) : 0 ≤ at_ xs j ∧ at_ xs j ≤ (bs.length : Int) - 1 := inB_iff.1 (allN_get h hj)
/-- The distances of numbers from the one in the middle, summed. -/
def sprT (l : List Int) (m : Int) (k : Nat) : Int := sumN k fun j => ((at_ l j - m).natAbs : Int)
def sprI (l : List Int) : Int := sprT l (at_ l ((l.length - 1) / 2)) l.length
theorem sprT_succ {l : List Int} {m i : Int} (h : 0 ≤ i) : sprT l m (i + 1).toNat = sprT l m i.toNat + ((at_ l i.toNat - m).natAbs : Int) := sumN_succ h _
theorem sprT_nn (l : List Int) (m : Int) : ∀ k, 0 ≤ sprT l m k
  | 0 => by simp [sprT, sumN]
  | k + 1 => by
    have := sprT_nn l m k
    unfold sprT at this ⊢
    simp only [sumN]; omega
def gpC (q : List Int) (k : Nat) : Int := sprI (q.take k) + sprI (q.drop k)
theorem gpC_nn (q : List Int) (k : Nat) : 0 ≤ gpC q k := by
  have h1 := sprT_nn (q.take k) (at_ (q.take k) (((q.take k).length - 1) / 2)) (q.take k).length
  have h2 := sprT_nn (q.drop k) (at_ (q.drop k) (((q.drop k).length - 1) / 2)) (q.drop k).length
  unfold gpC sprI; omega
/-- The best place for a limit, and what it costs. -/
def gpS (q : List Int) : Nat → Int × Int
  | 0 => (-1, 0)
  | k + 1 => if k = 0 then (-1, 0) else if at_ q (k - 1) < at_ q k ∧ ((gpS q k).1 < 0 ∨ gpC q k < (gpS q k).2) then ((k : Int), gpC q k) else gpS q k
theorem gpS_one (q : List Int) : gpS q 1 = (-1, 0) := by simp [gpS]
theorem gpS_yes {q : List Int} {k : Int} (h : 1 ≤ k) (h1 : at_ q (k - 1).toNat < at_ q k.toNat) (h2 : (gpS q k.toNat).1 < 0 ∨ gpC q k.toNat < (gpS q k.toNat).2) : gpS q (k + 1).toNat = (k, gpC q k.toNat) := by
  have e1 : (k + 1).toNat = k.toNat + 1 := by omega
  have e2 : (k - 1).toNat = k.toNat - 1 := by omega
  have e3 : ((k.toNat : Nat) : Int) = k := by omega
  rw [e2] at h1
  rw [e1, gpS, if_neg (by omega), if_pos ⟨h1, h2⟩, e3]
theorem gpS_no {q : List Int} {k : Int} (h : 1 ≤ k) (h1 : ¬ (at_ q (k - 1).toNat < at_ q k.toNat ∧ ((gpS q k.toNat).1 < 0 ∨ gpC q k.toNat < (gpS q k.toNat).2))) : gpS q (k + 1).toNat = gpS q k.toNat := by
  have e1 : (k + 1).toNat = k.toNat + 1 := by omega
  have e2 : (k - 1).toNat = k.toNat - 1 := by omega
  rw [e2] at h1
  rw [e1, gpS, if_neg (by omega), if_neg h1]
/-- The best place is one, and what it costs. -/
theorem gpS_in (q : List Int) : ∀ k, (gpS q k).1 = -1 ∨ (1 ≤ (gpS q k).1 ∧ (gpS q k).1 < (k : Int) ∧ at_ q ((gpS q k).1 - 1).toNat < at_ q (gpS q k).1.toNat ∧ 0 ≤ (gpS q k).2)
  | 0 => by simp [gpS]
  | k + 1 => by
    rw [gpS]
    split
    · left; rfl
    · split
      · rename_i h0 h
        right
        have e : ((k : Int) - 1).toNat = k - 1 := by omega
        refine ⟨by show (1 : Int) ≤ (k : Int); omega, by show (k : Int) < _; omega, ?_, gpC_nn q k⟩
        show at_ q ((k : Int) - 1).toNat < at_ q ((k : Int)).toNat
        rw [e]; exact h.1
      · rcases gpS_in q k with h | h
        · exact .inl h
        · right; refine ⟨h.1, by omega, h.2.2⟩
def okGs (xs : List Int) : Bool := allN xs.length (fun j => inB (at_ xs j) 0 4095)
def gapQ (q : List Int) : Int × Int := if (gpS q q.length).1 < 0 then (0, 6) else (at_ q ((gpS q q.length).1 - 1).toNat, 0)
def gapR (xs : List Int) : Int × Int := if okGs xs = true then (if 60 < (xs.length : Int) then (0, 5) else gapQ (sortL xs)) else (0, 1)
theorem gapR_inv {xs : List Int} (h : okGs xs = false) : gapR xs = (0, 1) := by simp [gapR, h]
theorem gapR_full {xs : List Int} (h : okGs xs = true) (h2 : 60 < (xs.length : Int)) : gapR xs = (0, 5) := by rw [gapR, if_pos h, if_pos h2]
theorem gapR_go {xs : List Int} (h : okGs xs = true) (h2 : ¬ 60 < (xs.length : Int)) : gapR xs = gapQ (sortL xs) := by rw [gapR, if_pos h, if_neg h2]
theorem gapQ_no {q : List Int} (h : (gpS q q.length).1 < 0) : gapQ q = (0, 6) := by rw [gapQ, if_pos h]
theorem gapQ_yes {q : List Int} (h : ¬ (gpS q q.length).1 < 0) : gapQ q = (at_ q ((gpS q q.length).1 - 1).toNat, 0) := by rw [gapQ, if_neg h]
theorem okGs_mem {xs : List Int} (h : okGs xs = true) : ∀ x ∈ sortL xs, 0 ≤ x ∧ x ≤ 4095 := fun x hx => by
  obtain ⟨j, hj, e⟩ := List.getElem_of_mem (sortL_mem.1 hx)
  have := inB_iff.1 (allN_get h hj)
  rw [at_eq hj, e] at this; exact this
/-- Bounds for the sums. -/
theorem sprT_bd {l : List Int} {m : Int} (hl : ∀ x ∈ l, 0 ≤ x ∧ x ≤ 4095) (hm : 0 ≤ m ∧ m ≤ 4095) : ∀ k, k ≤ l.length → sprT l m k ≤ 4095 * (k : Int)
  | 0, _ => by simp [sprT, sumN]
  | k + 1, h => by
    have ih := sprT_bd hl hm k (by omega)
    have := hl _ (at_mem (show k < l.length by omega))
    unfold sprT at ih ⊢
    simp only [sumN]; omega
/-- A limit of gaps is one of them, and not the greatest one. -/
theorem gap_law {xs : List Int} (h : (gapR xs).2 = 0) : (∃ j, j < xs.length ∧ at_ xs j = (gapR xs).1) ∧ ∃ j, j < xs.length ∧ (gapR xs).1 < at_ xs j := by
  unfold gapR at h ⊢
  split at h
  · rename_i h1
    rw [if_pos h1]
    split at h
    · cases h
    · rename_i h2
      rw [if_neg h2]
      by_cases h3 : (gpS (sortL xs) (sortL xs).length).1 < 0
      · rw [gapQ_no h3] at h; cases h
      · rw [gapQ_yes h3]
        rcases gpS_in (sortL xs) (sortL xs).length with h4 | ⟨h4, h5, h6, _⟩
        · omega
        · have get : ∀ z, z ∈ sortL xs → ∃ j, j < xs.length ∧ at_ xs j = z := fun z hz => by
            obtain ⟨j, hj, e⟩ := List.getElem_of_mem (sortL_mem.1 hz)
            exact ⟨j, hj, by rw [at_eq hj]; exact e⟩
          obtain ⟨a, ha, ea⟩ := get _ (at_mem (xs := sortL xs) (i := ((gpS (sortL xs) (sortL xs).length).1 - 1).toNat) (by omega))
          obtain ⟨b, hb, eb⟩ := get _ (at_mem (xs := sortL xs) (i := (gpS (sortL xs) (sortL xs).length).1.toNat) (by omega))
          exact ⟨⟨a, ha, ea⟩, b, hb, by rw [eb]; exact h6⟩
  · cases h
theorem any_next {P : Nat → Prop} {b c : Bool} {i : Int} (h : b = true ↔ ∃ j, j < i.toNat ∧ P j) (hi : 0 ≤ i) (h' : c = true ↔ (b = true ∨ P i.toNat)) : c = true ↔ ∃ j, j < (i + 1).toNat ∧ P j := by
  have e : (i + 1).toNat = i.toNat + 1 := by omega
  rw [h', h, e]
  constructor
  · rintro (⟨j, h1, h2⟩ | h2)
    · exact ⟨j, by omega, h2⟩
    · exact ⟨i.toNat, by omega, h2⟩
  · rintro ⟨j, h1, h2⟩
    by_cases e : j = i.toNat
    · subst e; exact .inr h2
    · exact .inl ⟨j, by omega, h2⟩

-- impl.isGap
theorem isGap_ok (n : Int) : Con Try.prog 74 [I n] true (Bv (inB n 0 4095)) := by
  refine fn_ok (fn := Try.f74) (nt := 5) Try.func74 rfl rfl rfl rfl (by simp [taggedL, tagged]) fun B hB => ?_
  refine aw_seq ?_
  refine aw_reg [] [0] [] [I n] [] [] (by kernel_rfl) hB trivial ?_
  refine ae_then ?_
  refine aw_seq ?_
  refine aw_reg [(1, .call [(true, I n), (true, I 0), (true, I 4095)] true (Bv (inB n 0 4095)))] [2] [] [Bv (inB n 0 4095)] [] [Con Try.prog 93 [I n, I 0, I 4095] true (Bv (inB n 0 4095)) ∧ ((I n : AV) = I n) ∧ ((I 0 : AV) = I 0) ∧ ((I 4095 : AV) = I 4095) ∧ True] (by kernel_rfl) hB ⟨⟨(within_ok n 0 4095), rfl, rfl, rfl, trivial⟩, trivial⟩ ?_
  refine ae_then ?_
  refine aw_ret ?_
  refine ae_ret hB (Bv (inB n 0 4095)) (by kernel_rfl) (.inl rfl) rfl (fun _ => trivial)


-- impl.GapLimit$1
theorem gapLimit1_ok (g : Int) : Con Try.prog 73 [I g] true (Bv (!(inB g 0 4095))) := by
  refine fn_ok (fn := Try.f73) (nt := 6) Try.func73 rfl rfl rfl rfl (by simp [taggedL, tagged]) fun B hB => ?_
  refine aw_seq ?_
  refine aw_reg [] [0] [] [I g] [] [] (by kernel_rfl) hB trivial ?_
  refine ae_then ?_
  refine aw_seq ?_
  refine aw_reg [(1, .call [(true, I g)] true (Bv (inB g 0 4095)))] [2] [] [Bv (!(inB g 0 4095))] [] [Con Try.prog 74 [I g] true (Bv (inB g 0 4095)) ∧ ((I g : AV) = I g) ∧ True] (by kernel_rfl) hB ⟨⟨(isGap_ok g), rfl, trivial⟩, trivial⟩ ?_
  refine ae_then ?_
  refine aw_ret ?_
  refine ae_ret hB (Bv (!(inB g 0 4095))) (by kernel_rfl) (.inl rfl) rfl (fun _ => trivial)


-- slices.Clone[[]int64,int64]
theorem cloneI_ok (s : List Int) (hl : s.length ≤ 100000) : ∃ (out : List Int), (out = s) ∧ CallOK Try.prog 75 [slI false s] (lookO []) false (.arr 8211) (lookO [(8211, .arr 1 out.length (fI out))]) := by
  refine ⟨s, rfl, ?_⟩
  refine fn_okL [] [(8211, .arr 1 s.length (fI s))] (fn := Try.f75) (nt := 8) Try.func75 rfl rfl (args := [slI false s]) rfl (allcons (.inl ⟨rfl, tagI false _⟩) allnil) (res := .arr 8211) (fun B hB => ?_)
  refine aw_seq ?_
  refine aw_reg [] [0] [] [slI false s] [] [] (by kernel_rfl) hB trivial ?_
  refine ae_then ?_
  refine aw_seq ?_
  refine aw_seq ?_
  refine aw_reg [] [0, 4] [] [slI false s, .nilq s.length] [] [] (by kernel_rfl) hB trivial ?_
  refine ae_then ?_
  refine aw_nilq (n := s.length) rfl (fun h1 => ?_) ?_
  · refine aw_seq ?_
    refine aw_reg [] [2] [] [nilA] [] [] (by kernel_rfl) hB trivial ?_
    refine ae_then ?_
    refine aw_ret ?_
    refine ae_ret_then ?_
    refine ae_nil hB 2 8211 1 (fun _ => []) (by kernel_rfl) ?_
    refine ae_weak hB [] (T := [(2, .arr 8211)]) (O := [(8211, .arr 1 s.length (fI s))]) rfl (⟨.inl rfl, trivial⟩) (⟨.inr ⟨rfl, (by omega), fun i_ hi_ => absurd hi_ (by omega)⟩, trivial⟩) ?_
    refine ae_retL hB [(8211, .arr 1 s.length (fI s))] (⟨.inl rfl, trivial⟩) (.arr 8211) (by kernel_rfl) (.inl rfl) (fun h => by cases h) (fun h => by cases h)
  · refine aw_skip ?_
    refine ae_then ?_
    refine aw_seq ?_
    refine aw_reg [(0, .new 5), (2, .new 7)] [2] [7] [.arr 7] [some (.arr 1 (0 + s.length) (catF 0 (litF [] 1) (fI s)))] [(0 + s.length) * 8 ≤ 140737488355328] (by kernel_rfl) hB ⟨(by omega), trivial⟩ ?_
    refine ae_then ?_
    refine aw_ret ?_
    refine ae_weak hB [(8211, 7)] (T := [(2, .arr 8211)]) (O := [(8211, .arr 1 s.length (fI s))]) rfl (⟨.inl rfl, trivial⟩) (⟨.inr ⟨rfl, (by simp), fun i_ hi_ => .inl (cat_nil i_)⟩, trivial⟩) ?_
    refine ae_retL hB [(8211, .arr 1 s.length (fI s))] (⟨.inl rfl, trivial⟩) (.arr 8211) (by kernel_rfl) (.inl rfl) (fun h => by cases h) (fun h => by cases h)


-- slices.Sort[[]int64,int64]
theorem sort_ok (list : List Int) (hl : list.length < 4611686018427387904) : ∃ (list' : List Int), (list' = sortL list) ∧ CallOK Try.prog 76 [.arr 7201] (lookO [(7201, .arr 1 list.length (fI list))]) false (.tup []) (lookO [(7201, .arr 1 list'.length (fI list'))]) :=
  ⟨sortL list, rfl, sort_callOK (fun blk off cap zs w h1 h2 h3 => AnyG.slices_Sort_int Try.laysSort blk off cap zs w h1 h2 h3) (fun p cap w => AnyG.slices_Sort_int_none Try.laysSort p cap w) 7201 list hl⟩


-- impl.abs
theorem abs_ok (n : Int) (hn : -9223372036854775807 ≤ n ∧ n ≤ 9223372036854775807) : Con Try.prog 110 [I n] true (I (n.natAbs : Int)) := by
  refine fn_ok (fn := Try.f110) (nt := 8) Try.func110 rfl rfl rfl rfl (by simp [taggedL, tagged]) fun B hB => ?_
  refine aw_seq ?_
  refine aw_reg [] [0] [] [I n] [] [] (by kernel_rfl) hB trivial ?_
  refine ae_then ?_
  refine aw_seq ?_
  refine aw_seq ?_
  by_cases h1 : n < 0
  ·refine aw_reg [(1, .dec true)] [0, 4] [] [I n, Bv true] [] [n < 0] (by kernel_rfl) hB ⟨h1, trivial⟩ ?_
   refine ae_then ?_
   refine aw_true rfl ?_
   refine aw_seq ?_
   refine aw_reg [] [2] [] [I (-n)] [] [inR .i64 (-n)] (by kernel_rfl) hB ⟨(inR_i64 (by omega) (by omega)), trivial⟩ ?_
   refine ae_then ?_
   refine aw_ret ?_
   refine ae_ret_then ?_
   refine ae_ret hB (I (-n)) (by kernel_rfl) (.inl (by refine congrArg I ?_; omega)) rfl (fun _ => trivial)
  ·refine aw_reg [(1, .dec false)] [0, 4] [] [I n, Bv false] [] [¬ (n < 0)] (by kernel_rfl) hB ⟨h1, trivial⟩ ?_
   refine ae_then ?_
   refine aw_false rfl ?_
   refine aw_skip ?_
   refine ae_then ?_
   refine aw_seq ?_
   refine aw_reg [] [2] [] [I n] [] [] (by kernel_rfl) hB trivial ?_
   refine ae_then ?_
   refine aw_ret ?_
   refine ae_ret hB (I n) (by kernel_rfl) (.inl (by refine congrArg I ?_; omega)) rfl (fun _ => trivial)


-- impl.spreadOf
theorem spreadOf_ok (list : List Int) (hl : 1 ≤ list.length ∧ list.length ≤ 1000) (hm : ∀ x ∈ list, 0 ≤ x ∧ x ≤ 4095) : Con Try.prog 77 [slI false list] true (I (sprI list)) := by
  have hmm := hm _ (at_mem (xs := list) (i := (list.length - 1) / 2) (by omega))
  have hix : (((list.length : Int) - 1) / 2).toNat = (list.length - 1) / 2 := by omega
  have hix2 : (Int.tdiv ((list.length : Int) - 1) 2).toNat = (list.length - 1) / 2 := by rw [Int.tdiv_eq_ediv_of_nonneg (by omega)]; omega
  refine fn_ok (fn := Try.f77) (nt := 28) Try.func77 rfl rfl rfl rfl (by simp [taggedL, tagged, tagI]) fun B hB => ?_
  refine aw_lens (x := slI false list) 0 rfl (fun len_list => ?_)
  simp [LenOK, LenL, cI, fI, slI] at len_list
  refine aw_seq ?_
  refine aw_reg [] [0] [] [slI false list] [] [] (by kernel_rfl) hB trivial ?_
  refine ae_then ?_
  refine aw_seq ?_
  refine aw_reg [(4, .nn)] [0, 3] [] [slI false list, I (at_ list ((((list.length : Int) - 1) / 2).toNat))] [] [inR .i64 ((list.length : Int) - 1), (0 : Int) ≤ ((list.length : Int) - 1) ∧ (0 : Int) < 2 ∧ inR .i64 ((list.length : Int) - 1), (0 : Int) ≤ (((list.length : Int) - 1) / 2) ∧ (((list.length : Int) - 1) / 2) < (list.length : Int)] (by kernel_rfl) hB ⟨(inR_i64 (by omega) (by omega)), ⟨(by omega), (by omega), (inR_i64 (by omega) (by omega))⟩, ⟨(by omega), (by omega)⟩, trivial⟩ ?_
  refine ae_then ?_
  refine aw_seq ?_
  refine aw_reg [] [0, 3, 4] [] [slI false list, I (at_ list ((((list.length : Int) - 1) / 2).toNat)), I 0] [] [] (by kernel_rfl) hB trivial ?_
  refine ae_then ?_
  refine aw_seq ?_
  refine aw_seq ?_
  refine aw_reg [] [3, 4, 14, 15, 16] [] [I (at_ list ((((list.length : Int) - 1) / 2).toNat)), I 0, slI false list, I (list.length : Int), I 0] [] [] (by kernel_rfl) hB trivial ?_
  refine ae_then ?_
  refine aw_block ?_
  refine aw_loop (fun gn gσ => ∃ (sum : Int) (t16 : Int), gn = ((list.length : Int) - t16).toNat ∧ (0 ≤ t16 ∧ t16 ≤ (list.length : Int)) ∧ (sum = sprT list (at_ list ((list.length - 1) / 2)) t16.toNat) ∧ gσ = mkS [(3, I (at_ list ((((list.length : Int) - 1) / 2).toNat))), (4, I sum), (14, slI false list), (15, I (list.length : Int)), (16, I t16)] []) (((list.length : Int) - 0).toNat) ⟨0, 0, rfl, (by omega), (by rfl), rfl⟩ (fun gn gσ hI => ?_)
  obtain ⟨sum, t16, rfl, hi0, hs0, rfl⟩ := hI
  refine aw_seq ?_
  by_cases h1 : t16 < (list.length : Int)
  ·have hi : t16.toNat < list.length := by omega
   have hmi := hm _ (at_mem hi)
   have hsb := sprT_bd hm hmm t16.toNat (by omega)
   have hsn := sprT_nn list (at_ list ((list.length - 1) / 2)) t16.toNat
   have hmm2 := hmm
   rw [← hix] at hmm2
   refine aw_reg [(0, .dec true)] [3, 4, 14, 15, 16, 17] [] [I (at_ list ((((list.length : Int) - 1) / 2).toNat)), I sum, slI false list, I (list.length : Int), I t16, Bv true] [] [t16 < (list.length : Int)] (by kernel_rfl) hB ⟨h1, trivial⟩ ?_
   refine ae_then ?_
   refine aw_seq ?_
   refine aw_true rfl ?_
   refine aw_skip ?_
   refine ae_then ?_
   refine aw_seq ?_
   refine aw_block ?_
   refine aw_seq ?_
   refine aw_reg [] [3, 4, 6, 14, 15, 16] [] [I (at_ list ((((list.length : Int) - 1) / 2).toNat)), I sum, I (at_ list t16.toNat), slI false list, I (list.length : Int), I t16] [] [(0 : Int) ≤ t16 ∧ t16 < (list.length : Int)] (by kernel_rfl) hB ⟨⟨(by omega), (by omega)⟩, trivial⟩ ?_
   refine ae_then ?_
   refine aw_reg [(4, .call [(true, I ((at_ list t16.toNat) - (at_ list ((((list.length : Int) - 1) / 2).toNat))))] true (I (((at_ list t16.toNat) - (at_ list ((((list.length : Int) - 1) / 2).toNat))).natAbs : Int)))] [3, 4, 14, 15, 16] [] [I (at_ list ((((list.length : Int) - 1) / 2).toNat)), I (sum + (((at_ list t16.toNat) - (at_ list ((((list.length : Int) - 1) / 2).toNat))).natAbs : Int)), slI false list, I (list.length : Int), I t16] [] [inR .i64 ((at_ list t16.toNat) - (at_ list ((((list.length : Int) - 1) / 2).toNat))), Con Try.prog 110 [I ((at_ list t16.toNat) - (at_ list ((((list.length : Int) - 1) / 2).toNat)))] true (I (((at_ list t16.toNat) - (at_ list ((((list.length : Int) - 1) / 2).toNat))).natAbs : Int)) ∧ ((I ((at_ list t16.toNat) - (at_ list ((((list.length : Int) - 1) / 2).toNat))) : AV) = I ((at_ list t16.toNat) - (at_ list ((((list.length : Int) - 1) / 2).toNat)))) ∧ True, inR .i64 (sum + (((at_ list t16.toNat) - (at_ list ((((list.length : Int) - 1) / 2).toNat))).natAbs : Int))] (by kernel_rfl) hB ⟨(inR_i64 (by omega) (by omega)), ⟨(abs_ok ((at_ list t16.toNat) - (at_ list ((((list.length : Int) - 1) / 2).toNat))) (by omega)), rfl, trivial⟩, (inR_i64 (by omega) (by omega)), trivial⟩ ?_
   refine ae_block 1 ?_
   refine ae_then ?_
   refine aw_reg [] [3, 4, 14, 15, 16] [] [I (at_ list ((((list.length : Int) - 1) / 2).toNat)), I (sum + (((at_ list t16.toNat) - (at_ list ((((list.length : Int) - 1) / 2).toNat))).natAbs : Int)), slI false list, I (list.length : Int), I (t16 + 1)] [] [inR .i64 (t16 + 1)] (by kernel_rfl) hB ⟨(inR_i64 (by omega) (by omega)), trivial⟩ ?_
   exact ae_again _ (by omega) ⟨(sum + (((at_ list t16.toNat) - (at_ list ((((list.length : Int) - 1) / 2).toNat))).natAbs : Int)), (t16 + 1), rfl, (by omega), (by rw [sprT_succ hi0.1, ← hs0, ← hix]), rfl⟩
  ·have hie : t16.toNat = list.length := by omega
   rw [hie] at hs0
   refine aw_reg [(0, .dec false)] [3, 4, 14, 15, 16, 17] [] [I (at_ list ((((list.length : Int) - 1) / 2).toNat)), I sum, slI false list, I (list.length : Int), I t16, Bv false] [] [¬ (t16 < (list.length : Int))] (by kernel_rfl) hB ⟨h1, trivial⟩ ?_
   refine ae_then ?_
   refine aw_seq ?_
   refine aw_false rfl ?_
   refine aw_exit ?_
   refine ae_exit_then ?_
   refine ae_exit_then ?_
   refine ae_exit_same ?_
   refine ae_then ?_
   refine aw_seq ?_
   refine aw_reg [] [2] [] [I sum] [] [] (by kernel_rfl) hB trivial ?_
   refine ae_then ?_
   refine aw_ret ?_
   refine ae_ret hB (I sum) (by kernel_rfl) (.inl (by rw [hs0]; rfl)) rfl (fun _ => trivial)


theorem sprI_bd {l : List Int} (h1 : 1 ≤ l.length ∧ l.length ≤ 1000) (hm : ∀ x ∈ l, 0 ≤ x ∧ x ≤ 4095) : 0 ≤ sprI l ∧ sprI l ≤ 4095000 := by
  have hb := sprT_bd hm (hm _ (at_mem (xs := l) (i := (l.length - 1) / 2) (by omega))) l.length (Nat.le_refl _)
  have hn := sprT_nn l (at_ l ((l.length - 1) / 2)) l.length
  unfold sprI; omega
theorem okGs_all {xs : List Int} (h : ∀ j : Nat, j < xs.length → inB (at_ xs j) 0 4095 = true) : okGs xs = true := allN_at h
theorem okGs_no {xs : List Int} {i : Nat} (hi : i < xs.length) (h : inB (at_ xs i) 0 4095 = false) : okGs xs = false := allN_not hi h

theorem gl_step {p : Int × Int} {least c : Int} (hl : least = if p.1 < 0 then -1 else p.2) (hp : p.1 = -1 ∨ (1 ≤ p.1 ∧ 0 ≤ p.2)) : (least < 0 ∨ c < least) ↔ (p.1 < 0 ∨ c < p.2) := by
  by_cases h : p.1 < 0
  · rw [if_pos h] at hl; omega
  · rw [if_neg h] at hl; omega
theorem gpS_in2 (q : List Int) (k : Nat) : (gpS q k).1 = -1 ∨ (1 ≤ (gpS q k).1 ∧ 0 ≤ (gpS q k).2) := by
  rcases gpS_in q k with h | h
  · exact .inl h
  · exact .inr ⟨h.1, h.2.2.2⟩

-- impl.GapLimit
theorem containsGap_ok_idx (s : List Int) : Con Try.prog 135 [slI false s, .fn 73 []] true (I (firstN s.length (fun j => (!(inB (at_ s j) 0 4095))))) := by
  refine fn_ok (fn := Try.f135) (nt := 19) Try.func135 rfl rfl rfl rfl (by simp [taggedL, tagged, tagI]) fun B hB => ?_
  refine aw_lens (x := slI false s) 0 rfl (fun len_s => ?_)
  simp [LenOK, LenL, cI, fI, slI] at len_s
  refine aw_seq ?_
  refine aw_reg [] [0, 1] [] [slI false s, .fn 73 []] [] [] (by kernel_rfl) hB trivial ?_
  refine ae_then ?_
  refine aw_seq ?_
  refine aw_seq ?_
  refine aw_reg [] [0, 1, 7, 8] [] [slI false s, .fn 73 [], I (s.length : Int), I 0] [] [] (by kernel_rfl) hB trivial ?_
  refine ae_then ?_
  refine aw_block ?_
  refine aw_loop (fun gn gσ => ∃ (t8 : Int), gn = ((s.length : Int) - t8).toNat ∧ (0 ≤ t8 ∧ t8 ≤ (s.length : Int)) ∧ (∀ j : Nat, (j : Int) < t8 → (!(inB (at_ s j) 0 4095)) = false) ∧ gσ = mkS [(0, slI false s), (1, .fn 73 []), (7, I (s.length : Int)), (8, I t8)] []) (((s.length : Int) - 0).toNat) ⟨0, rfl, (by omega), (by intro j hj; omega), rfl⟩ (fun gn gσ hI => ?_)
  obtain ⟨t8, rfl, hi0, hall0, rfl⟩ := hI
  refine aw_seq ?_
  by_cases h1 : t8 < (s.length : Int)
  ·have hi : t8.toNat < s.length := by omega
   refine aw_reg [(0, .dec true)] [0, 1, 7, 8, 9] [] [slI false s, .fn 73 [], I (s.length : Int), I t8, Bv true] [] [t8 < (s.length : Int)] (by kernel_rfl) hB ⟨h1, trivial⟩ ?_
   refine ae_then ?_
   refine aw_seq ?_
   refine aw_true rfl ?_
   refine aw_skip ?_
   refine ae_then ?_
   refine aw_seq ?_
   refine aw_block ?_
   refine aw_seq ?_
   refine aw_reg [] [0, 1, 5, 7, 8] [] [slI false s, .fn 73 [], I t8, I (s.length : Int), I t8] [] [] (by kernel_rfl) hB trivial ?_
   refine ae_then ?_
   refine aw_seq ?_
   rcases Bool.eq_false_or_eq_true (!(inB (at_ s t8.toNat) 0 4095)) with h2 | h2
   ·have hfin : firstN s.length (fun j => (!(inB (at_ s j) 0 4095))) = t8.toNat := firstN_hit hi h2 (fun j hj => hall0 j (by omega))
    refine aw_reg [(5, .call [(true, I (at_ s t8.toNat))] true (Bv true))] [0, 1, 5, 7, 8, 16] [] [slI false s, .fn 73 [], I t8, I (s.length : Int), I t8, Bv true] [] [(0 : Int) ≤ t8 ∧ t8 < (s.length : Int), Con Try.prog 73 [I (at_ s t8.toNat)] true (Bv true) ∧ ((I (at_ s t8.toNat) : AV) = I (at_ s t8.toNat)) ∧ True] (by kernel_rfl) hB ⟨⟨(by omega), (by omega)⟩, ⟨(con_bool h2 (gapLimit1_ok (at_ s t8.toNat))), rfl, trivial⟩, trivial⟩ ?_
    refine ae_then ?_
    refine aw_true rfl ?_
    refine aw_seq ?_
    refine aw_reg [] [4] [] [I t8] [] [] (by kernel_rfl) hB trivial ?_
    refine ae_then ?_
    refine aw_ret ?_
    refine ae_ret_block (ae_ret_then (ae_ret_then (ae_ret_block (ae_ret_then ?_))))
    refine ae_ret hB (I t8) (by kernel_rfl) (.inl (by refine congrArg I ?_; first | (rw [hfin]; done) | (rw [hfin]; omega))) rfl (fun _ => trivial)
   ·refine aw_reg [(5, .call [(true, I (at_ s t8.toNat))] true (Bv false))] [0, 1, 5, 7, 8, 16] [] [slI false s, .fn 73 [], I t8, I (s.length : Int), I t8, Bv false] [] [(0 : Int) ≤ t8 ∧ t8 < (s.length : Int), Con Try.prog 73 [I (at_ s t8.toNat)] true (Bv false) ∧ ((I (at_ s t8.toNat) : AV) = I (at_ s t8.toNat)) ∧ True] (by kernel_rfl) hB ⟨⟨(by omega), (by omega)⟩, ⟨(con_bool h2 (gapLimit1_ok (at_ s t8.toNat))), rfl, trivial⟩, trivial⟩ ?_
    refine ae_then ?_
    refine aw_false rfl ?_
    refine aw_skip ?_
    refine ae_block 1 ?_
    refine ae_then ?_
    refine aw_reg [] [0, 1, 7, 8] [] [slI false s, .fn 73 [], I (s.length : Int), I (t8 + 1)] [] [inR .i64 (t8 + 1)] (by kernel_rfl) hB ⟨(inR_i64 (by omega) (by omega)), trivial⟩ ?_
    exact ae_again _ (by omega) ⟨(t8 + 1), rfl, (by omega), (by intro j hj; by_cases ej : j = t8.toNat; (subst ej; assumption); exact hall0 j (by omega)), rfl⟩
  ·have hfin : firstN s.length (fun j => (!(inB (at_ s j) 0 4095))) = -1 := firstN_none (fun j hj => hall0 j (by omega))
   refine aw_reg [(0, .dec false)] [0, 1, 7, 8, 9] [] [slI false s, .fn 73 [], I (s.length : Int), I t8, Bv false] [] [¬ (t8 < (s.length : Int))] (by kernel_rfl) hB ⟨h1, trivial⟩ ?_
   refine ae_then ?_
   refine aw_seq ?_
   refine aw_false rfl ?_
   refine aw_exit ?_
   refine ae_exit_then ?_
   refine ae_exit_then ?_
   refine ae_exit_same ?_
   refine ae_then ?_
   refine aw_seq ?_
   refine aw_reg [] [4] [] [I (-1)] [] [] (by kernel_rfl) hB trivial ?_
   refine ae_then ?_
   refine aw_ret ?_
   refine ae_ret hB (I (-1)) (by kernel_rfl) (.inl (by refine congrArg I ?_; first | (rw [hfin]; done) | (rw [hfin]; omega))) rfl (fun _ => trivial)

theorem containsGap_ok (s : List Int) : Con Try.prog 72 [slI false s, .fn 73 []] true (Bv (anyN s.length (fun j => (!(inB (at_ s j) 0 4095))))) := by
  refine fn_ok (fn := Try.f72) (nt := 9) Try.func72 rfl rfl rfl rfl (by simp [taggedL, tagged, tagI]) fun B hB => ?_
  refine aw_lens (x := slI false s) 0 rfl (fun len_s => ?_)
  simp [LenOK, LenL, cI, fI, slI] at len_s
  refine aw_seq ?_
  refine aw_reg [] [0, 1] [] [slI false s, .fn 73 []] [] [] (by kernel_rfl) hB trivial ?_
  refine ae_then ?_
  refine aw_seq ?_
  refine aw_reg [(2, .call [(true, slI false s), (true, .fn 73 [])] true (I (firstN s.length (fun j => (!(inB (at_ s j) 0 4095))))))] [4] [] [Bv (decide (0 ≤ (firstN s.length (fun j => (!(inB (at_ s j) 0 4095))))))] [] [Con Try.prog 135 [slI false s, .fn 73 []] true (I (firstN s.length (fun j => (!(inB (at_ s j) 0 4095))))) ∧ ((slI false s : AV) = slI false s) ∧ ((.fn 73 [] : AV) = .fn 73 []) ∧ True] (by kernel_rfl) hB ⟨⟨(containsGap_ok_idx s), rfl, rfl, trivial⟩, trivial⟩ ?_
  refine ae_then ?_
  refine aw_ret ?_
  refine ae_ret hB (Bv (decide (0 ≤ (firstN s.length (fun j => (!(inB (at_ s j) 0 4095))))))) (by kernel_rfl) (.inl (by exact congrArg Bv (firstN_any _ _))) rfl (fun _ => trivial)

theorem implGapLimit_ok (gaps : List Int) (hl : gaps.length ≤ 1000) : Con Try.prog 21 [slI false gaps] true (.tup [I ((gapR gaps).1), I ((gapR gaps).2)]) := by
  refine fn_ok (fn := Try.f21) (nt := 59) Try.func21 rfl rfl rfl rfl (by simp [taggedL, tagged, tagI]) fun B hB => ?_
  refine aw_lens (x := slI false gaps) 0 rfl (fun len_gaps => ?_)
  simp [LenOK, LenL, cI, fI, slI] at len_gaps
  refine aw_seq ?_
  refine aw_reg [] [0] [] [slI false gaps] [] [] (by kernel_rfl) hB trivial ?_
  refine ae_then ?_
  refine aw_seq ?_
  refine aw_seq ?_
  rcases Bool.eq_false_or_eq_true (anyN gaps.length (fun j => (!(inB (at_ gaps j) 0 4095)))) with h1 | h1
  ·have hst := gapR_inv (xs := gaps) (by have e : anyN gaps.length (fun j => !(inB (at_ gaps j) 0 4095)) = !(okGs gaps) := anyN_not _ _; rw [e] at h1; simpa using h1)
   refine aw_reg [(1, .call [(true, slI false gaps), (true, .fn 73 [])] true (Bv true))] [0, 10] [] [slI false gaps, Bv true] [] [Con Try.prog 72 [slI false gaps, .fn 73 []] true (Bv true) ∧ ((slI false gaps : AV) = slI false gaps) ∧ ((.fn 73 [] : AV) = .fn 73 []) ∧ True] (by kernel_rfl) hB ⟨⟨(con_bool h1 (containsGap_ok gaps)), rfl, rfl, trivial⟩, trivial⟩ ?_
   refine ae_then ?_
   refine aw_true rfl ?_
   refine aw_seq ?_
   refine aw_reg [] [2, 3] [] [I 0, I 1] [] [] (by kernel_rfl) hB trivial ?_
   refine ae_then ?_
   refine aw_ret ?_
   refine ae_ret_then ?_
   refine ae_ret hB (.tup [I 0, I 1]) (by kernel_rfl) (.inl (by first | (rw [hst]; done) | (rw [hst, hg1]; done))) rfl (fun _ => (by simp [tagged, taggedL]))
  ·have hgs : okGs gaps = true := by have e : anyN gaps.length (fun j => !(inB (at_ gaps j) 0 4095)) = !(okGs gaps) := anyN_not _ _; rw [e] at h1; simpa using h1
   refine aw_reg [(1, .call [(true, slI false gaps), (true, .fn 73 [])] true (Bv false))] [0, 10] [] [slI false gaps, Bv false] [] [Con Try.prog 72 [slI false gaps, .fn 73 []] true (Bv false) ∧ ((slI false gaps : AV) = slI false gaps) ∧ ((.fn 73 [] : AV) = .fn 73 []) ∧ True] (by kernel_rfl) hB ⟨⟨(con_bool h1 (containsGap_ok gaps)), rfl, rfl, trivial⟩, trivial⟩ ?_
   refine ae_then ?_
   refine aw_false rfl ?_
   refine aw_skip ?_
   refine ae_then ?_
   refine aw_seq ?_
   refine aw_seq ?_
   by_cases h2 : 60 < (gaps.length : Int)
   ·have hst := gapR_full hgs h2
    refine aw_reg [(2, .dec true)] [0, 13] [] [slI false gaps, Bv true] [] [60 < (gaps.length : Int)] (by kernel_rfl) hB ⟨h2, trivial⟩ ?_
    refine ae_then ?_
    refine aw_true rfl ?_
    refine aw_seq ?_
    refine aw_reg [] [2, 3] [] [I 0, I 5] [] [] (by kernel_rfl) hB trivial ?_
    refine ae_then ?_
    refine aw_ret ?_
    refine ae_ret_then ?_
    refine ae_ret hB (.tup [I 0, I 5]) (by kernel_rfl) (.inl (by first | (rw [hst]; done) | (rw [hst, hg1]; done))) rfl (fun _ => (by simp [tagged, taggedL]))
   ·have hgo := gapR_go hgs h2
    refine aw_reg [(2, .dec false)] [0, 13] [] [slI false gaps, Bv false] [] [¬ (60 < (gaps.length : Int))] (by kernel_rfl) hB ⟨h2, trivial⟩ ?_
    refine ae_then ?_
    refine aw_false rfl ?_
    refine aw_skip ?_
    refine ae_then ?_
    refine aw_seq ?_
    obtain ⟨out_1, hx1_0, hc1⟩ := cloneI_ok gaps (by omega)
    have hcl : out_1.length = gaps.length := by rw [hx1_0]
    refine aw_reg [(1, .lend [] [(8211, .arr 1 out_1.length (fI out_1))] [(true, slI false gaps)] false (.arr 8211))] [4] [8211] [.arr 8211] [some (.arr 1 out_1.length (fI out_1))] [CallOK Try.prog 75 [slI false gaps] (lookO []) false (.arr 8211) (lookO [(8211, .arr 1 out_1.length (fI out_1))]) ∧ ((slI false gaps : AV) = slI false gaps) ∧ True] (by kernel_rfl) hB ⟨⟨hc1, rfl, trivial⟩, trivial⟩ ?_
    refine ae_then ?_
    refine aw_seq ?_
    refine aw_weak hB [(7201, 8211)] (T := [(4, .arr 7201)]) (O := [(7201, .arr 1 out_1.length (fI out_1))]) rfl (⟨.inl rfl, trivial⟩) (⟨.inl rfl, trivial⟩) ?_
    obtain ⟨list'_2, hx2_0, hc2⟩ := sort_ok out_1 (by omega)
    have hq : list'_2 = sortL gaps := by rw [hx2_0, hx1_0]
    have hqm : ∀ x ∈ list'_2, 0 ≤ x ∧ x ≤ 4095 := by rw [hq]; exact okGs_mem hgs
    have hql : list'_2.length = gaps.length := by rw [hq, sortL_len]
    rw [← hq] at hgo
    refine aw_reg [(1, .lend [(7201, .arr 1 out_1.length (fI out_1), .arr 1 list'_2.length (fI list'_2))] [] [(true, .arr 7201)] false (.tup []))] [4] [7201] [.arr 7201] [some (.arr 1 list'_2.length (fI list'_2))] [CallOK Try.prog 76 [.arr 7201] (lookO [(7201, .arr 1 out_1.length (fI out_1))]) false (.tup []) (lookO [(7201, .arr 1 list'_2.length (fI list'_2))]) ∧ ((.arr 7201 : AV) = .arr 7201) ∧ (((.arr 1 out_1.length (fI out_1) : Ob) = .arr 1 out_1.length (fI out_1) ∨ obLe noOb true (.arr 1 out_1.length (fI out_1)) (.arr 1 out_1.length (fI out_1))) ∧ taggedO false (.arr 1 out_1.length (fI out_1))) ∧ True] (by kernel_rfl) hB ⟨⟨hc2, rfl, ⟨.inl rfl, fun _ _ => tagcI false _⟩, trivial⟩, trivial⟩ ?_
    refine ae_then ?_
    refine aw_seq ?_
    refine aw_reg [] [4, 5, 6] [7201] [.arr 7201, I 0, I (-1)] [some (.arr 1 list'_2.length (fI list'_2))] [] (by kernel_rfl) hB trivial ?_
    refine ae_then ?_
    refine aw_seq ?_
    refine aw_seq ?_
    refine aw_reg [] [4, 5, 6, 7] [7201] [.arr 7201, I 0, I (-1), I 1] [some (.arr 1 list'_2.length (fI list'_2))] [] (by kernel_rfl) hB trivial ?_
    refine ae_then ?_
    refine aw_block ?_
    refine aw_weak hB [] (T := [(4, slI true list'_2), (5, I 0), (6, I (-1)), (7, I 1)]) (O := []) rfl (⟨.inr ⟨(fun _ => rfl), rfl, rfl, fun i _ => .inl rfl⟩, .inl rfl, .inl rfl, .inl rfl, trivial⟩) (trivial) ?_
    refine aw_loop (fun gn gσ => ∃ (limit : Int) (least : Int) (k : Int), gn = ((list'_2.length : Int) - k).toNat ∧ (1 ≤ k ∧ (k ≤ (list'_2.length : Int) ∨ k = 1)) ∧ (least = (if (gpS list'_2 k.toNat).1 < 0 then -1 else (gpS list'_2 k.toNat).2)) ∧ (limit = (if (gpS list'_2 k.toNat).1 < 0 then 0 else at_ list'_2 ((gpS list'_2 k.toNat).1 - 1).toNat)) ∧ (-1 ≤ least ∧ least ≤ 9000000) ∧ gσ = mkS [(4, slI true list'_2), (5, I limit), (6, I least), (7, I k)] []) (((list'_2.length : Int) - 1).toNat) ⟨0, (-1), 1, rfl, (by omega), (by rw [show (1 : Int).toNat = 1 from rfl, gpS_one]; rfl), (by rw [show (1 : Int).toNat = 1 from rfl, gpS_one]; rfl), (by omega), rfl⟩ (fun gn gσ hI => ?_)
    obtain ⟨limit, least, k, rfl, hkk, hg0, hg1, hbb, rfl⟩ := hI
    refine aw_seq ?_
    refine aw_seq ?_
    by_cases h3 : k < (list'_2.length : Int)
    ·have hk : k.toNat < list'_2.length := by omega
     have hqk := sprI_bd (l := list'_2.take k.toNat) (by simp only [List.length_take]; omega) (fun x hx => hqm x (List.mem_of_mem_take hx))
     have hqd := sprI_bd (l := list'_2.drop k.toNat) (by simp only [List.length_drop]; omega) (fun x hx => hqm x (List.mem_of_mem_drop hx))
     have hgc : sprI (list'_2.take k.toNat) + sprI (list'_2.drop k.toNat) = gpC list'_2 k.toNat := rfl
     have hgn := gpC_nn list'_2 k.toNat
     have hgi := gpS_in2 list'_2 k.toNat
     have hle : at_ list'_2 (k - 1).toNat ≤ at_ list'_2 k.toNat := by rw [hq]; rw [hq] at hk; exact sorted_le (by omega) hk
     refine aw_reg [(3, .dec true)] [4, 5, 6, 7, 21] [] [slI true list'_2, I limit, I least, I k, Bv true] [] [k < (list'_2.length : Int)] (by kernel_rfl) hB ⟨h3, trivial⟩ ?_
     refine ae_then ?_
     refine aw_true rfl ?_
     refine aw_skip ?_
     refine ae_then ?_
     refine aw_seq ?_
     refine aw_block ?_
     refine aw_seq ?_
     refine aw_seq ?_
     by_cases h4 : (at_ list'_2 ((k - 1).toNat)) = (at_ list'_2 k.toNat)
     ·have hgy := gpS_no (q := list'_2) (k := k) (by omega) (fun q => by have := q.1; omega)
      refine aw_reg [(9, .dec true)] [4, 5, 6, 7, 33] [] [slI true list'_2, I limit, I least, I k, Bv true] [] [inR .i64 (k - 1), (0 : Int) ≤ (k - 1) ∧ (k - 1) < (list'_2.length : Int), (0 : Int) ≤ k ∧ k < (list'_2.length : Int), (at_ list'_2 ((k - 1).toNat)) = (at_ list'_2 k.toNat)] (by kernel_rfl) hB ⟨(inR_i64 (by omega) (by omega)), ⟨(by omega), (by omega)⟩, ⟨(by omega), (by omega)⟩, h4, trivial⟩ ?_
      refine ae_then ?_
      refine aw_true rfl ?_
      refine aw_exit ?_
      refine ae_exit_then ?_
      refine ae_exit_same ?_
      refine ae_then ?_
      refine aw_reg [] [4, 5, 6, 7] [] [slI true list'_2, I limit, I least, I (k + 1)] [] [inR .i64 (k + 1)] (by kernel_rfl) hB ⟨(inR_i64 (by omega) (by omega)), trivial⟩ ?_
      exact ae_again _ (by omega) ⟨limit, least, (k + 1), rfl, (by omega), (by first | (rw [hgy]; exact hg0) | (rw [hgy]; show _ = if k < 0 then _ else _; rw [if_neg (by omega)]; rfl)), (by first | (rw [hgy]; exact hg1) | (rw [hgy]; show _ = if k < 0 then _ else _; rw [if_neg (by omega)])), (by omega), rfl⟩
     ·have hlt : at_ list'_2 (k - 1).toNat < at_ list'_2 k.toNat := by omega
      refine aw_reg [(9, .dec false)] [4, 5, 6, 7, 33] [] [slI true list'_2, I limit, I least, I k, Bv false] [] [inR .i64 (k - 1), (0 : Int) ≤ (k - 1) ∧ (k - 1) < (list'_2.length : Int), (0 : Int) ≤ k ∧ k < (list'_2.length : Int), ¬ ((at_ list'_2 ((k - 1).toNat)) = (at_ list'_2 k.toNat))] (by kernel_rfl) hB ⟨(inR_i64 (by omega) (by omega)), ⟨(by omega), (by omega)⟩, ⟨(by omega), (by omega)⟩, h4, trivial⟩ ?_
      refine ae_then ?_
      refine aw_false rfl ?_
      refine aw_skip ?_
      refine ae_then ?_
      refine aw_seq ?_
      refine aw_reg [(3, .call [(false, slI false (list'_2.take k.toNat))] true (I (sprI (list'_2.take k.toNat)))), (7, .call [(false, slI false (list'_2.drop k.toNat))] true (I (sprI (list'_2.drop k.toNat))))] [4, 5, 6, 7, 8] [] [slI true list'_2, I limit, I least, I k, I ((sprI (list'_2.take k.toNat)) + (sprI (list'_2.drop k.toNat)))] [] [(0 : Int) ≤ 0 ∧ (0 : Int) ≤ k ∧ k ≤ (list'_2.length : Int), Con Try.prog 77 [slI false (list'_2.take k.toNat)] true (I (sprI (list'_2.take k.toNat))) ∧ ((false = true → true = true) ∧ 1 = 1 ∧ (k.toNat - 0) = ((list'_2.take k.toNat).length) ∧ ∀ i, i < ((list'_2.take k.toNat).length) → (cutF 0 (fI list'_2)) i = (fI (list'_2.take k.toNat)) i ∨ (AV.idsL ((fI (list'_2.take k.toNat)) i) = [] ∧ leL (fun _ => none) false ((cutF 0 (fI list'_2)) i) ((fI (list'_2.take k.toNat)) i))) ∧ True, (0 : Int) ≤ k ∧ k ≤ (list'_2.length : Int) ∧ (list'_2.length : Int) ≤ (list'_2.length : Int), Con Try.prog 77 [slI false (list'_2.drop k.toNat)] true (I (sprI (list'_2.drop k.toNat))) ∧ ((false = true → true = true) ∧ 1 = 1 ∧ ((list'_2.length : Int).toNat - k.toNat) = ((list'_2.drop k.toNat).length) ∧ ∀ i, i < ((list'_2.drop k.toNat).length) → (cutF k.toNat (fI list'_2)) i = (fI (list'_2.drop k.toNat)) i ∨ (AV.idsL ((fI (list'_2.drop k.toNat)) i) = [] ∧ leL (fun _ => none) false ((cutF k.toNat (fI list'_2)) i) ((fI (list'_2.drop k.toNat)) i))) ∧ True, inR .i64 ((sprI (list'_2.take k.toNat)) + (sprI (list'_2.drop k.toNat)))] (by kernel_rfl) hB ⟨⟨(by omega), (by omega), (by omega)⟩, ⟨(spreadOf_ok (list'_2.take k.toNat) (by simp only [List.length_take, List.length_drop]; omega) (fun x hx => hqm x (by first | exact List.mem_of_mem_take hx | exact List.mem_of_mem_drop hx))), ⟨(fun h => by cases h), rfl, (by first | rfl | (simp; done) | (simp; omega) | omega), fun i_ hi_ => .inl (cut_take (enc := cI) hi_)⟩, trivial⟩, ⟨(by omega), (by omega), (by omega)⟩, ⟨(spreadOf_ok (list'_2.drop k.toNat) (by simp only [List.length_take, List.length_drop]; omega) (fun x hx => hqm x (by first | exact List.mem_of_mem_take hx | exact List.mem_of_mem_drop hx))), ⟨(fun h => by cases h), rfl, (by first | rfl | (simp; done) | (simp; omega) | omega), fun i_ hi_ => .inl (cut_drop (enc := cI) hi_)⟩, trivial⟩, (inR_i64 (by omega) (by omega)), trivial⟩ ?_
      refine ae_then ?_
      refine aw_seq ?_
      by_cases h5 : least < 0
      ·have hup := (gl_step (c := gpC list'_2 k.toNat) hg0 hgi).1 (.inl h5)
       have hgy := gpS_yes (q := list'_2) (k := k) (by omega) hlt hup
       refine aw_reg [(1, .dec true)] [4, 5, 6, 7, 8, 49] [] [slI true list'_2, I limit, I least, I k, I ((sprI (list'_2.take k.toNat)) + (sprI (list'_2.drop k.toNat))), Bv true] [] [least < 0] (by kernel_rfl) hB ⟨h5, trivial⟩ ?_
       refine ae_then ?_
       refine aw_true rfl ?_
       refine aw_reg [] [4, 5, 6, 7] [] [slI true list'_2, I (at_ list'_2 ((k - 1).toNat)), I ((sprI (list'_2.take k.toNat)) + (sprI (list'_2.drop k.toNat))), I k] [] [inR .i64 (k - 1), (0 : Int) ≤ (k - 1) ∧ (k - 1) < (list'_2.length : Int)] (by kernel_rfl) hB ⟨(inR_i64 (by omega) (by omega)), ⟨(by omega), (by omega)⟩, trivial⟩ ?_
       refine ae_block 1 ?_
       refine ae_then ?_
       refine aw_reg [] [4, 5, 6, 7] [] [slI true list'_2, I (at_ list'_2 ((k - 1).toNat)), I ((sprI (list'_2.take k.toNat)) + (sprI (list'_2.drop k.toNat))), I (k + 1)] [] [inR .i64 (k + 1)] (by kernel_rfl) hB ⟨(inR_i64 (by omega) (by omega)), trivial⟩ ?_
       exact ae_again _ (by omega) ⟨(at_ list'_2 ((k - 1).toNat)), ((sprI (list'_2.take k.toNat)) + (sprI (list'_2.drop k.toNat))), (k + 1), rfl, (by omega), (by first | (rw [hgy]; exact hg0) | (rw [hgy]; show _ = if k < 0 then _ else _; rw [if_neg (by omega)]; rfl)), (by first | (rw [hgy]; exact hg1) | (rw [hgy]; show _ = if k < 0 then _ else _; rw [if_neg (by omega)])), (by omega), rfl⟩
      ·by_cases h6 : ((sprI (list'_2.take k.toNat)) + (sprI (list'_2.drop k.toNat))) < least
       ·have hup := (gl_step (c := gpC list'_2 k.toNat) hg0 hgi).1 (.inr (by omega))
        have hgy := gpS_yes (q := list'_2) (k := k) (by omega) hlt hup
        refine aw_reg [(1, .dec false), (5, .dec true)] [4, 5, 6, 7, 8, 49] [] [slI true list'_2, I limit, I least, I k, I ((sprI (list'_2.take k.toNat)) + (sprI (list'_2.drop k.toNat))), Bv true] [] [¬ (least < 0), ((sprI (list'_2.take k.toNat)) + (sprI (list'_2.drop k.toNat))) < least] (by kernel_rfl) hB ⟨h5, h6, trivial⟩ ?_
        refine ae_then ?_
        refine aw_true rfl ?_
        refine aw_reg [] [4, 5, 6, 7] [] [slI true list'_2, I (at_ list'_2 ((k - 1).toNat)), I ((sprI (list'_2.take k.toNat)) + (sprI (list'_2.drop k.toNat))), I k] [] [inR .i64 (k - 1), (0 : Int) ≤ (k - 1) ∧ (k - 1) < (list'_2.length : Int)] (by kernel_rfl) hB ⟨(inR_i64 (by omega) (by omega)), ⟨(by omega), (by omega)⟩, trivial⟩ ?_
        refine ae_block 1 ?_
        refine ae_then ?_
        refine aw_reg [] [4, 5, 6, 7] [] [slI true list'_2, I (at_ list'_2 ((k - 1).toNat)), I ((sprI (list'_2.take k.toNat)) + (sprI (list'_2.drop k.toNat))), I (k + 1)] [] [inR .i64 (k + 1)] (by kernel_rfl) hB ⟨(inR_i64 (by omega) (by omega)), trivial⟩ ?_
        exact ae_again _ (by omega) ⟨(at_ list'_2 ((k - 1).toNat)), ((sprI (list'_2.take k.toNat)) + (sprI (list'_2.drop k.toNat))), (k + 1), rfl, (by omega), (by first | (rw [hgy]; exact hg0) | (rw [hgy]; show _ = if k < 0 then _ else _; rw [if_neg (by omega)]; rfl)), (by first | (rw [hgy]; exact hg1) | (rw [hgy]; show _ = if k < 0 then _ else _; rw [if_neg (by omega)])), (by omega), rfl⟩
       ·have hgy := gpS_no (q := list'_2) (k := k) (by omega) (fun q => by have := (gl_step (c := gpC list'_2 k.toNat) hg0 hgi).2 q.2; omega)
        refine aw_reg [(1, .dec false), (5, .dec false)] [4, 5, 6, 7, 8, 49] [] [slI true list'_2, I limit, I least, I k, I ((sprI (list'_2.take k.toNat)) + (sprI (list'_2.drop k.toNat))), Bv false] [] [¬ (least < 0), ¬ (((sprI (list'_2.take k.toNat)) + (sprI (list'_2.drop k.toNat))) < least)] (by kernel_rfl) hB ⟨h5, h6, trivial⟩ ?_
        refine ae_then ?_
        refine aw_false rfl ?_
        refine aw_skip ?_
        refine ae_block 1 ?_
        refine ae_then ?_
        refine aw_reg [] [4, 5, 6, 7] [] [slI true list'_2, I limit, I least, I (k + 1)] [] [inR .i64 (k + 1)] (by kernel_rfl) hB ⟨(inR_i64 (by omega) (by omega)), trivial⟩ ?_
        exact ae_again _ (by omega) ⟨limit, least, (k + 1), rfl, (by omega), (by first | (rw [hgy]; exact hg0) | (rw [hgy]; show _ = if k < 0 then _ else _; rw [if_neg (by omega)]; rfl)), (by first | (rw [hgy]; exact hg1) | (rw [hgy]; show _ = if k < 0 then _ else _; rw [if_neg (by omega)])), (by omega), rfl⟩
    ·have hke : gpS list'_2 k.toNat = gpS list'_2 list'_2.length := by rcases hkk.2 with q | q; (have e : k.toNat = list'_2.length := by omega); (rw [e]); (subst q; have e2 : list'_2.length = 0 ∨ list'_2.length = 1 := by omega); (rcases e2 with e2 | e2 <;> rw [e2] <;> simp [gpS])
     rw [hke] at hg0 hg1
     have hgi := gpS_in2 list'_2 list'_2.length
     refine aw_reg [(3, .dec false)] [4, 5, 6, 7, 21] [] [slI true list'_2, I limit, I least, I k, Bv false] [] [¬ (k < (list'_2.length : Int))] (by kernel_rfl) hB ⟨h3, trivial⟩ ?_
     refine ae_then ?_
     refine aw_false rfl ?_
     refine aw_exit ?_
     refine ae_exit_then ?_
     refine ae_exit_then ?_
     refine ae_exit_same ?_
     refine ae_then ?_
     refine aw_seq ?_
     refine aw_seq ?_
     by_cases h7 : least < 0
     ·have hst := hgo.trans (gapQ_no (by rcases hgi with q | q; omega; (rw [if_neg (by omega)] at hg0; omega)))
      refine aw_reg [(1, .dec true)] [5, 57] [] [I limit, Bv true] [] [least < 0] (by kernel_rfl) hB ⟨h7, trivial⟩ ?_
      refine ae_then ?_
      refine aw_true rfl ?_
      refine aw_seq ?_
      refine aw_reg [] [2, 3] [] [I 0, I 6] [] [] (by kernel_rfl) hB trivial ?_
      refine ae_then ?_
      refine aw_ret ?_
      refine ae_ret_then ?_
      refine ae_ret hB (.tup [I 0, I 6]) (by kernel_rfl) (.inl (by first | (rw [hst]; done) | (rw [hst, hg1]; done))) rfl (fun _ => (by simp [tagged, taggedL]))
     ·have hnn : ¬ (gpS list'_2 list'_2.length).1 < 0 := fun q => by rw [if_pos q] at hg0; omega
      have hst := hgo.trans (gapQ_yes hnn)
      rw [if_neg hnn] at hg1
      refine aw_reg [(1, .dec false)] [5, 57] [] [I limit, Bv false] [] [¬ (least < 0)] (by kernel_rfl) hB ⟨h7, trivial⟩ ?_
      refine ae_then ?_
      refine aw_false rfl ?_
      refine aw_skip ?_
      refine ae_then ?_
      refine aw_seq ?_
      refine aw_reg [] [2, 3] [] [I limit, I 0] [] [] (by kernel_rfl) hB trivial ?_
      refine ae_then ?_
      refine aw_ret ?_
      refine ae_ret hB (.tup [I limit, I 0]) (by kernel_rfl) (.inl (by first | (rw [hst]; done) | (rw [hst, hg1]; done))) rfl (fun _ => (by simp [tagged, taggedL]))


-- spec.l00In
theorem l00In_ok (n : Int) (low : Int) (high : Int) : Con Try.prog 86 [I n, I low, I high] true (Bv (inB n low high)) := by
  refine fn_ok (fn := Try.f86) (nt := 15) Try.func86 rfl rfl rfl rfl (by simp [taggedL, tagged]) fun B hB => ?_
  refine aw_seq ?_
  refine aw_reg [] [0, 1, 2] [] [I n, I low, I high] [] [] (by kernel_rfl) hB trivial ?_
  refine ae_then ?_
  refine aw_seq ?_
  by_cases h1 : low ≤ n
  ·refine aw_reg [(2, .dec true)] [6] [] [Bv (decide (n ≤ high))] [] [low ≤ n] (by kernel_rfl) hB ⟨h1, trivial⟩ ?_
   refine ae_then ?_
   refine aw_ret ?_
   refine ae_ret hB (Bv (decide (n ≤ high))) (by kernel_rfl) (.inl (by first | rfl | (refine congrArg Bv ?_; simp [inB, *]; done) | (refine congrArg Bv ?_; simp [inB, *]; omega) | (refine congrArg Bv ?_; simp_all [inB]; done) | (refine congrArg Bv ?_; simp_all [inB]; omega))) rfl (fun _ => trivial)
  ·refine aw_reg [(2, .dec false)] [6] [] [Bv false] [] [¬ (low ≤ n)] (by kernel_rfl) hB ⟨h1, trivial⟩ ?_
   refine ae_then ?_
   refine aw_ret ?_
   refine ae_ret hB (Bv false) (by kernel_rfl) (.inl (by first | rfl | (refine congrArg Bv ?_; simp [inB, *]; done) | (refine congrArg Bv ?_; simp [inB, *]; omega) | (refine congrArg Bv ?_; simp_all [inB]; done) | (refine congrArg Bv ?_; simp_all [inB]; omega))) rfl (fun _ => trivial)


-- spec.l19Gap
theorem l19Gap_ok (gap : Int) : Con Try.prog 78 [I gap] true (Bv (inB gap 0 4095)) := by
  refine fn_ok (fn := Try.f78) (nt := 5) Try.func78 rfl rfl rfl rfl (by simp [taggedL, tagged]) fun B hB => ?_
  refine aw_seq ?_
  refine aw_reg [] [0] [] [I gap] [] [] (by kernel_rfl) hB trivial ?_
  refine ae_then ?_
  refine aw_seq ?_
  refine aw_reg [(1, .call [(true, I gap), (true, I 0), (true, I 4095)] true (Bv (inB gap 0 4095)))] [2] [] [Bv (inB gap 0 4095)] [] [Con Try.prog 86 [I gap, I 0, I 4095] true (Bv (inB gap 0 4095)) ∧ ((I gap : AV) = I gap) ∧ ((I 0 : AV) = I 0) ∧ ((I 4095 : AV) = I 4095) ∧ True] (by kernel_rfl) hB ⟨⟨(l00In_ok gap 0 4095), rfl, rfl, rfl, trivial⟩, trivial⟩ ?_
  refine ae_then ?_
  refine aw_ret ?_
  refine ae_ret hB (Bv (inB gap 0 4095)) (by kernel_rfl) (.inl rfl) rfl (fun _ => trivial)


-- spec.l00Own
theorem l00Own_ok (list : List Int) (hl : list.length ≤ 100000) : ∃ (out : List Int), (out = list) ∧ CallOK Try.prog 79 [slI false list] (lookO []) false (.arr 8201) (lookO [(8201, .arr 1 out.length (fI out))]) := by
  have hh : ∃ r : (List Int), ((r = list) ∧ (True)) ∧ CallOK Try.prog 79 [slI false list] (lookO []) false (.arr 8201) (lookO [(8201, .arr 1 r.length (fI r))]) := by
    refine fn_okX (Φ := fun r : (List Int) => (r = list) ∧ (True)) [] (fun r => [(8201, .arr 1 r.length (fI r))]) (fn := Try.f79) (nt := 6) Try.func79 rfl rfl (args := [slI false list]) rfl (allcons (.inl ⟨rfl, tagI false _⟩) allnil) (res := fun r => .arr 8201) ?_
    refine x_seq ?_
    refine x_reg [] [0] [] [slI false list] [] [] (by kernel_rfl) trivial ?_
    refine xe_then ?_
    refine x_seq ?_
    refine x_reg [(0, .new 3), (2, .new 5)] [2] [5] [.arr 5] [some (.arr 1 (0 + list.length) (catF 0 (litF [] 1) (fI list)))] [(0 + list.length) * 8 ≤ 140737488355328] (by kernel_rfl) ⟨(by omega), trivial⟩ ?_
    refine xe_then ?_
    refine x_ret ?_
    refine xe_weak [(8201, 5)] (T := [(2, .arr 8201)]) (O := [(8201, .arr 1 ((([] : List Int) ++ list).length) (fI (([] : List Int) ++ list)))]) rfl (⟨.inl rfl, trivial⟩) (⟨.inr ⟨rfl, (by first | rfl | (simp; done) | (simp; omega) | omega), fun i_ hi_ => .inl (by first | rfl | fail)⟩, trivial⟩) ?_
    refine xe_end (([] : List Int) ++ list) (show ((([] : List Int) ++ list) = list) ∧ (True) from ⟨(by first | rfl | simp), trivial⟩) (⟨.inl rfl, trivial⟩) (.arr 8201) (by kernel_rfl) (.inl rfl) (fun h => by cases h) (fun h => by cases h)
  obtain ⟨out, ⟨hh0, _⟩, hc⟩ := hh
  exact ⟨out, hh0, hc⟩


-- spec.l05Size
theorem l05Size_ok (n : Int) (hn : -9223372036854775807 ≤ n ∧ n ≤ 9223372036854775807) : Con Try.prog 138 [I n] true (I (n.natAbs : Int)) := by
  refine fn_ok (fn := Try.f138) (nt := 8) Try.func138 rfl rfl rfl rfl (by simp [taggedL, tagged]) fun B hB => ?_
  refine aw_seq ?_
  refine aw_reg [] [0] [] [I n] [] [] (by kernel_rfl) hB trivial ?_
  refine ae_then ?_
  refine aw_seq ?_
  refine aw_seq ?_
  by_cases h1 : n < 0
  ·refine aw_reg [(1, .dec true)] [0, 4] [] [I n, Bv true] [] [n < 0] (by kernel_rfl) hB ⟨h1, trivial⟩ ?_
   refine ae_then ?_
   refine aw_true rfl ?_
   refine aw_seq ?_
   refine aw_reg [] [2] [] [I (-n)] [] [inR .i64 (-n)] (by kernel_rfl) hB ⟨(inR_i64 (by omega) (by omega)), trivial⟩ ?_
   refine ae_then ?_
   refine aw_ret ?_
   refine ae_ret_then ?_
   refine ae_ret hB (I (-n)) (by kernel_rfl) (.inl (by refine congrArg I ?_; omega)) rfl (fun _ => trivial)
  ·refine aw_reg [(1, .dec false)] [0, 4] [] [I n, Bv false] [] [¬ (n < 0)] (by kernel_rfl) hB ⟨h1, trivial⟩ ?_
   refine ae_then ?_
   refine aw_false rfl ?_
   refine aw_skip ?_
   refine ae_then ?_
   refine aw_seq ?_
   refine aw_reg [] [2] [] [I n] [] [] (by kernel_rfl) hB trivial ?_
   refine ae_then ?_
   refine aw_ret ?_
   refine ae_ret hB (I n) (by kernel_rfl) (.inl (by refine congrArg I ?_; omega)) rfl (fun _ => trivial)


-- spec.l19Spread
theorem l19Spread_ok (list : List Int) (hl : 1 ≤ list.length ∧ list.length ≤ 1000) (hm : ∀ x ∈ list, 0 ≤ x ∧ x ≤ 4095) : Con Try.prog 80 [slI false list] true (I (sprI list)) := by
  have hmm := hm _ (at_mem (xs := list) (i := (list.length - 1) / 2) (by omega))
  have hix : (((list.length : Int) - 1) / 2).toNat = (list.length - 1) / 2 := by omega
  have hix2 : (Int.tdiv ((list.length : Int) - 1) 2).toNat = (list.length - 1) / 2 := by rw [Int.tdiv_eq_ediv_of_nonneg (by omega)]; omega
  refine fn_ok (fn := Try.f80) (nt := 27) Try.func80 rfl rfl rfl rfl (by simp [taggedL, tagged, tagI]) fun B hB => ?_
  refine aw_lens (x := slI false list) 0 rfl (fun len_list => ?_)
  simp [LenOK, LenL, cI, fI, slI] at len_list
  refine aw_seq ?_
  refine aw_reg [] [0] [] [slI false list] [] [] (by kernel_rfl) hB trivial ?_
  refine ae_then ?_
  refine aw_seq ?_
  refine aw_reg [] [0, 3] [] [slI false list, I 0] [] [] (by kernel_rfl) hB trivial ?_
  refine ae_then ?_
  refine aw_seq ?_
  refine aw_seq ?_
  refine aw_reg [] [0, 3, 4] [] [slI false list, I 0, I 0] [] [] (by kernel_rfl) hB trivial ?_
  refine ae_then ?_
  refine aw_block ?_
  refine aw_loop (fun gn gσ => ∃ (sum : Int) (i : Int), gn = ((list.length : Int) - i).toNat ∧ (0 ≤ i ∧ i ≤ (list.length : Int)) ∧ (sum = sprT list (at_ list ((list.length - 1) / 2)) i.toNat) ∧ gσ = mkS [(0, slI false list), (3, I sum), (4, I i)] []) (((list.length : Int) - 0).toNat) ⟨0, 0, rfl, (by omega), (by rfl), rfl⟩ (fun gn gσ hI => ?_)
  obtain ⟨sum, i, rfl, hi0, hs0, rfl⟩ := hI
  refine aw_seq ?_
  refine aw_seq ?_
  by_cases h1 : i < (list.length : Int)
  ·have hi : i.toNat < list.length := by omega
   have hmi := hm _ (at_mem hi)
   have hsb := sprT_bd hm hmm i.toNat (by omega)
   have hsn := sprT_nn list (at_ list ((list.length - 1) / 2)) i.toNat
   have hmm2 := hmm
   rw [← hix] at hmm2
   refine aw_reg [(3, .dec true)] [0, 3, 4, 8] [] [slI false list, I sum, I i, Bv true] [] [i < (list.length : Int)] (by kernel_rfl) hB ⟨h1, trivial⟩ ?_
   refine ae_then ?_
   refine aw_true rfl ?_
   refine aw_skip ?_
   refine ae_then ?_
   refine aw_seq ?_
   refine aw_block ?_
   refine aw_reg [(9, .nn), (13, .call [(true, I ((at_ list i.toNat) - (at_ list ((((list.length : Int) - 1) / 2).toNat))))] true (I (((at_ list i.toNat) - (at_ list ((((list.length : Int) - 1) / 2).toNat))).natAbs : Int)))] [0, 3, 4] [] [slI false list, I (sum + (((at_ list i.toNat) - (at_ list ((((list.length : Int) - 1) / 2).toNat))).natAbs : Int)), I i] [] [(0 : Int) ≤ i ∧ i < (list.length : Int), inR .i64 ((list.length : Int) - 1), (0 : Int) ≤ ((list.length : Int) - 1) ∧ (0 : Int) < 2 ∧ inR .i64 ((list.length : Int) - 1), (0 : Int) ≤ (((list.length : Int) - 1) / 2) ∧ (((list.length : Int) - 1) / 2) < (list.length : Int), inR .i64 ((at_ list i.toNat) - (at_ list ((((list.length : Int) - 1) / 2).toNat))), Con Try.prog 138 [I ((at_ list i.toNat) - (at_ list ((((list.length : Int) - 1) / 2).toNat)))] true (I (((at_ list i.toNat) - (at_ list ((((list.length : Int) - 1) / 2).toNat))).natAbs : Int)) ∧ ((I ((at_ list i.toNat) - (at_ list ((((list.length : Int) - 1) / 2).toNat))) : AV) = I ((at_ list i.toNat) - (at_ list ((((list.length : Int) - 1) / 2).toNat)))) ∧ True, inR .i64 (sum + (((at_ list i.toNat) - (at_ list ((((list.length : Int) - 1) / 2).toNat))).natAbs : Int))] (by kernel_rfl) hB ⟨⟨(by omega), (by omega)⟩, (inR_i64 (by omega) (by omega)), ⟨(by omega), (by omega), (inR_i64 (by omega) (by omega))⟩, ⟨(by omega), (by omega)⟩, (inR_i64 (by omega) (by omega)), ⟨(l05Size_ok ((at_ list i.toNat) - (at_ list ((((list.length : Int) - 1) / 2).toNat))) (by omega)), rfl, trivial⟩, (inR_i64 (by omega) (by omega)), trivial⟩ ?_
   refine ae_block 1 ?_
   refine ae_then ?_
   refine aw_reg [] [0, 3, 4] [] [slI false list, I (sum + (((at_ list i.toNat) - (at_ list ((((list.length : Int) - 1) / 2).toNat))).natAbs : Int)), I (i + 1)] [] [inR .i64 (i + 1)] (by kernel_rfl) hB ⟨(inR_i64 (by omega) (by omega)), trivial⟩ ?_
   exact ae_again _ (by omega) ⟨(sum + (((at_ list i.toNat) - (at_ list ((((list.length : Int) - 1) / 2).toNat))).natAbs : Int)), (i + 1), rfl, (by omega), (by rw [sprT_succ hi0.1, ← hs0, ← hix]), rfl⟩
  ·have hie : i.toNat = list.length := by omega
   rw [hie] at hs0
   refine aw_reg [(3, .dec false)] [0, 3, 4, 8] [] [slI false list, I sum, I i, Bv false] [] [¬ (i < (list.length : Int))] (by kernel_rfl) hB ⟨h1, trivial⟩ ?_
   refine ae_then ?_
   refine aw_false rfl ?_
   refine aw_exit ?_
   refine ae_exit_then ?_
   refine ae_exit_then ?_
   refine ae_exit_same ?_
   refine ae_then ?_
   refine aw_seq ?_
   refine aw_reg [] [2] [] [I sum] [] [] (by kernel_rfl) hB trivial ?_
   refine ae_then ?_
   refine aw_ret ?_
   refine ae_ret hB (I sum) (by kernel_rfl) (.inl (by rw [hs0]; rfl)) rfl (fun _ => trivial)


-- spec.GapLimit
theorem specGapLimit_ok (gaps : List Int) (hl : gaps.length ≤ 1000) : Con Try.prog 22 [slI false gaps] true (.tup [I ((gapR gaps).1), I ((gapR gaps).2)]) := by
  refine fn_ok (fn := Try.f22) (nt := 104) Try.func22 rfl rfl rfl rfl (by simp [taggedL, tagged, tagI]) fun B hB => ?_
  refine aw_lens (x := slI false gaps) 0 rfl (fun len_gaps => ?_)
  simp [LenOK, LenL, cI, fI, slI] at len_gaps
  refine aw_seq ?_
  refine aw_reg [] [0] [] [slI false gaps] [] [] (by kernel_rfl) hB trivial ?_
  refine ae_then ?_
  refine aw_seq ?_
  refine aw_reg [(0, .new 12)] [0, 4] [12] [slI false gaps, .arr 12] [some (.arr 1 0 (litF [] 1))] [] (by kernel_rfl) hB trivial ?_
  refine ae_then ?_
  refine aw_seq ?_
  refine aw_seq ?_
  refine aw_reg [] [0, 4, 5] [12] [slI false gaps, .arr 12, I 0] [some (.arr 1 0 (litF [] 1))] [] (by kernel_rfl) hB trivial ?_
  refine ae_then ?_
  refine aw_block ?_
  refine aw_weak hB [] (T := [(0, slI false gaps), (4, slI true ([] : List Int)), (5, I 0)]) (O := []) rfl (⟨.inl rfl, .inr ⟨(fun _ => rfl), rfl, (by first | rfl | (simp; done) | (simp; omega) | omega), fun i_ hi_ => absurd hi_ (Nat.not_lt_zero _)⟩, .inl rfl, trivial⟩) (trivial) ?_
  refine aw_loop (fun gn gσ => ∃ (sorted : List Int) (i : Int), gn = ((gaps.length : Int) - i).toNat ∧ (0 ≤ i ∧ i ≤ (gaps.length : Int)) ∧ ((sorted.length : Int) = i) ∧ (sorted = sortL (gaps.take i.toNat)) ∧ (∀ j : Nat, (j : Int) < i → inB (at_ gaps j) 0 4095 = true) ∧ gσ = mkS [(0, slI false gaps), (4, slI true sorted), (5, I i)] []) (((gaps.length : Int) - 0).toNat) ⟨([] : List Int), 0, rfl, (by omega), (by rfl), (by exact sortL_nil.symm), (by intro j hj; omega), rfl⟩ (fun gn gσ hI => ?_)
  obtain ⟨sorted, i, rfl, hi0, hl0, hs0, hall0, rfl⟩ := hI
  refine aw_seq ?_
  refine aw_seq ?_
  by_cases h1 : i < (gaps.length : Int)
  ·have hi : i.toNat < gaps.length := by omega
   refine aw_reg [(3, .dec true)] [0, 4, 5, 16] [] [slI false gaps, slI true sorted, I i, Bv true] [] [i < (gaps.length : Int)] (by kernel_rfl) hB ⟨h1, trivial⟩ ?_
   refine ae_then ?_
   refine aw_true rfl ?_
   refine aw_skip ?_
   refine ae_then ?_
   refine aw_seq ?_
   refine aw_block ?_
   refine aw_seq ?_
   refine aw_seq ?_
   rcases Bool.eq_false_or_eq_true (inB (at_ gaps i.toNat) 0 4095) with h2 | h2
   ·have hok := h2
    refine aw_reg [(4, .call [(true, I (at_ gaps i.toNat))] true (Bv true))] [0, 4, 5, 24] [] [slI false gaps, slI true sorted, I i, Bv false] [] [(0 : Int) ≤ i ∧ i < (gaps.length : Int), Con Try.prog 78 [I (at_ gaps i.toNat)] true (Bv true) ∧ ((I (at_ gaps i.toNat) : AV) = I (at_ gaps i.toNat)) ∧ True] (by kernel_rfl) hB ⟨⟨(by omega), (by omega)⟩, ⟨(con_bool h2 (l19Gap_ok (at_ gaps i.toNat))), rfl, trivial⟩, trivial⟩ ?_
    refine ae_then ?_
    refine aw_false rfl ?_
    refine aw_skip ?_
    refine ae_then ?_
    refine aw_seq ?_
    refine aw_reg [] [0, 4, 5, 6] [] [slI false gaps, slI true sorted, I i, I (sorted.length : Int)] [] [] (by kernel_rfl) hB trivial ?_
    refine ae_then ?_
    refine aw_seq ?_
    refine aw_block ?_
    refine aw_loop (fun gn gσ => ∃ (k : Int), gn = k.toNat ∧ (0 ≤ k ∧ k ≤ (sorted.length : Int)) ∧ (∀ j : Nat, k ≤ (j : Int) → j < sorted.length → at_ gaps i.toNat < at_ sorted j) ∧ gσ = mkS [(0, slI false gaps), (4, slI true sorted), (5, I i), (6, I k)] []) ((sorted.length : Int).toNat) ⟨(sorted.length : Int), rfl, (by omega), (by intro j h1 h2; omega), rfl⟩ (fun gn gσ hI => ?_)
    obtain ⟨k, rfl, hk0, hgt, rfl⟩ := hI
    refine aw_seq ?_
    refine aw_seq ?_
    by_cases h3 : 0 < k
    ·by_cases h4 : (at_ gaps i.toNat) < (at_ sorted ((k - 1).toNat))
     ·refine aw_reg [(1, .dec true), (12, .dec true)] [0, 4, 5, 6, 40] [] [slI false gaps, slI true sorted, I i, I k, Bv true] [] [0 < k, inR .i64 (k - 1), (0 : Int) ≤ (k - 1) ∧ (k - 1) < (sorted.length : Int), (0 : Int) ≤ i ∧ i < (gaps.length : Int), (at_ gaps i.toNat) < (at_ sorted ((k - 1).toNat))] (by kernel_rfl) hB ⟨h3, (inR_i64 (by omega) (by omega)), ⟨(by omega), (by omega)⟩, ⟨(by omega), (by omega)⟩, h4, trivial⟩ ?_
      refine ae_then ?_
      refine aw_true rfl ?_
      refine aw_skip ?_
      refine ae_then ?_
      refine aw_block ?_
      refine aw_reg [] [0, 4, 5, 6] [] [slI false gaps, slI true sorted, I i, I (k - 1)] [] [inR .i64 (k - 1)] (by kernel_rfl) hB ⟨(inR_i64 (by omega) (by omega)), trivial⟩ ?_
      refine ae_block 3 ?_
      exact ae_again _ (by omega) ⟨(k - 1), rfl, (by omega), (by intro j h1 h2; by_cases ej : j = (k - 1).toNat; (subst ej; omega); exact hgt j (by omega) h2), rfl⟩
     ·have hin := ins_next hs0 (by omega) hi hk0 hgt (Or.inr (by omega))
      refine aw_reg [(1, .dec true), (12, .dec false)] [0, 4, 5, 6, 40] [] [slI false gaps, slI true sorted, I i, I k, Bv false] [] [0 < k, inR .i64 (k - 1), (0 : Int) ≤ (k - 1) ∧ (k - 1) < (sorted.length : Int), (0 : Int) ≤ i ∧ i < (gaps.length : Int), ¬ ((at_ gaps i.toNat) < (at_ sorted ((k - 1).toNat)))] (by kernel_rfl) hB ⟨h3, (inR_i64 (by omega) (by omega)), ⟨(by omega), (by omega)⟩, ⟨(by omega), (by omega)⟩, h4, trivial⟩ ?_
      refine ae_then ?_
      refine aw_false rfl ?_
      refine aw_exit ?_
      refine ae_exit_then ?_
      refine ae_exit_then ?_
      refine ae_exit_same ?_
      refine ae_then ?_
      refine aw_seq ?_
      obtain ⟨out_1, hx1_0, hc1⟩ := l00Own_ok (sorted.take k.toNat) (by simp; omega)
      have hol_out_1 : out_1.length = ((sorted.take k.toNat)).length := by rw [hx1_0]
      simp only [List.length_take, List.length_drop] at hol_out_1
      refine aw_reg [(3, .lend [] [(8201, .arr 1 out_1.length (fI out_1))] [(false, slI false (sorted.take k.toNat))] false (.arr 8201)), (8, .new 51), (9, .new 52)] [0, 4, 5, 6, 7] [52] [slI false gaps, slI true sorted, I i, I k, .arr 52] [some (.arr 1 (out_1.length + 1) (catF out_1.length (fI out_1) (litF [I (at_ gaps i.toNat)] 1)))] [(0 : Int) ≤ 0 ∧ (0 : Int) ≤ k ∧ k ≤ (sorted.length : Int), CallOK Try.prog 79 [slI false (sorted.take k.toNat)] (lookO []) false (.arr 8201) (lookO [(8201, .arr 1 out_1.length (fI out_1))]) ∧ ((false = true → true = true) ∧ 1 = 1 ∧ (k.toNat - 0) = ((sorted.take k.toNat).length) ∧ ∀ i, i < ((sorted.take k.toNat).length) → (cutF 0 (fI sorted)) i = (fI (sorted.take k.toNat)) i ∨ (AV.idsL ((fI (sorted.take k.toNat)) i) = [] ∧ leL (fun _ => none) false ((cutF 0 (fI sorted)) i) ((fI (sorted.take k.toNat)) i))) ∧ True, (0 : Int) ≤ i ∧ i < (gaps.length : Int), (out_1.length + 1) * 8 ≤ 140737488355328] (by kernel_rfl) hB ⟨⟨(by omega), (by omega), (by omega)⟩, ⟨hc1, ⟨(fun h => by cases h), rfl, (by first | rfl | (simp; done) | (simp; omega) | omega), fun i_ hi_ => .inl (cut_take (enc := cI) hi_)⟩, trivial⟩, ⟨(by omega), (by omega)⟩, (by omega), trivial⟩ ?_
      refine ae_then ?_
      refine aw_reg [(4, .new 57)] [0, 4, 5] [57] [slI false gaps, .arr 57, I i] [some (.arr 1 ((out_1.length + 1) + ((sorted.length : Int).toNat - k.toNat)) (catF (out_1.length + 1) (catF out_1.length (fI out_1) (litF [I (at_ gaps i.toNat)] 1)) (cutF k.toNat (fI sorted))))] [(0 : Int) ≤ k ∧ k ≤ (sorted.length : Int) ∧ (sorted.length : Int) ≤ (sorted.length : Int), ((out_1.length + 1) + ((sorted.length : Int).toNat - k.toNat)) * 8 ≤ 140737488355328] (by kernel_rfl) hB ⟨⟨(by omega), (by omega), (by omega)⟩, (by omega), trivial⟩ ?_
      refine ae_block 1 ?_
      refine ae_then ?_
      refine aw_reg [] [0, 4, 5] [57] [slI false gaps, .arr 57, I (i + 1)] [some (.arr 1 ((out_1.length + 1) + ((sorted.length : Int).toNat - k.toNat)) (catF (out_1.length + 1) (catF out_1.length (fI out_1) (litF [I (at_ gaps i.toNat)] 1)) (cutF k.toNat (fI sorted))))] [inR .i64 (i + 1)] (by kernel_rfl) hB ⟨(inR_i64 (by omega) (by omega)), trivial⟩ ?_
      refine ae_weak hB [] (T := [(0, slI false gaps), (4, slI true ((out_1 ++ [(at_ gaps i.toNat)]) ++ (sorted.drop k.toNat))), (5, I (i + 1))]) (O := []) rfl (⟨.inl rfl, .inr ⟨(fun _ => rfl), rfl, (by first | rfl | (simp; done) | (simp; omega) | omega), fun i_ hi_ => .inl (cat_two (enc := cI) (xs := (out_1 ++ [(at_ gaps i.toNat)])) (ys := (sorted.drop k.toNat)) (by first | rfl | simp) (fun i_ hi_ => (cat_snoc (enc := cI) (xs := out_1) rfl i_ hi_)) (fun i_ hi_ => (cut_drop (enc := cI) hi_)) i_ hi_)⟩, .inl rfl, trivial⟩) (trivial) (ae_again _ (by omega) ⟨((out_1 ++ [(at_ gaps i.toNat)]) ++ (sorted.drop k.toNat)), (i + 1), rfl, (by omega), (by simp; omega), (by first | exact hin | (rw [← hin]; simp only [*]; done) | (rw [← hin]; simp [*])), (by intro j hj; by_cases ej : j = i.toNat; (subst ej; exact hok); exact hall0 j (by omega)), rfl⟩)
    ·have hin := ins_next hs0 (by omega) hi hk0 hgt (Or.inl (by omega))
     refine aw_reg [(1, .dec false)] [0, 4, 5, 6, 40] [] [slI false gaps, slI true sorted, I i, I k, Bv false] [] [¬ (0 < k)] (by kernel_rfl) hB ⟨h3, trivial⟩ ?_
     refine ae_then ?_
     refine aw_false rfl ?_
     refine aw_exit ?_
     refine ae_exit_then ?_
     refine ae_exit_then ?_
     refine ae_exit_same ?_
     refine ae_then ?_
     refine aw_seq ?_
     obtain ⟨out_2, hx2_0, hc2⟩ := l00Own_ok (sorted.take k.toNat) (by simp; omega)
     have hol_out_2 : out_2.length = ((sorted.take k.toNat)).length := by rw [hx2_0]
     simp only [List.length_take, List.length_drop] at hol_out_2
     refine aw_reg [(3, .lend [] [(8201, .arr 1 out_2.length (fI out_2))] [(false, slI false (sorted.take k.toNat))] false (.arr 8201)), (8, .new 51), (9, .new 52)] [0, 4, 5, 6, 7] [52] [slI false gaps, slI true sorted, I i, I k, .arr 52] [some (.arr 1 (out_2.length + 1) (catF out_2.length (fI out_2) (litF [I (at_ gaps i.toNat)] 1)))] [(0 : Int) ≤ 0 ∧ (0 : Int) ≤ k ∧ k ≤ (sorted.length : Int), CallOK Try.prog 79 [slI false (sorted.take k.toNat)] (lookO []) false (.arr 8201) (lookO [(8201, .arr 1 out_2.length (fI out_2))]) ∧ ((false = true → true = true) ∧ 1 = 1 ∧ (k.toNat - 0) = ((sorted.take k.toNat).length) ∧ ∀ i, i < ((sorted.take k.toNat).length) → (cutF 0 (fI sorted)) i = (fI (sorted.take k.toNat)) i ∨ (AV.idsL ((fI (sorted.take k.toNat)) i) = [] ∧ leL (fun _ => none) false ((cutF 0 (fI sorted)) i) ((fI (sorted.take k.toNat)) i))) ∧ True, (0 : Int) ≤ i ∧ i < (gaps.length : Int), (out_2.length + 1) * 8 ≤ 140737488355328] (by kernel_rfl) hB ⟨⟨(by omega), (by omega), (by omega)⟩, ⟨hc2, ⟨(fun h => by cases h), rfl, (by first | rfl | (simp; done) | (simp; omega) | omega), fun i_ hi_ => .inl (cut_take (enc := cI) hi_)⟩, trivial⟩, ⟨(by omega), (by omega)⟩, (by omega), trivial⟩ ?_
     refine ae_then ?_
     refine aw_reg [(4, .new 57)] [0, 4, 5] [57] [slI false gaps, .arr 57, I i] [some (.arr 1 ((out_2.length + 1) + ((sorted.length : Int).toNat - k.toNat)) (catF (out_2.length + 1) (catF out_2.length (fI out_2) (litF [I (at_ gaps i.toNat)] 1)) (cutF k.toNat (fI sorted))))] [(0 : Int) ≤ k ∧ k ≤ (sorted.length : Int) ∧ (sorted.length : Int) ≤ (sorted.length : Int), ((out_2.length + 1) + ((sorted.length : Int).toNat - k.toNat)) * 8 ≤ 140737488355328] (by kernel_rfl) hB ⟨⟨(by omega), (by omega), (by omega)⟩, (by omega), trivial⟩ ?_
     refine ae_block 1 ?_
     refine ae_then ?_
     refine aw_reg [] [0, 4, 5] [57] [slI false gaps, .arr 57, I (i + 1)] [some (.arr 1 ((out_2.length + 1) + ((sorted.length : Int).toNat - k.toNat)) (catF (out_2.length + 1) (catF out_2.length (fI out_2) (litF [I (at_ gaps i.toNat)] 1)) (cutF k.toNat (fI sorted))))] [inR .i64 (i + 1)] (by kernel_rfl) hB ⟨(inR_i64 (by omega) (by omega)), trivial⟩ ?_
     refine ae_weak hB [] (T := [(0, slI false gaps), (4, slI true ((out_2 ++ [(at_ gaps i.toNat)]) ++ (sorted.drop k.toNat))), (5, I (i + 1))]) (O := []) rfl (⟨.inl rfl, .inr ⟨(fun _ => rfl), rfl, (by first | rfl | (simp; done) | (simp; omega) | omega), fun i_ hi_ => .inl (cat_two (enc := cI) (xs := (out_2 ++ [(at_ gaps i.toNat)])) (ys := (sorted.drop k.toNat)) (by first | rfl | simp) (fun i_ hi_ => (cat_snoc (enc := cI) (xs := out_2) rfl i_ hi_)) (fun i_ hi_ => (cut_drop (enc := cI) hi_)) i_ hi_)⟩, .inl rfl, trivial⟩) (trivial) (ae_again _ (by omega) ⟨((out_2 ++ [(at_ gaps i.toNat)]) ++ (sorted.drop k.toNat)), (i + 1), rfl, (by omega), (by simp; omega), (by first | exact hin | (rw [← hin]; simp only [*]; done) | (rw [← hin]; simp [*])), (by intro j hj; by_cases ej : j = i.toNat; (subst ej; exact hok); exact hall0 j (by omega)), rfl⟩)
   ·have hst := gapR_inv (okGs_no hi h2)
    refine aw_reg [(4, .call [(true, I (at_ gaps i.toNat))] true (Bv false))] [0, 4, 5, 24] [] [slI false gaps, slI true sorted, I i, Bv true] [] [(0 : Int) ≤ i ∧ i < (gaps.length : Int), Con Try.prog 78 [I (at_ gaps i.toNat)] true (Bv false) ∧ ((I (at_ gaps i.toNat) : AV) = I (at_ gaps i.toNat)) ∧ True] (by kernel_rfl) hB ⟨⟨(by omega), (by omega)⟩, ⟨(con_bool h2 (l19Gap_ok (at_ gaps i.toNat))), rfl, trivial⟩, trivial⟩ ?_
    refine ae_then ?_
    refine aw_true rfl ?_
    refine aw_seq ?_
    refine aw_reg [] [2, 3] [] [I 0, I 1] [] [] (by kernel_rfl) hB trivial ?_
    refine ae_then ?_
    refine aw_ret ?_
    refine ae_ret_then (ae_ret_block (ae_ret_then (ae_ret_then (ae_ret_block (ae_ret_then ?_)))))
    refine ae_ret hB (.tup [I 0, I 1]) (by kernel_rfl) (.inl (by first | (rw [hst]; done) | (rw [hst, ← hg0.1]; done))) rfl (fun _ => (by simp [tagged, taggedL]))
  ·have hie : i.toNat = gaps.length := by omega
   rw [hie, List.take_of_length_le (Nat.le_refl _)] at hs0
   have hgs := okGs_all (xs := gaps) (fun j hj => hall0 j (by omega))
   have hqm := okGs_mem hgs
   have hql := sortL_len gaps
   subst hs0
   refine aw_reg [(3, .dec false)] [0, 4, 5, 16] [] [slI false gaps, slI true (sortL gaps), I i, Bv false] [] [¬ (i < (gaps.length : Int))] (by kernel_rfl) hB ⟨h1, trivial⟩ ?_
   refine ae_then ?_
   refine aw_false rfl ?_
   refine aw_exit ?_
   refine ae_exit_then ?_
   refine ae_exit_then ?_
   refine ae_exit_same ?_
   refine ae_then ?_
   refine aw_seq ?_
   refine aw_seq ?_
   by_cases h5 : 60 < (gaps.length : Int)
   ·have hst := gapR_full hgs h5
    refine aw_reg [(2, .dec true)] [4, 60] [] [slI true (sortL gaps), Bv true] [] [60 < (gaps.length : Int)] (by kernel_rfl) hB ⟨h5, trivial⟩ ?_
    refine ae_then ?_
    refine aw_true rfl ?_
    refine aw_seq ?_
    refine aw_reg [] [2, 3] [] [I 0, I 5] [] [] (by kernel_rfl) hB trivial ?_
    refine ae_then ?_
    refine aw_ret ?_
    refine ae_ret_then ?_
    refine ae_ret hB (.tup [I 0, I 5]) (by kernel_rfl) (.inl (by first | (rw [hst]; done) | (rw [hst, ← hg0.1]; done))) rfl (fun _ => (by simp [tagged, taggedL]))
   ·have hgo := gapR_go hgs h5
    refine aw_reg [(2, .dec false)] [4, 60] [] [slI true (sortL gaps), Bv false] [] [¬ (60 < (gaps.length : Int))] (by kernel_rfl) hB ⟨h5, trivial⟩ ?_
    refine ae_then ?_
    refine aw_false rfl ?_
    refine aw_skip ?_
    refine ae_then ?_
    refine aw_seq ?_
    refine aw_reg [] [4, 8] [] [slI true (sortL gaps), I (-1)] [] [] (by kernel_rfl) hB trivial ?_
    refine ae_then ?_
    refine aw_seq ?_
    refine aw_reg [] [4, 8, 9] [] [slI true (sortL gaps), I (-1), I 0] [] [] (by kernel_rfl) hB trivial ?_
    refine ae_then ?_
    refine aw_seq ?_
    refine aw_seq ?_
    refine aw_reg [] [4, 8, 9, 10] [] [slI true (sortL gaps), I (-1), I 0, I 1] [] [] (by kernel_rfl) hB trivial ?_
    refine ae_then ?_
    refine aw_block ?_
    refine aw_loop (fun gn gσ => ∃ (best : Int) (least : Int) (k : Int), gn = (((sortL gaps).length : Int) - k).toNat ∧ (1 ≤ k ∧ (k ≤ ((sortL gaps).length : Int) ∨ k = 1)) ∧ (best = (gpS (sortL gaps) k.toNat).1 ∧ least = (gpS (sortL gaps) k.toNat).2) ∧ (-1 ≤ best) ∧ gσ = mkS [(4, slI true (sortL gaps)), (8, I best), (9, I least), (10, I k)] []) ((((sortL gaps).length : Int) - 1).toNat) ⟨(-1), 0, 1, rfl, (by omega), (by rw [show (1 : Int).toNat = 1 from rfl, gpS_one]; exact ⟨rfl, rfl⟩), (by omega), rfl⟩ (fun gn gσ hI => ?_)
    obtain ⟨best, least, k, rfl, hkk, hg0, hbb, rfl⟩ := hI
    refine aw_seq ?_
    refine aw_seq ?_
    by_cases h6 : k < (((sortL gaps).length) : Int)
    ·have hk : k.toNat < (sortL gaps).length := by omega
     have hqk := sprI_bd (l := (sortL gaps).take k.toNat) (by simp only [List.length_take]; omega) (fun x hx => hqm x (List.mem_of_mem_take hx))
     have hqd := sprI_bd (l := (sortL gaps).drop k.toNat) (by simp only [List.length_drop]; omega) (fun x hx => hqm x (List.mem_of_mem_drop hx))
     have hgc : sprI ((sortL gaps).take k.toNat) + sprI ((sortL gaps).drop k.toNat) = gpC (sortL gaps) k.toNat := rfl
     have hgn := gpC_nn (sortL gaps) k.toNat
     refine aw_reg [(3, .dec true)] [4, 8, 9, 10, 64] [] [slI true (sortL gaps), I best, I least, I k, Bv true] [] [k < (((sortL gaps).length) : Int)] (by kernel_rfl) hB ⟨h6, trivial⟩ ?_
     refine ae_then ?_
     refine aw_true rfl ?_
     refine aw_skip ?_
     refine ae_then ?_
     refine aw_seq ?_
     refine aw_block ?_
     refine aw_seq ?_
     refine aw_reg [(3, .call [(false, slI false ((sortL gaps).take k.toNat))] true (I (sprI ((sortL gaps).take k.toNat)))), (7, .call [(false, slI false ((sortL gaps).drop k.toNat))] true (I (sprI ((sortL gaps).drop k.toNat))))] [4, 8, 9, 10, 11] [] [slI true (sortL gaps), I best, I least, I k, I ((sprI ((sortL gaps).take k.toNat)) + (sprI ((sortL gaps).drop k.toNat)))] [] [(0 : Int) ≤ 0 ∧ (0 : Int) ≤ k ∧ k ≤ (((sortL gaps).length) : Int), Con Try.prog 80 [slI false ((sortL gaps).take k.toNat)] true (I (sprI ((sortL gaps).take k.toNat))) ∧ ((false = true → true = true) ∧ 1 = 1 ∧ (k.toNat - 0) = (((sortL gaps).take k.toNat).length) ∧ ∀ i, i < (((sortL gaps).take k.toNat).length) → (cutF 0 (fI (sortL gaps))) i = (fI ((sortL gaps).take k.toNat)) i ∨ (AV.idsL ((fI ((sortL gaps).take k.toNat)) i) = [] ∧ leL (fun _ => none) false ((cutF 0 (fI (sortL gaps))) i) ((fI ((sortL gaps).take k.toNat)) i))) ∧ True, (0 : Int) ≤ k ∧ k ≤ (((sortL gaps).length) : Int) ∧ (((sortL gaps).length) : Int) ≤ (((sortL gaps).length) : Int), Con Try.prog 80 [slI false ((sortL gaps).drop k.toNat)] true (I (sprI ((sortL gaps).drop k.toNat))) ∧ ((false = true → true = true) ∧ 1 = 1 ∧ ((((sortL gaps).length) : Int).toNat - k.toNat) = (((sortL gaps).drop k.toNat).length) ∧ ∀ i, i < (((sortL gaps).drop k.toNat).length) → (cutF k.toNat (fI (sortL gaps))) i = (fI ((sortL gaps).drop k.toNat)) i ∨ (AV.idsL ((fI ((sortL gaps).drop k.toNat)) i) = [] ∧ leL (fun _ => none) false ((cutF k.toNat (fI (sortL gaps))) i) ((fI ((sortL gaps).drop k.toNat)) i))) ∧ True, inR .i64 ((sprI ((sortL gaps).take k.toNat)) + (sprI ((sortL gaps).drop k.toNat)))] (by kernel_rfl) hB ⟨⟨(by omega), (by omega), (by omega)⟩, ⟨(l19Spread_ok ((sortL gaps).take k.toNat) (by simp only [List.length_take, List.length_drop]; omega) (fun x hx => hqm x (by first | exact List.mem_of_mem_take hx | exact List.mem_of_mem_drop hx))), ⟨(fun h => by cases h), rfl, (by first | rfl | (simp; done) | (simp; omega) | omega), fun i_ hi_ => .inl (cut_take (enc := cI) hi_)⟩, trivial⟩, ⟨(by omega), (by omega), (by omega)⟩, ⟨(l19Spread_ok ((sortL gaps).drop k.toNat) (by simp only [List.length_take, List.length_drop]; omega) (fun x hx => hqm x (by first | exact List.mem_of_mem_take hx | exact List.mem_of_mem_drop hx))), ⟨(fun h => by cases h), rfl, (by first | rfl | (simp; done) | (simp; omega) | omega), fun i_ hi_ => .inl (cut_drop (enc := cI) hi_)⟩, trivial⟩, (inR_i64 (by omega) (by omega)), trivial⟩ ?_
     refine ae_then ?_
     refine aw_seq ?_
     by_cases h7 : (at_ (sortL gaps) ((k - 1).toNat)) < (at_ (sortL gaps) k.toNat)
     ·by_cases h8 : best < 0
      ·refine aw_reg [(9, .dec true), (12, .dec true)] [4, 8, 9, 10, 11, 94] [] [slI true (sortL gaps), I best, I least, I k, I ((sprI ((sortL gaps).take k.toNat)) + (sprI ((sortL gaps).drop k.toNat))), Bv true] [] [inR .i64 (k - 1), (0 : Int) ≤ (k - 1) ∧ (k - 1) < (((sortL gaps).length) : Int), (0 : Int) ≤ k ∧ k < (((sortL gaps).length) : Int), (at_ (sortL gaps) ((k - 1).toNat)) < (at_ (sortL gaps) k.toNat), best < 0] (by kernel_rfl) hB ⟨(inR_i64 (by omega) (by omega)), ⟨(by omega), (by omega)⟩, ⟨(by omega), (by omega)⟩, h7, h8, trivial⟩ ?_
       refine ae_then ?_
       refine aw_true rfl ?_
       refine aw_seq ?_
       refine aw_reg [] [4, 8, 10, 11] [] [slI true (sortL gaps), I k, I k, I ((sprI ((sortL gaps).take k.toNat)) + (sprI ((sortL gaps).drop k.toNat)))] [] [] (by kernel_rfl) hB trivial ?_
       refine ae_then ?_
       refine aw_reg [] [4, 8, 9, 10] [] [slI true (sortL gaps), I k, I ((sprI ((sortL gaps).take k.toNat)) + (sprI ((sortL gaps).drop k.toNat))), I k] [] [] (by kernel_rfl) hB trivial ?_
       refine ae_block 5 ?_
       refine ae_then ?_
       refine aw_reg [] [4, 8, 9, 10] [] [slI true (sortL gaps), I k, I ((sprI ((sortL gaps).take k.toNat)) + (sprI ((sortL gaps).drop k.toNat))), I (k + 1)] [] [inR .i64 (k + 1)] (by kernel_rfl) hB ⟨(inR_i64 (by omega) (by omega)), trivial⟩ ?_
       exact ae_again _ (by omega) ⟨k, ((sprI ((sortL gaps).take k.toNat)) + (sprI ((sortL gaps).drop k.toNat))), (k + 1), rfl, (by omega), (by first | (rw [gpS_yes (by omega) (by omega) (by omega)]; exact ⟨rfl, rfl⟩) | (rw [gpS_no (by omega) (by omega)]; exact hg0)), (by omega), rfl⟩
      ·by_cases h9 : ((sprI ((sortL gaps).take k.toNat)) + (sprI ((sortL gaps).drop k.toNat))) < least
       ·refine aw_reg [(9, .dec true), (12, .dec false), (16, .dec true)] [4, 8, 9, 10, 11, 94] [] [slI true (sortL gaps), I best, I least, I k, I ((sprI ((sortL gaps).take k.toNat)) + (sprI ((sortL gaps).drop k.toNat))), Bv true] [] [inR .i64 (k - 1), (0 : Int) ≤ (k - 1) ∧ (k - 1) < (((sortL gaps).length) : Int), (0 : Int) ≤ k ∧ k < (((sortL gaps).length) : Int), (at_ (sortL gaps) ((k - 1).toNat)) < (at_ (sortL gaps) k.toNat), ¬ (best < 0), ((sprI ((sortL gaps).take k.toNat)) + (sprI ((sortL gaps).drop k.toNat))) < least] (by kernel_rfl) hB ⟨(inR_i64 (by omega) (by omega)), ⟨(by omega), (by omega)⟩, ⟨(by omega), (by omega)⟩, h7, h8, h9, trivial⟩ ?_
        refine ae_then ?_
        refine aw_true rfl ?_
        refine aw_seq ?_
        refine aw_reg [] [4, 8, 10, 11] [] [slI true (sortL gaps), I k, I k, I ((sprI ((sortL gaps).take k.toNat)) + (sprI ((sortL gaps).drop k.toNat)))] [] [] (by kernel_rfl) hB trivial ?_
        refine ae_then ?_
        refine aw_reg [] [4, 8, 9, 10] [] [slI true (sortL gaps), I k, I ((sprI ((sortL gaps).take k.toNat)) + (sprI ((sortL gaps).drop k.toNat))), I k] [] [] (by kernel_rfl) hB trivial ?_
        refine ae_block 5 ?_
        refine ae_then ?_
        refine aw_reg [] [4, 8, 9, 10] [] [slI true (sortL gaps), I k, I ((sprI ((sortL gaps).take k.toNat)) + (sprI ((sortL gaps).drop k.toNat))), I (k + 1)] [] [inR .i64 (k + 1)] (by kernel_rfl) hB ⟨(inR_i64 (by omega) (by omega)), trivial⟩ ?_
        exact ae_again _ (by omega) ⟨k, ((sprI ((sortL gaps).take k.toNat)) + (sprI ((sortL gaps).drop k.toNat))), (k + 1), rfl, (by omega), (by first | (rw [gpS_yes (by omega) (by omega) (by omega)]; exact ⟨rfl, rfl⟩) | (rw [gpS_no (by omega) (by omega)]; exact hg0)), (by omega), rfl⟩
       ·refine aw_reg [(9, .dec true), (12, .dec false), (16, .dec false)] [4, 8, 9, 10, 11, 94] [] [slI true (sortL gaps), I best, I least, I k, I ((sprI ((sortL gaps).take k.toNat)) + (sprI ((sortL gaps).drop k.toNat))), Bv false] [] [inR .i64 (k - 1), (0 : Int) ≤ (k - 1) ∧ (k - 1) < (((sortL gaps).length) : Int), (0 : Int) ≤ k ∧ k < (((sortL gaps).length) : Int), (at_ (sortL gaps) ((k - 1).toNat)) < (at_ (sortL gaps) k.toNat), ¬ (best < 0), ¬ (((sprI ((sortL gaps).take k.toNat)) + (sprI ((sortL gaps).drop k.toNat))) < least)] (by kernel_rfl) hB ⟨(inR_i64 (by omega) (by omega)), ⟨(by omega), (by omega)⟩, ⟨(by omega), (by omega)⟩, h7, h8, h9, trivial⟩ ?_
        refine ae_then ?_
        refine aw_false rfl ?_
        refine aw_skip ?_
        refine ae_block 5 ?_
        refine ae_then ?_
        refine aw_reg [] [4, 8, 9, 10] [] [slI true (sortL gaps), I best, I least, I (k + 1)] [] [inR .i64 (k + 1)] (by kernel_rfl) hB ⟨(inR_i64 (by omega) (by omega)), trivial⟩ ?_
        exact ae_again _ (by omega) ⟨best, least, (k + 1), rfl, (by omega), (by first | (rw [gpS_yes (by omega) (by omega) (by omega)]; exact ⟨rfl, rfl⟩) | (rw [gpS_no (by omega) (by omega)]; exact hg0)), (by omega), rfl⟩
     ·refine aw_reg [(9, .dec false)] [4, 8, 9, 10, 11, 94] [] [slI true (sortL gaps), I best, I least, I k, I ((sprI ((sortL gaps).take k.toNat)) + (sprI ((sortL gaps).drop k.toNat))), Bv false] [] [inR .i64 (k - 1), (0 : Int) ≤ (k - 1) ∧ (k - 1) < (((sortL gaps).length) : Int), (0 : Int) ≤ k ∧ k < (((sortL gaps).length) : Int), ¬ ((at_ (sortL gaps) ((k - 1).toNat)) < (at_ (sortL gaps) k.toNat))] (by kernel_rfl) hB ⟨(inR_i64 (by omega) (by omega)), ⟨(by omega), (by omega)⟩, ⟨(by omega), (by omega)⟩, h7, trivial⟩ ?_
      refine ae_then ?_
      refine aw_false rfl ?_
      refine aw_skip ?_
      refine ae_block 5 ?_
      refine ae_then ?_
      refine aw_reg [] [4, 8, 9, 10] [] [slI true (sortL gaps), I best, I least, I (k + 1)] [] [inR .i64 (k + 1)] (by kernel_rfl) hB ⟨(inR_i64 (by omega) (by omega)), trivial⟩ ?_
      exact ae_again _ (by omega) ⟨best, least, (k + 1), rfl, (by omega), (by first | (rw [gpS_yes (by omega) (by omega) (by omega)]; exact ⟨rfl, rfl⟩) | (rw [gpS_no (by omega) (by omega)]; exact hg0)), (by omega), rfl⟩
    ·have hke : gpS (sortL gaps) k.toNat = gpS (sortL gaps) (sortL gaps).length := by rcases hkk.2 with q | q; (have e : k.toNat = (sortL gaps).length := by omega); (rw [e]); (subst q; have e2 : (sortL gaps).length = 0 ∨ (sortL gaps).length = 1 := by omega); (rcases e2 with e2 | e2 <;> rw [e2] <;> simp [gpS])
     rw [hke] at hg0
     have hgi := gpS_in (sortL gaps) (sortL gaps).length
     refine aw_reg [(3, .dec false)] [4, 8, 9, 10, 64] [] [slI true (sortL gaps), I best, I least, I k, Bv false] [] [¬ (k < (((sortL gaps).length) : Int))] (by kernel_rfl) hB ⟨h6, trivial⟩ ?_
     refine ae_then ?_
     refine aw_false rfl ?_
     refine aw_exit ?_
     refine ae_exit_then ?_
     refine ae_exit_then ?_
     refine ae_exit_same ?_
     refine ae_then ?_
     refine aw_seq ?_
     refine aw_seq ?_
     by_cases h10 : best < 0
     ·have hst := hgo.trans (gapQ_no (by rw [← hg0.1]; exact h10))
      refine aw_reg [(1, .dec true)] [4, 8, 98] [] [slI true (sortL gaps), I best, Bv true] [] [best < 0] (by kernel_rfl) hB ⟨h10, trivial⟩ ?_
      refine ae_then ?_
      refine aw_true rfl ?_
      refine aw_seq ?_
      refine aw_reg [] [2, 3] [] [I 0, I 6] [] [] (by kernel_rfl) hB trivial ?_
      refine ae_then ?_
      refine aw_ret ?_
      refine ae_ret_then ?_
      refine ae_ret hB (.tup [I 0, I 6]) (by kernel_rfl) (.inl (by first | (rw [hst]; done) | (rw [hst, ← hg0.1]; done))) rfl (fun _ => (by simp [tagged, taggedL]))
     ·have hst := hgo.trans (gapQ_yes (by rw [← hg0.1]; exact h10))
      refine aw_reg [(1, .dec false)] [4, 8, 98] [] [slI true (sortL gaps), I best, Bv false] [] [¬ (best < 0)] (by kernel_rfl) hB ⟨h10, trivial⟩ ?_
      refine ae_then ?_
      refine aw_false rfl ?_
      refine aw_skip ?_
      refine ae_then ?_
      refine aw_seq ?_
      refine aw_reg [] [2, 3] [] [I (at_ (sortL gaps) ((best - 1).toNat)), I 0] [] [inR .i64 (best - 1), (0 : Int) ≤ (best - 1) ∧ (best - 1) < (((sortL gaps).length) : Int)] (by kernel_rfl) hB ⟨(inR_i64 (by omega) (by omega)), ⟨(by omega), (by omega)⟩, trivial⟩ ?_
      refine ae_then ?_
      refine aw_ret ?_
      refine ae_ret hB (.tup [I (at_ (sortL gaps) ((best - 1).toNat)), I 0]) (by kernel_rfl) (.inl (by first | (rw [hst]; done) | (rw [hst, ← hg0.1]; done))) rfl (fun _ => (by simp [tagged, taggedL]))


-- spec.l19Draw
theorem l19Draw_ok (s : l00Src) (hs : okSrc s) (ha : s.atx ≤ 3999999999999999400) : ∃ (s' : l00Src) (bs : List Box), (bs.length ≤ 12) ∧ (okSrc s') ∧ (s'.code = s.code) ∧ (s.atx + 0 ≤ s'.atx ∧ s'.atx ≤ s.atx + 400) ∧ CallOK Try.prog 91 [.ref 7001 0] (lookO [(7001, bxl00Src s)]) false (.arr 8231) (lookO [(7001, bxl00Src s'), (8231, .arr 4 bs.length (fBox bs))]) := by
  have hh : ∃ r : l00Src × (List Box), ((r.2.length ≤ 12) ∧ (okSrc r.1) ∧ (r.1.code = s.code) ∧ (s.atx + 0 ≤ r.1.atx ∧ r.1.atx ≤ s.atx + 400) ∧ (True)) ∧ CallOK Try.prog 91 [.ref 7001 0] (lookO [(7001, bxl00Src s)]) false (.arr 8231) (lookO [(7001, bxl00Src r.1), (8231, .arr 4 r.2.length (fBox r.2))]) := by
    refine fn_okX (Φ := fun r : l00Src × (List Box) => (r.2.length ≤ 12) ∧ (okSrc r.1) ∧ (r.1.code = s.code) ∧ (s.atx + 0 ≤ r.1.atx ∧ r.1.atx ≤ s.atx + 400) ∧ (True)) [(7001, bxl00Src s)] (fun r => [(7001, bxl00Src r.1), (8231, .arr 4 r.2.length (fBox r.2))]) (fn := Try.f91) (nt := 39) Try.func91 rfl rfl (args := [.ref 7001 0]) rfl (allcons (.inr trivial) allnil) (res := fun r => .arr 8231) ?_
    refine x_seq ?_
    refine x_reg [] [0] [7001] [.ref 7001 0] [some (bxl00Src s)] [] (by kernel_rfl) trivial ?_
    refine xe_then ?_
    refine x_seq ?_
    refine x_reg [(0, .new 7)] [0, 3] [7, 7001] [.ref 7001 0, .arr 7] [some (.arr 4 0 (litF [] 4)), some (bxl00Src s)] [] (by kernel_rfl) trivial ?_
    refine xe_then ?_
    refine x_seq ?_
    refine x_seq ?_
    obtain ⟨v_1, s'_1, hx1_0, hx1_1, hx1_2, hx1_3, hc1⟩ := pick_ok s 12 (by first | assumption | (simp only [okSrc] at *; simp_all; done)) (by omega)
    refine x_reg [(1, .lend [(7001, bxl00Src s, bxl00Src s'_1)] [] [(true, .ref 7001 0), (true, I 12)] true (I v_1))] [0, 3, 4] [7, 7001] [.ref 7001 0, .arr 7, I v_1] [some (.arr 4 0 (litF [] 4)), some (bxl00Src s'_1)] [CallOK Try.prog 50 [.ref 7001 0, I 12] (lookO [(7001, bxl00Src s)]) true (I v_1) (lookO [(7001, bxl00Src s'_1)]) ∧ ((.ref 7001 0 : AV) = .ref 7001 0) ∧ ((I 12 : AV) = I 12) ∧ (((bxl00Src s : Ob) = bxl00Src s ∨ obLe noOb true (bxl00Src s) (bxl00Src s)) ∧ taggedO false (bxl00Src s)) ∧ True] (by kernel_rfl) ⟨⟨hc1, rfl, rfl, ⟨.inl rfl, (by simp [taggedO, taggedL, tagged, tagU8])⟩, trivial⟩, trivial⟩ ?_
    refine xe_then ?_
    refine x_block ?_
    refine x_weak [] (T := [(0, .ref 7001 0), (3, .arr 7), (4, I v_1)]) (O := [(7, .arr 4 (([] : List Box).length) (fBox ([] : List Box))), (7001, bxl00Src s'_1)]) rfl (⟨.inl rfl, .inl rfl, .inl rfl, trivial⟩) (⟨.inr ⟨rfl, (by first | rfl | (simp; done) | (simp; omega) | omega), fun i_ hi_ => absurd hi_ (Nat.not_lt_zero _)⟩, .inl rfl, trivial⟩) ?_
    refine x_loop (X := (List Box) × Int × l00Src) (fun x => mkS [(0, .ref 7001 0), (3, .arr 7), (4, I x.2.1)] [(7, .arr 4 x.1.length (fBox x.1)), (7001, bxl00Src x.2.2)]) (fun x => (okSrc x.2.2 ∧ x.2.2.code = s.code ∧ s.atx ≤ x.2.2.atx ∧ x.2.2.atx ≤ s.atx + 2 + 30 * (12 - x.2.1)) ∧ (0 ≤ x.2.1 ∧ x.2.1 ≤ 12) ∧ ((x.1.length : Int) + x.2.1 ≤ 12) ∧ True) (fun x => x.2.1.toNat) (([] : List Box), v_1, s'_1) rfl (show (okSrc s'_1 ∧ s'_1.code = s.code ∧ s.atx ≤ s'_1.atx ∧ s'_1.atx ≤ s.atx + 2 + 30 * (12 - v_1)) ∧ (0 ≤ v_1 ∧ v_1 ≤ 12) ∧ ((([] : List Box).length : Int) + v_1 ≤ 12) ∧ True from ⟨(by exact ⟨by assumption, by first | assumption | rfl | (simp only [*]; done), by omega, by omega⟩), (by omega), (by simp; omega), trivial⟩) (fun x hI => ?_)
    obtain ⟨out, k, src⟩ := x
    obtain ⟨hs0, hk0, hl0, _⟩ : (okSrc src ∧ src.code = s.code ∧ s.atx ≤ src.atx ∧ src.atx ≤ s.atx + 2 + 30 * (12 - k)) ∧ (0 ≤ k ∧ k ≤ 12) ∧ ((out.length : Int) + k ≤ 12) ∧ True := hI
    show XW _ _ _ _ (mkS [(0, .ref 7001 0), (3, .arr 7), (4, I k)] [(7, .arr 4 out.length (fBox out)), (7001, bxl00Src src)]) _ _
    refine x_seq ?_
    refine x_seq ?_
    by_cases h1 : 0 < k
    ·refine x_reg [(1, .dec true)] [0, 3, 4, 11] [7, 7001] [.ref 7001 0, .arr 7, I k, Bv true] [some (.arr 4 out.length (fBox out)), some (bxl00Src src)] [0 < k] (by kernel_rfl) ⟨h1, trivial⟩ ?_
     refine xe_then ?_
     refine x_true rfl ?_
     refine x_skip ?_
     refine xe_then ?_
     refine x_seq ?_
     refine x_block ?_
     refine x_seq ?_
     obtain ⟨v_2, s'_2, hx2_0, hx2_1, hx2_2, hx2_3, hc2⟩ := pick_ok src 30 (by first | assumption | (simp only [okSrc] at *; simp_all; done)) (by omega)
     refine x_reg [(1, .lend [(7001, bxl00Src src, bxl00Src s'_2)] [] [(true, .ref 7001 0), (true, I 30)] true (I v_2))] [0, 3, 4, 5] [7, 7001] [.ref 7001 0, .arr 7, I k, I (v_2 * 20)] [some (.arr 4 out.length (fBox out)), some (bxl00Src s'_2)] [CallOK Try.prog 50 [.ref 7001 0, I 30] (lookO [(7001, bxl00Src src)]) true (I v_2) (lookO [(7001, bxl00Src s'_2)]) ∧ ((.ref 7001 0 : AV) = .ref 7001 0) ∧ ((I 30 : AV) = I 30) ∧ (((bxl00Src src : Ob) = bxl00Src src ∨ obLe noOb true (bxl00Src src) (bxl00Src src)) ∧ taggedO false (bxl00Src src)) ∧ True, inR .i64 (v_2 * 20)] (by kernel_rfl) ⟨⟨hc2, rfl, rfl, ⟨.inl rfl, (by simp [taggedO, taggedL, tagged, tagU8])⟩, trivial⟩, (inR_i64 (by omega) (by omega)), trivial⟩ ?_
     refine xe_then ?_
     refine x_seq ?_
     obtain ⟨v_3, s'_3, hx3_0, hx3_1, hx3_2, hx3_3, hc3⟩ := pick_ok s'_2 4 (by first | assumption | (simp only [okSrc] at *; simp_all; done)) (by omega)
     obtain ⟨v_4, s'_4, hx4_0, hx4_1, hx4_2, hx4_3, hc4⟩ := pick_ok s'_3 20 (by first | assumption | (simp only [okSrc] at *; simp_all; done)) (by omega)
     refine x_reg [(1, .lend [(7001, bxl00Src s'_2, bxl00Src s'_3)] [] [(true, .ref 7001 0), (true, I 4)] true (I v_3)), (4, .lend [(7001, bxl00Src s'_3, bxl00Src s'_4)] [] [(true, .ref 7001 0), (true, I 20)] true (I v_4))] [0, 3, 4, 5, 6] [7, 7001] [.ref 7001 0, .arr 7, I k, I (v_2 * 20), I ((v_3 * 100) + v_4)] [some (.arr 4 out.length (fBox out)), some (bxl00Src s'_4)] [CallOK Try.prog 50 [.ref 7001 0, I 4] (lookO [(7001, bxl00Src s'_2)]) true (I v_3) (lookO [(7001, bxl00Src s'_3)]) ∧ ((.ref 7001 0 : AV) = .ref 7001 0) ∧ ((I 4 : AV) = I 4) ∧ (((bxl00Src s'_2 : Ob) = bxl00Src s'_2 ∨ obLe noOb true (bxl00Src s'_2) (bxl00Src s'_2)) ∧ taggedO false (bxl00Src s'_2)) ∧ True, inR .i64 (v_3 * 100), CallOK Try.prog 50 [.ref 7001 0, I 20] (lookO [(7001, bxl00Src s'_3)]) true (I v_4) (lookO [(7001, bxl00Src s'_4)]) ∧ ((.ref 7001 0 : AV) = .ref 7001 0) ∧ ((I 20 : AV) = I 20) ∧ (((bxl00Src s'_3 : Ob) = bxl00Src s'_3 ∨ obLe noOb true (bxl00Src s'_3) (bxl00Src s'_3)) ∧ taggedO false (bxl00Src s'_3)) ∧ True, inR .i64 ((v_3 * 100) + v_4)] (by kernel_rfl) ⟨⟨hc3, rfl, rfl, ⟨.inl rfl, (by simp [taggedO, taggedL, tagged, tagU8])⟩, trivial⟩, (inR_i64 (by omega) (by omega)), ⟨hc4, rfl, rfl, ⟨.inl rfl, (by simp [taggedO, taggedL, tagged, tagU8])⟩, trivial⟩, (inR_i64 (by omega) (by omega)), trivial⟩ ?_
     refine xe_then ?_
     obtain ⟨v_5, s'_5, hx5_0, hx5_1, hx5_2, hx5_3, hc5⟩ := pick_ok s'_4 40 (by first | assumption | (simp only [okSrc] at *; simp_all; done)) (by omega)
     obtain ⟨v_6, s'_6, hx6_0, hx6_1, hx6_2, hx6_3, hc6⟩ := pick_ok s'_5 50 (by first | assumption | (simp only [okSrc] at *; simp_all; done)) (by omega)
     refine x_reg [(5, .lend [(7001, bxl00Src s'_4, bxl00Src s'_5)] [] [(true, .ref 7001 0), (true, I 40)] true (I v_5)), (10, .lend [(7001, bxl00Src s'_5, bxl00Src s'_6)] [] [(true, .ref 7001 0), (true, I 50)] true (I v_6)), (13, .new 36), (14, .new 37)] [0, 3, 4] [37, 7001] [.ref 7001 0, .arr 37, I k] [some (.arr 4 (out.length + 1) (catF out.length (fBox out) (litF [I (v_2 * 20), I ((v_3 * 100) + v_4), I ((v_2 * 20) + v_5), I ((((v_3 * 100) + v_4) + 20) + v_6)] 4))), some (bxl00Src s'_6)] [CallOK Try.prog 50 [.ref 7001 0, I 40] (lookO [(7001, bxl00Src s'_4)]) true (I v_5) (lookO [(7001, bxl00Src s'_5)]) ∧ ((.ref 7001 0 : AV) = .ref 7001 0) ∧ ((I 40 : AV) = I 40) ∧ (((bxl00Src s'_4 : Ob) = bxl00Src s'_4 ∨ obLe noOb true (bxl00Src s'_4) (bxl00Src s'_4)) ∧ taggedO false (bxl00Src s'_4)) ∧ True, inR .i64 ((v_2 * 20) + v_5), inR .i64 (((v_3 * 100) + v_4) + 20), CallOK Try.prog 50 [.ref 7001 0, I 50] (lookO [(7001, bxl00Src s'_5)]) true (I v_6) (lookO [(7001, bxl00Src s'_6)]) ∧ ((.ref 7001 0 : AV) = .ref 7001 0) ∧ ((I 50 : AV) = I 50) ∧ (((bxl00Src s'_5 : Ob) = bxl00Src s'_5 ∨ obLe noOb true (bxl00Src s'_5) (bxl00Src s'_5)) ∧ taggedO false (bxl00Src s'_5)) ∧ True, inR .i64 ((((v_3 * 100) + v_4) + 20) + v_6), (out.length + 1) * 32 ≤ 140737488355328] (by kernel_rfl) ⟨⟨hc5, rfl, rfl, ⟨.inl rfl, (by simp [taggedO, taggedL, tagged, tagU8])⟩, trivial⟩, (inR_i64 (by omega) (by omega)), (inR_i64 (by omega) (by omega)), ⟨hc6, rfl, rfl, ⟨.inl rfl, (by simp [taggedO, taggedL, tagged, tagU8])⟩, trivial⟩, (inR_i64 (by omega) (by omega)), (by omega), trivial⟩ ?_
     refine xe_block 1 ?_
     refine xe_then ?_
     refine x_reg [] [0, 3, 4] [37, 7001] [.ref 7001 0, .arr 37, I (k - 1)] [some (.arr 4 (out.length + 1) (catF out.length (fBox out) (litF [I (v_2 * 20), I ((v_3 * 100) + v_4), I ((v_2 * 20) + v_5), I ((((v_3 * 100) + v_4) + 20) + v_6)] 4))), some (bxl00Src s'_6)] [inR .i64 (k - 1)] (by kernel_rfl) ⟨(inR_i64 (by omega) (by omega)), trivial⟩ ?_
     refine xe_weak [(7, 37)] (T := [(0, .ref 7001 0), (3, .arr 7), (4, I (k - 1))]) (O := [(7, .arr 4 ((out ++ [(Box.mk (v_2 * 20) ((v_3 * 100) + v_4) ((v_2 * 20) + v_5) ((((v_3 * 100) + v_4) + 20) + v_6))]).length) (fBox (out ++ [(Box.mk (v_2 * 20) ((v_3 * 100) + v_4) ((v_2 * 20) + v_5) ((((v_3 * 100) + v_4) + 20) + v_6))]))), (7001, bxl00Src s'_6)]) rfl (⟨.inl rfl, .inl rfl, .inl rfl, trivial⟩) (⟨.inr ⟨rfl, (by first | rfl | (simp; done) | (simp; omega) | omega), fun i_ hi_ => .inl (cat_snoc (enc := cBox) (xs := out) rfl i_ hi_)⟩, .inl rfl, trivial⟩) (xe_again ((out ++ [(Box.mk (v_2 * 20) ((v_3 * 100) + v_4) ((v_2 * 20) + v_5) ((((v_3 * 100) + v_4) + 20) + v_6))]), (k - 1), s'_6) rfl (show (okSrc s'_6 ∧ s'_6.code = s.code ∧ s.atx ≤ s'_6.atx ∧ s'_6.atx ≤ s.atx + 2 + 30 * (12 - (k - 1))) ∧ (0 ≤ (k - 1) ∧ (k - 1) ≤ 12) ∧ (((out ++ [(Box.mk (v_2 * 20) ((v_3 * 100) + v_4) ((v_2 * 20) + v_5) ((((v_3 * 100) + v_4) + 20) + v_6))]).length : Int) + (k - 1) ≤ 12) ∧ True from ⟨(by exact ⟨by assumption, by first | assumption | rfl | (simp only [*]; done), by omega, by omega⟩), (by omega), (by simp; omega), trivial⟩) (by show ((k - 1).toNat : Nat) < k.toNat; omega))
    ·refine x_reg [(1, .dec false)] [0, 3, 4, 11] [7, 7001] [.ref 7001 0, .arr 7, I k, Bv false] [some (.arr 4 out.length (fBox out)), some (bxl00Src src)] [¬ (0 < k)] (by kernel_rfl) ⟨h1, trivial⟩ ?_
     refine xe_then ?_
     refine x_false rfl ?_
     refine x_exit ?_
     refine xe_exit_then ?_
     refine xe_loop_exit ?_
     refine xe_exit_same ?_
     refine xe_then ?_
     refine x_seq ?_
     refine x_reg [] [2] [7, 7001] [.arr 7] [some (.arr 4 out.length (fBox out)), some (bxl00Src src)] [] (by kernel_rfl) trivial ?_
     refine xe_then ?_
     refine x_ret ?_
     refine xe_weak [(8231, 7)] (T := [(2, .arr 8231)]) (O := [(7001, bxl00Src src), (8231, .arr 4 out.length (fBox out))]) rfl (⟨.inl rfl, trivial⟩) (⟨.inl rfl, .inl rfl, trivial⟩) ?_
     refine xe_end (src, out) (show (out.length ≤ 12) ∧ (okSrc src) ∧ (src.code = s.code) ∧ (s.atx + 0 ≤ src.atx ∧ src.atx ≤ s.atx + 400) ∧ (True) from ⟨(by first | omega | assumption | rfl | (simp; done) | (simp; omega) | (simp_all; done)), (by first | omega | assumption | rfl | (simp; done) | (simp; omega) | (simp_all; done)), (by first | omega | assumption | rfl | (simp; done) | (simp; omega) | (simp_all; done)), (by first | omega | assumption | rfl | (simp; done) | (simp; omega) | (simp_all; done)), trivial⟩) (⟨.inl rfl, .inl rfl, trivial⟩) (.arr 8231) (by kernel_rfl) (.inl rfl) (fun h => by cases h) (fun h => by cases h)
  obtain ⟨⟨s', bs⟩, ⟨hh0, hh1, hh2, hh3, _⟩, hc⟩ := hh
  exact ⟨s', bs, hh0, hh1, hh2, hh3, hc⟩


-- spec.l02DrawBox
theorem l02DrawBox_ok (s : l00Src) (hs : okSrc s) (ha : s.atx ≤ 3999999999999999800) : ∃ (v : Box) (s' : l00Src), (okSrc s') ∧ (s'.code = s.code) ∧ (s.atx + 0 ≤ s'.atx ∧ s'.atx ≤ s.atx + 60) ∧ CallOK Try.prog 144 [.ref 7001 0] (lookO [(7001, bxl00Src s)]) true (agBox v) (lookO [(7001, bxl00Src s')]) := by
  have hh : ∃ r : Box × l00Src, ((okSrc r.2) ∧ (r.2.code = s.code) ∧ (s.atx + 0 ≤ r.2.atx ∧ r.2.atx ≤ s.atx + 60) ∧ (True)) ∧ CallOK Try.prog 144 [.ref 7001 0] (lookO [(7001, bxl00Src s)]) true (agBox r.1) (lookO [(7001, bxl00Src r.2)]) := by
    refine fn_okX (Φ := fun r : Box × l00Src => (okSrc r.2) ∧ (r.2.code = s.code) ∧ (s.atx + 0 ≤ r.2.atx ∧ r.2.atx ≤ s.atx + 60) ∧ (True)) [(7001, bxl00Src s)] (fun r => [(7001, bxl00Src r.2)]) (fn := Try.f144) (nt := 41) Try.func144 rfl rfl (args := [.ref 7001 0]) rfl (allcons (.inr trivial) allnil) (res := fun r => agBox r.1) ?_
    refine x_seq ?_
    refine x_reg [(0, .new 2)] [0, 2] [2, 7001] [.ref 7001 0, .ref 2 0] [some (.box [I 0, I 0, I 0, I 0]), some (bxl00Src s)] [] (by kernel_rfl) trivial ?_
    refine xe_then ?_
    refine x_seq ?_
    obtain ⟨v_1, s'_1, hx1_0, hx1_1, hx1_2, hx1_3, hc1⟩ := pick_ok s 900 (by first | assumption | (simp only [okSrc] at *; simp_all; done)) (by omega)
    refine x_reg [(1, .lend [(7001, bxl00Src s, bxl00Src s'_1)] [] [(true, .ref 7001 0), (true, I 900)] true (I v_1))] [0, 2, 3] [2, 7001] [.ref 7001 0, .ref 2 0, I v_1] [some (.box [I 0, I 0, I 0, I 0]), some (bxl00Src s'_1)] [CallOK Try.prog 50 [.ref 7001 0, I 900] (lookO [(7001, bxl00Src s)]) true (I v_1) (lookO [(7001, bxl00Src s'_1)]) ∧ ((.ref 7001 0 : AV) = .ref 7001 0) ∧ ((I 900 : AV) = I 900) ∧ (((bxl00Src s : Ob) = bxl00Src s ∨ obLe noOb true (bxl00Src s) (bxl00Src s)) ∧ taggedO false (bxl00Src s)) ∧ True] (by kernel_rfl) ⟨⟨hc1, rfl, rfl, ⟨.inl rfl, (by simp [taggedO, taggedL, tagged, tagU8])⟩, trivial⟩, trivial⟩ ?_
    refine xe_then ?_
    refine x_seq ?_
    obtain ⟨v_2, s'_2, hx2_0, hx2_1, hx2_2, hx2_3, hc2⟩ := pick_ok s'_1 900 (by first | assumption | (simp only [okSrc] at *; simp_all; done)) (by omega)
    refine x_reg [(1, .lend [(7001, bxl00Src s'_1, bxl00Src s'_2)] [] [(true, .ref 7001 0), (true, I 900)] true (I v_2))] [0, 2, 3, 4] [2, 7001] [.ref 7001 0, .ref 2 0, I v_1, I v_2] [some (.box [I 0, I 0, I 0, I 0]), some (bxl00Src s'_2)] [CallOK Try.prog 50 [.ref 7001 0, I 900] (lookO [(7001, bxl00Src s'_1)]) true (I v_2) (lookO [(7001, bxl00Src s'_2)]) ∧ ((.ref 7001 0 : AV) = .ref 7001 0) ∧ ((I 900 : AV) = I 900) ∧ (((bxl00Src s'_1 : Ob) = bxl00Src s'_1 ∨ obLe noOb true (bxl00Src s'_1) (bxl00Src s'_1)) ∧ taggedO false (bxl00Src s'_1)) ∧ True] (by kernel_rfl) ⟨⟨hc2, rfl, rfl, ⟨.inl rfl, (by simp [taggedO, taggedL, tagged, tagU8])⟩, trivial⟩, trivial⟩ ?_
    refine xe_then ?_
    refine x_seq ?_
    obtain ⟨v_3, s'_3, hx3_0, hx3_1, hx3_2, hx3_3, hc3⟩ := pick_ok s'_2 300 (by first | assumption | (simp only [okSrc] at *; simp_all; done)) (by omega)
    obtain ⟨v_4, s'_4, hx4_0, hx4_1, hx4_2, hx4_3, hc4⟩ := pick_ok s'_3 300 (by first | assumption | (simp only [okSrc] at *; simp_all; done)) (by omega)
    refine x_reg [(4, .lend [(7001, bxl00Src s'_2, bxl00Src s'_3)] [] [(true, .ref 7001 0), (true, I 300)] true (I v_3)), (8, .lend [(7001, bxl00Src s'_3, bxl00Src s'_4)] [] [(true, .ref 7001 0), (true, I 300)] true (I v_4)), (11, .new 5)] [0, 2, 5] [2, 5, 7001] [.ref 7001 0, .ref 2 0, .ref 5 0] [some (.box [I 0, I 0, I 0, I 0]), some (.box [I v_1, I v_2, I (v_1 + v_3), I (v_2 + v_4)]), some (bxl00Src s'_4)] [CallOK Try.prog 50 [.ref 7001 0, I 300] (lookO [(7001, bxl00Src s'_2)]) true (I v_3) (lookO [(7001, bxl00Src s'_3)]) ∧ ((.ref 7001 0 : AV) = .ref 7001 0) ∧ ((I 300 : AV) = I 300) ∧ (((bxl00Src s'_2 : Ob) = bxl00Src s'_2 ∨ obLe noOb true (bxl00Src s'_2) (bxl00Src s'_2)) ∧ taggedO false (bxl00Src s'_2)) ∧ True, inR .i64 (v_1 + v_3), CallOK Try.prog 50 [.ref 7001 0, I 300] (lookO [(7001, bxl00Src s'_3)]) true (I v_4) (lookO [(7001, bxl00Src s'_4)]) ∧ ((.ref 7001 0 : AV) = .ref 7001 0) ∧ ((I 300 : AV) = I 300) ∧ (((bxl00Src s'_3 : Ob) = bxl00Src s'_3 ∨ obLe noOb true (bxl00Src s'_3) (bxl00Src s'_3)) ∧ taggedO false (bxl00Src s'_3)) ∧ True, inR .i64 (v_2 + v_4)] (by kernel_rfl) ⟨⟨hc3, rfl, rfl, ⟨.inl rfl, (by simp [taggedO, taggedL, tagged, tagU8])⟩, trivial⟩, (inR_i64 (by omega) (by omega)), ⟨hc4, rfl, rfl, ⟨.inl rfl, (by simp [taggedO, taggedL, tagged, tagU8])⟩, trivial⟩, (inR_i64 (by omega) (by omega)), trivial⟩ ?_
    refine xe_then ?_
    refine x_seq ?_
    refine x_seq ?_
    obtain ⟨v_5, s'_5, hx5_0, hx5_1, hx5_2, hx5_3, hc5⟩ := pick_ok s'_4 16 (by first | assumption | (simp only [okSrc] at *; simp_all; done)) (by omega)
    refine x_reg [(1, .lend [(7001, bxl00Src s'_4, bxl00Src s'_5)] [] [(true, .ref 7001 0), (true, I 16)] true (I v_5))] [0, 2, 5, 22] [2, 5, 7001] [.ref 7001 0, .ref 2 0, .ref 5 0, I v_5] [some (.box [I 0, I 0, I 0, I 0]), some (.box [I v_1, I v_2, I (v_1 + v_3), I (v_2 + v_4)]), some (bxl00Src s'_5)] [CallOK Try.prog 50 [.ref 7001 0, I 16] (lookO [(7001, bxl00Src s'_4)]) true (I v_5) (lookO [(7001, bxl00Src s'_5)]) ∧ ((.ref 7001 0 : AV) = .ref 7001 0) ∧ ((I 16 : AV) = I 16) ∧ (((bxl00Src s'_4 : Ob) = bxl00Src s'_4 ∨ obLe noOb true (bxl00Src s'_4) (bxl00Src s'_4)) ∧ taggedO false (bxl00Src s'_4)) ∧ True] (by kernel_rfl) ⟨⟨hc5, rfl, rfl, ⟨.inl rfl, (by simp [taggedO, taggedL, tagged, tagU8])⟩, trivial⟩, trivial⟩ ?_
    refine xe_then ?_
    refine x_block ?_
    refine x_seq ?_
    by_cases h1 : v_5 = 0
    ·refine x_reg [(0, .dec true)] [0, 2, 5, 22, 23] [2, 5, 7001] [.ref 7001 0, .ref 2 0, .ref 5 0, I v_5, Bv true] [some (.box [I 0, I 0, I 0, I 0]), some (.box [I v_1, I v_2, I (v_1 + v_3), I (v_2 + v_4)]), some (bxl00Src s'_5)] [v_5 = 0] (by kernel_rfl) ⟨h1, trivial⟩ ?_
     refine xe_then ?_
     refine x_true rfl ?_
     obtain ⟨v_6, s'_6, hx6_0, hx6_1, hx6_2, hx6_3, hc6⟩ := among_ok s'_5 ([(-1), (v_1 + v_3), ((v_1 + v_3) + 1)]) (by first | assumption | (simp only [okSrc] at *; simp_all; done)) (by omega) (by simp)
     refine x_reg [(6, .new 31), (7, .lend [(7001, bxl00Src s'_5, bxl00Src s'_6)] [] [(true, .ref 7001 0), (false, slI false ([(-1), (v_1 + v_3), ((v_1 + v_3) + 1)]))] true (I v_6))] [2, 5] [2, 5, 7001] [.ref 2 0, .ref 5 0] [some (.box [I 0, I 0, I 0, I 0]), some (.box [I v_6, I v_2, I (v_1 + v_3), I (v_2 + v_4)]), some (bxl00Src s'_6)] [inR .i64 ((v_1 + v_3) + 1), CallOK Try.prog 92 [.ref 7001 0, slI false ([(-1), (v_1 + v_3), ((v_1 + v_3) + 1)])] (lookO [(7001, bxl00Src s'_5)]) true (I v_6) (lookO [(7001, bxl00Src s'_6)]) ∧ ((.ref 7001 0 : AV) = .ref 7001 0) ∧ ((false = true → true = true) ∧ 1 = 1 ∧ 3 = (([(-1), (v_1 + v_3), ((v_1 + v_3) + 1)]).length) ∧ ∀ i, i < (([(-1), (v_1 + v_3), ((v_1 + v_3) + 1)]).length) → (litF [I (-1), I (v_1 + v_3), I ((v_1 + v_3) + 1)] 1) i = (fI ([(-1), (v_1 + v_3), ((v_1 + v_3) + 1)])) i ∨ (AV.idsL ((fI ([(-1), (v_1 + v_3), ((v_1 + v_3) + 1)])) i) = [] ∧ leL (fun _ => none) false ((litF [I (-1), I (v_1 + v_3), I ((v_1 + v_3) + 1)] 1) i) ((fI ([(-1), (v_1 + v_3), ((v_1 + v_3) + 1)])) i))) ∧ (((bxl00Src s'_5 : Ob) = bxl00Src s'_5 ∨ obLe noOb true (bxl00Src s'_5) (bxl00Src s'_5)) ∧ taggedO false (bxl00Src s'_5)) ∧ True] (by kernel_rfl) ⟨(inR_i64 (by omega) (by omega)), ⟨hc6, rfl, ⟨(fun h => by cases h), rfl, (by first | rfl | (simp; done) | (simp; omega) | omega), fun i_ hi_ => .inl (match i_, hi_ with | 0, _ => rfl | 1, _ => rfl | 2, _ => rfl | (i + 3), h => absurd h (by simp))⟩, ⟨.inl rfl, (by simp [taggedO, taggedL, tagged, tagU8])⟩, trivial⟩, trivial⟩ ?_
     refine xe_block 0 ?_
     refine xe_then ?_
     refine x_seq ?_
     refine x_reg [] [2] [2, 7001] [.ref 2 0] [some (.box [I v_6, I v_2, I (v_1 + v_3), I (v_2 + v_4)]), some (bxl00Src s'_6)] [] (by kernel_rfl) trivial ?_
     refine xe_then ?_
     refine x_ret ?_
     refine xe_end ((Box.mk v_6 v_2 (v_1 + v_3) (v_2 + v_4)), s'_6) (show (okSrc s'_6) ∧ (s'_6.code = s.code) ∧ (s.atx + 0 ≤ s'_6.atx ∧ s'_6.atx ≤ s.atx + 60) ∧ (True) from ⟨(by first | omega | assumption | rfl | (simp; done) | (simp; omega) | (simp_all; done)), (by first | omega | assumption | rfl | (simp; done) | (simp; omega) | (simp_all; done)), (by first | omega | assumption | rfl | (simp; done) | (simp; omega) | (simp_all; done)), trivial⟩) (⟨.inl rfl, trivial⟩) (.agg [I v_6, I v_2, I (v_1 + v_3), I (v_2 + v_4)]) (by kernel_rfl) (.inl rfl) (fun _ => rfl) (fun _ => (by simp [tagged, taggedL]))
    ·refine x_reg [(0, .dec false)] [0, 2, 5, 22, 23] [2, 5, 7001] [.ref 7001 0, .ref 2 0, .ref 5 0, I v_5, Bv false] [some (.box [I 0, I 0, I 0, I 0]), some (.box [I v_1, I v_2, I (v_1 + v_3), I (v_2 + v_4)]), some (bxl00Src s'_5)] [¬ (v_5 = 0)] (by kernel_rfl) ⟨h1, trivial⟩ ?_
     refine xe_then ?_
     refine x_false rfl ?_
     refine x_seq ?_
     by_cases h2 : v_5 = 1
     ·refine x_reg [(0, .dec true)] [0, 2, 5, 34] [2, 5, 7001] [.ref 7001 0, .ref 2 0, .ref 5 0, Bv true] [some (.box [I 0, I 0, I 0, I 0]), some (.box [I v_1, I v_2, I (v_1 + v_3), I (v_2 + v_4)]), some (bxl00Src s'_5)] [v_5 = 1] (by kernel_rfl) ⟨h2, trivial⟩ ?_
      refine xe_then ?_
      refine x_true rfl ?_
      obtain ⟨v_7, s'_7, hx7_0, hx7_1, hx7_2, hx7_3, hc7⟩ := among_ok s'_5 ([4095, 4096, (-1)]) (by first | assumption | (simp only [okSrc] at *; simp_all; done)) (by omega) (by simp)
      refine x_reg [(1, .new 37), (2, .lend [(7001, bxl00Src s'_5, bxl00Src s'_7)] [] [(true, .ref 7001 0), (false, slI false ([4095, 4096, (-1)]))] true (I v_7))] [2, 5] [2, 5, 7001] [.ref 2 0, .ref 5 0] [some (.box [I 0, I 0, I 0, I 0]), some (.box [I v_1, I v_2, I (v_1 + v_3), I v_7]), some (bxl00Src s'_7)] [CallOK Try.prog 92 [.ref 7001 0, slI false ([4095, 4096, (-1)])] (lookO [(7001, bxl00Src s'_5)]) true (I v_7) (lookO [(7001, bxl00Src s'_7)]) ∧ ((.ref 7001 0 : AV) = .ref 7001 0) ∧ ((false = true → true = true) ∧ 1 = 1 ∧ 3 = (([4095, 4096, (-1)]).length) ∧ ∀ i, i < (([4095, 4096, (-1)]).length) → (litF [I 4095, I 4096, I (-1)] 1) i = (fI ([4095, 4096, (-1)])) i ∨ (AV.idsL ((fI ([4095, 4096, (-1)])) i) = [] ∧ leL (fun _ => none) false ((litF [I 4095, I 4096, I (-1)] 1) i) ((fI ([4095, 4096, (-1)])) i))) ∧ (((bxl00Src s'_5 : Ob) = bxl00Src s'_5 ∨ obLe noOb true (bxl00Src s'_5) (bxl00Src s'_5)) ∧ taggedO false (bxl00Src s'_5)) ∧ True] (by kernel_rfl) ⟨⟨hc7, rfl, ⟨(fun h => by cases h), rfl, (by first | rfl | (simp; done) | (simp; omega) | omega), fun i_ hi_ => .inl (match i_, hi_ with | 0, _ => rfl | 1, _ => rfl | 2, _ => rfl | (i + 3), h => absurd h (by simp))⟩, ⟨.inl rfl, (by simp [taggedO, taggedL, tagged, tagU8])⟩, trivial⟩, trivial⟩ ?_
      refine xe_block 0 ?_
      refine xe_then ?_
      refine x_seq ?_
      refine x_reg [] [2] [2, 7001] [.ref 2 0] [some (.box [I v_1, I v_2, I (v_1 + v_3), I v_7]), some (bxl00Src s'_7)] [] (by kernel_rfl) trivial ?_
      refine xe_then ?_
      refine x_ret ?_
      refine xe_end ((Box.mk v_1 v_2 (v_1 + v_3) v_7), s'_7) (show (okSrc s'_7) ∧ (s'_7.code = s.code) ∧ (s.atx + 0 ≤ s'_7.atx ∧ s'_7.atx ≤ s.atx + 60) ∧ (True) from ⟨(by first | omega | assumption | rfl | (simp; done) | (simp; omega) | (simp_all; done)), (by first | omega | assumption | rfl | (simp; done) | (simp; omega) | (simp_all; done)), (by first | omega | assumption | rfl | (simp; done) | (simp; omega) | (simp_all; done)), trivial⟩) (⟨.inl rfl, trivial⟩) (.agg [I v_1, I v_2, I (v_1 + v_3), I v_7]) (by kernel_rfl) (.inl rfl) (fun _ => rfl) (fun _ => (by simp [tagged, taggedL]))
     ·refine x_reg [(0, .dec false)] [0, 2, 5, 34] [2, 5, 7001] [.ref 7001 0, .ref 2 0, .ref 5 0, Bv false] [some (.box [I 0, I 0, I 0, I 0]), some (.box [I v_1, I v_2, I (v_1 + v_3), I (v_2 + v_4)]), some (bxl00Src s'_5)] [¬ (v_5 = 1)] (by kernel_rfl) ⟨h2, trivial⟩ ?_
      refine xe_then ?_
      refine x_false rfl ?_
      refine x_skip ?_
      refine xe_block 0 ?_
      refine xe_then ?_
      refine x_seq ?_
      refine x_reg [] [2] [2, 7001] [.ref 2 0] [some (.box [I v_1, I v_2, I (v_1 + v_3), I (v_2 + v_4)]), some (bxl00Src s'_5)] [] (by kernel_rfl) trivial ?_
      refine xe_then ?_
      refine x_ret ?_
      refine xe_end ((Box.mk v_1 v_2 (v_1 + v_3) (v_2 + v_4)), s'_5) (show (okSrc s'_5) ∧ (s'_5.code = s.code) ∧ (s.atx + 0 ≤ s'_5.atx ∧ s'_5.atx ≤ s.atx + 60) ∧ (True) from ⟨(by first | omega | assumption | rfl | (simp; done) | (simp; omega) | (simp_all; done)), (by first | omega | assumption | rfl | (simp; done) | (simp; omega) | (simp_all; done)), (by first | omega | assumption | rfl | (simp; done) | (simp; omega) | (simp_all; done)), trivial⟩) (⟨.inl rfl, trivial⟩) (.agg [I v_1, I v_2, I (v_1 + v_3), I (v_2 + v_4)]) (by kernel_rfl) (.inl rfl) (fun _ => rfl) (fun _ => (by simp [tagged, taggedL]))
  obtain ⟨⟨v, s'⟩, ⟨hh0, hh1, hh2, _⟩, hc⟩ := hh
  exact ⟨v, s', hh0, hh1, hh2, hc⟩


-- spec.l19Bent
theorem l19Bent_ok (s : l00Src) (hs : okSrc s) (ha : s.atx ≤ 3999999999999999000) : ∃ (v : List Box) (s' : l00Src), (v.length ≤ 100) ∧ (okSrc s') ∧ (s'.code = s.code) ∧ (s.atx + 0 ≤ s'.atx ∧ s'.atx ≤ s.atx + 600) ∧ CallOK Try.prog 88 [.ref 7001 0] (lookO [(7001, bxl00Src s)]) true (slBox true v) (lookO [(7001, bxl00Src s')]) := by
  have hh : ∃ r : (List Box) × l00Src, ((r.1.length ≤ 100) ∧ (okSrc r.2) ∧ (r.2.code = s.code) ∧ (s.atx + 0 ≤ r.2.atx ∧ r.2.atx ≤ s.atx + 600) ∧ (True)) ∧ CallOK Try.prog 88 [.ref 7001 0] (lookO [(7001, bxl00Src s)]) true (slBox true r.1) (lookO [(7001, bxl00Src r.2)]) := by
    refine fn_okX (Φ := fun r : (List Box) × l00Src => (r.1.length ≤ 100) ∧ (okSrc r.2) ∧ (r.2.code = s.code) ∧ (s.atx + 0 ≤ r.2.atx ∧ r.2.atx ≤ s.atx + 600) ∧ (True)) [(7001, bxl00Src s)] (fun r => [(7001, bxl00Src r.2)]) (fn := Try.f88) (nt := 28) Try.func88 rfl rfl (args := [.ref 7001 0]) rfl (allcons (.inr trivial) allnil) (res := fun r => slBox true r.1) ?_
    refine x_seq ?_
    refine x_reg [] [0] [7001] [.ref 7001 0] [some (bxl00Src s)] [] (by kernel_rfl) trivial ?_
    refine xe_then ?_
    refine x_seq ?_
    obtain ⟨s'_1, bs_1, hx1_0, hx1_1, hx1_2, hx1_3, hc1⟩ := l19Draw_ok s (by first | assumption | (simp only [okSrc] at *; simp_all; done)) (by omega)
    refine x_reg [(1, .lend [(7001, bxl00Src s, bxl00Src s'_1)] [(8231, .arr 4 bs_1.length (fBox bs_1))] [(true, .ref 7001 0)] false (.arr 8231))] [0, 3] [7001, 8231] [.ref 7001 0, .arr 8231] [some (bxl00Src s'_1), some (.arr 4 bs_1.length (fBox bs_1))] [CallOK Try.prog 91 [.ref 7001 0] (lookO [(7001, bxl00Src s)]) false (.arr 8231) (lookO [(7001, bxl00Src s'_1), (8231, .arr 4 bs_1.length (fBox bs_1))]) ∧ ((.ref 7001 0 : AV) = .ref 7001 0) ∧ (((bxl00Src s : Ob) = bxl00Src s ∨ obLe noOb true (bxl00Src s) (bxl00Src s)) ∧ taggedO false (bxl00Src s)) ∧ True] (by kernel_rfl) ⟨⟨hc1, rfl, ⟨.inl rfl, (by simp [taggedO, taggedL, tagged, tagU8])⟩, trivial⟩, trivial⟩ ?_
    refine xe_then ?_
    refine x_seq ?_
    refine x_seq ?_
    obtain ⟨v_2, s'_2, hx2_0, hx2_1, hx2_2, hx2_3, hc2⟩ := pick_ok s'_1 24 (by first | assumption | (simp only [okSrc] at *; simp_all; done)) (by omega)
    refine x_reg [(1, .lend [(7001, bxl00Src s'_1, bxl00Src s'_2)] [] [(true, .ref 7001 0), (true, I 24)] true (I v_2))] [0, 3, 7] [7001, 8231] [.ref 7001 0, .arr 8231, I v_2] [some (bxl00Src s'_2), some (.arr 4 bs_1.length (fBox bs_1))] [CallOK Try.prog 50 [.ref 7001 0, I 24] (lookO [(7001, bxl00Src s'_1)]) true (I v_2) (lookO [(7001, bxl00Src s'_2)]) ∧ ((.ref 7001 0 : AV) = .ref 7001 0) ∧ ((I 24 : AV) = I 24) ∧ (((bxl00Src s'_1 : Ob) = bxl00Src s'_1 ∨ obLe noOb true (bxl00Src s'_1) (bxl00Src s'_1)) ∧ taggedO false (bxl00Src s'_1)) ∧ True] (by kernel_rfl) ⟨⟨hc2, rfl, rfl, ⟨.inl rfl, (by simp [taggedO, taggedL, tagged, tagU8])⟩, trivial⟩, trivial⟩ ?_
    refine xe_then ?_
    refine x_block ?_
    refine x_seq ?_
    by_cases h1 : v_2 = 0
    ·refine x_reg [(0, .dec true)] [0, 3, 7, 8] [7001, 8231] [.ref 7001 0, .arr 8231, I v_2, Bv true] [some (bxl00Src s'_2), some (.arr 4 bs_1.length (fBox bs_1))] [v_2 = 0] (by kernel_rfl) ⟨h1, trivial⟩ ?_
     refine xe_then ?_
     refine x_true rfl ?_
     obtain ⟨v_3, s'_3, hx3_0, hx3_1, hx3_2, hc3⟩ := l02DrawBox_ok s'_2 (by first | assumption | (simp only [okSrc] at *; simp_all; done)) (by omega)
     refine x_reg [(2, .lend [(7001, bxl00Src s'_2, bxl00Src s'_3)] [] [(true, .ref 7001 0)] true (agBox v_3)), (3, .new 13), (4, .new 14)] [3] [14, 7001] [.arr 14] [some (.arr 4 (bs_1.length + 1) (catF bs_1.length (fBox bs_1) (litF [I v_3.X1, I v_3.Y1, I v_3.X2, I v_3.Y2] 4))), some (bxl00Src s'_3)] [CallOK Try.prog 144 [.ref 7001 0] (lookO [(7001, bxl00Src s'_2)]) true (agBox v_3) (lookO [(7001, bxl00Src s'_3)]) ∧ ((.ref 7001 0 : AV) = .ref 7001 0) ∧ (((bxl00Src s'_2 : Ob) = bxl00Src s'_2 ∨ obLe noOb true (bxl00Src s'_2) (bxl00Src s'_2)) ∧ taggedO false (bxl00Src s'_2)) ∧ True, (bs_1.length + 1) * 32 ≤ 140737488355328] (by kernel_rfl) ⟨⟨hc3, rfl, ⟨.inl rfl, (by simp [taggedO, taggedL, tagged, tagU8])⟩, trivial⟩, (by omega), trivial⟩ ?_
     refine xe_block 0 ?_
     refine xe_then ?_
     refine x_seq ?_
     refine x_reg [] [2] [14, 7001] [.arr 14] [some (.arr 4 (bs_1.length + 1) (catF bs_1.length (fBox bs_1) (litF [I v_3.X1, I v_3.Y1, I v_3.X2, I v_3.Y2] 4))), some (bxl00Src s'_3)] [] (by kernel_rfl) trivial ?_
     refine xe_then ?_
     refine x_ret ?_
     refine xe_end ((bs_1 ++ [v_3]), s'_3) (show ((bs_1 ++ [v_3]).length ≤ 100) ∧ (okSrc s'_3) ∧ (s'_3.code = s.code) ∧ (s.atx + 0 ≤ s'_3.atx ∧ s'_3.atx ≤ s.atx + 600) ∧ (True) from ⟨(by first | omega | assumption | rfl | (simp; done) | (simp; omega) | (simp_all; done)), (by first | omega | assumption | rfl | (simp; done) | (simp; omega) | (simp_all; done)), (by first | omega | assumption | rfl | (simp; done) | (simp; omega) | (simp_all; done)), (by first | omega | assumption | rfl | (simp; done) | (simp; omega) | (simp_all; done)), trivial⟩) (⟨.inl rfl, trivial⟩) (.arr 14) (by kernel_rfl) (.inr ⟨(fun _ => rfl), rfl, (by first | rfl | (simp; done) | (simp; omega) | omega), fun i_ hi_ => .inl (cat_snoc (enc := cBox) (xs := bs_1) rfl i_ hi_)⟩) (fun _ => rfl) (fun _ => (tagBox true _))
    ·refine x_reg [(0, .dec false)] [0, 3, 7, 8] [7001, 8231] [.ref 7001 0, .arr 8231, I v_2, Bv false] [some (bxl00Src s'_2), some (.arr 4 bs_1.length (fBox bs_1))] [¬ (v_2 = 0)] (by kernel_rfl) ⟨h1, trivial⟩ ?_
     refine xe_then ?_
     refine x_false rfl ?_
     refine x_seq ?_
     by_cases h2 : v_2 = 1
     ·refine x_reg [(0, .dec true)] [0, 3, 7, 15] [7001, 8231] [.ref 7001 0, .arr 8231, I v_2, Bv true] [some (bxl00Src s'_2), some (.arr 4 bs_1.length (fBox bs_1))] [v_2 = 1] (by kernel_rfl) ⟨h2, trivial⟩ ?_
      refine xe_then ?_
      refine x_true rfl ?_
      refine x_reg [(2, .new 19), (3, .new 20)] [3] [20, 7001] [.arr 20] [some (.arr 4 (bs_1.length + 1) (catF bs_1.length (fBox bs_1) (litF [I 5, I 0, I 4, I 0] 4))), some (bxl00Src s'_2)] [(bs_1.length + 1) * 32 ≤ 140737488355328] (by kernel_rfl) ⟨(by omega), trivial⟩ ?_
      refine xe_block 0 ?_
      refine xe_then ?_
      refine x_seq ?_
      refine x_reg [] [2] [20, 7001] [.arr 20] [some (.arr 4 (bs_1.length + 1) (catF bs_1.length (fBox bs_1) (litF [I 5, I 0, I 4, I 0] 4))), some (bxl00Src s'_2)] [] (by kernel_rfl) trivial ?_
      refine xe_then ?_
      refine x_ret ?_
      refine xe_end ((bs_1 ++ [(Box.mk 5 0 4 0)]), s'_2) (show ((bs_1 ++ [(Box.mk 5 0 4 0)]).length ≤ 100) ∧ (okSrc s'_2) ∧ (s'_2.code = s.code) ∧ (s.atx + 0 ≤ s'_2.atx ∧ s'_2.atx ≤ s.atx + 600) ∧ (True) from ⟨(by first | omega | assumption | rfl | (simp; done) | (simp; omega) | (simp_all; done)), (by first | omega | assumption | rfl | (simp; done) | (simp; omega) | (simp_all; done)), (by first | omega | assumption | rfl | (simp; done) | (simp; omega) | (simp_all; done)), (by first | omega | assumption | rfl | (simp; done) | (simp; omega) | (simp_all; done)), trivial⟩) (⟨.inl rfl, trivial⟩) (.arr 20) (by kernel_rfl) (.inr ⟨(fun _ => rfl), rfl, (by first | rfl | (simp; done) | (simp; omega) | omega), fun i_ hi_ => .inl (cat_snoc (enc := cBox) (xs := bs_1) rfl i_ hi_)⟩) (fun _ => rfl) (fun _ => (tagBox true _))
     ·refine x_reg [(0, .dec false)] [0, 3, 7, 15] [7001, 8231] [.ref 7001 0, .arr 8231, I v_2, Bv false] [some (bxl00Src s'_2), some (.arr 4 bs_1.length (fBox bs_1))] [¬ (v_2 = 1)] (by kernel_rfl) ⟨h2, trivial⟩ ?_
      refine xe_then ?_
      refine x_false rfl ?_
      refine x_seq ?_
      by_cases h3 : v_2 = 2
      ·refine x_reg [(0, .dec true)] [0, 3, 21] [7001, 8231] [.ref 7001 0, .arr 8231, Bv true] [some (bxl00Src s'_2), some (.arr 4 bs_1.length (fBox bs_1))] [v_2 = 2] (by kernel_rfl) ⟨h3, trivial⟩ ?_
       refine xe_then ?_
       refine x_true rfl ?_
       obtain ⟨v_4, s'_4, hx4_0, hx4_1, hx4_2, hx4_3, hc4⟩ := pick_ok s'_2 2 (by first | assumption | (simp only [okSrc] at *; simp_all; done)) (by omega)
       refine x_reg [(1, .lend [(7001, bxl00Src s'_2, bxl00Src s'_4)] [] [(true, .ref 7001 0), (true, I 2)] true (I v_4)), (3, .new 26)] [3] [26, 7001] [.arr 26] [some (.arr 4 ((60 + v_4).toNat) (fun _ => [I 0, I 0, I 0, I 0])), some (bxl00Src s'_4)] [CallOK Try.prog 50 [.ref 7001 0, I 2] (lookO [(7001, bxl00Src s'_2)]) true (I v_4) (lookO [(7001, bxl00Src s'_4)]) ∧ ((.ref 7001 0 : AV) = .ref 7001 0) ∧ ((I 2 : AV) = I 2) ∧ (((bxl00Src s'_2 : Ob) = bxl00Src s'_2 ∨ obLe noOb true (bxl00Src s'_2) (bxl00Src s'_2)) ∧ taggedO false (bxl00Src s'_2)) ∧ True, inR .i64 (60 + v_4), (0 : Int) ≤ (60 + v_4) ∧ ((60 + v_4) : Int) ≤ (60 + v_4) ∧ (32 : Int) * (60 + v_4) ≤ 281474976710656 ∧ (60 + v_4) ≤ 9223372036854775807] (by kernel_rfl) ⟨⟨hc4, rfl, rfl, ⟨.inl rfl, (by simp [taggedO, taggedL, tagged, tagU8])⟩, trivial⟩, (inR_i64 (by omega) (by omega)), ⟨(by omega), (by omega), (by omega), (by omega)⟩, trivial⟩ ?_
       refine xe_block 0 ?_
       refine xe_then ?_
       refine x_seq ?_
       refine x_reg [] [2] [26, 7001] [.arr 26] [some (.arr 4 ((60 + v_4).toNat) (fun _ => [I 0, I 0, I 0, I 0])), some (bxl00Src s'_4)] [] (by kernel_rfl) trivial ?_
       refine xe_then ?_
       refine x_ret ?_
       refine xe_end ((List.replicate ((60 + v_4).toNat) (Box.mk 0 0 0 0)), s'_4) (show ((List.replicate ((60 + v_4).toNat) (Box.mk 0 0 0 0)).length ≤ 100) ∧ (okSrc s'_4) ∧ (s'_4.code = s.code) ∧ (s.atx + 0 ≤ s'_4.atx ∧ s'_4.atx ≤ s.atx + 600) ∧ (True) from ⟨(by first | omega | assumption | rfl | (simp; done) | (simp; omega) | (simp_all; done)), (by first | omega | assumption | rfl | (simp; done) | (simp; omega) | (simp_all; done)), (by first | omega | assumption | rfl | (simp; done) | (simp; omega) | (simp_all; done)), (by first | omega | assumption | rfl | (simp; done) | (simp; omega) | (simp_all; done)), trivial⟩) (⟨.inl rfl, trivial⟩) (.arr 26) (by kernel_rfl) (.inr ⟨(fun _ => rfl), rfl, (by first | rfl | (simp; done) | (simp; omega) | omega), fun i_ hi_ => .inl (const_enc (enc := cBox) rfl i_ hi_)⟩) (fun _ => rfl) (fun _ => (tagBox true _))
      ·refine x_reg [(0, .dec false)] [0, 3, 21] [7001, 8231] [.ref 7001 0, .arr 8231, Bv false] [some (bxl00Src s'_2), some (.arr 4 bs_1.length (fBox bs_1))] [¬ (v_2 = 2)] (by kernel_rfl) ⟨h3, trivial⟩ ?_
       refine xe_then ?_
       refine x_false rfl ?_
       refine x_skip ?_
       refine xe_block 0 ?_
       refine xe_then ?_
       refine x_seq ?_
       refine x_reg [] [2] [7001, 8231] [.arr 8231] [some (bxl00Src s'_2), some (.arr 4 bs_1.length (fBox bs_1))] [] (by kernel_rfl) trivial ?_
       refine xe_then ?_
       refine x_ret ?_
       refine xe_end (bs_1, s'_2) (show (bs_1.length ≤ 100) ∧ (okSrc s'_2) ∧ (s'_2.code = s.code) ∧ (s.atx + 0 ≤ s'_2.atx ∧ s'_2.atx ≤ s.atx + 600) ∧ (True) from ⟨(by first | omega | assumption | rfl | (simp; done) | (simp; omega) | (simp_all; done)), (by first | omega | assumption | rfl | (simp; done) | (simp; omega) | (simp_all; done)), (by first | omega | assumption | rfl | (simp; done) | (simp; omega) | (simp_all; done)), (by first | omega | assumption | rfl | (simp; done) | (simp; omega) | (simp_all; done)), trivial⟩) (⟨.inl rfl, trivial⟩) (.arr 8231) (by kernel_rfl) (.inr ⟨(fun _ => rfl), rfl, rfl, fun i _ => .inl rfl⟩) (fun _ => rfl) (fun _ => (tagBox true _))
  obtain ⟨⟨v, s'⟩, ⟨hh0, hh1, hh2, hh3, _⟩, hc⟩ := hh
  exact ⟨v, s', hh0, hh1, hh2, hh3, hc⟩


-- spec.l02Box
theorem l02Box_ok (b : Box) : Con Try.prog 143 [agBox b] true (Bv (okBx b)) := by
  refine fn_ok (fn := Try.f143) (nt := 25) Try.func143 rfl rfl rfl rfl (by simp [taggedL, tagged]) fun B hB => ?_
  refine aw_seq ?_
  refine aw_reg [(0, .new 1)] [1] [1] [.ref 1 0] [some (bxBox b)] [] (by kernel_rfl) hB trivial ?_
  refine ae_then ?_
  refine aw_seq ?_
  rcases Bool.eq_false_or_eq_true (inB b.X1 0 b.X2) with h1 | h1
  ·rcases Bool.eq_false_or_eq_true (inB b.Y1 0 b.Y2) with h2 | h2
   ·by_cases h3 : b.X2 ≤ 4095
    ·refine aw_reg [(4, .call [(true, I b.X1), (true, I 0), (true, I b.X2)] true (Bv true)), (10, .call [(true, I b.Y1), (true, I 0), (true, I b.Y2)] true (Bv true)), (15, .dec true)] [2] [] [Bv (decide (b.Y2 ≤ 4095))] [] [Con Try.prog 86 [I b.X1, I 0, I b.X2] true (Bv true) ∧ ((I b.X1 : AV) = I b.X1) ∧ ((I 0 : AV) = I 0) ∧ ((I b.X2 : AV) = I b.X2) ∧ True, Con Try.prog 86 [I b.Y1, I 0, I b.Y2] true (Bv true) ∧ ((I b.Y1 : AV) = I b.Y1) ∧ ((I 0 : AV) = I 0) ∧ ((I b.Y2 : AV) = I b.Y2) ∧ True, b.X2 ≤ 4095] (by kernel_rfl) hB ⟨⟨(con_bool h1 (l00In_ok b.X1 0 b.X2)), rfl, rfl, rfl, trivial⟩, ⟨(con_bool h2 (l00In_ok b.Y1 0 b.Y2)), rfl, rfl, rfl, trivial⟩, h3, trivial⟩ ?_
     refine ae_then ?_
     refine aw_ret ?_
     refine ae_ret hB (Bv (decide (b.Y2 ≤ 4095))) (by kernel_rfl) (.inl (by first | rfl | (refine congrArg Bv ?_; simp [okBx, inB, *]; done) | (refine congrArg Bv ?_; simp [okBx, inB, *]; omega) | (refine congrArg Bv ?_; simp_all [okBx, inB]; done) | (refine congrArg Bv ?_; simp_all [okBx, inB]; omega))) rfl (fun _ => trivial)
    ·refine aw_reg [(4, .call [(true, I b.X1), (true, I 0), (true, I b.X2)] true (Bv true)), (10, .call [(true, I b.Y1), (true, I 0), (true, I b.Y2)] true (Bv true)), (15, .dec false)] [2] [] [Bv false] [] [Con Try.prog 86 [I b.X1, I 0, I b.X2] true (Bv true) ∧ ((I b.X1 : AV) = I b.X1) ∧ ((I 0 : AV) = I 0) ∧ ((I b.X2 : AV) = I b.X2) ∧ True, Con Try.prog 86 [I b.Y1, I 0, I b.Y2] true (Bv true) ∧ ((I b.Y1 : AV) = I b.Y1) ∧ ((I 0 : AV) = I 0) ∧ ((I b.Y2 : AV) = I b.Y2) ∧ True, ¬ (b.X2 ≤ 4095)] (by kernel_rfl) hB ⟨⟨(con_bool h1 (l00In_ok b.X1 0 b.X2)), rfl, rfl, rfl, trivial⟩, ⟨(con_bool h2 (l00In_ok b.Y1 0 b.Y2)), rfl, rfl, rfl, trivial⟩, h3, trivial⟩ ?_
     refine ae_then ?_
     refine aw_ret ?_
     refine ae_ret hB (Bv false) (by kernel_rfl) (.inl (by first | rfl | (refine congrArg Bv ?_; simp [okBx, inB, *]; done) | (refine congrArg Bv ?_; simp [okBx, inB, *]; omega) | (refine congrArg Bv ?_; simp_all [okBx, inB]; done) | (refine congrArg Bv ?_; simp_all [okBx, inB]; omega))) rfl (fun _ => trivial)
   ·refine aw_reg [(4, .call [(true, I b.X1), (true, I 0), (true, I b.X2)] true (Bv true)), (10, .call [(true, I b.Y1), (true, I 0), (true, I b.Y2)] true (Bv false))] [2] [] [Bv false] [] [Con Try.prog 86 [I b.X1, I 0, I b.X2] true (Bv true) ∧ ((I b.X1 : AV) = I b.X1) ∧ ((I 0 : AV) = I 0) ∧ ((I b.X2 : AV) = I b.X2) ∧ True, Con Try.prog 86 [I b.Y1, I 0, I b.Y2] true (Bv false) ∧ ((I b.Y1 : AV) = I b.Y1) ∧ ((I 0 : AV) = I 0) ∧ ((I b.Y2 : AV) = I b.Y2) ∧ True] (by kernel_rfl) hB ⟨⟨(con_bool h1 (l00In_ok b.X1 0 b.X2)), rfl, rfl, rfl, trivial⟩, ⟨(con_bool h2 (l00In_ok b.Y1 0 b.Y2)), rfl, rfl, rfl, trivial⟩, trivial⟩ ?_
    refine ae_then ?_
    refine aw_ret ?_
    refine ae_ret hB (Bv false) (by kernel_rfl) (.inl (by first | rfl | (refine congrArg Bv ?_; simp [okBx, inB, *]; done) | (refine congrArg Bv ?_; simp [okBx, inB, *]; omega) | (refine congrArg Bv ?_; simp_all [okBx, inB]; done) | (refine congrArg Bv ?_; simp_all [okBx, inB]; omega))) rfl (fun _ => trivial)
  ·refine aw_reg [(4, .call [(true, I b.X1), (true, I 0), (true, I b.X2)] true (Bv false))] [2] [] [Bv false] [] [Con Try.prog 86 [I b.X1, I 0, I b.X2] true (Bv false) ∧ ((I b.X1 : AV) = I b.X1) ∧ ((I 0 : AV) = I 0) ∧ ((I b.X2 : AV) = I b.X2) ∧ True] (by kernel_rfl) hB ⟨⟨(con_bool h1 (l00In_ok b.X1 0 b.X2)), rfl, rfl, rfl, trivial⟩, trivial⟩ ?_
   refine ae_then ?_
   refine aw_ret ?_
   refine ae_ret hB (Bv false) (by kernel_rfl) (.inl (by first | rfl | (refine congrArg Bv ?_; simp [okBx, inB, *]; done) | (refine congrArg Bv ?_; simp [okBx, inB, *]; omega) | (refine congrArg Bv ?_; simp_all [okBx, inB]; done) | (refine congrArg Bv ?_; simp_all [okBx, inB]; omega))) rfl (fun _ => trivial)


-- spec.l19Boxes
theorem l19Boxes_ok (boxes : List Box) : Con Try.prog 85 [slBox false boxes] true (Bv (okPage boxes)) := by
  refine fn_ok (fn := Try.f85) (nt := 19) Try.func85 rfl rfl rfl rfl (by simp [taggedL, tagged, tagBox]) fun B hB => ?_
  refine aw_lens (x := slBox false boxes) 0 rfl (fun len_boxes => ?_)
  simp [LenOK, LenL, cBox, fBox, slBox] at len_boxes
  refine aw_seq ?_
  refine aw_reg [] [0] [] [slBox false boxes] [] [] (by kernel_rfl) hB trivial ?_
  refine ae_then ?_
  refine aw_seq ?_
  refine aw_seq ?_
  refine aw_reg [] [0, 3] [] [slBox false boxes, I 0] [] [] (by kernel_rfl) hB trivial ?_
  refine ae_then ?_
  refine aw_block ?_
  refine aw_loop (fun gn gσ => ∃ (i : Int), gn = ((boxes.length : Int) - i).toNat ∧ (0 ≤ i ∧ i ≤ (boxes.length : Int)) ∧ (∀ j : Nat, (j : Int) < i → okBx (at_ boxes j) = true) ∧ gσ = mkS [(0, slBox false boxes), (3, I i)] []) (((boxes.length : Int) - 0).toNat) ⟨0, rfl, (by omega), (by intro j hj; omega), rfl⟩ (fun gn gσ hI => ?_)
  obtain ⟨i, rfl, hi0, hall0, rfl⟩ := hI
  refine aw_seq ?_
  refine aw_seq ?_
  by_cases h1 : i < (boxes.length : Int)
  ·have hi : i.toNat < boxes.length := by omega
   refine aw_reg [(3, .dec true)] [0, 3, 7] [] [slBox false boxes, I i, Bv true] [] [i < (boxes.length : Int)] (by kernel_rfl) hB ⟨h1, trivial⟩ ?_
   refine ae_then ?_
   refine aw_true rfl ?_
   refine aw_skip ?_
   refine ae_then ?_
   refine aw_seq ?_
   refine aw_block ?_
   refine aw_seq ?_
   rcases Bool.eq_false_or_eq_true (okBx (at_ boxes i.toNat)) with h2 | h2
   ·refine aw_reg [(4, .call [(true, agBox (at_ boxes i.toNat))] true (Bv true))] [0, 3, 15] [] [slBox false boxes, I i, Bv false] [] [(0 : Int) ≤ i ∧ i < (boxes.length : Int), Con Try.prog 143 [agBox (at_ boxes i.toNat)] true (Bv true) ∧ ((agBox (at_ boxes i.toNat) : AV) = agBox (at_ boxes i.toNat)) ∧ True] (by kernel_rfl) hB ⟨⟨(by omega), (by omega)⟩, ⟨(con_bool h2 (l02Box_ok (at_ boxes i.toNat))), rfl, trivial⟩, trivial⟩ ?_
    refine ae_then ?_
    refine aw_false rfl ?_
    refine aw_skip ?_
    refine ae_block 1 ?_
    refine ae_then ?_
    refine aw_reg [] [0, 3] [] [slBox false boxes, I (i + 1)] [] [inR .i64 (i + 1)] (by kernel_rfl) hB ⟨(inR_i64 (by omega) (by omega)), trivial⟩ ?_
    exact ae_again _ (by omega) ⟨(i + 1), rfl, (by omega), (by intro j hj; by_cases ej : j = i.toNat; (subst ej; first | assumption | exact hok); exact hall0 j (by omega)), rfl⟩
   ·have hall : allN boxes.length (fun j => okBx (at_ boxes j)) = false := allN_not hi h2
    refine aw_reg [(4, .call [(true, agBox (at_ boxes i.toNat))] true (Bv false))] [0, 3, 15] [] [slBox false boxes, I i, Bv true] [] [(0 : Int) ≤ i ∧ i < (boxes.length : Int), Con Try.prog 143 [agBox (at_ boxes i.toNat)] true (Bv false) ∧ ((agBox (at_ boxes i.toNat) : AV) = agBox (at_ boxes i.toNat)) ∧ True] (by kernel_rfl) hB ⟨⟨(by omega), (by omega)⟩, ⟨(con_bool h2 (l02Box_ok (at_ boxes i.toNat))), rfl, trivial⟩, trivial⟩ ?_
    refine ae_then ?_
    refine aw_true rfl ?_
    refine aw_seq ?_
    refine aw_reg [] [2] [] [Bv false] [] [] (by kernel_rfl) hB trivial ?_
    refine ae_then ?_
    refine aw_ret ?_
    refine ae_ret_block (ae_ret_then (ae_ret_then (ae_ret_block (ae_ret_then ?_))))
    refine ae_ret hB (Bv false) (by kernel_rfl) (.inl (by simp [okPage, *])) rfl (fun _ => trivial)
  ·have hall : allN boxes.length (fun j => okBx (at_ boxes j)) = true := allN_at (fun j hj => hall0 j (by omega))
   refine aw_reg [(3, .dec false)] [0, 3, 7] [] [slBox false boxes, I i, Bv false] [] [¬ (i < (boxes.length : Int))] (by kernel_rfl) hB ⟨h1, trivial⟩ ?_
   refine ae_then ?_
   refine aw_false rfl ?_
   refine aw_exit ?_
   refine ae_exit_then ?_
   refine ae_exit_then ?_
   refine ae_exit_same ?_
   refine ae_then ?_
   refine aw_seq ?_
   refine aw_reg [] [2] [] [Bv (decide ((boxes.length : Int) ≤ 60))] [] [] (by kernel_rfl) hB trivial ?_
   refine ae_then ?_
   refine aw_ret ?_
   refine ae_ret hB (Bv (decide ((boxes.length : Int) ≤ 60))) (by kernel_rfl) (.inl (by simp [okPage, *])) rfl (fun _ => trivial)


-- spec.l19Left
theorem l19Left_ok (boxes : List Box) (a : Int) (b : Int) (ha : 0 ≤ a ∧ a < (boxes.length : Int)) (hb : 0 ≤ b ∧ b < (boxes.length : Int)) : ∃ (v : Bool), Con Try.prog 149 [slBox false boxes, I a, I b] true (Bv v) := by
  have hh : ∃ r : Bool, (True) ∧ CallOK Try.prog 149 [slBox false boxes, I a, I b] (lookO []) true (Bv r) (lookO []) := by
    refine fn_okX (Φ := fun r : Bool => True) [] (fun r => []) (fn := Try.f149) (nt := 42) Try.func149 rfl rfl (args := [slBox false boxes, I a, I b]) rfl (allcons (.inl ⟨rfl, tagBox false _⟩) (allcons (.inl ⟨rfl, trivial⟩) (allcons (.inl ⟨rfl, trivial⟩) allnil))) (res := fun r => Bv r) ?_
    refine x_seq ?_
    refine x_reg [] [0, 1, 2] [] [slBox false boxes, I a, I b] [] [] (by kernel_rfl) trivial ?_
    refine xe_then ?_
    refine x_seq ?_
    refine x_reg [(4, .new 7)] [0, 1, 2, 7] [7] [slBox false boxes, I a, I b, .ref 7 0] [some (bxBox (at_ boxes a.toNat))] [(0 : Int) ≤ a ∧ a < (boxes.length : Int)] (by kernel_rfl) ⟨⟨(by omega), (by omega)⟩, trivial⟩ ?_
    refine xe_then ?_
    refine x_seq ?_
    refine x_reg [(4, .new 8)] [1, 2, 7, 8] [7, 8] [I a, I b, .ref 7 0, .ref 8 0] [some (bxBox (at_ boxes a.toNat)), some (bxBox (at_ boxes b.toNat))] [(0 : Int) ≤ b ∧ b < (boxes.length : Int)] (by kernel_rfl) ⟨⟨(by omega), (by omega)⟩, trivial⟩ ?_
    refine xe_then ?_
    refine x_seq ?_
    refine x_block ?_
    refine x_seq ?_
    by_cases h1 : ((at_ boxes a.toNat).X1) = ((at_ boxes b.toNat).X1)
    ·refine x_reg [(4, .dec false)] [1, 2, 7, 8, 17] [7, 8] [I a, I b, .ref 7 0, .ref 8 0, Bv false] [some (bxBox (at_ boxes a.toNat)), some (bxBox (at_ boxes b.toNat))] [¬ (((at_ boxes a.toNat).X1) ≠ ((at_ boxes b.toNat).X1))] (by kernel_rfl) ⟨(fun hq => hq h1), trivial⟩ ?_
     refine xe_then ?_
     refine x_false rfl ?_
     refine x_seq ?_
     by_cases h2 : ((at_ boxes a.toNat).X2) = ((at_ boxes b.toNat).X2)
     ·refine x_reg [(4, .dec false)] [1, 2, 7, 8, 28] [7, 8] [I a, I b, .ref 7 0, .ref 8 0, Bv false] [some (bxBox (at_ boxes a.toNat)), some (bxBox (at_ boxes b.toNat))] [¬ (((at_ boxes a.toNat).X2) ≠ ((at_ boxes b.toNat).X2))] (by kernel_rfl) ⟨(fun hq => hq h2), trivial⟩ ?_
      refine xe_then ?_
      refine x_false rfl ?_
      refine x_skip ?_
      refine xe_block 0 ?_
      refine xe_then ?_
      refine x_seq ?_
      refine x_reg [] [6] [] [Bv (decide (a < b))] [] [] (by kernel_rfl) trivial ?_
      refine xe_then ?_
      refine x_ret ?_
      refine xe_end (decide (a < b)) trivial (trivial) (Bv (decide (a < b))) (by kernel_rfl) (.inl rfl) (fun _ => rfl) (fun _ => trivial)
     ·refine x_reg [(4, .dec true)] [1, 2, 7, 8, 28] [7, 8] [I a, I b, .ref 7 0, .ref 8 0, Bv true] [some (bxBox (at_ boxes a.toNat)), some (bxBox (at_ boxes b.toNat))] [((at_ boxes a.toNat).X2) ≠ ((at_ boxes b.toNat).X2)] (by kernel_rfl) ⟨h2, trivial⟩ ?_
      refine xe_then ?_
      refine x_true rfl ?_
      refine x_seq ?_
      refine x_reg [] [6] [] [Bv (decide (((at_ boxes a.toNat).X2) < ((at_ boxes b.toNat).X2)))] [] [] (by kernel_rfl) trivial ?_
      refine xe_then ?_
      refine x_ret ?_
      refine xe_ret_block (xe_ret_then ?_)
      refine xe_end (decide (((at_ boxes a.toNat).X2) < ((at_ boxes b.toNat).X2))) trivial (trivial) (Bv (decide (((at_ boxes a.toNat).X2) < ((at_ boxes b.toNat).X2)))) (by kernel_rfl) (.inl rfl) (fun _ => rfl) (fun _ => trivial)
    ·refine x_reg [(4, .dec true)] [1, 2, 7, 8, 17] [7, 8] [I a, I b, .ref 7 0, .ref 8 0, Bv true] [some (bxBox (at_ boxes a.toNat)), some (bxBox (at_ boxes b.toNat))] [((at_ boxes a.toNat).X1) ≠ ((at_ boxes b.toNat).X1)] (by kernel_rfl) ⟨h1, trivial⟩ ?_
     refine xe_then ?_
     refine x_true rfl ?_
     refine x_seq ?_
     refine x_reg [] [6] [] [Bv (decide (((at_ boxes a.toNat).X1) < ((at_ boxes b.toNat).X1)))] [] [] (by kernel_rfl) trivial ?_
     refine xe_then ?_
     refine x_ret ?_
     refine xe_ret_block (xe_ret_then ?_)
     refine xe_end (decide (((at_ boxes a.toNat).X1) < ((at_ boxes b.toNat).X1))) trivial (trivial) (Bv (decide (((at_ boxes a.toNat).X1) < ((at_ boxes b.toNat).X1)))) (by kernel_rfl) (.inl rfl) (fun _ => rfl) (fun _ => trivial)
  obtain ⟨v, _, hc⟩ := hh
  exact ⟨v, hc⟩


-- spec.l19High
theorem l19High_ok (boxes : List Box) (a : Int) (b : Int) (ha : 0 ≤ a ∧ a < (boxes.length : Int)) (hb : 0 ≤ b ∧ b < (boxes.length : Int)) : ∃ (v : Bool), Con Try.prog 190 [slBox false boxes, I a, I b] true (Bv v) := by
  have hh : ∃ r : Bool, (True) ∧ CallOK Try.prog 190 [slBox false boxes, I a, I b] (lookO []) true (Bv r) (lookO []) := by
    refine fn_okX (Φ := fun r : Bool => True) [] (fun r => []) (fn := Try.f190) (nt := 32) Try.func190 rfl rfl (args := [slBox false boxes, I a, I b]) rfl (allcons (.inl ⟨rfl, tagBox false _⟩) (allcons (.inl ⟨rfl, trivial⟩) (allcons (.inl ⟨rfl, trivial⟩) allnil))) (res := fun r => Bv r) ?_
    refine x_seq ?_
    refine x_reg [] [0, 1, 2] [] [slBox false boxes, I a, I b] [] [] (by kernel_rfl) trivial ?_
    refine xe_then ?_
    refine x_seq ?_
    refine x_seq ?_
    by_cases h1 : ((at_ boxes a.toNat).Y1) = ((at_ boxes b.toNat).Y1)
    ·refine x_reg [(10, .dec false)] [0, 1, 2, 17] [] [slBox false boxes, I a, I b, Bv false] [] [(0 : Int) ≤ a ∧ a < (boxes.length : Int), (0 : Int) ≤ b ∧ b < (boxes.length : Int), ¬ (((at_ boxes a.toNat).Y1) ≠ ((at_ boxes b.toNat).Y1))] (by kernel_rfl) ⟨⟨(by omega), (by omega)⟩, ⟨(by omega), (by omega)⟩, (fun hq => hq h1), trivial⟩ ?_
     refine xe_then ?_
     refine x_false rfl ?_
     refine x_skip ?_
     refine xe_then ?_
     refine x_seq ?_
     refine x_reg [] [6] [] [Bv (decide (a < b))] [] [] (by kernel_rfl) trivial ?_
     refine xe_then ?_
     refine x_ret ?_
     refine xe_end (decide (a < b)) trivial (trivial) (Bv (decide (a < b))) (by kernel_rfl) (.inl rfl) (fun _ => rfl) (fun _ => trivial)
    ·refine x_reg [(10, .dec true)] [0, 1, 2, 17] [] [slBox false boxes, I a, I b, Bv true] [] [(0 : Int) ≤ a ∧ a < (boxes.length : Int), (0 : Int) ≤ b ∧ b < (boxes.length : Int), ((at_ boxes a.toNat).Y1) ≠ ((at_ boxes b.toNat).Y1)] (by kernel_rfl) ⟨⟨(by omega), (by omega)⟩, ⟨(by omega), (by omega)⟩, h1, trivial⟩ ?_
     refine xe_then ?_
     refine x_true rfl ?_
     refine x_seq ?_
     refine x_reg [] [6] [] [Bv (decide (((at_ boxes a.toNat).Y1) < ((at_ boxes b.toNat).Y1)))] [] [(0 : Int) ≤ a ∧ a < (boxes.length : Int), (0 : Int) ≤ b ∧ b < (boxes.length : Int)] (by kernel_rfl) ⟨⟨(by omega), (by omega)⟩, ⟨(by omega), (by omega)⟩, trivial⟩ ?_
     refine xe_then ?_
     refine x_ret ?_
     refine xe_ret_then ?_
     refine xe_end (decide (((at_ boxes a.toNat).Y1) < ((at_ boxes b.toNat).Y1))) trivial (trivial) (Bv (decide (((at_ boxes a.toNat).Y1) < ((at_ boxes b.toNat).Y1)))) (by kernel_rfl) (.inl rfl) (fun _ => rfl) (fun _ => trivial)
  obtain ⟨v, _, hc⟩ := hh
  exact ⟨v, hc⟩


/-- Whether all are indices below n. -/
def ixIn (n : Nat) (xs : List Int) : Prop := ∀ x ∈ xs, 0 ≤ x ∧ x < (n : Int)
theorem ixIn_at {n : Nat} {xs : List Int} (h : ixIn n xs) {i : Nat} (hi : i < xs.length) : 0 ≤ at_ xs i ∧ at_ xs i < (n : Int) := h _ (at_mem hi)
theorem ixIn_put {n : Nat} {xs : List Int} {a : Nat} {k : Int} (h : ixIn n xs) (hk : 0 ≤ k ∧ k < (n : Int)) : ixIn n (xs.take a ++ [k] ++ xs.drop a) := fun x hx => by
  simp only [List.mem_append, List.mem_singleton] at hx
  rcases hx with (hx | hx) | hx
  · exact h x (List.mem_of_mem_take hx)
  · rw [hx]; exact hk
  · exact h x (List.mem_of_mem_drop hx)
theorem ixIn_set {n : Nat} {xs : List Int} {a : Nat} {k : Int} (h : ixIn n xs) (hk : 0 ≤ k ∧ k < (n : Int)) : ixIn n (xs.set a k) := fun x hx => by
  rcases List.mem_or_eq_of_mem_set hx with hx | hx
  · exact h x hx
  · rw [hx]; exact hk
end Go.Proofs.Ytoifonocjfhinaa.Ax
