/- The statement FnRice: contracts of what it reaches, and its proof. No conditions. -/
import Derived.Test.YtngmfpjhlcfapaaDoorAxO
import Derived.Test.YtngmfpjhlcfapaaDoorShelf
import Derived.Test.YtngmfpjhlcfapaaDoorTie
import Derived.Test.YtngmfpjhlcfapaaDoorCards
import Derived.LaidMore
import Derived.Lay
import Derived.Lib.Repeat
import Derived.OpenShut
import Derived.SevenTiedAt
import Derived.Shelf.Strings.SlTrimAscii
import Derived.Stop.Joined
namespace Go.Proofs.YtngmfpjhlcfapaaDoor.Ax
open Go.RowKit Go.ChangeShapes Go.WideShapes
set_option linter.unusedVariables false
set_option linter.unusedSimpArgs false


def cU8 (x : Int) : List AV := [.val (.int .u8 x)]
def fU8 (xs : List Int) (i : Nat) : List AV := cU8 (at_ xs i)
def slU8 (fr : Bool) (xs : List Int) : AV := .sl fr 1 xs.length (fU8 xs)
theorem tagcU8 (t : Bool) (x : Int) : taggedL t (cU8 x) := by simp [cU8, taggedL, tagged]
theorem tagU8 (t : Bool) (xs : List Int) : tagged t (slU8 t xs) := by simp only [slU8, tagged]; exact ⟨trivial, fun i _ => tagcU8 t _⟩
theorem lenU8 (fr : Bool) (xs : List Int) : lenA noOb (slU8 fr xs) = some xs.length := rfl
def cI (x : Int) : List AV := [I x]
def fI (xs : List Int) (i : Nat) : List AV := cI (at_ xs i)
def slI (fr : Bool) (xs : List Int) : AV := .sl fr 1 xs.length (fI xs)
theorem tagcI (t : Bool) (x : Int) : taggedL t (cI x) := by simp [cI, taggedL, tagged]
theorem tagI (t : Bool) (xs : List Int) : tagged t (slI t xs) := by simp only [slI, tagged]; exact ⟨trivial, fun i _ => tagcI t _⟩
theorem lenI (fr : Bool) (xs : List Int) : lenA noOb (slI fr xs) = some xs.length := rfl
def cLU8 (fr : Bool) (x : List Int) : List AV := [slU8 fr x]
def fLU8 (fr : Bool) (xs : List (List Int)) (i : Nat) : List AV := cLU8 fr (at_ xs i)
def slLU8 (fr : Bool) (xs : List (List Int)) : AV := .sl fr 1 xs.length (fLU8 fr xs)
theorem tagcLU8 (t : Bool) (x : List Int) : taggedL t (cLU8 t x) := by simp [cLU8, taggedL, tagged, tagU8]
theorem tagLU8 (t : Bool) (xs : List (List Int)) : tagged t (slLU8 t xs) := by simp only [slLU8, tagged]; exact ⟨trivial, fun i _ => tagcLU8 t _⟩
theorem lenLU8 (fr : Bool) (xs : List (List Int)) : lenA noOb (slLU8 fr xs) = some xs.length := rfl
theorem idsLU8 (fr : Bool) (x : List Int) : AV.idsL (cLU8 fr x) = [] := rfl
theorem leLU8 (fr : Bool) (x : List Int) (ob : Nat → Option Ob) : leL ob false (cLU8 fr x) (cLU8 false x) := (And.intro (And.intro (fun h => by cases h) (And.intro rfl (And.intro rfl (fun i _ => .inl rfl)))) rfl)
def cU64 (x : Int) : List AV := [.val (.int .u64 x)]
def fU64 (xs : List Int) (i : Nat) : List AV := cU64 (at_ xs i)
def slU64 (fr : Bool) (xs : List Int) : AV := .sl fr 1 xs.length (fU64 xs)
theorem tagcU64 (t : Bool) (x : Int) : taggedL t (cU64 x) := by simp [cU64, taggedL, tagged]
theorem tagU64 (t : Bool) (xs : List Int) : tagged t (slU64 t xs) := by simp only [slU64, tagged]; exact ⟨trivial, fun i _ => tagcU64 t _⟩
theorem lenU64 (fr : Bool) (xs : List Int) : lenA noOb (slU64 fr xs) = some xs.length := rfl
structure l00Src where
  code : List Int
  atx : Int
  seed : Int
deriving DecidableEq, Inhabited
def cl00Src (fr : Bool) (x : l00Src) : List AV := [slU8 fr x.code, I x.atx, .val (.int .u64 x.seed)]
def fl00Src (fr : Bool) (xs : List l00Src) (i : Nat) : List AV := cl00Src fr (at_ xs i)
def sll00Src (fr : Bool) (xs : List l00Src) : AV := .sl fr 3 xs.length (fl00Src fr xs)
theorem tagcl00Src (t : Bool) (x : l00Src) : taggedL t (cl00Src t x) := by simp [cl00Src, taggedL, tagged, tagU8]
theorem tagl00Src (t : Bool) (xs : List l00Src) : tagged t (sll00Src t xs) := by simp only [sll00Src, tagged]; exact ⟨trivial, fun i _ => tagcl00Src t _⟩
theorem lenl00Src (fr : Bool) (xs : List l00Src) : lenA noOb (sll00Src fr xs) = some xs.length := rfl
theorem idsl00Src (fr : Bool) (x : l00Src) : AV.idsL (cl00Src fr x) = [] := rfl
theorem lel00Src (fr : Bool) (x : l00Src) (ob : Nat → Option Ob) : leL ob false (cl00Src fr x) (cl00Src false x) := (And.intro (And.intro (fun h => by cases h) (And.intro rfl (And.intro rfl (fun i _ => .inl rfl)))) (And.intro rfl (And.intro rfl rfl)))

-- laws.a2Long
theorem a2Long_ok (code : List Int) (more : List Int) : Con Tryd.prog 24 [slU8 false code, slU8 false more] true (Bv (decide (3000 < (code.length : Int) ∨ 3000 < (more.length : Int)))) := by
  refine fn_ok (fn := Tryd.f24) (nt := 13) Tryd.func24 rfl rfl rfl rfl (by simp [taggedL, tagged, tagU8]) fun B hB => ?_
  refine aw_lens (x := slU8 false code) 0 rfl (fun len_code => ?_)
  simp [LenOK, LenL, cU8, fU8, slU8] at len_code
  refine aw_lens (x := slU8 false more) 1 rfl (fun len_more => ?_)
  simp [LenOK, LenL, cU8, fU8, slU8] at len_more
  refine aw_seq ?_
  refine aw_reg [] [0, 1] [] [slU8 false code, slU8 false more] [] [] (by kernel_rfl) hB trivial ?_
  refine ae_then ?_
  refine aw_seq ?_
  by_cases h1 : 3000 < (code.length : Int)
  · refine aw_reg [(2, .dec true)] [4] [] [Bv true] [] [3000 < (code.length : Int)] (by kernel_rfl) hB ⟨h1, trivial⟩ ?_
    refine ae_then ?_
    refine aw_ret ?_
    refine ae_ret hB (Bv true) (by kernel_rfl) (.inl (by refine congrArg Bv ?_; simp [*])) rfl (fun _ => trivial)
  · refine aw_reg [(2, .dec false)] [4] [] [Bv (decide (3000 < (more.length : Int)))] [] [¬ (3000 < (code.length : Int))] (by kernel_rfl) hB ⟨h1, trivial⟩ ?_
    refine ae_then ?_
    refine aw_ret ?_
    refine ae_ret hB (Bv (decide (3000 < (more.length : Int)))) (by kernel_rfl) (.inl (by refine congrArg Bv ?_; simp [*])) rfl (fun _ => trivial)


theorem set_at {α : Type} [Inhabited α] {ys xs : List α} {i : Int} (hl : ys.length = xs.length) (hi : i.toNat < xs.length) (h : ∀ j : Nat, (j : Int) < i → at_ ys j = at_ xs j) (j : Nat) (hj : j ≤ i.toNat) : at_ (ys.set i.toNat (at_ xs i.toNat)) j = at_ xs j := by
  by_cases e : i.toNat = j
  · subst e; simp [at_, hl, hi]
  · have := h j (by omega)
    simp only [at_] at this ⊢
    rw [← this]
    simp [e]
/-- Whether two things are the same. -/
def same {α : Type} [DecidableEq α] (x y : α) : Bool := decide (x = y)
theorem same_iff {α : Type} [DecidableEq α] {x y : α} : same x y = true ↔ x = y := by simp [same]
theorem ext_at {α : Type} [Inhabited α] {xs ys : List α} (hl : xs.length = ys.length) (h : ∀ j : Nat, j < xs.length → at_ xs j = at_ ys j) : xs = ys := by
  apply List.ext_getElem hl
  intro i h1 h2
  rw [← at_eq h1, ← at_eq h2]
  exact h i h1

theorem at_mem {α : Type} [Inhabited α] {xs : List α} {i : Nat} (h : i < xs.length) : at_ xs i ∈ xs := by rw [at_eq h]; exact List.getElem_mem h

/-- Whether p holds of all numbers below n. -/
def allN (n : Nat) (p : Nat → Bool) : Bool := (List.range n).all p
def anyN (n : Nat) (p : Nat → Bool) : Bool := !(allN n fun j => !(p j))
theorem allN_iff {n : Nat} {p : Nat → Bool} : allN n p = true ↔ ∀ j, j < n → p j = true := by simp [allN, List.all_eq_true]
theorem allN_at {n : Nat} {p : Nat → Bool} (h : ∀ j, j < n → p j = true) : allN n p = true := allN_iff.2 h
theorem allN_get {n : Nat} {p : Nat → Bool} (h : allN n p = true) {k : Nat} (hk : k < n) : p k = true := allN_iff.1 h k hk
theorem allN_not {n : Nat} {p : Nat → Bool} {k : Nat} (hk : k < n) (h : p k = false) : allN n p = false := by
  rw [← Bool.not_eq_true, allN_iff]; intro h'; rw [h' k hk] at h; cases h
theorem anyN_not (n : Nat) (p : Nat → Bool) : anyN n (fun j => !(p j)) = !(allN n p) := by simp [anyN]
theorem anyN_at {n : Nat} {p : Nat → Bool} {k : Nat} (hk : k < n) (h : p k = true) : anyN n p = true := by
  unfold anyN; rw [allN_not hk (by simp [h])]; rfl
theorem anyN_none {n : Nat} {p : Nat → Bool} (h : ∀ j, j < n → p j = false) : anyN n p = false := by
  unfold anyN; rw [allN_at (fun j hj => by simp [h j hj])]; rfl
theorem anyN_iff {n : Nat} {p : Nat → Bool} : anyN n p = true ↔ ∃ j, j < n ∧ p j = true := by
  constructor
  · intro h
    apply Classical.byContradiction
    intro hn
    rw [anyN_none (fun j hj => by rw [← Bool.not_eq_true]; exact fun hp => hn ⟨j, hj, hp⟩)] at h
    cases h
  · rintro ⟨j, hj, hp⟩; exact anyN_at hj hp
theorem up_to {n : Int} {p : Nat → Prop} {i : Int} (hi : 0 ≤ i) (h : ∀ j : Nat, (j : Int) < i → p j) (hp : p i.toNat) : ∀ j : Nat, (j : Int) < i + 1 → p j := fun j hj => by
  by_cases e : j = i.toNat
  · subst e; exact hp
  · exact h j (by omega)

/-- The source of choices is in order: its bytes are bytes, and its place is a number. -/
def okSrc (s : l00Src) : Prop := (∀ j, j < s.code.length → 0 ≤ at_ s.code j ∧ at_ s.code j ≤ 255) ∧ 0 ≤ s.atx ∧ s.code.length ≤ 4611686018427387904
theorem u64_wrap (n : Int) : 0 ≤ IntKind.u64.wrap n ∧ IntKind.u64.wrap n ≤ 18446744073709551615 := by
  simp only [IntKind.wrap, IntKind.signed, IntKind.bits]
  simp
  omega
theorem and_255 (a : Int) : 0 ≤ bitsI .and .u64 a 255 ∧ bitsI .and .u64 a 255 ≤ 255 := by
  obtain ⟨n, hn⟩ : ∃ n : Nat, n = (BitVec.ofInt 64 a &&& BitVec.ofInt 64 255).toNat := ⟨_, rfl⟩
  have h : n ≤ 255 := by rw [hn, BitVec.toNat_and]; exact Nat.and_le_right
  have e : bitsI .and .u64 a 255 = IntKind.u64.wrap (n : Int) := by rw [hn]; rfl
  have w : IntKind.u64.wrap (n : Int) = n := wrap_in (inR_u64 (by omega) (by omega))
  rw [e, w]; omega

-- spec.l00From
theorem l00From_ok (code : List Int) : ∃ (s' : l00Src), (s'.code = code ∧ s'.atx = 0) ∧ CallOK Tryd.prog 35 [slU8 false code] (lookO []) false (.ref 7001 0) (lookO [(7001, .box [slU8 false s'.code, I s'.atx, .val (.int .u64 s'.seed)])]) := by
  have hh : ∃ r : l00Src, ((r.code = code ∧ r.atx = 0) ∧ (True)) ∧ CallOK Tryd.prog 35 [slU8 false code] (lookO []) false (.ref 7001 0) (lookO [(7001, .box [slU8 false r.code, I r.atx, .val (.int .u64 r.seed)])]) := by
    refine fn_okX (Φ := fun r : l00Src => (r.code = code ∧ r.atx = 0) ∧ (True)) [] (fun r => [(7001, .box [slU8 false r.code, I r.atx, .val (.int .u64 r.seed)])]) (fn := Tryd.f35) (nt := 6) Tryd.func35 rfl rfl (args := [slU8 false code]) rfl (allcons (.inl ⟨rfl, tagU8 false _⟩) allnil) (res := fun r => .ref 7001 0) ?_
    refine x_seq ?_
    refine x_reg [] [0] [] [slU8 false code] [] [] (by kernel_rfl) trivial ?_
    refine xe_then ?_
    refine x_seq ?_
    refine x_reg [(2, .new 7001)] [2] [7001] [.ref 7001 0] [some (.box [slU8 false code, I 0, .val (.int .u64 0)])] [] (by kernel_rfl) trivial ?_
    refine xe_then ?_
    refine x_ret ?_
    refine xe_end (l00Src.mk code 0 0) (show ((l00Src.mk code 0 0).code = code ∧ (l00Src.mk code 0 0).atx = 0) ∧ (True) from ⟨(by first | rfl | (exact ⟨rfl, rfl⟩)), trivial⟩) (⟨.inl rfl, trivial⟩) (.ref 7001 0) (by kernel_rfl) (.inl rfl) (fun h => by cases h) (fun h => by cases h)
  obtain ⟨s', ⟨hh0, _⟩, hc⟩ := hh
  exact ⟨s', hh0, hc⟩


-- spec.l00Src).next
theorem next_ok (s : l00Src) (hs : okSrc s) (ha : s.atx ≤ 4000000000000000000) : ∃ (v : Int) (s' : l00Src), (0 ≤ v ∧ v ≤ 255) ∧ (okSrc s') ∧ (s'.code = s.code) ∧ (s.atx + 1 ≤ s'.atx ∧ s'.atx ≤ s.atx + 1) ∧ CallOK Tryd.prog 55 [.ref 7001 0] (lookO [(7001, .box [slU8 false s.code, I s.atx, .val (.int .u64 s.seed)])]) true (I v) (lookO [(7001, .box [slU8 false s'.code, I s'.atx, .val (.int .u64 s'.seed)])]) := by
  have hs0 := hs.2.1
  have hs1 := hs.2.2
  have hh : ∃ r : Int × l00Src, ((0 ≤ r.1 ∧ r.1 ≤ 255) ∧ (okSrc r.2) ∧ (r.2.code = s.code) ∧ (s.atx + 1 ≤ r.2.atx ∧ r.2.atx ≤ s.atx + 1) ∧ (True)) ∧ CallOK Tryd.prog 55 [.ref 7001 0] (lookO [(7001, .box [slU8 false s.code, I s.atx, .val (.int .u64 s.seed)])]) true (I r.1) (lookO [(7001, .box [slU8 false r.2.code, I r.2.atx, .val (.int .u64 r.2.seed)])]) := by
    refine fn_okX (Φ := fun r : Int × l00Src => (0 ≤ r.1 ∧ r.1 ≤ 255) ∧ (okSrc r.2) ∧ (r.2.code = s.code) ∧ (s.atx + 1 ≤ r.2.atx ∧ r.2.atx ≤ s.atx + 1) ∧ (True)) [(7001, .box [slU8 false s.code, I s.atx, .val (.int .u64 s.seed)])] (fun r => [(7001, .box [slU8 false r.2.code, I r.2.atx, .val (.int .u64 r.2.seed)])]) (fn := Tryd.f55) (nt := 62) Tryd.func55 rfl rfl (args := [.ref 7001 0]) rfl (allcons (.inr ⟨_, _, rfl⟩) allnil) (res := fun r => I r.1) ?_
    refine x_seq ?_
    refine x_reg [] [0] [7001] [.ref 7001 0] [some (.box [slU8 false s.code, I s.atx, .val (.int .u64 s.seed)])] [] (by kernel_rfl) trivial ?_
    refine xe_then ?_
    refine x_seq ?_
    refine x_reg [] [0, 3] [7001] [.ref 7001 0, I 0] [some (.box [slU8 false s.code, I s.atx, .val (.int .u64 s.seed)])] [] (by kernel_rfl) trivial ?_
    refine xe_then ?_
    refine x_seq ?_
    refine x_seq ?_
    by_cases h1 : s.atx < (s.code.length : Int)
    · have hbt := hs.1 s.atx.toNat (by omega)
      refine x_reg [(9, .dec true)] [0, 3, 13] [7001] [.ref 7001 0, I 0, Bv true] [some (.box [slU8 false s.code, I s.atx, .val (.int .u64 s.seed)])] [s.atx < (s.code.length : Int)] (by kernel_rfl) ⟨h1, trivial⟩ ?_
      refine xe_then ?_
      refine x_true rfl ?_
      refine x_reg [] [0, 3] [7001] [.ref 7001 0, I (at_ s.code s.atx.toNat)] [some (.box [slU8 false s.code, I s.atx, .val (.int .u64 s.seed)])] [(0 : Int) ≤ s.atx ∧ s.atx < (s.code.length : Int), inR .i64 (at_ s.code s.atx.toNat)] (by kernel_rfl) ⟨⟨(by omega), (by omega)⟩, (inR_i64 (by omega) (by omega)), trivial⟩ ?_
      refine xe_then ?_
      refine x_seq ?_
      refine x_reg [] [0, 3] [7001] [.ref 7001 0, I (at_ s.code s.atx.toNat)] [some (.box [slU8 false s.code, I (s.atx + 1), .val (.int .u64 s.seed)])] [inR .i64 (s.atx + 1)] (by kernel_rfl) ⟨(inR_i64 (by omega) (by omega)), trivial⟩ ?_
      refine xe_then ?_
      refine x_seq ?_
      refine x_reg [(5, .wrap), (8, .wrap), (9, .wrap)] [0, 3] [7001] [.ref 7001 0, I (at_ s.code s.atx.toNat)] [some (.box [slU8 false s.code, I (s.atx + 1), .val (.int .u64 (IntKind.u64.wrap ((IntKind.u64.wrap ((IntKind.u64.wrap (s.seed * 6364136223846793005)) + (at_ s.code s.atx.toNat))) + 1442695040888963407)))])] [inR .u64 (at_ s.code s.atx.toNat)] (by kernel_rfl) ⟨(inR_u64 (by omega) (by omega)), trivial⟩ ?_
      refine xe_then ?_
      refine x_seq ?_
      refine x_seq ?_
      by_cases h2 : (s.atx + 1) ≤ (s.code.length : Int)
      · refine x_reg [(9, .dec true)] [0, 3, 53] [7001] [.ref 7001 0, I (at_ s.code s.atx.toNat), Bv true] [some (.box [slU8 false s.code, I (s.atx + 1), .val (.int .u64 (IntKind.u64.wrap ((IntKind.u64.wrap ((IntKind.u64.wrap (s.seed * 6364136223846793005)) + (at_ s.code s.atx.toNat))) + 1442695040888963407)))])] [(s.atx + 1) ≤ (s.code.length : Int)] (by kernel_rfl) ⟨h2, trivial⟩ ?_
        refine xe_then ?_
        refine x_true rfl ?_
        refine x_seq ?_
        refine x_reg [] [2] [7001] [I (at_ s.code s.atx.toNat)] [some (.box [slU8 false s.code, I (s.atx + 1), .val (.int .u64 (IntKind.u64.wrap ((IntKind.u64.wrap ((IntKind.u64.wrap (s.seed * 6364136223846793005)) + (at_ s.code s.atx.toNat))) + 1442695040888963407)))])] [] (by kernel_rfl) trivial ?_
        refine xe_then ?_
        refine x_ret ?_
        refine xe_ret_then ?_
        refine xe_end ((at_ s.code s.atx.toNat), (l00Src.mk s.code (s.atx + 1) (IntKind.u64.wrap ((IntKind.u64.wrap ((IntKind.u64.wrap (s.seed * 6364136223846793005)) + (at_ s.code s.atx.toNat))) + 1442695040888963407)))) (show (0 ≤ (at_ s.code s.atx.toNat) ∧ (at_ s.code s.atx.toNat) ≤ 255) ∧ (okSrc (l00Src.mk s.code (s.atx + 1) (IntKind.u64.wrap ((IntKind.u64.wrap ((IntKind.u64.wrap (s.seed * 6364136223846793005)) + (at_ s.code s.atx.toNat))) + 1442695040888963407)))) ∧ ((l00Src.mk s.code (s.atx + 1) (IntKind.u64.wrap ((IntKind.u64.wrap ((IntKind.u64.wrap (s.seed * 6364136223846793005)) + (at_ s.code s.atx.toNat))) + 1442695040888963407))).code = s.code) ∧ (s.atx + 1 ≤ (l00Src.mk s.code (s.atx + 1) (IntKind.u64.wrap ((IntKind.u64.wrap ((IntKind.u64.wrap (s.seed * 6364136223846793005)) + (at_ s.code s.atx.toNat))) + 1442695040888963407))).atx ∧ (l00Src.mk s.code (s.atx + 1) (IntKind.u64.wrap ((IntKind.u64.wrap ((IntKind.u64.wrap (s.seed * 6364136223846793005)) + (at_ s.code s.atx.toNat))) + 1442695040888963407))).atx ≤ s.atx + 1) ∧ (True) from ⟨(by first | omega | rfl | assumption | (dsimp only; first | omega | rfl | assumption) | (simp only [*]; done) | exact ⟨hs.1, (by dsimp only; omega), hs1⟩), (by first | omega | rfl | assumption | (dsimp only; first | omega | rfl | assumption) | (simp only [*]; done) | exact ⟨hs.1, (by dsimp only; omega), hs1⟩), (by first | omega | rfl | assumption | (dsimp only; first | omega | rfl | assumption) | (simp only [*]; done) | exact ⟨hs.1, (by dsimp only; omega), hs1⟩), (by first | omega | rfl | assumption | (dsimp only; first | omega | rfl | assumption) | (simp only [*]; done) | exact ⟨hs.1, (by dsimp only; omega), hs1⟩), trivial⟩) (⟨.inl rfl, trivial⟩) (I (at_ s.code s.atx.toNat)) (by kernel_rfl) (.inl rfl) (fun _ => rfl) (fun _ => trivial)
      · refine x_reg [(9, .dec false)] [0, 3, 53] [7001] [.ref 7001 0, I (at_ s.code s.atx.toNat), Bv false] [some (.box [slU8 false s.code, I (s.atx + 1), .val (.int .u64 (IntKind.u64.wrap ((IntKind.u64.wrap ((IntKind.u64.wrap (s.seed * 6364136223846793005)) + (at_ s.code s.atx.toNat))) + 1442695040888963407)))])] [¬ ((s.atx + 1) ≤ (s.code.length : Int))] (by kernel_rfl) ⟨h2, trivial⟩ ?_
        refine xe_then ?_
        refine x_false rfl ?_
        refine x_skip ?_
        refine xe_then ?_
        refine x_seq ?_
        have hb1 := and_255 ((IntKind.u64.wrap ((IntKind.u64.wrap ((IntKind.u64.wrap (s.seed * 6364136223846793005)) + (at_ s.code s.atx.toNat))) + 1442695040888963407)) / 1099511627776)
        refine x_reg [] [2] [7001] [I (bitsI .and .u64 ((IntKind.u64.wrap ((IntKind.u64.wrap ((IntKind.u64.wrap (s.seed * 6364136223846793005)) + (at_ s.code s.atx.toNat))) + 1442695040888963407)) / 1099511627776) 255)] [some (.box [slU8 false s.code, I (s.atx + 1), .val (.int .u64 (IntKind.u64.wrap ((IntKind.u64.wrap ((IntKind.u64.wrap (s.seed * 6364136223846793005)) + (at_ s.code s.atx.toNat))) + 1442695040888963407)))])] [(0 : Int) ≤ 40 ∧ (40 : Int) ≤ ((IntKind.bits .u64 : Nat) : Int), inR .i64 (bitsI .and .u64 ((IntKind.u64.wrap ((IntKind.u64.wrap ((IntKind.u64.wrap (s.seed * 6364136223846793005)) + (at_ s.code s.atx.toNat))) + 1442695040888963407)) / 1099511627776) 255)] (by kernel_rfl) ⟨⟨(by decide), (by decide)⟩, (inR_i64 (by omega) (by omega)), trivial⟩ ?_
        refine xe_then ?_
        refine x_ret ?_
        refine xe_end ((bitsI .and .u64 ((IntKind.u64.wrap ((IntKind.u64.wrap ((IntKind.u64.wrap (s.seed * 6364136223846793005)) + (at_ s.code s.atx.toNat))) + 1442695040888963407)) / 1099511627776) 255), (l00Src.mk s.code (s.atx + 1) (IntKind.u64.wrap ((IntKind.u64.wrap ((IntKind.u64.wrap (s.seed * 6364136223846793005)) + (at_ s.code s.atx.toNat))) + 1442695040888963407)))) (show (0 ≤ (bitsI .and .u64 ((IntKind.u64.wrap ((IntKind.u64.wrap ((IntKind.u64.wrap (s.seed * 6364136223846793005)) + (at_ s.code s.atx.toNat))) + 1442695040888963407)) / 1099511627776) 255) ∧ (bitsI .and .u64 ((IntKind.u64.wrap ((IntKind.u64.wrap ((IntKind.u64.wrap (s.seed * 6364136223846793005)) + (at_ s.code s.atx.toNat))) + 1442695040888963407)) / 1099511627776) 255) ≤ 255) ∧ (okSrc (l00Src.mk s.code (s.atx + 1) (IntKind.u64.wrap ((IntKind.u64.wrap ((IntKind.u64.wrap (s.seed * 6364136223846793005)) + (at_ s.code s.atx.toNat))) + 1442695040888963407)))) ∧ ((l00Src.mk s.code (s.atx + 1) (IntKind.u64.wrap ((IntKind.u64.wrap ((IntKind.u64.wrap (s.seed * 6364136223846793005)) + (at_ s.code s.atx.toNat))) + 1442695040888963407))).code = s.code) ∧ (s.atx + 1 ≤ (l00Src.mk s.code (s.atx + 1) (IntKind.u64.wrap ((IntKind.u64.wrap ((IntKind.u64.wrap (s.seed * 6364136223846793005)) + (at_ s.code s.atx.toNat))) + 1442695040888963407))).atx ∧ (l00Src.mk s.code (s.atx + 1) (IntKind.u64.wrap ((IntKind.u64.wrap ((IntKind.u64.wrap (s.seed * 6364136223846793005)) + (at_ s.code s.atx.toNat))) + 1442695040888963407))).atx ≤ s.atx + 1) ∧ (True) from ⟨(by first | omega | rfl | assumption | (dsimp only; first | omega | rfl | assumption) | (simp only [*]; done) | exact ⟨hs.1, (by dsimp only; omega), hs1⟩), (by first | omega | rfl | assumption | (dsimp only; first | omega | rfl | assumption) | (simp only [*]; done) | exact ⟨hs.1, (by dsimp only; omega), hs1⟩), (by first | omega | rfl | assumption | (dsimp only; first | omega | rfl | assumption) | (simp only [*]; done) | exact ⟨hs.1, (by dsimp only; omega), hs1⟩), (by first | omega | rfl | assumption | (dsimp only; first | omega | rfl | assumption) | (simp only [*]; done) | exact ⟨hs.1, (by dsimp only; omega), hs1⟩), trivial⟩) (⟨.inl rfl, trivial⟩) (I (bitsI .and .u64 ((IntKind.u64.wrap ((IntKind.u64.wrap ((IntKind.u64.wrap (s.seed * 6364136223846793005)) + (at_ s.code s.atx.toNat))) + 1442695040888963407)) / 1099511627776) 255)) (by kernel_rfl) (.inl rfl) (fun _ => rfl) (fun _ => trivial)
    · refine x_reg [(9, .dec false)] [0, 3, 13] [7001] [.ref 7001 0, I 0, Bv false] [some (.box [slU8 false s.code, I s.atx, .val (.int .u64 s.seed)])] [¬ (s.atx < (s.code.length : Int))] (by kernel_rfl) ⟨h1, trivial⟩ ?_
      refine xe_then ?_
      refine x_false rfl ?_
      refine x_skip ?_
      refine xe_then ?_
      refine x_seq ?_
      refine x_reg [] [0, 3] [7001] [.ref 7001 0, I 0] [some (.box [slU8 false s.code, I (s.atx + 1), .val (.int .u64 s.seed)])] [inR .i64 (s.atx + 1)] (by kernel_rfl) ⟨(inR_i64 (by omega) (by omega)), trivial⟩ ?_
      refine xe_then ?_
      refine x_seq ?_
      refine x_reg [(5, .wrap), (8, .wrap), (9, .wrap)] [0, 3] [7001] [.ref 7001 0, I 0] [some (.box [slU8 false s.code, I (s.atx + 1), .val (.int .u64 (IntKind.u64.wrap ((IntKind.u64.wrap ((IntKind.u64.wrap (s.seed * 6364136223846793005)) + 0)) + 1442695040888963407)))])] [inR .u64 0] (by kernel_rfl) ⟨(inR_u64 (by omega) (by omega)), trivial⟩ ?_
      refine xe_then ?_
      refine x_seq ?_
      refine x_seq ?_
      by_cases h3 : (s.atx + 1) ≤ (s.code.length : Int)
      · refine x_reg [(9, .dec true)] [0, 3, 53] [7001] [.ref 7001 0, I 0, Bv true] [some (.box [slU8 false s.code, I (s.atx + 1), .val (.int .u64 (IntKind.u64.wrap ((IntKind.u64.wrap ((IntKind.u64.wrap (s.seed * 6364136223846793005)) + 0)) + 1442695040888963407)))])] [(s.atx + 1) ≤ (s.code.length : Int)] (by kernel_rfl) ⟨h3, trivial⟩ ?_
        refine xe_then ?_
        refine x_true rfl ?_
        refine x_seq ?_
        refine x_reg [] [2] [7001] [I 0] [some (.box [slU8 false s.code, I (s.atx + 1), .val (.int .u64 (IntKind.u64.wrap ((IntKind.u64.wrap ((IntKind.u64.wrap (s.seed * 6364136223846793005)) + 0)) + 1442695040888963407)))])] [] (by kernel_rfl) trivial ?_
        refine xe_then ?_
        refine x_ret ?_
        refine xe_ret_then ?_
        refine xe_end (0, (l00Src.mk s.code (s.atx + 1) (IntKind.u64.wrap ((IntKind.u64.wrap ((IntKind.u64.wrap (s.seed * 6364136223846793005)) + 0)) + 1442695040888963407)))) (show (0 ≤ 0 ∧ 0 ≤ 255) ∧ (okSrc (l00Src.mk s.code (s.atx + 1) (IntKind.u64.wrap ((IntKind.u64.wrap ((IntKind.u64.wrap (s.seed * 6364136223846793005)) + 0)) + 1442695040888963407)))) ∧ ((l00Src.mk s.code (s.atx + 1) (IntKind.u64.wrap ((IntKind.u64.wrap ((IntKind.u64.wrap (s.seed * 6364136223846793005)) + 0)) + 1442695040888963407))).code = s.code) ∧ (s.atx + 1 ≤ (l00Src.mk s.code (s.atx + 1) (IntKind.u64.wrap ((IntKind.u64.wrap ((IntKind.u64.wrap (s.seed * 6364136223846793005)) + 0)) + 1442695040888963407))).atx ∧ (l00Src.mk s.code (s.atx + 1) (IntKind.u64.wrap ((IntKind.u64.wrap ((IntKind.u64.wrap (s.seed * 6364136223846793005)) + 0)) + 1442695040888963407))).atx ≤ s.atx + 1) ∧ (True) from ⟨(by first | omega | rfl | assumption | (dsimp only; first | omega | rfl | assumption) | (simp only [*]; done) | exact ⟨hs.1, (by dsimp only; omega), hs1⟩), (by first | omega | rfl | assumption | (dsimp only; first | omega | rfl | assumption) | (simp only [*]; done) | exact ⟨hs.1, (by dsimp only; omega), hs1⟩), (by first | omega | rfl | assumption | (dsimp only; first | omega | rfl | assumption) | (simp only [*]; done) | exact ⟨hs.1, (by dsimp only; omega), hs1⟩), (by first | omega | rfl | assumption | (dsimp only; first | omega | rfl | assumption) | (simp only [*]; done) | exact ⟨hs.1, (by dsimp only; omega), hs1⟩), trivial⟩) (⟨.inl rfl, trivial⟩) (I 0) (by kernel_rfl) (.inl rfl) (fun _ => rfl) (fun _ => trivial)
      · refine x_reg [(9, .dec false)] [0, 3, 53] [7001] [.ref 7001 0, I 0, Bv false] [some (.box [slU8 false s.code, I (s.atx + 1), .val (.int .u64 (IntKind.u64.wrap ((IntKind.u64.wrap ((IntKind.u64.wrap (s.seed * 6364136223846793005)) + 0)) + 1442695040888963407)))])] [¬ ((s.atx + 1) ≤ (s.code.length : Int))] (by kernel_rfl) ⟨h3, trivial⟩ ?_
        refine xe_then ?_
        refine x_false rfl ?_
        refine x_skip ?_
        refine xe_then ?_
        refine x_seq ?_
        have hb2 := and_255 ((IntKind.u64.wrap ((IntKind.u64.wrap ((IntKind.u64.wrap (s.seed * 6364136223846793005)) + 0)) + 1442695040888963407)) / 1099511627776)
        refine x_reg [] [2] [7001] [I (bitsI .and .u64 ((IntKind.u64.wrap ((IntKind.u64.wrap ((IntKind.u64.wrap (s.seed * 6364136223846793005)) + 0)) + 1442695040888963407)) / 1099511627776) 255)] [some (.box [slU8 false s.code, I (s.atx + 1), .val (.int .u64 (IntKind.u64.wrap ((IntKind.u64.wrap ((IntKind.u64.wrap (s.seed * 6364136223846793005)) + 0)) + 1442695040888963407)))])] [(0 : Int) ≤ 40 ∧ (40 : Int) ≤ ((IntKind.bits .u64 : Nat) : Int), inR .i64 (bitsI .and .u64 ((IntKind.u64.wrap ((IntKind.u64.wrap ((IntKind.u64.wrap (s.seed * 6364136223846793005)) + 0)) + 1442695040888963407)) / 1099511627776) 255)] (by kernel_rfl) ⟨⟨(by decide), (by decide)⟩, (inR_i64 (by omega) (by omega)), trivial⟩ ?_
        refine xe_then ?_
        refine x_ret ?_
        refine xe_end ((bitsI .and .u64 ((IntKind.u64.wrap ((IntKind.u64.wrap ((IntKind.u64.wrap (s.seed * 6364136223846793005)) + 0)) + 1442695040888963407)) / 1099511627776) 255), (l00Src.mk s.code (s.atx + 1) (IntKind.u64.wrap ((IntKind.u64.wrap ((IntKind.u64.wrap (s.seed * 6364136223846793005)) + 0)) + 1442695040888963407)))) (show (0 ≤ (bitsI .and .u64 ((IntKind.u64.wrap ((IntKind.u64.wrap ((IntKind.u64.wrap (s.seed * 6364136223846793005)) + 0)) + 1442695040888963407)) / 1099511627776) 255) ∧ (bitsI .and .u64 ((IntKind.u64.wrap ((IntKind.u64.wrap ((IntKind.u64.wrap (s.seed * 6364136223846793005)) + 0)) + 1442695040888963407)) / 1099511627776) 255) ≤ 255) ∧ (okSrc (l00Src.mk s.code (s.atx + 1) (IntKind.u64.wrap ((IntKind.u64.wrap ((IntKind.u64.wrap (s.seed * 6364136223846793005)) + 0)) + 1442695040888963407)))) ∧ ((l00Src.mk s.code (s.atx + 1) (IntKind.u64.wrap ((IntKind.u64.wrap ((IntKind.u64.wrap (s.seed * 6364136223846793005)) + 0)) + 1442695040888963407))).code = s.code) ∧ (s.atx + 1 ≤ (l00Src.mk s.code (s.atx + 1) (IntKind.u64.wrap ((IntKind.u64.wrap ((IntKind.u64.wrap (s.seed * 6364136223846793005)) + 0)) + 1442695040888963407))).atx ∧ (l00Src.mk s.code (s.atx + 1) (IntKind.u64.wrap ((IntKind.u64.wrap ((IntKind.u64.wrap (s.seed * 6364136223846793005)) + 0)) + 1442695040888963407))).atx ≤ s.atx + 1) ∧ (True) from ⟨(by first | omega | rfl | assumption | (dsimp only; first | omega | rfl | assumption) | (simp only [*]; done) | exact ⟨hs.1, (by dsimp only; omega), hs1⟩), (by first | omega | rfl | assumption | (dsimp only; first | omega | rfl | assumption) | (simp only [*]; done) | exact ⟨hs.1, (by dsimp only; omega), hs1⟩), (by first | omega | rfl | assumption | (dsimp only; first | omega | rfl | assumption) | (simp only [*]; done) | exact ⟨hs.1, (by dsimp only; omega), hs1⟩), (by first | omega | rfl | assumption | (dsimp only; first | omega | rfl | assumption) | (simp only [*]; done) | exact ⟨hs.1, (by dsimp only; omega), hs1⟩), trivial⟩) (⟨.inl rfl, trivial⟩) (I (bitsI .and .u64 ((IntKind.u64.wrap ((IntKind.u64.wrap ((IntKind.u64.wrap (s.seed * 6364136223846793005)) + 0)) + 1442695040888963407)) / 1099511627776) 255)) (by kernel_rfl) (.inl rfl) (fun _ => rfl) (fun _ => trivial)
  obtain ⟨⟨v, s'⟩, ⟨hh0, hh1, hh2, hh3, _⟩, hc⟩ := hh
  exact ⟨v, s', hh0, hh1, hh2, hh3, hc⟩


-- spec.l00Src).pick
theorem pick_ok (s : l00Src) (n : Int) (hs : okSrc s) (ha : s.atx ≤ 3999999999999999990) : ∃ (v : Int) (s' : l00Src), (0 ≤ v ∧ (v < n ∨ v = 0)) ∧ (okSrc s') ∧ (s'.code = s.code) ∧ (s.atx + 0 ≤ s'.atx ∧ s'.atx ≤ s.atx + 2) ∧ CallOK Tryd.prog 38 [.ref 7001 0, I n] (lookO [(7001, .box [slU8 false s.code, I s.atx, .val (.int .u64 s.seed)])]) true (I v) (lookO [(7001, .box [slU8 false s'.code, I s'.atx, .val (.int .u64 s'.seed)])]) := by
  have hs0 := hs.2.1
  have hs1 := hs.2.2
  have hh : ∃ r : Int × l00Src, ((0 ≤ r.1 ∧ (r.1 < n ∨ r.1 = 0)) ∧ (okSrc r.2) ∧ (r.2.code = s.code) ∧ (s.atx + 0 ≤ r.2.atx ∧ r.2.atx ≤ s.atx + 2) ∧ (True)) ∧ CallOK Tryd.prog 38 [.ref 7001 0, I n] (lookO [(7001, .box [slU8 false s.code, I s.atx, .val (.int .u64 s.seed)])]) true (I r.1) (lookO [(7001, .box [slU8 false r.2.code, I r.2.atx, .val (.int .u64 r.2.seed)])]) := by
    refine fn_okX (Φ := fun r : Int × l00Src => (0 ≤ r.1 ∧ (r.1 < n ∨ r.1 = 0)) ∧ (okSrc r.2) ∧ (r.2.code = s.code) ∧ (s.atx + 0 ≤ r.2.atx ∧ r.2.atx ≤ s.atx + 2) ∧ (True)) [(7001, .box [slU8 false s.code, I s.atx, .val (.int .u64 s.seed)])] (fun r => [(7001, .box [slU8 false r.2.code, I r.2.atx, .val (.int .u64 r.2.seed)])]) (fn := Tryd.f38) (nt := 20) Tryd.func38 rfl rfl (args := [.ref 7001 0, I n]) rfl (allcons (.inr ⟨_, _, rfl⟩) (allcons (.inl ⟨rfl, trivial⟩) allnil)) (res := fun r => I r.1) ?_
    refine x_seq ?_
    refine x_reg [] [0, 1] [7001] [.ref 7001 0, I n] [some (.box [slU8 false s.code, I s.atx, .val (.int .u64 s.seed)])] [] (by kernel_rfl) trivial ?_
    refine xe_then ?_
    refine x_seq ?_
    refine x_seq ?_
    by_cases h1 : n ≤ 1
    · refine x_reg [(1, .dec true)] [0, 1, 7] [7001] [.ref 7001 0, I n, Bv true] [some (.box [slU8 false s.code, I s.atx, .val (.int .u64 s.seed)])] [n ≤ 1] (by kernel_rfl) ⟨h1, trivial⟩ ?_
      refine xe_then ?_
      refine x_true rfl ?_
      refine x_seq ?_
      refine x_reg [] [4] [7001] [I 0] [some (.box [slU8 false s.code, I s.atx, .val (.int .u64 s.seed)])] [] (by kernel_rfl) trivial ?_
      refine xe_then ?_
      refine x_ret ?_
      refine xe_ret_then ?_
      refine xe_end (0, s) (show (0 ≤ 0 ∧ (0 < n ∨ 0 = 0)) ∧ (okSrc s) ∧ (s.code = s.code) ∧ (s.atx + 0 ≤ s.atx ∧ s.atx ≤ s.atx + 2) ∧ (True) from ⟨(by first | omega | rfl | assumption | (dsimp only; first | omega | rfl | assumption) | (simp only [*]; done) | exact ⟨Int.emod_nonneg _ (by omega), .inl (Int.emod_lt_of_pos _ (by omega))⟩), (by first | omega | rfl | assumption | (dsimp only; first | omega | rfl | assumption) | (simp only [*]; done) | exact ⟨Int.emod_nonneg _ (by omega), .inl (Int.emod_lt_of_pos _ (by omega))⟩), (by first | omega | rfl | assumption | (dsimp only; first | omega | rfl | assumption) | (simp only [*]; done) | exact ⟨Int.emod_nonneg _ (by omega), .inl (Int.emod_lt_of_pos _ (by omega))⟩), (by first | omega | rfl | assumption | (dsimp only; first | omega | rfl | assumption) | (simp only [*]; done) | exact ⟨Int.emod_nonneg _ (by omega), .inl (Int.emod_lt_of_pos _ (by omega))⟩), trivial⟩) (⟨.inl rfl, trivial⟩) (I 0) (by kernel_rfl) (.inl rfl) (fun _ => rfl) (fun _ => trivial)
    · refine x_reg [(1, .dec false)] [0, 1, 7] [7001] [.ref 7001 0, I n, Bv false] [some (.box [slU8 false s.code, I s.atx, .val (.int .u64 s.seed)])] [¬ (n ≤ 1)] (by kernel_rfl) ⟨h1, trivial⟩ ?_
      refine xe_then ?_
      refine x_false rfl ?_
      refine x_skip ?_
      refine xe_then ?_
      refine x_seq ?_
      obtain ⟨v_1, s'_1, hx1_0, hx1_1, hx1_2, hx1_3, hc1⟩ := next_ok s (by first | assumption | (simp only [okSrc] at *; simp_all; done)) (by omega)
      refine x_reg [(1, .lend [(7001, .box [slU8 false s.code, I s.atx, .val (.int .u64 s.seed)], .box [slU8 false s'_1.code, I s'_1.atx, .val (.int .u64 s'_1.seed)])] [] [(true, .ref 7001 0)] true (I v_1))] [0, 1, 5] [7001] [.ref 7001 0, I n, I v_1] [some (.box [slU8 false s'_1.code, I s'_1.atx, .val (.int .u64 s'_1.seed)])] [CallOK Tryd.prog 55 [.ref 7001 0] (lookO [(7001, .box [slU8 false s.code, I s.atx, .val (.int .u64 s.seed)])]) true (I v_1) (lookO [(7001, .box [slU8 false s'_1.code, I s'_1.atx, .val (.int .u64 s'_1.seed)])]) ∧ ((.ref 7001 0 : AV) = .ref 7001 0) ∧ (((.box [slU8 false s.code, I s.atx, .val (.int .u64 s.seed)] : Ob) = .box [slU8 false s.code, I s.atx, .val (.int .u64 s.seed)] ∨ obLe noOb true (.box [slU8 false s.code, I s.atx, .val (.int .u64 s.seed)]) (.box [slU8 false s.code, I s.atx, .val (.int .u64 s.seed)])) ∧ taggedO false (.box [slU8 false s.code, I s.atx, .val (.int .u64 s.seed)])) ∧ True] (by kernel_rfl) ⟨⟨hc1, rfl, ⟨.inl rfl, (by simp [taggedO, taggedL, tagged, tagU8])⟩, trivial⟩, trivial⟩ ?_
      refine xe_then ?_
      refine x_seq ?_
      refine x_seq ?_
      by_cases h2 : 200 < n
      · refine x_reg [(1, .dec true)] [0, 1, 5, 11] [7001] [.ref 7001 0, I n, I v_1, Bv true] [some (.box [slU8 false s'_1.code, I s'_1.atx, .val (.int .u64 s'_1.seed)])] [200 < n] (by kernel_rfl) ⟨h2, trivial⟩ ?_
        refine xe_then ?_
        refine x_true rfl ?_
        obtain ⟨v_2, s'_2, hx2_0, hx2_1, hx2_2, hx2_3, hc2⟩ := next_ok s'_1 (by first | assumption | (simp only [okSrc] at *; simp_all; done)) (by omega)
        refine x_reg [(3, .lend [(7001, .box [slU8 false s'_1.code, I s'_1.atx, .val (.int .u64 s'_1.seed)], .box [slU8 false s'_2.code, I s'_2.atx, .val (.int .u64 s'_2.seed)])] [] [(true, .ref 7001 0)] true (I v_2))] [1, 5] [7001] [I n, I ((v_1 * 256) + v_2)] [some (.box [slU8 false s'_2.code, I s'_2.atx, .val (.int .u64 s'_2.seed)])] [inR .i64 (v_1 * 256), CallOK Tryd.prog 55 [.ref 7001 0] (lookO [(7001, .box [slU8 false s'_1.code, I s'_1.atx, .val (.int .u64 s'_1.seed)])]) true (I v_2) (lookO [(7001, .box [slU8 false s'_2.code, I s'_2.atx, .val (.int .u64 s'_2.seed)])]) ∧ ((.ref 7001 0 : AV) = .ref 7001 0) ∧ (((.box [slU8 false s'_1.code, I s'_1.atx, .val (.int .u64 s'_1.seed)] : Ob) = .box [slU8 false s'_1.code, I s'_1.atx, .val (.int .u64 s'_1.seed)] ∨ obLe noOb true (.box [slU8 false s'_1.code, I s'_1.atx, .val (.int .u64 s'_1.seed)]) (.box [slU8 false s'_1.code, I s'_1.atx, .val (.int .u64 s'_1.seed)])) ∧ taggedO false (.box [slU8 false s'_1.code, I s'_1.atx, .val (.int .u64 s'_1.seed)])) ∧ True, inR .i64 ((v_1 * 256) + v_2)] (by kernel_rfl) ⟨(inR_i64 (by omega) (by omega)), ⟨hc2, rfl, ⟨.inl rfl, (by simp [taggedO, taggedL, tagged, tagU8])⟩, trivial⟩, (inR_i64 (by omega) (by omega)), trivial⟩ ?_
        refine xe_then ?_
        refine x_seq ?_
        refine x_reg [(2, .nn)] [4] [7001] [I (((v_1 * 256) + v_2) % n)] [some (.box [slU8 false s'_2.code, I s'_2.atx, .val (.int .u64 s'_2.seed)])] [(0 : Int) ≤ ((v_1 * 256) + v_2) ∧ (0 : Int) < n] (by kernel_rfl) ⟨⟨(by omega), (by omega)⟩, trivial⟩ ?_
        refine xe_then ?_
        refine x_ret ?_
        refine xe_end ((((v_1 * 256) + v_2) % n), s'_2) (show (0 ≤ (((v_1 * 256) + v_2) % n) ∧ ((((v_1 * 256) + v_2) % n) < n ∨ (((v_1 * 256) + v_2) % n) = 0)) ∧ (okSrc s'_2) ∧ (s'_2.code = s.code) ∧ (s.atx + 0 ≤ s'_2.atx ∧ s'_2.atx ≤ s.atx + 2) ∧ (True) from ⟨(by first | omega | rfl | assumption | (dsimp only; first | omega | rfl | assumption) | (simp only [*]; done) | exact ⟨Int.emod_nonneg _ (by omega), .inl (Int.emod_lt_of_pos _ (by omega))⟩), (by first | omega | rfl | assumption | (dsimp only; first | omega | rfl | assumption) | (simp only [*]; done) | exact ⟨Int.emod_nonneg _ (by omega), .inl (Int.emod_lt_of_pos _ (by omega))⟩), (by first | omega | rfl | assumption | (dsimp only; first | omega | rfl | assumption) | (simp only [*]; done) | exact ⟨Int.emod_nonneg _ (by omega), .inl (Int.emod_lt_of_pos _ (by omega))⟩), (by first | omega | rfl | assumption | (dsimp only; first | omega | rfl | assumption) | (simp only [*]; done) | exact ⟨Int.emod_nonneg _ (by omega), .inl (Int.emod_lt_of_pos _ (by omega))⟩), trivial⟩) (⟨.inl rfl, trivial⟩) (I (((v_1 * 256) + v_2) % n)) (by kernel_rfl) (.inl rfl) (fun _ => rfl) (fun _ => trivial)
      · refine x_reg [(1, .dec false)] [0, 1, 5, 11] [7001] [.ref 7001 0, I n, I v_1, Bv false] [some (.box [slU8 false s'_1.code, I s'_1.atx, .val (.int .u64 s'_1.seed)])] [¬ (200 < n)] (by kernel_rfl) ⟨h2, trivial⟩ ?_
        refine xe_then ?_
        refine x_false rfl ?_
        refine x_skip ?_
        refine xe_then ?_
        refine x_seq ?_
        refine x_reg [(2, .nn)] [4] [7001] [I (v_1 % n)] [some (.box [slU8 false s'_1.code, I s'_1.atx, .val (.int .u64 s'_1.seed)])] [(0 : Int) ≤ v_1 ∧ (0 : Int) < n] (by kernel_rfl) ⟨⟨(by omega), (by omega)⟩, trivial⟩ ?_
        refine xe_then ?_
        refine x_ret ?_
        refine xe_end ((v_1 % n), s'_1) (show (0 ≤ (v_1 % n) ∧ ((v_1 % n) < n ∨ (v_1 % n) = 0)) ∧ (okSrc s'_1) ∧ (s'_1.code = s.code) ∧ (s.atx + 0 ≤ s'_1.atx ∧ s'_1.atx ≤ s.atx + 2) ∧ (True) from ⟨(by first | omega | rfl | assumption | (dsimp only; first | omega | rfl | assumption) | (simp only [*]; done) | exact ⟨Int.emod_nonneg _ (by omega), .inl (Int.emod_lt_of_pos _ (by omega))⟩), (by first | omega | rfl | assumption | (dsimp only; first | omega | rfl | assumption) | (simp only [*]; done) | exact ⟨Int.emod_nonneg _ (by omega), .inl (Int.emod_lt_of_pos _ (by omega))⟩), (by first | omega | rfl | assumption | (dsimp only; first | omega | rfl | assumption) | (simp only [*]; done) | exact ⟨Int.emod_nonneg _ (by omega), .inl (Int.emod_lt_of_pos _ (by omega))⟩), (by first | omega | rfl | assumption | (dsimp only; first | omega | rfl | assumption) | (simp only [*]; done) | exact ⟨Int.emod_nonneg _ (by omega), .inl (Int.emod_lt_of_pos _ (by omega))⟩), trivial⟩) (⟨.inl rfl, trivial⟩) (I (v_1 % n)) (by kernel_rfl) (.inl rfl) (fun _ => rfl) (fun _ => trivial)
  obtain ⟨⟨v, s'⟩, ⟨hh0, hh1, hh2, hh3, _⟩, hc⟩ := hh
  exact ⟨v, s', hh0, hh1, hh2, hh3, hc⟩


/-- The string with these bytes. -/
def strB (xs : List Int) : ByteArray := ⟨(xs.map fun n => UInt8.ofNat n.toNat).toArray⟩
theorem strB_size (xs : List Int) : (strB xs).size = xs.length := by simp [strB, ByteArray.size]
theorem strB_at {xs : List Int} {i : Nat} (h : i < xs.length) (hb : 0 ≤ at_ xs i ∧ at_ xs i ≤ 255) : bAt (strB xs) i = at_ xs i := by
  have e : (strB xs).data.toList[i]? = some (UInt8.ofNat (at_ xs i).toNat) := by simp [strB, at_, List.getElem?_eq_getElem h]
  rw [bAt, List.getD_eq_getElem?_getD, e]
  simp
  omega
theorem strB_ok' {xs : List Int} (h : ∀ x ∈ xs, 0 ≤ x ∧ x ≤ 255) {n : Nat} {f : Nat → List AV} (hn : n = xs.length) (hf : ∀ i, i < xs.length → f i = fU8 xs i ∨ False) : (strB xs).size = n ∧ ∀ i, i < n → f i = byteF (strB xs) i := by
  subst hn
  refine ⟨strB_size xs, fun i hi => ?_⟩
  rw [(hf i hi).resolve_right id]
  unfold byteF
  rw [strB_at hi (h _ (at_mem hi))]
  rfl
theorem strB_ok {xs : List Int} (h : ∀ x ∈ xs, 0 ≤ x ∧ x ≤ 255) : (strB xs).size = xs.length ∧ ∀ i, i < xs.length → fU8 xs i = byteF (strB xs) i := strB_ok' h rfl fun i _ => .inl rfl
theorem cat_one {α : Type} [Inhabited α] {enc : α → List AV} {x : α} {xs : List α} {g : Nat → List AV} (hx : g 0 = enc x) (i : Nat) (hi : i < ([x] ++ xs).length) : catF 1 g (fun i => enc (at_ xs i)) i = enc (at_ ([x] ++ xs) i) := by
  cases i with
  | zero => rw [catF_lt (by decide), hx]; rfl
  | succ i => rw [catF_ge (by omega), at_right (by simp)]; simp
/-- A string's bytes. -/
def bytesL (s : ByteArray) : List Int := s.data.toList.map fun b => (b.toNat : Int)
theorem bytesL_len (s : ByteArray) : (bytesL s).length = s.size := by unfold bytesL; rw [List.length_map, Array.length_toList]; rfl
theorem bytesL_at {s : ByteArray} (i : Nat) (h : i < (bytesL s).length) : byteF s i = fU8 (bytesL s) i := by
  unfold byteF fU8 cU8
  have h' : i < s.data.toList.length := by simpa [bytesL] using h
  congr 3
  simp only [bAt, at_, bytesL, List.getD_eq_getElem?_getD, List.getElem?_map, List.getElem?_eq_getElem h', Option.map_some, Option.getD_some]

def inB (a l h : Int) : Bool := decide (l ≤ a ∧ a ≤ h)
theorem inB_iff {a l h : Int} : inB a l h = true ↔ l ≤ a ∧ a ≤ h := by simp [inB]
theorem bAt_bd (s : ByteArray) (i : Nat) : 0 ≤ bAt s i ∧ bAt s i ≤ 255 := by
  unfold bAt
  have := (s.data.toList.getD i 0).toNat_lt
  omega

/-- A text without what t has at its ends. -/
def trimB (s t : ByteArray) : ByteArray := ⟨(Lib.trimS s.data.toList t.data.toList).toArray⟩
theorem dropWhile_nil {α : Type} {p : α → Bool} : ∀ {l : List α}, l.dropWhile p = [] ↔ ∀ x ∈ l, p x = true
  | [] => by simp
  | x :: l => by
    rw [List.dropWhile_cons]
    cases h : p x with
    | true => simp only [if_true]; rw [dropWhile_nil]; simp [h]
    | false => simp [h]
theorem dropWhile_head {α : Type} {p : α → Bool} : ∀ {l : List α} {x : α} {r : List α}, l.dropWhile p = x :: r → p x = false
  | [], _, _, h => by simp at h
  | y :: l, x, r, h => by
    rw [List.dropWhile_cons] at h
    cases hp : p y with
    | true => rw [hp] at h; exact dropWhile_head h
    | false => rw [hp] at h; simp at h; rw [← h.1]; exact hp
theorem trimS_nil {l cs : List UInt8} : Lib.trimS l cs = [] ↔ ∀ x ∈ l, cs.contains x = true := by
  unfold Lib.trimS Lib.trimLeftS Lib.trimRightS
  constructor
  · intro h
    rw [dropWhile_nil] at h
    cases e : l.reverse.dropWhile (cs.contains ·) with
    | nil => rw [dropWhile_nil] at e; intro x hx; exact e x (by simpa using hx)
    | cons x r =>
      have h1 := dropWhile_head e
      have h2 := h x (by rw [e]; simp)
      rw [h2] at h1; cases h1
  · intro h
    have e : l.reverse.dropWhile (cs.contains ·) = [] := dropWhile_nil.2 fun x hx => h x (by simpa using hx)
    rw [e]; rfl
theorem allB_iff {s : ByteArray} {p : Int → Bool} : allN s.size (fun j => p (bAt s j)) = true ↔ ∀ x ∈ s.data.toList, p x.toNat = true := by
  rw [allN_iff]
  have hl : s.size = s.data.toList.length := by rw [Array.length_toList]; rfl
  constructor
  · intro h x hx
    obtain ⟨i, hi, rfl⟩ := List.getElem_of_mem hx
    have := h i (by omega)
    rw [bAt, List.getD_eq_getElem?_getD, List.getElem?_eq_getElem hi] at this
    exact this
  · intro h j hj
    rw [bAt, List.getD_eq_getElem?_getD, List.getElem?_eq_getElem (by omega)]
    exact h _ (List.getElem_mem _)
theorem trim_all {T : ByteArray} {p : Int → Bool} (hT : ∀ x : UInt8, T.data.toList.contains x = p x.toNat) (s : ByteArray) : trimB s T = ⟨#[]⟩ ↔ allN s.size (fun j => p (bAt s j)) = true := by
  rw [allB_iff]
  constructor
  · intro h x hx
    have h' : Lib.trimS s.data.toList T.data.toList = [] := by
      have := congrArg (fun b => b.data.toList) h
      simpa [trimB] using this
    rw [← hT]
    exact trimS_nil.1 h' x hx
  · intro h
    have : Lib.trimS s.data.toList T.data.toList = [] := trimS_nil.2 fun x hx => by rw [hT]; exact h x hx
    unfold trimB
    rw [this]

theorem down_spec (n : Int) {d : Int} (hd : 0 < d) : (Int.tmod n d < 0 → Int.tdiv n d - 1 = n / d) ∧ (¬ Int.tmod n d < 0 → Int.tdiv n d = n / d) := by
  have h1 := Int.mul_tdiv_add_tmod n d
  have h2 := Int.tmod_lt_of_pos n hd
  have h3 := Int.lt_tmod_of_pos n hd
  generalize Int.tdiv n d = q at *
  generalize Int.tmod n d = r at *
  subst h1
  constructor
  · intro h
    have e : d * q + r = (r + d) + d * (q - 1) := by rw [Int.mul_sub, Int.mul_one]; omega
    rw [e, Int.add_mul_ediv_left _ _ (by omega), Int.ediv_eq_zero_of_lt (by omega) (by omega)]; omega
  · intro h
    rw [Int.add_comm, Int.add_mul_ediv_left _ _ (by omega), Int.ediv_eq_zero_of_lt (by omega) (by omega)]; omega
theorem quo_bd {n r : Int} (h : 0 ≤ n) (hr : 0 < r) : 0 ≤ n / r ∧ n / r ≤ n := ⟨Int.ediv_nonneg h (by omega), Int.ediv_le_self _ h⟩
theorem tdiv_bd (n d : Int) : ((Int.tdiv n d).natAbs : Int) ≤ (n.natAbs : Int) := by
  rw [Int.natAbs_tdiv]
  exact Int.ofNat_le.2 (Nat.div_le_self _ _)

theorem bAt_get {s : ByteArray} {i : Nat} (h : i < s.size) : bAt s i = (s.data.toList[i]'(by rw [Array.length_toList]; exact h)).toNat := by
  unfold bAt
  rw [List.getD_eq_getElem?_getD, List.getElem?_eq_getElem (by rw [Array.length_toList]; exact h)]
  rfl
theorem bAt_left {a b : ByteArray} {i : Nat} (h : i < a.size) : bAt (a ++ b) i = bAt a i := by
  unfold bAt
  have e : (a ++ b).data.toList = a.data.toList ++ b.data.toList := by simp [ByteArray.data_append]
  rw [e, List.getD_eq_getElem?_getD, List.getD_eq_getElem?_getD, List.getElem?_append_left (by rw [Array.length_toList]; exact h)]
theorem bAt_right {a b : ByteArray} {i : Nat} (h : a.size ≤ i) : bAt (a ++ b) i = bAt b (i - a.size) := by
  unfold bAt
  have e : (a ++ b).data.toList = a.data.toList ++ b.data.toList := by simp [ByteArray.data_append]
  have hl : a.data.toList.length = a.size := by rw [Array.length_toList]; rfl
  rw [e, List.getD_eq_getElem?_getD, List.getD_eq_getElem?_getD, List.getElem?_append_right (by omega), hl]
theorem bAt_ext {s : ByteArray} {a i : Nat} (h : a + i < s.size) : bAt (s.extract a s.size) i = bAt s (a + i) := by
  unfold bAt
  have hl : s.data.toList.length = s.size := by rw [Array.length_toList]; rfl
  have e : (s.extract a s.size).data.toList = s.data.toList.drop a := by
    rw [ByteArray.data_extract, Array.toList_extract]
    simp only [List.extract_eq_take_drop]
    rw [List.take_of_length_le (by simp)]
  rw [e, List.getD_eq_getElem?_getD, List.getD_eq_getElem?_getD, List.getElem?_drop]
theorem bAt_bd' (s : ByteArray) (i : Nat) : 0 ≤ bAt s i ∧ bAt s i ≤ 255 := by
  unfold bAt
  have := (s.data.toList.getD i 0).toNat_lt
  omega
/-- A number's bits. -/
def nbL (n : Int) (w : Nat) : List Int := (List.range w).map fun j => 48 + (n / ((2 ^ (w - 1 - j) : Nat) : Int)) % 2
theorem nbL_len (n : Int) (w : Nat) : (nbL n w).length = w := by simp [nbL]
theorem nbL_at {n : Int} {w j : Nat} (h : j < w) : at_ (nbL n w) j = 48 + (n / ((2 ^ (w - 1 - j) : Nat) : Int)) % 2 := by simp [at_, nbL, h]
theorem nbL_bd {n x : Int} {w : Nat} (h : x ∈ nbL n w) : 48 ≤ x ∧ x ≤ 49 := by
  simp only [nbL, List.mem_map] at h
  obtain ⟨j, _, rfl⟩ := h
  omega
def numB (n w : Int) : ByteArray := strB (nbL n w.toNat)
theorem numB_size (n w : Int) : (numB n w).size = w.toNat := by unfold numB; rw [strB_size, nbL_len]
theorem numB_at {n w : Int} {j : Nat} (h : j < w.toNat) : bAt (numB n w) j = 48 + (n / ((2 ^ (w.toNat - 1 - j) : Nat) : Int)) % 2 := by
  unfold numB
  have hl : j < (nbL n w.toNat).length := by rw [nbL_len]; exact h
  rw [strB_at hl (by have := nbL_bd (at_mem hl); omega), nbL_at h]
/-- The number in the first bits. -/
def rdN (s : ByteArray) : Nat → Int
  | 0 => 0
  | k + 1 => 2 * rdN s k + (bAt s k - 48)
termination_by k => k
theorem rdN_bd {s : ByteArray} : ∀ {k : Nat}, (∀ j, j < k → bAt s j = 48 ∨ bAt s j = 49) → 0 ≤ rdN s k ∧ rdN s k < ((2 ^ k : Nat) : Int)
  | 0, _ => by simp [rdN]
  | k + 1, h => by
    have ih := rdN_bd (k := k) fun j hj => h j (by omega)
    have := h k (by omega)
    rw [rdN, Nat.pow_succ]
    omega
theorem p2 (m : Nat) : 0 < ((2 ^ m : Nat) : Int) := Int.ofNat_lt.2 (Nat.two_pow_pos m)
theorem div_half (n : Int) (m : Nat) : n / ((2 ^ (m + 1) : Nat) : Int) = (n / ((2 ^ m : Nat) : Int)) / 2 := by
  rw [Nat.pow_succ, Int.natCast_mul, Int.ediv_ediv_of_nonneg (Int.le_of_lt (p2 m))]
  rfl
theorem rdN_num {s : ByteArray} {n : Int} {w : Nat} (h : ∀ j, j < w → bAt s j = 48 + (n / ((2 ^ (w - 1 - j) : Nat) : Int)) % 2) (h0 : 0 ≤ n) (h1 : n < ((2 ^ w : Nat) : Int)) : rdN s w = n := by
  have key : ∀ k, k ≤ w → rdN s k = n / ((2 ^ (w - k) : Nat) : Int) := by
    intro k
    induction k with
    | zero => intro _; rw [rdN, Nat.sub_zero, Int.ediv_eq_zero_of_lt h0 h1]
    | succ k ih =>
      intro hk
      rw [rdN, ih (by omega), h k (by omega)]
      have e1 : w - k = (w - 1 - k) + 1 := by omega
      have e2 : w - (k + 1) = w - 1 - k := by omega
      rw [e1, e2, div_half]
      omega
  have := key w (Nat.le_refl _)
  rw [this]; simp
def foldI (n : Int) : Int := if n < 0 then -2 * n - 1 else 2 * n
def unfoldI (u : Int) : Int := if u % 2 = 1 then Int.tdiv (-(u + 1)) 2 else u / 2
theorem unfold_fold (n : Int) : unfoldI (foldI n) = n := by
  unfold unfoldI foldI
  split
  · rename_i h
    rw [if_pos (by omega)]
    have e : -(-2 * n - 1 + 1) = 2 * n := by omega
    rw [e]; exact Int.mul_tdiv_cancel_left _ (by decide)
  · rw [if_neg (by omega)]; omega
theorem fold_bd {n B : Int} (h : -B ≤ n ∧ n ≤ B) : 0 ≤ foldI n ∧ foldI n ≤ 2 * B := by unfold foldI; split <;> omega
/-- q ones. -/
def repB (q : Int) : ByteArray := strB (List.replicate q.toNat 49)
theorem repB_size (q : Int) : (repB q).size = q.toNat := by unfold repB; rw [strB_size]; simp
theorem repB_at {q : Int} {j : Nat} (h : j < q.toNat) : bAt (repB q) j = 49 := by
  unfold repB
  have e : at_ (List.replicate q.toNat (49 : Int)) j = 49 := by simp [at_, List.getElem?_replicate, h]
  rw [strB_at (by simpa using h) (by rw [e]; decide), e]
/-- A number's Rice code. -/
def riceB (n k : Int) : ByteArray :=
  if foldI n / ((2 ^ k.toNat : Nat) : Int) < 20 then repB (foldI n / ((2 ^ k.toNat : Nat) : Int)) ++ ⟨#[48]⟩ ++ numB (foldI n % ((2 ^ k.toNat : Nat) : Int)) k else repB 20 ++ numB (foldI n) 32
def onesF (s : ByteArray) : Nat → Nat → Nat
  | _, 0 => 0
  | p, f + 1 => if p < s.size ∧ bAt s p = 49 then 1 + onesF s (p + 1) f else 0
termination_by _ f => f
theorem onesF_le (s : ByteArray) : ∀ (f p : Nat), onesF s p f ≤ f
  | 0, p => by rw [onesF]; exact Nat.le_refl _
  | f + 1, p => by
    have := onesF_le s f (p + 1)
    unfold onesF; split <;> omega
theorem onesF_eq {s : ByteArray} : ∀ {f q p : Nat}, (∀ j, j < q → p + j < s.size ∧ bAt s (p + j) = 49) → (q < f → p + q < s.size → bAt s (p + q) ≠ 49) → q ≤ f → onesF s p f = q
  | 0, q, p, _, _, hq => by have : q = 0 := by omega
                            subst this; rw [onesF]
  | f + 1, 0, p, _, h2, _ => by
    unfold onesF
    rw [if_neg]
    rintro ⟨a, b⟩
    exact h2 (by omega) (by simpa using a) (by simpa using b)
  | f + 1, q + 1, p, h1, h2, hq => by
    unfold onesF
    have := h1 0 (by omega)
    rw [if_pos (by simpa using this), onesF_eq (f := f) (q := q) (p := p + 1) (fun j hj => by
      have := h1 (j + 1) (by omega)
      rw [show p + 1 + j = p + (j + 1) by omega]; exact this) (fun h3 h4 => by
      have := h2 (by omega) (by omega)
      rw [show p + 1 + q = p + (q + 1) by omega]; exact this) (by omega)]
    omega
def resid (n : Int) : Bool := decide (-1000000000 ≤ n ∧ n ≤ 1000000000)
/-- What is read at p: a number, the place behind it, and a code. -/
def rdRice (s : ByteArray) (p k : Int) : Int × Int × Int :=
  if onesF s p.toNat 20 = 20 then
    (if (s.size : Int) - (p + 20) < 32 then (0, 0, 9) else
      if resid (unfoldI (rdN (s.extract (p + 20).toNat s.size) 32)) = true ∧ ¬ rdN (s.extract (p + 20).toNat s.size) 32 / ((2 ^ k.toNat : Nat) : Int) < 20 then (unfoldI (rdN (s.extract (p + 20).toNat s.size) 32), p + 20 + 32, 0) else (0, 0, 8))
  else if (s.size : Int) - (p + (onesF s p.toNat 20 : Int)) < 1 + k then (0, 0, 9) else
    (unfoldI ((onesF s p.toNat 20 : Int) * ((2 ^ k.toNat : Nat) : Int) + rdN (s.extract (p + (onesF s p.toNat 20 : Int) + 1).toNat s.size) k.toNat), p + (onesF s p.toNat 20 : Int) + 1 + k, 0)
theorem riceB_size {n k : Int} (hn : -1000000000 ≤ n ∧ n ≤ 1000000000) (hk : 0 ≤ k) : ((riceB n k).size : Int) = if foldI n / ((2 ^ k.toNat : Nat) : Int) < 20 then foldI n / ((2 ^ k.toNat : Nat) : Int) + 1 + k else 52 := by
  have hf := fold_bd hn
  have hq : 0 ≤ foldI n / ((2 ^ k.toNat : Nat) : Int) := Int.ediv_nonneg hf.1 (Int.le_of_lt (p2 _))
  have h1 : (⟨#[48]⟩ : ByteArray).size = 1 := rfl
  unfold riceB
  split
  · rw [ByteArray.size_append, ByteArray.size_append, repB_size, numB_size, h1]; omega
  · rw [ByteArray.size_append, repB_size, numB_size]; decide
theorem rice_read {s : ByteArray} {p k n : Int} (hp : 0 ≤ p) (hk : 0 ≤ k) (hn : -1000000000 ≤ n ∧ n ≤ 1000000000) (hs : p + ((riceB n k).size : Int) ≤ (s.size : Int))
    (hb : ∀ j, j < (riceB n k).size → bAt s (p.toNat + j) = bAt (riceB n k) j) : rdRice s p k = (n, p + ((riceB n k).size : Int), 0) := by
  have hf := fold_bd hn
  have hsz := riceB_size hn hk
  have h2k : 0 < ((2 ^ k.toNat : Nat) : Int) := p2 _
  have hq0 : 0 ≤ foldI n / ((2 ^ k.toNat : Nat) : Int) := Int.ediv_nonneg hf.1 (Int.le_of_lt (p2 _))
  have hdm := Int.mul_ediv_add_emod (foldI n) ((2 ^ k.toNat : Nat) : Int)
  have hm0 := Int.emod_nonneg (foldI n) (b := ((2 ^ k.toNat : Nat) : Int)) (Int.ne_of_gt (p2 _))
  have hm1 := Int.emod_lt_of_pos (foldI n) h2k
  have h1 : (⟨#[48]⟩ : ByteArray).size = 1 := rfl
  by_cases hc : foldI n / ((2 ^ k.toNat : Nat) : Int) < 20
  · rw [if_pos hc] at hsz
    have hR : riceB n k = repB (foldI n / ((2 ^ k.toNat : Nat) : Int)) ++ ⟨#[48]⟩ ++ numB (foldI n % ((2 ^ k.toNat : Nat) : Int)) k := if_pos hc
    generalize hq : foldI n / ((2 ^ k.toNat : Nat) : Int) = q at *
    generalize hr : foldI n % ((2 ^ k.toNat : Nat) : Int) = r at *
    have hb1 : ∀ j, j < q.toNat → bAt (riceB n k) j = 49 := fun j hj => by
      rw [hR, bAt_left (by rw [ByteArray.size_append, repB_size]; omega), bAt_left (by rw [repB_size]; exact hj), repB_at hj]
    have hb2 : bAt (riceB n k) q.toNat = 48 := by
      rw [hR, bAt_left (by rw [ByteArray.size_append, repB_size, h1]; omega), bAt_right (by rw [repB_size]; omega), repB_size, Nat.sub_self]; rfl
    have hb3 : ∀ j, j < k.toNat → bAt (riceB n k) (q.toNat + 1 + j) = 48 + (r / ((2 ^ (k.toNat - 1 - j) : Nat) : Int)) % 2 := fun j hj => by
      rw [hR, bAt_right (by rw [ByteArray.size_append, repB_size, h1]; omega), ByteArray.size_append, repB_size, h1, show q.toNat + 1 + j - (q.toNat + 1) = j by omega, numB_at hj]
    have ho : onesF s p.toNat 20 = q.toNat := onesF_eq (fun j hj => ⟨by omega, by rw [hb j (by omega), hb1 j hj]⟩) (fun _ _ => by rw [hb q.toNat (by omega), hb2]; decide) (by omega)
    unfold rdRice
    rw [ho, if_neg (by omega), if_neg (by omega)]
    have hrd : rdN (s.extract (p + (q.toNat : Int) + 1).toNat s.size) k.toNat = r := rdN_num (fun j hj => by
      rw [bAt_ext (by omega), show (p + (q.toNat : Int) + 1).toNat + j = p.toNat + (q.toNat + 1 + j) by omega, hb _ (by omega), hb3 j hj]) hm0 hm1
    rw [hrd]
    have e : (q.toNat : Int) * ((2 ^ k.toNat : Nat) : Int) + r = foldI n := by
      rw [show (q.toNat : Int) = q by omega, Int.mul_comm]; exact hdm
    rw [e, unfold_fold]
    refine Prod.ext rfl (Prod.ext ?_ rfl)
    simp only; omega
  · rw [if_neg hc] at hsz
    have hR : riceB n k = repB 20 ++ numB (foldI n) 32 := if_neg hc
    have hb1 : ∀ j, j < 20 → bAt (riceB n k) j = 49 := fun j hj => by
      rw [hR, bAt_left (by rw [repB_size]; exact hj), repB_at hj]
    have hb3 : ∀ j, j < 32 → bAt (riceB n k) (20 + j) = 48 + (foldI n / ((2 ^ (32 - 1 - j) : Nat) : Int)) % 2 := fun j hj => by
      rw [hR, bAt_right (by rw [repB_size]; show 20 ≤ _; omega), repB_size, show 20 + j - (20 : Int).toNat = j by show 20 + j - 20 = j; omega, numB_at (by exact hj)]; rfl
    have ho : onesF s p.toNat 20 = 20 := onesF_eq (fun j hj => ⟨by omega, by rw [hb j (by omega), hb1 j hj]⟩) (fun h _ => by omega) (by omega)
    unfold rdRice
    rw [ho, if_pos rfl, if_neg (by omega)]
    have hrd : rdN (s.extract (p + 20).toNat s.size) 32 = foldI n := rdN_num (fun j hj => by
      rw [bAt_ext (by omega), show (p + 20).toNat + j = p.toNat + (20 + j) by omega, hb _ (by omega), hb3 j hj]) hf.1 (by show foldI n < 4294967296; omega)
    rw [hrd, unfold_fold, if_pos ⟨by simp [resid]; omega, hc⟩]
    refine Prod.ext rfl (Prod.ext ?_ rfl)
    simp only; omega
theorem rice_end {s : ByteArray} {k : Int} (hk : 0 ≤ k) : rdRice s (s.size : Int) k = (0, 0, 9) := by
  have ho : onesF s (s.size : Int).toNat 20 = 0 := onesF_eq (fun j hj => by omega) (fun _ h => by simp at h) (by omega)
  unfold rdRice
  rw [ho, if_neg (by omega), if_pos (by omega)]
/-- The codes of the first i numbers, one behind the other. -/
def catB (l : List Int) (k : Int) : Nat → ByteArray
  | 0 => ⟨#[]⟩
  | i + 1 => catB l k i ++ riceB (at_ l i - 2000) k
theorem catB_succ {l : List Int} {k i : Int} (h : 0 ≤ i) : catB l k (i + 1).toNat = catB l k i.toNat ++ riceB (at_ l i.toNat - 2000) k := by
  have : (i + 1).toNat = i.toNat + 1 := by omega
  rw [this]; rfl
theorem catB_up {l : List Int} {k : Int} {i : Nat} : ∀ {m : Nat}, i ≤ m → (catB l k i).size ≤ (catB l k m).size ∧ ∀ j, j < (catB l k i).size → bAt (catB l k m) j = bAt (catB l k i) j := by
  intro m hm
  induction m with
  | zero => have : i = 0 := by omega
            subst this; exact ⟨Nat.le_refl _, fun _ _ => rfl⟩
  | succ m ih =>
    by_cases e : i = m + 1
    · subst e; exact ⟨Nat.le_refl _, fun _ _ => rfl⟩
    · obtain ⟨h1, h2⟩ := ih (by omega)
      refine ⟨by rw [catB, ByteArray.size_append]; omega, fun j hj => ?_⟩
      rw [catB, bAt_left (by omega)]; exact h2 j hj
theorem catB_read {l : List Int} {k : Int} {i m : Nat} (hi : i < m) (hk : 0 ≤ k) (hn : -1000000000 ≤ at_ l i - 2000 ∧ at_ l i - 2000 ≤ 1000000000) :
    rdRice (catB l k m) ((catB l k i).size : Int) k = (at_ l i - 2000, ((catB l k (i + 1)).size : Int), 0) := by
  obtain ⟨h1, h2⟩ := catB_up (l := l) (k := k) (show i + 1 ≤ m by omega)
  have hs : (catB l k (i + 1)).size = (catB l k i).size + (riceB (at_ l i - 2000) k).size := by rw [catB, ByteArray.size_append]
  rw [rice_read (n := at_ l i - 2000) (by omega) hk hn (by omega) (fun j hj => ?_)]
  · refine Prod.ext rfl (Prod.ext ?_ rfl)
    simp only; omega
  · rw [show ((catB l k i).size : Int).toNat + j = (catB l k i).size + j by omega, h2 _ (by omega), catB, bAt_right (by omega), show (catB l k i).size + j - (catB l k i).size = j by omega]
def bitB (n : Int) : Bool := decide (n = 48 ∨ n = 49)
theorem riceB_bits {n k : Int} {j : Nat} (h : j < (riceB n k).size) : bAt (riceB n k) j = 48 ∨ bAt (riceB n k) j = 49 := by
  have h1 : (⟨#[48]⟩ : ByteArray).size = 1 := rfl
  have hnum : ∀ {a w : Int} {i : Nat}, i < (numB a w).size → bAt (numB a w) i = 48 ∨ bAt (numB a w) i = 49 := fun {a w i} hi => by
    rw [numB_at (by rw [numB_size] at hi; exact hi)]; omega
  unfold riceB at *
  split at h
  · rename_i hc
    rw [if_pos hc]
    rw [ByteArray.size_append, ByteArray.size_append, h1] at h
    by_cases e : j < (repB (foldI n / ((2 ^ k.toNat : Nat) : Int))).size
    · rw [bAt_left (by rw [ByteArray.size_append]; omega), bAt_left e, repB_at (by rw [repB_size] at e; exact e)]; exact .inr rfl
    · by_cases e2 : j = (repB (foldI n / ((2 ^ k.toNat : Nat) : Int))).size
      · rw [bAt_left (by rw [ByteArray.size_append, h1]; omega), bAt_right (by omega), e2, Nat.sub_self]; exact .inl rfl
      · rw [bAt_right (by rw [ByteArray.size_append, h1]; omega), ByteArray.size_append, h1]; exact hnum (by omega)
  · rename_i hc
    rw [if_neg hc]
    rw [ByteArray.size_append] at h
    by_cases e : j < (repB 20).size
    · rw [bAt_left e, repB_at (by rw [repB_size] at e; exact e)]; exact .inr rfl
    · rw [bAt_right (by omega)]; exact hnum (by omega)
theorem catB_bits {l : List Int} {k : Int} : ∀ {m j : Nat}, j < (catB l k m).size → bAt (catB l k m) j = 48 ∨ bAt (catB l k m) j = 49
  | 0, j, h => by simp [catB, ByteArray.size] at h
  | m + 1, j, h => by
    rw [catB, ByteArray.size_append] at h
    rw [catB]
    by_cases e : j < (catB l k m).size
    · rw [bAt_left e]; exact catB_bits e
    · rw [bAt_right (by omega)]; exact riceB_bits (by omega)
theorem riceB_le {n k : Int} (hn : -8000 ≤ n ∧ n ≤ 8000) (hk : 0 ≤ k ∧ k ≤ 12) : 1 ≤ (riceB n k).size ∧ (riceB n k).size ≤ 52 := by
  have h := riceB_size (n := n) (k := k) (by omega) hk.1
  have hf := fold_bd (n := n) (B := 8000) hn
  have hq : 0 ≤ foldI n / ((2 ^ k.toNat : Nat) : Int) := Int.ediv_nonneg hf.1 (Int.le_of_lt (p2 _))
  split at h <;> omega
theorem catB_size {l : List Int} {k : Int} (hk : 0 ≤ k ∧ k ≤ 12) (hl : ∀ x ∈ l, -6000 ≤ x ∧ x ≤ 10000) : ∀ {m : Nat}, m ≤ l.length → (catB l k m).size ≤ 52 * m
  | 0, _ => Nat.le_refl _
  | m + 1, h => by
    have ih := catB_size hk hl (m := m) (by omega)
    have hx := hl _ (at_mem (xs := l) (i := m) (by omega))
    have := riceB_le (n := at_ l m - 2000) (k := k) (by omega) hk
    rw [catB, ByteArray.size_append]; omega
theorem and_mask {u : Int} {k : Nat} (h0 : 0 ≤ u) (h1 : u < 9223372036854775808) (hk : k ≤ 40) : bitsI .and .i64 u (1 * ((2 ^ k : Nat) : Int) - 1) = u % ((2 ^ k : Nat) : Int) := by
  have hp := p2 k
  have hle : 2 ^ k ≤ 2 ^ 40 := Nat.pow_le_pow_right (by decide) hk
  have hle' : ((2 ^ k : Nat) : Int) ≤ 1099511627776 := Int.ofNat_le.2 hle
  have e1 : (BitVec.ofInt 64 u).toNat = u.toNat := by rw [BitVec.toNat_ofInt]; omega
  have e2 : (BitVec.ofInt 64 (1 * ((2 ^ k : Nat) : Int) - 1)).toNat = 2 ^ k - 1 := by
    rw [BitVec.toNat_ofInt, Int.one_mul, Int.emod_eq_of_lt (by omega) (by show _ < (18446744073709551616 : Int); omega)]
    omega
  have e : bitsI .and .i64 u (1 * ((2 ^ k : Nat) : Int) - 1) = IntKind.i64.wrap (((BitVec.ofInt 64 u &&& BitVec.ofInt 64 (1 * ((2 ^ k : Nat) : Int) - 1)).toNat : Nat) : Int) := rfl
  rw [e, BitVec.toNat_and, e1, e2, Nat.and_two_pow_sub_one_eq_mod]
  have hm : ((u.toNat % 2 ^ k : Nat) : Int) = u % ((2 ^ k : Nat) : Int) := by
    rw [Int.natCast_emod]
    congr 1
    omega
  rw [hm]
  have a1 := Int.emod_nonneg u (b := ((2 ^ k : Nat) : Int)) (by omega)
  have a2 := Int.emod_lt_of_pos u hp
  exact wrap_in (inR_i64 (by omega) (by omega))
theorem and_one {u : Int} (h0 : 0 ≤ u) (h1 : u < 9223372036854775808) : bitsI .and .i64 u 1 = u % 2 := and_mask (k := 1) h0 h1 (by decide)

theorem resid_iff {n : Int} : resid n = true ↔ -1000000000 ≤ n ∧ n ≤ 1000000000 := by simp [resid]
theorem unfold_bd {u : Int} (h : 0 ≤ u ∧ u ≤ 4294967296000) : -4294967296000 ≤ unfoldI u ∧ unfoldI u ≤ 4294967296000 := by
  unfold unfoldI
  split
  · have := tdiv_bd (-(u + 1)) 2
    omega
  · omega
def okBits (s : ByteArray) : Bool := decide ((s.size : Int) ≤ 100000) && allN s.size (fun j => bitB (bAt s j))
theorem okBits_iff {s : ByteArray} : okBits s = true ↔ (s.size : Int) ≤ 100000 ∧ ∀ j, j < s.size → bAt s j = 48 ∨ bAt s j = 49 := by
  simp only [okBits, Bool.and_eq_true, decide_eq_true_eq, allN_iff, bitB]
theorem bits_has (x : UInt8) : (⟨#[48, 49]⟩ : ByteArray).data.toList.contains x = bitB x.toNat := by
  rw [Bool.eq_iff_iff]
  simp only [bitB, decide_eq_true_eq]
  simp
  constructor
  · rintro (h | h) <;> subst h <;> decide
  · intro h
    have h' : x.toNat = 48 ∨ x.toNat = 49 := by omega
    rcases h' with h | h
    · exact .inl (UInt8.toNat_inj.1 h)
    · exact .inr (UInt8.toNat_inj.1 h)
theorem rep_repeat (c : Nat) : (⟨(Lib.repeatL (⟨#[49]⟩ : ByteArray).data.toList c).toArray⟩ : ByteArray) = repB (c : Int) := by
  unfold repB strB
  have : Lib.repeatL [49] c = (List.replicate c (49 : Int)).map fun n => UInt8.ofNat n.toNat := by
    induction c with
    | zero => rfl
    | succ c ih => rw [Lib.repeatL, ih, List.replicate_succ]; rfl
  show (⟨(Lib.repeatL [49] c).toArray⟩ : ByteArray) = _
  rw [this]; simp
def rdRiceR (s : ByteArray) (p k : Int) : Int × Int × Int := if okBits s = true then (if inB k 0 12 = true ∧ inB p 0 (s.size : Int) = true then rdRice s p k else (0, 0, 2)) else (0, 0, 7)
theorem rdRiceR_eq {s : ByteArray} {p k : Int} (h : okBits s = true) (hk : 0 ≤ k ∧ k ≤ 12) (hp : 0 ≤ p ∧ p ≤ (s.size : Int)) : rdRiceR s p k = rdRice s p k := by
  unfold rdRiceR; rw [if_pos h, if_pos ⟨inB_iff.2 hk, inB_iff.2 hp⟩]

theorem bext_size (s : ByteArray) (a b : Nat) : (s.extract a b).size = min b s.size - a := by simp [ByteArray.size_extract]
theorem onesF_step {s : ByteArray} {p f : Nat} (h : p < s.size) (h2 : bAt s p = 49) : onesF s p (f + 1) = 1 + onesF s (p + 1) f := by rw [onesF, if_pos ⟨h, h2⟩]
theorem onesF_stop {s : ByteArray} {p f : Nat} (h : ¬ (p < s.size ∧ bAt s p = 49)) : onesF s p f = 0 := by
  cases f with
  | zero => rw [onesF]
  | succ f => rw [onesF, if_neg h]
theorem bits_ext {s : ByteArray} (h : okBits s = true) {a w : Nat} (haw : a + w ≤ s.size) (j : Nat) (hj : j < w) : bAt (s.extract a s.size) j = 48 ∨ bAt (s.extract a s.size) j = 49 := by
  rw [bAt_ext (by omega)]
  exact (okBits_iff.1 h).2 _ (by omega)
theorem ones_shl {o k : Int} (h : 0 ≤ o ∧ o ≤ 20) (hk : 0 ≤ k ∧ k ≤ 12) : 0 ≤ o * ((2 ^ k.toNat : Nat) : Int) ∧ o * ((2 ^ k.toNat : Nat) : Int) ≤ 81920 := by
  have hp12 : ((2 ^ k.toNat : Nat) : Int) ≤ 4096 := Int.ofNat_le.2 (Nat.pow_le_pow_right (by decide) (by omega : k.toNat ≤ 12))
  have hp := p2 k.toNat
  exact ⟨Int.mul_nonneg h.1 (by omega), Int.le_trans (Int.mul_le_mul h.2 hp12 (by omega) (by omega)) (by decide)⟩
section
variable {s : ByteArray} {p k o : Int}
theorem rd_t (ho : onesF s p.toNat 20 = o.toNat) (h0 : 0 ≤ o ∧ o ≤ 20) (h1 : ¬ o = 20) (h : (s.size : Int) - (p + o) < 1 + k) : rdRice s p k = (0, 0, 9) := by
  unfold rdRice; rw [ho, show (o.toNat : Int) = o by omega, if_neg (by omega), if_pos h]
theorem rd_v (ho : onesF s p.toNat 20 = o.toNat) (h0 : 0 ≤ o ∧ o ≤ 20) (h1 : ¬ o = 20) (h : ¬ (s.size : Int) - (p + o) < 1 + k) : rdRice s p k = (unfoldI (o * ((2 ^ k.toNat : Nat) : Int) + rdN (s.extract (p + o + 1).toNat s.size) k.toNat), p + o + 1 + k, 0) := by
  unfold rdRice; rw [ho, show (o.toNat : Int) = o by omega, if_neg (by omega), if_neg h]
theorem rd_20t (ho : onesF s p.toNat 20 = 20) (h : (s.size : Int) - (p + 20) < 32) : rdRice s p k = (0, 0, 9) := by
  unfold rdRice; rw [ho, if_pos rfl, if_pos h]
theorem rd_20f (ho : onesF s p.toNat 20 = 20) (h : ¬ (s.size : Int) - (p + 20) < 32) (h2 : ¬ (resid (unfoldI (rdN (s.extract (p + 20).toNat s.size) 32)) = true ∧ ¬ rdN (s.extract (p + 20).toNat s.size) 32 / ((2 ^ k.toNat : Nat) : Int) < 20)) : rdRice s p k = (0, 0, 8) := by
  unfold rdRice; rw [ho, if_pos rfl, if_neg h, if_neg h2]
theorem rd_20v (ho : onesF s p.toNat 20 = 20) (h : ¬ (s.size : Int) - (p + 20) < 32) (h2 : resid (unfoldI (rdN (s.extract (p + 20).toNat s.size) 32)) = true) (h3 : ¬ rdN (s.extract (p + 20).toNat s.size) 32 / ((2 ^ k.toNat : Nat) : Int) < 20) : rdRice s p k = (unfoldI (rdN (s.extract (p + 20).toNat s.size) 32), p + 20 + 32, 0) := by
  unfold rdRice; rw [ho, if_pos rfl, if_neg h, if_pos ⟨h2, h3⟩]
end
def riceR (n k : Int) : ByteArray × Int := if resid n = true ∧ inB k 0 12 = true then (riceB n k, 0) else (⟨#[]⟩, 2)
theorem riceR_eq {n k : Int} (h : -1000000000 ≤ n ∧ n ≤ 1000000000) (hk : 0 ≤ k ∧ k ≤ 12) : riceR n k = (riceB n k, 0) := if_pos ⟨resid_iff.2 h, inB_iff.2 hk⟩

-- spec.A2Numbers
theorem A2Numbers_ok (code : List Int) (hc : (∀ j, j < code.length → 0 ≤ at_ code j ∧ at_ code j ≤ 255) ∧ code.length ≤ 4611686018427387904) : ∃ (v : List Int), (v.length ≤ 20) ∧ (∀ x ∈ v, -6000 ≤ x ∧ x ≤ 10000) ∧ Con Tryd.prog 25 [slU8 false code] true (slI true v) := by
  have hh : ∃ r : (List Int), ((r.length ≤ 20) ∧ (∀ x ∈ r, -6000 ≤ x ∧ x ≤ 10000) ∧ (True)) ∧ CallOK Tryd.prog 25 [slU8 false code] (lookO []) true (slI true r) (lookO []) := by
    refine fn_okX (Φ := fun r : (List Int) => (r.length ≤ 20) ∧ (∀ x ∈ r, -6000 ≤ x ∧ x ≤ 10000) ∧ (True)) [] (fun r => []) (fn := Tryd.f25) (nt := 28) Tryd.func25 rfl rfl (args := [slU8 false code]) rfl (allcons (.inl ⟨rfl, tagU8 false _⟩) allnil) (res := fun r => slI true r) ?_
    refine x_seq ?_
    refine x_reg [] [0] [] [slU8 false code] [] [] (by kernel_rfl) trivial ?_
    refine xe_then ?_
    refine x_seq ?_
    obtain ⟨s'_1, hx1_0, hc1⟩ := l00From_ok code
    have hsrc : okSrc s'_1 := ⟨by rw [hx1_0.1]; exact hc.1, by rw [hx1_0.2]; decide, by rw [hx1_0.1]; exact hc.2⟩
    have hat0 := hx1_0.2
    refine x_reg [(1, .lend [] [(7001, .box [slU8 false s'_1.code, I s'_1.atx, .val (.int .u64 s'_1.seed)])] [(true, slU8 false code)] false (.ref 7001 0))] [3] [7001] [.ref 7001 0] [some (.box [slU8 false s'_1.code, I s'_1.atx, .val (.int .u64 s'_1.seed)])] [CallOK Tryd.prog 35 [slU8 false code] (lookO []) false (.ref 7001 0) (lookO [(7001, .box [slU8 false s'_1.code, I s'_1.atx, .val (.int .u64 s'_1.seed)])]) ∧ ((slU8 false code : AV) = slU8 false code) ∧ True] (by kernel_rfl) ⟨⟨hc1, rfl, trivial⟩, trivial⟩ ?_
    refine xe_then ?_
    refine x_seq ?_
    refine x_reg [(0, .new 9)] [3, 4] [9, 7001] [.ref 7001 0, .arr 9] [some (.arr 1 0 (litF [] 1)), some (.box [slU8 false s'_1.code, I s'_1.atx, .val (.int .u64 s'_1.seed)])] [] (by kernel_rfl) trivial ?_
    refine xe_then ?_
    refine x_seq ?_
    obtain ⟨v_2, s'_2, hx2_0, hx2_1, hx2_2, hx2_3, hc2⟩ := pick_ok s'_1 4000 (by first | assumption | (simp only [okSrc] at *; simp_all; done)) (by omega)
    refine x_reg [(1, .lend [(7001, .box [slU8 false s'_1.code, I s'_1.atx, .val (.int .u64 s'_1.seed)], .box [slU8 false s'_2.code, I s'_2.atx, .val (.int .u64 s'_2.seed)])] [] [(true, .ref 7001 0), (true, I 4000)] true (I v_2))] [3, 4, 5] [9, 7001] [.ref 7001 0, .arr 9, I v_2] [some (.arr 1 0 (litF [] 1)), some (.box [slU8 false s'_2.code, I s'_2.atx, .val (.int .u64 s'_2.seed)])] [CallOK Tryd.prog 38 [.ref 7001 0, I 4000] (lookO [(7001, .box [slU8 false s'_1.code, I s'_1.atx, .val (.int .u64 s'_1.seed)])]) true (I v_2) (lookO [(7001, .box [slU8 false s'_2.code, I s'_2.atx, .val (.int .u64 s'_2.seed)])]) ∧ ((.ref 7001 0 : AV) = .ref 7001 0) ∧ ((I 4000 : AV) = I 4000) ∧ (((.box [slU8 false s'_1.code, I s'_1.atx, .val (.int .u64 s'_1.seed)] : Ob) = .box [slU8 false s'_1.code, I s'_1.atx, .val (.int .u64 s'_1.seed)] ∨ obLe noOb true (.box [slU8 false s'_1.code, I s'_1.atx, .val (.int .u64 s'_1.seed)]) (.box [slU8 false s'_1.code, I s'_1.atx, .val (.int .u64 s'_1.seed)])) ∧ taggedO false (.box [slU8 false s'_1.code, I s'_1.atx, .val (.int .u64 s'_1.seed)])) ∧ True] (by kernel_rfl) ⟨⟨hc2, rfl, rfl, ⟨.inl rfl, (by simp [taggedO, taggedL, tagged, tagU8])⟩, trivial⟩, trivial⟩ ?_
    refine xe_then ?_
    refine x_seq ?_
    refine x_seq ?_
    obtain ⟨v_3, s'_3, hx3_0, hx3_1, hx3_2, hx3_3, hc3⟩ := pick_ok s'_2 20 (by first | assumption | (simp only [okSrc] at *; simp_all; done)) (by omega)
    refine x_reg [(1, .lend [(7001, .box [slU8 false s'_2.code, I s'_2.atx, .val (.int .u64 s'_2.seed)], .box [slU8 false s'_3.code, I s'_3.atx, .val (.int .u64 s'_3.seed)])] [] [(true, .ref 7001 0), (true, I 20)] true (I v_3))] [3, 4, 5, 6] [9, 7001] [.ref 7001 0, .arr 9, I v_2, I v_3] [some (.arr 1 0 (litF [] 1)), some (.box [slU8 false s'_3.code, I s'_3.atx, .val (.int .u64 s'_3.seed)])] [CallOK Tryd.prog 38 [.ref 7001 0, I 20] (lookO [(7001, .box [slU8 false s'_2.code, I s'_2.atx, .val (.int .u64 s'_2.seed)])]) true (I v_3) (lookO [(7001, .box [slU8 false s'_3.code, I s'_3.atx, .val (.int .u64 s'_3.seed)])]) ∧ ((.ref 7001 0 : AV) = .ref 7001 0) ∧ ((I 20 : AV) = I 20) ∧ (((.box [slU8 false s'_2.code, I s'_2.atx, .val (.int .u64 s'_2.seed)] : Ob) = .box [slU8 false s'_2.code, I s'_2.atx, .val (.int .u64 s'_2.seed)] ∨ obLe noOb true (.box [slU8 false s'_2.code, I s'_2.atx, .val (.int .u64 s'_2.seed)]) (.box [slU8 false s'_2.code, I s'_2.atx, .val (.int .u64 s'_2.seed)])) ∧ taggedO false (.box [slU8 false s'_2.code, I s'_2.atx, .val (.int .u64 s'_2.seed)])) ∧ True] (by kernel_rfl) ⟨⟨hc3, rfl, rfl, ⟨.inl rfl, (by simp [taggedO, taggedL, tagged, tagU8])⟩, trivial⟩, trivial⟩ ?_
    refine xe_then ?_
    refine x_block ?_
    refine x_weak [] (T := [(3, .ref 7001 0), (4, .arr 9), (5, I v_2), (6, I v_3)]) (O := [(9, .arr 1 (([] : List Int).length) (fI ([] : List Int))), (7001, .box [slU8 false s'_3.code, I s'_3.atx, .val (.int .u64 s'_3.seed)])]) rfl (⟨.inl rfl, .inl rfl, .inl rfl, .inl rfl, trivial⟩) (⟨.inr ⟨rfl, (by first | rfl | (simp; done) | (simp; omega) | omega), fun i hi => absurd hi (Nat.not_lt_zero _)⟩, .inl rfl, trivial⟩) ?_
    refine x_loop (X := (List Int) × Int × Int × l00Src) (fun x => mkS [(3, .ref 7001 0), (4, .arr 9), (5, I x.2.1), (6, I x.2.2.1)] [(9, .arr 1 x.1.length (fI x.1)), (7001, .box [slU8 false x.2.2.2.code, I x.2.2.2.atx, .val (.int .u64 x.2.2.2.seed)])]) (fun x => (okSrc x.2.2.2 ∧ x.2.2.2.atx ≤ 100 + 3 * (20 - x.2.2.1)) ∧ (0 ≤ x.2.2.1 ∧ x.2.2.1 ≤ 20) ∧ (x.1.length + x.2.2.1 ≤ 20) ∧ (-100 * (20 - x.2.2.1) ≤ x.2.1 ∧ x.2.1 ≤ 4000 + 100 * (20 - x.2.2.1)) ∧ (∀ z ∈ x.1, -6000 ≤ z ∧ z ≤ 10000) ∧ True) (fun x => x.2.2.1.toNat) (([] : List Int), v_2, v_3, s'_3) rfl (show (okSrc s'_3 ∧ s'_3.atx ≤ 100 + 3 * (20 - v_3)) ∧ (0 ≤ v_3 ∧ v_3 ≤ 20) ∧ (([] : List Int).length + v_3 ≤ 20) ∧ (-100 * (20 - v_3) ≤ v_2 ∧ v_2 ≤ 4000 + 100 * (20 - v_3)) ∧ (∀ z ∈ ([] : List Int), -6000 ≤ z ∧ z ≤ 10000) ∧ True from ⟨(by first | assumption | (constructor <;> first | assumption | omega)), (by omega), (by simp; omega), (by omega), (by simp), trivial⟩) (fun x hI => ?_)
    obtain ⟨out, a_, k, src⟩ := x
    obtain ⟨hs0, hk0, hl0, ha0, hx0, _⟩ : (okSrc src ∧ src.atx ≤ 100 + 3 * (20 - k)) ∧ (0 ≤ k ∧ k ≤ 20) ∧ (out.length + k ≤ 20) ∧ (-100 * (20 - k) ≤ a_ ∧ a_ ≤ 4000 + 100 * (20 - k)) ∧ (∀ z ∈ out, -6000 ≤ z ∧ z ≤ 10000) ∧ True := hI
    show XW _ _ _ _ (mkS [(3, .ref 7001 0), (4, .arr 9), (5, I a_), (6, I k)] [(9, .arr 1 out.length (fI out)), (7001, .box [slU8 false src.code, I src.atx, .val (.int .u64 src.seed)])]) _ _
    refine x_seq ?_
    refine x_seq ?_
    by_cases h1 : 0 < k
    · refine x_reg [(1, .dec true)] [3, 4, 5, 6, 15] [9, 7001] [.ref 7001 0, .arr 9, I a_, I k, Bv true] [some (.arr 1 out.length (fI out)), some (.box [slU8 false src.code, I src.atx, .val (.int .u64 src.seed)])] [0 < k] (by kernel_rfl) ⟨h1, trivial⟩ ?_
      refine xe_then ?_
      refine x_true rfl ?_
      refine x_skip ?_
      refine xe_then ?_
      refine x_seq ?_
      refine x_block ?_
      refine x_seq ?_
      refine x_reg [(2, .new 20), (3, .new 21)] [3, 4, 5, 6] [21, 7001] [.ref 7001 0, .arr 21, I a_, I k] [some (.arr 1 (out.length + 1) (catF out.length (fI out) (litF [I a_] 1))), some (.box [slU8 false src.code, I src.atx, .val (.int .u64 src.seed)])] [(out.length + 1) * 8 ≤ 140737488355328] (by kernel_rfl) ⟨(by omega), trivial⟩ ?_
      refine xe_then ?_
      obtain ⟨v_4, s'_4, hx4_0, hx4_1, hx4_2, hx4_3, hc4⟩ := pick_ok src 201 (by first | assumption | (simp only [okSrc] at *; simp_all; done)) (by omega)
      refine x_reg [(2, .lend [(7001, .box [slU8 false src.code, I src.atx, .val (.int .u64 src.seed)], .box [slU8 false s'_4.code, I s'_4.atx, .val (.int .u64 s'_4.seed)])] [] [(true, .ref 7001 0), (true, I 201)] true (I v_4))] [3, 4, 5, 6] [21, 7001] [.ref 7001 0, .arr 21, I (a_ + (v_4 - 100)), I k] [some (.arr 1 (out.length + 1) (catF out.length (fI out) (litF [I a_] 1))), some (.box [slU8 false s'_4.code, I s'_4.atx, .val (.int .u64 s'_4.seed)])] [CallOK Tryd.prog 38 [.ref 7001 0, I 201] (lookO [(7001, .box [slU8 false src.code, I src.atx, .val (.int .u64 src.seed)])]) true (I v_4) (lookO [(7001, .box [slU8 false s'_4.code, I s'_4.atx, .val (.int .u64 s'_4.seed)])]) ∧ ((.ref 7001 0 : AV) = .ref 7001 0) ∧ ((I 201 : AV) = I 201) ∧ (((.box [slU8 false src.code, I src.atx, .val (.int .u64 src.seed)] : Ob) = .box [slU8 false src.code, I src.atx, .val (.int .u64 src.seed)] ∨ obLe noOb true (.box [slU8 false src.code, I src.atx, .val (.int .u64 src.seed)]) (.box [slU8 false src.code, I src.atx, .val (.int .u64 src.seed)])) ∧ taggedO false (.box [slU8 false src.code, I src.atx, .val (.int .u64 src.seed)])) ∧ True, inR .i64 (v_4 - 100), inR .i64 (a_ + (v_4 - 100))] (by kernel_rfl) ⟨⟨hc4, rfl, rfl, ⟨.inl rfl, (by simp [taggedO, taggedL, tagged, tagU8])⟩, trivial⟩, (inR_i64 (by omega) (by omega)), (inR_i64 (by omega) (by omega)), trivial⟩ ?_
      refine xe_block 1 ?_
      refine xe_then ?_
      refine x_reg [] [3, 4, 5, 6] [21, 7001] [.ref 7001 0, .arr 21, I (a_ + (v_4 - 100)), I (k - 1)] [some (.arr 1 (out.length + 1) (catF out.length (fI out) (litF [I a_] 1))), some (.box [slU8 false s'_4.code, I s'_4.atx, .val (.int .u64 s'_4.seed)])] [inR .i64 (k - 1)] (by kernel_rfl) ⟨(inR_i64 (by omega) (by omega)), trivial⟩ ?_
      refine xe_weak [(9, 21)] (T := [(3, .ref 7001 0), (4, .arr 9), (5, I (a_ + (v_4 - 100))), (6, I (k - 1))]) (O := [(9, .arr 1 ((out ++ [a_]).length) (fI (out ++ [a_]))), (7001, .box [slU8 false s'_4.code, I s'_4.atx, .val (.int .u64 s'_4.seed)])]) rfl (⟨.inl rfl, .inl rfl, .inl rfl, .inl rfl, trivial⟩) (⟨.inr ⟨rfl, (by first | rfl | (simp; done) | (simp; omega) | omega), fun i hi => .inl (cat_snoc (enc := cI) (xs := out) rfl i hi)⟩, .inl rfl, trivial⟩) (xe_again ((out ++ [a_]), (a_ + (v_4 - 100)), (k - 1), s'_4) rfl (show (okSrc s'_4 ∧ s'_4.atx ≤ 100 + 3 * (20 - (k - 1))) ∧ (0 ≤ (k - 1) ∧ (k - 1) ≤ 20) ∧ ((out ++ [a_]).length + (k - 1) ≤ 20) ∧ (-100 * (20 - (k - 1)) ≤ (a_ + (v_4 - 100)) ∧ (a_ + (v_4 - 100)) ≤ 4000 + 100 * (20 - (k - 1))) ∧ (∀ z ∈ (out ++ [a_]), -6000 ≤ z ∧ z ≤ 10000) ∧ True from ⟨(by constructor <;> first | assumption | omega), (by omega), (by simp; omega), (by omega), (by intro x hx; rcases List.mem_append.1 hx with hx | hx; (exact hx0 x hx); (simp at hx; omega)), trivial⟩) (by show ((k - 1).toNat : Nat) < k.toNat; omega))
    · refine x_reg [(1, .dec false)] [3, 4, 5, 6, 15] [9, 7001] [.ref 7001 0, .arr 9, I a_, I k, Bv false] [some (.arr 1 out.length (fI out)), some (.box [slU8 false src.code, I src.atx, .val (.int .u64 src.seed)])] [¬ (0 < k)] (by kernel_rfl) ⟨h1, trivial⟩ ?_
      refine xe_then ?_
      refine x_false rfl ?_
      refine x_exit ?_
      refine xe_exit_then ?_
      refine xe_loop_exit ?_
      refine xe_exit_same ?_
      refine xe_then ?_
      refine x_seq ?_
      refine x_reg [] [2] [9] [.arr 9] [some (.arr 1 out.length (fI out))] [] (by kernel_rfl) trivial ?_
      refine xe_then ?_
      refine x_ret ?_
      refine xe_end out (show (out.length ≤ 20) ∧ (∀ x ∈ out, -6000 ≤ x ∧ x ≤ 10000) ∧ (True) from ⟨(by first | omega | assumption), (by first | omega | assumption), trivial⟩) (trivial) (.arr 9) (by kernel_rfl) (.inr ⟨(fun _ => rfl), rfl, rfl, fun i _ => .inl rfl⟩) (fun _ => rfl) (fun _ => (tagI true _))
  obtain ⟨v, ⟨hh0, hh1, _⟩, hc⟩ := hh
  exact ⟨v, hh0, hh1, hc⟩


def a2AtI (code : List Int) (i n : Int) : Int := if (code.length : Int) ≤ i ∨ n < 1 then 0 else at_ code i.toNat % n
theorem a2At_bd (code : List Int) (i : Int) {n : Int} (hn : 1 ≤ n) : 0 ≤ a2AtI code i n ∧ a2AtI code i n < n := by
  unfold a2AtI
  split
  · omega
  · exact ⟨Int.emod_nonneg _ (by omega), Int.emod_lt_of_pos _ (by omega)⟩

-- laws.a2At
theorem a2At_ok (code : List Int) (i : Int) (n : Int) (hc : (∀ j, j < code.length → 0 ≤ at_ code j ∧ at_ code j ≤ 255)) (ha : 0 ≤ i) : Con Tryd.prog 26 [slU8 false code, I i, I n] true (I (a2AtI code i n)) := by
  refine fn_ok (fn := Tryd.f26) (nt := 22) Tryd.func26 rfl rfl rfl rfl (by simp [taggedL, tagged, tagU8]) fun B hB => ?_
  refine aw_lens (x := slU8 false code) 0 rfl (fun len_code => ?_)
  simp [LenOK, LenL, cU8, fU8, slU8] at len_code
  refine aw_seq ?_
  refine aw_reg [] [0, 1, 2] [] [slU8 false code, I i, I n] [] [] (by kernel_rfl) hB trivial ?_
  refine ae_then ?_
  refine aw_seq ?_
  refine aw_seq ?_
  by_cases h1 : (code.length : Int) ≤ i
  · refine aw_reg [(3, .dec true)] [0, 1, 2, 14] [] [slU8 false code, I i, I n, Bv true] [] [(code.length : Int) ≤ i] (by kernel_rfl) hB ⟨h1, trivial⟩ ?_
    refine ae_then ?_
    refine aw_true rfl ?_
    refine aw_seq ?_
    refine aw_reg [] [6] [] [I 0] [] [] (by kernel_rfl) hB trivial ?_
    refine ae_then ?_
    refine aw_ret ?_
    refine ae_ret_then ?_
    refine ae_ret hB (I 0) (by kernel_rfl) (.inl (by simp [a2AtI, *])) rfl (fun _ => trivial)
  · have hq := hc i.toNat (by omega)
    by_cases h2 : n < 1
    · refine aw_reg [(3, .dec false), (6, .dec true)] [0, 1, 2, 14] [] [slU8 false code, I i, I n, Bv true] [] [¬ ((code.length : Int) ≤ i), n < 1] (by kernel_rfl) hB ⟨h1, h2, trivial⟩ ?_
      refine ae_then ?_
      refine aw_true rfl ?_
      refine aw_seq ?_
      refine aw_reg [] [6] [] [I 0] [] [] (by kernel_rfl) hB trivial ?_
      refine ae_then ?_
      refine aw_ret ?_
      refine ae_ret_then ?_
      refine ae_ret hB (I 0) (by kernel_rfl) (.inl (by simp [a2AtI, *])) rfl (fun _ => trivial)
    · refine aw_reg [(3, .dec false), (6, .dec false)] [0, 1, 2, 14] [] [slU8 false code, I i, I n, Bv false] [] [¬ ((code.length : Int) ≤ i), ¬ (n < 1)] (by kernel_rfl) hB ⟨h1, h2, trivial⟩ ?_
      refine ae_then ?_
      refine aw_false rfl ?_
      refine aw_skip ?_
      refine ae_then ?_
      refine aw_seq ?_
      refine aw_reg [(6, .nn)] [6] [] [I ((at_ code i.toNat) % n)] [] [(0 : Int) ≤ i ∧ i < (code.length : Int), inR .i64 (at_ code i.toNat), (0 : Int) ≤ (at_ code i.toNat) ∧ (0 : Int) < n] (by kernel_rfl) hB ⟨⟨(by omega), (by omega)⟩, (inR_i64 (by omega) (by omega)), ⟨(by omega), (by omega)⟩, trivial⟩ ?_
      refine ae_then ?_
      refine aw_ret ?_
      refine ae_ret hB (I ((at_ code i.toNat) % n)) (by kernel_rfl) (.inl (by simp [a2AtI, *])) rfl (fun _ => trivial)


-- impl.within
theorem within_ok (n : Int) (low : Int) (high : Int) : Con Tryd.prog 41 [I n, I low, I high] true (Bv (inB n low high)) := by
  refine fn_ok (fn := Tryd.f41) (nt := 15) Tryd.func41 rfl rfl rfl rfl (by simp [taggedL, tagged]) fun B hB => ?_
  refine aw_seq ?_
  refine aw_reg [] [0, 1, 2] [] [I n, I low, I high] [] [] (by kernel_rfl) hB trivial ?_
  refine ae_then ?_
  refine aw_seq ?_
  by_cases h1 : low ≤ n
  · refine aw_reg [(2, .dec true)] [6] [] [Bv (decide (n ≤ high))] [] [low ≤ n] (by kernel_rfl) hB ⟨h1, trivial⟩ ?_
    refine ae_then ?_
    refine aw_ret ?_
    refine ae_ret hB (Bv (decide (n ≤ high))) (by kernel_rfl) (.inl (by first | rfl | (refine congrArg Bv ?_; simp [inB, *]; done) | (refine congrArg Bv ?_; simp [inB, *]; omega) | (refine congrArg Bv ?_; simp_all [inB]; done) | (refine congrArg Bv ?_; simp_all [inB]; omega))) rfl (fun _ => trivial)
  · refine aw_reg [(2, .dec false)] [6] [] [Bv false] [] [¬ (low ≤ n)] (by kernel_rfl) hB ⟨h1, trivial⟩ ?_
    refine ae_then ?_
    refine aw_ret ?_
    refine ae_ret hB (Bv false) (by kernel_rfl) (.inl (by first | rfl | (refine congrArg Bv ?_; simp [inB, *]; done) | (refine congrArg Bv ?_; simp [inB, *]; omega) | (refine congrArg Bv ?_; simp_all [inB]; done) | (refine congrArg Bv ?_; simp_all [inB]; omega))) rfl (fun _ => trivial)


-- impl.isResidual
theorem isResidual_ok (n : Int) : Con Tryd.prog 48 [I n] true (Bv (resid n)) := by
  refine fn_ok (fn := Tryd.f48) (nt := 5) Tryd.func48 rfl rfl rfl rfl (by simp [taggedL, tagged]) fun B hB => ?_
  refine aw_seq ?_
  refine aw_reg [] [0] [] [I n] [] [] (by kernel_rfl) hB trivial ?_
  refine ae_then ?_
  refine aw_seq ?_
  refine aw_reg [(1, .call [(true, I n), (true, I (-1000000000)), (true, I 1000000000)] true (Bv (inB n (-1000000000) 1000000000)))] [2] [] [Bv (inB n (-1000000000) 1000000000)] [] [Con Tryd.prog 41 [I n, I (-1000000000), I 1000000000] true (Bv (inB n (-1000000000) 1000000000)) ∧ ((I n : AV) = I n) ∧ ((I (-1000000000) : AV) = I (-1000000000)) ∧ ((I 1000000000 : AV) = I 1000000000) ∧ True] (by kernel_rfl) hB ⟨⟨(within_ok n (-1000000000) 1000000000), rfl, rfl, rfl, trivial⟩, trivial⟩ ?_
  refine ae_then ?_
  refine aw_ret ?_
  refine ae_ret hB (Bv (inB n (-1000000000) 1000000000)) (by kernel_rfl) (.inl (by refine congrArg Bv ?_; simp [resid, inB])) rfl (fun _ => trivial)


-- impl.foldedOf
theorem foldedOf_ok (n : Int) (hn : -1000000000 ≤ n ∧ n ≤ 1000000000) : Con Tryd.prog 59 [I n] true (I (foldI n)) := by
  refine fn_ok (fn := Tryd.f59) (nt := 10) Tryd.func59 rfl rfl rfl rfl (by simp [taggedL, tagged]) fun B hB => ?_
  refine aw_seq ?_
  refine aw_reg [] [0] [] [I n] [] [] (by kernel_rfl) hB trivial ?_
  refine ae_then ?_
  refine aw_seq ?_
  refine aw_seq ?_
  by_cases h1 : n < 0
  · refine aw_reg [(1, .dec true)] [0, 4] [] [I n, Bv true] [] [n < 0] (by kernel_rfl) hB ⟨h1, trivial⟩ ?_
    refine ae_then ?_
    refine aw_true rfl ?_
    refine aw_seq ?_
    refine aw_reg [] [2] [] [I (((-2) * n) - 1)] [] [inR .i64 ((-2) * n), inR .i64 (((-2) * n) - 1)] (by kernel_rfl) hB ⟨(inR_i64 (by omega) (by omega)), (inR_i64 (by omega) (by omega)), trivial⟩ ?_
    refine ae_then ?_
    refine aw_ret ?_
    refine ae_ret_then ?_
    refine ae_ret hB (I (((-2) * n) - 1)) (by kernel_rfl) (.inl (by refine congrArg I ?_; unfold foldI; split <;> omega)) rfl (fun _ => trivial)
  · refine aw_reg [(1, .dec false)] [0, 4] [] [I n, Bv false] [] [¬ (n < 0)] (by kernel_rfl) hB ⟨h1, trivial⟩ ?_
    refine ae_then ?_
    refine aw_false rfl ?_
    refine aw_skip ?_
    refine ae_then ?_
    refine aw_seq ?_
    refine aw_reg [] [2] [] [I (2 * n)] [] [inR .i64 (2 * n)] (by kernel_rfl) hB ⟨(inR_i64 (by omega) (by omega)), trivial⟩ ?_
    refine ae_then ?_
    refine aw_ret ?_
    refine ae_ret hB (I (2 * n)) (by kernel_rfl) (.inl (by refine congrArg I ?_; unfold foldI; split <;> omega)) rfl (fun _ => trivial)


-- strings.Repeat
theorem repeat1_ok (s : ByteArray) (q : Int) (hs : s = ⟨#[49]⟩) (hq : 0 ≤ q ∧ q ≤ 100000) : Con Tryd.prog 60 [Sv s, I q] true (Sv (repB q)) := by
  subst hs
  obtain ⟨c, rfl⟩ : ∃ c : Nat, q = c := ⟨q.toNat, by omega⟩
  refine con_of_calls (vals := [.string ⟨#[49]⟩, .int .i64 c]) fun w _ => ?_
  by_cases h0 : c = 0
  · subst h0
    refine (Tryd.strings_Repeat_zero ⟨#[49]⟩ w).mono ?_
    rintro e w' ⟨rfl, rfl⟩
    exact ⟨rfl, Below.refl _ _⟩
  by_cases h1 : c = 1
  · subst h1
    refine (Tryd.strings_Repeat_one ⟨#[49]⟩ w).mono ?_
    rintro e w' ⟨rfl, rfl⟩
    exact ⟨rfl, Below.refl _ _⟩
  refine (Tryd.strings_Repeat_main ⟨#[49]⟩ c w (by omega) (by omega) (by show 1 * c ≤ _; omega) (by decide)).mono ?_
  rintro e w' ⟨rfl, hb⟩
  exact ⟨by rw [rep_repeat], hb⟩


-- impl.numberBits
theorem numberBits_ok (n : Int) (width : Int) (hn : 0 ≤ n ∧ n ≤ 1099511627776) (hw : 0 ≤ width ∧ width ≤ 40) : Con Tryd.prog 61 [I n, I width] true (Sv (numB n width)) := by
  refine fn_ok (fn := Tryd.f61) (nt := 29) Tryd.func61 rfl rfl rfl rfl (by simp [taggedL, tagged]) fun B hB => ?_
  refine aw_seq ?_
  refine aw_reg [] [0, 1] [] [I n, I width] [] [] (by kernel_rfl) hB trivial ?_
  refine ae_then ?_
  refine aw_seq ?_
  refine aw_reg [(1, .new 8)] [0, 1, 5] [8] [I n, I width, .arr 8] [some (.arr 1 width.toNat (fun _ => [.val (.int .u8 0)]))] [(0 : Int) ≤ width ∧ (width : Int) ≤ width ∧ (1 : Int) * width ≤ 281474976710656 ∧ width ≤ 9223372036854775807] (by kernel_rfl) hB ⟨⟨(by omega), (by omega), (by omega), (by omega)⟩, trivial⟩ ?_
  refine ae_then ?_
  refine aw_seq ?_
  refine aw_seq ?_
  refine aw_reg [] [0, 1, 5, 10, 11] [8] [I n, I width, .arr 8, I (width.toNat : Int), I 0] [some (.arr 1 width.toNat (fun _ => [.val (.int .u8 0)]))] [] (by kernel_rfl) hB trivial ?_
  refine ae_then ?_
  refine aw_block ?_
  refine aw_weak hB [] (T := [(0, I n), (1, I width), (5, .arr 8), (10, I (width.toNat : Int)), (11, I 0)]) (O := [(8, .arr 1 ((List.replicate width.toNat 0).length) (fU8 (List.replicate width.toNat 0)))]) rfl (⟨.inl rfl, .inl rfl, .inl rfl, .inl rfl, .inl rfl, trivial⟩) (⟨.inr ⟨rfl, (by first | rfl | (simp; done) | (simp; omega) | omega), fun i hi => .inl (const_enc (enc := cU8) rfl i hi)⟩, trivial⟩) ?_
  refine aw_loop (fun gn gσ => ∃ (t11 : Int) (ys : List Int), gn = (width - t11).toNat ∧ (0 ≤ t11 ∧ t11 ≤ width) ∧ (ys.length = width.toNat) ∧ (∀ j : Nat, (j : Int) < t11 → at_ ys j = at_ (nbL n width.toNat) j) ∧ gσ = mkS [(0, I n), (1, I width), (5, .arr 8), (10, I (width.toNat : Int)), (11, I t11)] [(8, .arr 1 ys.length (fU8 ys))]) ((width - 0).toNat) ⟨0, (List.replicate width.toNat 0), rfl, (by omega), (by simp), (by intro j hj; omega), rfl⟩ (fun gn gσ hI => ?_)
  obtain ⟨t11, ys, rfl, hi0, hy0, hy1, rfl⟩ := hI
  refine aw_seq ?_
  by_cases h1 : t11 < (width.toNat : Int)
  · have hi : t11.toNat < ys.length := by omega
    have hdv := quo_bd (n := n) (r := ((2 ^ ((width - 1) - t11).toNat : Nat) : Int)) hn.1 (p2 _)
    have hbi := and_one (u := n / ((2 ^ ((width - 1) - t11).toNat : Nat) : Int)) hdv.1 (by omega)
    have hv : 48 + bitsI .and .i64 (n / ((2 ^ ((width - 1) - t11).toNat : Nat) : Int)) 1 = at_ (nbL n width.toNat) t11.toNat := by rw [nbL_at (by omega), hbi, show ((width - 1) - t11).toNat = width.toNat - 1 - t11.toNat by omega]
    refine aw_reg [(0, .dec true)] [0, 1, 5, 10, 11, 12] [8] [I n, I width, .arr 8, I (width.toNat : Int), I t11, Bv true] [some (.arr 1 ys.length (fU8 ys))] [t11 < (width.toNat : Int)] (by kernel_rfl) hB ⟨h1, trivial⟩ ?_
    refine ae_then ?_
    refine aw_seq ?_
    refine aw_true rfl ?_
    refine aw_skip ?_
    refine ae_then ?_
    refine aw_seq ?_
    refine aw_block ?_
    refine aw_seq ?_
    refine aw_reg [] [0, 1, 5, 6, 10, 11] [8] [I n, I width, .arr 8, I t11, I (width.toNat : Int), I t11] [some (.arr 1 ys.length (fU8 ys))] [] (by kernel_rfl) hB trivial ?_
    refine ae_then ?_
    refine aw_reg [] [0, 1, 5, 10, 11] [8] [I n, I width, .arr 8, I (width.toNat : Int), I t11] [some (.arr 1 ys.length (fun q => bif Nat.beq q t11.toNat then [.val (.int .u8 (48 + (bitsI .and .i64 (n / ((2 ^ ((width - 1) - t11).toNat : Nat) : Int)) 1)))] else (fU8 ys) q))] [inR .i64 (width - 1), inR .i64 ((width - 1) - t11), (0 : Int) ≤ ((width - 1) - t11) ∧ ((width - 1) - t11) ≤ ((IntKind.bits .i64 : Nat) : Int), inR .i64 (48 + (bitsI .and .i64 (n / ((2 ^ ((width - 1) - t11).toNat : Nat) : Int)) 1)), inR .u8 (48 + (bitsI .and .i64 (n / ((2 ^ ((width - 1) - t11).toNat : Nat) : Int)) 1)), (0 : Int) ≤ t11 ∧ t11 < (ys.length : Int), t11.toNat < ys.length] (by kernel_rfl) hB ⟨(inR_i64 (by omega) (by omega)), (inR_i64 (by omega) (by omega)), ⟨(by omega), (show ((width - 1) - t11) ≤ (64 : Int) from by omega)⟩, (inR_i64 (by omega) (by omega)), (inR_u8 (by omega) (by omega)), ⟨(by omega), (by omega)⟩, (by omega), trivial⟩ ?_
    refine ae_block 1 ?_
    refine ae_then ?_
    refine aw_reg [] [0, 1, 5, 10, 11] [8] [I n, I width, .arr 8, I (width.toNat : Int), I (t11 + 1)] [some (.arr 1 ys.length (fun q => bif Nat.beq q t11.toNat then [.val (.int .u8 (48 + (bitsI .and .i64 (n / ((2 ^ ((width - 1) - t11).toNat : Nat) : Int)) 1)))] else (fU8 ys) q))] [inR .i64 (t11 + 1)] (by kernel_rfl) hB ⟨(inR_i64 (by omega) (by omega)), trivial⟩ ?_
    refine ae_weak hB [] (T := [(0, I n), (1, I width), (5, .arr 8), (10, I (width.toNat : Int)), (11, I (t11 + 1))]) (O := [(8, .arr 1 ((ys.set t11.toNat (48 + (bitsI .and .i64 (n / ((2 ^ ((width - 1) - t11).toNat : Nat) : Int)) 1))).length) (fU8 (ys.set t11.toNat (48 + (bitsI .and .i64 (n / ((2 ^ ((width - 1) - t11).toNat : Nat) : Int)) 1)))))]) rfl (⟨.inl rfl, .inl rfl, .inl rfl, .inl rfl, .inl rfl, trivial⟩) (⟨.inr ⟨rfl, (by first | rfl | (simp; done) | (simp; omega) | omega), fun i hi => .inl (upd_enc (enc := cU8) rfl i hi)⟩, trivial⟩) (ae_again _ (by omega) ⟨(t11 + 1), (ys.set t11.toNat (48 + (bitsI .and .i64 (n / ((2 ^ ((width - 1) - t11).toNat : Nat) : Int)) 1))), rfl, (by omega), (by simp [hy0]), (by intro j hj; rw [hv]; exact set_at (by rw [hy0, nbL_len]) (by rw [nbL_len]; omega) hy1 j (by omega)), rfl⟩)
  · obtain rfl : ys = nbL n width.toNat := ext_at (by rw [hy0, nbL_len]) (fun j hj => hy1 j (by omega))
    refine aw_reg [(0, .dec false)] [0, 1, 5, 10, 11, 12] [8] [I n, I width, .arr 8, I (width.toNat : Int), I t11, Bv false] [some (.arr 1 ((nbL n width.toNat).length) (fU8 (nbL n width.toNat)))] [¬ (t11 < (width.toNat : Int))] (by kernel_rfl) hB ⟨h1, trivial⟩ ?_
    refine ae_then ?_
    refine aw_seq ?_
    refine aw_false rfl ?_
    refine aw_exit ?_
    refine ae_exit_then ?_
    refine ae_exit_then ?_
    refine ae_exit_same ?_
    refine ae_then ?_
    refine aw_seq ?_
    refine aw_reg [(1, .as (Sv (strB (nbL n width.toNat))))] [4] [] [Sv (strB (nbL n width.toNat))] [] [(strB (nbL n width.toNat)).size = (nbL n width.toNat).length ∧ ∀ i, i < (nbL n width.toNat).length → (fU8 (nbL n width.toNat)) i = byteF (strB (nbL n width.toNat)) i] (by kernel_rfl) hB ⟨(strB_ok (fun x hx => by have := nbL_bd hx; omega)), trivial⟩ ?_
    refine ae_then ?_
    refine aw_ret ?_
    refine ae_ret hB (Sv (strB (nbL n width.toNat))) (by kernel_rfl) (.inl (by first | rfl | (refine congrArg Bv ?_; simp [*]; done) | (refine congrArg Bv ?_; simp [*]; omega) | (refine congrArg Bv ?_; simp_all []; done) | (refine congrArg Bv ?_; simp_all []; omega))) rfl (fun _ => trivial)


-- impl.riceBits
theorem riceBits_ok (n : Int) (k : Int) (hn : -1000000000 ≤ n ∧ n ≤ 1000000000) (hk : 0 ≤ k ∧ k ≤ 12) : Con Tryd.prog 49 [I n, I k] true (Sv (riceB n k)) := by
  have hf := fold_bd hn
  have hdv := quo_bd (n := foldI n) (r := ((2 ^ k.toNat : Nat) : Int)) hf.1 (p2 _)
  have hmk := and_mask (u := foldI n) (k := k.toNat) hf.1 (by omega) (by omega)
  have hp := p2 k.toNat
  have hp12 : ((2 ^ k.toNat : Nat) : Int) ≤ 4096 := Int.ofNat_le.2 (Nat.pow_le_pow_right (by decide) (by omega : k.toNat ≤ 12))
  have hm1 := Int.emod_nonneg (foldI n) (b := ((2 ^ k.toNat : Nat) : Int)) (by omega)
  have hm2 := Int.emod_lt_of_pos (foldI n) hp
  refine fn_ok (fn := Tryd.f49) (nt := 29) Tryd.func49 rfl rfl rfl rfl (by simp [taggedL, tagged]) fun B hB => ?_
  refine aw_seq ?_
  refine aw_reg [] [0, 1] [] [I n, I k] [] [] (by kernel_rfl) hB trivial ?_
  refine ae_then ?_
  refine aw_seq ?_
  refine aw_reg [(1, .call [(true, I n)] true (I (foldI n)))] [1, 5] [] [I k, I (foldI n)] [] [Con Tryd.prog 59 [I n] true (I (foldI n)) ∧ ((I n : AV) = I n) ∧ True] (by kernel_rfl) hB ⟨⟨(foldedOf_ok n (by omega)), rfl, trivial⟩, trivial⟩ ?_
  refine ae_then ?_
  refine aw_seq ?_
  refine aw_seq ?_
  refine aw_reg [] [1, 5, 6] [] [I k, I (foldI n), I ((foldI n) / ((2 ^ k.toNat : Nat) : Int))] [] [(0 : Int) ≤ k ∧ k ≤ ((IntKind.bits .i64 : Nat) : Int)] (by kernel_rfl) hB ⟨⟨(by omega), (show k ≤ (64 : Int) from by omega)⟩, trivial⟩ ?_
  refine ae_then ?_
  refine aw_seq ?_
  by_cases h1 : ((foldI n) / ((2 ^ k.toNat : Nat) : Int)) < 20
  · refine aw_reg [(1, .dec true)] [1, 5, 6, 13] [] [I k, I (foldI n), I ((foldI n) / ((2 ^ k.toNat : Nat) : Int)), Bv true] [] [((foldI n) / ((2 ^ k.toNat : Nat) : Int)) < 20] (by kernel_rfl) hB ⟨h1, trivial⟩ ?_
    refine ae_then ?_
    refine aw_true rfl ?_
    refine aw_seq ?_
    refine aw_reg [(1, .call [(true, Sv (⟨#[49]⟩ : ByteArray)), (true, I ((foldI n) / ((2 ^ k.toNat : Nat) : Int)))] true (Sv (repB ((foldI n) / ((2 ^ k.toNat : Nat) : Int))))), (9, .call [(true, I (bitsI .and .i64 (foldI n) ((1 * ((2 ^ k.toNat : Nat) : Int)) - 1))), (true, I k)] true (Sv (numB (bitsI .and .i64 (foldI n) ((1 * ((2 ^ k.toNat : Nat) : Int)) - 1)) k)))] [4] [] [Sv (((repB ((foldI n) / ((2 ^ k.toNat : Nat) : Int))) ++ (⟨#[48]⟩ : ByteArray)) ++ (numB (bitsI .and .i64 (foldI n) ((1 * ((2 ^ k.toNat : Nat) : Int)) - 1)) k))] [] [Con Tryd.prog 60 [Sv (⟨#[49]⟩ : ByteArray), I ((foldI n) / ((2 ^ k.toNat : Nat) : Int))] true (Sv (repB ((foldI n) / ((2 ^ k.toNat : Nat) : Int)))) ∧ ((Sv (⟨#[49]⟩ : ByteArray) : AV) = Sv (⟨#[49]⟩ : ByteArray)) ∧ ((I ((foldI n) / ((2 ^ k.toNat : Nat) : Int)) : AV) = I ((foldI n) / ((2 ^ k.toNat : Nat) : Int))) ∧ True, (repB ((foldI n) / ((2 ^ k.toNat : Nat) : Int))).size + (⟨#[48]⟩ : ByteArray).size ≤ 9223372036854775807, (0 : Int) ≤ k ∧ k ≤ ((IntKind.bits .i64 : Nat) : Int) ∧ inR .i64 (1 * ((2 ^ k.toNat : Nat) : Int)), inR .i64 ((1 * ((2 ^ k.toNat : Nat) : Int)) - 1), Con Tryd.prog 61 [I (bitsI .and .i64 (foldI n) ((1 * ((2 ^ k.toNat : Nat) : Int)) - 1)), I k] true (Sv (numB (bitsI .and .i64 (foldI n) ((1 * ((2 ^ k.toNat : Nat) : Int)) - 1)) k)) ∧ ((I (bitsI .and .i64 (foldI n) ((1 * ((2 ^ k.toNat : Nat) : Int)) - 1)) : AV) = I (bitsI .and .i64 (foldI n) ((1 * ((2 ^ k.toNat : Nat) : Int)) - 1))) ∧ ((I k : AV) = I k) ∧ True, ((repB ((foldI n) / ((2 ^ k.toNat : Nat) : Int))) ++ (⟨#[48]⟩ : ByteArray)).size + (numB (bitsI .and .i64 (foldI n) ((1 * ((2 ^ k.toNat : Nat) : Int)) - 1)) k).size ≤ 9223372036854775807] (by kernel_rfl) hB ⟨⟨(repeat1_ok (⟨#[49]⟩ : ByteArray) ((foldI n) / ((2 ^ k.toNat : Nat) : Int)) rfl (by omega)), rfl, rfl, trivial⟩, (by (try simp only [ByteArray.size_append]); have h1 := repB_size (foldI n / ((2 ^ k.toNat : Nat) : Int)); have h2 : (⟨#[48]⟩ : ByteArray).size = 1 := rfl; have h3 := numB_size (foldI n % ((2 ^ k.toNat : Nat) : Int)) k; have h4 := repB_size 20; have h5 := numB_size (foldI n) 32; have h6 := numB_size (bitsI .and .i64 (foldI n) (1 * ((2 ^ k.toNat : Nat) : Int) - 1)) k; omega), ⟨(by omega), (show k ≤ (64 : Int) from by omega), (inR_i64 (by omega) (by omega))⟩, (inR_i64 (by omega) (by omega)), ⟨(numberBits_ok (bitsI .and .i64 (foldI n) ((1 * ((2 ^ k.toNat : Nat) : Int)) - 1)) k (by omega) (by omega)), rfl, rfl, trivial⟩, (by (try simp only [ByteArray.size_append]); have h1 := repB_size (foldI n / ((2 ^ k.toNat : Nat) : Int)); have h2 : (⟨#[48]⟩ : ByteArray).size = 1 := rfl; have h3 := numB_size (foldI n % ((2 ^ k.toNat : Nat) : Int)) k; have h4 := repB_size 20; have h5 := numB_size (foldI n) 32; have h6 := numB_size (bitsI .and .i64 (foldI n) (1 * ((2 ^ k.toNat : Nat) : Int) - 1)) k; omega), trivial⟩ ?_
    refine ae_then ?_
    refine aw_ret ?_
    refine ae_ret_then ?_
    refine ae_ret hB (Sv (((repB ((foldI n) / ((2 ^ k.toNat : Nat) : Int))) ++ (⟨#[48]⟩ : ByteArray)) ++ (numB (bitsI .and .i64 (foldI n) ((1 * ((2 ^ k.toNat : Nat) : Int)) - 1)) k))) (by kernel_rfl) (.inl (by refine congrArg Sv ?_; unfold riceB; first | (rw [if_pos (by assumption), hmk]; done) | (rw [if_neg (by assumption)]; done))) rfl (fun _ => trivial)
  · refine aw_reg [(1, .dec false)] [1, 5, 6, 13] [] [I k, I (foldI n), I ((foldI n) / ((2 ^ k.toNat : Nat) : Int)), Bv false] [] [¬ (((foldI n) / ((2 ^ k.toNat : Nat) : Int)) < 20)] (by kernel_rfl) hB ⟨h1, trivial⟩ ?_
    refine ae_then ?_
    refine aw_false rfl ?_
    refine aw_skip ?_
    refine ae_then ?_
    refine aw_seq ?_
    refine aw_reg [(0, .call [(true, Sv (⟨#[49]⟩ : ByteArray)), (true, I 20)] true (Sv (repB 20))), (2, .call [(true, I (foldI n)), (true, I 32)] true (Sv (numB (foldI n) 32)))] [4] [] [Sv ((repB 20) ++ (numB (foldI n) 32))] [] [Con Tryd.prog 60 [Sv (⟨#[49]⟩ : ByteArray), I 20] true (Sv (repB 20)) ∧ ((Sv (⟨#[49]⟩ : ByteArray) : AV) = Sv (⟨#[49]⟩ : ByteArray)) ∧ ((I 20 : AV) = I 20) ∧ True, Con Tryd.prog 61 [I (foldI n), I 32] true (Sv (numB (foldI n) 32)) ∧ ((I (foldI n) : AV) = I (foldI n)) ∧ ((I 32 : AV) = I 32) ∧ True, (repB 20).size + (numB (foldI n) 32).size ≤ 9223372036854775807] (by kernel_rfl) hB ⟨⟨(repeat1_ok (⟨#[49]⟩ : ByteArray) 20 rfl (by omega)), rfl, rfl, trivial⟩, ⟨(numberBits_ok (foldI n) 32 (by omega) (by omega)), rfl, rfl, trivial⟩, (by (try simp only [ByteArray.size_append]); have h1 := repB_size (foldI n / ((2 ^ k.toNat : Nat) : Int)); have h2 : (⟨#[48]⟩ : ByteArray).size = 1 := rfl; have h3 := numB_size (foldI n % ((2 ^ k.toNat : Nat) : Int)) k; have h4 := repB_size 20; have h5 := numB_size (foldI n) 32; have h6 := numB_size (bitsI .and .i64 (foldI n) (1 * ((2 ^ k.toNat : Nat) : Int) - 1)) k; omega), trivial⟩ ?_
    refine ae_then ?_
    refine aw_ret ?_
    refine ae_ret hB (Sv ((repB 20) ++ (numB (foldI n) 32))) (by kernel_rfl) (.inl (by refine congrArg Sv ?_; unfold riceB; first | (rw [if_pos (by assumption), hmk]; done) | (rw [if_neg (by assumption)]; done))) rfl (fun _ => trivial)


-- impl.RiceBits
theorem RiceBits_ok (n : Int) (k : Int) : Con Tryd.prog 27 [I n, I k] true (.tup [Sv ((riceR n k).1), I ((riceR n k).2)]) := by
  refine fn_ok (fn := Tryd.f27) (nt := 17) Tryd.func27 rfl rfl rfl rfl (by simp [taggedL, tagged]) fun B hB => ?_
  refine aw_seq ?_
  refine aw_reg [] [0, 1] [] [I n, I k] [] [] (by kernel_rfl) hB trivial ?_
  refine ae_then ?_
  refine aw_seq ?_
  refine aw_seq ?_
  rcases Bool.eq_false_or_eq_true (resid n) with h1 | h1
  · have hrn := resid_iff.1 h1
    rcases Bool.eq_false_or_eq_true (inB k 0 12) with h2 | h2
    · have hinh2 := inB_iff.1 h2
      refine aw_reg [(1, .call [(true, I n)] true (Bv true)), (5, .call [(true, I k), (true, I 0), (true, I 12)] true (Bv true))] [0, 1, 13] [] [I n, I k, Bv false] [] [Con Tryd.prog 48 [I n] true (Bv true) ∧ ((I n : AV) = I n) ∧ True, Con Tryd.prog 41 [I k, I 0, I 12] true (Bv true) ∧ ((I k : AV) = I k) ∧ ((I 0 : AV) = I 0) ∧ ((I 12 : AV) = I 12) ∧ True] (by kernel_rfl) hB ⟨⟨(con_bool h1 (isResidual_ok n)), rfl, trivial⟩, ⟨(con_bool h2 (within_ok k 0 12)), rfl, rfl, rfl, trivial⟩, trivial⟩ ?_
      refine ae_then ?_
      refine aw_false rfl ?_
      refine aw_skip ?_
      refine ae_then ?_
      refine aw_seq ?_
      refine aw_reg [(2, .call [(true, I n), (true, I k)] true (Sv (riceB n k)))] [4, 5] [] [Sv (riceB n k), I 0] [] [Con Tryd.prog 49 [I n, I k] true (Sv (riceB n k)) ∧ ((I n : AV) = I n) ∧ ((I k : AV) = I k) ∧ True] (by kernel_rfl) hB ⟨⟨(riceBits_ok n k (by omega) (by omega)), rfl, rfl, trivial⟩, trivial⟩ ?_
      refine ae_then ?_
      refine aw_ret ?_
      refine ae_ret hB (.tup [Sv (riceB n k), I 0]) (by kernel_rfl) (.inl (by simp [riceR, *])) rfl (fun _ => (by simp [tagged, taggedL]))
    · have hinh2 := (not_congr inB_iff).1 (Bool.eq_false_iff.1 h2)
      refine aw_reg [(1, .call [(true, I n)] true (Bv true)), (5, .call [(true, I k), (true, I 0), (true, I 12)] true (Bv false))] [0, 1, 13] [] [I n, I k, Bv true] [] [Con Tryd.prog 48 [I n] true (Bv true) ∧ ((I n : AV) = I n) ∧ True, Con Tryd.prog 41 [I k, I 0, I 12] true (Bv false) ∧ ((I k : AV) = I k) ∧ ((I 0 : AV) = I 0) ∧ ((I 12 : AV) = I 12) ∧ True] (by kernel_rfl) hB ⟨⟨(con_bool h1 (isResidual_ok n)), rfl, trivial⟩, ⟨(con_bool h2 (within_ok k 0 12)), rfl, rfl, rfl, trivial⟩, trivial⟩ ?_
      refine ae_then ?_
      refine aw_true rfl ?_
      refine aw_seq ?_
      refine aw_reg [] [4, 5] [] [Sv (⟨#[]⟩ : ByteArray), I 2] [] [] (by kernel_rfl) hB trivial ?_
      refine ae_then ?_
      refine aw_ret ?_
      refine ae_ret_then ?_
      refine ae_ret hB (.tup [Sv (⟨#[]⟩ : ByteArray), I 2]) (by kernel_rfl) (.inl (by simp [riceR, *])) rfl (fun _ => (by simp [tagged, taggedL]))
  · refine aw_reg [(1, .call [(true, I n)] true (Bv false))] [0, 1, 13] [] [I n, I k, Bv true] [] [Con Tryd.prog 48 [I n] true (Bv false) ∧ ((I n : AV) = I n) ∧ True] (by kernel_rfl) hB ⟨⟨(con_bool h1 (isResidual_ok n)), rfl, trivial⟩, trivial⟩ ?_
    refine ae_then ?_
    refine aw_true rfl ?_
    refine aw_seq ?_
    refine aw_reg [] [4, 5] [] [Sv (⟨#[]⟩ : ByteArray), I 2] [] [] (by kernel_rfl) hB trivial ?_
    refine ae_then ?_
    refine aw_ret ?_
    refine ae_ret_then ?_
    refine ae_ret hB (.tup [Sv (⟨#[]⟩ : ByteArray), I 2]) (by kernel_rfl) (.inl (by simp [riceR, *])) rfl (fun _ => (by simp [tagged, taggedL]))


-- strings.Trim
theorem trim_ok (s t : ByteArray) (hs : s.size ≤ 9223372036854775807) (hcs : t.size < 4294967281) (ha : t.data.toList.all (fun b => decide (b.toNat < 128)) = true) : Con Tryd.prog 62 [Sv s, Sv t] true (Sv (trimB s t)) := by
  refine con_of_calls (vals := [.string s, .string t]) fun w _ => ?_
  refine (Any.strings_Trim_laid Tryd.lays160 (by kernel_rfl) s t w hs hcs (ascii_of_all ha)).mono ?_
  rintro e w' ⟨rfl, hb⟩
  exact ⟨rfl, hb⟩


-- impl.areBits
theorem areBits_ok (bits : ByteArray) (ok : bits.size ≤ 9223372036854775807) : Con Tryd.prog 50 [Sv bits] true (Bv (okBits bits)) := by
  refine fn_ok (fn := Tryd.f50) (nt := 11) Tryd.func50 rfl rfl rfl rfl (by simp [taggedL, tagged]) fun B hB => ?_
  refine aw_seq ?_
  refine aw_reg [] [0] [] [Sv bits] [] [] (by kernel_rfl) hB trivial ?_
  refine ae_then ?_
  refine aw_seq ?_
  by_cases h1 : (bits.size : Int) ≤ 100000
  · refine aw_reg [(2, .dec true), (5, .call [(true, Sv bits), (true, Sv (⟨#[48, 49]⟩ : ByteArray))] true (Sv (trimB bits (⟨#[48, 49]⟩ : ByteArray))))] [2] [] [Bv (decide ((trimB bits (⟨#[48, 49]⟩ : ByteArray)) = (⟨#[]⟩ : ByteArray)))] [] [(bits.size : Int) ≤ 100000, Con Tryd.prog 62 [Sv bits, Sv (⟨#[48, 49]⟩ : ByteArray)] true (Sv (trimB bits (⟨#[48, 49]⟩ : ByteArray))) ∧ ((Sv bits : AV) = Sv bits) ∧ ((Sv (⟨#[48, 49]⟩ : ByteArray) : AV) = Sv (⟨#[48, 49]⟩ : ByteArray)) ∧ True] (by kernel_rfl) hB ⟨h1, ⟨(trim_ok bits (⟨#[48, 49]⟩ : ByteArray) ok (by decide) (by decide)), rfl, rfl, trivial⟩, trivial⟩ ?_
    refine ae_then ?_
    refine aw_ret ?_
    refine ae_ret hB (Bv (decide ((trimB bits (⟨#[48, 49]⟩ : ByteArray)) = (⟨#[]⟩ : ByteArray)))) (by kernel_rfl) (.inl (by refine congrArg Bv ?_; have ht := trim_all bits_has bits; rw [Bool.eq_iff_iff]; simp [okBits, ht, *]; try omega)) rfl (fun _ => trivial)
  · refine aw_reg [(2, .dec false)] [2] [] [Bv false] [] [¬ ((bits.size : Int) ≤ 100000)] (by kernel_rfl) hB ⟨h1, trivial⟩ ?_
    refine ae_then ?_
    refine aw_ret ?_
    refine ae_ret hB (Bv false) (by kernel_rfl) (.inl (by refine congrArg Bv ?_; have ht := trim_all bits_has bits; rw [Bool.eq_iff_iff]; simp [okBits, ht, *]; try omega)) rfl (fun _ => trivial)


-- impl.readNumber
theorem readNumber_ok (bits : ByteArray) (width : Int) (hb : ∀ j, j < width.toNat → bAt bits j = 48 ∨ bAt bits j = 49) (hw : 0 ≤ width ∧ width ≤ 40 ∧ width ≤ (bits.size : Int)) (ok : bits.size ≤ 9223372036854775807) : Con Tryd.prog 63 [Sv bits, I width] true (I (rdN bits width.toNat)) := by
  refine fn_ok (fn := Tryd.f63) (nt := 21) Tryd.func63 rfl rfl rfl rfl (by simp [taggedL, tagged]) fun B hB => ?_
  refine aw_seq ?_
  refine aw_reg [] [0, 1] [] [Sv bits, I width] [] [] (by kernel_rfl) hB trivial ?_
  refine ae_then ?_
  refine aw_seq ?_
  refine aw_reg [] [0, 1, 5] [] [Sv bits, I width, I 0] [] [] (by kernel_rfl) hB trivial ?_
  refine ae_then ?_
  refine aw_seq ?_
  refine aw_seq ?_
  refine aw_reg [] [0, 1, 5, 6] [] [Sv bits, I width, I 0, I 0] [] [] (by kernel_rfl) hB trivial ?_
  refine ae_then ?_
  refine aw_block ?_
  refine aw_loop (fun gn gσ => ∃ (n : Int) (k : Int), gn = (width - k).toNat ∧ (0 ≤ k ∧ k ≤ width) ∧ (n = rdN bits k.toNat) ∧ (0 ≤ n ∧ n < ((2 ^ k.toNat : Nat) : Int)) ∧ gσ = mkS [(0, Sv bits), (1, I width), (5, I n), (6, I k)] []) ((width - 0).toNat) ⟨0, 0, rfl, (by omega), (by rw [show ((0 : Int)).toNat = 0 from rfl, rdN]), (by simp), rfl⟩ (fun gn gσ hI => ?_)
  obtain ⟨n, k, rfl, hi0, hn1, hn2, rfl⟩ := hI
  refine aw_seq ?_
  refine aw_seq ?_
  by_cases h1 : k < width
  · have hbk := hb k.toNat (by omega)
    have he : (k + 1).toNat = k.toNat + 1 := by omega
    have hp40 : 2 ^ k.toNat ≤ 2 ^ 40 := Nat.pow_le_pow_right (by decide) (by omega)
    have hp41 : ((2 ^ k.toNat : Nat) : Int) ≤ 1099511627776 := Int.ofNat_le.2 hp40
    refine aw_reg [(2, .dec true)] [0, 1, 5, 6, 9] [] [Sv bits, I width, I n, I k, Bv true] [] [k < width] (by kernel_rfl) hB ⟨h1, trivial⟩ ?_
    refine ae_then ?_
    refine aw_true rfl ?_
    refine aw_skip ?_
    refine ae_then ?_
    refine aw_seq ?_
    refine aw_block ?_
    refine aw_reg [] [0, 1, 5, 6] [] [Sv bits, I width, I ((2 * n) + ((bAt bits k.toNat) - 48)), I k] [] [inR .i64 (2 * n), (0 : Int) ≤ k ∧ k < (bits.size : Int), inR .u8 ((bAt bits k.toNat) - 48), inR .i64 ((bAt bits k.toNat) - 48), inR .i64 ((2 * n) + ((bAt bits k.toNat) - 48))] (by kernel_rfl) hB ⟨(inR_i64 (by omega) (by omega)), ⟨(by omega), (by omega)⟩, (inR_u8 (by omega) (by omega)), (inR_i64 (by omega) (by omega)), (inR_i64 (by omega) (by omega)), trivial⟩ ?_
    refine ae_block 1 ?_
    refine ae_then ?_
    refine aw_reg [] [0, 1, 5, 6] [] [Sv bits, I width, I ((2 * n) + ((bAt bits k.toNat) - 48)), I (k + 1)] [] [inR .i64 (k + 1)] (by kernel_rfl) hB ⟨(inR_i64 (by omega) (by omega)), trivial⟩ ?_
    exact ae_again _ (by omega) ⟨((2 * n) + ((bAt bits k.toNat) - 48)), (k + 1), rfl, (by omega), (by rw [he, rdN, ← hn1]), (by rw [he, Nat.pow_succ]; omega), rfl⟩
  · have hie : k.toNat = width.toNat := by omega
    refine aw_reg [(2, .dec false)] [0, 1, 5, 6, 9] [] [Sv bits, I width, I n, I k, Bv false] [] [¬ (k < width)] (by kernel_rfl) hB ⟨h1, trivial⟩ ?_
    refine ae_then ?_
    refine aw_false rfl ?_
    refine aw_exit ?_
    refine ae_exit_then ?_
    refine ae_exit_then ?_
    refine ae_exit_same ?_
    refine ae_then ?_
    refine aw_seq ?_
    refine aw_reg [] [4] [] [I n] [] [] (by kernel_rfl) hB trivial ?_
    refine ae_then ?_
    refine aw_ret ?_
    refine ae_ret hB (I n) (by kernel_rfl) (.inl (by rw [hn1, hie])) rfl (fun _ => trivial)


-- impl.unfolded
theorem unfolded_ok (u : Int) (hu : 0 ≤ u ∧ u ≤ 4294967296000) : Con Tryd.prog 64 [I u] true (I (unfoldI u)) := by
  have htb := tdiv_bd (-(u + 1)) 2
  refine fn_ok (fn := Tryd.f64) (nt := 12) Tryd.func64 rfl rfl rfl rfl (by simp [taggedL, tagged]) fun B hB => ?_
  refine aw_seq ?_
  refine aw_reg [] [0] [] [I u] [] [] (by kernel_rfl) hB trivial ?_
  refine ae_then ?_
  refine aw_seq ?_
  refine aw_seq ?_
  by_cases h1 : (u % 2) = 1
  · refine aw_reg [(1, .nn), (2, .dec true)] [0, 5] [] [I u, Bv true] [] [(0 : Int) ≤ u ∧ (0 : Int) < 2, (u % 2) = 1] (by kernel_rfl) hB ⟨⟨(by omega), (by omega)⟩, h1, trivial⟩ ?_
    refine ae_then ?_
    refine aw_true rfl ?_
    refine aw_seq ?_
    refine aw_reg [] [2] [] [I (Int.tdiv (-(u + 1)) 2)] [] [inR .i64 (u + 1), inR .i64 (-(u + 1)), (2 : Int) ≠ 0 ∧ inR .i64 (Int.tdiv (-(u + 1)) 2)] (by kernel_rfl) hB ⟨(inR_i64 (by omega) (by omega)), (inR_i64 (by omega) (by omega)), ⟨by omega, (inR_i64 (by omega) (by omega))⟩, trivial⟩ ?_
    refine ae_then ?_
    refine aw_ret ?_
    refine ae_ret_then ?_
    refine ae_ret hB (I (Int.tdiv (-(u + 1)) 2)) (by kernel_rfl) (.inl (by simp [unfoldI, *])) rfl (fun _ => trivial)
  · refine aw_reg [(1, .nn), (2, .dec false)] [0, 5] [] [I u, Bv false] [] [(0 : Int) ≤ u ∧ (0 : Int) < 2, ¬ ((u % 2) = 1)] (by kernel_rfl) hB ⟨⟨(by omega), (by omega)⟩, h1, trivial⟩ ?_
    refine ae_then ?_
    refine aw_false rfl ?_
    refine aw_skip ?_
    refine ae_then ?_
    refine aw_seq ?_
    refine aw_reg [(1, .nn)] [2] [] [I (u / 2)] [] [(0 : Int) ≤ u ∧ (0 : Int) < 2 ∧ inR .i64 u] (by kernel_rfl) hB ⟨⟨(by omega), (by omega), (inR_i64 (by omega) (by omega))⟩, trivial⟩ ?_
    refine ae_then ?_
    refine aw_ret ?_
    refine ae_ret hB (I (u / 2)) (by kernel_rfl) (.inl (by simp [unfoldI, *])) rfl (fun _ => trivial)


-- impl.readRice
set_option maxHeartbeats 2000000 in
theorem readRice_ok (bits : ByteArray) (p : Int) (k : Int) (ok : okBits bits = true) (hp : 0 ≤ p ∧ p ≤ (bits.size : Int)) (hk : 0 ≤ k ∧ k ≤ 12) : Con Tryd.prog 51 [Sv bits, I p, I k] true (.tup [I ((rdRice bits p k).1), I ((rdRice bits p k).2.1), I ((rdRice bits p k).2.2)]) := by
  have hsz := (okBits_iff.1 ok).1
  refine fn_ok (fn := Tryd.f51) (nt := 78) Tryd.func51 rfl rfl rfl rfl (by simp [taggedL, tagged]) fun B hB => ?_
  refine aw_seq ?_
  refine aw_reg [] [0, 1, 2] [] [Sv bits, I p, I k] [] [] (by kernel_rfl) hB trivial ?_
  refine ae_then ?_
  refine aw_seq ?_
  refine aw_reg [] [0, 1, 2, 9] [] [Sv bits, I p, I k, I (bits.size : Int)] [] [] (by kernel_rfl) hB trivial ?_
  refine ae_then ?_
  refine aw_seq ?_
  refine aw_reg [] [0, 1, 2, 9, 10] [] [Sv bits, I p, I k, I (bits.size : Int), I 0] [] [] (by kernel_rfl) hB trivial ?_
  refine ae_then ?_
  refine aw_seq ?_
  refine aw_block ?_
  refine aw_loop (fun gn gσ => ∃ (p_ : Int) (ones : Int), gn = ((20 : Int) - ones).toNat ∧ (0 ≤ ones ∧ ones ≤ 20) ∧ (p_ = p + ones) ∧ (p_ ≤ (bits.size : Int)) ∧ (onesF bits p.toNat 20 = (ones : Int).toNat + onesF bits p_.toNat (20 - (ones : Int).toNat)) ∧ gσ = mkS [(0, Sv bits), (1, I p_), (2, I k), (9, I (bits.size : Int)), (10, I ones)] []) (((20 : Int) - 0).toNat) ⟨p, 0, rfl, (by omega), (by omega), (by omega), (by simp), rfl⟩ (fun gn gσ hI => ?_)
  obtain ⟨p_, ones, rfl, hon, hp_, hps, ho0, rfl⟩ := hI
  refine aw_seq ?_
  refine aw_seq ?_
  by_cases h1 : p_ < (bits.size : Int)
  · have hi : p_.toNat < bits.size := by omega
    by_cases h2 : (bAt bits p_.toNat) = 49
    · by_cases h3 : ones < 20
      · have hst := onesF_step (s := bits) (p := p_.toNat) (f := 20 - ones.toNat - 1) hi h2
        rw [show 20 - ones.toNat - 1 + 1 = 20 - ones.toNat from by omega] at hst
        refine aw_reg [(2, .dec true), (7, .dec true), (11, .dec true)] [0, 1, 2, 9, 10, 27] [] [Sv bits, I p_, I k, I (bits.size : Int), I ones, Bv true] [] [p_ < (bits.size : Int), (0 : Int) ≤ p_ ∧ p_ < (bits.size : Int), (bAt bits p_.toNat) = 49, ones < 20] (by kernel_rfl) hB ⟨h1, ⟨(by omega), (by omega)⟩, h2, h3, trivial⟩ ?_
        refine ae_then ?_
        refine aw_true rfl ?_
        refine aw_skip ?_
        refine ae_then ?_
        refine aw_block ?_
        refine aw_seq ?_
        refine aw_reg [] [0, 1, 2, 9, 10] [] [Sv bits, I (p_ + 1), I k, I (bits.size : Int), I ones] [] [inR .i64 (p_ + 1)] (by kernel_rfl) hB ⟨(inR_i64 (by omega) (by omega)), trivial⟩ ?_
        refine ae_then ?_
        refine aw_reg [] [0, 1, 2, 9, 10] [] [Sv bits, I (p_ + 1), I k, I (bits.size : Int), I (ones + 1)] [] [inR .i64 (ones + 1)] (by kernel_rfl) hB ⟨(inR_i64 (by omega) (by omega)), trivial⟩ ?_
        refine ae_block 1 ?_
        exact ae_again _ (by omega) ⟨(p_ + 1), (ones + 1), rfl, (by omega), (by omega), (by omega), (by rw [ho0, hst, show (p_ + 1).toNat = p_.toNat + 1 from by omega, show 20 - (ones + 1).toNat = 20 - ones.toNat - 1 from by omega]; omega), rfl⟩
      · have ho : onesF bits p.toNat 20 = ones.toNat := by rw [ho0, show 20 - ones.toNat = 0 from by omega, onesF]; rfl
        refine aw_reg [(2, .dec true), (7, .dec true), (11, .dec false)] [0, 1, 2, 9, 10, 27] [] [Sv bits, I p_, I k, I (bits.size : Int), I ones, Bv false] [] [p_ < (bits.size : Int), (0 : Int) ≤ p_ ∧ p_ < (bits.size : Int), (bAt bits p_.toNat) = 49, ¬ (ones < 20)] (by kernel_rfl) hB ⟨h1, ⟨(by omega), (by omega)⟩, h2, h3, trivial⟩ ?_
        refine ae_then ?_
        refine aw_false rfl ?_
        refine aw_exit ?_
        refine ae_exit_then ?_
        refine ae_exit_then ?_
        refine ae_exit_same ?_
        refine ae_then ?_
        refine aw_seq ?_
        refine aw_seq ?_
        by_cases h4 : ones = 20
        · subst hp_
          subst h4
          have ho2 : onesF bits p.toNat 20 = 20 := ho
          have hbx := @bits_ext bits ok
          have hrb : (bits.size : Int) - (p + 20) < 32 ∨ (0 ≤ rdN (bits.extract (p + 20).toNat (bits.size : Int).toNat) 32 ∧ rdN (bits.extract (p + 20).toNat (bits.size : Int).toNat) 32 < 4294967296) := by by_cases hq : (bits.size : Int) - (p + 20) < 32; (exact .inl hq); (exact .inr (rdN_bd (hbx (by omega))))
          have hqb := fun hh => quo_bd (n := rdN (bits.extract (p + 20).toNat (bits.size : Int).toNat) 32) (r := ((2 ^ k.toNat : Nat) : Int)) hh (p2 _)
          have hub := @unfold_bd (rdN (bits.extract (p + 20).toNat (bits.size : Int).toNat) 32)
          refine aw_reg [(1, .dec true)] [0, 1, 2, 9, 10, 33] [] [Sv bits, I (p + 20), I k, I (bits.size : Int), I 20, Bv true] [] [(20 : Int) = 20] (by kernel_rfl) hB ⟨(by decide), trivial⟩ ?_
          refine ae_then ?_
          refine aw_true rfl ?_
          refine aw_seq ?_
          refine aw_seq ?_
          by_cases h5 : ((bits.size : Int) - (p + 20)) < 32
          · refine aw_reg [(3, .dec true)] [0, 1, 2, 37] [] [Sv bits, I (p + 20), I k, Bv true] [] [inR .i64 ((bits.size : Int) - (p + 20)), ((bits.size : Int) - (p + 20)) < 32] (by kernel_rfl) hB ⟨(inR_i64 (by omega) (by omega)), h5, trivial⟩ ?_
            refine ae_then ?_
            refine aw_true rfl ?_
            refine aw_seq ?_
            refine aw_reg [] [6, 7, 8] [] [I 0, I 0, I 9] [] [] (by kernel_rfl) hB trivial ?_
            refine ae_then ?_
            refine aw_ret ?_
            refine ae_ret_then (ae_ret_then ?_)
            refine ae_ret hB (.tup [I 0, I 0, I 9]) (by kernel_rfl) (.inl (by first | (rw [rd_t (o := ones) ho hon (by assumption) (by assumption)]; done) | (rw [rd_v (o := ones) ho hon (by assumption) (by assumption)]; rfl) | (rw [rd_20t ho2 (by assumption)]; done) | (rw [rd_20v ho2 (by assumption) (by assumption) (by assumption)]; rfl) | (rw [rd_20f ho2 (by assumption) (by simp_all)]; done))) rfl (fun _ => (by simp [tagged, taggedL]))
          · refine aw_reg [(3, .dec false)] [0, 1, 2, 37] [] [Sv bits, I (p + 20), I k, Bv false] [] [inR .i64 ((bits.size : Int) - (p + 20)), ¬ (((bits.size : Int) - (p + 20)) < 32)] (by kernel_rfl) hB ⟨(inR_i64 (by omega) (by omega)), h5, trivial⟩ ?_
            refine ae_then ?_
            refine aw_false rfl ?_
            refine aw_skip ?_
            refine ae_then ?_
            refine aw_seq ?_
            refine aw_reg [(3, .call [(true, Sv (bits.extract (p + 20).toNat (bits.size : Int).toNat)), (true, I 32)] true (I (rdN (bits.extract (p + 20).toNat (bits.size : Int).toNat) 32)))] [1, 2, 11] [] [I (p + 20), I k, I (rdN (bits.extract (p + 20).toNat (bits.size : Int).toNat) 32)] [] [(0 : Int) ≤ (p + 20) ∧ (p + 20) ≤ (bits.size : Int) ∧ (bits.size : Int) ≤ (bits.size : Int), Con Tryd.prog 63 [Sv (bits.extract (p + 20).toNat (bits.size : Int).toNat), I 32] true (I (rdN (bits.extract (p + 20).toNat (bits.size : Int).toNat) 32)) ∧ ((Sv (bits.extract (p + 20).toNat (bits.size : Int).toNat) : AV) = Sv (bits.extract (p + 20).toNat (bits.size : Int).toNat)) ∧ ((I 32 : AV) = I 32) ∧ True] (by kernel_rfl) hB ⟨⟨(by omega), (by omega), (by omega)⟩, ⟨(readNumber_ok (bits.extract (p + 20).toNat (bits.size : Int).toNat) 32 (hbx (by omega)) (by rw [bext_size]; omega) (by rw [bext_size]; omega)), rfl, rfl, trivial⟩, trivial⟩ ?_
            refine ae_then ?_
            refine aw_seq ?_
            refine aw_seq ?_
            refine aw_reg [(1, .call [(true, I (rdN (bits.extract (p + 20).toNat (bits.size : Int).toNat) 32))] true (I (unfoldI (rdN (bits.extract (p + 20).toNat (bits.size : Int).toNat) 32))))] [1, 2, 11, 12] [] [I (p + 20), I k, I (rdN (bits.extract (p + 20).toNat (bits.size : Int).toNat) 32), I (unfoldI (rdN (bits.extract (p + 20).toNat (bits.size : Int).toNat) 32))] [] [Con Tryd.prog 64 [I (rdN (bits.extract (p + 20).toNat (bits.size : Int).toNat) 32)] true (I (unfoldI (rdN (bits.extract (p + 20).toNat (bits.size : Int).toNat) 32))) ∧ ((I (rdN (bits.extract (p + 20).toNat (bits.size : Int).toNat) 32) : AV) = I (rdN (bits.extract (p + 20).toNat (bits.size : Int).toNat) 32)) ∧ True] (by kernel_rfl) hB ⟨⟨(unfolded_ok (rdN (bits.extract (p + 20).toNat (bits.size : Int).toNat) 32) (by omega)), rfl, trivial⟩, trivial⟩ ?_
            refine ae_then ?_
            refine aw_seq ?_
            rcases Bool.eq_false_or_eq_true (resid (unfoldI (rdN (bits.extract (p + 20).toNat (bits.size : Int).toNat) 32))) with h6 | h6
            · by_cases h7 : ((rdN (bits.extract (p + 20).toNat (bits.size : Int).toNat) 32) / ((2 ^ k.toNat : Nat) : Int)) < 20
              · refine aw_reg [(1, .call [(true, I (unfoldI (rdN (bits.extract (p + 20).toNat (bits.size : Int).toNat) 32)))] true (Bv true)), (7, .dec true)] [1, 11, 52] [] [I (p + 20), I (rdN (bits.extract (p + 20).toNat (bits.size : Int).toNat) 32), Bv true] [] [Con Tryd.prog 48 [I (unfoldI (rdN (bits.extract (p + 20).toNat (bits.size : Int).toNat) 32))] true (Bv true) ∧ ((I (unfoldI (rdN (bits.extract (p + 20).toNat (bits.size : Int).toNat) 32)) : AV) = I (unfoldI (rdN (bits.extract (p + 20).toNat (bits.size : Int).toNat) 32))) ∧ True, (0 : Int) ≤ k ∧ k ≤ ((IntKind.bits .i64 : Nat) : Int), ((rdN (bits.extract (p + 20).toNat (bits.size : Int).toNat) 32) / ((2 ^ k.toNat : Nat) : Int)) < 20] (by kernel_rfl) hB ⟨⟨(con_bool h6 (isResidual_ok (unfoldI (rdN (bits.extract (p + 20).toNat (bits.size : Int).toNat) 32)))), rfl, trivial⟩, ⟨(by omega), (show k ≤ (64 : Int) from by omega)⟩, h7, trivial⟩ ?_
                refine ae_then ?_
                refine aw_true rfl ?_
                refine aw_seq ?_
                refine aw_reg [] [6, 7, 8] [] [I 0, I 0, I 8] [] [] (by kernel_rfl) hB trivial ?_
                refine ae_then ?_
                refine aw_ret ?_
                refine ae_ret_then (ae_ret_then ?_)
                refine ae_ret hB (.tup [I 0, I 0, I 8]) (by kernel_rfl) (.inl (by first | (rw [rd_t (o := ones) ho hon (by assumption) (by assumption)]; done) | (rw [rd_v (o := ones) ho hon (by assumption) (by assumption)]; rfl) | (rw [rd_20t ho2 (by assumption)]; done) | (rw [rd_20v ho2 (by assumption) (by assumption) (by assumption)]; rfl) | (rw [rd_20f ho2 (by assumption) (by simp_all)]; done))) rfl (fun _ => (by simp [tagged, taggedL]))
              · refine aw_reg [(1, .call [(true, I (unfoldI (rdN (bits.extract (p + 20).toNat (bits.size : Int).toNat) 32)))] true (Bv true)), (7, .dec false)] [1, 11, 52] [] [I (p + 20), I (rdN (bits.extract (p + 20).toNat (bits.size : Int).toNat) 32), Bv false] [] [Con Tryd.prog 48 [I (unfoldI (rdN (bits.extract (p + 20).toNat (bits.size : Int).toNat) 32))] true (Bv true) ∧ ((I (unfoldI (rdN (bits.extract (p + 20).toNat (bits.size : Int).toNat) 32)) : AV) = I (unfoldI (rdN (bits.extract (p + 20).toNat (bits.size : Int).toNat) 32))) ∧ True, (0 : Int) ≤ k ∧ k ≤ ((IntKind.bits .i64 : Nat) : Int), ¬ (((rdN (bits.extract (p + 20).toNat (bits.size : Int).toNat) 32) / ((2 ^ k.toNat : Nat) : Int)) < 20)] (by kernel_rfl) hB ⟨⟨(con_bool h6 (isResidual_ok (unfoldI (rdN (bits.extract (p + 20).toNat (bits.size : Int).toNat) 32)))), rfl, trivial⟩, ⟨(by omega), (show k ≤ (64 : Int) from by omega)⟩, h7, trivial⟩ ?_
                refine ae_then ?_
                refine aw_false rfl ?_
                refine aw_skip ?_
                refine ae_then ?_
                refine aw_seq ?_
                refine aw_reg [(1, .call [(true, I (rdN (bits.extract (p + 20).toNat (bits.size : Int).toNat) 32))] true (I (unfoldI (rdN (bits.extract (p + 20).toNat (bits.size : Int).toNat) 32))))] [6, 7, 8] [] [I (unfoldI (rdN (bits.extract (p + 20).toNat (bits.size : Int).toNat) 32)), I ((p + 20) + 32), I 0] [] [Con Tryd.prog 64 [I (rdN (bits.extract (p + 20).toNat (bits.size : Int).toNat) 32)] true (I (unfoldI (rdN (bits.extract (p + 20).toNat (bits.size : Int).toNat) 32))) ∧ ((I (rdN (bits.extract (p + 20).toNat (bits.size : Int).toNat) 32) : AV) = I (rdN (bits.extract (p + 20).toNat (bits.size : Int).toNat) 32)) ∧ True, inR .i64 ((p + 20) + 32)] (by kernel_rfl) hB ⟨⟨(unfolded_ok (rdN (bits.extract (p + 20).toNat (bits.size : Int).toNat) 32) (by omega)), rfl, trivial⟩, (inR_i64 (by omega) (by omega)), trivial⟩ ?_
                refine ae_then ?_
                refine aw_ret ?_
                refine ae_ret_then ?_
                refine ae_ret hB (.tup [I (unfoldI (rdN (bits.extract (p + 20).toNat (bits.size : Int).toNat) 32)), I ((p + 20) + 32), I 0]) (by kernel_rfl) (.inl (by first | (rw [rd_t (o := ones) ho hon (by assumption) (by assumption)]; done) | (rw [rd_v (o := ones) ho hon (by assumption) (by assumption)]; rfl) | (rw [rd_20t ho2 (by assumption)]; done) | (rw [rd_20v ho2 (by assumption) (by assumption) (by assumption)]; rfl) | (rw [rd_20f ho2 (by assumption) (by simp_all)]; done))) rfl (fun _ => (by simp [tagged, taggedL]))
            · refine aw_reg [(1, .call [(true, I (unfoldI (rdN (bits.extract (p + 20).toNat (bits.size : Int).toNat) 32)))] true (Bv false))] [1, 11, 52] [] [I (p + 20), I (rdN (bits.extract (p + 20).toNat (bits.size : Int).toNat) 32), Bv true] [] [Con Tryd.prog 48 [I (unfoldI (rdN (bits.extract (p + 20).toNat (bits.size : Int).toNat) 32))] true (Bv false) ∧ ((I (unfoldI (rdN (bits.extract (p + 20).toNat (bits.size : Int).toNat) 32)) : AV) = I (unfoldI (rdN (bits.extract (p + 20).toNat (bits.size : Int).toNat) 32))) ∧ True] (by kernel_rfl) hB ⟨⟨(con_bool h6 (isResidual_ok (unfoldI (rdN (bits.extract (p + 20).toNat (bits.size : Int).toNat) 32)))), rfl, trivial⟩, trivial⟩ ?_
              refine ae_then ?_
              refine aw_true rfl ?_
              refine aw_seq ?_
              refine aw_reg [] [6, 7, 8] [] [I 0, I 0, I 8] [] [] (by kernel_rfl) hB trivial ?_
              refine ae_then ?_
              refine aw_ret ?_
              refine ae_ret_then (ae_ret_then ?_)
              refine ae_ret hB (.tup [I 0, I 0, I 8]) (by kernel_rfl) (.inl (by first | (rw [rd_t (o := ones) ho hon (by assumption) (by assumption)]; done) | (rw [rd_v (o := ones) ho hon (by assumption) (by assumption)]; rfl) | (rw [rd_20t ho2 (by assumption)]; done) | (rw [rd_20v ho2 (by assumption) (by assumption) (by assumption)]; rfl) | (rw [rd_20f ho2 (by assumption) (by simp_all)]; done))) rfl (fun _ => (by simp [tagged, taggedL]))
        · subst hp_
          have hsh := ones_shl hon hk
          have hbx := @bits_ext bits ok
          have hrb : (bits.size : Int) - (p + ones) < 1 + k ∨ (0 ≤ rdN (bits.extract (p + ones + 1).toNat (bits.size : Int).toNat) k.toNat ∧ rdN (bits.extract (p + ones + 1).toNat (bits.size : Int).toNat) k.toNat < ((2 ^ k.toNat : Nat) : Int)) := by by_cases hq : (bits.size : Int) - (p + ones) < 1 + k; (exact .inl hq); (exact .inr (rdN_bd (hbx (by omega))))
          have hp12 : ((2 ^ k.toNat : Nat) : Int) ≤ 4096 := Int.ofNat_le.2 (Nat.pow_le_pow_right (by decide) (by omega : k.toNat ≤ 12))
          refine aw_reg [(1, .dec false)] [0, 1, 2, 9, 10, 33] [] [Sv bits, I (p + ones), I k, I (bits.size : Int), I ones, Bv false] [] [¬ (ones = 20)] (by kernel_rfl) hB ⟨h4, trivial⟩ ?_
          refine ae_then ?_
          refine aw_false rfl ?_
          refine aw_skip ?_
          refine ae_then ?_
          refine aw_seq ?_
          refine aw_seq ?_
          by_cases h8 : ((bits.size : Int) - (p + ones)) < (1 + k)
          · refine aw_reg [(5, .dec true)] [0, 1, 2, 10, 62] [] [Sv bits, I (p + ones), I k, I ones, Bv true] [] [inR .i64 ((bits.size : Int) - (p + ones)), inR .i64 (1 + k), ((bits.size : Int) - (p + ones)) < (1 + k)] (by kernel_rfl) hB ⟨(inR_i64 (by omega) (by omega)), (inR_i64 (by omega) (by omega)), h8, trivial⟩ ?_
            refine ae_then ?_
            refine aw_true rfl ?_
            refine aw_seq ?_
            refine aw_reg [] [6, 7, 8] [] [I 0, I 0, I 9] [] [] (by kernel_rfl) hB trivial ?_
            refine ae_then ?_
            refine aw_ret ?_
            refine ae_ret_then ?_
            refine ae_ret hB (.tup [I 0, I 0, I 9]) (by kernel_rfl) (.inl (by first | (rw [rd_t (o := ones) ho hon (by assumption) (by assumption)]; done) | (rw [rd_v (o := ones) ho hon (by assumption) (by assumption)]; rfl) | (rw [rd_20t ho2 (by assumption)]; done) | (rw [rd_20v ho2 (by assumption) (by assumption) (by assumption)]; rfl) | (rw [rd_20f ho2 (by assumption) (by simp_all)]; done))) rfl (fun _ => (by simp [tagged, taggedL]))
          · refine aw_reg [(5, .dec false)] [0, 1, 2, 10, 62] [] [Sv bits, I (p + ones), I k, I ones, Bv false] [] [inR .i64 ((bits.size : Int) - (p + ones)), inR .i64 (1 + k), ¬ (((bits.size : Int) - (p + ones)) < (1 + k))] (by kernel_rfl) hB ⟨(inR_i64 (by omega) (by omega)), (inR_i64 (by omega) (by omega)), h8, trivial⟩ ?_
            refine ae_then ?_
            refine aw_false rfl ?_
            refine aw_skip ?_
            refine ae_then ?_
            refine aw_seq ?_
            refine aw_reg [(8, .call [(true, Sv (bits.extract ((p + ones) + 1).toNat (bits.size : Int).toNat)), (true, I k)] true (I (rdN (bits.extract ((p + ones) + 1).toNat (bits.size : Int).toNat) k.toNat))), (10, .call [(true, I ((ones * ((2 ^ k.toNat : Nat) : Int)) + (rdN (bits.extract ((p + ones) + 1).toNat (bits.size : Int).toNat) k.toNat)))] true (I (unfoldI ((ones * ((2 ^ k.toNat : Nat) : Int)) + (rdN (bits.extract ((p + ones) + 1).toNat (bits.size : Int).toNat) k.toNat)))))] [6, 7, 8] [] [I (unfoldI ((ones * ((2 ^ k.toNat : Nat) : Int)) + (rdN (bits.extract ((p + ones) + 1).toNat (bits.size : Int).toNat) k.toNat))), I (((p + ones) + 1) + k), I 0] [] [(0 : Int) ≤ k ∧ k ≤ ((IntKind.bits .i64 : Nat) : Int) ∧ inR .i64 (ones * ((2 ^ k.toNat : Nat) : Int)), inR .i64 ((p + ones) + 1), (0 : Int) ≤ ((p + ones) + 1) ∧ ((p + ones) + 1) ≤ (bits.size : Int) ∧ (bits.size : Int) ≤ (bits.size : Int), Con Tryd.prog 63 [Sv (bits.extract ((p + ones) + 1).toNat (bits.size : Int).toNat), I k] true (I (rdN (bits.extract ((p + ones) + 1).toNat (bits.size : Int).toNat) k.toNat)) ∧ ((Sv (bits.extract ((p + ones) + 1).toNat (bits.size : Int).toNat) : AV) = Sv (bits.extract ((p + ones) + 1).toNat (bits.size : Int).toNat)) ∧ ((I k : AV) = I k) ∧ True, inR .i64 ((ones * ((2 ^ k.toNat : Nat) : Int)) + (rdN (bits.extract ((p + ones) + 1).toNat (bits.size : Int).toNat) k.toNat)), Con Tryd.prog 64 [I ((ones * ((2 ^ k.toNat : Nat) : Int)) + (rdN (bits.extract ((p + ones) + 1).toNat (bits.size : Int).toNat) k.toNat))] true (I (unfoldI ((ones * ((2 ^ k.toNat : Nat) : Int)) + (rdN (bits.extract ((p + ones) + 1).toNat (bits.size : Int).toNat) k.toNat)))) ∧ ((I ((ones * ((2 ^ k.toNat : Nat) : Int)) + (rdN (bits.extract ((p + ones) + 1).toNat (bits.size : Int).toNat) k.toNat)) : AV) = I ((ones * ((2 ^ k.toNat : Nat) : Int)) + (rdN (bits.extract ((p + ones) + 1).toNat (bits.size : Int).toNat) k.toNat))) ∧ True, inR .i64 ((p + ones) + 1), inR .i64 (((p + ones) + 1) + k)] (by kernel_rfl) hB ⟨⟨(by omega), (show k ≤ (64 : Int) from by omega), (inR_i64 (by omega) (by omega))⟩, (inR_i64 (by omega) (by omega)), ⟨(by omega), (by omega), (by omega)⟩, ⟨(readNumber_ok (bits.extract ((p + ones) + 1).toNat (bits.size : Int).toNat) k (hbx (by omega)) (by rw [bext_size]; omega) (by rw [bext_size]; omega)), rfl, rfl, trivial⟩, (inR_i64 (by omega) (by omega)), ⟨(unfolded_ok ((ones * ((2 ^ k.toNat : Nat) : Int)) + (rdN (bits.extract ((p + ones) + 1).toNat (bits.size : Int).toNat) k.toNat)) (by omega)), rfl, trivial⟩, (inR_i64 (by omega) (by omega)), (inR_i64 (by omega) (by omega)), trivial⟩ ?_
            refine ae_then ?_
            refine aw_ret ?_
            refine ae_ret hB (.tup [I (unfoldI ((ones * ((2 ^ k.toNat : Nat) : Int)) + (rdN (bits.extract ((p + ones) + 1).toNat (bits.size : Int).toNat) k.toNat))), I (((p + ones) + 1) + k), I 0]) (by kernel_rfl) (.inl (by first | (rw [rd_t (o := ones) ho hon (by assumption) (by assumption)]; done) | (rw [rd_v (o := ones) ho hon (by assumption) (by assumption)]; rfl) | (rw [rd_20t ho2 (by assumption)]; done) | (rw [rd_20v ho2 (by assumption) (by assumption) (by assumption)]; rfl) | (rw [rd_20f ho2 (by assumption) (by simp_all)]; done))) rfl (fun _ => (by simp [tagged, taggedL]))
    · have ho : onesF bits p.toNat 20 = ones.toNat := by rw [ho0, onesF_stop (fun hq => h2 hq.2)]; omega
      refine aw_reg [(2, .dec true), (7, .dec false)] [0, 1, 2, 9, 10, 27] [] [Sv bits, I p_, I k, I (bits.size : Int), I ones, Bv false] [] [p_ < (bits.size : Int), (0 : Int) ≤ p_ ∧ p_ < (bits.size : Int), ¬ ((bAt bits p_.toNat) = 49)] (by kernel_rfl) hB ⟨h1, ⟨(by omega), (by omega)⟩, h2, trivial⟩ ?_
      refine ae_then ?_
      refine aw_false rfl ?_
      refine aw_exit ?_
      refine ae_exit_then ?_
      refine ae_exit_then ?_
      refine ae_exit_same ?_
      refine ae_then ?_
      refine aw_seq ?_
      refine aw_seq ?_
      by_cases h9 : ones = 20
      · subst hp_
        subst h9
        have ho2 : onesF bits p.toNat 20 = 20 := ho
        have hbx := @bits_ext bits ok
        have hrb : (bits.size : Int) - (p + 20) < 32 ∨ (0 ≤ rdN (bits.extract (p + 20).toNat (bits.size : Int).toNat) 32 ∧ rdN (bits.extract (p + 20).toNat (bits.size : Int).toNat) 32 < 4294967296) := by by_cases hq : (bits.size : Int) - (p + 20) < 32; (exact .inl hq); (exact .inr (rdN_bd (hbx (by omega))))
        have hqb := fun hh => quo_bd (n := rdN (bits.extract (p + 20).toNat (bits.size : Int).toNat) 32) (r := ((2 ^ k.toNat : Nat) : Int)) hh (p2 _)
        have hub := @unfold_bd (rdN (bits.extract (p + 20).toNat (bits.size : Int).toNat) 32)
        refine aw_reg [(1, .dec true)] [0, 1, 2, 9, 10, 33] [] [Sv bits, I (p + 20), I k, I (bits.size : Int), I 20, Bv true] [] [(20 : Int) = 20] (by kernel_rfl) hB ⟨(by decide), trivial⟩ ?_
        refine ae_then ?_
        refine aw_true rfl ?_
        refine aw_seq ?_
        refine aw_seq ?_
        by_cases h10 : ((bits.size : Int) - (p + 20)) < 32
        · refine aw_reg [(3, .dec true)] [0, 1, 2, 37] [] [Sv bits, I (p + 20), I k, Bv true] [] [inR .i64 ((bits.size : Int) - (p + 20)), ((bits.size : Int) - (p + 20)) < 32] (by kernel_rfl) hB ⟨(inR_i64 (by omega) (by omega)), h10, trivial⟩ ?_
          refine ae_then ?_
          refine aw_true rfl ?_
          refine aw_seq ?_
          refine aw_reg [] [6, 7, 8] [] [I 0, I 0, I 9] [] [] (by kernel_rfl) hB trivial ?_
          refine ae_then ?_
          refine aw_ret ?_
          refine ae_ret_then (ae_ret_then ?_)
          refine ae_ret hB (.tup [I 0, I 0, I 9]) (by kernel_rfl) (.inl (by first | (rw [rd_t (o := ones) ho hon (by assumption) (by assumption)]; done) | (rw [rd_v (o := ones) ho hon (by assumption) (by assumption)]; rfl) | (rw [rd_20t ho2 (by assumption)]; done) | (rw [rd_20v ho2 (by assumption) (by assumption) (by assumption)]; rfl) | (rw [rd_20f ho2 (by assumption) (by simp_all)]; done))) rfl (fun _ => (by simp [tagged, taggedL]))
        · refine aw_reg [(3, .dec false)] [0, 1, 2, 37] [] [Sv bits, I (p + 20), I k, Bv false] [] [inR .i64 ((bits.size : Int) - (p + 20)), ¬ (((bits.size : Int) - (p + 20)) < 32)] (by kernel_rfl) hB ⟨(inR_i64 (by omega) (by omega)), h10, trivial⟩ ?_
          refine ae_then ?_
          refine aw_false rfl ?_
          refine aw_skip ?_
          refine ae_then ?_
          refine aw_seq ?_
          refine aw_reg [(3, .call [(true, Sv (bits.extract (p + 20).toNat (bits.size : Int).toNat)), (true, I 32)] true (I (rdN (bits.extract (p + 20).toNat (bits.size : Int).toNat) 32)))] [1, 2, 11] [] [I (p + 20), I k, I (rdN (bits.extract (p + 20).toNat (bits.size : Int).toNat) 32)] [] [(0 : Int) ≤ (p + 20) ∧ (p + 20) ≤ (bits.size : Int) ∧ (bits.size : Int) ≤ (bits.size : Int), Con Tryd.prog 63 [Sv (bits.extract (p + 20).toNat (bits.size : Int).toNat), I 32] true (I (rdN (bits.extract (p + 20).toNat (bits.size : Int).toNat) 32)) ∧ ((Sv (bits.extract (p + 20).toNat (bits.size : Int).toNat) : AV) = Sv (bits.extract (p + 20).toNat (bits.size : Int).toNat)) ∧ ((I 32 : AV) = I 32) ∧ True] (by kernel_rfl) hB ⟨⟨(by omega), (by omega), (by omega)⟩, ⟨(readNumber_ok (bits.extract (p + 20).toNat (bits.size : Int).toNat) 32 (hbx (by omega)) (by rw [bext_size]; omega) (by rw [bext_size]; omega)), rfl, rfl, trivial⟩, trivial⟩ ?_
          refine ae_then ?_
          refine aw_seq ?_
          refine aw_seq ?_
          refine aw_reg [(1, .call [(true, I (rdN (bits.extract (p + 20).toNat (bits.size : Int).toNat) 32))] true (I (unfoldI (rdN (bits.extract (p + 20).toNat (bits.size : Int).toNat) 32))))] [1, 2, 11, 12] [] [I (p + 20), I k, I (rdN (bits.extract (p + 20).toNat (bits.size : Int).toNat) 32), I (unfoldI (rdN (bits.extract (p + 20).toNat (bits.size : Int).toNat) 32))] [] [Con Tryd.prog 64 [I (rdN (bits.extract (p + 20).toNat (bits.size : Int).toNat) 32)] true (I (unfoldI (rdN (bits.extract (p + 20).toNat (bits.size : Int).toNat) 32))) ∧ ((I (rdN (bits.extract (p + 20).toNat (bits.size : Int).toNat) 32) : AV) = I (rdN (bits.extract (p + 20).toNat (bits.size : Int).toNat) 32)) ∧ True] (by kernel_rfl) hB ⟨⟨(unfolded_ok (rdN (bits.extract (p + 20).toNat (bits.size : Int).toNat) 32) (by omega)), rfl, trivial⟩, trivial⟩ ?_
          refine ae_then ?_
          refine aw_seq ?_
          rcases Bool.eq_false_or_eq_true (resid (unfoldI (rdN (bits.extract (p + 20).toNat (bits.size : Int).toNat) 32))) with h11 | h11
          · by_cases h12 : ((rdN (bits.extract (p + 20).toNat (bits.size : Int).toNat) 32) / ((2 ^ k.toNat : Nat) : Int)) < 20
            · refine aw_reg [(1, .call [(true, I (unfoldI (rdN (bits.extract (p + 20).toNat (bits.size : Int).toNat) 32)))] true (Bv true)), (7, .dec true)] [1, 11, 52] [] [I (p + 20), I (rdN (bits.extract (p + 20).toNat (bits.size : Int).toNat) 32), Bv true] [] [Con Tryd.prog 48 [I (unfoldI (rdN (bits.extract (p + 20).toNat (bits.size : Int).toNat) 32))] true (Bv true) ∧ ((I (unfoldI (rdN (bits.extract (p + 20).toNat (bits.size : Int).toNat) 32)) : AV) = I (unfoldI (rdN (bits.extract (p + 20).toNat (bits.size : Int).toNat) 32))) ∧ True, (0 : Int) ≤ k ∧ k ≤ ((IntKind.bits .i64 : Nat) : Int), ((rdN (bits.extract (p + 20).toNat (bits.size : Int).toNat) 32) / ((2 ^ k.toNat : Nat) : Int)) < 20] (by kernel_rfl) hB ⟨⟨(con_bool h11 (isResidual_ok (unfoldI (rdN (bits.extract (p + 20).toNat (bits.size : Int).toNat) 32)))), rfl, trivial⟩, ⟨(by omega), (show k ≤ (64 : Int) from by omega)⟩, h12, trivial⟩ ?_
              refine ae_then ?_
              refine aw_true rfl ?_
              refine aw_seq ?_
              refine aw_reg [] [6, 7, 8] [] [I 0, I 0, I 8] [] [] (by kernel_rfl) hB trivial ?_
              refine ae_then ?_
              refine aw_ret ?_
              refine ae_ret_then (ae_ret_then ?_)
              refine ae_ret hB (.tup [I 0, I 0, I 8]) (by kernel_rfl) (.inl (by first | (rw [rd_t (o := ones) ho hon (by assumption) (by assumption)]; done) | (rw [rd_v (o := ones) ho hon (by assumption) (by assumption)]; rfl) | (rw [rd_20t ho2 (by assumption)]; done) | (rw [rd_20v ho2 (by assumption) (by assumption) (by assumption)]; rfl) | (rw [rd_20f ho2 (by assumption) (by simp_all)]; done))) rfl (fun _ => (by simp [tagged, taggedL]))
            · refine aw_reg [(1, .call [(true, I (unfoldI (rdN (bits.extract (p + 20).toNat (bits.size : Int).toNat) 32)))] true (Bv true)), (7, .dec false)] [1, 11, 52] [] [I (p + 20), I (rdN (bits.extract (p + 20).toNat (bits.size : Int).toNat) 32), Bv false] [] [Con Tryd.prog 48 [I (unfoldI (rdN (bits.extract (p + 20).toNat (bits.size : Int).toNat) 32))] true (Bv true) ∧ ((I (unfoldI (rdN (bits.extract (p + 20).toNat (bits.size : Int).toNat) 32)) : AV) = I (unfoldI (rdN (bits.extract (p + 20).toNat (bits.size : Int).toNat) 32))) ∧ True, (0 : Int) ≤ k ∧ k ≤ ((IntKind.bits .i64 : Nat) : Int), ¬ (((rdN (bits.extract (p + 20).toNat (bits.size : Int).toNat) 32) / ((2 ^ k.toNat : Nat) : Int)) < 20)] (by kernel_rfl) hB ⟨⟨(con_bool h11 (isResidual_ok (unfoldI (rdN (bits.extract (p + 20).toNat (bits.size : Int).toNat) 32)))), rfl, trivial⟩, ⟨(by omega), (show k ≤ (64 : Int) from by omega)⟩, h12, trivial⟩ ?_
              refine ae_then ?_
              refine aw_false rfl ?_
              refine aw_skip ?_
              refine ae_then ?_
              refine aw_seq ?_
              refine aw_reg [(1, .call [(true, I (rdN (bits.extract (p + 20).toNat (bits.size : Int).toNat) 32))] true (I (unfoldI (rdN (bits.extract (p + 20).toNat (bits.size : Int).toNat) 32))))] [6, 7, 8] [] [I (unfoldI (rdN (bits.extract (p + 20).toNat (bits.size : Int).toNat) 32)), I ((p + 20) + 32), I 0] [] [Con Tryd.prog 64 [I (rdN (bits.extract (p + 20).toNat (bits.size : Int).toNat) 32)] true (I (unfoldI (rdN (bits.extract (p + 20).toNat (bits.size : Int).toNat) 32))) ∧ ((I (rdN (bits.extract (p + 20).toNat (bits.size : Int).toNat) 32) : AV) = I (rdN (bits.extract (p + 20).toNat (bits.size : Int).toNat) 32)) ∧ True, inR .i64 ((p + 20) + 32)] (by kernel_rfl) hB ⟨⟨(unfolded_ok (rdN (bits.extract (p + 20).toNat (bits.size : Int).toNat) 32) (by omega)), rfl, trivial⟩, (inR_i64 (by omega) (by omega)), trivial⟩ ?_
              refine ae_then ?_
              refine aw_ret ?_
              refine ae_ret_then ?_
              refine ae_ret hB (.tup [I (unfoldI (rdN (bits.extract (p + 20).toNat (bits.size : Int).toNat) 32)), I ((p + 20) + 32), I 0]) (by kernel_rfl) (.inl (by first | (rw [rd_t (o := ones) ho hon (by assumption) (by assumption)]; done) | (rw [rd_v (o := ones) ho hon (by assumption) (by assumption)]; rfl) | (rw [rd_20t ho2 (by assumption)]; done) | (rw [rd_20v ho2 (by assumption) (by assumption) (by assumption)]; rfl) | (rw [rd_20f ho2 (by assumption) (by simp_all)]; done))) rfl (fun _ => (by simp [tagged, taggedL]))
          · refine aw_reg [(1, .call [(true, I (unfoldI (rdN (bits.extract (p + 20).toNat (bits.size : Int).toNat) 32)))] true (Bv false))] [1, 11, 52] [] [I (p + 20), I (rdN (bits.extract (p + 20).toNat (bits.size : Int).toNat) 32), Bv true] [] [Con Tryd.prog 48 [I (unfoldI (rdN (bits.extract (p + 20).toNat (bits.size : Int).toNat) 32))] true (Bv false) ∧ ((I (unfoldI (rdN (bits.extract (p + 20).toNat (bits.size : Int).toNat) 32)) : AV) = I (unfoldI (rdN (bits.extract (p + 20).toNat (bits.size : Int).toNat) 32))) ∧ True] (by kernel_rfl) hB ⟨⟨(con_bool h11 (isResidual_ok (unfoldI (rdN (bits.extract (p + 20).toNat (bits.size : Int).toNat) 32)))), rfl, trivial⟩, trivial⟩ ?_
            refine ae_then ?_
            refine aw_true rfl ?_
            refine aw_seq ?_
            refine aw_reg [] [6, 7, 8] [] [I 0, I 0, I 8] [] [] (by kernel_rfl) hB trivial ?_
            refine ae_then ?_
            refine aw_ret ?_
            refine ae_ret_then (ae_ret_then ?_)
            refine ae_ret hB (.tup [I 0, I 0, I 8]) (by kernel_rfl) (.inl (by first | (rw [rd_t (o := ones) ho hon (by assumption) (by assumption)]; done) | (rw [rd_v (o := ones) ho hon (by assumption) (by assumption)]; rfl) | (rw [rd_20t ho2 (by assumption)]; done) | (rw [rd_20v ho2 (by assumption) (by assumption) (by assumption)]; rfl) | (rw [rd_20f ho2 (by assumption) (by simp_all)]; done))) rfl (fun _ => (by simp [tagged, taggedL]))
      · subst hp_
        have hsh := ones_shl hon hk
        have hbx := @bits_ext bits ok
        have hrb : (bits.size : Int) - (p + ones) < 1 + k ∨ (0 ≤ rdN (bits.extract (p + ones + 1).toNat (bits.size : Int).toNat) k.toNat ∧ rdN (bits.extract (p + ones + 1).toNat (bits.size : Int).toNat) k.toNat < ((2 ^ k.toNat : Nat) : Int)) := by by_cases hq : (bits.size : Int) - (p + ones) < 1 + k; (exact .inl hq); (exact .inr (rdN_bd (hbx (by omega))))
        have hp12 : ((2 ^ k.toNat : Nat) : Int) ≤ 4096 := Int.ofNat_le.2 (Nat.pow_le_pow_right (by decide) (by omega : k.toNat ≤ 12))
        refine aw_reg [(1, .dec false)] [0, 1, 2, 9, 10, 33] [] [Sv bits, I (p + ones), I k, I (bits.size : Int), I ones, Bv false] [] [¬ (ones = 20)] (by kernel_rfl) hB ⟨h9, trivial⟩ ?_
        refine ae_then ?_
        refine aw_false rfl ?_
        refine aw_skip ?_
        refine ae_then ?_
        refine aw_seq ?_
        refine aw_seq ?_
        by_cases h13 : ((bits.size : Int) - (p + ones)) < (1 + k)
        · refine aw_reg [(5, .dec true)] [0, 1, 2, 10, 62] [] [Sv bits, I (p + ones), I k, I ones, Bv true] [] [inR .i64 ((bits.size : Int) - (p + ones)), inR .i64 (1 + k), ((bits.size : Int) - (p + ones)) < (1 + k)] (by kernel_rfl) hB ⟨(inR_i64 (by omega) (by omega)), (inR_i64 (by omega) (by omega)), h13, trivial⟩ ?_
          refine ae_then ?_
          refine aw_true rfl ?_
          refine aw_seq ?_
          refine aw_reg [] [6, 7, 8] [] [I 0, I 0, I 9] [] [] (by kernel_rfl) hB trivial ?_
          refine ae_then ?_
          refine aw_ret ?_
          refine ae_ret_then ?_
          refine ae_ret hB (.tup [I 0, I 0, I 9]) (by kernel_rfl) (.inl (by first | (rw [rd_t (o := ones) ho hon (by assumption) (by assumption)]; done) | (rw [rd_v (o := ones) ho hon (by assumption) (by assumption)]; rfl) | (rw [rd_20t ho2 (by assumption)]; done) | (rw [rd_20v ho2 (by assumption) (by assumption) (by assumption)]; rfl) | (rw [rd_20f ho2 (by assumption) (by simp_all)]; done))) rfl (fun _ => (by simp [tagged, taggedL]))
        · refine aw_reg [(5, .dec false)] [0, 1, 2, 10, 62] [] [Sv bits, I (p + ones), I k, I ones, Bv false] [] [inR .i64 ((bits.size : Int) - (p + ones)), inR .i64 (1 + k), ¬ (((bits.size : Int) - (p + ones)) < (1 + k))] (by kernel_rfl) hB ⟨(inR_i64 (by omega) (by omega)), (inR_i64 (by omega) (by omega)), h13, trivial⟩ ?_
          refine ae_then ?_
          refine aw_false rfl ?_
          refine aw_skip ?_
          refine ae_then ?_
          refine aw_seq ?_
          refine aw_reg [(8, .call [(true, Sv (bits.extract ((p + ones) + 1).toNat (bits.size : Int).toNat)), (true, I k)] true (I (rdN (bits.extract ((p + ones) + 1).toNat (bits.size : Int).toNat) k.toNat))), (10, .call [(true, I ((ones * ((2 ^ k.toNat : Nat) : Int)) + (rdN (bits.extract ((p + ones) + 1).toNat (bits.size : Int).toNat) k.toNat)))] true (I (unfoldI ((ones * ((2 ^ k.toNat : Nat) : Int)) + (rdN (bits.extract ((p + ones) + 1).toNat (bits.size : Int).toNat) k.toNat)))))] [6, 7, 8] [] [I (unfoldI ((ones * ((2 ^ k.toNat : Nat) : Int)) + (rdN (bits.extract ((p + ones) + 1).toNat (bits.size : Int).toNat) k.toNat))), I (((p + ones) + 1) + k), I 0] [] [(0 : Int) ≤ k ∧ k ≤ ((IntKind.bits .i64 : Nat) : Int) ∧ inR .i64 (ones * ((2 ^ k.toNat : Nat) : Int)), inR .i64 ((p + ones) + 1), (0 : Int) ≤ ((p + ones) + 1) ∧ ((p + ones) + 1) ≤ (bits.size : Int) ∧ (bits.size : Int) ≤ (bits.size : Int), Con Tryd.prog 63 [Sv (bits.extract ((p + ones) + 1).toNat (bits.size : Int).toNat), I k] true (I (rdN (bits.extract ((p + ones) + 1).toNat (bits.size : Int).toNat) k.toNat)) ∧ ((Sv (bits.extract ((p + ones) + 1).toNat (bits.size : Int).toNat) : AV) = Sv (bits.extract ((p + ones) + 1).toNat (bits.size : Int).toNat)) ∧ ((I k : AV) = I k) ∧ True, inR .i64 ((ones * ((2 ^ k.toNat : Nat) : Int)) + (rdN (bits.extract ((p + ones) + 1).toNat (bits.size : Int).toNat) k.toNat)), Con Tryd.prog 64 [I ((ones * ((2 ^ k.toNat : Nat) : Int)) + (rdN (bits.extract ((p + ones) + 1).toNat (bits.size : Int).toNat) k.toNat))] true (I (unfoldI ((ones * ((2 ^ k.toNat : Nat) : Int)) + (rdN (bits.extract ((p + ones) + 1).toNat (bits.size : Int).toNat) k.toNat)))) ∧ ((I ((ones * ((2 ^ k.toNat : Nat) : Int)) + (rdN (bits.extract ((p + ones) + 1).toNat (bits.size : Int).toNat) k.toNat)) : AV) = I ((ones * ((2 ^ k.toNat : Nat) : Int)) + (rdN (bits.extract ((p + ones) + 1).toNat (bits.size : Int).toNat) k.toNat))) ∧ True, inR .i64 ((p + ones) + 1), inR .i64 (((p + ones) + 1) + k)] (by kernel_rfl) hB ⟨⟨(by omega), (show k ≤ (64 : Int) from by omega), (inR_i64 (by omega) (by omega))⟩, (inR_i64 (by omega) (by omega)), ⟨(by omega), (by omega), (by omega)⟩, ⟨(readNumber_ok (bits.extract ((p + ones) + 1).toNat (bits.size : Int).toNat) k (hbx (by omega)) (by rw [bext_size]; omega) (by rw [bext_size]; omega)), rfl, rfl, trivial⟩, (inR_i64 (by omega) (by omega)), ⟨(unfolded_ok ((ones * ((2 ^ k.toNat : Nat) : Int)) + (rdN (bits.extract ((p + ones) + 1).toNat (bits.size : Int).toNat) k.toNat)) (by omega)), rfl, trivial⟩, (inR_i64 (by omega) (by omega)), (inR_i64 (by omega) (by omega)), trivial⟩ ?_
          refine ae_then ?_
          refine aw_ret ?_
          refine ae_ret hB (.tup [I (unfoldI ((ones * ((2 ^ k.toNat : Nat) : Int)) + (rdN (bits.extract ((p + ones) + 1).toNat (bits.size : Int).toNat) k.toNat))), I (((p + ones) + 1) + k), I 0]) (by kernel_rfl) (.inl (by first | (rw [rd_t (o := ones) ho hon (by assumption) (by assumption)]; done) | (rw [rd_v (o := ones) ho hon (by assumption) (by assumption)]; rfl) | (rw [rd_20t ho2 (by assumption)]; done) | (rw [rd_20v ho2 (by assumption) (by assumption) (by assumption)]; rfl) | (rw [rd_20f ho2 (by assumption) (by simp_all)]; done))) rfl (fun _ => (by simp [tagged, taggedL]))
  · have ho : onesF bits p.toNat 20 = ones.toNat := by rw [ho0, onesF_stop (by omega)]; omega
    refine aw_reg [(2, .dec false)] [0, 1, 2, 9, 10, 27] [] [Sv bits, I p_, I k, I (bits.size : Int), I ones, Bv false] [] [¬ (p_ < (bits.size : Int))] (by kernel_rfl) hB ⟨h1, trivial⟩ ?_
    refine ae_then ?_
    refine aw_false rfl ?_
    refine aw_exit ?_
    refine ae_exit_then ?_
    refine ae_exit_then ?_
    refine ae_exit_same ?_
    refine ae_then ?_
    refine aw_seq ?_
    refine aw_seq ?_
    by_cases h14 : ones = 20
    · subst hp_
      subst h14
      have ho2 : onesF bits p.toNat 20 = 20 := ho
      have hbx := @bits_ext bits ok
      have hrb : (bits.size : Int) - (p + 20) < 32 ∨ (0 ≤ rdN (bits.extract (p + 20).toNat (bits.size : Int).toNat) 32 ∧ rdN (bits.extract (p + 20).toNat (bits.size : Int).toNat) 32 < 4294967296) := by by_cases hq : (bits.size : Int) - (p + 20) < 32; (exact .inl hq); (exact .inr (rdN_bd (hbx (by omega))))
      have hqb := fun hh => quo_bd (n := rdN (bits.extract (p + 20).toNat (bits.size : Int).toNat) 32) (r := ((2 ^ k.toNat : Nat) : Int)) hh (p2 _)
      have hub := @unfold_bd (rdN (bits.extract (p + 20).toNat (bits.size : Int).toNat) 32)
      refine aw_reg [(1, .dec true)] [0, 1, 2, 9, 10, 33] [] [Sv bits, I (p + 20), I k, I (bits.size : Int), I 20, Bv true] [] [(20 : Int) = 20] (by kernel_rfl) hB ⟨(by decide), trivial⟩ ?_
      refine ae_then ?_
      refine aw_true rfl ?_
      refine aw_seq ?_
      refine aw_seq ?_
      by_cases h15 : ((bits.size : Int) - (p + 20)) < 32
      · refine aw_reg [(3, .dec true)] [0, 1, 2, 37] [] [Sv bits, I (p + 20), I k, Bv true] [] [inR .i64 ((bits.size : Int) - (p + 20)), ((bits.size : Int) - (p + 20)) < 32] (by kernel_rfl) hB ⟨(inR_i64 (by omega) (by omega)), h15, trivial⟩ ?_
        refine ae_then ?_
        refine aw_true rfl ?_
        refine aw_seq ?_
        refine aw_reg [] [6, 7, 8] [] [I 0, I 0, I 9] [] [] (by kernel_rfl) hB trivial ?_
        refine ae_then ?_
        refine aw_ret ?_
        refine ae_ret_then (ae_ret_then ?_)
        refine ae_ret hB (.tup [I 0, I 0, I 9]) (by kernel_rfl) (.inl (by first | (rw [rd_t (o := ones) ho hon (by assumption) (by assumption)]; done) | (rw [rd_v (o := ones) ho hon (by assumption) (by assumption)]; rfl) | (rw [rd_20t ho2 (by assumption)]; done) | (rw [rd_20v ho2 (by assumption) (by assumption) (by assumption)]; rfl) | (rw [rd_20f ho2 (by assumption) (by simp_all)]; done))) rfl (fun _ => (by simp [tagged, taggedL]))
      · refine aw_reg [(3, .dec false)] [0, 1, 2, 37] [] [Sv bits, I (p + 20), I k, Bv false] [] [inR .i64 ((bits.size : Int) - (p + 20)), ¬ (((bits.size : Int) - (p + 20)) < 32)] (by kernel_rfl) hB ⟨(inR_i64 (by omega) (by omega)), h15, trivial⟩ ?_
        refine ae_then ?_
        refine aw_false rfl ?_
        refine aw_skip ?_
        refine ae_then ?_
        refine aw_seq ?_
        refine aw_reg [(3, .call [(true, Sv (bits.extract (p + 20).toNat (bits.size : Int).toNat)), (true, I 32)] true (I (rdN (bits.extract (p + 20).toNat (bits.size : Int).toNat) 32)))] [1, 2, 11] [] [I (p + 20), I k, I (rdN (bits.extract (p + 20).toNat (bits.size : Int).toNat) 32)] [] [(0 : Int) ≤ (p + 20) ∧ (p + 20) ≤ (bits.size : Int) ∧ (bits.size : Int) ≤ (bits.size : Int), Con Tryd.prog 63 [Sv (bits.extract (p + 20).toNat (bits.size : Int).toNat), I 32] true (I (rdN (bits.extract (p + 20).toNat (bits.size : Int).toNat) 32)) ∧ ((Sv (bits.extract (p + 20).toNat (bits.size : Int).toNat) : AV) = Sv (bits.extract (p + 20).toNat (bits.size : Int).toNat)) ∧ ((I 32 : AV) = I 32) ∧ True] (by kernel_rfl) hB ⟨⟨(by omega), (by omega), (by omega)⟩, ⟨(readNumber_ok (bits.extract (p + 20).toNat (bits.size : Int).toNat) 32 (hbx (by omega)) (by rw [bext_size]; omega) (by rw [bext_size]; omega)), rfl, rfl, trivial⟩, trivial⟩ ?_
        refine ae_then ?_
        refine aw_seq ?_
        refine aw_seq ?_
        refine aw_reg [(1, .call [(true, I (rdN (bits.extract (p + 20).toNat (bits.size : Int).toNat) 32))] true (I (unfoldI (rdN (bits.extract (p + 20).toNat (bits.size : Int).toNat) 32))))] [1, 2, 11, 12] [] [I (p + 20), I k, I (rdN (bits.extract (p + 20).toNat (bits.size : Int).toNat) 32), I (unfoldI (rdN (bits.extract (p + 20).toNat (bits.size : Int).toNat) 32))] [] [Con Tryd.prog 64 [I (rdN (bits.extract (p + 20).toNat (bits.size : Int).toNat) 32)] true (I (unfoldI (rdN (bits.extract (p + 20).toNat (bits.size : Int).toNat) 32))) ∧ ((I (rdN (bits.extract (p + 20).toNat (bits.size : Int).toNat) 32) : AV) = I (rdN (bits.extract (p + 20).toNat (bits.size : Int).toNat) 32)) ∧ True] (by kernel_rfl) hB ⟨⟨(unfolded_ok (rdN (bits.extract (p + 20).toNat (bits.size : Int).toNat) 32) (by omega)), rfl, trivial⟩, trivial⟩ ?_
        refine ae_then ?_
        refine aw_seq ?_
        rcases Bool.eq_false_or_eq_true (resid (unfoldI (rdN (bits.extract (p + 20).toNat (bits.size : Int).toNat) 32))) with h16 | h16
        · by_cases h17 : ((rdN (bits.extract (p + 20).toNat (bits.size : Int).toNat) 32) / ((2 ^ k.toNat : Nat) : Int)) < 20
          · refine aw_reg [(1, .call [(true, I (unfoldI (rdN (bits.extract (p + 20).toNat (bits.size : Int).toNat) 32)))] true (Bv true)), (7, .dec true)] [1, 11, 52] [] [I (p + 20), I (rdN (bits.extract (p + 20).toNat (bits.size : Int).toNat) 32), Bv true] [] [Con Tryd.prog 48 [I (unfoldI (rdN (bits.extract (p + 20).toNat (bits.size : Int).toNat) 32))] true (Bv true) ∧ ((I (unfoldI (rdN (bits.extract (p + 20).toNat (bits.size : Int).toNat) 32)) : AV) = I (unfoldI (rdN (bits.extract (p + 20).toNat (bits.size : Int).toNat) 32))) ∧ True, (0 : Int) ≤ k ∧ k ≤ ((IntKind.bits .i64 : Nat) : Int), ((rdN (bits.extract (p + 20).toNat (bits.size : Int).toNat) 32) / ((2 ^ k.toNat : Nat) : Int)) < 20] (by kernel_rfl) hB ⟨⟨(con_bool h16 (isResidual_ok (unfoldI (rdN (bits.extract (p + 20).toNat (bits.size : Int).toNat) 32)))), rfl, trivial⟩, ⟨(by omega), (show k ≤ (64 : Int) from by omega)⟩, h17, trivial⟩ ?_
            refine ae_then ?_
            refine aw_true rfl ?_
            refine aw_seq ?_
            refine aw_reg [] [6, 7, 8] [] [I 0, I 0, I 8] [] [] (by kernel_rfl) hB trivial ?_
            refine ae_then ?_
            refine aw_ret ?_
            refine ae_ret_then (ae_ret_then ?_)
            refine ae_ret hB (.tup [I 0, I 0, I 8]) (by kernel_rfl) (.inl (by first | (rw [rd_t (o := ones) ho hon (by assumption) (by assumption)]; done) | (rw [rd_v (o := ones) ho hon (by assumption) (by assumption)]; rfl) | (rw [rd_20t ho2 (by assumption)]; done) | (rw [rd_20v ho2 (by assumption) (by assumption) (by assumption)]; rfl) | (rw [rd_20f ho2 (by assumption) (by simp_all)]; done))) rfl (fun _ => (by simp [tagged, taggedL]))
          · refine aw_reg [(1, .call [(true, I (unfoldI (rdN (bits.extract (p + 20).toNat (bits.size : Int).toNat) 32)))] true (Bv true)), (7, .dec false)] [1, 11, 52] [] [I (p + 20), I (rdN (bits.extract (p + 20).toNat (bits.size : Int).toNat) 32), Bv false] [] [Con Tryd.prog 48 [I (unfoldI (rdN (bits.extract (p + 20).toNat (bits.size : Int).toNat) 32))] true (Bv true) ∧ ((I (unfoldI (rdN (bits.extract (p + 20).toNat (bits.size : Int).toNat) 32)) : AV) = I (unfoldI (rdN (bits.extract (p + 20).toNat (bits.size : Int).toNat) 32))) ∧ True, (0 : Int) ≤ k ∧ k ≤ ((IntKind.bits .i64 : Nat) : Int), ¬ (((rdN (bits.extract (p + 20).toNat (bits.size : Int).toNat) 32) / ((2 ^ k.toNat : Nat) : Int)) < 20)] (by kernel_rfl) hB ⟨⟨(con_bool h16 (isResidual_ok (unfoldI (rdN (bits.extract (p + 20).toNat (bits.size : Int).toNat) 32)))), rfl, trivial⟩, ⟨(by omega), (show k ≤ (64 : Int) from by omega)⟩, h17, trivial⟩ ?_
            refine ae_then ?_
            refine aw_false rfl ?_
            refine aw_skip ?_
            refine ae_then ?_
            refine aw_seq ?_
            refine aw_reg [(1, .call [(true, I (rdN (bits.extract (p + 20).toNat (bits.size : Int).toNat) 32))] true (I (unfoldI (rdN (bits.extract (p + 20).toNat (bits.size : Int).toNat) 32))))] [6, 7, 8] [] [I (unfoldI (rdN (bits.extract (p + 20).toNat (bits.size : Int).toNat) 32)), I ((p + 20) + 32), I 0] [] [Con Tryd.prog 64 [I (rdN (bits.extract (p + 20).toNat (bits.size : Int).toNat) 32)] true (I (unfoldI (rdN (bits.extract (p + 20).toNat (bits.size : Int).toNat) 32))) ∧ ((I (rdN (bits.extract (p + 20).toNat (bits.size : Int).toNat) 32) : AV) = I (rdN (bits.extract (p + 20).toNat (bits.size : Int).toNat) 32)) ∧ True, inR .i64 ((p + 20) + 32)] (by kernel_rfl) hB ⟨⟨(unfolded_ok (rdN (bits.extract (p + 20).toNat (bits.size : Int).toNat) 32) (by omega)), rfl, trivial⟩, (inR_i64 (by omega) (by omega)), trivial⟩ ?_
            refine ae_then ?_
            refine aw_ret ?_
            refine ae_ret_then ?_
            refine ae_ret hB (.tup [I (unfoldI (rdN (bits.extract (p + 20).toNat (bits.size : Int).toNat) 32)), I ((p + 20) + 32), I 0]) (by kernel_rfl) (.inl (by first | (rw [rd_t (o := ones) ho hon (by assumption) (by assumption)]; done) | (rw [rd_v (o := ones) ho hon (by assumption) (by assumption)]; rfl) | (rw [rd_20t ho2 (by assumption)]; done) | (rw [rd_20v ho2 (by assumption) (by assumption) (by assumption)]; rfl) | (rw [rd_20f ho2 (by assumption) (by simp_all)]; done))) rfl (fun _ => (by simp [tagged, taggedL]))
        · refine aw_reg [(1, .call [(true, I (unfoldI (rdN (bits.extract (p + 20).toNat (bits.size : Int).toNat) 32)))] true (Bv false))] [1, 11, 52] [] [I (p + 20), I (rdN (bits.extract (p + 20).toNat (bits.size : Int).toNat) 32), Bv true] [] [Con Tryd.prog 48 [I (unfoldI (rdN (bits.extract (p + 20).toNat (bits.size : Int).toNat) 32))] true (Bv false) ∧ ((I (unfoldI (rdN (bits.extract (p + 20).toNat (bits.size : Int).toNat) 32)) : AV) = I (unfoldI (rdN (bits.extract (p + 20).toNat (bits.size : Int).toNat) 32))) ∧ True] (by kernel_rfl) hB ⟨⟨(con_bool h16 (isResidual_ok (unfoldI (rdN (bits.extract (p + 20).toNat (bits.size : Int).toNat) 32)))), rfl, trivial⟩, trivial⟩ ?_
          refine ae_then ?_
          refine aw_true rfl ?_
          refine aw_seq ?_
          refine aw_reg [] [6, 7, 8] [] [I 0, I 0, I 8] [] [] (by kernel_rfl) hB trivial ?_
          refine ae_then ?_
          refine aw_ret ?_
          refine ae_ret_then (ae_ret_then ?_)
          refine ae_ret hB (.tup [I 0, I 0, I 8]) (by kernel_rfl) (.inl (by first | (rw [rd_t (o := ones) ho hon (by assumption) (by assumption)]; done) | (rw [rd_v (o := ones) ho hon (by assumption) (by assumption)]; rfl) | (rw [rd_20t ho2 (by assumption)]; done) | (rw [rd_20v ho2 (by assumption) (by assumption) (by assumption)]; rfl) | (rw [rd_20f ho2 (by assumption) (by simp_all)]; done))) rfl (fun _ => (by simp [tagged, taggedL]))
    · subst hp_
      have hsh := ones_shl hon hk
      have hbx := @bits_ext bits ok
      have hrb : (bits.size : Int) - (p + ones) < 1 + k ∨ (0 ≤ rdN (bits.extract (p + ones + 1).toNat (bits.size : Int).toNat) k.toNat ∧ rdN (bits.extract (p + ones + 1).toNat (bits.size : Int).toNat) k.toNat < ((2 ^ k.toNat : Nat) : Int)) := by by_cases hq : (bits.size : Int) - (p + ones) < 1 + k; (exact .inl hq); (exact .inr (rdN_bd (hbx (by omega))))
      have hp12 : ((2 ^ k.toNat : Nat) : Int) ≤ 4096 := Int.ofNat_le.2 (Nat.pow_le_pow_right (by decide) (by omega : k.toNat ≤ 12))
      refine aw_reg [(1, .dec false)] [0, 1, 2, 9, 10, 33] [] [Sv bits, I (p + ones), I k, I (bits.size : Int), I ones, Bv false] [] [¬ (ones = 20)] (by kernel_rfl) hB ⟨h14, trivial⟩ ?_
      refine ae_then ?_
      refine aw_false rfl ?_
      refine aw_skip ?_
      refine ae_then ?_
      refine aw_seq ?_
      refine aw_seq ?_
      by_cases h18 : ((bits.size : Int) - (p + ones)) < (1 + k)
      · refine aw_reg [(5, .dec true)] [0, 1, 2, 10, 62] [] [Sv bits, I (p + ones), I k, I ones, Bv true] [] [inR .i64 ((bits.size : Int) - (p + ones)), inR .i64 (1 + k), ((bits.size : Int) - (p + ones)) < (1 + k)] (by kernel_rfl) hB ⟨(inR_i64 (by omega) (by omega)), (inR_i64 (by omega) (by omega)), h18, trivial⟩ ?_
        refine ae_then ?_
        refine aw_true rfl ?_
        refine aw_seq ?_
        refine aw_reg [] [6, 7, 8] [] [I 0, I 0, I 9] [] [] (by kernel_rfl) hB trivial ?_
        refine ae_then ?_
        refine aw_ret ?_
        refine ae_ret_then ?_
        refine ae_ret hB (.tup [I 0, I 0, I 9]) (by kernel_rfl) (.inl (by first | (rw [rd_t (o := ones) ho hon (by assumption) (by assumption)]; done) | (rw [rd_v (o := ones) ho hon (by assumption) (by assumption)]; rfl) | (rw [rd_20t ho2 (by assumption)]; done) | (rw [rd_20v ho2 (by assumption) (by assumption) (by assumption)]; rfl) | (rw [rd_20f ho2 (by assumption) (by simp_all)]; done))) rfl (fun _ => (by simp [tagged, taggedL]))
      · refine aw_reg [(5, .dec false)] [0, 1, 2, 10, 62] [] [Sv bits, I (p + ones), I k, I ones, Bv false] [] [inR .i64 ((bits.size : Int) - (p + ones)), inR .i64 (1 + k), ¬ (((bits.size : Int) - (p + ones)) < (1 + k))] (by kernel_rfl) hB ⟨(inR_i64 (by omega) (by omega)), (inR_i64 (by omega) (by omega)), h18, trivial⟩ ?_
        refine ae_then ?_
        refine aw_false rfl ?_
        refine aw_skip ?_
        refine ae_then ?_
        refine aw_seq ?_
        refine aw_reg [(8, .call [(true, Sv (bits.extract ((p + ones) + 1).toNat (bits.size : Int).toNat)), (true, I k)] true (I (rdN (bits.extract ((p + ones) + 1).toNat (bits.size : Int).toNat) k.toNat))), (10, .call [(true, I ((ones * ((2 ^ k.toNat : Nat) : Int)) + (rdN (bits.extract ((p + ones) + 1).toNat (bits.size : Int).toNat) k.toNat)))] true (I (unfoldI ((ones * ((2 ^ k.toNat : Nat) : Int)) + (rdN (bits.extract ((p + ones) + 1).toNat (bits.size : Int).toNat) k.toNat)))))] [6, 7, 8] [] [I (unfoldI ((ones * ((2 ^ k.toNat : Nat) : Int)) + (rdN (bits.extract ((p + ones) + 1).toNat (bits.size : Int).toNat) k.toNat))), I (((p + ones) + 1) + k), I 0] [] [(0 : Int) ≤ k ∧ k ≤ ((IntKind.bits .i64 : Nat) : Int) ∧ inR .i64 (ones * ((2 ^ k.toNat : Nat) : Int)), inR .i64 ((p + ones) + 1), (0 : Int) ≤ ((p + ones) + 1) ∧ ((p + ones) + 1) ≤ (bits.size : Int) ∧ (bits.size : Int) ≤ (bits.size : Int), Con Tryd.prog 63 [Sv (bits.extract ((p + ones) + 1).toNat (bits.size : Int).toNat), I k] true (I (rdN (bits.extract ((p + ones) + 1).toNat (bits.size : Int).toNat) k.toNat)) ∧ ((Sv (bits.extract ((p + ones) + 1).toNat (bits.size : Int).toNat) : AV) = Sv (bits.extract ((p + ones) + 1).toNat (bits.size : Int).toNat)) ∧ ((I k : AV) = I k) ∧ True, inR .i64 ((ones * ((2 ^ k.toNat : Nat) : Int)) + (rdN (bits.extract ((p + ones) + 1).toNat (bits.size : Int).toNat) k.toNat)), Con Tryd.prog 64 [I ((ones * ((2 ^ k.toNat : Nat) : Int)) + (rdN (bits.extract ((p + ones) + 1).toNat (bits.size : Int).toNat) k.toNat))] true (I (unfoldI ((ones * ((2 ^ k.toNat : Nat) : Int)) + (rdN (bits.extract ((p + ones) + 1).toNat (bits.size : Int).toNat) k.toNat)))) ∧ ((I ((ones * ((2 ^ k.toNat : Nat) : Int)) + (rdN (bits.extract ((p + ones) + 1).toNat (bits.size : Int).toNat) k.toNat)) : AV) = I ((ones * ((2 ^ k.toNat : Nat) : Int)) + (rdN (bits.extract ((p + ones) + 1).toNat (bits.size : Int).toNat) k.toNat))) ∧ True, inR .i64 ((p + ones) + 1), inR .i64 (((p + ones) + 1) + k)] (by kernel_rfl) hB ⟨⟨(by omega), (show k ≤ (64 : Int) from by omega), (inR_i64 (by omega) (by omega))⟩, (inR_i64 (by omega) (by omega)), ⟨(by omega), (by omega), (by omega)⟩, ⟨(readNumber_ok (bits.extract ((p + ones) + 1).toNat (bits.size : Int).toNat) k (hbx (by omega)) (by rw [bext_size]; omega) (by rw [bext_size]; omega)), rfl, rfl, trivial⟩, (inR_i64 (by omega) (by omega)), ⟨(unfolded_ok ((ones * ((2 ^ k.toNat : Nat) : Int)) + (rdN (bits.extract ((p + ones) + 1).toNat (bits.size : Int).toNat) k.toNat)) (by omega)), rfl, trivial⟩, (inR_i64 (by omega) (by omega)), (inR_i64 (by omega) (by omega)), trivial⟩ ?_
        refine ae_then ?_
        refine aw_ret ?_
        refine ae_ret hB (.tup [I (unfoldI ((ones * ((2 ^ k.toNat : Nat) : Int)) + (rdN (bits.extract ((p + ones) + 1).toNat (bits.size : Int).toNat) k.toNat))), I (((p + ones) + 1) + k), I 0]) (by kernel_rfl) (.inl (by first | (rw [rd_t (o := ones) ho hon (by assumption) (by assumption)]; done) | (rw [rd_v (o := ones) ho hon (by assumption) (by assumption)]; rfl) | (rw [rd_20t ho2 (by assumption)]; done) | (rw [rd_20v ho2 (by assumption) (by assumption) (by assumption)]; rfl) | (rw [rd_20f ho2 (by assumption) (by simp_all)]; done))) rfl (fun _ => (by simp [tagged, taggedL]))


-- impl.ReadRice
theorem ReadRice_ok (bits : ByteArray) (p : Int) (k : Int) (okl : bits.size ≤ 9223372036854775807) : Con Tryd.prog 28 [Sv bits, I p, I k] true (.tup [I ((rdRiceR bits p k).1), I ((rdRiceR bits p k).2.1), I ((rdRiceR bits p k).2.2)]) := by
  refine fn_ok (fn := Tryd.f28) (nt := 29) Tryd.func28 rfl rfl rfl rfl (by simp [taggedL, tagged]) fun B hB => ?_
  refine aw_seq ?_
  refine aw_reg [] [0, 1, 2] [] [Sv bits, I p, I k] [] [] (by kernel_rfl) hB trivial ?_
  refine ae_then ?_
  refine aw_seq ?_
  refine aw_seq ?_
  rcases Bool.eq_false_or_eq_true (okBits bits) with h1 | h1
  · refine aw_reg [(1, .call [(true, Sv bits)] true (Bv true))] [0, 1, 2, 11] [] [Sv bits, I p, I k, Bv false] [] [Con Tryd.prog 50 [Sv bits] true (Bv true) ∧ ((Sv bits : AV) = Sv bits) ∧ True] (by kernel_rfl) hB ⟨⟨(con_bool h1 (areBits_ok bits okl)), rfl, trivial⟩, trivial⟩ ?_
    refine ae_then ?_
    refine aw_false rfl ?_
    refine aw_skip ?_
    refine ae_then ?_
    refine aw_seq ?_
    refine aw_seq ?_
    rcases Bool.eq_false_or_eq_true (inB k 0 12) with h2 | h2
    · have hinh2 := inB_iff.1 h2
      rcases Bool.eq_false_or_eq_true (inB p 0 (bits.size : Int)) with h3 | h3
      · have hinh3 := inB_iff.1 h3
        refine aw_reg [(1, .call [(true, I k), (true, I 0), (true, I 12)] true (Bv true)), (7, .call [(true, I p), (true, I 0), (true, I (bits.size : Int))] true (Bv true))] [0, 1, 2, 21] [] [Sv bits, I p, I k, Bv false] [] [Con Tryd.prog 41 [I k, I 0, I 12] true (Bv true) ∧ ((I k : AV) = I k) ∧ ((I 0 : AV) = I 0) ∧ ((I 12 : AV) = I 12) ∧ True, Con Tryd.prog 41 [I p, I 0, I (bits.size : Int)] true (Bv true) ∧ ((I p : AV) = I p) ∧ ((I 0 : AV) = I 0) ∧ ((I (bits.size : Int) : AV) = I (bits.size : Int)) ∧ True] (by kernel_rfl) hB ⟨⟨(con_bool h2 (within_ok k 0 12)), rfl, rfl, rfl, trivial⟩, ⟨(con_bool h3 (within_ok p 0 (bits.size : Int))), rfl, rfl, rfl, trivial⟩, trivial⟩ ?_
        refine ae_then ?_
        refine aw_false rfl ?_
        refine aw_skip ?_
        refine ae_then ?_
        refine aw_seq ?_
        refine aw_reg [(3, .call [(true, Sv bits), (true, I p), (true, I k)] true (.tup [I ((rdRice bits p k).1), I ((rdRice bits p k).2.1), I ((rdRice bits p k).2.2)]))] [6, 7, 8] [] [I ((rdRice bits p k).1), I ((rdRice bits p k).2.1), I ((rdRice bits p k).2.2)] [] [Con Tryd.prog 51 [Sv bits, I p, I k] true (.tup [I ((rdRice bits p k).1), I ((rdRice bits p k).2.1), I ((rdRice bits p k).2.2)]) ∧ ((Sv bits : AV) = Sv bits) ∧ ((I p : AV) = I p) ∧ ((I k : AV) = I k) ∧ True] (by kernel_rfl) hB ⟨⟨(readRice_ok bits p k (by assumption) (by omega) (by omega)), rfl, rfl, rfl, trivial⟩, trivial⟩ ?_
        refine ae_then ?_
        refine aw_ret ?_
        refine ae_ret hB (.tup [I ((rdRice bits p k).1), I ((rdRice bits p k).2.1), I ((rdRice bits p k).2.2)]) (by kernel_rfl) (.inl (by simp [rdRiceR, *])) rfl (fun _ => (by simp [tagged, taggedL]))
      · have hinh3 := (not_congr inB_iff).1 (Bool.eq_false_iff.1 h3)
        refine aw_reg [(1, .call [(true, I k), (true, I 0), (true, I 12)] true (Bv true)), (7, .call [(true, I p), (true, I 0), (true, I (bits.size : Int))] true (Bv false))] [0, 1, 2, 21] [] [Sv bits, I p, I k, Bv true] [] [Con Tryd.prog 41 [I k, I 0, I 12] true (Bv true) ∧ ((I k : AV) = I k) ∧ ((I 0 : AV) = I 0) ∧ ((I 12 : AV) = I 12) ∧ True, Con Tryd.prog 41 [I p, I 0, I (bits.size : Int)] true (Bv false) ∧ ((I p : AV) = I p) ∧ ((I 0 : AV) = I 0) ∧ ((I (bits.size : Int) : AV) = I (bits.size : Int)) ∧ True] (by kernel_rfl) hB ⟨⟨(con_bool h2 (within_ok k 0 12)), rfl, rfl, rfl, trivial⟩, ⟨(con_bool h3 (within_ok p 0 (bits.size : Int))), rfl, rfl, rfl, trivial⟩, trivial⟩ ?_
        refine ae_then ?_
        refine aw_true rfl ?_
        refine aw_seq ?_
        refine aw_reg [] [6, 7, 8] [] [I 0, I 0, I 2] [] [] (by kernel_rfl) hB trivial ?_
        refine ae_then ?_
        refine aw_ret ?_
        refine ae_ret_then ?_
        refine ae_ret hB (.tup [I 0, I 0, I 2]) (by kernel_rfl) (.inl (by simp [rdRiceR, *])) rfl (fun _ => (by simp [tagged, taggedL]))
    · have hinh2 := (not_congr inB_iff).1 (Bool.eq_false_iff.1 h2)
      refine aw_reg [(1, .call [(true, I k), (true, I 0), (true, I 12)] true (Bv false))] [0, 1, 2, 21] [] [Sv bits, I p, I k, Bv true] [] [Con Tryd.prog 41 [I k, I 0, I 12] true (Bv false) ∧ ((I k : AV) = I k) ∧ ((I 0 : AV) = I 0) ∧ ((I 12 : AV) = I 12) ∧ True] (by kernel_rfl) hB ⟨⟨(con_bool h2 (within_ok k 0 12)), rfl, rfl, rfl, trivial⟩, trivial⟩ ?_
      refine ae_then ?_
      refine aw_true rfl ?_
      refine aw_seq ?_
      refine aw_reg [] [6, 7, 8] [] [I 0, I 0, I 2] [] [] (by kernel_rfl) hB trivial ?_
      refine ae_then ?_
      refine aw_ret ?_
      refine ae_ret_then ?_
      refine ae_ret hB (.tup [I 0, I 0, I 2]) (by kernel_rfl) (.inl (by simp [rdRiceR, *])) rfl (fun _ => (by simp [tagged, taggedL]))
  · refine aw_reg [(1, .call [(true, Sv bits)] true (Bv false))] [0, 1, 2, 11] [] [Sv bits, I p, I k, Bv true] [] [Con Tryd.prog 50 [Sv bits] true (Bv false) ∧ ((Sv bits : AV) = Sv bits) ∧ True] (by kernel_rfl) hB ⟨⟨(con_bool h1 (areBits_ok bits okl)), rfl, trivial⟩, trivial⟩ ?_
    refine ae_then ?_
    refine aw_true rfl ?_
    refine aw_seq ?_
    refine aw_reg [] [6, 7, 8] [] [I 0, I 0, I 7] [] [] (by kernel_rfl) hB trivial ?_
    refine ae_then ?_
    refine aw_ret ?_
    refine ae_ret_then ?_
    refine ae_ret hB (.tup [I 0, I 0, I 7]) (by kernel_rfl) (.inl (by simp [rdRiceR, *])) rfl (fun _ => (by simp [tagged, taggedL]))


-- laws.FnRice
theorem fnRice_con (code : List Int) (more : List Int) (ok_code : ∀ y ∈ code, inR .u8 y) (ok_more : ∀ y ∈ more, inR .u8 y) : Con Tryd.prog 4 [slU8 false code, slU8 false more] true (Bv true) := by
  refine fn_ok (fn := Tryd.f4) (nt := 105) Tryd.func4 rfl rfl rfl rfl (by simp [taggedL, tagged, tagU8]) fun B hB => ?_
  refine aw_lens (x := slU8 false code) 0 rfl (fun len_code => ?_)
  simp [LenOK, LenL, cU8, fU8, slU8] at len_code
  refine aw_lens (x := slU8 false more) 1 rfl (fun len_more => ?_)
  simp [LenOK, LenL, cU8, fU8, slU8] at len_more
  refine aw_seq ?_
  refine aw_reg [] [0, 1] [] [slU8 false code, slU8 false more] [] [] (by kernel_rfl) hB trivial ?_
  refine ae_then ?_
  refine aw_seq ?_
  refine aw_seq ?_
  rcases Bool.eq_false_or_eq_true (decide (3000 < (code.length : Int) ∨ 3000 < (more.length : Int))) with h1 | h1
  · refine aw_reg [(2, .call [(true, slU8 false code), (true, slU8 false more)] true (Bv true))] [0, 1, 21] [] [slU8 false code, slU8 false more, Bv true] [] [Con Tryd.prog 24 [slU8 false code, slU8 false more] true (Bv true) ∧ ((slU8 false code : AV) = slU8 false code) ∧ ((slU8 false more : AV) = slU8 false more) ∧ True] (by kernel_rfl) hB ⟨⟨(con_bool h1 (a2Long_ok code more)), rfl, rfl, trivial⟩, trivial⟩ ?_
    refine ae_then ?_
    refine aw_true rfl ?_
    refine aw_seq ?_
    refine aw_reg [] [4] [] [Bv true] [] [] (by kernel_rfl) hB trivial ?_
    refine ae_then ?_
    refine aw_ret ?_
    refine ae_ret_then ?_
    refine ae_ret hB (Bv true) (by kernel_rfl) (.inl rfl) rfl (fun _ => trivial)
  · have hc : (∀ j, j < code.length → 0 ≤ at_ code j ∧ at_ code j ≤ 255) ∧ code.length ≤ 4611686018427387904 := ⟨fun j hj => ok_code _ (at_mem hj), by first | omega | (simp at h1; omega)⟩
    have hmore : (∀ j, j < more.length → 0 ≤ at_ more j ∧ at_ more j ≤ 255) ∧ more.length ≤ 4611686018427387904 := ⟨fun j hj => ok_more _ (at_mem hj), by first | omega | (simp at h1; omega)⟩
    refine aw_reg [(2, .call [(true, slU8 false code), (true, slU8 false more)] true (Bv false))] [0, 1, 21] [] [slU8 false code, slU8 false more, Bv false] [] [Con Tryd.prog 24 [slU8 false code, slU8 false more] true (Bv false) ∧ ((slU8 false code : AV) = slU8 false code) ∧ ((slU8 false more : AV) = slU8 false more) ∧ True] (by kernel_rfl) hB ⟨⟨(con_bool h1 (a2Long_ok code more)), rfl, rfl, trivial⟩, trivial⟩ ?_
    refine ae_then ?_
    refine aw_false rfl ?_
    refine aw_skip ?_
    refine ae_then ?_
    refine aw_seq ?_
    obtain ⟨v_1, hx1_0, hx1_1, hc1⟩ := A2Numbers_ok code (by assumption)
    have hK0 := a2At_bd more 0 (n := 13) (by decide)
    refine aw_reg [(1, .call [(true, slU8 false code)] true (slI true v_1))] [1, 5] [] [slU8 false more, slI true v_1] [] [Con Tryd.prog 25 [slU8 false code] true (slI true v_1) ∧ ((slU8 false code : AV) = slU8 false code) ∧ True] (by kernel_rfl) hB ⟨⟨hc1, rfl, trivial⟩, trivial⟩ ?_
    refine ae_then ?_
    refine aw_seq ?_
    refine aw_reg [(1, .call [(true, slU8 false more), (true, I 0), (true, I 13)] true (I (a2AtI more 0 13)))] [5, 6] [] [slI true v_1, I (a2AtI more 0 13)] [] [Con Tryd.prog 26 [slU8 false more, I 0, I 13] true (I (a2AtI more 0 13)) ∧ ((slU8 false more : AV) = slU8 false more) ∧ ((I 0 : AV) = I 0) ∧ ((I 13 : AV) = I 13) ∧ True] (by kernel_rfl) hB ⟨⟨(a2At_ok more 0 13 hmore.1 (by omega)), rfl, rfl, rfl, trivial⟩, trivial⟩ ?_
    refine ae_then ?_
    refine aw_seq ?_
    refine aw_reg [] [5, 6, 7] [] [slI true v_1, I (a2AtI more 0 13), Sv (⟨#[]⟩ : ByteArray)] [] [] (by kernel_rfl) hB trivial ?_
    refine ae_then ?_
    refine aw_seq ?_
    refine aw_seq ?_
    refine aw_reg [] [5, 6, 7, 8] [] [slI true v_1, I (a2AtI more 0 13), Sv (⟨#[]⟩ : ByteArray), I 0] [] [] (by kernel_rfl) hB trivial ?_
    refine ae_then ?_
    refine aw_block ?_
    refine aw_loop (fun gn gσ => ∃ (bits : ByteArray) (i : Int), gn = ((v_1.length : Int) - i).toNat ∧ (0 ≤ i ∧ i ≤ (v_1.length : Int)) ∧ (bits = catB v_1 (a2AtI more 0 13) i.toNat) ∧ gσ = mkS [(5, slI true v_1), (6, I (a2AtI more 0 13)), (7, Sv bits), (8, I i)] []) (((v_1.length : Int) - 0).toNat) ⟨(⟨#[]⟩ : ByteArray), 0, rfl, (by omega), (by rfl), rfl⟩ (fun gn gσ hI => ?_)
    obtain ⟨bits, i, rfl, hi0, hb0, rfl⟩ := hI
    refine aw_seq ?_
    refine aw_seq ?_
    by_cases h2 : i < (v_1.length : Int)
    · have hi : i.toNat < v_1.length := by omega
      have hx := hx1_1 _ (at_mem hi)
      have hrc := riceR_eq (n := at_ v_1 i.toNat - 2000) (k := (a2AtI more 0 13)) (by omega) (by omega)
      have hrs := riceB_le (n := at_ v_1 i.toNat - 2000) (k := (a2AtI more 0 13)) (by omega) (by omega)
      have h2r : (riceR (at_ v_1 i.toNat - 2000) (a2AtI more 0 13)).2 = 0 := by rw [hrc]
      have h4r : (riceR (at_ v_1 i.toNat - 2000) (a2AtI more 0 13)).1.size ≤ 52 := by rw [hrc]; exact hrs.2
      have h3r : ¬ (100 : Int) < ((riceR (at_ v_1 i.toNat - 2000) (a2AtI more 0 13)).1.size : Int) := by omega
      have hcs := catB_size (l := v_1) (k := (a2AtI more 0 13)) (by omega) hx1_1 (m := i.toNat) (by omega)
      rw [← hb0] at hcs
      refine aw_reg [(3, .dec true)] [5, 6, 7, 8, 29] [] [slI true v_1, I (a2AtI more 0 13), Sv bits, I i, Bv true] [] [i < (v_1.length : Int)] (by kernel_rfl) hB ⟨h2, trivial⟩ ?_
      refine ae_then ?_
      refine aw_true rfl ?_
      refine aw_skip ?_
      refine ae_then ?_
      refine aw_seq ?_
      refine aw_block ?_
      refine aw_seq ?_
      refine aw_reg [(6, .call [(true, I ((at_ v_1 i.toNat) - 2000)), (true, I (a2AtI more 0 13))] true (.tup [Sv ((riceR ((at_ v_1 i.toNat) - 2000) (a2AtI more 0 13)).1), I ((riceR ((at_ v_1 i.toNat) - 2000) (a2AtI more 0 13)).2)]))] [5, 6, 7, 8, 9, 10] [] [slI true v_1, I (a2AtI more 0 13), Sv bits, I i, Sv ((riceR ((at_ v_1 i.toNat) - 2000) (a2AtI more 0 13)).1), I ((riceR ((at_ v_1 i.toNat) - 2000) (a2AtI more 0 13)).2)] [] [(0 : Int) ≤ i ∧ i < (v_1.length : Int), inR .i64 ((at_ v_1 i.toNat) - 2000), Con Tryd.prog 27 [I ((at_ v_1 i.toNat) - 2000), I (a2AtI more 0 13)] true (.tup [Sv ((riceR ((at_ v_1 i.toNat) - 2000) (a2AtI more 0 13)).1), I ((riceR ((at_ v_1 i.toNat) - 2000) (a2AtI more 0 13)).2)]) ∧ ((I ((at_ v_1 i.toNat) - 2000) : AV) = I ((at_ v_1 i.toNat) - 2000)) ∧ ((I (a2AtI more 0 13) : AV) = I (a2AtI more 0 13)) ∧ True] (by kernel_rfl) hB ⟨⟨(by omega), (by omega)⟩, (inR_i64 (by omega) (by omega)), ⟨(RiceBits_ok ((at_ v_1 i.toNat) - 2000) (a2AtI more 0 13)), rfl, rfl, trivial⟩, trivial⟩ ?_
      refine ae_then ?_
      refine aw_seq ?_
      refine aw_seq ?_
      refine aw_reg [(1, .dec false), (5, .dec false)] [5, 6, 7, 8, 9, 48] [] [slI true v_1, I (a2AtI more 0 13), Sv bits, I i, Sv ((riceR ((at_ v_1 i.toNat) - 2000) (a2AtI more 0 13)).1), Bv false] [] [¬ (((riceR ((at_ v_1 i.toNat) - 2000) (a2AtI more 0 13)).2) ≠ 0), ¬ (100 < (((riceR ((at_ v_1 i.toNat) - 2000) (a2AtI more 0 13)).1).size : Int))] (by kernel_rfl) hB ⟨(fun hq => hq h2r), h3r, trivial⟩ ?_
      refine ae_then ?_
      refine aw_false rfl ?_
      refine aw_skip ?_
      refine ae_then ?_
      refine aw_reg [] [5, 6, 7, 8] [] [slI true v_1, I (a2AtI more 0 13), Sv (bits ++ ((riceR ((at_ v_1 i.toNat) - 2000) (a2AtI more 0 13)).1)), I i] [] [bits.size + ((riceR ((at_ v_1 i.toNat) - 2000) (a2AtI more 0 13)).1).size ≤ 9223372036854775807] (by kernel_rfl) hB ⟨(by omega), trivial⟩ ?_
      refine ae_block 1 ?_
      refine ae_then ?_
      refine aw_reg [] [5, 6, 7, 8] [] [slI true v_1, I (a2AtI more 0 13), Sv (bits ++ ((riceR ((at_ v_1 i.toNat) - 2000) (a2AtI more 0 13)).1)), I (i + 1)] [] [inR .i64 (i + 1)] (by kernel_rfl) hB ⟨(inR_i64 (by omega) (by omega)), trivial⟩ ?_
      exact ae_again _ (by omega) ⟨(bits ++ ((riceR ((at_ v_1 i.toNat) - 2000) (a2AtI more 0 13)).1)), (i + 1), rfl, (by omega), (by rw [catB_succ hi0.1, ← hb0, hrc]), rfl⟩
    · have hie : i.toNat = v_1.length := by omega
      rw [hie] at hb0
      subst hb0
      have hcs := catB_size (l := v_1) (k := (a2AtI more 0 13)) (by omega) hx1_1 (m := v_1.length) (Nat.le_refl _)
      have okb : okBits (catB v_1 (a2AtI more 0 13) v_1.length) = true := okBits_iff.2 ⟨by omega, fun j hj => catB_bits hj⟩
      refine aw_reg [(3, .dec false)] [5, 6, 7, 8, 29] [] [slI true v_1, I (a2AtI more 0 13), Sv (catB v_1 (a2AtI more 0 13) v_1.length), I i, Bv false] [] [¬ (i < (v_1.length : Int))] (by kernel_rfl) hB ⟨h2, trivial⟩ ?_
      refine ae_then ?_
      refine aw_false rfl ?_
      refine aw_exit ?_
      refine ae_exit_then ?_
      refine ae_exit_then ?_
      refine ae_exit_same ?_
      refine ae_then ?_
      refine aw_seq ?_
      refine aw_reg [] [5, 6, 7, 11] [] [slI true v_1, I (a2AtI more 0 13), Sv (catB v_1 (a2AtI more 0 13) v_1.length), I 0] [] [] (by kernel_rfl) hB trivial ?_
      refine ae_then ?_
      refine aw_seq ?_
      refine aw_seq ?_
      refine aw_reg [] [5, 6, 7, 11, 12] [] [slI true v_1, I (a2AtI more 0 13), Sv (catB v_1 (a2AtI more 0 13) v_1.length), I 0, I 0] [] [] (by kernel_rfl) hB trivial ?_
      refine ae_then ?_
      refine aw_block ?_
      refine aw_loop (fun gn gσ => ∃ (p_ : Int) (i' : Int), gn = ((v_1.length : Int) - i').toNat ∧ (0 ≤ i' ∧ i' ≤ (v_1.length : Int)) ∧ (p_ = ((catB v_1 (a2AtI more 0 13) i'.toNat).size : Int)) ∧ gσ = mkS [(5, slI true v_1), (6, I (a2AtI more 0 13)), (7, Sv (catB v_1 (a2AtI more 0 13) v_1.length)), (11, I p_), (12, I i')] []) (((v_1.length : Int) - 0).toNat) ⟨0, 0, rfl, (by omega), (by rfl), rfl⟩ (fun gn gσ hI => ?_)
      obtain ⟨p_, i', rfl, hj0, hp0, rfl⟩ := hI
      refine aw_seq ?_
      refine aw_seq ?_
      by_cases h3 : i' < (v_1.length : Int)
      · have hi : i'.toNat < v_1.length := by omega
        have hx := hx1_1 _ (at_mem hi)
        have hss : (catB v_1 (a2AtI more 0 13) (i'.toNat + 1)).size = (catB v_1 (a2AtI more 0 13) i'.toNat).size + (riceB (at_ v_1 i'.toNat - 2000) (a2AtI more 0 13)).size := by rw [catB, ByteArray.size_append]
        have hrs := riceB_le (n := at_ v_1 i'.toNat - 2000) (k := (a2AtI more 0 13)) (by omega) (by omega)
        have hup := (catB_up (l := v_1) (k := (a2AtI more 0 13)) (i := i'.toNat + 1) (m := v_1.length) (by omega)).1
        have hrr : rdRiceR (catB v_1 (a2AtI more 0 13) v_1.length) p_ (a2AtI more 0 13) = (at_ v_1 i'.toNat - 2000, ((catB v_1 (a2AtI more 0 13) (i'.toNat + 1)).size : Int), 0) := by rw [hp0, rdRiceR_eq okb (by omega) (by omega), catB_read hi (by omega) (by omega)]
        refine aw_reg [(3, .dec true)] [5, 6, 7, 11, 12, 55] [] [slI true v_1, I (a2AtI more 0 13), Sv (catB v_1 (a2AtI more 0 13) v_1.length), I p_, I i', Bv true] [] [i' < (v_1.length : Int)] (by kernel_rfl) hB ⟨h3, trivial⟩ ?_
        refine ae_then ?_
        refine aw_true rfl ?_
        refine aw_skip ?_
        refine ae_then ?_
        refine aw_seq ?_
        refine aw_block ?_
        refine aw_seq ?_
        refine aw_reg [(3, .call [(true, Sv (catB v_1 (a2AtI more 0 13) v_1.length)), (true, I p_), (true, I (a2AtI more 0 13))] true (.tup [I ((rdRiceR (catB v_1 (a2AtI more 0 13) v_1.length) p_ (a2AtI more 0 13)).1), I ((rdRiceR (catB v_1 (a2AtI more 0 13) v_1.length) p_ (a2AtI more 0 13)).2.1), I ((rdRiceR (catB v_1 (a2AtI more 0 13) v_1.length) p_ (a2AtI more 0 13)).2.2)]))] [5, 6, 7, 11, 12, 13, 14, 15] [] [slI true v_1, I (a2AtI more 0 13), Sv (catB v_1 (a2AtI more 0 13) v_1.length), I p_, I i', I ((rdRiceR (catB v_1 (a2AtI more 0 13) v_1.length) p_ (a2AtI more 0 13)).1), I ((rdRiceR (catB v_1 (a2AtI more 0 13) v_1.length) p_ (a2AtI more 0 13)).2.1), I ((rdRiceR (catB v_1 (a2AtI more 0 13) v_1.length) p_ (a2AtI more 0 13)).2.2)] [] [Con Tryd.prog 28 [Sv (catB v_1 (a2AtI more 0 13) v_1.length), I p_, I (a2AtI more 0 13)] true (.tup [I ((rdRiceR (catB v_1 (a2AtI more 0 13) v_1.length) p_ (a2AtI more 0 13)).1), I ((rdRiceR (catB v_1 (a2AtI more 0 13) v_1.length) p_ (a2AtI more 0 13)).2.1), I ((rdRiceR (catB v_1 (a2AtI more 0 13) v_1.length) p_ (a2AtI more 0 13)).2.2)]) ∧ ((Sv (catB v_1 (a2AtI more 0 13) v_1.length) : AV) = Sv (catB v_1 (a2AtI more 0 13) v_1.length)) ∧ ((I p_ : AV) = I p_) ∧ ((I (a2AtI more 0 13) : AV) = I (a2AtI more 0 13)) ∧ True] (by kernel_rfl) hB ⟨⟨(ReadRice_ok (catB v_1 (a2AtI more 0 13) v_1.length) p_ (a2AtI more 0 13) (by omega)), rfl, rfl, rfl, trivial⟩, trivial⟩ ?_
        refine ae_then ?_
        refine aw_seq ?_
        refine aw_seq ?_
        refine aw_reg [(1, .dec false), (9, .dec false), (14, .dec false), (20, .dec false)] [5, 6, 7, 12, 14, 87] [] [slI true v_1, I (a2AtI more 0 13), Sv (catB v_1 (a2AtI more 0 13) v_1.length), I i', I ((rdRiceR (catB v_1 (a2AtI more 0 13) v_1.length) p_ (a2AtI more 0 13)).2.1), Bv false] [] [¬ (((rdRiceR (catB v_1 (a2AtI more 0 13) v_1.length) p_ (a2AtI more 0 13)).2.2) ≠ 0), (0 : Int) ≤ i' ∧ i' < (v_1.length : Int), inR .i64 ((at_ v_1 i'.toNat) - 2000), ¬ (((rdRiceR (catB v_1 (a2AtI more 0 13) v_1.length) p_ (a2AtI more 0 13)).1) ≠ ((at_ v_1 i'.toNat) - 2000)), ¬ (((rdRiceR (catB v_1 (a2AtI more 0 13) v_1.length) p_ (a2AtI more 0 13)).2.1) ≤ p_), ¬ (((catB v_1 (a2AtI more 0 13) v_1.length).size : Int) < ((rdRiceR (catB v_1 (a2AtI more 0 13) v_1.length) p_ (a2AtI more 0 13)).2.1))] (by kernel_rfl) hB ⟨(fun hq => hq (by rw [hrr])), ⟨(by omega), (by omega)⟩, (inR_i64 (by omega) (by omega)), (fun hq => hq (by rw [hrr])), (by rw [hrr]; simp only; omega), (by rw [hrr]; simp only; omega), trivial⟩ ?_
        refine ae_then ?_
        refine aw_false rfl ?_
        refine aw_skip ?_
        refine ae_then ?_
        refine aw_reg [] [5, 6, 7, 11, 12] [] [slI true v_1, I (a2AtI more 0 13), Sv (catB v_1 (a2AtI more 0 13) v_1.length), I ((rdRiceR (catB v_1 (a2AtI more 0 13) v_1.length) p_ (a2AtI more 0 13)).2.1), I i'] [] [] (by kernel_rfl) hB trivial ?_
        refine ae_block 3 ?_
        refine ae_then ?_
        refine aw_reg [] [5, 6, 7, 11, 12] [] [slI true v_1, I (a2AtI more 0 13), Sv (catB v_1 (a2AtI more 0 13) v_1.length), I ((rdRiceR (catB v_1 (a2AtI more 0 13) v_1.length) p_ (a2AtI more 0 13)).2.1), I (i' + 1)] [] [inR .i64 (i' + 1)] (by kernel_rfl) hB ⟨(inR_i64 (by omega) (by omega)), trivial⟩ ?_
        exact ae_again _ (by omega) ⟨(rdRiceR (catB v_1 (a2AtI more 0 13) v_1.length) p_ (a2AtI more 0 13)).2.1, (i' + 1), rfl, (by omega), (by rw [hrr, show (i' + 1).toNat = i'.toNat + 1 from by omega]), rfl⟩
      · have hie : i'.toNat = v_1.length := by omega
        rw [hie] at hp0
        have hre : rdRiceR (catB v_1 (a2AtI more 0 13) v_1.length) p_ (a2AtI more 0 13) = (0, 0, 9) := by rw [hp0, rdRiceR_eq okb (by omega) (by omega), rice_end (by omega)]
        refine aw_reg [(3, .dec false)] [5, 6, 7, 11, 12, 55] [] [slI true v_1, I (a2AtI more 0 13), Sv (catB v_1 (a2AtI more 0 13) v_1.length), I p_, I i', Bv false] [] [¬ (i' < (v_1.length : Int))] (by kernel_rfl) hB ⟨h3, trivial⟩ ?_
        refine ae_then ?_
        refine aw_false rfl ?_
        refine aw_exit ?_
        refine ae_exit_then ?_
        refine ae_exit_then ?_
        refine ae_exit_same ?_
        refine ae_then ?_
        refine aw_seq ?_
        refine aw_reg [(3, .call [(true, Sv (catB v_1 (a2AtI more 0 13) v_1.length)), (true, I p_), (true, I (a2AtI more 0 13))] true (.tup [I ((rdRiceR (catB v_1 (a2AtI more 0 13) v_1.length) p_ (a2AtI more 0 13)).1), I ((rdRiceR (catB v_1 (a2AtI more 0 13) v_1.length) p_ (a2AtI more 0 13)).2.1), I ((rdRiceR (catB v_1 (a2AtI more 0 13) v_1.length) p_ (a2AtI more 0 13)).2.2)]))] [7, 11, 18] [] [Sv (catB v_1 (a2AtI more 0 13) v_1.length), I p_, I ((rdRiceR (catB v_1 (a2AtI more 0 13) v_1.length) p_ (a2AtI more 0 13)).2.2)] [] [Con Tryd.prog 28 [Sv (catB v_1 (a2AtI more 0 13) v_1.length), I p_, I (a2AtI more 0 13)] true (.tup [I ((rdRiceR (catB v_1 (a2AtI more 0 13) v_1.length) p_ (a2AtI more 0 13)).1), I ((rdRiceR (catB v_1 (a2AtI more 0 13) v_1.length) p_ (a2AtI more 0 13)).2.1), I ((rdRiceR (catB v_1 (a2AtI more 0 13) v_1.length) p_ (a2AtI more 0 13)).2.2)]) ∧ ((Sv (catB v_1 (a2AtI more 0 13) v_1.length) : AV) = Sv (catB v_1 (a2AtI more 0 13) v_1.length)) ∧ ((I p_ : AV) = I p_) ∧ ((I (a2AtI more 0 13) : AV) = I (a2AtI more 0 13)) ∧ True] (by kernel_rfl) hB ⟨⟨(ReadRice_ok (catB v_1 (a2AtI more 0 13) v_1.length) p_ (a2AtI more 0 13) (by omega)), rfl, rfl, rfl, trivial⟩, trivial⟩ ?_
        refine ae_then ?_
        refine aw_seq ?_
        refine aw_reg [(3, .dec true), (6, .dec true)] [4] [] [Bv true] [] [p_ = ((catB v_1 (a2AtI more 0 13) v_1.length).size : Int), ((rdRiceR (catB v_1 (a2AtI more 0 13) v_1.length) p_ (a2AtI more 0 13)).2.2) = 9] (by kernel_rfl) hB ⟨hp0, (by rw [hre]), trivial⟩ ?_
        refine ae_then ?_
        refine aw_ret ?_
        refine ae_ret hB (Bv true) (by kernel_rfl) (.inl rfl) rfl (fun _ => trivial)


/-! ### the row -/

theorem opens_t22 : OpensA Tryd.prog 22 (cLU8 false) (fun xs => ∀ y ∈ xs, inR .u8 y) :=
  opensA_slice (c := cU8) (sz := 1) Tryd.underlying22 (by kernel_rfl) (by decide) (fun x => ⟨rfl, by simp [oneA, cU8]⟩) (opensA_int Tryd.underlying5)

namespace fnRice
set_option maxRecDepth 100000 in
theorem lifted (os : Os) (started : os.Started) (H : Type) (enc : TypeId × Value → H) :
    ReturnsInHanded {} Tryd.checked os 4 .any (fun w args => (Rows.fnRiceSpec.pre enc Tryd.prog Tryd.f4 Rows.fnRiceRow.domain false w args ∧ laidMetH Tryd.prog Rows.fnRiceRow.laid w) ∧ sizedMet enc Tryd.prog Tryd.f4 (OpenSpec.ofChange Rows.fnRiceSpec) false w args)
      (Rows.fnRiceSpec.post enc Tryd.prog Tryd.f4 false true false false) := by
  refine returnsInHanded_of_change_and (C := Tryd.checked) (X := fun w _ => laidMetH Tryd.prog Rows.fnRiceRow.laid w) (fun _ _ _ hh h => h.of_heap hh) Tryd.own started (by kernel_rfl) Tryd.func4
    (ChangeSpec.witness_shaped (enc := enc) (C := Tryd.checked) (os := os) (X := fun w _ => laidMetH Tryd.prog Rows.fnRiceRow.laid w) false (World.laidAll Tryd.prog os Rows.fnRiceRow.laid) #[.slice none 0 0, .slice none 0 0] 8 (World.laidAll_os _ _ _)
      (World.shaped_of_ZipB (by kernel_rfl) (by kernel_rfl)) (by kernel_rfl) (by kernel_rfl) (by kernel_rfl)
      (by rw [MakeChecks.laidMetH_plain _ _ _ (by kernel_rfl)]; exact laidMet_laidAll _ (by kernel_rfl) (by kernel_rfl))) ?_
  intro W base args ds gs before hval0 hW hcnd hsz hL _
  have hW' := hW
  obtain ⟨p, q, hA0, hV, rfl, hfz, hnd⟩ := hW
  have hval : ∀ (j : Nat) t v, Tryd.f4.params[j]? = some t → args[j]? = some v → Value.okWide Tryd.prog W .any base t v := hval0
  have hA : DataW.TrodAll enc Tryd.prog W 0 (fun _ => true) true Tryd.f4.params.toList args.toList ds p := hA0
  rw [Tryd.params4] at hA hval
  obtain ⟨v0, vs0, d0, ds0, p0, q0, hargs, rfl, rfl, h0, r0⟩ := trodAll_cons hA
  obtain ⟨v1, vs1, d1, ds1, p1, q1, rfl, rfl, rfl, h1, r1⟩ := trodAll_cons r0
  obtain ⟨rfl, rfl, rfl⟩ := trodAll_nil r1
  obtain rfl : args = #[v0, v1] := args_eq hargs
  obtain ⟨rfl, rfl⟩ := trodVars_none hV
  obtain ⟨fuel0, hf0⟩ := h0
  obtain ⟨A0, l0, c0, rfl⟩ := okWide_slice Tryd.underlying22 (hval 0 22 v0 rfl rfl)
  obtain ⟨x0, rx0, ok0⟩ := (opens_t22) enc W 0 _ _ _ _ _ hf0
  obtain ⟨fuel1, hf1⟩ := h1
  obtain ⟨A1, l1, c1, rfl⟩ := okWide_slice Tryd.underlying22 (hval 1 22 v1 rfl rfl)
  obtain ⟨x1, rx1, ok1⟩ := (opens_t22) enc W 0 _ _ _ _ _ hf1
  refine (walk_of0 (fnRice_con x0 x1 ok0 ok1) (fun w _ => WX_free w) (RelTL.cons (relTL_one rx0) (RelTL.cons (relTL_one rx1) RelTL.nil))).mono fun e W1 ⟨he, hb⟩ => ?_
  subst he
  exact ⟨_, rfl, law_post Tryd.laidOut rfl Tryd.underlying4 (of_decide_eq_true (by kernel_rfl)) rfl hW' hb rfl⟩

theorem over : Rows.fnRiceRow.holds Tryd.pinned (OpenSpec.ofChange Rows.fnRiceSpec) :=
  OpenClaim.holds_of_wide 4 Tryd.f4 rfl rfl rfl rfl rfl rfl rfl ⟨rfl, rfl, rfl, rfl, rfl⟩ rfl rfl rfl rfl rfl (by kernel_rfl) Tryd.func4 (by kernel_rfl)
    (of_decide_eq_true (by kernel_rfl)) (by unfold Func.isWrapper; first | (rw [if_pos (by decide +kernel)]; kernel_rfl) | (rw [if_neg (by decide +kernel)]; exact ⟨rfl, rfl⟩))
    (fun os started H enc _ => lifted os started H enc)

theorem proved : Rows.FnRiceCardSaid :=
  Claim7.holds_tied_plain_at .later [] [.data, .pinned] true (true, "200c645e61c385db44e779e8ce5c2c80f486ddfb2cabbd1accf484105d8b4827") false over (fun _ h => by cases h) (by kernel_rfl) (fun _ h => by cases h) fnRice_row_tie rfl ⟨rfl, rfl⟩ (by kernel_rfl) rfl
    (fun f fn hf hfn => by
      obtain rfl : f = 4 := Option.some.inj ((show Tryd.prog.funcNamed "loop.example/g00918/laws.FnRice" = some 4 by kernel_rfl).symm.trans hf) |>.symm
      obtain rfl : fn = Tryd.f4 := (Option.some.inj (Tryd.func4.symm.trans hfn)).symm
      exact ⟨by kernel_rfl, fun j t ht => by
        rw [Tryd.params4] at ht
        have hm : t ∈ [22, 22] := by simpa using Array.mem_of_getElem? ht
        have hall : ([22, 22].all fun u => !Tryd.prog.wantsStandIn u) = true := by kernel_rfl
        exact (show Tryd.prog.wantsStandIn t = false by simpa using List.all_eq_true.1 hall t hm)⟩)
    (by kernel_rfl)
#print axioms proved
end fnRice
end Go.Proofs.YtngmfpjhlcfapaaDoor.Ax
