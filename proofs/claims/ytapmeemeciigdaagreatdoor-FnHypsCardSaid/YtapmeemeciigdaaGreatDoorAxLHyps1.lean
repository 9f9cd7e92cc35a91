/- Contracts that the statement FnHyps reaches, part 1. No conditions. -/
import Derived.Test.YtapmeemeciigdaaGreatDoorAxO
import Derived.Test.YtapmeemeciigdaaGreatDoorShelf
import Derived.Test.YtapmeemeciigdaaGreatDoorTie
import Derived.Test.YtapmeemeciigdaaGreatDoorCards
import Derived.LaidMore
import Derived.Lay
import Derived.Lib.IndexBytes
import Derived.Lib.ItoaNum
import Derived.Lib.ParseIntBCases
import Derived.Lib.SplitLaws
import Derived.OpenShut
import Derived.SevenTiedAt
import Derived.Stop.Joined
import Derived.Test.YtapmeemeciigdaaGreatDoorAxBd
import Derived.Test.YtapmeemeciigdaaGreatDoorAxGr
import Derived.Test.YtapmeemeciigdaaGreatDoorAxGw
import Derived.Test.YtapmeemeciigdaaGreatDoorAxS
import Derived.Test.YtapmeemeciigdaaGreatDoorAxSF
import Derived.Test.YtapmeemeciigdaaGreatDoorGwHypShelf
import Derived.Test.YtapmeemeciigdaaGreatDoorSfHypShelf
namespace Go.Proofs.YtapmeemeciigdaaGreatDoor.Ax
open Go.RowKit Go.ChangeShapes Go.WideShapes
set_option linter.unusedVariables false
set_option linter.unusedSimpArgs false


def cU8 (x : Int) : List AV := [.val (.int .u8 x)]
def fU8 (xs : List Int) (i : Nat) : List AV := cU8 (at_ xs i)
def slU8 (fr : Bool) (xs : List Int) : AV := .sl fr 1 xs.length (fU8 xs)
theorem tagcU8 (t : Bool) (x : Int) : taggedL t (cU8 x) := by simp [cU8, taggedL, tagged]
theorem tagU8 (t : Bool) (xs : List Int) : tagged t (slU8 t xs) := by simp only [slU8, tagged]; exact ⟨trivial, fun i _ => tagcU8 t _⟩
theorem lenU8 (fr : Bool) (xs : List Int) : lenA noOb (slU8 fr xs) = some xs.length := rfl
abbrev tAU8 (xs : List Int) : Ob := .arr 1 xs.length (fU8 xs)
def cS (x : ByteArray) : List AV := [Sv x]
def fS (xs : List ByteArray) (i : Nat) : List AV := cS (at_ xs i)
def slS (fr : Bool) (xs : List ByteArray) : AV := .sl fr 1 xs.length (fS xs)
theorem tagcS (t : Bool) (x : ByteArray) : taggedL t (cS x) := by simp [cS, taggedL, tagged]
theorem tagS (t : Bool) (xs : List ByteArray) : tagged t (slS t xs) := by simp only [slS, tagged]; exact ⟨trivial, fun i _ => tagcS t _⟩
theorem lenS (fr : Bool) (xs : List ByteArray) : lenA noOb (slS fr xs) = some xs.length := rfl
abbrev tAS (xs : List ByteArray) : Ob := .arr 1 xs.length (fS xs)
def cI (x : Int) : List AV := [I x]
def fI (xs : List Int) (i : Nat) : List AV := cI (at_ xs i)
def slI (fr : Bool) (xs : List Int) : AV := .sl fr 1 xs.length (fI xs)
theorem tagcI (t : Bool) (x : Int) : taggedL t (cI x) := by simp [cI, taggedL, tagged]
theorem tagI (t : Bool) (xs : List Int) : tagged t (slI t xs) := by simp only [slI, tagged]; exact ⟨trivial, fun i _ => tagcI t _⟩
theorem lenI (fr : Bool) (xs : List Int) : lenA noOb (slI fr xs) = some xs.length := rfl
abbrev tAI (xs : List Int) : Ob := .arr 1 xs.length (fI xs)
structure Hyp where
  Label : ByteArray
  Cost : Int
deriving DecidableEq, Inhabited
def cHyp (x : Hyp) : List AV := [Sv x.Label, I x.Cost]
def fHyp (xs : List Hyp) (i : Nat) : List AV := cHyp (at_ xs i)
def slHyp (fr : Bool) (xs : List Hyp) : AV := .sl fr 2 xs.length (fHyp xs)
theorem tagcHyp (t : Bool) (x : Hyp) : taggedL t (cHyp x) := by simp [cHyp, taggedL, tagged]
theorem tagHyp (t : Bool) (xs : List Hyp) : tagged t (slHyp t xs) := by simp only [slHyp, tagged]; exact ⟨trivial, fun i _ => tagcHyp t _⟩
theorem lenHyp (fr : Bool) (xs : List Hyp) : lenA noOb (slHyp fr xs) = some xs.length := rfl
abbrev bxHyp (x : Hyp) : Ob := .box [Sv x.Label, I x.Cost]
abbrev agHyp (x : Hyp) : AV := .agg [Sv x.Label, I x.Cost]
abbrev tAHyp (xs : List Hyp) : Ob := .arr 2 xs.length (fHyp xs)
def cLU8 (fr : Bool) (x : List Int) : List AV := [slU8 fr x]
def fLU8 (fr : Bool) (xs : List (List Int)) (i : Nat) : List AV := cLU8 fr (at_ xs i)
def slLU8 (fr : Bool) (xs : List (List Int)) : AV := .sl fr 1 xs.length (fLU8 fr xs)
theorem tagcLU8 (t : Bool) (x : List Int) : taggedL t (cLU8 t x) := by simp [cLU8, taggedL, tagged, tagU8]
theorem tagLU8 (t : Bool) (xs : List (List Int)) : tagged t (slLU8 t xs) := by simp only [slLU8, tagged]; exact ⟨trivial, fun i _ => tagcLU8 t _⟩
theorem lenLU8 (fr : Bool) (xs : List (List Int)) : lenA noOb (slLU8 fr xs) = some xs.length := rfl
theorem idsLU8 (fr : Bool) (x : List Int) : AV.idsL (cLU8 fr x) = [] := rfl
theorem leLU8 (fr : Bool) (x : List Int) (ob : Nat → Option Ob) : leL ob false (cLU8 fr x) (cLU8 false x) := (And.intro (And.intro (fun h => by cases h) (And.intro rfl (And.intro rfl (fun i _ => .inl rfl)))) rfl)
abbrev tALU8 (fr : Bool) (xs : List (List Int)) : Ob := .arr 1 xs.length (fLU8 fr xs)
def cU64 (x : Int) : List AV := [.val (.int .u64 x)]
def fU64 (xs : List Int) (i : Nat) : List AV := cU64 (at_ xs i)
def slU64 (fr : Bool) (xs : List Int) : AV := .sl fr 1 xs.length (fU64 xs)
theorem tagcU64 (t : Bool) (x : Int) : taggedL t (cU64 x) := by simp [cU64, taggedL, tagged]
theorem tagU64 (t : Bool) (xs : List Int) : tagged t (slU64 t xs) := by simp only [slU64, tagged]; exact ⟨trivial, fun i _ => tagcU64 t _⟩
theorem lenU64 (fr : Bool) (xs : List Int) : lenA noOb (slU64 fr xs) = some xs.length := rfl
abbrev tAU64 (xs : List Int) : Ob := .arr 1 xs.length (fU64 xs)
structure l00Src where
  code : List Int
  atx : Int
  seed : Int
deriving DecidableEq, Inhabited
def cl00Src (fr : Bool) (x : l00Src) : List AV := [slU8 fr x.code, I x.atx, .val (.int .u64 x.seed)]
def fl00Src (fr : Bool) (xs : List l00Src) (i : Nat) : List AV := cl00Src fr (at_ xs i)
def sll00Src (fr : Bool) (xs : List l00Src) : AV := .sl fr 3 xs.length (fl00Src fr xs)
theorem tagcl00Src (t : Bool) (x : l00Src) : taggedL t (cl00Src t x) := by simp [cl00Src, taggedL, tagged, tagU8]
theorem tagl00Src (t : Bool) (xs : List l00Src) : tagged t (sll00Src t xs) := by simp only [sll00Src, tagged]; exact ⟨trivial, fun i _ => tagcl00Src t _⟩
theorem lenl00Src (fr : Bool) (xs : List l00Src) : lenA noOb (sll00Src fr xs) = some xs.length := rfl
theorem idsl00Src (fr : Bool) (x : l00Src) : AV.idsL (cl00Src fr x) = [] := rfl
theorem lel00Src (fr : Bool) (x : l00Src) (ob : Nat → Option Ob) : leL ob false (cl00Src fr x) (cl00Src false x) := (And.intro (And.intro (fun h => by cases h) (And.intro rfl (And.intro rfl (fun i _ => .inl rfl)))) (And.intro rfl (And.intro rfl rfl)))
abbrev bxl00Src (x : l00Src) : Ob := .box [slU8 false x.code, I x.atx, .val (.int .u64 x.seed)]
abbrev agl00Src (x : l00Src) : AV := .agg [slU8 false x.code, I x.atx, .val (.int .u64 x.seed)]
abbrev bxl00SrcT (x : l00Src) : Ob := .box [slU8 true x.code, I x.atx, .val (.int .u64 x.seed)]
abbrev agl00SrcT (x : l00Src) : AV := .agg [slU8 true x.code, I x.atx, .val (.int .u64 x.seed)]
abbrev tAl00Src (fr : Bool) (xs : List l00Src) : Ob := .arr 3 xs.length (fl00Src fr xs)
structure Setting where
  Points : Int
  Most : Int
  Pen : Int
deriving DecidableEq, Inhabited
def cSetting (x : Setting) : List AV := [I x.Points, I x.Most, I x.Pen]
def fSetting (xs : List Setting) (i : Nat) : List AV := cSetting (at_ xs i)
def slSetting (fr : Bool) (xs : List Setting) : AV := .sl fr 3 xs.length (fSetting xs)
theorem tagcSetting (t : Bool) (x : Setting) : taggedL t (cSetting x) := by simp [cSetting, taggedL, tagged]
theorem tagSetting (t : Bool) (xs : List Setting) : tagged t (slSetting t xs) := by simp only [slSetting, tagged]; exact ⟨trivial, fun i _ => tagcSetting t _⟩
theorem lenSetting (fr : Bool) (xs : List Setting) : lenA noOb (slSetting fr xs) = some xs.length := rfl
abbrev bxSetting (x : Setting) : Ob := .box [I x.Points, I x.Most, I x.Pen]
abbrev agSetting (x : Setting) : AV := .agg [I x.Points, I x.Most, I x.Pen]
abbrev tASetting (xs : List Setting) : Ob := .arr 3 xs.length (fSetting xs)
def cLHyp (fr : Bool) (x : List Hyp) : List AV := [slHyp fr x]
def fLHyp (fr : Bool) (xs : List (List Hyp)) (i : Nat) : List AV := cLHyp fr (at_ xs i)
def slLHyp (fr : Bool) (xs : List (List Hyp)) : AV := .sl fr 1 xs.length (fLHyp fr xs)
theorem tagcLHyp (t : Bool) (x : List Hyp) : taggedL t (cLHyp t x) := by simp [cLHyp, taggedL, tagged, tagHyp]
theorem tagLHyp (t : Bool) (xs : List (List Hyp)) : tagged t (slLHyp t xs) := by simp only [slLHyp, tagged]; exact ⟨trivial, fun i _ => tagcLHyp t _⟩
theorem lenLHyp (fr : Bool) (xs : List (List Hyp)) : lenA noOb (slLHyp fr xs) = some xs.length := rfl
theorem idsLHyp (fr : Bool) (x : List Hyp) : AV.idsL (cLHyp fr x) = [] := rfl
theorem leLHyp (fr : Bool) (x : List Hyp) (ob : Nat → Option Ob) : leL ob false (cLHyp fr x) (cLHyp false x) := (And.intro (And.intro (fun h => by cases h) (And.intro rfl (And.intro rfl (fun i _ => .inl rfl)))) rfl)
abbrev tALHyp (fr : Bool) (xs : List (List Hyp)) : Ob := .arr 1 xs.length (fLHyp fr xs)

-- laws.a2Long
theorem a2Long_ok (code : List Int) (more : List Int) : Con Tryz.prog 4 [slU8 false code, slU8 false more] true (Bv (decide (3000 < (code.length : Int) ∨ 3000 < (more.length : Int)))) := by
  refine fn_ok (fn := Tryz.f4) (nt := 13) Tryz.func4 rfl rfl rfl rfl (by simp [taggedL, tagged, tagU8]) fun B hB => ?_
  refine aw_lens (x := slU8 false code) 0 rfl (fun len_code => ?_)
  simp [LenOK, LenL, cU8, fU8, slU8] at len_code
  refine aw_lens (x := slU8 false more) 1 rfl (fun len_more => ?_)
  simp [LenOK, LenL, cU8, fU8, slU8] at len_more
  refine aR [] [0, 1] [] [slU8 false code, slU8 false more] [] [] hB trivial ?_
  refine aw_seq ?_
  by_cases h1 : 3000 < (code.length : Int)
  ·refine aw_r [(2, .dec true)] [4] [] [Bv true] [] [3000 < (code.length : Int)] hB ⟨h1, trivial⟩ ?_
   refine ae_then ?_
   refine aw_ret ?_
   refine ae_ret hB (Bv true) (by kernel_rfl) (.inl (by refine congrArg Bv ?_; simp [*])) rfl (fun _ => trivial)
  refine aw_r [(2, .dec false)] [4] [] [Bv (decide (3000 < (more.length : Int)))] [] [¬ (3000 < (code.length : Int))] hB ⟨h1, trivial⟩ ?_
  refine ae_then ?_
  refine aw_ret ?_
  refine ae_ret hB (Bv (decide (3000 < (more.length : Int)))) (by kernel_rfl) (.inl (by refine congrArg Bv ?_; simp [*])) rfl (fun _ => trivial)



def same {α : Type} [DecidableEq α] (x y : α) : Bool := decide (x = y)

theorem at_mem {α : Type} [Inhabited α] {xs : List α} {i : Nat} (h : i < xs.length) : at_ xs i ∈ xs := by rw [at_eq h]; exact List.getElem_mem h


def allN (n : Nat) (p : Nat → Bool) : Bool := (List.range n).all p
def anyN (n : Nat) (p : Nat → Bool) : Bool := !(allN n fun j => !(p j))
theorem allN_iff {n : Nat} {p : Nat → Bool} : allN n p = true ↔ ∀ j, j < n → p j = true := by simp [allN, List.all_eq_true]
theorem allN_at {n : Nat} {p : Nat → Bool} (h : ∀ j, j < n → p j = true) : allN n p = true := allN_iff.2 h
theorem allN_not {n : Nat} {p : Nat → Bool} {k : Nat} (hk : k < n) (h : p k = false) : allN n p = false := by
  rw [← Bool.not_eq_true, allN_iff]; intro h'; rw [h' k hk] at h; cases h
theorem anyN_at {n : Nat} {p : Nat → Bool} {k : Nat} (hk : k < n) (h : p k = true) : anyN n p = true := by
  unfold anyN; rw [allN_not hk (by simp [h])]; rfl
theorem anyN_none {n : Nat} {p : Nat → Bool} (h : ∀ j, j < n → p j = false) : anyN n p = false := by
  unfold anyN; rw [allN_at (fun j hj => by simp [h j hj])]; rfl
theorem anyN_iff {n : Nat} {p : Nat → Bool} : anyN n p = true ↔ ∃ j, j < n ∧ p j = true := by
  constructor
  · intro h
    apply Classical.byContradiction
    intro hn
    rw [anyN_none (fun j hj => by rw [← Bool.not_eq_true]; exact fun hp => hn ⟨j, hj, hp⟩)] at h
    cases h
  · rintro ⟨j, hj, hp⟩; exact anyN_at hj hp

def okSrc (s : l00Src) : Prop := (∀ j, j < s.code.length → 0 ≤ at_ s.code j ∧ at_ s.code j ≤ 255) ∧ 0 ≤ s.atx ∧ s.code.length ≤ 4611686018427387904
theorem and_255 (a : Int) : 0 ≤ bitsI .and .u64 a 255 ∧ bitsI .and .u64 a 255 ≤ 255 := by
  obtain ⟨n, hn⟩ : ∃ n : Nat, n = (BitVec.ofInt 64 a &&& BitVec.ofInt 64 255).toNat := ⟨_, rfl⟩
  have h : n ≤ 255 := by rw [hn, BitVec.toNat_and]; exact Nat.and_le_right
  have e : bitsI .and .u64 a 255 = IntKind.u64.wrap (n : Int) := by rw [hn]; rfl
  have w : IntKind.u64.wrap (n : Int) = n := wrap_in (inR_u64 (by omega) (by omega))
  rw [e, w]; omega


-- spec.l00From
theorem l00From_ok (code : List Int) : ∃ (s' : l00Src), (s'.code = code ∧ s'.atx = 0) ∧ CallOK Tryz.prog 16 [slU8 false code] (lookO []) false (.ref 7001 0) (lookO [(7001, bxl00Src s')]) := by
  have hh : ∃ r : l00Src, ((r.code = code ∧ r.atx = 0) ∧ (True)) ∧ CallOK Tryz.prog 16 [slU8 false code] (lookO []) false (.ref 7001 0) (lookO [(7001, bxl00Src r)]) := by
    refine fn_okX (Φ := fun r : l00Src => (r.code = code ∧ r.atx = 0) ∧ (True)) [] (fun r => [(7001, bxl00Src r)]) (fn := Tryz.f16) (nt := 6) Tryz.func16 rfl rfl (args := [slU8 false code]) rfl (allcons (.inl ⟨rfl, tagU8 false _⟩) allnil) (res := fun r => .ref 7001 0) ?_
    refine xR [] [0] [] [slU8 false code] [] [] trivial ?_
    refine xR [(2, .new 7001)] [2] [7001] [.ref 7001 0] [some (.box [slU8 false code, I 0, .val (.int .u64 0)])] [] trivial ?_
    refine x_ret ?_
    refine xe_end (l00Src.mk code 0 0) (show ((l00Src.mk code 0 0).code = code ∧ (l00Src.mk code 0 0).atx = 0) ∧ (True) from ⟨(by first | rfl | (exact ⟨rfl, rfl⟩)), trivial⟩) (⟨.inl rfl, trivial⟩) (.ref 7001 0) (by kernel_rfl) (.inl rfl) (fun h => by cases h) (fun h => by cases h)
  obtain ⟨s', ⟨hh0, _⟩, hc⟩ := hh
  exact ⟨s', hh0, hc⟩



-- spec.l00Src).next
theorem next_ok (s : l00Src) (hs : okSrc s) (ha : s.atx ≤ 4000000000000000000) : ∃ (v : Int) (s' : l00Src), (0 ≤ v ∧ v ≤ 255) ∧ (okSrc s') ∧ (s'.code = s.code) ∧ (s.atx + 1 ≤ s'.atx ∧ s'.atx ≤ s.atx + 1) ∧ CallOK Tryz.prog 50 [.ref 7001 0] (lookO [(7001, bxl00Src s)]) true (I v) (lookO [(7001, bxl00Src s')]) := by
  have hs0 := hs.2.1
  have hs1 := hs.2.2
  have hh : ∃ r : Int × l00Src, ((0 ≤ r.1 ∧ r.1 ≤ 255) ∧ (okSrc r.2) ∧ (r.2.code = s.code) ∧ (s.atx + 1 ≤ r.2.atx ∧ r.2.atx ≤ s.atx + 1) ∧ (True)) ∧ CallOK Tryz.prog 50 [.ref 7001 0] (lookO [(7001, bxl00Src s)]) true (I r.1) (lookO [(7001, bxl00Src r.2)]) := by
    refine fn_okX (Φ := fun r : Int × l00Src => (0 ≤ r.1 ∧ r.1 ≤ 255) ∧ (okSrc r.2) ∧ (r.2.code = s.code) ∧ (s.atx + 1 ≤ r.2.atx ∧ r.2.atx ≤ s.atx + 1) ∧ (True)) [(7001, bxl00Src s)] (fun r => [(7001, bxl00Src r.2)]) (fn := Tryz.f50) (nt := 62) Tryz.func50 rfl rfl (args := [.ref 7001 0]) rfl (allcons (.inr trivial) allnil) (res := fun r => I r.1) ?_
    refine xR [] [0] [7001] [.ref 7001 0] [some (bxl00Src s)] [] trivial ?_
    refine xR [] [0, 3] [7001] [.ref 7001 0, I 0] [some (bxl00Src s)] [] trivial ?_
    refine x_seq ?_
    refine x_seq ?_
    by_cases h1 : s.atx < (s.code.length : Int)
    ·have hbt := hs.1 s.atx.toNat (by omega)
     refine x_r [(9, .dec true)] [0, 3, 13] [7001] [.ref 7001 0, I 0, Bv true] [some (bxl00Src s)] [s.atx < (s.code.length : Int)] ⟨h1, trivial⟩ ?_
     refine xe_then ?_
     refine x_true rfl ?_
     refine x_r [] [0, 3] [7001] [.ref 7001 0, I (at_ s.code s.atx.toNat)] [some (bxl00Src s)] [(0 : Int) ≤ s.atx ∧ s.atx < (s.code.length : Int), inR .i64 (at_ s.code s.atx.toNat)] ⟨⟨(by omega), (by omega)⟩, (inR_i64 (by omega) (by omega)), trivial⟩ ?_
     refine xe_then ?_
     refine xR [] [0, 3] [7001] [.ref 7001 0, I (at_ s.code s.atx.toNat)] [some (.box [slU8 false s.code, I (s.atx + 1), .val (.int .u64 s.seed)])] [inR .i64 (s.atx + 1)] ⟨(inR_i64 (by omega) (by omega)), trivial⟩ ?_
     refine xR [(5, .wrap), (8, .wrap), (9, .wrap)] [0, 3] [7001] [.ref 7001 0, I (at_ s.code s.atx.toNat)] [some (.box [slU8 false s.code, I (s.atx + 1), .val (.int .u64 (IntKind.u64.wrap ((IntKind.u64.wrap ((IntKind.u64.wrap (s.seed * 6364136223846793005)) + (at_ s.code s.atx.toNat))) + 1442695040888963407)))])] [inR .u64 (at_ s.code s.atx.toNat)] ⟨(inR_u64 (by omega) (by omega)), trivial⟩ ?_
     refine x_seq ?_
     refine x_seq ?_
     by_cases h2 : (s.atx + 1) ≤ (s.code.length : Int)
     ·refine x_r [(9, .dec true)] [0, 3, 53] [7001] [.ref 7001 0, I (at_ s.code s.atx.toNat), Bv true] [some (.box [slU8 false s.code, I (s.atx + 1), .val (.int .u64 (IntKind.u64.wrap ((IntKind.u64.wrap ((IntKind.u64.wrap (s.seed * 6364136223846793005)) + (at_ s.code s.atx.toNat))) + 1442695040888963407)))])] [(s.atx + 1) ≤ (s.code.length : Int)] ⟨h2, trivial⟩ ?_
      refine xe_then ?_
      refine x_true rfl ?_
      refine xR [] [2] [7001] [I (at_ s.code s.atx.toNat)] [some (.box [slU8 false s.code, I (s.atx + 1), .val (.int .u64 (IntKind.u64.wrap ((IntKind.u64.wrap ((IntKind.u64.wrap (s.seed * 6364136223846793005)) + (at_ s.code s.atx.toNat))) + 1442695040888963407)))])] [] trivial ?_
      refine x_ret ?_
      refine xe_ret_then ?_
      refine xe_end ((at_ s.code s.atx.toNat), (l00Src.mk s.code (s.atx + 1) (IntKind.u64.wrap ((IntKind.u64.wrap ((IntKind.u64.wrap (s.seed * 6364136223846793005)) + (at_ s.code s.atx.toNat))) + 1442695040888963407)))) (show (0 ≤ (at_ s.code s.atx.toNat) ∧ (at_ s.code s.atx.toNat) ≤ 255) ∧ (okSrc (l00Src.mk s.code (s.atx + 1) (IntKind.u64.wrap ((IntKind.u64.wrap ((IntKind.u64.wrap (s.seed * 6364136223846793005)) + (at_ s.code s.atx.toNat))) + 1442695040888963407)))) ∧ ((l00Src.mk s.code (s.atx + 1) (IntKind.u64.wrap ((IntKind.u64.wrap ((IntKind.u64.wrap (s.seed * 6364136223846793005)) + (at_ s.code s.atx.toNat))) + 1442695040888963407))).code = s.code) ∧ (s.atx + 1 ≤ (l00Src.mk s.code (s.atx + 1) (IntKind.u64.wrap ((IntKind.u64.wrap ((IntKind.u64.wrap (s.seed * 6364136223846793005)) + (at_ s.code s.atx.toNat))) + 1442695040888963407))).atx ∧ (l00Src.mk s.code (s.atx + 1) (IntKind.u64.wrap ((IntKind.u64.wrap ((IntKind.u64.wrap (s.seed * 6364136223846793005)) + (at_ s.code s.atx.toNat))) + 1442695040888963407))).atx ≤ s.atx + 1) ∧ (True) from ⟨(by first | omega | rfl | assumption | (dsimp only; first | omega | rfl | assumption) | (simp only [*]; done) | exact ⟨hs.1, (by dsimp only; omega), hs1⟩), (by first | omega | rfl | assumption | (dsimp only; first | omega | rfl | assumption) | (simp only [*]; done) | exact ⟨hs.1, (by dsimp only; omega), hs1⟩), (by first | omega | rfl | assumption | (dsimp only; first | omega | rfl | assumption) | (simp only [*]; done) | exact ⟨hs.1, (by dsimp only; omega), hs1⟩), (by first | omega | rfl | assumption | (dsimp only; first | omega | rfl | assumption) | (simp only [*]; done) | exact ⟨hs.1, (by dsimp only; omega), hs1⟩), trivial⟩) (⟨.inl rfl, trivial⟩) (I (at_ s.code s.atx.toNat)) (by kernel_rfl) (.inl rfl) (fun _ => rfl) (fun _ => trivial)
     refine x_r [(9, .dec false)] [0, 3, 53] [7001] [.ref 7001 0, I (at_ s.code s.atx.toNat), Bv false] [some (.box [slU8 false s.code, I (s.atx + 1), .val (.int .u64 (IntKind.u64.wrap ((IntKind.u64.wrap ((IntKind.u64.wrap (s.seed * 6364136223846793005)) + (at_ s.code s.atx.toNat))) + 1442695040888963407)))])] [¬ ((s.atx + 1) ≤ (s.code.length : Int))] ⟨h2, trivial⟩ ?_
     refine xe_then ?_
     refine x_false rfl ?_
     refine x_skip ?_
     refine xe_then ?_
     refine x_seq ?_
     have hb1 := and_255 ((IntKind.u64.wrap ((IntKind.u64.wrap ((IntKind.u64.wrap (s.seed * 6364136223846793005)) + (at_ s.code s.atx.toNat))) + 1442695040888963407)) / 1099511627776)
     refine x_r [] [2] [7001] [I (bitsI .and .u64 ((IntKind.u64.wrap ((IntKind.u64.wrap ((IntKind.u64.wrap (s.seed * 6364136223846793005)) + (at_ s.code s.atx.toNat))) + 1442695040888963407)) / 1099511627776) 255)] [some (.box [slU8 false s.code, I (s.atx + 1), .val (.int .u64 (IntKind.u64.wrap ((IntKind.u64.wrap ((IntKind.u64.wrap (s.seed * 6364136223846793005)) + (at_ s.code s.atx.toNat))) + 1442695040888963407)))])] [(0 : Int) ≤ 40 ∧ (40 : Int) ≤ ((IntKind.bits .u64 : Nat) : Int), inR .i64 (bitsI .and .u64 ((IntKind.u64.wrap ((IntKind.u64.wrap ((IntKind.u64.wrap (s.seed * 6364136223846793005)) + (at_ s.code s.atx.toNat))) + 1442695040888963407)) / 1099511627776) 255)] ⟨⟨(by decide), (by decide)⟩, (inR_i64 (by omega) (by omega)), trivial⟩ ?_
     refine xe_then ?_
     refine x_ret ?_
     refine xe_end ((bitsI .and .u64 ((IntKind.u64.wrap ((IntKind.u64.wrap ((IntKind.u64.wrap (s.seed * 6364136223846793005)) + (at_ s.code s.atx.toNat))) + 1442695040888963407)) / 1099511627776) 255), (l00Src.mk s.code (s.atx + 1) (IntKind.u64.wrap ((IntKind.u64.wrap ((IntKind.u64.wrap (s.seed * 6364136223846793005)) + (at_ s.code s.atx.toNat))) + 1442695040888963407)))) (show (0 ≤ (bitsI .and .u64 ((IntKind.u64.wrap ((IntKind.u64.wrap ((IntKind.u64.wrap (s.seed * 6364136223846793005)) + (at_ s.code s.atx.toNat))) + 1442695040888963407)) / 1099511627776) 255) ∧ (bitsI .and .u64 ((IntKind.u64.wrap ((IntKind.u64.wrap ((IntKind.u64.wrap (s.seed * 6364136223846793005)) + (at_ s.code s.atx.toNat))) + 1442695040888963407)) / 1099511627776) 255) ≤ 255) ∧ (okSrc (l00Src.mk s.code (s.atx + 1) (IntKind.u64.wrap ((IntKind.u64.wrap ((IntKind.u64.wrap (s.seed * 6364136223846793005)) + (at_ s.code s.atx.toNat))) + 1442695040888963407)))) ∧ ((l00Src.mk s.code (s.atx + 1) (IntKind.u64.wrap ((IntKind.u64.wrap ((IntKind.u64.wrap (s.seed * 6364136223846793005)) + (at_ s.code s.atx.toNat))) + 1442695040888963407))).code = s.code) ∧ (s.atx + 1 ≤ (l00Src.mk s.code (s.atx + 1) (IntKind.u64.wrap ((IntKind.u64.wrap ((IntKind.u64.wrap (s.seed * 6364136223846793005)) + (at_ s.code s.atx.toNat))) + 1442695040888963407))).atx ∧ (l00Src.mk s.code (s.atx + 1) (IntKind.u64.wrap ((IntKind.u64.wrap ((IntKind.u64.wrap (s.seed * 6364136223846793005)) + (at_ s.code s.atx.toNat))) + 1442695040888963407))).atx ≤ s.atx + 1) ∧ (True) from ⟨(by first | omega | rfl | assumption | (dsimp only; first | omega | rfl | assumption) | (simp only [*]; done) | exact ⟨hs.1, (by dsimp only; omega), hs1⟩), (by first | omega | rfl | assumption | (dsimp only; first | omega | rfl | assumption) | (simp only [*]; done) | exact ⟨hs.1, (by dsimp only; omega), hs1⟩), (by first | omega | rfl | assumption | (dsimp only; first | omega | rfl | assumption) | (simp only [*]; done) | exact ⟨hs.1, (by dsimp only; omega), hs1⟩), (by first | omega | rfl | assumption | (dsimp only; first | omega | rfl | assumption) | (simp only [*]; done) | exact ⟨hs.1, (by dsimp only; omega), hs1⟩), trivial⟩) (⟨.inl rfl, trivial⟩) (I (bitsI .and .u64 ((IntKind.u64.wrap ((IntKind.u64.wrap ((IntKind.u64.wrap (s.seed * 6364136223846793005)) + (at_ s.code s.atx.toNat))) + 1442695040888963407)) / 1099511627776) 255)) (by kernel_rfl) (.inl rfl) (fun _ => rfl) (fun _ => trivial)
    refine x_r [(9, .dec false)] [0, 3, 13] [7001] [.ref 7001 0, I 0, Bv false] [some (bxl00Src s)] [¬ (s.atx < (s.code.length : Int))] ⟨h1, trivial⟩ ?_
    refine xe_then ?_
    refine x_false rfl ?_
    refine x_skip ?_
    refine xe_then ?_
    refine xR [] [0, 3] [7001] [.ref 7001 0, I 0] [some (.box [slU8 false s.code, I (s.atx + 1), .val (.int .u64 s.seed)])] [inR .i64 (s.atx + 1)] ⟨(inR_i64 (by omega) (by omega)), trivial⟩ ?_
    refine xR [(5, .wrap), (8, .wrap), (9, .wrap)] [0, 3] [7001] [.ref 7001 0, I 0] [some (.box [slU8 false s.code, I (s.atx + 1), .val (.int .u64 (IntKind.u64.wrap ((IntKind.u64.wrap ((IntKind.u64.wrap (s.seed * 6364136223846793005)) + 0)) + 1442695040888963407)))])] [inR .u64 0] ⟨(inR_u64 (by omega) (by omega)), trivial⟩ ?_
    refine x_seq ?_
    refine x_seq ?_
    by_cases h3 : (s.atx + 1) ≤ (s.code.length : Int)
    ·refine x_r [(9, .dec true)] [0, 3, 53] [7001] [.ref 7001 0, I 0, Bv true] [some (.box [slU8 false s.code, I (s.atx + 1), .val (.int .u64 (IntKind.u64.wrap ((IntKind.u64.wrap ((IntKind.u64.wrap (s.seed * 6364136223846793005)) + 0)) + 1442695040888963407)))])] [(s.atx + 1) ≤ (s.code.length : Int)] ⟨h3, trivial⟩ ?_
     refine xe_then ?_
     refine x_true rfl ?_
     refine xR [] [2] [7001] [I 0] [some (.box [slU8 false s.code, I (s.atx + 1), .val (.int .u64 (IntKind.u64.wrap ((IntKind.u64.wrap ((IntKind.u64.wrap (s.seed * 6364136223846793005)) + 0)) + 1442695040888963407)))])] [] trivial ?_
     refine x_ret ?_
     refine xe_ret_then ?_
     refine xe_end (0, (l00Src.mk s.code (s.atx + 1) (IntKind.u64.wrap ((IntKind.u64.wrap ((IntKind.u64.wrap (s.seed * 6364136223846793005)) + 0)) + 1442695040888963407)))) (show (0 ≤ 0 ∧ 0 ≤ 255) ∧ (okSrc (l00Src.mk s.code (s.atx + 1) (IntKind.u64.wrap ((IntKind.u64.wrap ((IntKind.u64.wrap (s.seed * 6364136223846793005)) + 0)) + 1442695040888963407)))) ∧ ((l00Src.mk s.code (s.atx + 1) (IntKind.u64.wrap ((IntKind.u64.wrap ((IntKind.u64.wrap (s.seed * 6364136223846793005)) + 0)) + 1442695040888963407))).code = s.code) ∧ (s.atx + 1 ≤ (l00Src.mk s.code (s.atx + 1) (IntKind.u64.wrap ((IntKind.u64.wrap ((IntKind.u64.wrap (s.seed * 6364136223846793005)) + 0)) + 1442695040888963407))).atx ∧ (l00Src.mk s.code (s.atx + 1) (IntKind.u64.wrap ((IntKind.u64.wrap ((IntKind.u64.wrap (s.seed * 6364136223846793005)) + 0)) + 1442695040888963407))).atx ≤ s.atx + 1) ∧ (True) from ⟨(by first | omega | rfl | assumption | (dsimp only; first | omega | rfl | assumption) | (simp only [*]; done) | exact ⟨hs.1, (by dsimp only; omega), hs1⟩), (by first | omega | rfl | assumption | (dsimp only; first | omega | rfl | assumption) | (simp only [*]; done) | exact ⟨hs.1, (by dsimp only; omega), hs1⟩), (by first | omega | rfl | assumption | (dsimp only; first | omega | rfl | assumption) | (simp only [*]; done) | exact ⟨hs.1, (by dsimp only; omega), hs1⟩), (by first | omega | rfl | assumption | (dsimp only; first | omega | rfl | assumption) | (simp only [*]; done) | exact ⟨hs.1, (by dsimp only; omega), hs1⟩), trivial⟩) (⟨.inl rfl, trivial⟩) (I 0) (by kernel_rfl) (.inl rfl) (fun _ => rfl) (fun _ => trivial)
    refine x_r [(9, .dec false)] [0, 3, 53] [7001] [.ref 7001 0, I 0, Bv false] [some (.box [slU8 false s.code, I (s.atx + 1), .val (.int .u64 (IntKind.u64.wrap ((IntKind.u64.wrap ((IntKind.u64.wrap (s.seed * 6364136223846793005)) + 0)) + 1442695040888963407)))])] [¬ ((s.atx + 1) ≤ (s.code.length : Int))] ⟨h3, trivial⟩ ?_
    refine xe_then ?_
    refine x_false rfl ?_
    refine x_skip ?_
    refine xe_then ?_
    refine x_seq ?_
    have hb2 := and_255 ((IntKind.u64.wrap ((IntKind.u64.wrap ((IntKind.u64.wrap (s.seed * 6364136223846793005)) + 0)) + 1442695040888963407)) / 1099511627776)
    refine x_r [] [2] [7001] [I (bitsI .and .u64 ((IntKind.u64.wrap ((IntKind.u64.wrap ((IntKind.u64.wrap (s.seed * 6364136223846793005)) + 0)) + 1442695040888963407)) / 1099511627776) 255)] [some (.box [slU8 false s.code, I (s.atx + 1), .val (.int .u64 (IntKind.u64.wrap ((IntKind.u64.wrap ((IntKind.u64.wrap (s.seed * 6364136223846793005)) + 0)) + 1442695040888963407)))])] [(0 : Int) ≤ 40 ∧ (40 : Int) ≤ ((IntKind.bits .u64 : Nat) : Int), inR .i64 (bitsI .and .u64 ((IntKind.u64.wrap ((IntKind.u64.wrap ((IntKind.u64.wrap (s.seed * 6364136223846793005)) + 0)) + 1442695040888963407)) / 1099511627776) 255)] ⟨⟨(by decide), (by decide)⟩, (inR_i64 (by omega) (by omega)), trivial⟩ ?_
    refine xe_then ?_
    refine x_ret ?_
    refine xe_end ((bitsI .and .u64 ((IntKind.u64.wrap ((IntKind.u64.wrap ((IntKind.u64.wrap (s.seed * 6364136223846793005)) + 0)) + 1442695040888963407)) / 1099511627776) 255), (l00Src.mk s.code (s.atx + 1) (IntKind.u64.wrap ((IntKind.u64.wrap ((IntKind.u64.wrap (s.seed * 6364136223846793005)) + 0)) + 1442695040888963407)))) (show (0 ≤ (bitsI .and .u64 ((IntKind.u64.wrap ((IntKind.u64.wrap ((IntKind.u64.wrap (s.seed * 6364136223846793005)) + 0)) + 1442695040888963407)) / 1099511627776) 255) ∧ (bitsI .and .u64 ((IntKind.u64.wrap ((IntKind.u64.wrap ((IntKind.u64.wrap (s.seed * 6364136223846793005)) + 0)) + 1442695040888963407)) / 1099511627776) 255) ≤ 255) ∧ (okSrc (l00Src.mk s.code (s.atx + 1) (IntKind.u64.wrap ((IntKind.u64.wrap ((IntKind.u64.wrap (s.seed * 6364136223846793005)) + 0)) + 1442695040888963407)))) ∧ ((l00Src.mk s.code (s.atx + 1) (IntKind.u64.wrap ((IntKind.u64.wrap ((IntKind.u64.wrap (s.seed * 6364136223846793005)) + 0)) + 1442695040888963407))).code = s.code) ∧ (s.atx + 1 ≤ (l00Src.mk s.code (s.atx + 1) (IntKind.u64.wrap ((IntKind.u64.wrap ((IntKind.u64.wrap (s.seed * 6364136223846793005)) + 0)) + 1442695040888963407))).atx ∧ (l00Src.mk s.code (s.atx + 1) (IntKind.u64.wrap ((IntKind.u64.wrap ((IntKind.u64.wrap (s.seed * 6364136223846793005)) + 0)) + 1442695040888963407))).atx ≤ s.atx + 1) ∧ (True) from ⟨(by first | omega | rfl | assumption | (dsimp only; first | omega | rfl | assumption) | (simp only [*]; done) | exact ⟨hs.1, (by dsimp only; omega), hs1⟩), (by first | omega | rfl | assumption | (dsimp only; first | omega | rfl | assumption) | (simp only [*]; done) | exact ⟨hs.1, (by dsimp only; omega), hs1⟩), (by first | omega | rfl | assumption | (dsimp only; first | omega | rfl | assumption) | (simp only [*]; done) | exact ⟨hs.1, (by dsimp only; omega), hs1⟩), (by first | omega | rfl | assumption | (dsimp only; first | omega | rfl | assumption) | (simp only [*]; done) | exact ⟨hs.1, (by dsimp only; omega), hs1⟩), trivial⟩) (⟨.inl rfl, trivial⟩) (I (bitsI .and .u64 ((IntKind.u64.wrap ((IntKind.u64.wrap ((IntKind.u64.wrap (s.seed * 6364136223846793005)) + 0)) + 1442695040888963407)) / 1099511627776) 255)) (by kernel_rfl) (.inl rfl) (fun _ => rfl) (fun _ => trivial)
  obtain ⟨⟨v, s'⟩, ⟨hh0, hh1, hh2, hh3, _⟩, hc⟩ := hh
  exact ⟨v, s', hh0, hh1, hh2, hh3, hc⟩



-- spec.l00Src).pick
theorem pick_ok (s : l00Src) (n : Int) (hs : okSrc s) (ha : s.atx ≤ 3999999999999999990) : ∃ (v : Int) (s' : l00Src), (0 ≤ v ∧ (v < n ∨ v = 0)) ∧ (okSrc s') ∧ (s'.code = s.code) ∧ (s.atx + 0 ≤ s'.atx ∧ s'.atx ≤ s.atx + 2) ∧ CallOK Tryz.prog 28 [.ref 7001 0, I n] (lookO [(7001, bxl00Src s)]) true (I v) (lookO [(7001, bxl00Src s')]) := by
  have hs0 := hs.2.1
  have hs1 := hs.2.2
  have hh : ∃ r : Int × l00Src, ((0 ≤ r.1 ∧ (r.1 < n ∨ r.1 = 0)) ∧ (okSrc r.2) ∧ (r.2.code = s.code) ∧ (s.atx + 0 ≤ r.2.atx ∧ r.2.atx ≤ s.atx + 2) ∧ (True)) ∧ CallOK Tryz.prog 28 [.ref 7001 0, I n] (lookO [(7001, bxl00Src s)]) true (I r.1) (lookO [(7001, bxl00Src r.2)]) := by
    refine fn_okX (Φ := fun r : Int × l00Src => (0 ≤ r.1 ∧ (r.1 < n ∨ r.1 = 0)) ∧ (okSrc r.2) ∧ (r.2.code = s.code) ∧ (s.atx + 0 ≤ r.2.atx ∧ r.2.atx ≤ s.atx + 2) ∧ (True)) [(7001, bxl00Src s)] (fun r => [(7001, bxl00Src r.2)]) (fn := Tryz.f28) (nt := 20) Tryz.func28 rfl rfl (args := [.ref 7001 0, I n]) rfl (allcons (.inr trivial) (allcons (.inl ⟨rfl, trivial⟩) allnil)) (res := fun r => I r.1) ?_
    refine xR [] [0, 1] [7001] [.ref 7001 0, I n] [some (bxl00Src s)] [] trivial ?_
    refine x_seq ?_
    refine x_seq ?_
    by_cases h1 : n ≤ 1
    ·refine x_r [(1, .dec true)] [0, 1, 7] [7001] [.ref 7001 0, I n, Bv true] [some (bxl00Src s)] [n ≤ 1] ⟨h1, trivial⟩ ?_
     refine xe_then ?_
     refine x_true rfl ?_
     refine xR [] [4] [7001] [I 0] [some (bxl00Src s)] [] trivial ?_
     refine x_ret ?_
     refine xe_ret_then ?_
     refine xe_end (0, s) (show (0 ≤ 0 ∧ (0 < n ∨ 0 = 0)) ∧ (okSrc s) ∧ (s.code = s.code) ∧ (s.atx + 0 ≤ s.atx ∧ s.atx ≤ s.atx + 2) ∧ (True) from ⟨(by first | omega | rfl | assumption | (dsimp only; first | omega | rfl | assumption) | (simp only [*]; done) | exact ⟨Int.emod_nonneg _ (by omega), .inl (Int.emod_lt_of_pos _ (by omega))⟩), (by first | omega | rfl | assumption | (dsimp only; first | omega | rfl | assumption) | (simp only [*]; done) | exact ⟨Int.emod_nonneg _ (by omega), .inl (Int.emod_lt_of_pos _ (by omega))⟩), (by first | omega | rfl | assumption | (dsimp only; first | omega | rfl | assumption) | (simp only [*]; done) | exact ⟨Int.emod_nonneg _ (by omega), .inl (Int.emod_lt_of_pos _ (by omega))⟩), (by first | omega | rfl | assumption | (dsimp only; first | omega | rfl | assumption) | (simp only [*]; done) | exact ⟨Int.emod_nonneg _ (by omega), .inl (Int.emod_lt_of_pos _ (by omega))⟩), trivial⟩) (⟨.inl rfl, trivial⟩) (I 0) (by kernel_rfl) (.inl rfl) (fun _ => rfl) (fun _ => trivial)
    refine x_r [(1, .dec false)] [0, 1, 7] [7001] [.ref 7001 0, I n, Bv false] [some (bxl00Src s)] [¬ (n ≤ 1)] ⟨h1, trivial⟩ ?_
    refine xe_then ?_
    refine x_false rfl ?_
    refine x_skip ?_
    refine xe_then ?_
    refine x_seq ?_
    obtain ⟨v_1, s'_1, hx1_0, hx1_1, hx1_2, hx1_3, hc1⟩ := next_ok s (by first | assumption | (simp only [okSrc] at *; simp_all; done)) (by omega)
    refine x_r [(1, .lend [(7001, bxl00Src s, bxl00Src s'_1)] [] [(true, .any)] true (I v_1))] [0, 1, 5] [7001] [.ref 7001 0, I n, I v_1] [some (bxl00Src s'_1)] [CallOK Tryz.prog 50 [.ref 7001 0] (lookO [(7001, bxl00Src s)]) true (I v_1) (lookO [(7001, bxl00Src s'_1)]) ∧ (((bxl00Src s : Ob) = bxl00Src s ∨ obLe noOb true (bxl00Src s) (bxl00Src s)) ∧ taggedO false (bxl00Src s)) ∧ True] ⟨⟨hc1, ⟨.inl rfl, (by simp [taggedO, taggedL, tagged, tagU8])⟩, trivial⟩, trivial⟩ ?_
    refine xe_then ?_
    refine x_seq ?_
    refine x_seq ?_
    by_cases h2 : 200 < n
    ·refine x_r [(1, .dec true)] [0, 1, 5, 11] [7001] [.ref 7001 0, I n, I v_1, Bv true] [some (bxl00Src s'_1)] [200 < n] ⟨h2, trivial⟩ ?_
     refine xe_then ?_
     refine x_true rfl ?_
     obtain ⟨v_2, s'_2, hx2_0, hx2_1, hx2_2, hx2_3, hc2⟩ := next_ok s'_1 (by first | assumption | (simp only [okSrc] at *; simp_all; done)) (by omega)
     refine x_r [(3, .lend [(7001, bxl00Src s'_1, bxl00Src s'_2)] [] [(true, .any)] true (I v_2))] [1, 5] [7001] [I n, I ((v_1 * 256) + v_2)] [some (bxl00Src s'_2)] [inR .i64 (v_1 * 256), CallOK Tryz.prog 50 [.ref 7001 0] (lookO [(7001, bxl00Src s'_1)]) true (I v_2) (lookO [(7001, bxl00Src s'_2)]) ∧ (((bxl00Src s'_1 : Ob) = bxl00Src s'_1 ∨ obLe noOb true (bxl00Src s'_1) (bxl00Src s'_1)) ∧ taggedO false (bxl00Src s'_1)) ∧ True, inR .i64 ((v_1 * 256) + v_2)] ⟨(inR_i64 (by omega) (by omega)), ⟨hc2, ⟨.inl rfl, (by simp [taggedO, taggedL, tagged, tagU8])⟩, trivial⟩, (inR_i64 (by omega) (by omega)), trivial⟩ ?_
     refine xe_then ?_
     refine xR [(2, .nn)] [4] [7001] [I (((v_1 * 256) + v_2) % n)] [some (bxl00Src s'_2)] [(0 : Int) ≤ ((v_1 * 256) + v_2) ∧ (0 : Int) < n] ⟨⟨(by omega), (by omega)⟩, trivial⟩ ?_
     refine x_ret ?_
     refine xe_end ((((v_1 * 256) + v_2) % n), s'_2) (show (0 ≤ (((v_1 * 256) + v_2) % n) ∧ ((((v_1 * 256) + v_2) % n) < n ∨ (((v_1 * 256) + v_2) % n) = 0)) ∧ (okSrc s'_2) ∧ (s'_2.code = s.code) ∧ (s.atx + 0 ≤ s'_2.atx ∧ s'_2.atx ≤ s.atx + 2) ∧ (True) from ⟨(by first | omega | rfl | assumption | (dsimp only; first | omega | rfl | assumption) | (simp only [*]; done) | exact ⟨Int.emod_nonneg _ (by omega), .inl (Int.emod_lt_of_pos _ (by omega))⟩), (by first | omega | rfl | assumption | (dsimp only; first | omega | rfl | assumption) | (simp only [*]; done) | exact ⟨Int.emod_nonneg _ (by omega), .inl (Int.emod_lt_of_pos _ (by omega))⟩), (by first | omega | rfl | assumption | (dsimp only; first | omega | rfl | assumption) | (simp only [*]; done) | exact ⟨Int.emod_nonneg _ (by omega), .inl (Int.emod_lt_of_pos _ (by omega))⟩), (by first | omega | rfl | assumption | (dsimp only; first | omega | rfl | assumption) | (simp only [*]; done) | exact ⟨Int.emod_nonneg _ (by omega), .inl (Int.emod_lt_of_pos _ (by omega))⟩), trivial⟩) (⟨.inl rfl, trivial⟩) (I (((v_1 * 256) + v_2) % n)) (by kernel_rfl) (.inl rfl) (fun _ => rfl) (fun _ => trivial)
    refine x_r [(1, .dec false)] [0, 1, 5, 11] [7001] [.ref 7001 0, I n, I v_1, Bv false] [some (bxl00Src s'_1)] [¬ (200 < n)] ⟨h2, trivial⟩ ?_
    refine xe_then ?_
    refine x_false rfl ?_
    refine x_skip ?_
    refine xe_then ?_
    refine xR [(2, .nn)] [4] [7001] [I (v_1 % n)] [some (bxl00Src s'_1)] [(0 : Int) ≤ v_1 ∧ (0 : Int) < n] ⟨⟨(by omega), (by omega)⟩, trivial⟩ ?_
    refine x_ret ?_
    refine xe_end ((v_1 % n), s'_1) (show (0 ≤ (v_1 % n) ∧ ((v_1 % n) < n ∨ (v_1 % n) = 0)) ∧ (okSrc s'_1) ∧ (s'_1.code = s.code) ∧ (s.atx + 0 ≤ s'_1.atx ∧ s'_1.atx ≤ s.atx + 2) ∧ (True) from ⟨(by first | omega | rfl | assumption | (dsimp only; first | omega | rfl | assumption) | (simp only [*]; done) | exact ⟨Int.emod_nonneg _ (by omega), .inl (Int.emod_lt_of_pos _ (by omega))⟩), (by first | omega | rfl | assumption | (dsimp only; first | omega | rfl | assumption) | (simp only [*]; done) | exact ⟨Int.emod_nonneg _ (by omega), .inl (Int.emod_lt_of_pos _ (by omega))⟩), (by first | omega | rfl | assumption | (dsimp only; first | omega | rfl | assumption) | (simp only [*]; done) | exact ⟨Int.emod_nonneg _ (by omega), .inl (Int.emod_lt_of_pos _ (by omega))⟩), (by first | omega | rfl | assumption | (dsimp only; first | omega | rfl | assumption) | (simp only [*]; done) | exact ⟨Int.emod_nonneg _ (by omega), .inl (Int.emod_lt_of_pos _ (by omega))⟩), trivial⟩) (⟨.inl rfl, trivial⟩) (I (v_1 % n)) (by kernel_rfl) (.inl rfl) (fun _ => rfl) (fun _ => trivial)
  obtain ⟨⟨v, s'⟩, ⟨hh0, hh1, hh2, hh3, _⟩, hc⟩ := hh
  exact ⟨v, s', hh0, hh1, hh2, hh3, hc⟩



-- spec.l00Src).text
theorem text_ok (s : l00Src) (list : List ByteArray) (hs : okSrc s) (ha : s.atx ≤ 3999999999999999980) (hl : (0 < list.length ∧ list.length ≤ 1000) ∧ ∀ z ∈ list, z.size ≤ 16) : ∃ (v : ByteArray) (s' : l00Src), (v.size ≤ 16) ∧ (okSrc s') ∧ (s'.code = s.code) ∧ (s.atx + 0 ≤ s'.atx ∧ s'.atx ≤ s.atx + 2) ∧ (v ∈ list) ∧ CallOK Tryz.prog 30 [.ref 7001 0, slS false list] (lookO [(7001, bxl00Src s)]) true (Sv v) (lookO [(7001, bxl00Src s')]) := by
  have hh : ∃ r : ByteArray × l00Src, ((r.1.size ≤ 16) ∧ (okSrc r.2) ∧ (r.2.code = s.code) ∧ (s.atx + 0 ≤ r.2.atx ∧ r.2.atx ≤ s.atx + 2) ∧ (r.1 ∈ list) ∧ (True)) ∧ CallOK Tryz.prog 30 [.ref 7001 0, slS false list] (lookO [(7001, bxl00Src s)]) true (Sv r.1) (lookO [(7001, bxl00Src r.2)]) := by
    refine fn_okX (Φ := fun r : ByteArray × l00Src => (r.1.size ≤ 16) ∧ (okSrc r.2) ∧ (r.2.code = s.code) ∧ (s.atx + 0 ≤ r.2.atx ∧ r.2.atx ≤ s.atx + 2) ∧ (r.1 ∈ list) ∧ (True)) [(7001, bxl00Src s)] (fun r => [(7001, bxl00Src r.2)]) (fn := Tryz.f30) (nt := 12) Tryz.func30 rfl rfl (args := [.ref 7001 0, slS false list]) rfl (allcons (.inr trivial) (allcons (.inl ⟨rfl, tagS false _⟩) allnil)) (res := fun r => Sv r.1) ?_
    refine xR [] [0, 1] [7001] [.ref 7001 0, slS false list] [some (bxl00Src s)] [] trivial ?_
    refine x_seq ?_
    obtain ⟨v_1, s'_1, hx1_0, hx1_1, hx1_2, hx1_3, hc1⟩ := pick_ok s (list.length : Int) (by first | assumption | (simp only [okSrc] at *; simp_all; done)) (by omega)
    refine x_r [(4, .lend [(7001, bxl00Src s, bxl00Src s'_1)] [] [(true, .any), (true, .any)] true (I v_1))] [4] [7001] [Sv (at_ list v_1.toNat)] [some (bxl00Src s'_1)] [CallOK Tryz.prog 28 [.ref 7001 0, I (list.length : Int)] (lookO [(7001, bxl00Src s)]) true (I v_1) (lookO [(7001, bxl00Src s'_1)]) ∧ (((bxl00Src s : Ob) = bxl00Src s ∨ obLe noOb true (bxl00Src s) (bxl00Src s)) ∧ taggedO false (bxl00Src s)) ∧ True, (0 : Int) ≤ v_1 ∧ v_1 < (list.length : Int)] ⟨⟨hc1, ⟨.inl rfl, (by simp [taggedO, taggedL, tagged, tagU8])⟩, trivial⟩, ⟨(by omega), (by omega)⟩, trivial⟩ ?_
    refine xe_then ?_
    refine x_ret ?_
    refine xe_end ((at_ list v_1.toNat), s'_1) (show ((at_ list v_1.toNat).size ≤ 16) ∧ (okSrc s'_1) ∧ (s'_1.code = s.code) ∧ (s.atx + 0 ≤ s'_1.atx ∧ s'_1.atx ≤ s.atx + 2) ∧ ((at_ list v_1.toNat) ∈ list) ∧ (True) from ⟨(by first | omega | rfl | assumption | (dsimp only; first | omega | rfl | assumption) | (simp only [*]; done) | (exact at_mem (by omega)) | (exact hl.2 _ (at_mem (by omega))) | (simp_all; done)), (by first | omega | rfl | assumption | (dsimp only; first | omega | rfl | assumption) | (simp only [*]; done) | (exact at_mem (by omega)) | (exact hl.2 _ (at_mem (by omega))) | (simp_all; done)), (by first | omega | rfl | assumption | (dsimp only; first | omega | rfl | assumption) | (simp only [*]; done) | (exact at_mem (by omega)) | (exact hl.2 _ (at_mem (by omega))) | (simp_all; done)), (by first | omega | rfl | assumption | (dsimp only; first | omega | rfl | assumption) | (simp only [*]; done) | (exact at_mem (by omega)) | (exact hl.2 _ (at_mem (by omega))) | (simp_all; done)), (by first | omega | rfl | assumption | (dsimp only; first | omega | rfl | assumption) | (simp only [*]; done) | (exact at_mem (by omega)) | (exact hl.2 _ (at_mem (by omega))) | (simp_all; done)), trivial⟩) (⟨.inl rfl, trivial⟩) (Sv (at_ list v_1.toNat)) (by kernel_rfl) (.inl rfl) (fun _ => rfl) (fun _ => trivial)
  obtain ⟨⟨v, s'⟩, ⟨hh0, hh1, hh2, hh3, hh4, _⟩, hc⟩ := hh
  exact ⟨v, s', hh0, hh1, hh2, hh3, hh4, hc⟩



def cmpS (a b : ByteArray) : Int := if sless a b = true then -1 else if sless a b = false ∧ a ≠ b then 1 else 0
def orL : List Int → Int
  | [] => 0
  | x :: r => if x = 0 then orL r else x
theorem orL_at [Inhabited Int] {xs : List Int} : ∀ {k : Nat}, k < xs.length → (∀ j, j < k → at_ xs j = 0) → at_ xs k ≠ 0 → orL xs = at_ xs k := by
  induction xs with
  | nil => intro k h; simp at h
  | cons x r ih =>
    intro k h h0 hk
    cases k with
    | zero => have e : at_ (x :: r) 0 = x := rfl; rw [e] at hk ⊢; exact if_neg hk
    | succ k =>
      have e : at_ (x :: r) (k + 1) = at_ r k := by simp [at_]
      have e0 : x = 0 := h0 0 (by omega)
      rw [e] at hk ⊢
      unfold orL; rw [if_pos e0]
      refine ih (by simpa using h) (fun j hj => ?_) hk
      have := h0 (j + 1) (by omega)
      simpa [at_] using this
theorem orL_none [Inhabited Int] {xs : List Int} : (∀ j, j < xs.length → at_ xs j = 0) → orL xs = 0 := by
  induction xs with
  | nil => intro _; rfl
  | cons x r ih =>
    intro h
    have e0 : x = 0 := h 0 (by simp)
    unfold orL; rw [if_pos e0]
    refine ih fun j hj => ?_
    have := h (j + 1) (by simp; omega)
    simpa [at_] using this




def cmpI (a b : Int) : Int := if a < b then -1 else if b < a then 1 else 0
theorem cmpI_neg {a b : Int} : cmpI a b < 0 ↔ a < b := by unfold cmpI; split <;> (try split) <;> omega
theorem cmpI_zero {a b : Int} : cmpI a b = 0 ↔ a = b := by unfold cmpI; split <;> (try split) <;> omega
def shfL {α : Type} (p : List α) (x : α) (j : Nat) : List α := p.take j ++ x :: p.drop j
theorem shf_len {α : Type} {p : List α} {x : α} {j : Nat} (h : j ≤ p.length) : (shfL p x j).length = p.length + 1 := by
  simp [shfL]; omega
def posL {α : Type} [Inhabited α] (c : α → α → Int) (x : α) (p : List α) : Nat → Nat
  | 0 => 0
  | j + 1 => if c x (at_ p j) < 0 then posL c x p j else j + 1
theorem posL_le {α : Type} [Inhabited α] (c : α → α → Int) (x : α) (p : List α) : ∀ j : Nat, posL c x p j ≤ j
  | 0 => Nat.le_refl _
  | j + 1 => by unfold posL; split; exact Nat.le_succ_of_le (posL_le c x p j); exact Nat.le_refl _
def insL {α : Type} [Inhabited α] (c : α → α → Int) (p : List α) (x : α) : List α := shfL p x (posL c x p p.length)
def isoL {α : Type} [Inhabited α] (c : α → α → Int) (xs : List α) : Nat → List α
  | 0 => []
  | k + 1 => insL c (isoL c xs k) (at_ xs k)
theorem isoL_len {α : Type} [Inhabited α] (c : α → α → Int) (xs : List α) : ∀ k : Nat, (isoL c xs k).length = k
  | 0 => rfl
  | k + 1 => by unfold isoL insL; rw [shf_len (posL_le _ _ _ _), isoL_len c xs k]
theorem shf_perm {α : Type} (p : List α) (x : α) (j : Nat) : List.Perm (shfL p x j) (p ++ [x]) := by
  unfold shfL
  refine List.perm_middle.trans ?_
  rw [List.take_append_drop]
  exact (List.perm_append_singleton x p).symm
theorem isoL_perm {α : Type} [Inhabited α] (c : α → α → Int) (xs : List α) : ∀ k : Nat, k ≤ xs.length → List.Perm (isoL c xs k) (xs.take k)
  | 0, _ => by simp [isoL]
  | k + 1, h => by
    rw [List.take_succ_eq_append_getElem (by omega), ← at_eq (by omega)]
    exact (shf_perm _ _ _).trans ((isoL_perm c xs k (by omega)).append_right _)
def ordR {α : Type} (c : α → α → Int) (B : α → α → Prop) (x y : α) : Prop := c x y < 0 ∨ c x y = 0 ∧ B x y
structure CmpW {α : Type} (c : α → α → Int) : Prop where
  anti : ∀ x y, c x y < 0 ↔ 0 < c y x
  trans : ∀ x y z, c x y ≤ 0 → c y z < 0 → c x z < 0
theorem CmpW.refl {α : Type} {c : α → α → Int} (h : CmpW c) (x : α) : c x x = 0 := by have := h.anti x x; omega
theorem CmpW.zero {α : Type} {c : α → α → Int} (h : CmpW c) {x y : α} (e : c x y = 0) : c y x = 0 := by have h1 := h.anti x y; have h2 := h.anti y x; omega
theorem CmpW.le {α : Type} {c : α → α → Int} (h : CmpW c) {x y z : α} (h1 : c x y ≤ 0) (h2 : c y z ≤ 0) : c x z ≤ 0 := by
  rcases Int.lt_or_le 0 (c x z) with g | g
  · have q := (h.anti z x).2 g
    have q2 : c y x < 0 := h.trans y z x h2 q
    have := (h.anti y x).1 q2; omega
  · exact g
theorem pos_lo {α : Type} [Inhabited α] {c : α → α → Int} {x : α} {p : List α} : ∀ (n k : Nat), posL c x p n ≤ k → k < n → c x (at_ p k) < 0
  | 0, k, _, h => absurd h (Nat.not_lt_zero _)
  | n + 1, k, h1, h2 => by
    unfold posL at h1
    split at h1
    · rename_i g
      by_cases e : k = n
      · subst e; exact g
      · exact pos_lo n k h1 (by omega)
    · omega
theorem pos_at {α : Type} [Inhabited α] {c : α → α → Int} {x : α} {p : List α} : ∀ n : Nat, posL c x p n = 0 ∨ ¬ c x (at_ p (posL c x p n - 1)) < 0
  | 0 => .inl rfl
  | n + 1 => by
    unfold posL
    split
    · exact pos_at n
    · right; assumption
theorem isoL_ord {α : Type} [Inhabited α] {c : α → α → Int} (hc : CmpW c) {B : α → α → Prop} {xs : List α} (hB : xs.Pairwise B) : ∀ k : Nat, k ≤ xs.length → (isoL c xs k).Pairwise (ordR c B)
  | 0, _ => by simp [isoL]
  | k + 1, h => by
    have ih := isoL_ord hc hB k (by omega)
    have hp := isoL_perm c xs k (by omega)
    have hl := isoL_len c xs k
    obtain ⟨p, hpe⟩ : ∃ p, p = isoL c xs k := ⟨_, rfl⟩
    obtain ⟨x, hx⟩ : ∃ x, x = at_ xs k := ⟨_, rfl⟩
    rw [isoL, ← hpe, ← hx]
    rw [← hpe] at ih hp hl
    have hbx : ∀ y ∈ p, B y x := fun y hy => by
      have hm := hp.mem_iff.1 hy
      obtain ⟨i, hi, e⟩ := List.getElem_of_mem hm
      rw [List.length_take] at hi
      rw [List.getElem_take] at e
      rw [← e, hx, at_eq (by omega)]
      exact (List.pairwise_iff_getElem.1 hB) i k (by omega) (by omega) (by omega)
    unfold insL shfL
    have hj := posL_le c x p p.length
    have lo := fun k hk hk2 => pos_lo (c := c) (x := x) (p := p) p.length k hk hk2
    have hi := pos_at (c := c) (x := x) (p := p) p.length
    generalize posL c x p p.length = j at hj lo hi ⊢
    have hle : ∀ y ∈ p.take j, c y x ≤ 0 := fun y hy => by
      obtain ⟨i, hi2, e⟩ := List.getElem_of_mem hy
      rw [List.length_take] at hi2
      rw [List.getElem_take] at e
      rcases hi with e0 | e0
      · omega
      · have h3 : c (at_ p (j - 1)) x ≤ 0 := by
          rcases Int.lt_or_le 0 (c (at_ p (j - 1)) x) with g | g
          · exact absurd ((hc.anti _ _).2 g) e0
          · exact g
        rw [← e]
        by_cases ei : i = j - 1
        · have : p[i] = at_ p (j - 1) := by rw [at_eq (by omega)]; congr 1
          rw [this]; exact h3
        · have q := (List.pairwise_iff_getElem.1 ih) i (j - 1) (by omega) (by omega) (by omega)
          rw [← at_eq (show j - 1 < p.length by omega)] at q
          refine hc.le ?_ h3
          rcases q with q | q
          · omega
          · omega
    have hgt : ∀ y ∈ p.drop j, c x y < 0 := fun y hy => by
      obtain ⟨i, hi2, e⟩ := List.getElem_of_mem hy
      rw [List.length_drop] at hi2
      rw [List.getElem_drop] at e
      rw [← e, ← at_eq (by omega)]
      exact lo _ (by omega) (by omega)
    rw [List.pairwise_append]
    refine ⟨ih.sublist (List.take_sublist _ _), List.pairwise_cons.2 ⟨fun y hy => .inl (hgt y hy), ih.sublist (List.drop_sublist _ _)⟩, fun a ha b hb => ?_⟩
    rcases List.mem_cons.1 hb with e | e
    · subst e
      have := hle a ha
      by_cases z : c a b = 0
      · exact .inr ⟨z, hbx a (List.mem_of_mem_take ha)⟩
      · exact .inl (by omega)
    · exact .inl (hc.trans a x b (hle a ha) (hgt b e))
theorem isoL_mem {α : Type} [Inhabited α] {c : α → α → Int} {xs : List α} {x : α} : x ∈ isoL c xs xs.length ↔ x ∈ xs := by
  have := (isoL_perm c xs xs.length (Nat.le_refl _)).mem_iff (a := x)
  rwa [List.take_of_length_le (Nat.le_refl _)] at this

theorem bl_irr : ∀ x : List UInt8, Op.bytesLess x x = false
  | [] => rfl
  | a :: x => by
    have h : ¬ a < a := fun q => by have := UInt8.lt_iff_toNat_lt.1 q; omega
    simp [Op.bytesLess, bl_irr x, h]
theorem bl_asym : ∀ x y : List UInt8, Op.bytesLess x y = true → Op.bytesLess y x = false
  | [], [], h => by simp [Op.bytesLess] at h
  | [], _ :: _, _ => by simp [Op.bytesLess]
  | _ :: _, [], h => by simp [Op.bytesLess] at h
  | a :: x, b :: y, h => by
    simp only [Op.bytesLess, Bool.or_eq_true, Bool.and_eq_true, decide_eq_true_eq, beq_iff_eq] at h
    rcases h with h | ⟨h, h2⟩
    · have q := UInt8.lt_iff_toNat_lt.1 h
      have n1 : ¬ b < a := fun z => by have := UInt8.lt_iff_toNat_lt.1 z; omega
      have n2 : ¬ b = a := fun z => by subst z; omega
      simp [Op.bytesLess, n1, n2]
    · subst h
      have n1 : ¬ a < a := fun z => by have := UInt8.lt_iff_toNat_lt.1 z; omega
      simp [Op.bytesLess, n1, bl_asym x y h2]
theorem bl_trans : ∀ x y z : List UInt8, Op.bytesLess x y = true → Op.bytesLess y z = true → Op.bytesLess x z = true
  | _, _, [], _, h => by simp [Op.bytesLess] at h
  | _, [], _ :: _, h, _ => by simp [Op.bytesLess] at h
  | [], _ :: _, _ :: _, _, _ => by simp [Op.bytesLess]
  | a :: x, b :: y, c :: z, h1, h2 => by
    simp only [Op.bytesLess, Bool.or_eq_true, Bool.and_eq_true, decide_eq_true_eq, beq_iff_eq] at h1 h2 ⊢
    rcases h1 with h1 | ⟨h1, g1⟩ <;> rcases h2 with h2 | ⟨h2, g2⟩
    · left; have := UInt8.lt_iff_toNat_lt.1 h1; have := UInt8.lt_iff_toNat_lt.1 h2; exact UInt8.lt_iff_toNat_lt.2 (by omega)
    · left; rw [← h2]; exact h1
    · left; rw [h1]; exact h2
    · right; exact ⟨h1.trans h2, bl_trans x y z g1 g2⟩
theorem bl_tri : ∀ x y : List UInt8, Op.bytesLess x y = false → x ≠ y → Op.bytesLess y x = true
  | [], [], _, h => absurd rfl h
  | [], _ :: _, h, _ => by simp [Op.bytesLess] at h
  | _ :: _, [], _, _ => by simp [Op.bytesLess]
  | a :: x, b :: y, h, hn => by
    simp only [Op.bytesLess, Bool.or_eq_false_iff, decide_eq_false_iff_not] at h
    simp only [Op.bytesLess, Bool.or_eq_true, Bool.and_eq_true, decide_eq_true_eq, beq_iff_eq]
    by_cases e : a = b
    · subst e
      right
      refine ⟨rfl, bl_tri x y ?_ fun q => hn (by rw [q])⟩
      have := h.2
      simpa using this
    · left
      have q : ¬ a.toNat < b.toNat := fun z => h.1 (UInt8.lt_iff_toNat_lt.2 z)
      have q2 : a.toNat ≠ b.toNat := fun z => e (UInt8.toNat_inj.1 z)
      exact UInt8.lt_iff_toNat_lt.2 (by omega)
theorem sl_tri {a b : ByteArray} (h : sless a b = false) (hn : a ≠ b) : sless b a = true := by
  unfold sless at *
  refine bl_tri _ _ h fun q => hn ?_
  rw [Lib.toList_data, Lib.toList_data] at q
  cases a; cases b
  simp only [ByteArray.mk.injEq]
  exact Array.toList_inj.1 q
theorem sl_asym {a b : ByteArray} (h : sless a b = true) : sless b a = false := bl_asym _ _ h
theorem sl_irr (a : ByteArray) : sless a a = false := bl_irr _
theorem sl_trans {a b c : ByteArray} (h1 : sless a b = true) (h2 : sless b c = true) : sless a c = true := bl_trans _ _ _ h1 h2
theorem sl_ne {a b : ByteArray} (h : sless a b = true) : a ≠ b := fun e => by subst e; rw [sl_irr] at h; cases h
theorem cmpS_neg {a b : ByteArray} : cmpS a b < 0 ↔ sless a b = true := by
  unfold cmpS
  by_cases h : sless a b = true
  · rw [if_pos h]; simp [h]
  · rw [if_neg h]; split <;> simp [h]
theorem cmpS_zero {a b : ByteArray} : cmpS a b = 0 ↔ a = b := by
  unfold cmpS
  by_cases h : sless a b = true
  · rw [if_pos h]; have := sl_ne h; simp [this]
  · rw [if_neg h]
    have h' : sless a b = false := by simpa using h
    by_cases e : a = b
    · subst e; simp
    · rw [if_pos ⟨h', e⟩]; simp [e]
theorem cmpS_pos {a b : ByteArray} : 0 < cmpS a b ↔ sless b a = true := by
  constructor
  · intro h
    have n1 : ¬ cmpS a b < 0 := by omega
    have n2 : ¬ cmpS a b = 0 := by omega
    rw [cmpS_neg] at n1; rw [cmpS_zero] at n2
    exact sl_tri (by simpa using n1) n2
  · intro h
    have n1 : ¬ cmpS a b < 0 := fun q => by rw [cmpS_neg] at q; have := sl_asym q; rw [h] at this; cases this
    have n2 : ¬ cmpS a b = 0 := fun q => by rw [cmpS_zero] at q; exact sl_ne h q.symm
    omega
theorem cmpS_w : CmpW cmpS := ⟨fun x y => by rw [cmpS_neg, cmpS_pos], fun x y z h1 h2 => by
  rw [cmpS_neg] at *
  by_cases e : cmpS x y = 0
  · rw [cmpS_zero] at e; subst e; exact h2
  · exact sl_trans (cmpS_neg.1 (by omega)) h2⟩
theorem cmpI_w : CmpW cmpI := ⟨fun x y => by unfold cmpI; split <;> (try split) <;> (try split) <;> omega, fun x y z h1 h2 => by
  rw [cmpI_neg] at *
  have := @cmpI_neg y x
  have := @cmpI_zero x y
  have := @cmpI_neg x y
  omega⟩
theorem CmpW.lex {α β : Type} {f : β → α} {c : α → α → Int} {d : β → β → Int} (hc : CmpW c) (hd : CmpW d) : CmpW fun x y : β => if c (f x) (f y) = 0 then d x y else c (f x) (f y) := ⟨fun x y => by
    have a1 := hc.anti (f x) (f y)
    have a2 := hc.anti (f y) (f x)
    have b1 := hd.anti x y
    show (if c (f x) (f y) = 0 then d x y else c (f x) (f y)) < 0 ↔ 0 < (if c (f y) (f x) = 0 then d y x else c (f y) (f x))
    by_cases e : c (f x) (f y) = 0
    · rw [if_pos e, if_pos (hc.zero e)]; exact b1
    · rw [if_neg e, if_neg (fun q => e (hc.zero q))]; exact a1, fun x y z h1 h2 => by
    replace h1 : (if c (f x) (f y) = 0 then d x y else c (f x) (f y)) ≤ 0 := h1
    replace h2 : (if c (f y) (f z) = 0 then d y z else c (f y) (f z)) < 0 := h2
    show (if c (f x) (f z) = 0 then d x z else c (f x) (f z)) < 0
    by_cases e1 : c (f x) (f y) = 0
    · rw [if_pos e1] at h1
      by_cases e2 : c (f y) (f z) = 0
      · rw [if_pos e2] at h2
        have l1 := hc.le (x := f x) (y := f y) (z := f z) (by omega) (by omega)
        have l2 := hc.le (x := f z) (y := f y) (z := f x) (by have := hc.zero e2; omega) (by have := hc.zero e1; omega)
        have a := hc.anti (f x) (f z)
        have a2 := hc.anti (f z) (f x)
        rw [if_pos (by omega)]
        exact hd.trans x y z h1 h2
      · rw [if_neg e2] at h2
        have := hc.trans (f x) (f y) (f z) (by omega) h2
        rw [if_neg (by omega)]; exact this
    · rw [if_neg e1] at h1
      have h1' : c (f x) (f y) < 0 := by omega
      have hz : c (f y) (f z) ≤ 0 := by
        by_cases e2 : c (f y) (f z) = 0
        · omega
        · rw [if_neg e2] at h2; omega
      have l := hc.le (x := f x) (y := f y) (z := f z) (by omega) hz
      have n : c (f x) (f z) ≠ 0 := fun q => by
        have q2 := hc.zero q
        have := hc.trans (f z) (f x) (f y) (by omega) h1'
        have a := hc.anti (f z) (f y)
        omega
      rw [if_neg n]; omega⟩
theorem CmpW.map {α β : Type} {c : α → α → Int} (hc : CmpW c) (f : β → α) : CmpW fun x y : β => c (f x) (f y) := ⟨fun x y => hc.anti _ _, fun x y z => hc.trans _ _ _⟩


theorem pw_get {α : Type} [Inhabited α] {R : α → α → Prop} {xs : List α} (h : xs.Pairwise R) {i j : Nat} (hij : i < j) (hj : j < xs.length) : R (at_ xs i) (at_ xs j) := by
  rw [at_eq (by omega), at_eq hj]
  exact (List.pairwise_iff_getElem.1 h) i j (by omega) hj hij
theorem ins_ok {α : Type} [Inhabited α] {c : α → α → Int} (hw : CmpW c) {xs : List α} (hp : xs.Pairwise fun x y => c x y < 0) {e : α} {k : Nat} (hk : k ≤ xs.length) (hlo : k = 0 ∨ ¬ 0 < c (at_ xs (k - 1)) e) (hhi : ∀ j : Nat, k ≤ j → j < xs.length → 0 < c (at_ xs j) e) (hne : ∀ x ∈ xs, c x e ≠ 0) :
    (xs.take k ++ [e] ++ xs.drop k).Pairwise fun x y => c x y < 0 := by
  have hle : ∀ x ∈ xs.take k, c x e < 0 := fun x hx => by
    obtain ⟨i, hi, q⟩ := List.getElem_of_mem hx
    rw [List.length_take] at hi
    rw [List.getElem_take] at q
    rcases hlo with e0 | e0
    · omega
    · have hm := hne _ (at_mem (show k - 1 < xs.length by omega))
      have h1 : c (at_ xs (k - 1)) e < 0 := by omega
      rw [← q, ← at_eq (by omega)]
      by_cases ei : i = k - 1
      · rw [ei]; exact h1
      · exact hw.trans _ _ _ (by have := pw_get hp (show i < k - 1 by omega) (by omega); omega) h1
  have hgt : ∀ y ∈ xs.drop k, c e y < 0 := fun y hy => by
    obtain ⟨i, hi, q⟩ := List.getElem_of_mem hy
    rw [List.length_drop] at hi
    rw [List.getElem_drop] at q
    rw [← q, ← at_eq (by omega)]
    exact (hw.anti _ _).2 (hhi _ (by omega) (by omega))
  rw [List.append_assoc, List.pairwise_append]
  refine ⟨hp.sublist (List.take_sublist _ _), ?_, fun a ha b hb => ?_⟩
  · rw [List.singleton_append]
    exact List.pairwise_cons.2 ⟨hgt, hp.sublist (List.drop_sublist _ _)⟩
  · rw [List.singleton_append] at hb
    rcases List.mem_cons.1 hb with q | q
    · subst q; exact hle a ha
    · have h1 := hle a ha
      exact hw.trans a e b (by omega) (hgt b q)
theorem ins_mem {α : Type} {xs : List α} {e x : α} {k : Nat} : x ∈ xs.take k ++ [e] ++ xs.drop k ↔ x = e ∨ x ∈ xs := by
  constructor
  · intro h
    rw [List.append_assoc, List.mem_append, List.singleton_append, List.mem_cons] at h
    rcases h with h | h | h
    · exact .inr (List.mem_of_mem_take h)
    · exact .inl h
    · exact .inr (List.mem_of_mem_drop h)
  · intro h
    rw [List.append_assoc, List.mem_append, List.singleton_append, List.mem_cons]
    rcases h with h | h
    · exact .inr (.inl h)
    · rw [← List.take_append_drop k xs, List.mem_append] at h
      rcases h with h | h
      · exact .inl h
      · exact .inr (.inr h)

def inB (a l h : Int) : Bool := decide (l ≤ a ∧ a ≤ h)
theorem inB_iff {a l h : Int} : inB a l h = true ↔ l ≤ a ∧ a ≤ h := by simp [inB]
theorem bAt_bd (s : ByteArray) (i : Nat) : 0 ≤ bAt s i ∧ bAt s i ≤ 255 := by
  unfold bAt
  have := (s.data.toList.getD i 0).toNat_lt
  omega


def labB (n : Int) : Bool := decide ((97 ≤ n ∧ n ≤ 122) ∨ (48 ≤ n ∧ n ≤ 57) ∨ n = 43 ∨ n = 45 ∨ n = 42 ∨ n = 47 ∨ n = 61 ∨ n = 40 ∨ n = 41 ∨ n = 46 ∨ n = 44)
def okLabel (s : ByteArray) : Bool := decide (s.size = 1) && labB (bAt s 0)


def cmpH (a b : Hyp) : Int := orL [cmpI a.Cost b.Cost, cmpS a.Label b.Label]
theorem cmpH_eq (a b : Hyp) : cmpH a b = if cmpI a.Cost b.Cost = 0 then cmpS a.Label b.Label else cmpI a.Cost b.Cost := by
  unfold cmpH orL orL orL
  by_cases h1 : cmpI a.Cost b.Cost = 0
  · rw [if_pos h1, if_pos h1]; split
    · rename_i h3; exact h3.symm
    · rfl
  · rw [if_neg h1, if_neg h1]
theorem cmpH_w : CmpW cmpH := by
  have h : cmpH = fun x y => if cmpI x.Cost y.Cost = 0 then (fun x y : Hyp => cmpS x.Label y.Label) x y else cmpI x.Cost y.Cost := funext fun a => funext fun b => cmpH_eq a b
  rw [h]
  exact CmpW.lex (f := Hyp.Cost) cmpI_w (cmpS_w.map Hyp.Label)
theorem cmpH_tot (a b : Hyp) (h : cmpH a b = 0) : a = b := by
  rw [cmpH_eq] at h
  by_cases e : cmpI a.Cost b.Cost = 0
  · rw [if_pos e] at h
    cases a; cases b
    rw [cmpI_zero] at e
    rw [cmpS_zero] at h
    simp_all
  · rw [if_neg e] at h; exact absurd h e
def hasHL (xs : List Hyp) (l : ByteArray) : Bool := anyN xs.length fun j => decide ((at_ xs j).Label = l)
def pickH (most : Int) (xs : List Hyp) : Nat → List Hyp
  | 0 => []
  | k + 1 => if ((pickH most xs k).length : Int) < most ∧ hasHL (pickH most xs k) (at_ xs k).Label = false then pickH most xs k ++ [at_ xs k] else pickH most xs k
theorem pickH_len (most : Int) (xs : List Hyp) : ∀ k, (pickH most xs k).length ≤ k
  | 0 => Nat.le_refl _
  | k + 1 => by
    have := pickH_len most xs k
    unfold pickH
    split
    · simp; omega
    · omega
theorem pick_y {most : Int} {xs : List Hyp} {k : Int} (h0 : 0 ≤ k) (h1 : ((pickH most xs k.toNat).length : Int) < most) (h2 : hasHL (pickH most xs k.toNat) (at_ xs k.toNat).Label = false) : pickH most xs (k + 1).toNat = pickH most xs k.toNat ++ [at_ xs k.toNat] := by
  rw [show (k + 1).toNat = k.toNat + 1 from by omega]; exact if_pos ⟨h1, h2⟩
theorem pick_n {most : Int} {xs : List Hyp} {k : Int} (h0 : 0 ≤ k) (h : ¬ (((pickH most xs k.toNat).length : Int) < most ∧ hasHL (pickH most xs k.toNat) (at_ xs k.toNat).Label = false)) : pickH most xs (k + 1).toNat = pickH most xs k.toNat := by
  rw [show (k + 1).toNat = k.toNat + 1 from by omega]; exact if_neg h
def hypL (most : Int) (xs : List Hyp) : List Hyp := pickH most (isoL cmpH xs xs.length) xs.length
def okSet (t : Setting) : Bool := inB t.Points 2 24 && (inB t.Most 1 8 && inB t.Pen 0 1000)


theorem cmpH_neg {a b : Hyp} : cmpH a b < 0 ↔ a.Cost < b.Cost ∨ (a.Cost = b.Cost ∧ sless a.Label b.Label = true) := by
  rw [cmpH_eq]
  by_cases h : cmpI a.Cost b.Cost = 0
  · rw [if_pos h, cmpS_neg]; rw [cmpI_zero] at h
    exact ⟨fun q => .inr ⟨h, q⟩, fun q => q.elim (fun q => by omega) fun q => q.2⟩
  · rw [if_neg h, cmpI_neg]; rw [cmpI_zero] at h
    exact ⟨fun q => .inl q, fun q => q.elim id fun q => absurd q.1 h⟩
def okHyps (xs : List Hyp) : Prop := xs.length ≤ 8 ∧ (∀ i : Nat, i < xs.length → okLabel (at_ xs i).Label = true ∧ 0 ≤ (at_ xs i).Cost ∧ (at_ xs i).Cost ≤ 1000000) ∧ (xs.Pairwise fun x y => cmpH x y < 0) ∧ xs.Pairwise fun x y => x.Label ≠ y.Label


-- spec.l13Before
theorem l13Before_ok (a : Hyp) (b : Hyp) : Con Tryz.prog 41 [agHyp a, agHyp b] true (Bv (decide (cmpH a b < 0))) := by
  refine fn_ok (fn := Tryz.f41) (nt := 24) Tryz.func41 rfl rfl rfl rfl (by simp [taggedL, tagged]) fun B hB => ?_
  refine aR [(0, .new 2), (1, .new 3)] [2, 3] [2, 3] [.ref 2 0, .ref 3 0] [some (bxHyp a), some (bxHyp b)] [] hB trivial ?_
  refine aw_seq ?_
  by_cases h1 : a.Cost < b.Cost
  ·refine aw_r [(4, .dec true)] [4] [] [Bv true] [] [a.Cost < b.Cost] hB ⟨h1, trivial⟩ ?_
   refine ae_then ?_
   refine aw_ret ?_
   refine ae_ret hB (Bv true) (by kernel_rfl) (.inl (by refine congrArg Bv ?_; simp only [cmpH_neg]; first | rfl | (simp [*]; done) | (simp_all; done) | (simp [*]; omega) | (rw [Bool.eq_iff_iff]; simp only [decide_eq_true_eq]; constructor <;> intro q <;> first | omega | (simp_all; done) | (simp_all; omega)))) rfl (fun _ => trivial)
  by_cases h2 : a.Cost = b.Cost
  ·refine aw_r [(4, .dec false), (10, .dec true)] [4] [] [Bv (decide (sless a.Label b.Label = true))] [] [¬ (a.Cost < b.Cost), a.Cost = b.Cost] hB ⟨h1, h2, trivial⟩ ?_
   refine ae_then ?_
   refine aw_ret ?_
   refine ae_ret hB (Bv (decide (sless a.Label b.Label = true))) (by kernel_rfl) (.inl (by refine congrArg Bv ?_; simp only [cmpH_neg]; first | rfl | (simp [*]; done) | (simp_all; done) | (simp [*]; omega) | (rw [Bool.eq_iff_iff]; simp only [decide_eq_true_eq]; constructor <;> intro q <;> first | omega | (simp_all; done) | (simp_all; omega)))) rfl (fun _ => trivial)
  refine aw_r [(4, .dec false), (10, .dec false)] [4] [] [Bv false] [] [¬ (a.Cost < b.Cost), ¬ (a.Cost = b.Cost)] hB ⟨h1, h2, trivial⟩ ?_
  refine ae_then ?_
  refine aw_ret ?_
  refine ae_ret hB (Bv false) (by kernel_rfl) (.inl (by refine congrArg Bv ?_; simp only [cmpH_neg]; first | rfl | (simp [*]; done) | (simp_all; done) | (simp [*]; omega) | (rw [Bool.eq_iff_iff]; simp only [decide_eq_true_eq]; constructor <;> intro q <;> first | omega | (simp_all; done) | (simp_all; omega)))) rfl (fun _ => trivial)





theorem at_tk {α : Type} [Inhabited α] {xs : List α} {k j : Nat} (h : j < k) : at_ (xs.take k) j = at_ xs j := by simp [at_, List.getElem?_take, h]
theorem lab_one {s : ByteArray} (h : okLabel s = true) : s.size = 1 := by
  simp only [okLabel, Bool.and_eq_true, decide_eq_true_eq] at h; omega
def okHb (xs : List Hyp) : Prop := (∀ h ∈ xs, okLabel h.Label = true ∧ 0 ≤ h.Cost ∧ h.Cost ≤ 1000) ∧ (xs.Pairwise fun x y => cmpH x y < 0) ∧ xs.Pairwise fun x y => x.Label ≠ y.Label
def othH (l : ByteArray) (xs : List Hyp) (k : Nat) : List Hyp := (xs.take k).filter fun x => decide (x.Label ≠ l)
theorem oth_y {l : ByteArray} {xs : List Hyp} {k : Nat} (hk : k < xs.length) (h : (at_ xs k).Label ≠ l) : othH l xs (k + 1) = othH l xs k ++ [at_ xs k] := by
  unfold othH
  rw [List.take_succ_eq_append_getElem hk, List.filter_append, ← at_eq hk]
  simp [h]
theorem oth_n {l : ByteArray} {xs : List Hyp} {k : Nat} (hk : k < xs.length) (h : (at_ xs k).Label = l) : othH l xs (k + 1) = othH l xs k := by
  unfold othH
  rw [List.take_succ_eq_append_getElem hk, List.filter_append, ← at_eq hk]
  simp [h]
theorem oth_len (l : ByteArray) (xs : List Hyp) (k : Nat) : (othH l xs k).length ≤ k := by
  unfold othH
  exact Nat.le_trans (List.length_filter_le _ _) (by rw [List.length_take]; omega)
theorem oth_sub (l : ByteArray) (xs : List Hyp) (k : Nat) : List.Sublist (othH l xs k) xs := List.filter_sublist.trans (List.take_sublist _ _)
theorem oth_ne {l : ByteArray} {xs : List Hyp} {k : Nat} : ∀ x ∈ othH l xs k, x.Label ≠ l := fun x hx => by
  have := (List.mem_filter.1 hx).2
  simpa using this
theorem okHb_oth {l : ByteArray} {xs : List Hyp} (h : okHb xs) (k : Nat) : okHb (othH l xs k) := ⟨fun x hx => h.1 x ((oth_sub l xs k).subset hx), h.2.1.sublist (oth_sub l xs k), h.2.2.sublist (oth_sub l xs k)⟩
theorem okHb_put {xs : List Hyp} {e : Hyp} {k : Nat} (h : okHb xs) (he : okLabel e.Label = true ∧ 0 ≤ e.Cost ∧ e.Cost ≤ 1000) (hn : ∀ x ∈ xs, x.Label ≠ e.Label) (hk : k ≤ xs.length) (hlo : k = 0 ∨ ¬ 0 < cmpH (at_ xs (k - 1)) e) (hhi : ∀ j : Nat, k ≤ j → j < xs.length → 0 < cmpH (at_ xs j) e) : okHb (xs.take k ++ [e] ++ xs.drop k) := by
  refine ⟨fun x hx => ?_, ins_ok cmpH_w h.2.1 hk hlo hhi (fun x hx q => hn x hx (by rw [cmpH_tot _ _ q])), ?_⟩
  · rcases ins_mem.1 hx with q | q
    · rw [q]; exact he
    · exact h.1 x q
  · have hd := h.2.2
    rw [← List.take_append_drop k xs, List.pairwise_append] at hd
    rw [List.append_assoc, List.pairwise_append]
    refine ⟨hd.1, List.pairwise_cons.2 ⟨fun y hy => Ne.symm (hn y (List.mem_of_mem_drop hy)), hd.2.1⟩, fun a ha b hb => ?_⟩
    rcases List.mem_cons.1 hb with q | q
    · rw [q]; exact hn a (List.mem_of_mem_take ha)
    · exact hd.2.2 a ha b q
theorem okHb_ok {xs : List Hyp} (h : okHb xs) (hl : xs.length ≤ 8) : okHyps xs := ⟨hl, fun i hi => by have := h.1 _ (at_mem hi); exact ⟨this.1, this.2.1, by omega⟩, h.2.1, h.2.2⟩


-- spec.l13Insert
theorem l13Insert_ok (list : List Hyp) (h : Hyp) (ok : okHb list) (he : okLabel h.Label = true ∧ 0 ≤ h.Cost ∧ h.Cost ≤ 1000) (hl : list.length ≤ 100) : ∃ (v : List Hyp), (okHb v) ∧ (v.length ≤ list.length + 1) ∧ Con Tryz.prog 29 [slHyp false list, agHyp h] false (slHyp false v) := by
  have hh : ∃ r : (List Hyp), ((okHb r) ∧ (r.length ≤ list.length + 1) ∧ (True)) ∧ CallOK Tryz.prog 29 [slHyp false list, agHyp h] (lookO []) false (slHyp false r) (lookO []) := by
    refine fn_okX (Φ := fun r : (List Hyp) => (okHb r) ∧ (r.length ≤ list.length + 1) ∧ (True)) [] (fun r => []) (fn := Tryz.f29) (nt := 69) Tryz.func29 rfl rfl (args := [slHyp false list, agHyp h]) rfl (allcons (.inl ⟨rfl, tagHyp false _⟩) (allcons (.inl ⟨rfl, by simp [tagged, taggedL]⟩) allnil)) (res := fun r => slHyp false r) ?_
    refine xR [(0, .new 3)] [0, 3] [3] [slHyp false list, .ref 3 0] [some (bxHyp h)] [] trivial ?_
    refine xR [(0, .new 9)] [0, 3, 5] [3, 9] [slHyp false list, .ref 3 0, .arr 9] [some (bxHyp h), some (.arr 2 0 (litF [] 2))] [] trivial ?_
    refine x_seq ?_
    refine xR [] [0, 3, 5, 6] [3, 9] [slHyp false list, .ref 3 0, .arr 9, I 0] [some (bxHyp h), some (.arr 2 0 (litF [] 2))] [] trivial ?_
    refine x_block ?_
    refine x_weak [] (T := [(0, slHyp false list), (3, .ref 3 0), (5, .arr 9), (6, I 0)]) (O := [(3, bxHyp h), (9, tAHyp ([] : List Hyp))]) rfl (⟨.inl rfl, .inl rfl, .inl rfl, .inl rfl, trivial⟩) (⟨.inl rfl, .inr ⟨rfl, (by first | rfl | (simp; done) | (simp; omega) | omega), fun i_ hi_ => absurd hi_ (Nat.not_lt_zero _)⟩, trivial⟩) ?_
    refine x_loop (X := (List Hyp) × Int) (fun x => mkS [(0, slHyp false list), (3, .ref 3 0), (5, .arr 9), (6, I x.2)] [(3, bxHyp h), (9, tAHyp x.1)]) (fun x => (0 ≤ x.2 ∧ x.2 ≤ (list.length : Int)) ∧ (x.1 = othH h.Label list x.2.toNat) ∧ ((x.1.length : Int) ≤ x.2) ∧ True) (fun x => ((list.length : Int) - x.2).toNat) (([] : List Hyp), 0) rfl (show (0 ≤ (0 : Int) ∧ (0 : Int) ≤ (list.length : Int)) ∧ (([] : List Hyp) = othH h.Label list (0 : Int).toNat) ∧ ((([] : List Hyp).length : Int) ≤ (0 : Int)) ∧ True from ⟨(by omega), (by rfl), (by simp), trivial⟩) (fun x hI => ?_)
    obtain ⟨out, i⟩ := x
    obtain ⟨hi0, hou, hol0, _⟩ : (0 ≤ i ∧ i ≤ (list.length : Int)) ∧ (out = othH h.Label list i.toNat) ∧ ((out.length : Int) ≤ i) ∧ True := hI
    show XW _ _ _ _ (mkS [(0, slHyp false list), (3, .ref 3 0), (5, .arr 9), (6, I i)] [(3, bxHyp h), (9, tAHyp out)]) _ _
    refine x_seq ?_
    refine x_seq ?_
    by_cases h1 : i < (list.length : Int)
    ·have hi : i.toNat < list.length := by omega
     have hii : (i + 1).toNat = i.toNat + 1 := by omega
     refine x_r [(3, .dec true)] [0, 3, 5, 6, 13] [3, 9] [slHyp false list, .ref 3 0, .arr 9, I i, Bv true] [some (bxHyp h), some (tAHyp out)] [i < (list.length : Int)] ⟨h1, trivial⟩ ?_
     refine xe_then ?_
     refine x_true rfl ?_
     refine x_skip ?_
     refine xe_then ?_
     refine x_seq ?_
     refine x_block ?_
     refine x_seq ?_
     by_cases h2 : ((at_ list i.toNat).Label) = h.Label
     ·have hlq := h2
      have hst := oth_n hi hlq
      refine x_r [(7, .dec false)] [0, 3, 5, 6, 23] [3, 9] [slHyp false list, .ref 3 0, .arr 9, I i, Bv false] [some (bxHyp h), some (tAHyp out)] [(0 : Int) ≤ i ∧ i < (list.length : Int), ¬ (((at_ list i.toNat).Label) ≠ h.Label)] ⟨⟨(by omega), (by omega)⟩, (fun hq => hq h2), trivial⟩ ?_
      refine xe_then ?_
      refine x_false rfl ?_
      refine x_seq ?_
      by_cases h3 : ((at_ list i.toNat).Cost) ≤ h.Cost
      ·refine x_r [(7, .dec true)] [0, 3, 5, 6, 38] [3, 9] [slHyp false list, .ref 3 0, .arr 9, I i, Bv true] [some (bxHyp h), some (tAHyp out)] [(0 : Int) ≤ i ∧ i < (list.length : Int), ((at_ list i.toNat).Cost) ≤ h.Cost] ⟨⟨(by omega), (by omega)⟩, h3, trivial⟩ ?_
       refine xe_then ?_
       refine x_true rfl ?_
       refine xR [] [4] [] [slHyp false list] [] [] trivial ?_
       refine x_ret ?_
       refine xe_ret_block (xe_ret_then (xe_loop_ret (xe_ret_block (xe_ret_then ?_))))
       refine xe_end list (show (okHb list) ∧ (list.length ≤ list.length + 1) ∧ (True) from ⟨(by first | exact ok | exact okHb_put hok1 he hne1 (by omega) hlo (fun j h1 h2 => hhi j (by omega) h2)), (by first | omega | (simp; omega)), trivial⟩) (trivial) (slHyp false list) (by kernel_rfl) (.inl rfl) (fun h => by cases h) (fun h => by cases h)
      refine x_r [(7, .dec false)] [0, 3, 5, 6, 38] [3, 9] [slHyp false list, .ref 3 0, .arr 9, I i, Bv false] [some (bxHyp h), some (tAHyp out)] [(0 : Int) ≤ i ∧ i < (list.length : Int), ¬ (((at_ list i.toNat).Cost) ≤ h.Cost)] ⟨⟨(by omega), (by omega)⟩, h3, trivial⟩ ?_
      refine xe_then ?_
      refine x_false rfl ?_
      refine x_skip ?_
      refine xe_block 1 ?_
      refine xe_then ?_
      refine x_r [] [0, 3, 5, 6] [3, 9] [slHyp false list, .ref 3 0, .arr 9, I (i + 1)] [some (bxHyp h), some (tAHyp out)] [inR .i64 (i + 1)] ⟨(inR_i64 (by omega) (by omega)), trivial⟩ ?_
      exact xe_again (out, (i + 1)) rfl (show (0 ≤ (i + 1) ∧ (i + 1) ≤ (list.length : Int)) ∧ (out = othH h.Label list (i + 1).toNat) ∧ ((out.length : Int) ≤ (i + 1)) ∧ True from ⟨(by omega), (by (rw [hii, hst, ← hou])), (by first | omega | (simp; omega)), trivial⟩) (by first | (show (((list.length : Int) - (i + 1)).toNat : Nat) < ((list.length : Int) - i).toNat; omega) | (dsimp only; omega))
     have hlq := h2
     have hst := oth_y hi hlq
     refine x_r [(7, .dec true)] [0, 3, 5, 6, 23] [3, 9] [slHyp false list, .ref 3 0, .arr 9, I i, Bv true] [some (bxHyp h), some (tAHyp out)] [(0 : Int) ≤ i ∧ i < (list.length : Int), ((at_ list i.toNat).Label) ≠ h.Label] ⟨⟨(by omega), (by omega)⟩, h2, trivial⟩ ?_
     refine xe_then ?_
     refine x_true rfl ?_
     refine x_r [(5, .new 29), (6, .new 30)] [0, 3, 5, 6] [3, 30] [slHyp false list, .ref 3 0, .arr 30, I i] [some (bxHyp h), some (.arr 2 (out.length + 1) (catF out.length (fHyp out) (litF [Sv ((at_ list i.toNat).Label), I ((at_ list i.toNat).Cost)] 2)))] [(0 : Int) ≤ i ∧ i < (list.length : Int), (out.length + 1) * 24 ≤ 140737488355328] ⟨⟨(by omega), (by omega)⟩, (by omega), trivial⟩ ?_
     refine xe_block 1 ?_
     refine xe_then ?_
     refine x_r [] [0, 3, 5, 6] [3, 30] [slHyp false list, .ref 3 0, .arr 30, I (i + 1)] [some (bxHyp h), some (.arr 2 (out.length + 1) (catF out.length (fHyp out) (litF [Sv ((at_ list i.toNat).Label), I ((at_ list i.toNat).Cost)] 2)))] [inR .i64 (i + 1)] ⟨(inR_i64 (by omega) (by omega)), trivial⟩ ?_
     refine xe_weak [(9, 30)] (T := [(0, slHyp false list), (3, .ref 3 0), (5, .arr 9), (6, I (i + 1))]) (O := [(3, bxHyp h), (9, tAHyp (out ++ [(at_ list i.toNat)]))]) rfl (⟨.inl rfl, .inl rfl, .inl rfl, .inl rfl, trivial⟩) (⟨.inl rfl, .inr ⟨rfl, (by first | rfl | (simp; done) | (simp; omega) | omega), fun i_ hi_ => .inl (cat_snoc (enc := cHyp) (xs := out) rfl i_ hi_)⟩, trivial⟩) (xe_again ((out ++ [(at_ list i.toNat)]), (i + 1)) rfl (show (0 ≤ (i + 1) ∧ (i + 1) ≤ (list.length : Int)) ∧ ((out ++ [(at_ list i.toNat)]) = othH h.Label list (i + 1).toNat) ∧ (((out ++ [(at_ list i.toNat)]).length : Int) ≤ (i + 1)) ∧ True from ⟨(by omega), (by (rw [hii, hst, ← hou])), (by first | omega | (simp; omega)), trivial⟩) (by first | (show (((list.length : Int) - (i + 1)).toNat : Nat) < ((list.length : Int) - i).toNat; omega) | (dsimp only; omega)))
    have hok1 : okHb out := by rw [hou]; exact okHb_oth ok _
    have hne1 : ∀ x ∈ out, x.Label ≠ h.Label := by rw [hou]; exact oth_ne
    have hol : out.length ≤ list.length := by rw [hou]; exact Nat.le_trans (oth_len _ _ _) (by omega)
    refine x_r [(3, .dec false)] [0, 3, 5, 6, 13] [3, 9] [slHyp false list, .ref 3 0, .arr 9, I i, Bv false] [some (bxHyp h), some (tAHyp out)] [¬ (i < (list.length : Int))] ⟨h1, trivial⟩ ?_
    refine xe_then ?_
    refine x_false rfl ?_
    refine x_exit ?_
    refine xe_exit_then ?_
    refine xe_loop_exit ?_
    refine xe_exit_same ?_
    refine xe_then ?_
    refine xR [] [3, 5, 7] [3, 9] [.ref 3 0, .arr 9, I (out.length : Int)] [some (bxHyp h), some (tAHyp out)] [] trivial ?_
    refine x_seq ?_
    refine x_block ?_
    refine x_weak [] (T := [(3, .ref 3 0), (5, slHyp true out), (7, I (out.length : Int))]) (O := [(3, bxHyp h)]) rfl (⟨.inl rfl, .inr ⟨(fun _ => rfl), rfl, rfl, fun i _ => .inl rfl⟩, .inl rfl, trivial⟩) (⟨.inl rfl, trivial⟩) ?_
    refine x_loop (X := Int) (fun x => mkS [(3, .ref 3 0), (5, slHyp true out), (7, I x)] [(3, bxHyp h)]) (fun x => (0 ≤ x ∧ x ≤ (out.length : Int)) ∧ (∀ j : Nat, x ≤ (j : Int) → j < out.length → 0 < cmpH (at_ out j) h) ∧ True) (fun x => x.toNat) (out.length : Int) rfl (show (0 ≤ (out.length : Int) ∧ (out.length : Int) ≤ (out.length : Int)) ∧ (∀ j : Nat, (out.length : Int) ≤ (j : Int) → j < out.length → 0 < cmpH (at_ out j) h) ∧ True from ⟨(by omega), (by intro j h1 h2; omega), trivial⟩) (fun x hI => ?_)
    obtain ⟨k, hxx⟩ : ∃ k : Int, k = x := ⟨x, rfl⟩
    subst hxx
    obtain ⟨hk0, hhi, _⟩ : (0 ≤ k ∧ k ≤ (out.length : Int)) ∧ (∀ j : Nat, k ≤ (j : Int) → j < out.length → 0 < cmpH (at_ out j) h) ∧ True := hI
    show XW _ _ _ _ (mkS [(3, .ref 3 0), (5, slHyp true out), (7, I k)] [(3, bxHyp h)]) _ _
    refine x_seq ?_
    refine x_seq ?_
    by_cases h4 : 0 < k
    ·have hkl : (k - 1).toNat < out.length := by omega
     rcases Bool.eq_false_or_eq_true (decide (cmpH h (at_ out ((k - 1).toNat)) < 0)) with h5 | h5
     ·have hgn : ∀ j : Nat, k - 1 ≤ (j : Int) → j < out.length → 0 < cmpH (at_ out j) h := fun j q1 q2 => by by_cases q : (j : Int) = k - 1; (rw [show j = (k - 1).toNat from by omega]; exact ((cmpH_w.anti _ _).1 (of_decide_eq_true h5))); (exact hhi j (by omega) q2)
      refine x_r [(1, .dec true), (9, .call [(true, .any), (true, .any)] true (Bv true))] [3, 5, 7, 52] [3] [.ref 3 0, slHyp true out, I k, Bv true] [some (bxHyp h)] [0 < k, inR .i64 (k - 1), (0 : Int) ≤ (k - 1) ∧ (k - 1) < (out.length : Int), Con Tryz.prog 41 [agHyp h, agHyp (at_ out ((k - 1).toNat))] true (Bv true) ∧ True] ⟨h4, (inR_i64 (by omega) (by omega)), ⟨(by omega), (by omega)⟩, ⟨(con_bool h5 (l13Before_ok h (at_ out ((k - 1).toNat)))), trivial⟩, trivial⟩ ?_
      refine xe_then ?_
      refine x_true rfl ?_
      refine x_skip ?_
      refine xe_then ?_
      refine x_block ?_
      refine x_r [] [3, 5, 7] [3] [.ref 3 0, slHyp true out, I (k - 1)] [some (bxHyp h)] [inR .i64 (k - 1)] ⟨(inR_i64 (by omega) (by omega)), trivial⟩ ?_
      refine xe_block 3 ?_
      exact xe_again (k - 1) rfl (show (0 ≤ (k - 1) ∧ (k - 1) ≤ (out.length : Int)) ∧ (∀ j : Nat, (k - 1) ≤ (j : Int) → j < out.length → 0 < cmpH (at_ out j) h) ∧ True from ⟨(by omega), (by exact hgn), trivial⟩) (by first | (show ((k - 1).toNat : Nat) < k.toNat; omega) | (dsimp only; omega))
     have hlo : k.toNat = 0 ∨ ¬ 0 < cmpH (at_ out (k.toNat - 1)) h := Or.inr (by rw [show k.toNat - 1 = (k - 1).toNat from by omega]; exact fun q => (of_decide_eq_false h5) ((cmpH_w.anti _ _).2 q))
     refine x_r [(1, .dec true), (9, .call [(true, .any), (true, .any)] true (Bv false))] [3, 5, 7, 52] [3] [.ref 3 0, slHyp true out, I k, Bv false] [some (bxHyp h)] [0 < k, inR .i64 (k - 1), (0 : Int) ≤ (k - 1) ∧ (k - 1) < (out.length : Int), Con Tryz.prog 41 [agHyp h, agHyp (at_ out ((k - 1).toNat))] true (Bv false) ∧ True] ⟨h4, (inR_i64 (by omega) (by omega)), ⟨(by omega), (by omega)⟩, ⟨(con_bool h5 (l13Before_ok h (at_ out ((k - 1).toNat)))), trivial⟩, trivial⟩ ?_
     refine xe_then ?_
     refine x_false rfl ?_
     refine x_exit ?_
     refine xe_exit_then ?_
     refine xe_loop_exit ?_
     refine xe_exit_same ?_
     refine xe_then ?_
     refine xR [(0, .new 55), (4, .new 59)] [3, 5, 7, 8] [3, 59] [.ref 3 0, slHyp true out, I k, .arr 59] [some (bxHyp h), some (.arr 2 (0 + (k.toNat - 0)) (catF 0 (litF [] 2) (cutF 0 (fHyp out))))] [(0 : Int) ≤ 0 ∧ (0 : Int) ≤ k ∧ k ≤ (out.length : Int), (0 + (k.toNat - 0)) * 24 ≤ 140737488355328] ⟨⟨(by omega), (by omega), (by omega)⟩, (by omega), trivial⟩ ?_
     refine xR [(2, .new 62), (3, .new 63)] [5, 7, 8] [63] [slHyp true out, I k, .arr 63] [some (.arr 2 ((0 + (k.toNat - 0)) + 1) (catF (0 + (k.toNat - 0)) (catF 0 (litF [] 2) (cutF 0 (fHyp out))) (litF [Sv h.Label, I h.Cost] 2)))] [((0 + (k.toNat - 0)) + 1) * 24 ≤ 140737488355328] ⟨(by omega), trivial⟩ ?_
     refine xR [(4, .new 68)] [4] [68] [.arr 68] [some (.arr 2 (((0 + (k.toNat - 0)) + 1) + ((out.length : Int).toNat - k.toNat)) (catF ((0 + (k.toNat - 0)) + 1) (catF (0 + (k.toNat - 0)) (catF 0 (litF [] 2) (cutF 0 (fHyp out))) (litF [Sv h.Label, I h.Cost] 2)) (cutF k.toNat (fHyp out))))] [(0 : Int) ≤ k ∧ k ≤ (out.length : Int) ∧ (out.length : Int) ≤ (out.length : Int), (((0 + (k.toNat - 0)) + 1) + ((out.length : Int).toNat - k.toNat)) * 24 ≤ 140737488355328] ⟨⟨(by omega), (by omega), (by omega)⟩, (by omega), trivial⟩ ?_
     refine x_ret ?_
     refine xe_end (((out.take k.toNat) ++ [h]) ++ (out.drop k.toNat)) (show (okHb (((out.take k.toNat) ++ [h]) ++ (out.drop k.toNat))) ∧ ((((out.take k.toNat) ++ [h]) ++ (out.drop k.toNat)).length ≤ list.length + 1) ∧ (True) from ⟨(by first | exact ok | exact okHb_put hok1 he hne1 (by omega) hlo (fun j h1 h2 => hhi j (by omega) h2)), (by first | omega | (simp; omega)), trivial⟩) (trivial) (.arr 68) (by kernel_rfl) (.inr ⟨(fun h => by cases h), rfl, (by first | rfl | (simp; done) | (simp; omega) | omega), fun i_ hi_ => .inl (cat_two (enc := cHyp) (xs := ((out.take k.toNat) ++ [h])) (ys := (out.drop k.toNat)) (by first | rfl | (simp; done) | (simp; omega)) (fun i_ hi_ => (cat_two (enc := cHyp) (xs := (out.take k.toNat)) (ys := [h]) (by first | rfl | (simp; done) | (simp; omega)) (fun i_ hi_ => ((cat_nil i_).trans ((fun i_ hi_ => (cut_take (enc := cHyp) hi_)) i_ hi_))) (fun i_ hi_ => (match i_, hi_ with | 0, _ => rfl | (i + 1), h => absurd h (by simp))) i_ hi_)) (fun i_ hi_ => (cut_drop (enc := cHyp) hi_)) i_ hi_)⟩) (fun h => by cases h) (fun h => by cases h)
    have hlo : k.toNat = 0 ∨ ¬ 0 < cmpH (at_ out (k.toNat - 1)) h := Or.inl (by omega)
    refine x_r [(1, .dec false)] [3, 5, 7, 52] [3] [.ref 3 0, slHyp true out, I k, Bv false] [some (bxHyp h)] [¬ (0 < k)] ⟨h4, trivial⟩ ?_
    refine xe_then ?_
    refine x_false rfl ?_
    refine x_exit ?_
    refine xe_exit_then ?_
    refine xe_loop_exit ?_
    refine xe_exit_same ?_
    refine xe_then ?_
    refine xR [(0, .new 55), (4, .new 59)] [3, 5, 7, 8] [3, 59] [.ref 3 0, slHyp true out, I k, .arr 59] [some (bxHyp h), some (.arr 2 (0 + (k.toNat - 0)) (catF 0 (litF [] 2) (cutF 0 (fHyp out))))] [(0 : Int) ≤ 0 ∧ (0 : Int) ≤ k ∧ k ≤ (out.length : Int), (0 + (k.toNat - 0)) * 24 ≤ 140737488355328] ⟨⟨(by omega), (by omega), (by omega)⟩, (by omega), trivial⟩ ?_
    refine xR [(2, .new 62), (3, .new 63)] [5, 7, 8] [63] [slHyp true out, I k, .arr 63] [some (.arr 2 ((0 + (k.toNat - 0)) + 1) (catF (0 + (k.toNat - 0)) (catF 0 (litF [] 2) (cutF 0 (fHyp out))) (litF [Sv h.Label, I h.Cost] 2)))] [((0 + (k.toNat - 0)) + 1) * 24 ≤ 140737488355328] ⟨(by omega), trivial⟩ ?_
    refine xR [(4, .new 68)] [4] [68] [.arr 68] [some (.arr 2 (((0 + (k.toNat - 0)) + 1) + ((out.length : Int).toNat - k.toNat)) (catF ((0 + (k.toNat - 0)) + 1) (catF (0 + (k.toNat - 0)) (catF 0 (litF [] 2) (cutF 0 (fHyp out))) (litF [Sv h.Label, I h.Cost] 2)) (cutF k.toNat (fHyp out))))] [(0 : Int) ≤ k ∧ k ≤ (out.length : Int) ∧ (out.length : Int) ≤ (out.length : Int), (((0 + (k.toNat - 0)) + 1) + ((out.length : Int).toNat - k.toNat)) * 24 ≤ 140737488355328] ⟨⟨(by omega), (by omega), (by omega)⟩, (by omega), trivial⟩ ?_
    refine x_ret ?_
    refine xe_end (((out.take k.toNat) ++ [h]) ++ (out.drop k.toNat)) (show (okHb (((out.take k.toNat) ++ [h]) ++ (out.drop k.toNat))) ∧ ((((out.take k.toNat) ++ [h]) ++ (out.drop k.toNat)).length ≤ list.length + 1) ∧ (True) from ⟨(by first | exact ok | exact okHb_put hok1 he hne1 (by omega) hlo (fun j h1 h2 => hhi j (by omega) h2)), (by first | omega | (simp; omega)), trivial⟩) (trivial) (.arr 68) (by kernel_rfl) (.inr ⟨(fun h => by cases h), rfl, (by first | rfl | (simp; done) | (simp; omega) | omega), fun i_ hi_ => .inl (cat_two (enc := cHyp) (xs := ((out.take k.toNat) ++ [h])) (ys := (out.drop k.toNat)) (by first | rfl | (simp; done) | (simp; omega)) (fun i_ hi_ => (cat_two (enc := cHyp) (xs := (out.take k.toNat)) (ys := [h]) (by first | rfl | (simp; done) | (simp; omega)) (fun i_ hi_ => ((cat_nil i_).trans ((fun i_ hi_ => (cut_take (enc := cHyp) hi_)) i_ hi_))) (fun i_ hi_ => (match i_, hi_ with | 0, _ => rfl | (i + 1), h => absurd h (by simp))) i_ hi_)) (fun i_ hi_ => (cut_drop (enc := cHyp) hi_)) i_ hi_)⟩) (fun h => by cases h) (fun h => by cases h)
  obtain ⟨v, ⟨hh0, hh1, _⟩, hc⟩ := hh
  exact ⟨v, hh0, hh1, hc⟩



-- spec.l13Draw
theorem l13Draw_ok (s : l00Src) (most : Int) (hs : okSrc s) (ha : s.atx ≤ 3999999999999996000) (hmo : most = 7) : ∃ (v : List Hyp) (s' : l00Src), (okSrc s') ∧ (s'.code = s.code) ∧ (s.atx + 0 ≤ s'.atx ∧ s'.atx ≤ s.atx + 400) ∧ (okHb v) ∧ (v.length ≤ 7) ∧ CallOK Tryz.prog 15 [.ref 7001 0, I most] (lookO [(7001, bxl00Src s)]) false (slHyp false v) (lookO [(7001, bxl00Src s')]) := by
  have hh : ∃ r : (List Hyp) × l00Src, ((okSrc r.2) ∧ (r.2.code = s.code) ∧ (s.atx + 0 ≤ r.2.atx ∧ r.2.atx ≤ s.atx + 400) ∧ (okHb r.1) ∧ (r.1.length ≤ 7) ∧ (True)) ∧ CallOK Tryz.prog 15 [.ref 7001 0, I most] (lookO [(7001, bxl00Src s)]) false (slHyp false r.1) (lookO [(7001, bxl00Src r.2)]) := by
    refine fn_okX (Φ := fun r : (List Hyp) × l00Src => (okSrc r.2) ∧ (r.2.code = s.code) ∧ (s.atx + 0 ≤ r.2.atx ∧ r.2.atx ≤ s.atx + 400) ∧ (okHb r.1) ∧ (r.1.length ≤ 7) ∧ (True)) [(7001, bxl00Src s)] (fun r => [(7001, bxl00Src r.2)]) (fn := Tryz.f15) (nt := 25) Tryz.func15 rfl rfl (args := [.ref 7001 0, I most]) rfl (allcons (.inr trivial) (allcons (.inl ⟨rfl, trivial⟩) allnil)) (res := fun r => slHyp false r.1) ?_
    refine xR [] [0, 1] [7001] [.ref 7001 0, I most] [some (bxl00Src s)] [] trivial ?_
    refine xR [(0, .new 7)] [0, 1, 5] [7, 7001] [.ref 7001 0, I most, .arr 7] [some (.arr 2 0 (litF [] 2)), some (bxl00Src s)] [] trivial ?_
    refine x_seq ?_
    refine x_seq ?_
    obtain ⟨v_1, s'_1, hx1_0, hx1_1, hx1_2, hx1_3, hc1⟩ := pick_ok s (most + 1) (by first | assumption | (simp only [okSrc] at *; simp_all; done)) (by omega)
    refine x_r [(3, .lend [(7001, bxl00Src s, bxl00Src s'_1)] [] [(true, .any), (true, .any)] true (I v_1))] [0, 5, 6] [7, 7001] [.ref 7001 0, .arr 7, I v_1] [some (.arr 2 0 (litF [] 2)), some (bxl00Src s'_1)] [inR .i64 (most + 1), CallOK Tryz.prog 28 [.ref 7001 0, I (most + 1)] (lookO [(7001, bxl00Src s)]) true (I v_1) (lookO [(7001, bxl00Src s'_1)]) ∧ (((bxl00Src s : Ob) = bxl00Src s ∨ obLe noOb true (bxl00Src s) (bxl00Src s)) ∧ taggedO false (bxl00Src s)) ∧ True] ⟨(inR_i64 (by omega) (by omega)), ⟨hc1, ⟨.inl rfl, (by simp [taggedO, taggedL, tagged, tagU8])⟩, trivial⟩, trivial⟩ ?_
    refine xe_then ?_
    refine x_block ?_
    refine x_weak [] (T := [(0, .ref 7001 0), (5, slHyp false ([] : List Hyp)), (6, I v_1)]) (O := [(7001, bxl00Src s'_1)]) rfl (⟨.inl rfl, .inr ⟨(fun h => by cases h), rfl, (by first | rfl | (simp; done) | (simp; omega) | omega), fun i_ hi_ => absurd hi_ (Nat.not_lt_zero _)⟩, .inl rfl, trivial⟩) (⟨.inl rfl, trivial⟩) ?_
    refine x_loop (X := (List Hyp) × Int × l00Src) (fun x => mkS [(0, .ref 7001 0), (5, slHyp false x.1), (6, I x.2.1)] [(7001, bxl00Src x.2.2)]) (fun x => (okSrc x.2.2 ∧ x.2.2.code = s.code ∧ s.atx ≤ x.2.2.atx ∧ x.2.2.atx ≤ s.atx + 20 + 18 * (7 - x.2.1)) ∧ (0 ≤ x.2.1 ∧ x.2.1 ≤ 7) ∧ (okHb x.1) ∧ ((x.1.length : Int) + x.2.1 ≤ 7) ∧ True) (fun x => x.2.1.toNat) (([] : List Hyp), v_1, s'_1) rfl (show (okSrc s'_1 ∧ s'_1.code = s.code ∧ s.atx ≤ s'_1.atx ∧ s'_1.atx ≤ s.atx + 20 + 18 * (7 - v_1)) ∧ (0 ≤ v_1 ∧ v_1 ≤ 7) ∧ (okHb ([] : List Hyp)) ∧ ((([] : List Hyp).length : Int) + v_1 ≤ 7) ∧ True from ⟨(by exact ⟨by assumption, by first | assumption | rfl | (simp only [*]; done), by omega, by omega⟩), (by omega), (by exact ⟨by simp, List.Pairwise.nil, List.Pairwise.nil⟩), (by (simp; omega)), trivial⟩) (fun x hI => ?_)
    obtain ⟨out, k, src⟩ := x
    obtain ⟨hs0, hk0, hla, hno, _⟩ : (okSrc src ∧ src.code = s.code ∧ s.atx ≤ src.atx ∧ src.atx ≤ s.atx + 20 + 18 * (7 - k)) ∧ (0 ≤ k ∧ k ≤ 7) ∧ (okHb out) ∧ ((out.length : Int) + k ≤ 7) ∧ True := hI
    show XW _ _ _ _ (mkS [(0, .ref 7001 0), (5, slHyp false out), (6, I k)] [(7001, bxl00Src src)]) _ _
    refine x_seq ?_
    refine x_seq ?_
    by_cases h1 : 0 < k
    ·refine x_r [(1, .dec true)] [0, 5, 6, 13] [7001] [.ref 7001 0, slHyp false out, I k, Bv true] [some (bxl00Src src)] [0 < k] ⟨h1, trivial⟩ ?_
     refine xe_then ?_
     refine x_true rfl ?_
     refine x_skip ?_
     refine xe_then ?_
     refine x_seq ?_
     refine x_block ?_
     obtain ⟨v_2, s'_2, hx2_0, hx2_1, hx2_2, hx2_3, hx2_4, hc2⟩ := text_ok src ([(⟨#[97]⟩ : ByteArray), (⟨#[98]⟩ : ByteArray), (⟨#[99]⟩ : ByteArray), (⟨#[105]⟩ : ByteArray), (⟨#[110]⟩ : ByteArray), (⟨#[116]⟩ : ByteArray), (⟨#[49]⟩ : ByteArray), (⟨#[43]⟩ : ByteArray)]) (by first | assumption | (simp only [okSrc] at *; simp_all; done)) (by omega) (by decide)
     have hlab : okLabel v_2 = true := by have q := hx2_4; simp only [List.mem_cons, List.not_mem_nil, or_false] at q; rcases q with q | q | q | q | q | q | q | q <;> rw [q] <;> decide
     obtain ⟨v_3, s'_3, hx3_0, hx3_1, hx3_2, hx3_3, hc3⟩ := pick_ok s'_2 60 (by first | assumption | (simp only [okSrc] at *; simp_all; done)) (by omega)
     obtain ⟨v_4, hx4_0, hx4_1, hc4⟩ := l13Insert_ok out (Hyp.mk v_2 v_3) hla (show okLabel _ = true ∧ _ ∧ _ from ⟨hlab, by dsimp only; omega, by dsimp only; omega⟩) (by omega)
     have hi0_ := hx4_0
     have hi1_ := hx4_1
     refine x_r [(2, .new 18), (3, .lend [(7001, bxl00Src src, bxl00Src s'_2)] [] [(true, .any), (false, slS false ([(⟨#[97]⟩ : ByteArray), (⟨#[98]⟩ : ByteArray), (⟨#[99]⟩ : ByteArray), (⟨#[105]⟩ : ByteArray), (⟨#[110]⟩ : ByteArray), (⟨#[116]⟩ : ByteArray), (⟨#[49]⟩ : ByteArray), (⟨#[43]⟩ : ByteArray)]))] true (Sv v_2)), (5, .lend [(7001, bxl00Src s'_2, bxl00Src s'_3)] [] [(true, .any), (true, .any)] true (I v_3)), (7, .call [(true, .any), (true, .any)] false (slHyp false v_4))] [0, 5, 6] [7001] [.ref 7001 0, slHyp false v_4, I k] [some (bxl00Src s'_3)] [CallOK Tryz.prog 30 [.ref 7001 0, slS false ([(⟨#[97]⟩ : ByteArray), (⟨#[98]⟩ : ByteArray), (⟨#[99]⟩ : ByteArray), (⟨#[105]⟩ : ByteArray), (⟨#[110]⟩ : ByteArray), (⟨#[116]⟩ : ByteArray), (⟨#[49]⟩ : ByteArray), (⟨#[43]⟩ : ByteArray)])] (lookO [(7001, bxl00Src src)]) true (Sv v_2) (lookO [(7001, bxl00Src s'_2)]) ∧ ((false = true → true = true) ∧ 1 = 1 ∧ 8 = (([(⟨#[97]⟩ : ByteArray), (⟨#[98]⟩ : ByteArray), (⟨#[99]⟩ : ByteArray), (⟨#[105]⟩ : ByteArray), (⟨#[110]⟩ : ByteArray), (⟨#[116]⟩ : ByteArray), (⟨#[49]⟩ : ByteArray), (⟨#[43]⟩ : ByteArray)]).length) ∧ ∀ i_, i_ < (([(⟨#[97]⟩ : ByteArray), (⟨#[98]⟩ : ByteArray), (⟨#[99]⟩ : ByteArray), (⟨#[105]⟩ : ByteArray), (⟨#[110]⟩ : ByteArray), (⟨#[116]⟩ : ByteArray), (⟨#[49]⟩ : ByteArray), (⟨#[43]⟩ : ByteArray)]).length) → (litF [Sv (⟨#[97]⟩ : ByteArray), Sv (⟨#[98]⟩ : ByteArray), Sv (⟨#[99]⟩ : ByteArray), Sv (⟨#[105]⟩ : ByteArray), Sv (⟨#[110]⟩ : ByteArray), Sv (⟨#[116]⟩ : ByteArray), Sv (⟨#[49]⟩ : ByteArray), Sv (⟨#[43]⟩ : ByteArray)] 1) i_ = (fS ([(⟨#[97]⟩ : ByteArray), (⟨#[98]⟩ : ByteArray), (⟨#[99]⟩ : ByteArray), (⟨#[105]⟩ : ByteArray), (⟨#[110]⟩ : ByteArray), (⟨#[116]⟩ : ByteArray), (⟨#[49]⟩ : ByteArray), (⟨#[43]⟩ : ByteArray)])) i_ ∨ (AV.idsL ((fS ([(⟨#[97]⟩ : ByteArray), (⟨#[98]⟩ : ByteArray), (⟨#[99]⟩ : ByteArray), (⟨#[105]⟩ : ByteArray), (⟨#[110]⟩ : ByteArray), (⟨#[116]⟩ : ByteArray), (⟨#[49]⟩ : ByteArray), (⟨#[43]⟩ : ByteArray)])) i_) = [] ∧ leL (fun _ => none) false ((litF [Sv (⟨#[97]⟩ : ByteArray), Sv (⟨#[98]⟩ : ByteArray), Sv (⟨#[99]⟩ : ByteArray), Sv (⟨#[105]⟩ : ByteArray), Sv (⟨#[110]⟩ : ByteArray), Sv (⟨#[116]⟩ : ByteArray), Sv (⟨#[49]⟩ : ByteArray), Sv (⟨#[43]⟩ : ByteArray)] 1) i_) ((fS ([(⟨#[97]⟩ : ByteArray), (⟨#[98]⟩ : ByteArray), (⟨#[99]⟩ : ByteArray), (⟨#[105]⟩ : ByteArray), (⟨#[110]⟩ : ByteArray), (⟨#[116]⟩ : ByteArray), (⟨#[49]⟩ : ByteArray), (⟨#[43]⟩ : ByteArray)])) i_))) ∧ (((bxl00Src src : Ob) = bxl00Src src ∨ obLe noOb true (bxl00Src src) (bxl00Src src)) ∧ taggedO false (bxl00Src src)) ∧ True, CallOK Tryz.prog 28 [.ref 7001 0, I 60] (lookO [(7001, bxl00Src s'_2)]) true (I v_3) (lookO [(7001, bxl00Src s'_3)]) ∧ (((bxl00Src s'_2 : Ob) = bxl00Src s'_2 ∨ obLe noOb true (bxl00Src s'_2) (bxl00Src s'_2)) ∧ taggedO false (bxl00Src s'_2)) ∧ True, Con Tryz.prog 29 [slHyp false out, .agg [Sv v_2, I v_3]] false (slHyp false v_4) ∧ True] ⟨⟨hc2, ⟨(fun h => by cases h), rfl, (by first | rfl | (simp; done) | (simp; omega) | omega), fun i_ hi_ => .inl (match i_, hi_ with | 0, _ => rfl | 1, _ => rfl | 2, _ => rfl | 3, _ => rfl | 4, _ => rfl | 5, _ => rfl | 6, _ => rfl | 7, _ => rfl | (i + 8), h => absurd h (by simp))⟩, ⟨.inl rfl, (by simp [taggedO, taggedL, tagged, tagU8])⟩, trivial⟩, ⟨hc3, ⟨.inl rfl, (by simp [taggedO, taggedL, tagged, tagU8])⟩, trivial⟩, ⟨hc4, trivial⟩, trivial⟩ ?_
     refine xe_block 1 ?_
     refine xe_then ?_
     refine x_r [] [0, 5, 6] [7001] [.ref 7001 0, slHyp false v_4, I (k - 1)] [some (bxl00Src s'_3)] [inR .i64 (k - 1)] ⟨(inR_i64 (by omega) (by omega)), trivial⟩ ?_
     exact xe_again (v_4, (k - 1), s'_3) rfl (show (okSrc s'_3 ∧ s'_3.code = s.code ∧ s.atx ≤ s'_3.atx ∧ s'_3.atx ≤ s.atx + 20 + 18 * (7 - (k - 1))) ∧ (0 ≤ (k - 1) ∧ (k - 1) ≤ 7) ∧ (okHb v_4) ∧ ((v_4.length : Int) + (k - 1) ≤ 7) ∧ True from ⟨(by exact ⟨by assumption, by first | assumption | rfl | (simp only [*]; done), by omega, by omega⟩), (by omega), (by exact hi0_), (by omega), trivial⟩) (by first | (show ((k - 1).toNat : Nat) < k.toNat; omega) | (dsimp only; omega))
    refine x_r [(1, .dec false)] [0, 5, 6, 13] [7001] [.ref 7001 0, slHyp false out, I k, Bv false] [some (bxl00Src src)] [¬ (0 < k)] ⟨h1, trivial⟩ ?_
    refine xe_then ?_
    refine x_false rfl ?_
    refine x_exit ?_
    refine xe_exit_then ?_
    refine xe_loop_exit ?_
    refine xe_exit_same ?_
    refine xe_then ?_
    refine xR [] [4] [7001] [slHyp false out] [some (bxl00Src src)] [] trivial ?_
    refine x_ret ?_
    refine xe_end (out, src) (show (okSrc src) ∧ (src.code = s.code) ∧ (s.atx + 0 ≤ src.atx ∧ src.atx ≤ s.atx + 400) ∧ (okHb out) ∧ (out.length ≤ 7) ∧ (True) from ⟨(by first | omega | assumption | exact hs0.1 | exact hs0.2.1), (by first | omega | assumption | exact hs0.1 | exact hs0.2.1), (by first | omega | assumption | exact hs0.1 | exact hs0.2.1), (by first | omega | assumption | exact hs0.1 | exact hs0.2.1), (by first | omega | assumption | exact hs0.1 | exact hs0.2.1), trivial⟩) (⟨.inl rfl, trivial⟩) (slHyp false out) (by kernel_rfl) (.inl rfl) (fun h => by cases h) (fun h => by cases h)
  obtain ⟨⟨v, s'⟩, ⟨hh0, hh1, hh2, hh3, hh4, _⟩, hc⟩ := hh
  exact ⟨v, s', hh0, hh1, hh2, hh3, hh4, hc⟩



-- spec.A2Hyps
theorem A2Hyps_ok (code : List Int) (hc : (∀ j, j < code.length → 0 ≤ at_ code j ∧ at_ code j ≤ 255) ∧ code.length ≤ 4611686018427387904) : ∃ (v : List Hyp), (okHb v) ∧ (v.length ≤ 7) ∧ Con Tryz.prog 5 [slU8 false code] false (slHyp false v) := by
  have hh : ∃ r : (List Hyp), ((okHb r) ∧ (r.length ≤ 7) ∧ (True)) ∧ CallOK Tryz.prog 5 [slU8 false code] (lookO []) false (slHyp false r) (lookO []) := by
    refine fn_okX (Φ := fun r : (List Hyp) => (okHb r) ∧ (r.length ≤ 7) ∧ (True)) [] (fun r => []) (fn := Tryz.f5) (nt := 6) Tryz.func5 rfl rfl (args := [slU8 false code]) rfl (allcons (.inl ⟨rfl, tagU8 false _⟩) allnil) (res := fun r => slHyp false r) ?_
    refine xR [] [0] [] [slU8 false code] [] [] trivial ?_
    refine x_seq ?_
    obtain ⟨s'_1, hx1_0, hc1⟩ := l00From_ok code
    obtain ⟨v_2, s'_2, hx2_0, hx2_1, hx2_2, hx2_3, hx2_4, hc2⟩ := l13Draw_ok s'_1 7 (by first | assumption | (simp only [okSrc] at *; simp_all; done)) (by omega) rfl
    refine x_r [(1, .lend [] [(7001, bxl00Src s'_1)] [(true, .any)] false (.ref 7001 0)), (2, .lend [(7001, bxl00Src s'_1, bxl00Src s'_2)] [] [(true, .any), (true, .any)] false (slHyp false v_2))] [2] [] [slHyp false v_2] [] [CallOK Tryz.prog 16 [slU8 false code] (lookO []) false (.ref 7001 0) (lookO [(7001, bxl00Src s'_1)]) ∧ True, CallOK Tryz.prog 15 [.ref 7001 0, I 7] (lookO [(7001, bxl00Src s'_1)]) false (slHyp false v_2) (lookO [(7001, bxl00Src s'_2)]) ∧ (((bxl00Src s'_1 : Ob) = bxl00Src s'_1 ∨ obLe noOb true (bxl00Src s'_1) (bxl00Src s'_1)) ∧ taggedO false (bxl00Src s'_1)) ∧ True] ⟨⟨hc1, trivial⟩, ⟨hc2, ⟨.inl rfl, (by simp [taggedO, taggedL, tagged, tagU8])⟩, trivial⟩, trivial⟩ ?_
    refine xe_then ?_
    refine x_ret ?_
    refine xe_end v_2 (show (okHb v_2) ∧ (v_2.length ≤ 7) ∧ (True) from ⟨(by assumption), (by assumption), trivial⟩) (trivial) (slHyp false v_2) (by kernel_rfl) (.inl rfl) (fun h => by cases h) (fun h => by cases h)
  obtain ⟨v, ⟨hh0, hh1, _⟩, hc⟩ := hh
  exact ⟨v, hh0, hh1, hc⟩



-- impl.isLetter
theorem isLetter_ok (c : Int) : Con Tryz.prog 51 [.val (.int .u8 c)] true (Bv (inB c 97 122)) := by
  refine fn_ok (fn := Tryz.f51) (nt := 9) Tryz.func51 rfl rfl rfl rfl (by simp [taggedL, tagged]) fun B hB => ?_
  refine aR [] [0] [] [.val (.int .u8 c)] [] [] hB trivial ?_
  refine aw_seq ?_
  by_cases h1 : 97 ≤ c
  ·refine aw_r [(1, .dec true)] [2] [] [Bv (decide (c ≤ 122))] [] [97 ≤ c] hB ⟨h1, trivial⟩ ?_
   refine ae_then ?_
   refine aw_ret ?_
   refine ae_ret hB (Bv (decide (c ≤ 122))) (by kernel_rfl) (.inl (by first | rfl | (refine congrArg Bv ?_; simp [inB, *]; done) | (refine congrArg Bv ?_; simp [inB, *]; omega) | (refine congrArg Bv ?_; simp_all [inB]; done) | (refine congrArg Bv ?_; simp_all [inB]; omega))) rfl (fun _ => trivial)
  refine aw_r [(1, .dec false)] [2] [] [Bv false] [] [¬ (97 ≤ c)] hB ⟨h1, trivial⟩ ?_
  refine ae_then ?_
  refine aw_ret ?_
  refine ae_ret hB (Bv false) (by kernel_rfl) (.inl (by first | rfl | (refine congrArg Bv ?_; simp [inB, *]; done) | (refine congrArg Bv ?_; simp [inB, *]; omega) | (refine congrArg Bv ?_; simp_all [inB]; done) | (refine congrArg Bv ?_; simp_all [inB]; omega))) rfl (fun _ => trivial)



def hasB (s : ByteArray) (n : Int) : Bool := s.data.toList.any fun x => decide ((x.toNat : Int) = n)
theorem one_byte {t : ByteArray} (h : t.size = 1) : ∃ c, t = ⟨#[c]⟩ := by
  obtain ⟨⟨l⟩⟩ := t
  cases l with
  | nil => cases h
  | cons c l =>
    cases l with
    | nil => exact ⟨c, rfl⟩
    | cons d l => simp [ByteArray.size] at h
theorem has_index (l : List UInt8) (c : UInt8) : decide (0 ≤ Lib.indexByte l c) = l.any fun x => decide ((x.toNat : Int) = bAt ⟨#[c]⟩ 0) := by
  rw [← Lib.contains_iff_indexByte, Bool.eq_iff_iff]
  simp [bAt, List.contains_iff_mem]
  constructor
  · intro h; exact ⟨c, h, rfl⟩
  · rintro ⟨x, hx, e⟩
    have : x = c := UInt8.toNat_inj.1 (by omega)
    exact this ▸ hx


-- strings.Contains
theorem contains_ok (s t : ByteArray) (h : t.size = 1) : Con Tryz.prog 52 [Sv s, Sv t] true (Bv (hasB s (bAt t 0))) := by
  obtain ⟨c, rfl⟩ := one_byte h
  refine con_of_calls (vals := [.string s, .string ⟨#[c]⟩]) fun w _ => ?_
  refine (Tryz.strings_Contains_one s c w).mono ?_
  rintro e w' ⟨rfl, rfl⟩
  refine ⟨?_, Below.refl _ _⟩
  simp only [has_index, hasB]



-- impl.IsLabel
theorem implIsLabel_ok (s : ByteArray) (ok : s.size ≤ 9223372036854775807) : Con Tryz.prog 31 [Sv s] true (Bv (okLabel s)) := by
  refine fn_ok (fn := Tryz.f31) (nt := 15) Tryz.func31 rfl rfl rfl rfl (by simp [taggedL, tagged]) fun B hB => ?_
  refine aR [] [0] [] [Sv s] [] [] hB trivial ?_
  refine aw_seq ?_
  by_cases h1 : (s.size : Int) = 1
  ·rcases Bool.eq_false_or_eq_true (inB (bAt s 0) 97 122) with h2 | h2
   ·refine aw_r [(2, .dec true), (6, .call [(true, .any)] true (Bv true))] [2] [] [Bv true] [] [(s.size : Int) = 1, (0 : Int) ≤ 0 ∧ 0 < (s.size : Int), Con Tryz.prog 51 [.val (.int .u8 (bAt s 0))] true (Bv true) ∧ True] hB ⟨h1, ⟨(by omega), (by omega)⟩, ⟨(con_bool h2 (isLetter_ok (bAt s 0))), trivial⟩, trivial⟩ ?_
    refine ae_then ?_
    refine aw_ret ?_
    refine ae_ret hB (Bv true) (by kernel_rfl) (.inl (by first | (refine congrArg Bv ?_; simp_all [okLabel, labB, inB]; done) | (refine congrArg Bv ?_; have hbd := bAt_bd s 0; rw [Bool.eq_iff_iff]; simp_all [okLabel, hasB, labB, inB]; omega))) rfl (fun _ => trivial)
   refine aw_r [(2, .dec true), (6, .call [(true, .any)] true (Bv false)), (9, .call [(true, .any), (true, .any)] true (Bv (hasB (⟨#[48, 49, 50, 51, 52, 53, 54, 55, 56, 57, 43, 45, 42, 47, 61, 40, 41, 46, 44]⟩ : ByteArray) (bAt s 0))))] [2] [] [Bv (hasB (⟨#[48, 49, 50, 51, 52, 53, 54, 55, 56, 57, 43, 45, 42, 47, 61, 40, 41, 46, 44]⟩ : ByteArray) (bAt s 0))] [] [(s.size : Int) = 1, (0 : Int) ≤ 0 ∧ 0 < (s.size : Int), Con Tryz.prog 51 [.val (.int .u8 (bAt s 0))] true (Bv false) ∧ True, Con Tryz.prog 52 [Sv (⟨#[48, 49, 50, 51, 52, 53, 54, 55, 56, 57, 43, 45, 42, 47, 61, 40, 41, 46, 44]⟩ : ByteArray), Sv s] true (Bv (hasB (⟨#[48, 49, 50, 51, 52, 53, 54, 55, 56, 57, 43, 45, 42, 47, 61, 40, 41, 46, 44]⟩ : ByteArray) (bAt s 0))) ∧ True] hB ⟨h1, ⟨(by omega), (by omega)⟩, ⟨(con_bool h2 (isLetter_ok (bAt s 0))), trivial⟩, ⟨(contains_ok (⟨#[48, 49, 50, 51, 52, 53, 54, 55, 56, 57, 43, 45, 42, 47, 61, 40, 41, 46, 44]⟩ : ByteArray) s (by omega)), trivial⟩, trivial⟩ ?_
   refine ae_then ?_
   refine aw_ret ?_
   refine ae_ret hB (Bv (hasB (⟨#[48, 49, 50, 51, 52, 53, 54, 55, 56, 57, 43, 45, 42, 47, 61, 40, 41, 46, 44]⟩ : ByteArray) (bAt s 0))) (by kernel_rfl) (.inl (by first | (refine congrArg Bv ?_; simp_all [okLabel, labB, inB]; done) | (refine congrArg Bv ?_; have hbd := bAt_bd s 0; rw [Bool.eq_iff_iff]; simp_all [okLabel, hasB, labB, inB]; omega))) rfl (fun _ => trivial)
  refine aw_r [(2, .dec false)] [2] [] [Bv false] [] [¬ ((s.size : Int) = 1)] hB ⟨h1, trivial⟩ ?_
  refine ae_then ?_
  refine aw_ret ?_
  refine ae_ret hB (Bv false) (by kernel_rfl) (.inl (by first | (refine congrArg Bv ?_; simp_all [okLabel, labB, inB]; done) | (refine congrArg Bv ?_; have hbd := bAt_bd s 0; rw [Bool.eq_iff_iff]; simp_all [okLabel, hasB, labB, inB]; omega))) rfl (fun _ => trivial)



-- impl.within
theorem within_ok (n : Int) (low : Int) (high : Int) : Con Tryz.prog 18 [I n, I low, I high] true (Bv (inB n low high)) := by
  refine fn_ok (fn := Tryz.f18) (nt := 15) Tryz.func18 rfl rfl rfl rfl (by simp [taggedL, tagged]) fun B hB => ?_
  refine aR [] [0, 1, 2] [] [I n, I low, I high] [] [] hB trivial ?_
  refine aw_seq ?_
  by_cases h1 : low ≤ n
  ·refine aw_r [(2, .dec true)] [6] [] [Bv (decide (n ≤ high))] [] [low ≤ n] hB ⟨h1, trivial⟩ ?_
   refine ae_then ?_
   refine aw_ret ?_
   refine ae_ret hB (Bv (decide (n ≤ high))) (by kernel_rfl) (.inl (by first | rfl | (refine congrArg Bv ?_; simp [inB, *]; done) | (refine congrArg Bv ?_; simp [inB, *]; omega) | (refine congrArg Bv ?_; simp_all [inB]; done) | (refine congrArg Bv ?_; simp_all [inB]; omega))) rfl (fun _ => trivial)
  refine aw_r [(2, .dec false)] [6] [] [Bv false] [] [¬ (low ≤ n)] hB ⟨h1, trivial⟩ ?_
  refine ae_then ?_
  refine aw_ret ?_
  refine ae_ret hB (Bv false) (by kernel_rfl) (.inl (by first | rfl | (refine congrArg Bv ?_; simp [inB, *]; done) | (refine congrArg Bv ?_; simp [inB, *]; omega) | (refine congrArg Bv ?_; simp_all [inB]; done) | (refine congrArg Bv ?_; simp_all [inB]; omega))) rfl (fun _ => trivial)



-- impl.isCost
theorem isCost_ok (n : Int) : Con Tryz.prog 22 [I n] true (Bv (inB n 0 1000000)) := by
  refine fn_ok (fn := Tryz.f22) (nt := 5) Tryz.func22 rfl rfl rfl rfl (by simp [taggedL, tagged]) fun B hB => ?_
  refine aR [] [0] [] [I n] [] [] hB trivial ?_
  refine aR [(1, .call [(true, .any), (true, .any), (true, .any)] true (Bv (inB n 0 1000000)))] [2] [] [Bv (inB n 0 1000000)] [] [Con Tryz.prog 18 [I n, I 0, I 1000000] true (Bv (inB n 0 1000000)) ∧ True] hB ⟨⟨(within_ok n 0 1000000), trivial⟩, trivial⟩ ?_
  refine aw_ret ?_
  refine ae_ret hB (Bv (inB n 0 1000000)) (by kernel_rfl) (.inl rfl) rfl (fun _ => trivial)



-- cmp.isNaN[int64]
theorem isNaNI_ok (x : Int) : Con Tryz.prog 69 [I x] true (Bv false) := by
  refine fn_ok (fn := Tryz.f69) (nt := 6) Tryz.func69 rfl rfl rfl rfl (by simp [taggedL, tagged]) fun B hB => ?_
  refine aR [] [0] [] [I x] [] [] hB trivial ?_
  refine aR [(2, .dec false)] [2] [] [Bv false] [] [¬ (x ≠ x)] hB ⟨(fun hq => hq rfl), trivial⟩ ?_
  refine aw_ret ?_
  refine ae_ret hB (Bv false) (by kernel_rfl) (.inl rfl) rfl (fun _ => trivial)



-- cmp.Compare[int64]
theorem CompareI_ok (x : Int) (y : Int) : Con Tryz.prog 54 [I x, I y] true (I (cmpI x y)) := by
  refine fn_ok (fn := Tryz.f54) (nt := 20) Tryz.func54 rfl rfl rfl rfl (by simp [taggedL, tagged]) fun B hB => ?_
  refine aR [] [0, 1] [] [I x, I y] [] [] hB trivial ?_
  refine aR [(1, .call [(true, .any)] true (Bv false))] [0, 1, 5] [] [I x, I y, Bv false] [] [Con Tryz.prog 69 [I x] true (Bv false) ∧ True] hB ⟨⟨(isNaNI_ok x), trivial⟩, trivial⟩ ?_
  refine aR [(1, .call [(true, .any)] true (Bv false))] [0, 1, 5, 6] [] [I x, I y, Bv false, Bv false] [] [Con Tryz.prog 69 [I y] true (Bv false) ∧ True] hB ⟨⟨(isNaNI_ok y), trivial⟩, trivial⟩ ?_
  refine aw_seq ?_
  refine aR [] [0, 1, 6, 11] [] [I x, I y, Bv false, Bv false] [] [] hB trivial ?_
  refine aw_false rfl ?_
  refine aw_skip ?_
  refine ae_then ?_
  refine aw_seq ?_
  refine aR [] [0, 1, 13] [] [I x, I y, Bv false] [] [] hB trivial ?_
  refine aw_false rfl ?_
  refine aw_skip ?_
  refine ae_then ?_
  refine aw_seq ?_
  refine aw_seq ?_
  by_cases h1 : x < y
  ·refine aw_r [(2, .dec true)] [0, 1, 16] [] [I x, I y, Bv true] [] [x < y] hB ⟨h1, trivial⟩ ?_
   refine ae_then ?_
   refine aw_true rfl ?_
   refine aR [] [4] [] [I (-1)] [] [] hB trivial ?_
   refine aw_ret ?_
   refine ae_ret_then ?_
   refine ae_ret hB (I (-1)) (by kernel_rfl) (.inl (by refine congrArg I ?_; unfold cmpI; first | (rw [if_pos (by omega)]; done) | (rw [if_neg (by omega), if_pos (by omega)]; done) | (rw [if_neg (by omega), if_neg (by omega)]; done))) rfl (fun _ => trivial)
  refine aw_r [(2, .dec false)] [0, 1, 16] [] [I x, I y, Bv false] [] [¬ (x < y)] hB ⟨h1, trivial⟩ ?_
  refine ae_then ?_
  refine aw_false rfl ?_
  refine aw_skip ?_
  refine ae_then ?_
  refine aw_seq ?_
  refine aw_seq ?_
  by_cases h2 : y < x
  ·refine aw_r [(2, .dec true)] [19] [] [Bv true] [] [y < x] hB ⟨h2, trivial⟩ ?_
   refine ae_then ?_
   refine aw_true rfl ?_
   refine aR [] [4] [] [I 1] [] [] hB trivial ?_
   refine aw_ret ?_
   refine ae_ret_then ?_
   refine ae_ret hB (I 1) (by kernel_rfl) (.inl (by refine congrArg I ?_; unfold cmpI; first | (rw [if_pos (by omega)]; done) | (rw [if_neg (by omega), if_pos (by omega)]; done) | (rw [if_neg (by omega), if_neg (by omega)]; done))) rfl (fun _ => trivial)
  refine aw_r [(2, .dec false)] [19] [] [Bv false] [] [¬ (y < x)] hB ⟨h2, trivial⟩ ?_
  refine ae_then ?_
  refine aw_false rfl ?_
  refine aw_skip ?_
  refine ae_then ?_
  refine aR [] [4] [] [I 0] [] [] hB trivial ?_
  refine aw_ret ?_
  refine ae_ret hB (I 0) (by kernel_rfl) (.inl (by refine congrArg I ?_; unfold cmpI; first | (rw [if_pos (by omega)]; done) | (rw [if_neg (by omega), if_pos (by omega)]; done) | (rw [if_neg (by omega), if_neg (by omega)]; done))) rfl (fun _ => trivial)



-- cmp.isNaN[string]
theorem isNaNS_ok (x : ByteArray) : Con Tryz.prog 70 [Sv x] true (Bv false) := by
  refine fn_ok (fn := Tryz.f70) (nt := 6) Tryz.func70 rfl rfl rfl rfl (by simp [taggedL, tagged]) fun B hB => ?_
  refine aR [] [0] [] [Sv x] [] [] hB trivial ?_
  refine aR [(2, .dec false)] [2] [] [Bv false] [] [¬ (x ≠ x)] hB ⟨(fun hq => hq rfl), trivial⟩ ?_
  refine aw_ret ?_
  refine ae_ret hB (Bv false) (by kernel_rfl) (.inl rfl) rfl (fun _ => trivial)



-- cmp.Compare[string]
theorem CompareS_ok (x : ByteArray) (y : ByteArray) : Con Tryz.prog 55 [Sv x, Sv y] true (I (cmpS x y)) := by
  refine fn_ok (fn := Tryz.f55) (nt := 20) Tryz.func55 rfl rfl rfl rfl (by simp [taggedL, tagged]) fun B hB => ?_
  refine aR [] [0, 1] [] [Sv x, Sv y] [] [] hB trivial ?_
  refine aR [(1, .call [(true, .any)] true (Bv false))] [0, 1, 5] [] [Sv x, Sv y, Bv false] [] [Con Tryz.prog 70 [Sv x] true (Bv false) ∧ True] hB ⟨⟨(isNaNS_ok x), trivial⟩, trivial⟩ ?_
  refine aR [(1, .call [(true, .any)] true (Bv false))] [0, 1, 5, 6] [] [Sv x, Sv y, Bv false, Bv false] [] [Con Tryz.prog 70 [Sv y] true (Bv false) ∧ True] hB ⟨⟨(isNaNS_ok y), trivial⟩, trivial⟩ ?_
  refine aw_seq ?_
  refine aR [] [0, 1, 6, 11] [] [Sv x, Sv y, Bv false, Bv false] [] [] hB trivial ?_
  refine aw_false rfl ?_
  refine aw_skip ?_
  refine ae_then ?_
  refine aw_seq ?_
  refine aR [] [0, 1, 13] [] [Sv x, Sv y, Bv false] [] [] hB trivial ?_
  refine aw_false rfl ?_
  refine aw_skip ?_
  refine ae_then ?_
  refine aw_seq ?_
  refine aw_seq ?_
  by_cases h1 : sless x y = true
  ·refine aw_r [(2, .dec true)] [0, 1, 16] [] [Sv x, Sv y, Bv true] [] [sless x y = true] hB ⟨h1, trivial⟩ ?_
   refine ae_then ?_
   refine aw_true rfl ?_
   refine aR [] [4] [] [I (-1)] [] [] hB trivial ?_
   refine aw_ret ?_
   refine ae_ret_then ?_
   refine ae_ret hB (I (-1)) (by kernel_rfl) (.inl (by refine congrArg I ?_; unfold cmpS; first | (rw [if_pos (by assumption)]; done) | (rw [if_neg (by assumption), if_pos (by assumption)]; done) | (rw [if_neg (by assumption), if_neg (by assumption)]; done))) rfl (fun _ => trivial)
  refine aw_r [(2, .dec false)] [0, 1, 16] [] [Sv x, Sv y, Bv false] [] [¬ (sless x y = true)] hB ⟨h1, trivial⟩ ?_
  refine ae_then ?_
  refine aw_false rfl ?_
  refine aw_skip ?_
  refine ae_then ?_
  refine aw_seq ?_
  refine aw_seq ?_
  by_cases h2 : sless x y = false ∧ x ≠ y
  ·refine aw_r [(2, .dec true)] [19] [] [Bv true] [] [sless x y = false ∧ x ≠ y] hB ⟨h2, trivial⟩ ?_
   refine ae_then ?_
   refine aw_true rfl ?_
   refine aR [] [4] [] [I 1] [] [] hB trivial ?_
   refine aw_ret ?_
   refine ae_ret_then ?_
   refine ae_ret hB (I 1) (by kernel_rfl) (.inl (by refine congrArg I ?_; unfold cmpS; first | (rw [if_pos (by assumption)]; done) | (rw [if_neg (by assumption), if_pos (by assumption)]; done) | (rw [if_neg (by assumption), if_neg (by assumption)]; done))) rfl (fun _ => trivial)
  refine aw_r [(2, .dec false)] [19] [] [Bv false] [] [¬ (sless x y = false ∧ x ≠ y)] hB ⟨h2, trivial⟩ ?_
  refine ae_then ?_
  refine aw_false rfl ?_
  refine aw_skip ?_
  refine ae_then ?_
  refine aR [] [4] [] [I 0] [] [] hB trivial ?_
  refine aw_ret ?_
  refine ae_ret hB (I 0) (by kernel_rfl) (.inl (by refine congrArg I ?_; unfold cmpS; first | (rw [if_pos (by assumption)]; done) | (rw [if_neg (by assumption), if_pos (by assumption)]; done) | (rw [if_neg (by assumption), if_neg (by assumption)]; done))) rfl (fun _ => trivial)



-- cmp.Or[int]
theorem OrI_ok (vals : List Int) : Con Tryz.prog 53 [slI false vals] true (I (orL vals)) := by
  refine fn_ok (fn := Tryz.f53) (nt := 18) Tryz.func53 rfl rfl rfl rfl (by simp [taggedL, tagged, tagI]) fun B hB => ?_
  refine aw_lens (x := slI false vals) 0 rfl (fun len_vals => ?_)
  simp [LenOK, LenL, cI, fI, slI] at len_vals
  refine aR [] [0] [] [slI false vals] [] [] hB trivial ?_
  refine aR [] [0, 3] [] [slI false vals, I 0] [] [] hB trivial ?_
  refine aw_seq ?_
  refine aR [] [3, 6, 7, 8] [] [I 0, slI false vals, I (vals.length : Int), I 0] [] [] hB trivial ?_
  refine aw_block ?_
  refine aw_loop (fun gn gσ => ∃ (t8 : Int), gn = ((vals.length : Int) - t8).toNat ∧ (0 ≤ t8 ∧ t8 ≤ (vals.length : Int)) ∧ (∀ j : Nat, (j : Int) < t8 → at_ vals j = 0) ∧ gσ = mkS [(3, I 0), (6, slI false vals), (7, I (vals.length : Int)), (8, I t8)] []) (((vals.length : Int) - 0).toNat) ⟨0, rfl, (by omega), (by intro j hj; omega), rfl⟩ (fun gn gσ hI => ?_)
  obtain ⟨t8, rfl, hi0, hz0, rfl⟩ := hI
  refine aw_seq ?_
  by_cases h1 : t8 < (vals.length : Int)
  ·have hi : t8.toNat < vals.length := by omega
   refine aw_r [(0, .dec true)] [3, 6, 7, 8, 9] [] [I 0, slI false vals, I (vals.length : Int), I t8, Bv true] [] [t8 < (vals.length : Int)] hB ⟨h1, trivial⟩ ?_
   refine ae_then ?_
   refine aw_seq ?_
   refine aw_true rfl ?_
   refine aw_skip ?_
   refine ae_then ?_
   refine aw_seq ?_
   refine aw_block ?_
   refine aR [] [3, 5, 6, 7, 8] [] [I 0, I (at_ vals t8.toNat), slI false vals, I (vals.length : Int), I t8] [] [(0 : Int) ≤ t8 ∧ t8 < (vals.length : Int)] hB ⟨⟨(by omega), (by omega)⟩, trivial⟩ ?_
   refine aw_seq ?_
   by_cases h2 : (at_ vals t8.toNat) = 0
   ·refine aw_r [(2, .dec false)] [3, 5, 6, 7, 8, 14] [] [I 0, I (at_ vals t8.toNat), slI false vals, I (vals.length : Int), I t8, Bv false] [] [¬ ((at_ vals t8.toNat) ≠ 0)] hB ⟨(fun hq => hq h2), trivial⟩ ?_
    refine ae_then ?_
    refine aw_false rfl ?_
    refine aw_skip ?_
    refine ae_block 1 ?_
    refine ae_then ?_
    refine aw_r [] [3, 6, 7, 8] [] [I 0, slI false vals, I (vals.length : Int), I (t8 + 1)] [] [inR .i64 (t8 + 1)] hB ⟨(inR_i64 (by omega) (by omega)), trivial⟩ ?_
    exact ae_again _ (by omega) ⟨(t8 + 1), rfl, (by omega), (by intro j hj; by_cases ej : j = t8.toNat; (subst ej; assumption); exact hz0 j (by omega)), rfl⟩
   refine aw_r [(2, .dec true)] [3, 5, 6, 7, 8, 14] [] [I 0, I (at_ vals t8.toNat), slI false vals, I (vals.length : Int), I t8, Bv true] [] [(at_ vals t8.toNat) ≠ 0] hB ⟨h2, trivial⟩ ?_
   refine ae_then ?_
   refine aw_true rfl ?_
   refine aR [] [2] [] [I (at_ vals t8.toNat)] [] [] hB trivial ?_
   refine aw_ret ?_
   refine ae_ret_block (ae_ret_then (ae_ret_then (ae_ret_block (ae_ret_then ?_))))
   refine ae_ret hB (I (at_ vals t8.toNat)) (by kernel_rfl) (.inl (by refine congrArg I ?_; first | (rw [orL_none (fun j hj => hz0 j (by omega))]; done) | (rw [orL_at hi (fun j hj => hz0 j (by omega)) (by assumption)]; done) | (rw [orL_at hi (fun j hj => hz0 j (by omega)) (by assumption)]))) rfl (fun _ => trivial)
  refine aw_r [(0, .dec false)] [3, 6, 7, 8, 9] [] [I 0, slI false vals, I (vals.length : Int), I t8, Bv false] [] [¬ (t8 < (vals.length : Int))] hB ⟨h1, trivial⟩ ?_
  refine ae_then ?_
  refine aw_seq ?_
  refine aw_false rfl ?_
  refine aw_exit ?_
  refine ae_exit_then ?_
  refine ae_exit_then ?_
  refine ae_exit_same ?_
  refine ae_then ?_
  refine aR [] [2] [] [I 0] [] [] hB trivial ?_
  refine aw_ret ?_
  refine ae_ret hB (I 0) (by kernel_rfl) (.inl (by refine congrArg I ?_; first | (rw [orL_none (fun j hj => hz0 j (by omega))]; done) | (rw [orL_at hi (fun j hj => hz0 j (by omega)) (by assumption)]; done) | (rw [orL_at hi (fun j hj => hz0 j (by omega)) (by assumption)]))) rfl (fun _ => trivial)



-- impl.compareHyps
theorem compareHyps_ok (a : Hyp) (b : Hyp) : Con Tryz.prog 32 [agHyp a, agHyp b] true (I (cmpH a b)) := by
  refine fn_ok (fn := Tryz.f32) (nt := 17) Tryz.func32 rfl rfl rfl rfl (by simp [taggedL, tagged]) fun B hB => ?_
  refine aR [(0, .new 2), (1, .new 3)] [2, 3] [2, 3] [.ref 2 0, .ref 3 0] [some (bxHyp a), some (bxHyp b)] [] hB trivial ?_
  refine aR [(4, .call [(true, .any), (true, .any)] true (I (cmpI a.Cost b.Cost))), (9, .call [(true, .any), (true, .any)] true (I (cmpS a.Label b.Label))), (10, .new 15), (11, .call [(false, slI false ([(cmpI a.Cost b.Cost), (cmpS a.Label b.Label)]))] true (I (orL ([(cmpI a.Cost b.Cost), (cmpS a.Label b.Label)]))))] [4] [] [I (orL ([(cmpI a.Cost b.Cost), (cmpS a.Label b.Label)]))] [] [Con Tryz.prog 54 [I a.Cost, I b.Cost] true (I (cmpI a.Cost b.Cost)) ∧ True, Con Tryz.prog 55 [Sv a.Label, Sv b.Label] true (I (cmpS a.Label b.Label)) ∧ True, Con Tryz.prog 53 [slI false ([(cmpI a.Cost b.Cost), (cmpS a.Label b.Label)])] true (I (orL ([(cmpI a.Cost b.Cost), (cmpS a.Label b.Label)]))) ∧ ((false = true → true = true) ∧ 1 = 1 ∧ 2 = (([(cmpI a.Cost b.Cost), (cmpS a.Label b.Label)]).length) ∧ ∀ i_, i_ < (([(cmpI a.Cost b.Cost), (cmpS a.Label b.Label)]).length) → (litF [I (cmpI a.Cost b.Cost), I (cmpS a.Label b.Label)] 1) i_ = (fI ([(cmpI a.Cost b.Cost), (cmpS a.Label b.Label)])) i_ ∨ (AV.idsL ((fI ([(cmpI a.Cost b.Cost), (cmpS a.Label b.Label)])) i_) = [] ∧ leL (fun _ => none) false ((litF [I (cmpI a.Cost b.Cost), I (cmpS a.Label b.Label)] 1) i_) ((fI ([(cmpI a.Cost b.Cost), (cmpS a.Label b.Label)])) i_))) ∧ True] hB ⟨⟨(CompareI_ok a.Cost b.Cost), trivial⟩, ⟨(CompareS_ok a.Label b.Label), trivial⟩, ⟨(OrI_ok ([(cmpI a.Cost b.Cost), (cmpS a.Label b.Label)])), ⟨(fun h => by cases h), rfl, (by first | rfl | (simp; done) | (simp; omega) | omega), fun i_ hi_ => .inl (match i_, hi_ with | 0, _ => rfl | 1, _ => rfl | (i + 2), h => absurd h (by simp))⟩, trivial⟩, trivial⟩ ?_
  refine aw_ret ?_
  refine ae_ret hB (I (orL ([(cmpI a.Cost b.Cost), (cmpS a.Label b.Label)]))) (by kernel_rfl) (.inl (by rfl)) rfl (fun _ => trivial)



-- impl.ValidHyps$1
theorem ValidHyps1_ok (g : Hyp) (h : Hyp) : Con Tryz.prog 34 [agHyp g, .ptr false [Sv h.Label, I h.Cost]] true (Bv (decide (g.Label = h.Label))) := by
  refine fn_ok (fn := Tryz.f34) (nt := 9) Tryz.func34 rfl rfl rfl rfl (by simp [taggedL, tagged]) fun B hB => ?_
  refine aR [(0, .new 2)] [1, 2] [2] [.ptr false [Sv h.Label, I h.Cost], .ref 2 0] [some (bxHyp g)] [] hB trivial ?_
  refine aR [] [3] [] [Bv (decide (g.Label = h.Label))] [] [] hB trivial ?_
  refine aw_ret ?_
  refine ae_ret hB (Bv (decide (g.Label = h.Label))) (by kernel_rfl) (.inl rfl) rfl (fun _ => trivial)



def firstN (n : Nat) (p : Nat → Bool) : Int := match (List.range n).find? p with
  | some i => i
  | none => -1
theorem firstN_hit {n : Nat} {p : Nat → Bool} {k : Nat} (hk : k < n) (hp : p k = true) (hn : ∀ i, i < k → p i = false) : firstN n p = k := by
  have h : (List.range n).find? p = some k := by
    rw [List.find?_range_eq_some]
    exact ⟨hp, List.mem_range.2 hk, fun j hj => by simpa using hn j hj⟩
  simp [firstN, h]
theorem firstN_none {n : Nat} {p : Nat → Bool} (hn : ∀ i, i < n → p i = false) : firstN n p = -1 := by
  have h : (List.range n).find? p = none := by
    rw [List.find?_range_eq_none]
    intro i hi; simpa using hn i hi
  simp [firstN, h]
theorem firstN_cases (n : Nat) (p : Nat → Bool) : (firstN n p = -1 ∧ ∀ i, i < n → p i = false) ∨ ∃ k : Nat, firstN n p = k ∧ k < n ∧ p k = true ∧ ∀ i, i < k → p i = false := by
  by_cases h : ∃ k, k < n ∧ p k = true
  · right
    obtain ⟨k, hk, hp⟩ := h
    cases e : (List.range n).find? p with
    | none => rw [List.find?_range_eq_none] at e; exact absurd hp (by simpa using e k hk)
    | some i =>
      have e' := e
      rw [List.find?_range_eq_some] at e
      exact ⟨i, by simp [firstN, e'], List.mem_range.1 e.2.1, e.1, fun j hj => by simpa using e.2.2 j hj⟩
  · left
    have h' : ∀ i, i < n → p i = false := fun i hi => by rw [← Bool.not_eq_true]; exact fun hp => h ⟨i, hi, hp⟩
    exact ⟨firstN_none h', h'⟩
theorem firstN_any (n : Nat) (p : Nat → Bool) : decide (0 ≤ firstN n p) = anyN n p := by
  rcases firstN_cases n p with ⟨h1, h2⟩ | ⟨k, h1, h2, h3, _⟩
  · rw [h1, anyN_none h2]; decide
  · rw [h1, anyN_at h2 h3]; simp


-- impl.ValidHyps
theorem cfHypV_ok_idx (s : List Hyp) (h : Hyp) : Con Tryz.prog 56 [slHyp false s, .fn 34 [.ptr false [Sv h.Label, I h.Cost]]] true (I (firstN s.length (fun j => decide ((at_ s j).Label = h.Label)))) := by
  refine fn_ok (fn := Tryz.f56) (nt := 19) Tryz.func56 rfl rfl rfl rfl (by simp [taggedL, tagged, tagHyp]) fun B hB => ?_
  refine aw_lens (x := slHyp false s) 0 rfl (fun len_s => ?_)
  simp [LenOK, LenL, cHyp, fHyp, slHyp] at len_s
  refine aR [] [0, 1] [] [slHyp false s, .fn 34 [.ptr false [Sv h.Label, I h.Cost]]] [] [] hB trivial ?_
  refine aw_seq ?_
  refine aR [] [0, 1, 7, 8] [] [slHyp false s, .fn 34 [.ptr false [Sv h.Label, I h.Cost]], I (s.length : Int), I 0] [] [] hB trivial ?_
  refine aw_block ?_
  refine aw_loop (fun gn gσ => ∃ (t8 : Int), gn = ((s.length : Int) - t8).toNat ∧ (0 ≤ t8 ∧ t8 ≤ (s.length : Int)) ∧ (∀ j : Nat, (j : Int) < t8 → decide ((at_ s j).Label = h.Label) = false) ∧ gσ = mkS [(0, slHyp false s), (1, .fn 34 [.ptr false [Sv h.Label, I h.Cost]]), (7, I (s.length : Int)), (8, I t8)] []) (((s.length : Int) - 0).toNat) ⟨0, rfl, (by omega), (by intro j hj; omega), rfl⟩ (fun gn gσ hI => ?_)
  obtain ⟨t8, rfl, hi0, hall0, rfl⟩ := hI
  refine aw_seq ?_
  by_cases h1 : t8 < (s.length : Int)
  ·have hi : t8.toNat < s.length := by omega
   refine aw_r [(0, .dec true)] [0, 1, 7, 8, 9] [] [slHyp false s, .fn 34 [.ptr false [Sv h.Label, I h.Cost]], I (s.length : Int), I t8, Bv true] [] [t8 < (s.length : Int)] hB ⟨h1, trivial⟩ ?_
   refine ae_then ?_
   refine aw_seq ?_
   refine aw_true rfl ?_
   refine aw_skip ?_
   refine ae_then ?_
   refine aw_seq ?_
   refine aw_block ?_
   refine aR [] [0, 1, 5, 7, 8] [] [slHyp false s, .fn 34 [.ptr false [Sv h.Label, I h.Cost]], I t8, I (s.length : Int), I t8] [] [] hB trivial ?_
   refine aw_seq ?_
   rcases Bool.eq_false_or_eq_true (decide ((at_ s t8.toNat).Label = h.Label)) with h2 | h2
   ·have hfin : firstN s.length (fun j => decide ((at_ s j).Label = h.Label)) = t8.toNat := firstN_hit hi h2 (fun j hj => hall0 j (by omega))
    refine aw_r [(5, .call [(true, .any), (true, .any)] true (Bv true))] [0, 1, 5, 7, 8, 16] [] [slHyp false s, .fn 34 [.ptr false [Sv h.Label, I h.Cost]], I t8, I (s.length : Int), I t8, Bv true] [] [(0 : Int) ≤ t8 ∧ t8 < (s.length : Int), Con Tryz.prog 34 [agHyp (at_ s t8.toNat), .ptr false [Sv h.Label, I h.Cost]] true (Bv true) ∧ True] hB ⟨⟨(by omega), (by omega)⟩, ⟨(con_bool h2 (ValidHyps1_ok (at_ s t8.toNat) h)), trivial⟩, trivial⟩ ?_
    refine ae_then ?_
    refine aw_true rfl ?_
    refine aR [] [4] [] [I t8] [] [] hB trivial ?_
    refine aw_ret ?_
    refine ae_ret_block (ae_ret_then (ae_ret_then (ae_ret_block (ae_ret_then ?_))))
    refine ae_ret hB (I t8) (by kernel_rfl) (.inl (by refine congrArg I ?_; first | (rw [hfin]; done) | (rw [hfin]; omega))) rfl (fun _ => trivial)
   refine aw_r [(5, .call [(true, .any), (true, .any)] true (Bv false))] [0, 1, 5, 7, 8, 16] [] [slHyp false s, .fn 34 [.ptr false [Sv h.Label, I h.Cost]], I t8, I (s.length : Int), I t8, Bv false] [] [(0 : Int) ≤ t8 ∧ t8 < (s.length : Int), Con Tryz.prog 34 [agHyp (at_ s t8.toNat), .ptr false [Sv h.Label, I h.Cost]] true (Bv false) ∧ True] hB ⟨⟨(by omega), (by omega)⟩, ⟨(con_bool h2 (ValidHyps1_ok (at_ s t8.toNat) h)), trivial⟩, trivial⟩ ?_
   refine ae_then ?_
   refine aw_false rfl ?_
   refine aw_skip ?_
   refine ae_block 1 ?_
   refine ae_then ?_
   refine aw_r [] [0, 1, 7, 8] [] [slHyp false s, .fn 34 [.ptr false [Sv h.Label, I h.Cost]], I (s.length : Int), I (t8 + 1)] [] [inR .i64 (t8 + 1)] hB ⟨(inR_i64 (by omega) (by omega)), trivial⟩ ?_
   exact ae_again _ (by omega) ⟨(t8 + 1), rfl, (by omega), (by intro j hj; by_cases ej : j = t8.toNat; (subst ej; first | assumption | rfl); exact hall0 j (by omega)), rfl⟩
  have hfin : firstN s.length (fun j => decide ((at_ s j).Label = h.Label)) = -1 := firstN_none (fun j hj => hall0 j (by omega))
  refine aw_r [(0, .dec false)] [0, 1, 7, 8, 9] [] [slHyp false s, .fn 34 [.ptr false [Sv h.Label, I h.Cost]], I (s.length : Int), I t8, Bv false] [] [¬ (t8 < (s.length : Int))] hB ⟨h1, trivial⟩ ?_
  refine ae_then ?_
  refine aw_seq ?_
  refine aw_false rfl ?_
  refine aw_exit ?_
  refine ae_exit_then ?_
  refine ae_exit_then ?_
  refine ae_exit_same ?_
  refine ae_then ?_
  refine aR [] [4] [] [I (-1)] [] [] hB trivial ?_
  refine aw_ret ?_
  refine ae_ret hB (I (-1)) (by kernel_rfl) (.inl (by refine congrArg I ?_; first | (rw [hfin]; done) | (rw [hfin]; omega))) rfl (fun _ => trivial)

theorem cfHypV_ok (s : List Hyp) (h : Hyp) : Con Tryz.prog 33 [slHyp false s, .fn 34 [.ptr false [Sv h.Label, I h.Cost]]] true (Bv (anyN s.length (fun j => decide ((at_ s j).Label = h.Label)))) := by
  refine fn_ok (fn := Tryz.f33) (nt := 9) Tryz.func33 rfl rfl rfl rfl (by simp [taggedL, tagged, tagHyp]) fun B hB => ?_
  refine aw_lens (x := slHyp false s) 0 rfl (fun len_s => ?_)
  simp [LenOK, LenL, cHyp, fHyp, slHyp] at len_s
  refine aR [] [0, 1] [] [slHyp false s, .fn 34 [.ptr false [Sv h.Label, I h.Cost]]] [] [] hB trivial ?_
  refine aR [(2, .call [(true, .any), (true, .any)] true (I (firstN s.length (fun j => decide ((at_ s j).Label = h.Label)))))] [4] [] [Bv (decide (0 ≤ (firstN s.length (fun j => decide ((at_ s j).Label = h.Label)))))] [] [Con Tryz.prog 56 [slHyp false s, .fn 34 [.ptr false [Sv h.Label, I h.Cost]]] true (I (firstN s.length (fun j => decide ((at_ s j).Label = h.Label)))) ∧ True] hB ⟨⟨(cfHypV_ok_idx s h), trivial⟩, trivial⟩ ?_
  refine aw_ret ?_
  refine ae_ret hB (Bv (decide (0 ≤ (firstN s.length (fun j => decide ((at_ s j).Label = h.Label)))))) (by kernel_rfl) (.inl (by exact congrArg Bv (firstN_any _ _))) rfl (fun _ => trivial)

theorem implValidHyps_ok (list : List Hyp) (ok : okHyps list) : Con Tryz.prog 17 [slHyp false list] true (Bv true) := by
  have hl8 := ok.1
  refine fn_ok (fn := Tryz.f17) (nt := 45) Tryz.func17 rfl rfl rfl rfl (by simp [taggedL, tagged, tagHyp]) fun B hB => ?_
  refine aw_lens (x := slHyp false list) 0 rfl (fun len_list => ?_)
  simp [LenOK, LenL, cHyp, fHyp, slHyp] at len_list
  refine aR [] [0] [] [slHyp false list] [] [] hB trivial ?_
  refine aw_seq ?_
  refine aR [] [0, 5, 6, 7] [] [slHyp false list, slHyp false list, I (list.length : Int), I 0] [] [] hB trivial ?_
  refine aw_block ?_
  refine aw_loop (fun gn gσ => ∃ (t7 : Int), gn = ((list.length : Int) - t7).toNat ∧ (0 ≤ t7 ∧ t7 ≤ (list.length : Int)) ∧ gσ = mkS [(0, slHyp false list), (5, slHyp false list), (6, I (list.length : Int)), (7, I t7)] []) (((list.length : Int) - 0).toNat) ⟨0, rfl, (by omega), rfl⟩ (fun gn gσ hI => ?_)
  obtain ⟨t7, rfl, hi0, rfl⟩ := hI
  refine aw_seq ?_
  by_cases h1 : t7 < (list.length : Int)
  ·have hi : t7.toNat < list.length := by omega
   have hed := ok.2.1 _ hi
   refine aw_r [(0, .dec true)] [0, 5, 6, 7, 8] [] [slHyp false list, slHyp false list, I (list.length : Int), I t7, Bv true] [] [t7 < (list.length : Int)] hB ⟨h1, trivial⟩ ?_
   refine ae_then ?_
   refine aw_seq ?_
   refine aw_true rfl ?_
   refine aw_skip ?_
   refine ae_then ?_
   refine aw_seq ?_
   refine aw_block ?_
   refine aR [(3, .new 4)] [0, 3, 4, 5, 6, 7] [4] [slHyp false list, I t7, .ref 4 0, slHyp false list, I (list.length : Int), I t7] [some (bxHyp (at_ list t7.toNat))] [(0 : Int) ≤ t7 ∧ t7 < (list.length : Int)] hB ⟨⟨(by omega), (by omega)⟩, trivial⟩ ?_
   refine aw_seq ?_
   refine aw_seq ?_
   by_cases h2 : 0 < t7
   ·have hpr := pw_get ok.2.2.1 (show (t7 - 1).toNat < t7.toNat by omega) hi
    refine aw_r [(2, .call [(true, .any)] true (Bv true)), (7, .call [(true, .any)] true (Bv true)), (12, .dec true), (20, .call [(true, .any), (true, .any)] true (I (cmpH (at_ list ((t7 - 1).toNat)) (at_ list t7.toNat)))), (21, .dec false)] [0, 3, 4, 5, 6, 7, 35] [4] [slHyp false list, I t7, .ref 4 0, slHyp false list, I (list.length : Int), I t7, Bv false] [some (bxHyp (at_ list t7.toNat))] [Con Tryz.prog 31 [Sv ((at_ list t7.toNat).Label)] true (Bv true) ∧ True, Con Tryz.prog 22 [I ((at_ list t7.toNat).Cost)] true (Bv true) ∧ True, 0 < t7, inR .i64 (t7 - 1), (0 : Int) ≤ (t7 - 1) ∧ (t7 - 1) < (list.length : Int), Con Tryz.prog 32 [agHyp (at_ list ((t7 - 1).toNat)), agHyp (at_ list t7.toNat)] true (I (cmpH (at_ list ((t7 - 1).toNat)) (at_ list t7.toNat))) ∧ True, ¬ (0 < (cmpH (at_ list ((t7 - 1).toNat)) (at_ list t7.toNat)))] hB ⟨⟨(con_bool hed.1 (implIsLabel_ok ((at_ list t7.toNat).Label) (by have := lab_one hed.1; omega))), trivial⟩, ⟨(con_bool (inB_iff.2 hed.2) (isCost_ok ((at_ list t7.toNat).Cost))), trivial⟩, h2, (inR_i64 (by omega) (by omega)), ⟨(by omega), (by omega)⟩, ⟨(compareHyps_ok (at_ list ((t7 - 1).toNat)) (at_ list t7.toNat)), trivial⟩, (by omega), trivial⟩ ?_
    refine ae_then ?_
    refine aw_false rfl ?_
    refine aw_skip ?_
    refine ae_then ?_
    refine aR [(4, .call [(false, slHyp false (list.take t7.toNat)), (false, .fn 34 [.ptr false [Sv ((at_ list t7.toNat).Label), I ((at_ list t7.toNat).Cost)]])] true (Bv false))] [0, 5, 6, 7, 40] [] [slHyp false list, slHyp false list, I (list.length : Int), I t7, Bv false] [] [(0 : Int) ≤ 0 ∧ (0 : Int) ≤ t7 ∧ t7 ≤ (list.length : Int), Con Tryz.prog 33 [slHyp false (list.take t7.toNat), .fn 34 [.ptr false [Sv ((at_ list t7.toNat).Label), I ((at_ list t7.toNat).Cost)]]] true (Bv false) ∧ ((false = true → false = true) ∧ 2 = 2 ∧ (t7.toNat - 0) = ((list.take t7.toNat).length) ∧ ∀ i_, i_ < ((list.take t7.toNat).length) → (cutF 0 (fHyp list)) i_ = (fHyp (list.take t7.toNat)) i_ ∨ (AV.idsL ((fHyp (list.take t7.toNat)) i_) = [] ∧ leL (fun _ => none) false ((cutF 0 (fHyp list)) i_) ((fHyp (list.take t7.toNat)) i_))) ∧ (34 = 34 ∧ ((false = true → true = true) ∧ AV.idsL [Sv ((at_ list t7.toNat).Label), I ((at_ list t7.toNat).Cost)] = [] ∧ (valOf (Sv ((at_ list t7.toNat).Label)) = valOf (Sv ((at_ list t7.toNat).Label))) ∧ (valOf (I ((at_ list t7.toNat).Cost)) = valOf (I ((at_ list t7.toNat).Cost))) ∧ ([] : List AV) = []) ∧ ([] : List AV) = []) ∧ True] hB ⟨⟨(by omega), (by omega), (by omega)⟩, ⟨(con_bool (anyN_none fun j hj => decide_eq_false (by rw [List.length_take] at hj; rw [at_tk (by omega)]; exact pw_get ok.2.2.2 (by omega) hi)) (cfHypV_ok (list.take t7.toNat) (at_ list t7.toNat))), ⟨(fun h => by cases h), rfl, (by first | rfl | (simp; done) | (simp; omega) | omega), fun i_ hi_ => .inl (cut_take (enc := cHyp) hi_)⟩, ⟨rfl, ⟨⟨(fun h => by cases h), rfl, ⟨rfl, ⟨rfl, rfl⟩⟩⟩, rfl⟩⟩, trivial⟩, trivial⟩ ?_
    refine aw_false rfl ?_
    refine aw_skip ?_
    refine ae_block 1 ?_
    refine ae_then ?_
    refine aw_r [] [0, 5, 6, 7] [] [slHyp false list, slHyp false list, I (list.length : Int), I (t7 + 1)] [] [inR .i64 (t7 + 1)] hB ⟨(inR_i64 (by omega) (by omega)), trivial⟩ ?_
    exact ae_again _ (by omega) ⟨(t7 + 1), rfl, (by omega), rfl⟩
   refine aw_r [(2, .call [(true, .any)] true (Bv true)), (7, .call [(true, .any)] true (Bv true)), (12, .dec false)] [0, 3, 4, 5, 6, 7, 35] [4] [slHyp false list, I t7, .ref 4 0, slHyp false list, I (list.length : Int), I t7, Bv false] [some (bxHyp (at_ list t7.toNat))] [Con Tryz.prog 31 [Sv ((at_ list t7.toNat).Label)] true (Bv true) ∧ True, Con Tryz.prog 22 [I ((at_ list t7.toNat).Cost)] true (Bv true) ∧ True, ¬ (0 < t7)] hB ⟨⟨(con_bool hed.1 (implIsLabel_ok ((at_ list t7.toNat).Label) (by have := lab_one hed.1; omega))), trivial⟩, ⟨(con_bool (inB_iff.2 hed.2) (isCost_ok ((at_ list t7.toNat).Cost))), trivial⟩, h2, trivial⟩ ?_
   refine ae_then ?_
   refine aw_false rfl ?_
   refine aw_skip ?_
   refine ae_then ?_
   refine aR [(4, .call [(false, slHyp false (list.take t7.toNat)), (false, .fn 34 [.ptr false [Sv ((at_ list t7.toNat).Label), I ((at_ list t7.toNat).Cost)]])] true (Bv false))] [0, 5, 6, 7, 40] [] [slHyp false list, slHyp false list, I (list.length : Int), I t7, Bv false] [] [(0 : Int) ≤ 0 ∧ (0 : Int) ≤ t7 ∧ t7 ≤ (list.length : Int), Con Tryz.prog 33 [slHyp false (list.take t7.toNat), .fn 34 [.ptr false [Sv ((at_ list t7.toNat).Label), I ((at_ list t7.toNat).Cost)]]] true (Bv false) ∧ ((false = true → false = true) ∧ 2 = 2 ∧ (t7.toNat - 0) = ((list.take t7.toNat).length) ∧ ∀ i_, i_ < ((list.take t7.toNat).length) → (cutF 0 (fHyp list)) i_ = (fHyp (list.take t7.toNat)) i_ ∨ (AV.idsL ((fHyp (list.take t7.toNat)) i_) = [] ∧ leL (fun _ => none) false ((cutF 0 (fHyp list)) i_) ((fHyp (list.take t7.toNat)) i_))) ∧ (34 = 34 ∧ ((false = true → true = true) ∧ AV.idsL [Sv ((at_ list t7.toNat).Label), I ((at_ list t7.toNat).Cost)] = [] ∧ (valOf (Sv ((at_ list t7.toNat).Label)) = valOf (Sv ((at_ list t7.toNat).Label))) ∧ (valOf (I ((at_ list t7.toNat).Cost)) = valOf (I ((at_ list t7.toNat).Cost))) ∧ ([] : List AV) = []) ∧ ([] : List AV) = []) ∧ True] hB ⟨⟨(by omega), (by omega), (by omega)⟩, ⟨(con_bool (anyN_none fun j hj => decide_eq_false (by rw [List.length_take] at hj; rw [at_tk (by omega)]; exact pw_get ok.2.2.2 (by omega) hi)) (cfHypV_ok (list.take t7.toNat) (at_ list t7.toNat))), ⟨(fun h => by cases h), rfl, (by first | rfl | (simp; done) | (simp; omega) | omega), fun i_ hi_ => .inl (cut_take (enc := cHyp) hi_)⟩, ⟨rfl, ⟨⟨(fun h => by cases h), rfl, ⟨rfl, ⟨rfl, rfl⟩⟩⟩, rfl⟩⟩, trivial⟩, trivial⟩ ?_
   refine aw_false rfl ?_
   refine aw_skip ?_
   refine ae_block 1 ?_
   refine ae_then ?_
   refine aw_r [] [0, 5, 6, 7] [] [slHyp false list, slHyp false list, I (list.length : Int), I (t7 + 1)] [] [inR .i64 (t7 + 1)] hB ⟨(inR_i64 (by omega) (by omega)), trivial⟩ ?_
   exact ae_again _ (by omega) ⟨(t7 + 1), rfl, (by omega), rfl⟩
  refine aw_r [(0, .dec false)] [0, 5, 6, 7, 8] [] [slHyp false list, slHyp false list, I (list.length : Int), I t7, Bv false] [] [¬ (t7 < (list.length : Int))] hB ⟨h1, trivial⟩ ?_
  refine ae_then ?_
  refine aw_seq ?_
  refine aw_false rfl ?_
  refine aw_exit ?_
  refine ae_exit_then ?_
  refine ae_exit_then ?_
  refine ae_exit_same ?_
  refine ae_then ?_
  refine aR [(2, .dec true)] [2] [] [Bv true] [] [(list.length : Int) ≤ 8] hB ⟨(by have := ok.1; omega), trivial⟩ ?_
  refine aw_ret ?_
  refine ae_ret hB (Bv true) (by kernel_rfl) (.inl rfl) rfl (fun _ => trivial)



-- impl.Hyp]
theorem growH_ok (n : Int) (hn : 0 ≤ n ∧ n ≤ 100) : ∃ (g : List Hyp), (g = []) ∧ CallOK Tryz.prog 38 [nilA, I n] (lookO []) true (.arr 8601) (lookO [(8601, tAHyp g)]) := by
  obtain ⟨m, rfl⟩ : ∃ m : Nat, n = m := ⟨n.toNat, by omega⟩
  refine ⟨[], rfl, grow_callOK 8601 m (fun w => Any8.slices_Grow_room Tryz.laysGwHyp none 0 0 0 w (by omega) (by omega) (by omega) (by omega)) (fun w hm => ?_) (fHyp [])⟩
  have hI : (Tryz.prog.info? (Tryz.laysGwHyp_ren.t 25)).map (fun i => (i.zero, i.size, i.bytes)) = some (some (.agg #[.string ⟨#[]⟩, .int .i64 0]), 2, 24) := by kernel_rfl
  cases e : Tryz.prog.info? (Tryz.laysGwHyp_ren.t 25) with
  | none => rw [e] at hI; cases hI
  | some i0 =>
    rw [e] at hI
    simp only [Option.map_some, Option.some.injEq, Prod.mk.injEq] at hI
    obtain ⟨hz, hs, hb⟩ := hI
    refine (Any8.slices_Grow_grow Tryz.laysGwHyp i0 _ e hz (by omega) none 0 0 m [] w (Nat.le_refl _) (by omega) (by rw [hb]; omega) (by omega) (by simp) (fun _ => rfl) (fun a h => by cases h)).mono ?_
    rintro e' w' ⟨rfl, rfl⟩
    have g1 := grownCap_ge w (0 + m) 0 (Tryz.laysGwHyp_ren.t 25)
    have g2 := grownCap_le_maxLen w (0 + m) 0 (Tryz.laysGwHyp_ren.t 25) (by unfold maxLen; omega)
    exact ⟨_, _, _, rfl, rfl, by omega, by simp [size_zeroCells, Value.cells]; omega, g2⟩



theorem cnc_len {xs : List (List Hyp)} {m : Nat} (h : ∀ x ∈ xs, x.length ≤ m) : ∀ k, k ≤ xs.length → ((xs.take k).flatten.length : Int) ≤ m * k
  | 0, _ => by simp
  | k + 1, hk => by
    have ih := cnc_len h k (by omega)
    have := h _ (List.getElem_mem (show k < xs.length by omega))
    rw [List.take_succ_eq_append_getElem (by omega), List.flatten_append, List.length_append]
    simp only [List.flatten_cons, List.flatten_nil, List.append_nil]
    rw [Int.natCast_add, show ((m : Int) * ((k + 1 : Nat) : Int)) = m * k + m from by rw [Int.natCast_add, Int.mul_add]; simp]
    omega
theorem cnc_step {xs : List (List Hyp)} {k : Nat} (hk : k < xs.length) : (xs.take (k + 1)).flatten = (xs.take k).flatten ++ at_ xs k := by
  rw [List.take_succ_eq_append_getElem hk, List.flatten_append, ← at_eq hk]; simp


-- impl.Hyp]
theorem concatH_ok (xs : List (List Hyp)) (hl : xs.length ≤ 4 ∧ ∀ x ∈ xs, x.length ≤ 8) : ∃ (v : List Hyp), (v = xs.flatten) ∧ Con Tryz.prog 20 [slLHyp false xs] true (slHyp true v) := by
  have hh : ∃ r : (List Hyp), ((r = xs.flatten) ∧ (True)) ∧ CallOK Tryz.prog 20 [slLHyp false xs] (lookO []) true (slHyp true r) (lookO []) := by
    refine fn_okX (Φ := fun r : (List Hyp) => (r = xs.flatten) ∧ (True)) [] (fun r => []) (fn := Tryz.f20) (nt := 36) Tryz.func20 rfl rfl (args := [slLHyp false xs]) rfl (allcons (.inl ⟨rfl, tagLHyp false _⟩) allnil) (res := fun r => slHyp true r) ?_
    refine xR [] [0] [] [slLHyp false xs] [] [] trivial ?_
    refine xR [] [0, 3] [] [slLHyp false xs, I 0] [] [] trivial ?_
    refine x_seq ?_
    refine xR [] [0, 3, 9, 10, 11] [] [slLHyp false xs, I 0, slLHyp false xs, I (xs.length : Int), I 0] [] [] trivial ?_
    refine x_block ?_
    refine x_loop (X := Int × Int) (fun x => mkS [(0, slLHyp false xs), (3, I x.1), (9, slLHyp false xs), (10, I (xs.length : Int)), (11, I x.2)] []) (fun x => (0 ≤ x.2 ∧ x.2 ≤ (xs.length : Int)) ∧ (0 ≤ x.1 ∧ x.1 ≤ 8 * x.2) ∧ True) (fun x => ((xs.length : Int) - x.2).toNat) (0, 0) rfl (show (0 ≤ (0 : Int) ∧ (0 : Int) ≤ (xs.length : Int)) ∧ (0 ≤ (0 : Int) ∧ (0 : Int) ≤ 8 * (0 : Int)) ∧ True from ⟨(by omega), (by omega), trivial⟩) (fun x hI => ?_)
    obtain ⟨size, t11⟩ := x
    obtain ⟨hi0, hsz, _⟩ : (0 ≤ t11 ∧ t11 ≤ (xs.length : Int)) ∧ (0 ≤ size ∧ size ≤ 8 * t11) ∧ True := hI
    show XW _ _ _ _ (mkS [(0, slLHyp false xs), (3, I size), (9, slLHyp false xs), (10, I (xs.length : Int)), (11, I t11)] []) _ _
    refine x_seq ?_
    by_cases h1 : t11 < (xs.length : Int)
    ·have hi : t11.toNat < xs.length := by omega
     have hxl := hl.2 _ (at_mem hi)
     have hii : (t11 + 1).toNat = t11.toNat + 1 := by omega
     have hcl := cnc_len hl.2 t11.toNat (by omega)
     refine x_r [(0, .dec true)] [0, 3, 9, 10, 11, 12] [] [slLHyp false xs, I size, slLHyp false xs, I (xs.length : Int), I t11, Bv true] [] [t11 < (xs.length : Int)] ⟨h1, trivial⟩ ?_
     refine xe_then ?_
     refine x_seq ?_
     refine x_true rfl ?_
     refine x_skip ?_
     refine xe_then ?_
     refine x_seq ?_
     refine x_block ?_
     refine xR [] [0, 3, 5, 9, 10, 11] [] [slLHyp false xs, I size, slHyp false (at_ xs t11.toNat), slLHyp false xs, I (xs.length : Int), I t11] [] [(0 : Int) ≤ t11 ∧ t11 < (xs.length : Int)] ⟨⟨(by omega), (by omega)⟩, trivial⟩ ?_
     refine xR [] [0, 3, 9, 10, 11] [] [slLHyp false xs, I (size + (((at_ xs t11.toNat).length) : Int)), slLHyp false xs, I (xs.length : Int), I t11] [] [inR .i64 (size + (((at_ xs t11.toNat).length) : Int))] ⟨(inR_i64 (by omega) (by omega)), trivial⟩ ?_
     refine xR [(1, .dec false)] [0, 3, 9, 10, 11, 20] [] [slLHyp false xs, I (size + (((at_ xs t11.toNat).length) : Int)), slLHyp false xs, I (xs.length : Int), I t11, Bv false] [] [¬ ((size + (((at_ xs t11.toNat).length) : Int)) < 0)] ⟨(by omega), trivial⟩ ?_
     refine x_false rfl ?_
     refine x_skip ?_
     refine xe_block 1 ?_
     refine xe_then ?_
     refine x_r [] [0, 3, 9, 10, 11] [] [slLHyp false xs, I (size + (((at_ xs t11.toNat).length) : Int)), slLHyp false xs, I (xs.length : Int), I (t11 + 1)] [] [inR .i64 (t11 + 1)] ⟨(inR_i64 (by omega) (by omega)), trivial⟩ ?_
     exact xe_again ((size + (((at_ xs t11.toNat).length) : Int)), (t11 + 1)) rfl (show (0 ≤ (t11 + 1) ∧ (t11 + 1) ≤ (xs.length : Int)) ∧ (0 ≤ (size + (((at_ xs t11.toNat).length) : Int)) ∧ (size + (((at_ xs t11.toNat).length) : Int)) ≤ 8 * (t11 + 1)) ∧ True from ⟨(by omega), (by omega), trivial⟩) (by first | (show (((xs.length : Int) - (t11 + 1)).toNat : Nat) < ((xs.length : Int) - t11).toNat; omega) | (dsimp only; omega))
    refine x_r [(0, .dec false)] [0, 3, 9, 10, 11, 12] [] [slLHyp false xs, I size, slLHyp false xs, I (xs.length : Int), I t11, Bv false] [] [¬ (t11 < (xs.length : Int))] ⟨h1, trivial⟩ ?_
    refine xe_then ?_
    refine x_seq ?_
    refine x_false rfl ?_
    refine x_exit ?_
    refine xe_exit_then ?_
    refine xe_loop_exit ?_
    refine xe_exit_same ?_
    refine xe_then ?_
    refine x_seq ?_
    obtain ⟨g_1, hx1_0, hc1⟩ := growH_ok size (by first | omega | (simp; omega))
    refine x_r [(1, .lend [] [(8601, tAHyp g_1)] [(true, .any), (true, .any)] true (.arr 8601))] [0, 6] [8601] [slLHyp false xs, .arr 8601] [some (tAHyp g_1)] [CallOK Tryz.prog 38 [nilA, I size] (lookO []) true (.arr 8601) (lookO [(8601, tAHyp g_1)]) ∧ True] ⟨⟨hc1, trivial⟩, trivial⟩ ?_
    refine xe_then ?_
    refine x_seq ?_
    refine xR [] [6, 25, 26, 27] [8601] [.arr 8601, slLHyp false xs, I (xs.length : Int), I 0] [some (tAHyp g_1)] [] trivial ?_
    refine x_block ?_
    refine x_loop (X := (List Hyp) × Int) (fun x => mkS [(6, .arr 8601), (25, slLHyp false xs), (26, I (xs.length : Int)), (27, I x.2)] [(8601, tAHyp x.1)]) (fun x => (0 ≤ x.2 ∧ x.2 ≤ (xs.length : Int)) ∧ (x.1 = (xs.take x.2.toNat).flatten) ∧ True) (fun x => ((xs.length : Int) - x.2).toNat) (g_1, 0) rfl (show (0 ≤ (0 : Int) ∧ (0 : Int) ≤ (xs.length : Int)) ∧ (g_1 = (xs.take (0 : Int).toNat).flatten) ∧ True from ⟨(by omega), (by simp [*]), trivial⟩) (fun x hI => ?_)
    obtain ⟨ns, t27⟩ := x
    obtain ⟨hi0, hns, _⟩ : (0 ≤ t27 ∧ t27 ≤ (xs.length : Int)) ∧ (ns = (xs.take t27.toNat).flatten) ∧ True := hI
    show XW _ _ _ _ (mkS [(6, .arr 8601), (25, slLHyp false xs), (26, I (xs.length : Int)), (27, I t27)] [(8601, tAHyp ns)]) _ _
    refine x_seq ?_
    by_cases h2 : t27 < (xs.length : Int)
    ·have hi : t27.toNat < xs.length := by omega
     have hxl := hl.2 _ (at_mem hi)
     have hii : (t27 + 1).toNat = t27.toNat + 1 := by omega
     have hcl := cnc_len hl.2 t27.toNat (by omega)
     have hnl : ns.length ≤ 32 := by rw [hns]; omega
     refine x_r [(0, .dec true)] [6, 25, 26, 27, 28] [8601] [.arr 8601, slLHyp false xs, I (xs.length : Int), I t27, Bv true] [some (tAHyp ns)] [t27 < (xs.length : Int)] ⟨h2, trivial⟩ ?_
     refine xe_then ?_
     refine x_seq ?_
     refine x_true rfl ?_
     refine x_skip ?_
     refine xe_then ?_
     refine x_seq ?_
     refine x_block ?_
     refine xR [] [6, 8, 25, 26, 27] [8601] [.arr 8601, slHyp false (at_ xs t27.toNat), slLHyp false xs, I (xs.length : Int), I t27] [some (tAHyp ns)] [(0 : Int) ≤ t27 ∧ t27 < (xs.length : Int)] ⟨⟨(by omega), (by omega)⟩, trivial⟩ ?_
     refine x_r [(2, .new 33)] [6, 25, 26, 27] [33] [.arr 33, slLHyp false xs, I (xs.length : Int), I t27] [some (.arr 2 (ns.length + ((at_ xs t27.toNat).length)) (catF ns.length (fHyp ns) (fHyp (at_ xs t27.toNat))))] [(ns.length + ((at_ xs t27.toNat).length)) * 24 ≤ 140737488355328] ⟨(by omega), trivial⟩ ?_
     refine xe_block 3 ?_
     refine xe_then ?_
     refine x_r [] [6, 25, 26, 27] [33] [.arr 33, slLHyp false xs, I (xs.length : Int), I (t27 + 1)] [some (.arr 2 (ns.length + ((at_ xs t27.toNat).length)) (catF ns.length (fHyp ns) (fHyp (at_ xs t27.toNat))))] [inR .i64 (t27 + 1)] ⟨(inR_i64 (by omega) (by omega)), trivial⟩ ?_
     refine xe_weak [(8601, 33)] (T := [(6, .arr 8601), (25, slLHyp false xs), (26, I (xs.length : Int)), (27, I (t27 + 1))]) (O := [(8601, tAHyp (ns ++ (at_ xs t27.toNat)))]) rfl (⟨.inl rfl, .inl rfl, .inl rfl, .inl rfl, trivial⟩) (⟨.inr ⟨rfl, (by first | rfl | (simp; done) | (simp; omega) | omega), fun i_ hi_ => .inl (cat_app (enc := cHyp) (xs := ns) i_ hi_)⟩, trivial⟩) (xe_again ((ns ++ (at_ xs t27.toNat)), (t27 + 1)) rfl (show (0 ≤ (t27 + 1) ∧ (t27 + 1) ≤ (xs.length : Int)) ∧ ((ns ++ (at_ xs t27.toNat)) = (xs.take (t27 + 1).toNat).flatten) ∧ True from ⟨(by omega), (by rw [hns, hii, cnc_step hi]), trivial⟩) (by first | (show (((xs.length : Int) - (t27 + 1)).toNat : Nat) < ((xs.length : Int) - t27).toNat; omega) | (dsimp only; omega)))
    have hfin : ns = xs.flatten := by rw [hns, List.take_of_length_le (by omega)]
    refine x_r [(0, .dec false)] [6, 25, 26, 27, 28] [8601] [.arr 8601, slLHyp false xs, I (xs.length : Int), I t27, Bv false] [some (tAHyp ns)] [¬ (t27 < (xs.length : Int))] ⟨h2, trivial⟩ ?_
    refine xe_then ?_
    refine x_seq ?_
    refine x_false rfl ?_
    refine x_exit ?_
    refine xe_exit_then ?_
    refine xe_loop_exit ?_
    refine xe_exit_same ?_
    refine xe_then ?_
    refine xR [] [2] [8601] [.arr 8601] [some (tAHyp ns)] [] trivial ?_
    refine x_ret ?_
    refine xe_end ns (show (ns = xs.flatten) ∧ (True) from ⟨(by exact hfin), trivial⟩) (trivial) (.arr 8601) (by kernel_rfl) (.inr ⟨(fun _ => rfl), rfl, rfl, fun i _ => .inl rfl⟩) (fun _ => rfl) (fun _ => (tagHyp true _))
  obtain ⟨v, ⟨hh0, _⟩, hc⟩ := hh
  exact ⟨v, hh0, hc⟩



-- impl.Hyp]
theorem cloneH0_ok (s : List Hyp) (hl : s.length ≤ 100000) : ∃ (out : List Hyp), (out = s) ∧ CallOK Tryz.prog 35 [slHyp false s] (lookO []) false (.arr 8471) (lookO [(8471, .arr 2 out.length (fHyp out))]) := by
  refine ⟨s, rfl, ?_⟩
  refine fn_okL [] [(8471, .arr 2 s.length (fHyp s))] (fn := Tryz.f35) (nt := 8) Tryz.func35 rfl rfl (args := [slHyp false s]) rfl (allcons (.inl ⟨rfl, tagHyp false _⟩) allnil) (res := .arr 8471) (fun B hB => ?_)
  refine aw_seq ?_
  refine aw_reg [] [0] [] [slHyp false s] [] [] (by kernel_rfl) hB trivial ?_
  refine ae_then ?_
  refine aw_seq ?_
  refine aw_seq ?_
  refine aw_reg [] [0, 4] [] [slHyp false s, .nilq s.length] [] [] (by kernel_rfl) hB trivial ?_
  refine ae_then ?_
  refine aw_nilq (n := s.length) rfl (fun h1 => ?_) ?_
  · refine aw_seq ?_
    refine aw_reg [] [2] [] [nilA] [] [] (by kernel_rfl) hB trivial ?_
    refine ae_then ?_
    refine aw_ret ?_
    refine ae_ret_then ?_
    refine ae_nil hB 2 8471 2 (fun _ => []) (by kernel_rfl) ?_
    refine ae_weak hB [] (T := [(2, .arr 8471)]) (O := [(8471, .arr 2 s.length (fHyp s))]) rfl (⟨.inl rfl, trivial⟩) (⟨.inr ⟨rfl, (by omega), fun i_ hi_ => absurd hi_ (by omega)⟩, trivial⟩) ?_
    refine ae_retL hB [(8471, .arr 2 s.length (fHyp s))] (⟨.inl rfl, trivial⟩) (.arr 8471) (by kernel_rfl) (.inl rfl) (fun h => by cases h) (fun h => by cases h)
  · refine aw_skip ?_
    refine ae_then ?_
    refine aw_seq ?_
    refine aw_reg [(0, .new 5), (2, .new 7)] [2] [7] [.arr 7] [some (.arr 2 (0 + s.length) (catF 0 (litF [] 2) (fHyp s)))] [(0 + s.length) * 24 ≤ 140737488355328] (by kernel_rfl) hB ⟨(by omega), trivial⟩ ?_
    refine ae_then ?_
    refine aw_ret ?_
    refine ae_weak hB [(8471, 7)] (T := [(2, .arr 8471)]) (O := [(8471, .arr 2 s.length (fHyp s))]) rfl (⟨.inl rfl, trivial⟩) (⟨.inr ⟨rfl, (by simp), fun i_ hi_ => .inl (cat_nil i_)⟩, trivial⟩) ?_
    refine ae_retL hB [(8471, .arr 2 s.length (fHyp s))] (⟨.inl rfl, trivial⟩) (.arr 8471) (by kernel_rfl) (.inl rfl) (fun h => by cases h) (fun h => by cases h)


-- bits.Len

-- impl.hypsOf$1
theorem hypsOf1_ok (g : Hyp) (h : Hyp) : Con Tryz.prog 37 [agHyp g, .ptr false [Sv h.Label, I h.Cost]] true (Bv (decide (g.Label = h.Label))) := by
  refine fn_ok (fn := Tryz.f37) (nt := 9) Tryz.func37 rfl rfl rfl rfl (by simp [taggedL, tagged]) fun B hB => ?_
  refine aR [(0, .new 2)] [1, 2] [2] [.ptr false [Sv h.Label, I h.Cost], .ref 2 0] [some (bxHyp g)] [] hB trivial ?_
  refine aR [] [3] [] [Bv (decide (g.Label = h.Label))] [] [] hB trivial ?_
  refine aw_ret ?_
  refine ae_ret hB (Bv (decide (g.Label = h.Label))) (by kernel_rfl) (.inl rfl) rfl (fun _ => trivial)



theorem swo_of {α : Type} {c : α → α → Int} (h : CmpW c) : Go.Sort.SWO (ltOf c) := ⟨fun x => decide_eq_false (by have := h.refl x; omega), fun x y z h1 h2 => decide_eq_true (h.trans x y z (Int.le_of_lt (of_decide_eq_true (p := c x y < 0) h1)) (of_decide_eq_true (p := c y z < 0) h2)), fun x y z h1 h2 => decide_eq_false fun h3 => by
  have q1 := of_decide_eq_false h1
  have q2 := of_decide_eq_false h2
  have a1 := h.anti y x
  have a2 := h.anti z y
  have a3 := h.anti x z
  have b1 := h.anti x y
  have b2 := h.anti y z
  have := h.le (x := z) (y := y) (z := x) (by omega) (by omega)
  omega⟩
theorem srt_iso {α : Type} [Inhabited α] {c : α → α → Int} (h : CmpW c) (ht : ∀ x y, c x y = 0 → x = y) (xs : List α) : srtF c xs = isoL c xs xs.length := by
  have p1 := srt_perm (swo_of h) xs
  have p2 := isoL_perm c xs xs.length (Nat.le_refl _)
  rw [List.take_of_length_le (Nat.le_refl _)] at p2
  have o1 := srt_pw (swo_of h) xs
  have o2 : (isoL c xs xs.length).Pairwise fun x y => ¬ c y x < 0 := (isoL_ord (c := c) h (B := fun _ _ => True) (xs := xs) (List.pairwise_of_forall fun _ _ => trivial) xs.length (Nat.le_refl _)).imp fun {x y} q => by
    have a1 := h.anti x y
    have a2 := h.anti y x
    rcases q with q | q
    · omega
    · have := q.1; omega
  refine List.Perm.eq_of_pairwise (le := fun x y => ¬ c y x < 0) (fun a b _ _ q1 q2 => ht a b ?_) o1 o2 (p1.trans p2.symm)
  have a1 := h.anti a b
  have a2 := h.anti b a
  omega


-- impl.hypsOf
theorem tl_inj {a b : ByteArray} (q : a.toList = b.toList) : a = b := by
  rw [Lib.toList_data, Lib.toList_data] at q
  cases a; cases b
  simp only [ByteArray.mk.injEq]
  exact Array.toList_inj.1 q
theorem sfNI (x : Int) (w : World) : Calls Tryz.prog 69 #[.int .i64 x] w fun e w' => e = .returned (.bool false) ∧ w' = w := by
  go_enter Tryz.func69, Tryz.ntmps69
  go_wp2
  go_ret
  exact ⟨by simp, rfl⟩
theorem sfCI (x y : Int) (w : World) : Calls Tryz.prog 54 #[.int .i64 x, .int .i64 y] w fun e w' => e = .returned (.int .i64 (cmpI x y)) ∧ w' = w := by
  go_enter Tryz.func54, Tryz.ntmps54
  go_wp2_with (go_at_call 69; refine (sfNI _ _).mono ?_; rintro e w' ⟨rfl, hw⟩; rw [hw])
  all_goals (go_ret; refine ⟨?_, rfl⟩; congr 2; unfold cmpI; (repeat' split) <;> first | rfl | (exfalso; omega))

theorem sfNS (x : ByteArray) (w : World) : Calls Tryz.prog 70 #[.string x] w fun e w' => e = .returned (.bool false) ∧ w' = w := by
  go_enter Tryz.func70, Tryz.ntmps70
  go_wp2
  go_ret
  exact ⟨by simp, rfl⟩
theorem sfCS (x y : ByteArray) (w : World) : Calls Tryz.prog 55 #[.string x, .string y] w fun e w' => e = .returned (.int .i64 (cmpS x y)) ∧ w' = w := by
  go_enter Tryz.func55, Tryz.ntmps55
  go_wp2_with (go_at_call 70; refine (sfNS _ _).mono ?_; rintro e w' ⟨rfl, hw⟩; rw [hw])
  all_goals (go_ret; refine ⟨?_, rfl⟩; congr 2; unfold cmpS sless; (repeat' split) <;> first | rfl | (exfalso; simp_all; done) | (exfalso; rename_i h1 h2 h3; exact h3.2 (tl_inj (by simpa using h1))))

theorem sfOr (b n c : Nat) (xs : List Int) (w : World) (hn : n = xs.length) (hc : n ≤ 9223372036854775807) (h : ∀ j, j < xs.length → w.cell? ⟨b, j, none⟩ = some (.int .i64 (at_ xs j))) : Calls Tryz.prog 53 #[.slice (some ⟨b, 0, none⟩) n c] w fun e w' => e = .returned (.int .i64 (orL xs)) ∧ w' = w := by
  go_enter Tryz.func53, Tryz.ntmps53
  go_wp2
  go_loop [8] (fun i => ∃ k : Nat, k ≤ n ∧ i = .int .i64 k ∧ ∀ j, j < k → at_ xs j = 0) (fun i => n - (intOf i).toNat)
  case atStart => exact ⟨0, Nat.zero_le _, rfl, fun j hj => absurd hj (Nat.not_lt_zero _)⟩
  case round =>
    obtain ⟨k, hk, rfl, hz⟩ := hrel
    by_cases hlt : k < n
    · have ck := h k (by omega)
      have S : Hid (at_ xs k = 0 → ∀ j, j < k + 1 → at_ xs j = 0) := fun q j hj => by
        by_cases e : j = k
        · rw [e]; exact q
        · exact hz j (by omega)
      have T : Hid (at_ xs k ≠ 0 → orL xs = at_ xs k) := fun q => orL_at (by omega) hz q
      generalize at_ xs k = v at ck S T
      clear h hz
      by_cases hv : v = 0
      · have S2 : Hid (∀ j, j < k + 1 → at_ xs j = 0) := S.out hv
        clear S T
        subst hv
        go_wp2
        exact ⟨⟨k + 1, by omega, rfl, S2.out⟩, by simp [intOf]; omega⟩
      · have T2 : Hid (orL xs = v) := T.out hv
        clear S T
        go_wp2
        go_ret
        exact ⟨by rw [T2.out]; rfl, rfl⟩
    · have : k = n := by omega
      subst this
      have T : Hid (orL xs = 0) := orL_none (fun j hj => hz j (by omega))
      clear h hz
      go_wp2
      all_goals (go_ret; exact ⟨by rw [T.out]; rfl, rfl⟩)

def sfeHyp (x : Hyp) : List Value := [.string x.Label, .int .i64 x.Cost]
theorem shHcmp (x y : Hyp) (w : World) : Calls Tryz.prog 32 (#[.agg (sfeHyp x).toArray, .agg (sfeHyp y).toArray] ++ #[]) w fun e w' => e = .returned (.int .i64 (cmpH x y)) ∧ ∃ q os', w' = Go.Sort.grow (w.drewN q) os' := by
  show Calls Tryz.prog 32 #[.agg #[.string x.Label, .int .i64 x.Cost], .agg #[.string y.Label, .int .i64 y.Cost]] w _
  go_enter Tryz.func32, Tryz.ntmps32
  go_wp2
  refine wp_region_split_lit 10 (by kernel_rfl) (by kernel_rfl) (by kernel_rfl) ?_
  repeat (quiet_step (first | (go_at_call 54; exact Calls.quiet_of_same (sfCI _ _ _)) | (go_at_call 55; exact Calls.quiet_of_same (sfCS _ _ _))))
  refine wpQuiet_nil ?_
  intro _ hw'
  obtain ⟨nq, hw''⟩ := hw'
  subst hw''
  simp only [List.drop_succ_cons, List.drop_zero]
  go_wp2_with fail
  refine (sfOr _ _ _ [cmpI x.Cost y.Cost, cmpS x.Label y.Label] _ rfl (by simp) (fun j hj => ?_)).mono ?_
  · have hj2 : j = 0 ∨ j = 1 := by
      simp at hj; omega
    have e : ∀ (a b c : Obj), (((w.heap.push a).push b).push c)[w.heap.size + 1 + 1]? = some c := fun a b c => by rw [Array.getElem?_push, if_pos (by simp)]
    unfold World.cell?
    rcases hj2 with rfl | rfl <;> (erw [e]; rfl)
  rintro e w' ⟨rfl, rfl⟩
  go_wp2
  go_ret
  refine ⟨rfl, nq, #[.cells #[Value.string x.Label, Value.int IntKind.i64 x.Cost] 32 (0, 0), .cells #[Value.string y.Label, Value.int IntKind.i64 y.Cost] 32 (0, 0), .cells #[Value.int IntKind.i64 (cmpI x.Cost y.Cost), Value.int IntKind.i64 (cmpS x.Label y.Label)] 3 (0, 0)], ?_⟩
  have e : ∀ (a b c : Obj), ((w.heap.push a).push b).push c = w.heap ++ #[a, b, c] := fun a b c => Array.toList_inj.1 (by simp)
  unfold Go.Sort.grow
  show World.mk (((w.heap.push _).push _).push _) w.tape (w.drawn + nq) w.os w.output = World.mk (w.heap ++ #[_, _, _]) w.tape (w.drawn + nq) w.os w.output
  rw [e]

theorem shHsort_ok (data : List Hyp) (hl : data.length ≤ 4000000) : ∃ (data' : List Hyp), (data' = isoL cmpH data data.length) ∧ CallOK Tryz.prog 36 [.arr 8471, .fn 32 []] (lookO [(8471, tAHyp data)]) true (.tup []) (lookO [(8471, tAHyp data')]) := by
  refine ⟨srtF cmpH data, srt_iso cmpH_w cmpH_tot data, ?_⟩
  exact sortf_callOK (enc := sfeHyp) (kc := 2) (by decide) (fun _ => rfl) (fun x v hv => by simp only [sfeHyp, List.mem_cons, List.not_mem_nil, or_false] at hv; rcases hv with rfl | rfl <;> rfl) (cf := cmpH) (swo_of cmpH_w)
    (fun blk off cap d w h1 h2 h3 => AnyQ.slices_SortFunc_eq Tryz.laysSfHyp 2 (fun w => run_isAgg (by kernel_rfl) w) (fun w => run_sizeOf (by kernel_rfl) w) sfeHyp (fun _ => rfl) (fun x v hv => by simp only [sfeHyp, List.mem_cons, List.not_mem_nil, or_false] at hv; rcases hv with rfl | rfl <;> rfl) cmpH (swo_of cmpH_w) 32 #[] blk off cap d w (enters_of Tryz.func32 (by kernel_rfl) rfl) (fun m os dk hdk x y => shHcmp x y _) h1 h2 h3)
    (fun p cap fv w => AnyF.slices_SortFunc_none Tryz.laysSfHyp p cap fv w) 8471 data (by omega)

theorem cfHyp_ok_idx (s : List Hyp) (h : Hyp) : Con Tryz.prog 56 [slHyp false s, .fn 37 [.ptr false [Sv h.Label, I h.Cost]]] true (I (firstN s.length (fun j => decide ((at_ s j).Label = h.Label)))) := by
  refine fn_ok (fn := Tryz.f56) (nt := 19) Tryz.func56 rfl rfl rfl rfl (by simp [taggedL, tagged, tagHyp]) fun B hB => ?_
  refine aw_lens (x := slHyp false s) 0 rfl (fun len_s => ?_)
  simp [LenOK, LenL, cHyp, fHyp, slHyp] at len_s
  refine aR [] [0, 1] [] [slHyp false s, .fn 37 [.ptr false [Sv h.Label, I h.Cost]]] [] [] hB trivial ?_
  refine aw_seq ?_
  refine aR [] [0, 1, 7, 8] [] [slHyp false s, .fn 37 [.ptr false [Sv h.Label, I h.Cost]], I (s.length : Int), I 0] [] [] hB trivial ?_
  refine aw_block ?_
  refine aw_loop (fun gn gσ => ∃ (t8 : Int), gn = ((s.length : Int) - t8).toNat ∧ (0 ≤ t8 ∧ t8 ≤ (s.length : Int)) ∧ (∀ j : Nat, (j : Int) < t8 → decide ((at_ s j).Label = h.Label) = false) ∧ gσ = mkS [(0, slHyp false s), (1, .fn 37 [.ptr false [Sv h.Label, I h.Cost]]), (7, I (s.length : Int)), (8, I t8)] []) (((s.length : Int) - 0).toNat) ⟨0, rfl, (by omega), (by intro j hj; omega), rfl⟩ (fun gn gσ hI => ?_)
  obtain ⟨t8, rfl, hi0, hall0, rfl⟩ := hI
  refine aw_seq ?_
  by_cases h1 : t8 < (s.length : Int)
  ·have hi : t8.toNat < s.length := by omega
   refine aw_r [(0, .dec true)] [0, 1, 7, 8, 9] [] [slHyp false s, .fn 37 [.ptr false [Sv h.Label, I h.Cost]], I (s.length : Int), I t8, Bv true] [] [t8 < (s.length : Int)] hB ⟨h1, trivial⟩ ?_
   refine ae_then ?_
   refine aw_seq ?_
   refine aw_true rfl ?_
   refine aw_skip ?_
   refine ae_then ?_
   refine aw_seq ?_
   refine aw_block ?_
   refine aR [] [0, 1, 5, 7, 8] [] [slHyp false s, .fn 37 [.ptr false [Sv h.Label, I h.Cost]], I t8, I (s.length : Int), I t8] [] [] hB trivial ?_
   refine aw_seq ?_
   rcases Bool.eq_false_or_eq_true (decide ((at_ s t8.toNat).Label = h.Label)) with h2 | h2
   ·have hfin : firstN s.length (fun j => decide ((at_ s j).Label = h.Label)) = t8.toNat := firstN_hit hi h2 (fun j hj => hall0 j (by omega))
    refine aw_r [(5, .call [(true, .any), (true, .any)] true (Bv true))] [0, 1, 5, 7, 8, 16] [] [slHyp false s, .fn 37 [.ptr false [Sv h.Label, I h.Cost]], I t8, I (s.length : Int), I t8, Bv true] [] [(0 : Int) ≤ t8 ∧ t8 < (s.length : Int), Con Tryz.prog 37 [agHyp (at_ s t8.toNat), .ptr false [Sv h.Label, I h.Cost]] true (Bv true) ∧ True] hB ⟨⟨(by omega), (by omega)⟩, ⟨(con_bool h2 (hypsOf1_ok (at_ s t8.toNat) h)), trivial⟩, trivial⟩ ?_
    refine ae_then ?_
    refine aw_true rfl ?_
    refine aR [] [4] [] [I t8] [] [] hB trivial ?_
    refine aw_ret ?_
    refine ae_ret_block (ae_ret_then (ae_ret_then (ae_ret_block (ae_ret_then ?_))))
    refine ae_ret hB (I t8) (by kernel_rfl) (.inl (by refine congrArg I ?_; first | (rw [hfin]; done) | (rw [hfin]; omega))) rfl (fun _ => trivial)
   refine aw_r [(5, .call [(true, .any), (true, .any)] true (Bv false))] [0, 1, 5, 7, 8, 16] [] [slHyp false s, .fn 37 [.ptr false [Sv h.Label, I h.Cost]], I t8, I (s.length : Int), I t8, Bv false] [] [(0 : Int) ≤ t8 ∧ t8 < (s.length : Int), Con Tryz.prog 37 [agHyp (at_ s t8.toNat), .ptr false [Sv h.Label, I h.Cost]] true (Bv false) ∧ True] hB ⟨⟨(by omega), (by omega)⟩, ⟨(con_bool h2 (hypsOf1_ok (at_ s t8.toNat) h)), trivial⟩, trivial⟩ ?_
   refine ae_then ?_
   refine aw_false rfl ?_
   refine aw_skip ?_
   refine ae_block 1 ?_
   refine ae_then ?_
   refine aw_r [] [0, 1, 7, 8] [] [slHyp false s, .fn 37 [.ptr false [Sv h.Label, I h.Cost]], I (s.length : Int), I (t8 + 1)] [] [inR .i64 (t8 + 1)] hB ⟨(inR_i64 (by omega) (by omega)), trivial⟩ ?_
   exact ae_again _ (by omega) ⟨(t8 + 1), rfl, (by omega), (by intro j hj; by_cases ej : j = t8.toNat; (subst ej; first | assumption | rfl); exact hall0 j (by omega)), rfl⟩
  have hfin : firstN s.length (fun j => decide ((at_ s j).Label = h.Label)) = -1 := firstN_none (fun j hj => hall0 j (by omega))
  refine aw_r [(0, .dec false)] [0, 1, 7, 8, 9] [] [slHyp false s, .fn 37 [.ptr false [Sv h.Label, I h.Cost]], I (s.length : Int), I t8, Bv false] [] [¬ (t8 < (s.length : Int))] hB ⟨h1, trivial⟩ ?_
  refine ae_then ?_
  refine aw_seq ?_
  refine aw_false rfl ?_
  refine aw_exit ?_
  refine ae_exit_then ?_
  refine ae_exit_then ?_
  refine ae_exit_same ?_
  refine ae_then ?_
  refine aR [] [4] [] [I (-1)] [] [] hB trivial ?_
  refine aw_ret ?_
  refine ae_ret hB (I (-1)) (by kernel_rfl) (.inl (by refine congrArg I ?_; first | (rw [hfin]; done) | (rw [hfin]; omega))) rfl (fun _ => trivial)

theorem cfHyp_ok (s : List Hyp) (h : Hyp) : Con Tryz.prog 33 [slHyp false s, .fn 37 [.ptr false [Sv h.Label, I h.Cost]]] true (Bv (anyN s.length (fun j => decide ((at_ s j).Label = h.Label)))) := by
  refine fn_ok (fn := Tryz.f33) (nt := 9) Tryz.func33 rfl rfl rfl rfl (by simp [taggedL, tagged, tagHyp]) fun B hB => ?_
  refine aw_lens (x := slHyp false s) 0 rfl (fun len_s => ?_)
  simp [LenOK, LenL, cHyp, fHyp, slHyp] at len_s
  refine aR [] [0, 1] [] [slHyp false s, .fn 37 [.ptr false [Sv h.Label, I h.Cost]]] [] [] hB trivial ?_
  refine aR [(2, .call [(true, .any), (true, .any)] true (I (firstN s.length (fun j => decide ((at_ s j).Label = h.Label)))))] [4] [] [Bv (decide (0 ≤ (firstN s.length (fun j => decide ((at_ s j).Label = h.Label)))))] [] [Con Tryz.prog 56 [slHyp false s, .fn 37 [.ptr false [Sv h.Label, I h.Cost]]] true (I (firstN s.length (fun j => decide ((at_ s j).Label = h.Label)))) ∧ True] hB ⟨⟨(cfHyp_ok_idx s h), trivial⟩, trivial⟩ ?_
  refine aw_ret ?_
  refine ae_ret hB (Bv (decide (0 ≤ (firstN s.length (fun j => decide ((at_ s j).Label = h.Label)))))) (by kernel_rfl) (.inl (by exact congrArg Bv (firstN_any _ _))) rfl (fun _ => trivial)

theorem hypsOf_ok (list : List Hyp) (most : Int) (hl : list.length ≤ 100) : ∃ (v : List Hyp), (v = hypL most list) ∧ Con Tryz.prog 19 [slHyp false list, I most] true (slHyp true v) := by
  have hh : ∃ r : (List Hyp), ((r = hypL most list) ∧ (True)) ∧ CallOK Tryz.prog 19 [slHyp false list, I most] (lookO []) true (slHyp true r) (lookO []) := by
    refine fn_okX (Φ := fun r : (List Hyp) => (r = hypL most list) ∧ (True)) [] (fun r => []) (fn := Tryz.f19) (nt := 35) Tryz.func19 rfl rfl (args := [slHyp false list, I most]) rfl (allcons (.inl ⟨rfl, tagHyp false _⟩) (allcons (.inl ⟨rfl, trivial⟩) allnil)) (res := fun r => slHyp true r) ?_
    refine xR [] [0, 1] [] [slHyp false list, I most] [] [] trivial ?_
    refine x_seq ?_
    obtain ⟨out_1, hx1_0, hc1⟩ := cloneH0_ok list (by omega)
    refine x_r [(1, .lend [] [(8471, tAHyp out_1)] [(true, .any)] false (.arr 8471))] [1, 5] [8471] [I most, .arr 8471] [some (tAHyp out_1)] [CallOK Tryz.prog 35 [slHyp false list] (lookO []) false (.arr 8471) (lookO [(8471, tAHyp out_1)]) ∧ True] ⟨⟨hc1, trivial⟩, trivial⟩ ?_
    refine xe_then ?_
    refine x_seq ?_
    obtain ⟨data'_2, hx2_0, hc2⟩ := shHsort_ok out_1 (by first | omega | (simp only [*]; omega) | (rw [hx1_0]; omega))
    have hsl : data'_2.length = list.length := by rw [hx2_0, isoL_len]; simp [*]
    have hsd : data'_2 = isoL cmpH list list.length := by rw [hx2_0]; simp only [*]
    refine x_r [(1, .lend [(8471, tAHyp out_1, tAHyp data'_2)] [] [(true, .any), (true, .any)] true (.tup []))] [1, 5] [8471] [I most, .arr 8471] [some (tAHyp data'_2)] [CallOK Tryz.prog 36 [.arr 8471, .fn 32 []] (lookO [(8471, tAHyp out_1)]) true (.tup []) (lookO [(8471, tAHyp data'_2)]) ∧ (((tAHyp out_1 : Ob) = tAHyp out_1 ∨ obLe noOb true (tAHyp out_1) (tAHyp out_1)) ∧ taggedO false (tAHyp out_1)) ∧ True] ⟨⟨hc2, ⟨.inl rfl, fun _ _ => tagcHyp false _⟩, trivial⟩, trivial⟩ ?_
    refine xe_then ?_
    refine xR [] [1, 5, 6] [8471] [I most, .arr 8471, nilA] [some (tAHyp data'_2)] [] trivial ?_
    refine x_seq ?_
    refine xR [] [1, 6, 13, 14, 15] [8471] [I most, nilA, .arr 8471, I (data'_2.length : Int), I 0] [some (tAHyp data'_2)] [] trivial ?_
    refine x_block ?_
    refine x_nil 6 706 2 (fun _ => []) (by kernel_rfl) ?_
    refine x_weak [] (T := [(1, I most), (6, .arr 706), (13, .arr 8471), (14, I (data'_2.length : Int)), (15, I 0)]) (O := [(706, tAHyp ([] : List Hyp)), (8471, tAHyp data'_2)]) rfl (⟨.inl rfl, .inl rfl, .inl rfl, .inl rfl, .inl rfl, trivial⟩) (⟨.inr ⟨rfl, (by first | rfl | (simp; done) | (simp; omega) | omega), fun i_ hi_ => absurd hi_ (Nat.not_lt_zero _)⟩, .inl rfl, trivial⟩) ?_
    refine x_loop (X := (List Hyp) × Int) (fun x => mkS [(1, I most), (6, .arr 706), (13, .arr 8471), (14, I (data'_2.length : Int)), (15, I x.2)] [(706, tAHyp x.1), (8471, tAHyp data'_2)]) (fun x => (0 ≤ x.2 ∧ x.2 ≤ (list.length : Int)) ∧ (x.1 = pickH most data'_2 x.2.toNat) ∧ True) (fun x => ((list.length : Int) - x.2).toNat) (([] : List Hyp), 0) rfl (show (0 ≤ (0 : Int) ∧ (0 : Int) ≤ (list.length : Int)) ∧ (([] : List Hyp) = pickH most data'_2 (0 : Int).toNat) ∧ True from ⟨(by omega), (by rfl), trivial⟩) (fun x hI => ?_)
    obtain ⟨out, t15⟩ := x
    obtain ⟨hi0, hou, _⟩ : (0 ≤ t15 ∧ t15 ≤ (list.length : Int)) ∧ (out = pickH most data'_2 t15.toNat) ∧ True := hI
    show XW _ _ _ _ (mkS [(1, I most), (6, .arr 706), (13, .arr 8471), (14, I (data'_2.length : Int)), (15, I t15)] [(706, tAHyp out), (8471, tAHyp data'_2)]) _ _
    refine x_seq ?_
    by_cases h1 : t15 < (data'_2.length : Int)
    ·have hi : t15.toNat < data'_2.length := by omega
     have hol : out.length ≤ t15.toNat := by rw [hou]; exact pickH_len most data'_2 _
     refine x_r [(0, .dec true)] [1, 6, 13, 14, 15, 16] [706, 8471] [I most, .arr 706, .arr 8471, I (data'_2.length : Int), I t15, Bv true] [some (tAHyp out), some (tAHyp data'_2)] [t15 < (data'_2.length : Int)] ⟨h1, trivial⟩ ?_
     refine xe_then ?_
     refine x_seq ?_
     refine x_true rfl ?_
     refine x_skip ?_
     refine xe_then ?_
     refine x_seq ?_
     refine x_block ?_
     refine xR [(2, .new 8)] [1, 6, 8, 13, 14, 15] [8, 706, 8471] [I most, .arr 706, .ref 8 0, .arr 8471, I (data'_2.length : Int), I t15] [some (bxHyp (at_ data'_2 t15.toNat)), some (tAHyp out), some (tAHyp data'_2)] [(0 : Int) ≤ t15 ∧ t15 < (data'_2.length : Int), t15.toNat < data'_2.length] ⟨⟨(by omega), (by omega)⟩, (by omega), trivial⟩ ?_
     refine x_seq ?_
     by_cases h2 : (out.length : Int) < most
     ·have hms := h2
      rcases Bool.eq_false_or_eq_true (anyN out.length (fun j => decide ((at_ out j).Label = (at_ data'_2 t15.toNat).Label))) with h3 | h3
      ·have hst := pick_n (most := most) (xs := data'_2) (k := t15) (by omega) (fun q => by have q2 := q.2; rw [← hou] at q2; unfold hasHL at q2; rw [h3] at q2; cases q2)
       refine x_r [(3, .dec true), (7, .call [(false, slHyp false out), (false, .fn 37 [.ptr false [Sv ((at_ data'_2 t15.toNat).Label), I ((at_ data'_2 t15.toNat).Cost)]])] true (Bv true))] [1, 6, 8, 13, 14, 15, 28] [8, 706, 8471] [I most, .arr 706, .ref 8 0, .arr 8471, I (data'_2.length : Int), I t15, Bv false] [some (bxHyp (at_ data'_2 t15.toNat)), some (tAHyp out), some (tAHyp data'_2)] [(out.length : Int) < most, Con Tryz.prog 33 [slHyp false out, .fn 37 [.ptr false [Sv ((at_ data'_2 t15.toNat).Label), I ((at_ data'_2 t15.toNat).Cost)]]] true (Bv true) ∧ ((false = true → true = true) ∧ 2 = 2 ∧ out.length = out.length ∧ ∀ i_, i_ < out.length → (fHyp out) i_ = (fHyp out) i_ ∨ (AV.idsL ((fHyp out) i_) = [] ∧ leL (fun _ => none) false ((fHyp out) i_) ((fHyp out) i_))) ∧ (37 = 37 ∧ ((false = true → true = true) ∧ AV.idsL [Sv ((at_ data'_2 t15.toNat).Label), I ((at_ data'_2 t15.toNat).Cost)] = [] ∧ (valOf (Sv ((at_ data'_2 t15.toNat).Label)) = valOf (Sv ((at_ data'_2 t15.toNat).Label))) ∧ (valOf (I ((at_ data'_2 t15.toNat).Cost)) = valOf (I ((at_ data'_2 t15.toNat).Cost))) ∧ ([] : List AV) = []) ∧ ([] : List AV) = []) ∧ True] ⟨h2, ⟨(con_bool h3 (cfHyp_ok out (at_ data'_2 t15.toNat))), ⟨(fun h => by cases h), rfl, rfl, fun i _ => .inl rfl⟩, ⟨rfl, ⟨⟨(fun h => by cases h), rfl, ⟨rfl, ⟨rfl, rfl⟩⟩⟩, rfl⟩⟩, trivial⟩, trivial⟩ ?_
       refine xe_then ?_
       refine x_false rfl ?_
       refine x_skip ?_
       refine xe_block 1 ?_
       refine xe_then ?_
       refine x_r [] [1, 6, 13, 14, 15] [706, 8471] [I most, .arr 706, .arr 8471, I (data'_2.length : Int), I (t15 + 1)] [some (tAHyp out), some (tAHyp data'_2)] [inR .i64 (t15 + 1)] ⟨(inR_i64 (by omega) (by omega)), trivial⟩ ?_
       exact xe_again (out, (t15 + 1)) rfl (show (0 ≤ (t15 + 1) ∧ (t15 + 1) ≤ (list.length : Int)) ∧ (out = pickH most data'_2 (t15 + 1).toNat) ∧ True from ⟨(by omega), (by (rw [hst, ← hou])), trivial⟩) (by first | (show (((list.length : Int) - (t15 + 1)).toNat : Nat) < ((list.length : Int) - t15).toNat; omega) | (dsimp only; omega))
      have hst := pick_y (most := most) (xs := data'_2) (k := t15) (by omega) (by rw [← hou]; exact hms) (by rw [← hou]; exact h3)
      refine x_r [(3, .dec true), (7, .call [(false, slHyp false out), (false, .fn 37 [.ptr false [Sv ((at_ data'_2 t15.toNat).Label), I ((at_ data'_2 t15.toNat).Cost)]])] true (Bv false))] [1, 6, 8, 13, 14, 15, 28] [8, 706, 8471] [I most, .arr 706, .ref 8 0, .arr 8471, I (data'_2.length : Int), I t15, Bv true] [some (bxHyp (at_ data'_2 t15.toNat)), some (tAHyp out), some (tAHyp data'_2)] [(out.length : Int) < most, Con Tryz.prog 33 [slHyp false out, .fn 37 [.ptr false [Sv ((at_ data'_2 t15.toNat).Label), I ((at_ data'_2 t15.toNat).Cost)]]] true (Bv false) ∧ ((false = true → true = true) ∧ 2 = 2 ∧ out.length = out.length ∧ ∀ i_, i_ < out.length → (fHyp out) i_ = (fHyp out) i_ ∨ (AV.idsL ((fHyp out) i_) = [] ∧ leL (fun _ => none) false ((fHyp out) i_) ((fHyp out) i_))) ∧ (37 = 37 ∧ ((false = true → true = true) ∧ AV.idsL [Sv ((at_ data'_2 t15.toNat).Label), I ((at_ data'_2 t15.toNat).Cost)] = [] ∧ (valOf (Sv ((at_ data'_2 t15.toNat).Label)) = valOf (Sv ((at_ data'_2 t15.toNat).Label))) ∧ (valOf (I ((at_ data'_2 t15.toNat).Cost)) = valOf (I ((at_ data'_2 t15.toNat).Cost))) ∧ ([] : List AV) = []) ∧ ([] : List AV) = []) ∧ True] ⟨h2, ⟨(con_bool h3 (cfHyp_ok out (at_ data'_2 t15.toNat))), ⟨(fun h => by cases h), rfl, rfl, fun i _ => .inl rfl⟩, ⟨rfl, ⟨⟨(fun h => by cases h), rfl, ⟨rfl, ⟨rfl, rfl⟩⟩⟩, rfl⟩⟩, trivial⟩, trivial⟩ ?_
      refine xe_then ?_
      refine x_true rfl ?_
      refine x_r [(2, .new 31), (3, .new 32)] [1, 6, 13, 14, 15] [32, 8471] [I most, .arr 32, .arr 8471, I (data'_2.length : Int), I t15] [some (.arr 2 (out.length + 1) (catF out.length (fHyp out) (litF [Sv ((at_ data'_2 t15.toNat).Label), I ((at_ data'_2 t15.toNat).Cost)] 2))), some (tAHyp data'_2)] [(out.length + 1) * 24 ≤ 140737488355328] ⟨(by omega), trivial⟩ ?_
      refine xe_block 1 ?_
      refine xe_then ?_
      refine x_r [] [1, 6, 13, 14, 15] [32, 8471] [I most, .arr 32, .arr 8471, I (data'_2.length : Int), I (t15 + 1)] [some (.arr 2 (out.length + 1) (catF out.length (fHyp out) (litF [Sv ((at_ data'_2 t15.toNat).Label), I ((at_ data'_2 t15.toNat).Cost)] 2))), some (tAHyp data'_2)] [inR .i64 (t15 + 1)] ⟨(inR_i64 (by omega) (by omega)), trivial⟩ ?_
      refine xe_weak [(706, 32)] (T := [(1, I most), (6, .arr 706), (13, .arr 8471), (14, I (data'_2.length : Int)), (15, I (t15 + 1))]) (O := [(706, tAHyp (out ++ [(at_ data'_2 t15.toNat)])), (8471, tAHyp data'_2)]) rfl (⟨.inl rfl, .inl rfl, .inl rfl, .inl rfl, .inl rfl, trivial⟩) (⟨.inr ⟨rfl, (by first | rfl | (simp; done) | (simp; omega) | omega), fun i_ hi_ => .inl (cat_snoc (enc := cHyp) (xs := out) rfl i_ hi_)⟩, .inl rfl, trivial⟩) (xe_again ((out ++ [(at_ data'_2 t15.toNat)]), (t15 + 1)) rfl (show (0 ≤ (t15 + 1) ∧ (t15 + 1) ≤ (list.length : Int)) ∧ ((out ++ [(at_ data'_2 t15.toNat)]) = pickH most data'_2 (t15 + 1).toNat) ∧ True from ⟨(by omega), (by (rw [hst, ← hou])), trivial⟩) (by first | (show (((list.length : Int) - (t15 + 1)).toNat : Nat) < ((list.length : Int) - t15).toNat; omega) | (dsimp only; omega)))
     have hst := pick_n (most := most) (xs := data'_2) (k := t15) (by omega) (fun q => by rw [← hou] at q; omega)
     refine x_r [(3, .dec false)] [1, 6, 8, 13, 14, 15, 28] [8, 706, 8471] [I most, .arr 706, .ref 8 0, .arr 8471, I (data'_2.length : Int), I t15, Bv false] [some (bxHyp (at_ data'_2 t15.toNat)), some (tAHyp out), some (tAHyp data'_2)] [¬ ((out.length : Int) < most)] ⟨h2, trivial⟩ ?_
     refine xe_then ?_
     refine x_false rfl ?_
     refine x_skip ?_
     refine xe_block 1 ?_
     refine xe_then ?_
     refine x_r [] [1, 6, 13, 14, 15] [706, 8471] [I most, .arr 706, .arr 8471, I (data'_2.length : Int), I (t15 + 1)] [some (tAHyp out), some (tAHyp data'_2)] [inR .i64 (t15 + 1)] ⟨(inR_i64 (by omega) (by omega)), trivial⟩ ?_
     exact xe_again (out, (t15 + 1)) rfl (show (0 ≤ (t15 + 1) ∧ (t15 + 1) ≤ (list.length : Int)) ∧ (out = pickH most data'_2 (t15 + 1).toNat) ∧ True from ⟨(by omega), (by (rw [hst, ← hou])), trivial⟩) (by first | (show (((list.length : Int) - (t15 + 1)).toNat : Nat) < ((list.length : Int) - t15).toNat; omega) | (dsimp only; omega))
    have hie : t15.toNat = data'_2.length := by omega
    refine x_r [(0, .dec false)] [1, 6, 13, 14, 15, 16] [706, 8471] [I most, .arr 706, .arr 8471, I (data'_2.length : Int), I t15, Bv false] [some (tAHyp out), some (tAHyp data'_2)] [¬ (t15 < (data'_2.length : Int))] ⟨h1, trivial⟩ ?_
    refine xe_then ?_
    refine x_seq ?_
    refine x_false rfl ?_
    refine x_exit ?_
    refine xe_exit_then ?_
    refine xe_loop_exit ?_
    refine xe_exit_same ?_
    refine xe_then ?_
    refine xR [] [4] [706] [.arr 706] [some (tAHyp out)] [] trivial ?_
    refine x_ret ?_
    refine xe_end out (show (out = hypL most list) ∧ (True) from ⟨(by (unfold hypL; rw [hou, hie, hsl, hsd])), trivial⟩) (trivial) (.arr 706) (by kernel_rfl) (.inr ⟨(fun _ => rfl), rfl, rfl, fun i _ => .inl rfl⟩) (fun _ => rfl) (fun _ => (tagHyp true _))
  obtain ⟨v, ⟨hh0, _⟩, hc⟩ := hh
  exact ⟨v, hh0, hc⟩



-- impl.MergeHyps
theorem MergeHyps_ok (a : List Hyp) (b : List Hyp) (most : Int) (oka : okHyps a) (okb : okHyps b) (hm : most = 8) : ∃ (v : List Hyp) (c : Int), (v = hypL most (a ++ b)) ∧ (c = 0) ∧ Con Tryz.prog 6 [slHyp false a, slHyp false b, I most] true (.tup [slHyp true v, I c]) := by
  have hal := oka.1
  have hbl := okb.1
  have hh : ∃ r : (List Hyp) × Int, ((r.1 = hypL most (a ++ b)) ∧ (r.2 = 0) ∧ (True)) ∧ CallOK Tryz.prog 6 [slHyp false a, slHyp false b, I most] (lookO []) true (.tup [slHyp true r.1, I r.2]) (lookO []) := by
    refine fn_okX (Φ := fun r : (List Hyp) × Int => (r.1 = hypL most (a ++ b)) ∧ (r.2 = 0) ∧ (True)) [] (fun r => []) (fn := Tryz.f6) (nt := 25) Tryz.func6 rfl rfl (args := [slHyp false a, slHyp false b, I most]) rfl (allcons (.inl ⟨rfl, tagHyp false _⟩) (allcons (.inl ⟨rfl, tagHyp false _⟩) (allcons (.inl ⟨rfl, trivial⟩) allnil))) (res := fun r => .tup [slHyp true r.1, I r.2]) ?_
    refine xR [] [0, 1, 2] [] [slHyp false a, slHyp false b, I most] [] [] trivial ?_
    refine x_seq ?_
    refine xR [(1, .call [(true, .any)] true (Bv true)), (5, .call [(true, .any)] true (Bv true))] [0, 1, 2, 15] [] [slHyp false a, slHyp false b, I most, Bv false] [] [Con Tryz.prog 17 [slHyp false a] true (Bv true) ∧ True, Con Tryz.prog 17 [slHyp false b] true (Bv true) ∧ True] ⟨⟨(implValidHyps_ok a oka), trivial⟩, ⟨(implValidHyps_ok b okb), trivial⟩, trivial⟩ ?_
    refine x_false rfl ?_
    refine x_skip ?_
    refine xe_then ?_
    refine x_seq ?_
    refine xR [(1, .call [(true, .any), (true, .any), (true, .any)] true (Bv true))] [0, 1, 2, 18] [] [slHyp false a, slHyp false b, I most, Bv false] [] [Con Tryz.prog 18 [I most, I 1, I 8] true (Bv true) ∧ True] ⟨⟨(con_bool (inB_iff.2 (by omega)) (within_ok most 1 8)), trivial⟩, trivial⟩ ?_
    refine x_false rfl ?_
    refine x_skip ?_
    refine xe_then ?_
    refine x_seq ?_
    obtain ⟨v_1, hx1_0, hc1⟩ := concatH_ok ([a, b]) ⟨by simp, by (intro x_ hx_; simp only [List.mem_cons, List.not_mem_nil, or_false] at hx_; rcases hx_ with rfl | rfl <;> omega)⟩
    have hcv : v_1 = a ++ b := by rw [hx1_0]; simp
    obtain ⟨v_2, hx2_0, hc2⟩ := hypsOf_ok v_1 most (by rw [hcv]; simp; omega)
    refine x_r [(2, .new 21), (3, .call [(false, slLHyp false ([a, b]))] true (slHyp true v_1)), (5, .call [(false, slHyp false v_1), (true, .any)] true (slHyp true v_2))] [6, 7] [] [slHyp true v_2, I 0] [] [Con Tryz.prog 20 [slLHyp false ([a, b])] true (slHyp true v_1) ∧ ((false = true → true = true) ∧ 1 = 1 ∧ 2 = (([a, b]).length) ∧ ∀ i_, i_ < (([a, b]).length) → (litF [slHyp false a, slHyp false b] 1) i_ = (fLHyp false ([a, b])) i_ ∨ (AV.idsL ((fLHyp false ([a, b])) i_) = [] ∧ leL (fun _ => none) false ((litF [slHyp false a, slHyp false b] 1) i_) ((fLHyp false ([a, b])) i_))) ∧ True, Con Tryz.prog 19 [slHyp false v_1, I most] true (slHyp true v_2) ∧ ((false = true → true = true) ∧ 2 = 2 ∧ v_1.length = v_1.length ∧ ∀ i_, i_ < v_1.length → (fHyp v_1) i_ = (fHyp v_1) i_ ∨ (AV.idsL ((fHyp v_1) i_) = [] ∧ leL (fun _ => none) false ((fHyp v_1) i_) ((fHyp v_1) i_))) ∧ True] ⟨⟨hc1, ⟨(fun h => by cases h), rfl, (by first | rfl | (simp; done) | (simp; omega) | omega), fun i_ hi_ => .inl (match i_, hi_ with | 0, _ => rfl | 1, _ => rfl | (i + 2), h => absurd h (by simp))⟩, trivial⟩, ⟨hc2, ⟨(fun h => by cases h), rfl, rfl, fun i _ => .inl rfl⟩, trivial⟩, trivial⟩ ?_
    refine xe_then ?_
    refine x_ret ?_
    refine xe_end (v_2, 0) (show (v_2 = hypL most (a ++ b)) ∧ (0 = 0) ∧ (True) from ⟨(by first | rfl | (rw [hcv] at *; assumption) | (simp only [*])), (by first | rfl | (rw [hcv] at *; assumption) | (simp only [*])), trivial⟩) (trivial) (.tup [slHyp true v_2, I 0]) (by kernel_rfl) (.inl rfl) (fun _ => rfl) (fun _ => (by simp [tagged, taggedL, tagHyp]))
  obtain ⟨⟨v, c⟩, ⟨hh0, hh1, _⟩, hc⟩ := hh
  exact ⟨v, c, hh0, hh1, hc⟩



-- spec.l01Small
theorem l01Small_ok (c : Int) : Con Tryz.prog 81 [.val (.int .u8 c)] true (Bv (inB c 97 122)) := by
  refine fn_ok (fn := Tryz.f81) (nt := 9) Tryz.func81 rfl rfl rfl rfl (by simp [taggedL, tagged]) fun B hB => ?_
  refine aR [] [0] [] [.val (.int .u8 c)] [] [] hB trivial ?_
  refine aw_seq ?_
  by_cases h1 : 97 ≤ c
  ·refine aw_r [(1, .dec true)] [2] [] [Bv (decide (c ≤ 122))] [] [97 ≤ c] hB ⟨h1, trivial⟩ ?_
   refine ae_then ?_
   refine aw_ret ?_
   refine ae_ret hB (Bv (decide (c ≤ 122))) (by kernel_rfl) (.inl (by first | rfl | (refine congrArg Bv ?_; simp [inB, *]; done) | (refine congrArg Bv ?_; simp [inB, *]; omega) | (refine congrArg Bv ?_; simp_all [inB]; done) | (refine congrArg Bv ?_; simp_all [inB]; omega))) rfl (fun _ => trivial)
  refine aw_r [(1, .dec false)] [2] [] [Bv false] [] [¬ (97 ≤ c)] hB ⟨h1, trivial⟩ ?_
  refine ae_then ?_
  refine aw_ret ?_
  refine ae_ret hB (Bv false) (by kernel_rfl) (.inl (by first | rfl | (refine congrArg Bv ?_; simp [inB, *]; done) | (refine congrArg Bv ?_; simp [inB, *]; omega) | (refine congrArg Bv ?_; simp_all [inB]; done) | (refine congrArg Bv ?_; simp_all [inB]; omega))) rfl (fun _ => trivial)



-- spec.l11Label
theorem l11Label_ok (c : Int) : Con Tryz.prog 59 [.val (.int .u8 c)] true (Bv (labB c)) := by
  refine fn_ok (fn := Tryz.f59) (nt := 24) Tryz.func59 rfl rfl rfl rfl (by simp [taggedL, tagged]) fun B hB => ?_
  refine aR [] [0] [] [.val (.int .u8 c)] [] [] hB trivial ?_
  refine aw_seq ?_
  refine aR [] [0, 3] [] [.val (.int .u8 c), .val (.int .u8 c)] [] [] hB trivial ?_
  refine aw_block ?_
  refine aw_seq ?_
  refine aw_seq ?_
  by_cases h1 : c = 43
  ·refine aw_r [(0, .dec true)] [0, 3, 4] [] [.val (.int .u8 c), .val (.int .u8 c), Bv true] [] [c = 43] hB ⟨h1, trivial⟩ ?_
   refine ae_then ?_
   refine aw_true rfl ?_
   refine aw_skip ?_
   refine ae_then ?_
   refine aw_true rfl ?_
   refine aR [] [2] [] [Bv true] [] [] hB trivial ?_
   refine aw_ret ?_
   refine ae_ret_block (ae_ret_then ?_)
   refine ae_ret hB (Bv true) (by kernel_rfl) (.inl (by first | rfl | (refine congrArg Bv ?_; simp [labB, inB, *]; done) | (refine congrArg Bv ?_; simp [labB, inB, *]; omega) | (refine congrArg Bv ?_; simp_all [labB, inB]; done) | (refine congrArg Bv ?_; simp_all [labB, inB]; omega))) rfl (fun _ => trivial)
  refine aw_r [(0, .dec false)] [0, 3, 4] [] [.val (.int .u8 c), .val (.int .u8 c), Bv false] [] [¬ (c = 43)] hB ⟨h1, trivial⟩ ?_
  refine ae_then ?_
  refine aw_false rfl ?_
  refine aw_seq ?_
  by_cases h2 : c = 45
  ·refine aw_r [(0, .dec true)] [0, 3, 4] [] [.val (.int .u8 c), .val (.int .u8 c), Bv true] [] [c = 45] hB ⟨h2, trivial⟩ ?_
   refine ae_then ?_
   refine aw_true rfl ?_
   refine aw_skip ?_
   refine ae_then ?_
   refine aw_true rfl ?_
   refine aR [] [2] [] [Bv true] [] [] hB trivial ?_
   refine aw_ret ?_
   refine ae_ret_block (ae_ret_then ?_)
   refine ae_ret hB (Bv true) (by kernel_rfl) (.inl (by first | rfl | (refine congrArg Bv ?_; simp [labB, inB, *]; done) | (refine congrArg Bv ?_; simp [labB, inB, *]; omega) | (refine congrArg Bv ?_; simp_all [labB, inB]; done) | (refine congrArg Bv ?_; simp_all [labB, inB]; omega))) rfl (fun _ => trivial)
  refine aw_r [(0, .dec false)] [0, 3, 4] [] [.val (.int .u8 c), .val (.int .u8 c), Bv false] [] [¬ (c = 45)] hB ⟨h2, trivial⟩ ?_
  refine ae_then ?_
  refine aw_false rfl ?_
  refine aw_seq ?_
  by_cases h3 : c = 42
  ·refine aw_r [(0, .dec true)] [0, 3, 4] [] [.val (.int .u8 c), .val (.int .u8 c), Bv true] [] [c = 42] hB ⟨h3, trivial⟩ ?_
   refine ae_then ?_
   refine aw_true rfl ?_
   refine aw_skip ?_
   refine ae_then ?_
   refine aw_true rfl ?_
   refine aR [] [2] [] [Bv true] [] [] hB trivial ?_
   refine aw_ret ?_
   refine ae_ret_block (ae_ret_then ?_)
   refine ae_ret hB (Bv true) (by kernel_rfl) (.inl (by first | rfl | (refine congrArg Bv ?_; simp [labB, inB, *]; done) | (refine congrArg Bv ?_; simp [labB, inB, *]; omega) | (refine congrArg Bv ?_; simp_all [labB, inB]; done) | (refine congrArg Bv ?_; simp_all [labB, inB]; omega))) rfl (fun _ => trivial)
  refine aw_r [(0, .dec false)] [0, 3, 4] [] [.val (.int .u8 c), .val (.int .u8 c), Bv false] [] [¬ (c = 42)] hB ⟨h3, trivial⟩ ?_
  refine ae_then ?_
  refine aw_false rfl ?_
  refine aw_seq ?_
  by_cases h4 : c = 47
  ·refine aw_r [(0, .dec true)] [0, 3, 4] [] [.val (.int .u8 c), .val (.int .u8 c), Bv true] [] [c = 47] hB ⟨h4, trivial⟩ ?_
   refine ae_then ?_
   refine aw_true rfl ?_
   refine aw_skip ?_
   refine ae_then ?_
   refine aw_true rfl ?_
   refine aR [] [2] [] [Bv true] [] [] hB trivial ?_
   refine aw_ret ?_
   refine ae_ret_block (ae_ret_then ?_)
   refine ae_ret hB (Bv true) (by kernel_rfl) (.inl (by first | rfl | (refine congrArg Bv ?_; simp [labB, inB, *]; done) | (refine congrArg Bv ?_; simp [labB, inB, *]; omega) | (refine congrArg Bv ?_; simp_all [labB, inB]; done) | (refine congrArg Bv ?_; simp_all [labB, inB]; omega))) rfl (fun _ => trivial)
  refine aw_r [(0, .dec false)] [0, 3, 4] [] [.val (.int .u8 c), .val (.int .u8 c), Bv false] [] [¬ (c = 47)] hB ⟨h4, trivial⟩ ?_
  refine ae_then ?_
  refine aw_false rfl ?_
  refine aw_seq ?_
  by_cases h5 : c = 61
  ·refine aw_r [(0, .dec true)] [0, 3, 4] [] [.val (.int .u8 c), .val (.int .u8 c), Bv true] [] [c = 61] hB ⟨h5, trivial⟩ ?_
   refine ae_then ?_
   refine aw_true rfl ?_
   refine aw_skip ?_
   refine ae_then ?_
   refine aw_true rfl ?_
   refine aR [] [2] [] [Bv true] [] [] hB trivial ?_
   refine aw_ret ?_
   refine ae_ret_block (ae_ret_then ?_)
   refine ae_ret hB (Bv true) (by kernel_rfl) (.inl (by first | rfl | (refine congrArg Bv ?_; simp [labB, inB, *]; done) | (refine congrArg Bv ?_; simp [labB, inB, *]; omega) | (refine congrArg Bv ?_; simp_all [labB, inB]; done) | (refine congrArg Bv ?_; simp_all [labB, inB]; omega))) rfl (fun _ => trivial)
  refine aw_r [(0, .dec false)] [0, 3, 4] [] [.val (.int .u8 c), .val (.int .u8 c), Bv false] [] [¬ (c = 61)] hB ⟨h5, trivial⟩ ?_
  refine ae_then ?_
  refine aw_false rfl ?_
  refine aw_seq ?_
  by_cases h6 : c = 40
  ·refine aw_r [(0, .dec true)] [0, 3, 4] [] [.val (.int .u8 c), .val (.int .u8 c), Bv true] [] [c = 40] hB ⟨h6, trivial⟩ ?_
   refine ae_then ?_
   refine aw_true rfl ?_
   refine aw_skip ?_
   refine ae_then ?_
   refine aw_true rfl ?_
   refine aR [] [2] [] [Bv true] [] [] hB trivial ?_
   refine aw_ret ?_
   refine ae_ret_block (ae_ret_then ?_)
   refine ae_ret hB (Bv true) (by kernel_rfl) (.inl (by first | rfl | (refine congrArg Bv ?_; simp [labB, inB, *]; done) | (refine congrArg Bv ?_; simp [labB, inB, *]; omega) | (refine congrArg Bv ?_; simp_all [labB, inB]; done) | (refine congrArg Bv ?_; simp_all [labB, inB]; omega))) rfl (fun _ => trivial)
  refine aw_r [(0, .dec false)] [0, 3, 4] [] [.val (.int .u8 c), .val (.int .u8 c), Bv false] [] [¬ (c = 40)] hB ⟨h6, trivial⟩ ?_
  refine ae_then ?_
  refine aw_false rfl ?_
  refine aw_seq ?_
  by_cases h7 : c = 41
  ·refine aw_r [(0, .dec true)] [0, 3, 4] [] [.val (.int .u8 c), .val (.int .u8 c), Bv true] [] [c = 41] hB ⟨h7, trivial⟩ ?_
   refine ae_then ?_
   refine aw_true rfl ?_
   refine aw_skip ?_
   refine ae_then ?_
   refine aw_true rfl ?_
   refine aR [] [2] [] [Bv true] [] [] hB trivial ?_
   refine aw_ret ?_
   refine ae_ret_block (ae_ret_then ?_)
   refine ae_ret hB (Bv true) (by kernel_rfl) (.inl (by first | rfl | (refine congrArg Bv ?_; simp [labB, inB, *]; done) | (refine congrArg Bv ?_; simp [labB, inB, *]; omega) | (refine congrArg Bv ?_; simp_all [labB, inB]; done) | (refine congrArg Bv ?_; simp_all [labB, inB]; omega))) rfl (fun _ => trivial)
  refine aw_r [(0, .dec false)] [0, 3, 4] [] [.val (.int .u8 c), .val (.int .u8 c), Bv false] [] [¬ (c = 41)] hB ⟨h7, trivial⟩ ?_
  refine ae_then ?_
  refine aw_false rfl ?_
  refine aw_seq ?_
  by_cases h8 : c = 46
  ·refine aw_r [(0, .dec true)] [0, 3, 4] [] [.val (.int .u8 c), .val (.int .u8 c), Bv true] [] [c = 46] hB ⟨h8, trivial⟩ ?_
   refine ae_then ?_
   refine aw_true rfl ?_
   refine aw_skip ?_
   refine ae_then ?_
   refine aw_true rfl ?_
   refine aR [] [2] [] [Bv true] [] [] hB trivial ?_
   refine aw_ret ?_
   refine ae_ret_block (ae_ret_then ?_)
   refine ae_ret hB (Bv true) (by kernel_rfl) (.inl (by first | rfl | (refine congrArg Bv ?_; simp [labB, inB, *]; done) | (refine congrArg Bv ?_; simp [labB, inB, *]; omega) | (refine congrArg Bv ?_; simp_all [labB, inB]; done) | (refine congrArg Bv ?_; simp_all [labB, inB]; omega))) rfl (fun _ => trivial)
  refine aw_r [(0, .dec false)] [0, 3, 4] [] [.val (.int .u8 c), .val (.int .u8 c), Bv false] [] [¬ (c = 46)] hB ⟨h8, trivial⟩ ?_
  refine ae_then ?_
  refine aw_false rfl ?_
  by_cases h9 : c = 44
  ·refine aw_r [(0, .dec true)] [0, 4] [] [.val (.int .u8 c), Bv true] [] [c = 44] hB ⟨h9, trivial⟩ ?_
   refine ae_then ?_
   refine aw_true rfl ?_
   refine aR [] [2] [] [Bv true] [] [] hB trivial ?_
   refine aw_ret ?_
   refine ae_ret_block (ae_ret_then ?_)
   refine ae_ret hB (Bv true) (by kernel_rfl) (.inl (by first | rfl | (refine congrArg Bv ?_; simp [labB, inB, *]; done) | (refine congrArg Bv ?_; simp [labB, inB, *]; omega) | (refine congrArg Bv ?_; simp_all [labB, inB]; done) | (refine congrArg Bv ?_; simp_all [labB, inB]; omega))) rfl (fun _ => trivial)
  refine aw_r [(0, .dec false)] [0, 4] [] [.val (.int .u8 c), Bv false] [] [¬ (c = 44)] hB ⟨h9, trivial⟩ ?_
  refine ae_then ?_
  refine aw_false rfl ?_
  refine aw_skip ?_
  refine ae_block 0 ?_
  refine ae_then ?_
  refine aw_seq ?_
  rcases Bool.eq_false_or_eq_true (inB c 97 122) with h10 | h10
  ·refine aw_r [(1, .call [(true, .any)] true (Bv true))] [2] [] [Bv true] [] [Con Tryz.prog 81 [.val (.int .u8 c)] true (Bv true) ∧ True] hB ⟨⟨(con_bool h10 (l01Small_ok c)), trivial⟩, trivial⟩ ?_
   refine ae_then ?_
   refine aw_ret ?_
   refine ae_ret hB (Bv true) (by kernel_rfl) (.inl (by first | rfl | (refine congrArg Bv ?_; simp [labB, inB, *]; done) | (refine congrArg Bv ?_; simp [labB, inB, *]; omega) | (refine congrArg Bv ?_; simp_all [labB, inB]; done) | (refine congrArg Bv ?_; simp_all [labB, inB]; omega))) rfl (fun _ => trivial)
  by_cases h11 : 48 ≤ c
  ·refine aw_r [(1, .call [(true, .any)] true (Bv false)), (4, .dec true)] [2] [] [Bv (decide (c ≤ 57))] [] [Con Tryz.prog 81 [.val (.int .u8 c)] true (Bv false) ∧ True, 48 ≤ c] hB ⟨⟨(con_bool h10 (l01Small_ok c)), trivial⟩, h11, trivial⟩ ?_
   refine ae_then ?_
   refine aw_ret ?_
   refine ae_ret hB (Bv (decide (c ≤ 57))) (by kernel_rfl) (.inl (by first | rfl | (refine congrArg Bv ?_; simp [labB, inB, *]; done) | (refine congrArg Bv ?_; simp [labB, inB, *]; omega) | (refine congrArg Bv ?_; simp_all [labB, inB]; done) | (refine congrArg Bv ?_; simp_all [labB, inB]; omega))) rfl (fun _ => trivial)
  refine aw_r [(1, .call [(true, .any)] true (Bv false)), (4, .dec false)] [2] [] [Bv false] [] [Con Tryz.prog 81 [.val (.int .u8 c)] true (Bv false) ∧ True, ¬ (48 ≤ c)] hB ⟨⟨(con_bool h10 (l01Small_ok c)), trivial⟩, h11, trivial⟩ ?_
  refine ae_then ?_
  refine aw_ret ?_
  refine ae_ret hB (Bv false) (by kernel_rfl) (.inl (by first | rfl | (refine congrArg Bv ?_; simp [labB, inB, *]; done) | (refine congrArg Bv ?_; simp [labB, inB, *]; omega) | (refine congrArg Bv ?_; simp_all [labB, inB]; done) | (refine congrArg Bv ?_; simp_all [labB, inB]; omega))) rfl (fun _ => trivial)



-- spec.IsLabel
theorem specIsLabel_ok (s : ByteArray) (ok : s.size ≤ 9223372036854775807) : Con Tryz.prog 39 [Sv s] true (Bv (okLabel s)) := by
  refine fn_ok (fn := Tryz.f39) (nt := 11) Tryz.func39 rfl rfl rfl rfl (by simp [taggedL, tagged]) fun B hB => ?_
  refine aR [] [0] [] [Sv s] [] [] hB trivial ?_
  refine aw_seq ?_
  by_cases h1 : (s.size : Int) = 1
  ·refine aw_r [(2, .dec true), (6, .call [(true, .any)] true (Bv (labB (bAt s 0))))] [2] [] [Bv (labB (bAt s 0))] [] [(s.size : Int) = 1, (0 : Int) ≤ 0 ∧ 0 < (s.size : Int), Con Tryz.prog 59 [.val (.int .u8 (bAt s 0))] true (Bv (labB (bAt s 0))) ∧ True] hB ⟨h1, ⟨(by omega), (by omega)⟩, ⟨(l11Label_ok (bAt s 0)), trivial⟩, trivial⟩ ?_
   refine ae_then ?_
   refine aw_ret ?_
   refine ae_ret hB (Bv (labB (bAt s 0))) (by kernel_rfl) (.inl (by first | rfl | (refine congrArg Bv ?_; simp [okLabel, *]; done) | (refine congrArg Bv ?_; simp [okLabel, *]; omega) | (refine congrArg Bv ?_; simp_all [okLabel]; done) | (refine congrArg Bv ?_; simp_all [okLabel]; omega))) rfl (fun _ => trivial)
  refine aw_r [(2, .dec false)] [2] [] [Bv false] [] [¬ ((s.size : Int) = 1)] hB ⟨h1, trivial⟩ ?_
  refine ae_then ?_
  refine aw_ret ?_
  refine ae_ret hB (Bv false) (by kernel_rfl) (.inl (by first | rfl | (refine congrArg Bv ?_; simp [okLabel, *]; done) | (refine congrArg Bv ?_; simp [okLabel, *]; omega) | (refine congrArg Bv ?_; simp_all [okLabel]; done) | (refine congrArg Bv ?_; simp_all [okLabel]; omega))) rfl (fun _ => trivial)



-- spec.l00In
theorem l00In_ok (n : Int) (low : Int) (high : Int) : Con Tryz.prog 40 [I n, I low, I high] true (Bv (inB n low high)) := by
  refine fn_ok (fn := Tryz.f40) (nt := 15) Tryz.func40 rfl rfl rfl rfl (by simp [taggedL, tagged]) fun B hB => ?_
  refine aR [] [0, 1, 2] [] [I n, I low, I high] [] [] hB trivial ?_
  refine aw_seq ?_
  by_cases h1 : low ≤ n
  ·refine aw_r [(2, .dec true)] [6] [] [Bv (decide (n ≤ high))] [] [low ≤ n] hB ⟨h1, trivial⟩ ?_
   refine ae_then ?_
   refine aw_ret ?_
   refine ae_ret hB (Bv (decide (n ≤ high))) (by kernel_rfl) (.inl (by first | rfl | (refine congrArg Bv ?_; simp [inB, *]; done) | (refine congrArg Bv ?_; simp [inB, *]; omega) | (refine congrArg Bv ?_; simp_all [inB]; done) | (refine congrArg Bv ?_; simp_all [inB]; omega))) rfl (fun _ => trivial)
  refine aw_r [(2, .dec false)] [6] [] [Bv false] [] [¬ (low ≤ n)] hB ⟨h1, trivial⟩ ?_
  refine ae_then ?_
  refine aw_ret ?_
  refine ae_ret hB (Bv false) (by kernel_rfl) (.inl (by first | rfl | (refine congrArg Bv ?_; simp [inB, *]; done) | (refine congrArg Bv ?_; simp [inB, *]; omega) | (refine congrArg Bv ?_; simp_all [inB]; done) | (refine congrArg Bv ?_; simp_all [inB]; omega))) rfl (fun _ => trivial)



-- spec.l13Ok
theorem l13Ok_ok (list : List Hyp) (ok : okHyps list) : Con Tryz.prog 21 [slHyp false list] true (Bv true) := by
  have hl8 := ok.1
  refine fn_ok (fn := Tryz.f21) (nt := 63) Tryz.func21 rfl rfl rfl rfl (by simp [taggedL, tagged, tagHyp]) fun B hB => ?_
  refine aw_lens (x := slHyp false list) 0 rfl (fun len_list => ?_)
  simp [LenOK, LenL, cHyp, fHyp, slHyp] at len_list
  refine aR [] [0] [] [slHyp false list] [] [] hB trivial ?_
  refine aw_seq ?_
  refine aR [] [0, 3] [] [slHyp false list, I 0] [] [] hB trivial ?_
  refine aw_block ?_
  refine aw_loop (fun gn gσ => ∃ (i : Int), gn = ((list.length : Int) - i).toNat ∧ (0 ≤ i ∧ i ≤ (list.length : Int)) ∧ gσ = mkS [(0, slHyp false list), (3, I i)] []) (((list.length : Int) - 0).toNat) ⟨0, rfl, (by omega), rfl⟩ (fun gn gσ hI => ?_)
  obtain ⟨i, rfl, hi0, rfl⟩ := hI
  refine aw_seq ?_
  refine aw_seq ?_
  by_cases h1 : i < (list.length : Int)
  ·have hi : i.toNat < list.length := by omega
   have hed := ok.2.1 _ hi
   refine aw_r [(3, .dec true)] [0, 3, 8] [] [slHyp false list, I i, Bv true] [] [i < (list.length : Int)] hB ⟨h1, trivial⟩ ?_
   refine ae_then ?_
   refine aw_true rfl ?_
   refine aw_skip ?_
   refine ae_then ?_
   refine aw_seq ?_
   refine aw_block ?_
   refine aw_seq ?_
   refine aw_seq ?_
   by_cases h2 : 0 < i
   ·have hpr := pw_get ok.2.2.1 (show (i - 1).toNat < i.toNat by omega) hi
    refine aw_r [(5, .call [(true, .any)] true (Bv true)), (13, .call [(true, .any), (true, .any), (true, .any)] true (Bv true)), (18, .dec true), (29, .call [(true, .any), (true, .any)] true (Bv true))] [0, 3, 43] [] [slHyp false list, I i, Bv false] [] [(0 : Int) ≤ i ∧ i < (list.length : Int), Con Tryz.prog 39 [Sv ((at_ list i.toNat).Label)] true (Bv true) ∧ True, (0 : Int) ≤ i ∧ i < (list.length : Int), Con Tryz.prog 40 [I ((at_ list i.toNat).Cost), I 0, I 1000000] true (Bv true) ∧ True, 0 < i, inR .i64 (i - 1), (0 : Int) ≤ (i - 1) ∧ (i - 1) < (list.length : Int), (0 : Int) ≤ i ∧ i < (list.length : Int), Con Tryz.prog 41 [agHyp (at_ list ((i - 1).toNat)), agHyp (at_ list i.toNat)] true (Bv true) ∧ True] hB ⟨⟨(by omega), (by omega)⟩, ⟨(con_bool hed.1 (specIsLabel_ok ((at_ list i.toNat).Label) (by have q_ := hed.1; simp only [okLabel, Bool.and_eq_true, decide_eq_true_eq] at q_; omega))), trivial⟩, ⟨(by omega), (by omega)⟩, ⟨(con_bool (inB_iff.2 hed.2) (l00In_ok ((at_ list i.toNat).Cost) 0 1000000)), trivial⟩, h2, (inR_i64 (by omega) (by omega)), ⟨(by omega), (by omega)⟩, ⟨(by omega), (by omega)⟩, ⟨(con_bool (decide_eq_true hpr) (l13Before_ok (at_ list ((i - 1).toNat)) (at_ list i.toNat))), trivial⟩, trivial⟩ ?_
    refine ae_then ?_
    refine aw_false rfl ?_
    refine aw_skip ?_
    refine ae_then ?_
    refine aR [] [0, 3, 4] [] [slHyp false list, I i, I 0] [] [] hB trivial ?_
    refine aw_block ?_
    refine aw_loop (fun gn gσ => ∃ (k : Int), gn = (i - k).toNat ∧ (0 ≤ k ∧ k ≤ i) ∧ gσ = mkS [(0, slHyp false list), (3, I i), (4, I k)] []) ((i - 0).toNat) ⟨0, rfl, (by omega), rfl⟩ (fun gn gσ hI => ?_)
    obtain ⟨k, rfl, hk0, rfl⟩ := hI
    refine aw_seq ?_
    refine aw_seq ?_
    by_cases h3 : k < i
    ·have hk : k.toNat < i.toNat := by omega
     have hpk := pw_get ok.2.2.2 hk hi
     refine aw_r [(2, .dec true)] [0, 3, 4, 46] [] [slHyp false list, I i, I k, Bv true] [] [k < i] hB ⟨h3, trivial⟩ ?_
     refine ae_then ?_
     refine aw_true rfl ?_
     refine aw_skip ?_
     refine ae_then ?_
     refine aw_seq ?_
     refine aw_block ?_
     refine aR [(10, .dec false)] [0, 3, 4, 59] [] [slHyp false list, I i, I k, Bv false] [] [(0 : Int) ≤ k ∧ k < (list.length : Int), (0 : Int) ≤ i ∧ i < (list.length : Int), ¬ (((at_ list k.toNat).Label) = ((at_ list i.toNat).Label))] hB ⟨⟨(by omega), (by omega)⟩, ⟨(by omega), (by omega)⟩, hpk, trivial⟩ ?_
     refine aw_false rfl ?_
     refine aw_skip ?_
     refine ae_block 3 ?_
     refine ae_then ?_
     refine aw_r [] [0, 3, 4] [] [slHyp false list, I i, I (k + 1)] [] [inR .i64 (k + 1)] hB ⟨(inR_i64 (by omega) (by omega)), trivial⟩ ?_
     exact ae_again _ (by omega) ⟨(k + 1), rfl, (by omega), rfl⟩
    refine aw_r [(2, .dec false)] [0, 3, 4, 46] [] [slHyp false list, I i, I k, Bv false] [] [¬ (k < i)] hB ⟨h3, trivial⟩ ?_
    refine ae_then ?_
    refine aw_false rfl ?_
    refine aw_exit ?_
    refine ae_exit_then ?_
    refine ae_exit_then ?_
    refine ae_exit_same ?_
    refine ae_block 1 ?_
    refine ae_then ?_
    refine aw_r [] [0, 3] [] [slHyp false list, I (i + 1)] [] [inR .i64 (i + 1)] hB ⟨(inR_i64 (by omega) (by omega)), trivial⟩ ?_
    exact ae_again _ (by omega) ⟨(i + 1), rfl, (by omega), rfl⟩
   refine aw_r [(5, .call [(true, .any)] true (Bv true)), (13, .call [(true, .any), (true, .any), (true, .any)] true (Bv true)), (18, .dec false)] [0, 3, 43] [] [slHyp false list, I i, Bv false] [] [(0 : Int) ≤ i ∧ i < (list.length : Int), Con Tryz.prog 39 [Sv ((at_ list i.toNat).Label)] true (Bv true) ∧ True, (0 : Int) ≤ i ∧ i < (list.length : Int), Con Tryz.prog 40 [I ((at_ list i.toNat).Cost), I 0, I 1000000] true (Bv true) ∧ True, ¬ (0 < i)] hB ⟨⟨(by omega), (by omega)⟩, ⟨(con_bool hed.1 (specIsLabel_ok ((at_ list i.toNat).Label) (by have q_ := hed.1; simp only [okLabel, Bool.and_eq_true, decide_eq_true_eq] at q_; omega))), trivial⟩, ⟨(by omega), (by omega)⟩, ⟨(con_bool (inB_iff.2 hed.2) (l00In_ok ((at_ list i.toNat).Cost) 0 1000000)), trivial⟩, h2, trivial⟩ ?_
   refine ae_then ?_
   refine aw_false rfl ?_
   refine aw_skip ?_
   refine ae_then ?_
   refine aR [] [0, 3, 4] [] [slHyp false list, I i, I 0] [] [] hB trivial ?_
   refine aw_block ?_
   refine aw_loop (fun gn gσ => ∃ (k : Int), gn = (i - k).toNat ∧ (0 ≤ k ∧ k ≤ i) ∧ gσ = mkS [(0, slHyp false list), (3, I i), (4, I k)] []) ((i - 0).toNat) ⟨0, rfl, (by omega), rfl⟩ (fun gn gσ hI => ?_)
   obtain ⟨k, rfl, hk0, rfl⟩ := hI
   refine aw_seq ?_
   refine aw_seq ?_
   by_cases h4 : k < i
   ·have hk : k.toNat < i.toNat := by omega
    have hpk := pw_get ok.2.2.2 hk hi
    refine aw_r [(2, .dec true)] [0, 3, 4, 46] [] [slHyp false list, I i, I k, Bv true] [] [k < i] hB ⟨h4, trivial⟩ ?_
    refine ae_then ?_
    refine aw_true rfl ?_
    refine aw_skip ?_
    refine ae_then ?_
    refine aw_seq ?_
    refine aw_block ?_
    refine aR [(10, .dec false)] [0, 3, 4, 59] [] [slHyp false list, I i, I k, Bv false] [] [(0 : Int) ≤ k ∧ k < (list.length : Int), (0 : Int) ≤ i ∧ i < (list.length : Int), ¬ (((at_ list k.toNat).Label) = ((at_ list i.toNat).Label))] hB ⟨⟨(by omega), (by omega)⟩, ⟨(by omega), (by omega)⟩, hpk, trivial⟩ ?_
    refine aw_false rfl ?_
    refine aw_skip ?_
    refine ae_block 3 ?_
    refine ae_then ?_
    refine aw_r [] [0, 3, 4] [] [slHyp false list, I i, I (k + 1)] [] [inR .i64 (k + 1)] hB ⟨(inR_i64 (by omega) (by omega)), trivial⟩ ?_
    exact ae_again _ (by omega) ⟨(k + 1), rfl, (by omega), rfl⟩
   refine aw_r [(2, .dec false)] [0, 3, 4, 46] [] [slHyp false list, I i, I k, Bv false] [] [¬ (k < i)] hB ⟨h4, trivial⟩ ?_
   refine ae_then ?_
   refine aw_false rfl ?_
   refine aw_exit ?_
   refine ae_exit_then ?_
   refine ae_exit_then ?_
   refine ae_exit_same ?_
   refine ae_block 1 ?_
   refine ae_then ?_
   refine aw_r [] [0, 3] [] [slHyp false list, I (i + 1)] [] [inR .i64 (i + 1)] hB ⟨(inR_i64 (by omega) (by omega)), trivial⟩ ?_
   exact ae_again _ (by omega) ⟨(i + 1), rfl, (by omega), rfl⟩
  refine aw_r [(3, .dec false)] [0, 3, 8] [] [slHyp false list, I i, Bv false] [] [¬ (i < (list.length : Int))] hB ⟨h1, trivial⟩ ?_
  refine ae_then ?_
  refine aw_false rfl ?_
  refine aw_exit ?_
  refine ae_exit_then ?_
  refine ae_exit_then ?_
  refine ae_exit_same ?_
  refine ae_then ?_
  refine aR [(2, .dec true)] [2] [] [Bv true] [] [(list.length : Int) ≤ 8] hB ⟨(by have := ok.1; omega), trivial⟩ ?_
  refine aw_ret ?_
  refine ae_ret hB (Bv true) (by kernel_rfl) (.inl rfl) rfl (fun _ => trivial)



-- spec.ValidHyps
theorem specValidHyps_ok (list : List Hyp) (ok : okHyps list) : Con Tryz.prog 7 [slHyp false list] true (Bv true) := by
  refine fn_ok (fn := Tryz.f7) (nt := 5) Tryz.func7 rfl rfl rfl rfl (by simp [taggedL, tagged, tagHyp]) fun B hB => ?_
  refine aw_lens (x := slHyp false list) 0 rfl (fun len_list => ?_)
  simp [LenOK, LenL, cHyp, fHyp, slHyp] at len_list
  refine aR [] [0] [] [slHyp false list] [] [] hB trivial ?_
  refine aR [(1, .call [(true, .any)] true (Bv true))] [2] [] [Bv true] [] [Con Tryz.prog 21 [slHyp false list] true (Bv true) ∧ True] hB ⟨⟨(l13Ok_ok list ok), trivial⟩, trivial⟩ ?_
  refine aw_ret ?_
  refine ae_ret hB (Bv true) (by kernel_rfl) (.inl rfl) rfl (fun _ => trivial)



def rsH (d : Int) (h : Hyp) : Hyp := ⟨h.Label, h.Cost + d⟩
def mgR (xs : List Hyp) : Int × Int := if (xs.length : Int) < 2 then (0, 6) else ((at_ xs 1).Cost - (at_ xs 0).Cost, 0)
theorem cmpH_rs (d : Int) (x y : Hyp) : cmpH (rsH d x) (rsH d y) < 0 ↔ cmpH x y < 0 := by
  rw [cmpH_neg, cmpH_neg]
  show x.Cost + d < y.Cost + d ∨ (x.Cost + d = y.Cost + d ∧ sless x.Label y.Label = true) ↔ _
  constructor
  · rintro (h | h)
    · exact .inl (by omega)
    · exact .inr ⟨by omega, h.2⟩
  · rintro (h | h)
    · exact .inl (by omega)
    · exact .inr ⟨by omega, h.2⟩
theorem okHyps_rs {xs : List Hyp} {d : Int} (h : okHb xs) (hl : xs.length ≤ 8) (hd : 0 ≤ d ∧ d ≤ 1000) : okHyps (xs.map (rsH d)) := by
  refine ⟨by rw [List.length_map]; exact hl, fun i hi => ?_, ?_, ?_⟩
  · rw [List.length_map] at hi
    have e : at_ (xs.map (rsH d)) i = rsH d (at_ xs i) := by simp [at_, hi]
    rw [e]
    have := h.1 _ (at_mem hi)
    exact ⟨this.1, by show 0 ≤ (at_ xs i).Cost + d; omega, by show (at_ xs i).Cost + d ≤ 1000000; omega⟩
  · exact List.pairwise_map.2 (h.2.1.imp fun {x y} q => (cmpH_rs d x y).2 q)
  · exact List.pairwise_map.2 (h.2.2.imp fun {x y} q => q)
theorem mgR_rs {xs : List Hyp} {d : Int} : mgR (xs.map (rsH d)) = mgR xs := by
  unfold mgR
  rw [List.length_map]
  by_cases h : (xs.length : Int) < 2
  · rw [if_pos h, if_pos h]
  · rw [if_neg h, if_neg h]
    have e0 : at_ (xs.map (rsH d)) 0 = rsH d (at_ xs 0) := by simp [at_, show 0 < xs.length from by omega]
    have e1 : at_ (xs.map (rsH d)) 1 = rsH d (at_ xs 1) := by simp [at_, show 1 < xs.length from by omega]
    rw [e0, e1]
    show ((at_ xs 1).Cost + d - ((at_ xs 0).Cost + d), (0 : Int)) = _
    congr 1; omega


-- spec.CostOf
theorem specCostOf_ok (list : List Hyp) (label : ByteArray) (ok : okHyps list) : ∃ (v : Int) (c : Int), (c = 0 → ∃ h ∈ list, h.Label = label ∧ h.Cost = v) ∧ ((∃ h ∈ list, h.Label = label) → c = 0) ∧ Con Tryz.prog 8 [slHyp false list, Sv label] true (.tup [I v, I c]) := by
  have hl8 := ok.1
  have hh : ∃ r : Int × Int, ((r.2 = 0 → ∃ h ∈ list, h.Label = label ∧ h.Cost = r.1) ∧ ((∃ h ∈ list, h.Label = label) → r.2 = 0) ∧ (True)) ∧ CallOK Tryz.prog 8 [slHyp false list, Sv label] (lookO []) true (.tup [I r.1, I r.2]) (lookO []) := by
    refine fn_okX (Φ := fun r : Int × Int => (r.2 = 0 → ∃ h ∈ list, h.Label = label ∧ h.Cost = r.1) ∧ ((∃ h ∈ list, h.Label = label) → r.2 = 0) ∧ (True)) [] (fun r => []) (fn := Tryz.f8) (nt := 28) Tryz.func8 rfl rfl (args := [slHyp false list, Sv label]) rfl (allcons (.inl ⟨rfl, tagHyp false _⟩) (allcons (.inl ⟨rfl, trivial⟩) allnil)) (res := fun r => .tup [I r.1, I r.2]) ?_
    refine xR [] [0, 1] [] [slHyp false list, Sv label] [] [] trivial ?_
    refine x_seq ?_
    refine xR [(1, .call [(true, .any)] true (Bv true))] [0, 1, 9] [] [slHyp false list, Sv label, Bv false] [] [Con Tryz.prog 21 [slHyp false list] true (Bv true) ∧ True] ⟨⟨(l13Ok_ok list ok), trivial⟩, trivial⟩ ?_
    refine x_false rfl ?_
    refine x_skip ?_
    refine xe_then ?_
    refine x_seq ?_
    refine xR [] [0, 1, 6] [] [slHyp false list, Sv label, I 0] [] [] trivial ?_
    refine x_block ?_
    refine x_loop (X := Int) (fun x => mkS [(0, slHyp false list), (1, Sv label), (6, I x)] []) (fun x => (0 ≤ x ∧ x ≤ (list.length : Int)) ∧ (∀ j : Nat, (j : Int) < x → (at_ list j).Label ≠ label) ∧ True) (fun x => ((list.length : Int) - x).toNat) 0 rfl (show (0 ≤ (0 : Int) ∧ (0 : Int) ≤ (list.length : Int)) ∧ (∀ j : Nat, (j : Int) < (0 : Int) → (at_ list j).Label ≠ label) ∧ True from ⟨(by omega), (by intro j hj; omega), trivial⟩) (fun x hI => ?_)
    obtain ⟨i, hxx⟩ : ∃ i : Int, i = x := ⟨x, rfl⟩
    subst hxx
    obtain ⟨hi0, hz0, _⟩ : (0 ≤ i ∧ i ≤ (list.length : Int)) ∧ (∀ j : Nat, (j : Int) < i → (at_ list j).Label ≠ label) ∧ True := hI
    show XW _ _ _ _ (mkS [(0, slHyp false list), (1, Sv label), (6, I i)] []) _ _
    refine x_seq ?_
    refine x_seq ?_
    by_cases h1 : i < (list.length : Int)
    ·have hi : i.toNat < list.length := by omega
     refine x_r [(3, .dec true)] [0, 1, 6, 13] [] [slHyp false list, Sv label, I i, Bv true] [] [i < (list.length : Int)] ⟨h1, trivial⟩ ?_
     refine xe_then ?_
     refine x_true rfl ?_
     refine x_skip ?_
     refine xe_then ?_
     refine x_seq ?_
     refine x_block ?_
     refine x_seq ?_
     by_cases h2 : ((at_ list i.toNat).Label) = label
     ·have hlq := h2
      refine x_r [(6, .dec true)] [0, 1, 6, 22] [] [slHyp false list, Sv label, I i, Bv true] [] [(0 : Int) ≤ i ∧ i < (list.length : Int), ((at_ list i.toNat).Label) = label] ⟨⟨(by omega), (by omega)⟩, h2, trivial⟩ ?_
      refine xe_then ?_
      refine x_true rfl ?_
      refine xR [] [4, 5] [] [I ((at_ list i.toNat).Cost), I 0] [] [(0 : Int) ≤ i ∧ i < (list.length : Int)] ⟨⟨(by omega), (by omega)⟩, trivial⟩ ?_
      refine x_ret ?_
      refine xe_ret_block (xe_ret_then (xe_loop_ret (xe_ret_block (xe_ret_then ?_))))
      refine xe_end ((at_ list i.toNat).Cost, 0) (show (0 = 0 → ∃ h ∈ list, h.Label = label ∧ h.Cost = ((at_ list i.toNat).Cost)) ∧ ((∃ h ∈ list, h.Label = label) → 0 = 0) ∧ (True) from ⟨(by first | (exact fun _ => ⟨_, at_mem hi, hlq, rfl⟩) | (intro h_; exact absurd h_ (by decide))), (by first | (exact fun _ => rfl) | (exact fun q => absurd q hnn)), trivial⟩) (trivial) (.tup [I ((at_ list i.toNat).Cost), I 0]) (by kernel_rfl) (.inl rfl) (fun _ => rfl) (fun _ => (by simp [tagged, taggedL]))
     have hlq := h2
     refine x_r [(6, .dec false)] [0, 1, 6, 22] [] [slHyp false list, Sv label, I i, Bv false] [] [(0 : Int) ≤ i ∧ i < (list.length : Int), ¬ (((at_ list i.toNat).Label) = label)] ⟨⟨(by omega), (by omega)⟩, h2, trivial⟩ ?_
     refine xe_then ?_
     refine x_false rfl ?_
     refine x_skip ?_
     refine xe_block 1 ?_
     refine xe_then ?_
     refine x_r [] [0, 1, 6] [] [slHyp false list, Sv label, I (i + 1)] [] [inR .i64 (i + 1)] ⟨(inR_i64 (by omega) (by omega)), trivial⟩ ?_
     exact xe_again (i + 1) rfl (show (0 ≤ (i + 1) ∧ (i + 1) ≤ (list.length : Int)) ∧ (∀ j : Nat, (j : Int) < (i + 1) → (at_ list j).Label ≠ label) ∧ True from ⟨(by omega), (by intro j hj; by_cases ej : j = i.toNat; (rw [ej]; exact hlq); exact hz0 j (by omega)), trivial⟩) (by first | (show (((list.length : Int) - (i + 1)).toNat : Nat) < ((list.length : Int) - i).toNat; omega) | (dsimp only; omega))
    have hnn : ¬ ∃ h ∈ list, h.Label = label := fun ⟨h_, hm_, q_⟩ => by obtain ⟨j, hj, e⟩ := List.getElem_of_mem hm_; exact hz0 j (by omega) (by rw [at_eq hj, e]; exact q_)
    refine x_r [(3, .dec false)] [0, 1, 6, 13] [] [slHyp false list, Sv label, I i, Bv false] [] [¬ (i < (list.length : Int))] ⟨h1, trivial⟩ ?_
    refine xe_then ?_
    refine x_false rfl ?_
    refine x_exit ?_
    refine xe_exit_then ?_
    refine xe_loop_exit ?_
    refine xe_exit_same ?_
    refine xe_then ?_
    refine xR [] [4, 5] [] [I 0, I 3] [] [] trivial ?_
    refine x_ret ?_
    refine xe_end (0, 3) (show (3 = 0 → ∃ h ∈ list, h.Label = label ∧ h.Cost = 0) ∧ ((∃ h ∈ list, h.Label = label) → 3 = 0) ∧ (True) from ⟨(by first | (exact fun _ => ⟨_, at_mem hi, hlq, rfl⟩) | (intro h_; exact absurd h_ (by decide))), (by first | (exact fun _ => rfl) | (exact fun q => absurd q hnn)), trivial⟩) (trivial) (.tup [I 0, I 3]) (by kernel_rfl) (.inl rfl) (fun _ => rfl) (fun _ => (by simp [tagged, taggedL]))
  obtain ⟨⟨v, c⟩, ⟨hh0, hh1, _⟩, hc⟩ := hh
  exact ⟨v, c, hh0, hh1, hc⟩



-- impl.BestHyp
theorem BestHyp_ok (list : List Hyp) (ok : okHyps list) : ∃ (v : Hyp) (c : Int), (0 < list.length → v = at_ list 0 ∧ c = 0) ∧ Con Tryz.prog 9 [slHyp false list] false (.tup [agHyp v, I c]) := by
  have hh : ∃ r : Hyp × Int, ((0 < list.length → r.1 = at_ list 0 ∧ r.2 = 0) ∧ (True)) ∧ CallOK Tryz.prog 9 [slHyp false list] (lookO []) false (.tup [agHyp r.1, I r.2]) (lookO []) := by
    refine fn_okX (Φ := fun r : Hyp × Int => (0 < list.length → r.1 = at_ list 0 ∧ r.2 = 0) ∧ (True)) [] (fun r => []) (fn := Tryz.f9) (nt := 15) Tryz.func9 rfl rfl (args := [slHyp false list]) rfl (allcons (.inl ⟨rfl, tagHyp false _⟩) allnil) (res := fun r => .tup [agHyp r.1, I r.2]) ?_
    refine xR [(0, .new 2)] [0, 2] [2] [slHyp false list, .ref 2 0] [some (.box [Sv (⟨#[]⟩ : ByteArray), I 0])] [] trivial ?_
    refine x_seq ?_
    refine xR [(1, .call [(true, .any)] true (Bv true))] [0, 2, 6] [2] [slHyp false list, .ref 2 0, Bv false] [some (.box [Sv (⟨#[]⟩ : ByteArray), I 0])] [Con Tryz.prog 17 [slHyp false list] true (Bv true) ∧ True] ⟨⟨(implValidHyps_ok list ok), trivial⟩, trivial⟩ ?_
    refine x_false rfl ?_
    refine x_skip ?_
    refine xe_then ?_
    refine x_seq ?_
    refine x_seq ?_
    by_cases h1 : (list.length : Int) = 0
    ·refine x_r [(2, .dec true)] [0, 2, 10] [2] [slHyp false list, .ref 2 0, Bv true] [some (.box [Sv (⟨#[]⟩ : ByteArray), I 0])] [(list.length : Int) = 0] ⟨h1, trivial⟩ ?_
     refine xe_then ?_
     refine x_true rfl ?_
     refine xR [] [2, 3] [2] [.ref 2 0, I 3] [some (.box [Sv (⟨#[]⟩ : ByteArray), I 0])] [] trivial ?_
     refine x_ret ?_
     refine xe_ret_then ?_
     refine xe_end ((Hyp.mk (⟨#[]⟩ : ByteArray) 0), 3) (show (0 < list.length → (Hyp.mk (⟨#[]⟩ : ByteArray) 0) = at_ list 0 ∧ 3 = 0) ∧ (True) from ⟨(by first | (exact fun _ => ⟨rfl, rfl⟩) | (intro h_; omega)), trivial⟩) (trivial) (.tup [.agg [Sv (⟨#[]⟩ : ByteArray), I 0], I 3]) (by kernel_rfl) (.inl rfl) (fun h => by cases h) (fun h => by cases h)
    refine x_r [(2, .dec false)] [0, 2, 10] [2] [slHyp false list, .ref 2 0, Bv false] [some (.box [Sv (⟨#[]⟩ : ByteArray), I 0])] [¬ ((list.length : Int) = 0)] ⟨h1, trivial⟩ ?_
    refine xe_then ?_
    refine x_false rfl ?_
    refine x_skip ?_
    refine xe_then ?_
    refine xR [] [2, 3] [2] [.ref 2 0, I 0] [some (bxHyp (at_ list 0))] [(0 : Int) ≤ 0 ∧ 0 < (list.length : Int)] ⟨⟨(by omega), (by omega)⟩, trivial⟩ ?_
    refine x_ret ?_
    refine xe_end ((at_ list 0), 0) (show (0 < list.length → (at_ list 0) = at_ list 0 ∧ 0 = 0) ∧ (True) from ⟨(by first | (exact fun _ => ⟨rfl, rfl⟩) | (intro h_; omega)), trivial⟩) (trivial) (.tup [agHyp (at_ list 0), I 0]) (by kernel_rfl) (.inl rfl) (fun h => by cases h) (fun h => by cases h)
  obtain ⟨⟨v, c⟩, ⟨hh0, _⟩, hc⟩ := hh
  exact ⟨v, c, hh0, hc⟩



def a2AtI (code : List Int) (i n : Int) : Int := if (code.length : Int) ≤ i ∨ n < 1 then 0 else at_ code i.toNat % n
theorem a2At_bd (code : List Int) (i : Int) {n : Int} (hn : 1 ≤ n) : 0 ≤ a2AtI code i n ∧ a2AtI code i n < n := by
  unfold a2AtI
  split
  · omega
  · exact ⟨Int.emod_nonneg _ (by omega), Int.emod_lt_of_pos _ (by omega)⟩


-- laws.a2At
theorem a2At_ok (code : List Int) (i : Int) (n : Int) (hc : (∀ j, j < code.length → 0 ≤ at_ code j ∧ at_ code j ≤ 255)) (ha : 0 ≤ i) : Con Tryz.prog 10 [slU8 false code, I i, I n] true (I (a2AtI code i n)) := by
  refine fn_ok (fn := Tryz.f10) (nt := 22) Tryz.func10 rfl rfl rfl rfl (by simp [taggedL, tagged, tagU8]) fun B hB => ?_
  refine aw_lens (x := slU8 false code) 0 rfl (fun len_code => ?_)
  simp [LenOK, LenL, cU8, fU8, slU8] at len_code
  refine aR [] [0, 1, 2] [] [slU8 false code, I i, I n] [] [] hB trivial ?_
  refine aw_seq ?_
  refine aw_seq ?_
  by_cases h1 : (code.length : Int) ≤ i
  ·refine aw_r [(3, .dec true)] [0, 1, 2, 14] [] [slU8 false code, I i, I n, Bv true] [] [(code.length : Int) ≤ i] hB ⟨h1, trivial⟩ ?_
   refine ae_then ?_
   refine aw_true rfl ?_
   refine aR [] [6] [] [I 0] [] [] hB trivial ?_
   refine aw_ret ?_
   refine ae_ret_then ?_
   refine ae_ret hB (I 0) (by kernel_rfl) (.inl (by simp [a2AtI, *])) rfl (fun _ => trivial)
  have hq := hc i.toNat (by omega)
  by_cases h2 : n < 1
  ·refine aw_r [(3, .dec false), (6, .dec true)] [0, 1, 2, 14] [] [slU8 false code, I i, I n, Bv true] [] [¬ ((code.length : Int) ≤ i), n < 1] hB ⟨h1, h2, trivial⟩ ?_
   refine ae_then ?_
   refine aw_true rfl ?_
   refine aR [] [6] [] [I 0] [] [] hB trivial ?_
   refine aw_ret ?_
   refine ae_ret_then ?_
   refine ae_ret hB (I 0) (by kernel_rfl) (.inl (by simp [a2AtI, *])) rfl (fun _ => trivial)
  refine aw_r [(3, .dec false), (6, .dec false)] [0, 1, 2, 14] [] [slU8 false code, I i, I n, Bv false] [] [¬ ((code.length : Int) ≤ i), ¬ (n < 1)] hB ⟨h1, h2, trivial⟩ ?_
  refine ae_then ?_
  refine aw_false rfl ?_
  refine aw_skip ?_
  refine ae_then ?_
  refine aR [(6, .nn)] [6] [] [I ((at_ code i.toNat) % n)] [] [(0 : Int) ≤ i ∧ i < (code.length : Int), inR .i64 (at_ code i.toNat), (0 : Int) ≤ (at_ code i.toNat) ∧ (0 : Int) < n] hB ⟨⟨(by omega), (by omega)⟩, (inR_i64 (by omega) (by omega)), ⟨(by omega), (by omega)⟩, trivial⟩ ?_
  refine aw_ret ?_
  refine ae_ret hB (I ((at_ code i.toNat) % n)) (by kernel_rfl) (.inl (by simp [a2AtI, *])) rfl (fun _ => trivial)



-- impl.RaiseHyps
theorem RaiseHyps_ok (list : List Hyp) (d : Int) (ok : okHb list) (hl : list.length ≤ 7) (hd : 0 ≤ d ∧ d ≤ 200) : ∃ (v : List Hyp) (c : Int), (v = list.map (rsH d)) ∧ (c = 0) ∧ Con Tryz.prog 11 [slHyp false list, I d] true (.tup [slHyp true v, I c]) := by
  have hh : ∃ r : (List Hyp) × Int, ((r.1 = list.map (rsH d)) ∧ (r.2 = 0) ∧ (True)) ∧ CallOK Tryz.prog 11 [slHyp false list, I d] (lookO []) true (.tup [slHyp true r.1, I r.2]) (lookO []) := by
    refine fn_okX (Φ := fun r : (List Hyp) × Int => (r.1 = list.map (rsH d)) ∧ (r.2 = 0) ∧ (True)) [] (fun r => []) (fn := Tryz.f11) (nt := 36) Tryz.func11 rfl rfl (args := [slHyp false list, I d]) rfl (allcons (.inl ⟨rfl, tagHyp false _⟩) (allcons (.inl ⟨rfl, trivial⟩) allnil)) (res := fun r => .tup [slHyp true r.1, I r.2]) ?_
    refine xR [] [0, 1] [] [slHyp false list, I d] [] [] trivial ?_
    refine x_seq ?_
    refine xR [(1, .call [(true, .any)] true (Bv true))] [0, 1, 11] [] [slHyp false list, I d, Bv false] [] [Con Tryz.prog 17 [slHyp false list] true (Bv true) ∧ True] ⟨⟨(implValidHyps_ok list (okHb_ok ok (by omega))), trivial⟩, trivial⟩ ?_
    refine x_false rfl ?_
    refine x_skip ?_
    refine xe_then ?_
    refine x_seq ?_
    refine xR [(1, .call [(true, .any)] true (Bv true))] [0, 1, 14] [] [slHyp false list, I d, Bv false] [] [Con Tryz.prog 22 [I d] true (Bv true) ∧ True] ⟨⟨(con_bool (inB_iff.2 ⟨by omega, by omega⟩) (isCost_ok d)), trivial⟩, trivial⟩ ?_
    refine x_false rfl ?_
    refine x_skip ?_
    refine xe_then ?_
    refine xR [] [0, 1, 6] [] [slHyp false list, I d, nilA] [] [] trivial ?_
    refine x_seq ?_
    refine xR [] [1, 6, 15, 16, 17] [] [I d, nilA, slHyp false list, I (list.length : Int), I 0] [] [] trivial ?_
    refine x_block ?_
    refine x_nil 6 706 2 (fun _ => []) (by kernel_rfl) ?_
    refine x_weak [] (T := [(1, I d), (6, .arr 706), (15, slHyp false list), (16, I (list.length : Int)), (17, I 0)]) (O := [(706, tAHyp ([] : List Hyp))]) rfl (⟨.inl rfl, .inl rfl, .inl rfl, .inl rfl, .inl rfl, trivial⟩) (⟨.inr ⟨rfl, (by first | rfl | (simp; done) | (simp; omega) | omega), fun i_ hi_ => absurd hi_ (Nat.not_lt_zero _)⟩, trivial⟩) ?_
    refine x_loop (X := (List Hyp) × Int) (fun x => mkS [(1, I d), (6, .arr 706), (15, slHyp false list), (16, I (list.length : Int)), (17, I x.2)] [(706, tAHyp x.1)]) (fun x => (0 ≤ x.2 ∧ x.2 ≤ (list.length : Int)) ∧ (x.1 = (list.take x.2.toNat).map (rsH d)) ∧ ((x.1.length : Int) ≤ x.2) ∧ True) (fun x => ((list.length : Int) - x.2).toNat) (([] : List Hyp), 0) rfl (show (0 ≤ (0 : Int) ∧ (0 : Int) ≤ (list.length : Int)) ∧ (([] : List Hyp) = (list.take (0 : Int).toNat).map (rsH d)) ∧ ((([] : List Hyp).length : Int) ≤ (0 : Int)) ∧ True from ⟨(by omega), (by simp), (by simp), trivial⟩) (fun x hI => ?_)
    obtain ⟨out, t17⟩ := x
    obtain ⟨hi0, hou, hol, _⟩ : (0 ≤ t17 ∧ t17 ≤ (list.length : Int)) ∧ (out = (list.take t17.toNat).map (rsH d)) ∧ ((out.length : Int) ≤ t17) ∧ True := hI
    show XW _ _ _ _ (mkS [(1, I d), (6, .arr 706), (15, slHyp false list), (16, I (list.length : Int)), (17, I t17)] [(706, tAHyp out)]) _ _
    refine x_seq ?_
    by_cases h1 : t17 < (list.length : Int)
    ·have hi : t17.toNat < list.length := by omega
     have hed := ok.1 _ (at_mem hi)
     have hii : (t17 + 1).toNat = t17.toNat + 1 := by omega
     refine x_r [(0, .dec true)] [1, 6, 15, 16, 17, 18] [706] [I d, .arr 706, slHyp false list, I (list.length : Int), I t17, Bv true] [some (tAHyp out)] [t17 < (list.length : Int)] ⟨h1, trivial⟩ ?_
     refine xe_then ?_
     refine x_seq ?_
     refine x_true rfl ?_
     refine x_skip ?_
     refine xe_then ?_
     refine x_seq ?_
     refine x_block ?_
     refine xR [(2, .new 8)] [1, 6, 8, 15, 16, 17] [8, 706] [I d, .arr 706, .ref 8 0, slHyp false list, I (list.length : Int), I t17] [some (bxHyp (at_ list t17.toNat)), some (tAHyp out)] [(0 : Int) ≤ t17 ∧ t17 < (list.length : Int)] ⟨⟨(by omega), (by omega)⟩, trivial⟩ ?_
     refine x_r [(8, .new 29), (9, .new 30)] [1, 6, 15, 16, 17] [30] [I d, .arr 30, slHyp false list, I (list.length : Int), I t17] [some (.arr 2 (out.length + 1) (catF out.length (fHyp out) (litF [Sv ((at_ list t17.toNat).Label), I (((at_ list t17.toNat).Cost) + d)] 2)))] [inR .i64 (((at_ list t17.toNat).Cost) + d), (out.length + 1) * 24 ≤ 140737488355328] ⟨(inR_i64 (by omega) (by omega)), (by omega), trivial⟩ ?_
     refine xe_block 1 ?_
     refine xe_then ?_
     refine x_r [] [1, 6, 15, 16, 17] [30] [I d, .arr 30, slHyp false list, I (list.length : Int), I (t17 + 1)] [some (.arr 2 (out.length + 1) (catF out.length (fHyp out) (litF [Sv ((at_ list t17.toNat).Label), I (((at_ list t17.toNat).Cost) + d)] 2)))] [inR .i64 (t17 + 1)] ⟨(inR_i64 (by omega) (by omega)), trivial⟩ ?_
     refine xe_weak [(706, 30)] (T := [(1, I d), (6, .arr 706), (15, slHyp false list), (16, I (list.length : Int)), (17, I (t17 + 1))]) (O := [(706, tAHyp (out ++ [(Hyp.mk ((at_ list t17.toNat).Label) (((at_ list t17.toNat).Cost) + d))]))]) rfl (⟨.inl rfl, .inl rfl, .inl rfl, .inl rfl, .inl rfl, trivial⟩) (⟨.inr ⟨rfl, (by first | rfl | (simp; done) | (simp; omega) | omega), fun i_ hi_ => .inl (cat_snoc (enc := cHyp) (xs := out) rfl i_ hi_)⟩, trivial⟩) (xe_again ((out ++ [(Hyp.mk ((at_ list t17.toNat).Label) (((at_ list t17.toNat).Cost) + d))]), (t17 + 1)) rfl (show (0 ≤ (t17 + 1) ∧ (t17 + 1) ≤ (list.length : Int)) ∧ ((out ++ [(Hyp.mk ((at_ list t17.toNat).Label) (((at_ list t17.toNat).Cost) + d))]) = (list.take (t17 + 1).toNat).map (rsH d)) ∧ (((out ++ [(Hyp.mk ((at_ list t17.toNat).Label) (((at_ list t17.toNat).Cost) + d))]).length : Int) ≤ (t17 + 1)) ∧ True from ⟨(by omega), (by rw [hou, hii, List.take_succ_eq_append_getElem hi, List.map_append, ← at_eq hi]; rfl), (by (simp; omega)), trivial⟩) (by first | (show (((list.length : Int) - (t17 + 1)).toNat : Nat) < ((list.length : Int) - t17).toNat; omega) | (dsimp only; omega)))
    have hfin : out = list.map (rsH d) := by rw [hou, List.take_of_length_le (by omega)]
    refine x_r [(0, .dec false)] [1, 6, 15, 16, 17, 18] [706] [I d, .arr 706, slHyp false list, I (list.length : Int), I t17, Bv false] [some (tAHyp out)] [¬ (t17 < (list.length : Int))] ⟨h1, trivial⟩ ?_
    refine xe_then ?_
    refine x_seq ?_
    refine x_false rfl ?_
    refine x_exit ?_
    refine xe_exit_then ?_
    refine xe_loop_exit ?_
    refine xe_exit_same ?_
    refine xe_then ?_
    refine x_seq ?_
    refine xR [(1, .call [(false, slHyp false out)] true (Bv true))] [6, 34] [706] [.arr 706, Bv false] [some (tAHyp out)] [Con Tryz.prog 17 [slHyp false out] true (Bv true) ∧ ((false = true → true = true) ∧ 2 = 2 ∧ out.length = out.length ∧ ∀ i_, i_ < out.length → (fHyp out) i_ = (fHyp out) i_ ∨ (AV.idsL ((fHyp out) i_) = [] ∧ leL (fun _ => none) false ((fHyp out) i_) ((fHyp out) i_))) ∧ True] ⟨⟨(implValidHyps_ok out (by rw [hfin]; exact okHyps_rs ok (by omega) (by omega))), ⟨(fun h => by cases h), rfl, rfl, fun i _ => .inl rfl⟩, trivial⟩, trivial⟩ ?_
    refine x_false rfl ?_
    refine x_skip ?_
    refine xe_then ?_
    refine xR [] [4, 5] [706] [.arr 706, I 0] [some (tAHyp out)] [] trivial ?_
    refine x_ret ?_
    refine xe_end (out, 0) (show (out = list.map (rsH d)) ∧ (0 = 0) ∧ (True) from ⟨(by first | exact hfin | rfl), (by first | exact hfin | rfl), trivial⟩) (trivial) (.tup [.arr 706, I 0]) (by kernel_rfl) (.inr ⟨⟨(fun _ => rfl), rfl, rfl, fun i _ => .inl rfl⟩, ⟨rfl, rfl⟩⟩) (fun _ => rfl) (fun _ => (by simp [tagged, taggedL, tagHyp]))
  obtain ⟨⟨v, c⟩, ⟨hh0, hh1, _⟩, hc⟩ := hh
  exact ⟨v, c, hh0, hh1, hc⟩



-- impl.MarginOf
theorem MarginOf_ok (list : List Hyp) (ok : okHyps list) : Con Tryz.prog 12 [slHyp false list] true (.tup [I ((mgR list).1), I ((mgR list).2)]) := by
  have hcb : ∀ i_ : Nat, i_ < list.length → 0 ≤ (at_ list i_).Cost ∧ (at_ list i_).Cost ≤ 1000000 := fun i_ hi_ => (ok.2.1 i_ hi_).2
  refine fn_ok (fn := Tryz.f12) (nt := 19) Tryz.func12 rfl rfl rfl rfl (by simp [taggedL, tagged, tagHyp]) fun B hB => ?_
  refine aw_lens (x := slHyp false list) 0 rfl (fun len_list => ?_)
  simp [LenOK, LenL, cHyp, fHyp, slHyp] at len_list
  refine aR [] [0] [] [slHyp false list] [] [] hB trivial ?_
  refine aw_seq ?_
  refine aR [(1, .call [(true, .any)] true (Bv true))] [0, 6] [] [slHyp false list, Bv false] [] [Con Tryz.prog 17 [slHyp false list] true (Bv true) ∧ True] hB ⟨⟨(implValidHyps_ok list ok), trivial⟩, trivial⟩ ?_
  refine aw_false rfl ?_
  refine aw_skip ?_
  refine ae_then ?_
  refine aw_seq ?_
  refine aw_seq ?_
  by_cases h1 : (list.length : Int) < 2
  ·have hmg : mgR list = (0, 6) := if_pos h1
   refine aw_r [(2, .dec true)] [0, 9] [] [slHyp false list, Bv true] [] [(list.length : Int) < 2] hB ⟨h1, trivial⟩ ?_
   refine ae_then ?_
   refine aw_true rfl ?_
   refine aR [] [2, 3] [] [I 0, I 6] [] [] hB trivial ?_
   refine aw_ret ?_
   refine ae_ret_then ?_
   refine ae_ret hB (.tup [I 0, I 6]) (by kernel_rfl) (.inl (by rw [hmg])) rfl (fun _ => (by simp [tagged, taggedL]))
  have hmg : mgR list = ((at_ list 1).Cost - (at_ list 0).Cost, 0) := if_neg h1
  have hc0 := hcb 0 (by omega)
  have hc1 := hcb 1 (by omega)
  refine aw_r [(2, .dec false)] [0, 9] [] [slHyp false list, Bv false] [] [¬ ((list.length : Int) < 2)] hB ⟨h1, trivial⟩ ?_
  refine ae_then ?_
  refine aw_false rfl ?_
  refine aw_skip ?_
  refine ae_then ?_
  refine aR [] [2, 3] [] [I (((at_ list 1).Cost) - ((at_ list 0).Cost)), I 0] [] [(0 : Int) ≤ 1 ∧ 1 < (list.length : Int), (0 : Int) ≤ 0 ∧ 0 < (list.length : Int), inR .i64 (((at_ list 1).Cost) - ((at_ list 0).Cost))] hB ⟨⟨(by omega), (by omega)⟩, ⟨(by omega), (by omega)⟩, (inR_i64 (by omega) (by omega)), trivial⟩ ?_
  refine aw_ret ?_
  refine ae_ret hB (.tup [I (((at_ list 1).Cost) - ((at_ list 0).Cost)), I 0]) (by kernel_rfl) (.inl (by rw [hmg])) rfl (fun _ => (by simp [tagged, taggedL]))





def strB (xs : List Int) : ByteArray := ⟨(xs.map fun n => UInt8.ofNat n.toNat).toArray⟩
def bytesL (s : ByteArray) : List Int := s.data.toList.map fun b => (b.toNat : Int)
@[simp] theorem bytesL_len (s : ByteArray) : (bytesL s).length = s.size := by unfold bytesL; rw [List.length_map, Array.length_toList]; rfl

def decB (n : Int) : ByteArray := ⟨(Lib.itoa n).toArray⟩
def digs (u : Nat) : List Int := if h : u = 0 then [] else digs (u / 10) ++ [48 + ((u % 10 : Nat) : Int)]
termination_by u
decreasing_by omega
theorem digs_zero : digs 0 = [] := by rw [digs]; simp
theorem digs_pos {u : Nat} (h : u ≠ 0) : digs u = digs (u / 10) ++ [48 + ((u % 10 : Nat) : Int)] := by rw [digs]; simp [h]
theorem digs_len : ∀ (k u : Nat), u < 10 ^ k → (digs u).length ≤ k := by
  intro k
  induction k with
  | zero => intro u h; have : u = 0 := by simpa using h
            subst this; simp [digs_zero]
  | succ k ih =>
    intro u h
    by_cases e : u = 0
    · subst e; simp [digs_zero]
    · rw [digs_pos e]
      have := ih (u / 10) (by rw [Nat.pow_succ] at h; omega)
      simp; omega
theorem digs_dec : ∀ u : Nat, u ≠ 0 → (digs u).map (fun n => UInt8.ofNat n.toNat) = Lib.decDigits u := by
  intro u
  induction u using Nat.strongRecOn with
  | _ u ih =>
    intro e
    rw [digs_pos e, Lib.decDigits, List.map_append]
    by_cases h : u < 10
    · rw [dif_pos h, show u / 10 = 0 by omega, digs_zero]
      simp only [List.map_nil, List.nil_append, List.map_cons]
      congr 2
      omega
    · rw [dif_neg h, ih (u / 10) (by omega) (by omega)]
      simp only [List.map_cons, List.map_nil]
      congr 3
theorem decB_pos {n : Int} (h : 0 < n) : decB n = strB (digs n.natAbs) := by
  unfold decB strB Lib.itoa
  rw [if_neg (by omega), digs_dec _ (by omega), show n.toNat = n.natAbs by omega]
theorem decB_neg {n : Int} (h : n < 0) : decB n = (⟨#[45]⟩ : ByteArray) ++ strB (digs n.natAbs) := by
  unfold decB strB Lib.itoa
  rw [if_pos h, digs_dec _ (by omega)]
  apply ByteArray.ext
  rw [ByteArray.data_append]
  simp
theorem decB_zero : decB 0 = (⟨#[48]⟩ : ByteArray) := by
  unfold decB Lib.itoa
  rw [if_neg (by decide)]
  simp [Lib.decDigits]
theorem strB_size' (xs : List Int) : (strB xs).size = xs.length := by simp [strB, ByteArray.size]
theorem decB_size {n : Int} (h : -9223372036854775808 ≤ n ∧ n ≤ 9223372036854775807) : (decB n).size ≤ 20 := by
  have hl := digs_len 19 n.natAbs (by omega)
  rcases Int.lt_trichotomy n 0 with h1 | h1 | h1
  · rw [decB_neg h1, ByteArray.size_append, strB_size']
    have : (⟨#[45]⟩ : ByteArray).size = 1 := rfl
    omega
  · subst h1; rw [decB_zero]; decide
  · rw [decB_pos h1, strB_size']; omega

-- strconv.FormatInt
theorem formatInt_ok (n base : Int) (h : -9223372036854775808 ≤ n ∧ n ≤ 9223372036854775807) (hb : base = 10) : Con Tryz.prog 46 [I n, I base] true (Sv (decB n)) := by
  subst hb
  refine con_of_calls (vals := [.int .i64 n, .int .i64 10]) fun w hw => ?_
  refine (Tryz.strconv_FormatInt_10 n h.1 h.2 w (WX_tab hw)).mono ?_
  rintro e w' ⟨rfl, k, os, rfl⟩
  exact ⟨rfl, Lib.below_grow _ _ (Nat.le_refl _) k os⟩



-- impl.Decimal
theorem implDecimal_ok (n : Int) (hn : -9223372036854775808 ≤ n ∧ n ≤ 9223372036854775807) : Con Tryz.prog 26 [I n] true (Sv (decB n)) := by
  refine fn_ok (fn := Tryz.f26) (nt := 5) Tryz.func26 rfl rfl rfl rfl (by simp [taggedL, tagged]) fun B hB => ?_
  refine aR [] [0] [] [I n] [] [] hB trivial ?_
  refine aR [(1, .call [(true, .any), (true, .any)] true (Sv (decB n)))] [2] [] [Sv (decB n)] [] [Con Tryz.prog 46 [I n, I 10] true (Sv (decB n)) ∧ True] hB ⟨⟨(formatInt_ok n 10 (by omega) rfl), trivial⟩, trivial⟩ ?_
  refine aw_ret ?_
  refine ae_ret hB (Sv (decB n)) (by kernel_rfl) (.inl rfl) rfl (fun _ => trivial)


end Go.Proofs.YtapmeemeciigdaaGreatDoor.Ax
