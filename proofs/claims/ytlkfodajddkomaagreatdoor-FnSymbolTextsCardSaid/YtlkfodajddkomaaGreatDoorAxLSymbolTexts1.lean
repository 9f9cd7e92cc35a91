/- Contracts that the statement FnSymbolTexts reaches, part 1. No conditions. -/
import Derived.Test.YtlkfodajddkomaaGreatDoorAxO
import Derived.Test.YtlkfodajddkomaaGreatDoorShelf
import Derived.Test.YtlkfodajddkomaaGreatDoorTie
import Derived.Test.YtlkfodajddkomaaGreatDoorCards
import Derived.LaidMore
import Derived.Lay
import Derived.Lib.IndexBytes
import Derived.Lib.ItoaNum
import Derived.Lib.ParseIntBCases
import Derived.Lib.ParseIntBTie
import Derived.Lib.SplitLaws
import Derived.OpenShut
import Derived.SevenTiedAt
import Derived.Stop.Joined
import Derived.Test.YtlkfodajddkomaaGreatDoorAxBd
import Derived.Test.YtlkfodajddkomaaGreatDoorAxR
import Derived.Test.YtlkfodajddkomaaGreatDoorAxY
namespace Go.Proofs.YtlkfodajddkomaaGreatDoor.Ax
open Go.RowKit Go.ChangeShapes Go.WideShapes
set_option linter.unusedVariables false
set_option linter.unusedSimpArgs false


def cU8 (x : Int) : List AV := [.val (.int .u8 x)]
def fU8 (xs : List Int) (i : Nat) : List AV := cU8 (at_ xs i)
def slU8 (fr : Bool) (xs : List Int) : AV := .sl fr 1 xs.length (fU8 xs)
theorem tagcU8 (t : Bool) (x : Int) : taggedL t (cU8 x) := by simp [cU8, taggedL, tagged]
theorem tagU8 (t : Bool) (xs : List Int) : tagged t (slU8 t xs) := by simp only [slU8, tagged]; exact ⟨trivial, fun i _ => tagcU8 t _⟩
theorem lenU8 (fr : Bool) (xs : List Int) : lenA noOb (slU8 fr xs) = some xs.length := rfl
abbrev tAU8 (xs : List Int) : Ob := .arr 1 xs.length (fU8 xs)
def cS (x : ByteArray) : List AV := [Sv x]
def fS (xs : List ByteArray) (i : Nat) : List AV := cS (at_ xs i)
def slS (fr : Bool) (xs : List ByteArray) : AV := .sl fr 1 xs.length (fS xs)
theorem tagcS (t : Bool) (x : ByteArray) : taggedL t (cS x) := by simp [cS, taggedL, tagged]
theorem tagS (t : Bool) (xs : List ByteArray) : tagged t (slS t xs) := by simp only [slS, tagged]; exact ⟨trivial, fun i _ => tagcS t _⟩
theorem lenS (fr : Bool) (xs : List ByteArray) : lenA noOb (slS fr xs) = some xs.length := rfl
abbrev tAS (xs : List ByteArray) : Ob := .arr 1 xs.length (fS xs)
def cI (x : Int) : List AV := [I x]
def fI (xs : List Int) (i : Nat) : List AV := cI (at_ xs i)
def slI (fr : Bool) (xs : List Int) : AV := .sl fr 1 xs.length (fI xs)
theorem tagcI (t : Bool) (x : Int) : taggedL t (cI x) := by simp [cI, taggedL, tagged]
theorem tagI (t : Bool) (xs : List Int) : tagged t (slI t xs) := by simp only [slI, tagged]; exact ⟨trivial, fun i _ => tagcI t _⟩
theorem lenI (fr : Bool) (xs : List Int) : lenA noOb (slI fr xs) = some xs.length := rfl
abbrev tAI (xs : List Int) : Ob := .arr 1 xs.length (fI xs)
structure Box where
  X1 : Int
  Y1 : Int
  X2 : Int
  Y2 : Int
deriving DecidableEq, Inhabited
def cBox (x : Box) : List AV := [I x.X1, I x.Y1, I x.X2, I x.Y2]
def fBox (xs : List Box) (i : Nat) : List AV := cBox (at_ xs i)
def slBox (fr : Bool) (xs : List Box) : AV := .sl fr 4 xs.length (fBox xs)
theorem tagcBox (t : Bool) (x : Box) : taggedL t (cBox x) := by simp [cBox, taggedL, tagged]
theorem tagBox (t : Bool) (xs : List Box) : tagged t (slBox t xs) := by simp only [slBox, tagged]; exact ⟨trivial, fun i _ => tagcBox t _⟩
theorem lenBox (fr : Bool) (xs : List Box) : lenA noOb (slBox fr xs) = some xs.length := rfl
abbrev bxBox (x : Box) : Ob := .box [I x.X1, I x.Y1, I x.X2, I x.Y2]
abbrev agBox (x : Box) : AV := .agg [I x.X1, I x.Y1, I x.X2, I x.Y2]
abbrev tABox (xs : List Box) : Ob := .arr 4 xs.length (fBox xs)
structure Symbol where
  Label : ByteArray
  Box : Box
deriving DecidableEq, Inhabited
def cSymbol (x : Symbol) : List AV := [Sv x.Label, I x.Box.X1, I x.Box.Y1, I x.Box.X2, I x.Box.Y2]
def fSymbol (xs : List Symbol) (i : Nat) : List AV := cSymbol (at_ xs i)
def slSymbol (fr : Bool) (xs : List Symbol) : AV := .sl fr 5 xs.length (fSymbol xs)
theorem tagcSymbol (t : Bool) (x : Symbol) : taggedL t (cSymbol x) := by simp [cSymbol, taggedL, tagged]
theorem tagSymbol (t : Bool) (xs : List Symbol) : tagged t (slSymbol t xs) := by simp only [slSymbol, tagged]; exact ⟨trivial, fun i _ => tagcSymbol t _⟩
theorem lenSymbol (fr : Bool) (xs : List Symbol) : lenA noOb (slSymbol fr xs) = some xs.length := rfl
abbrev bxSymbol (x : Symbol) : Ob := .box [Sv x.Label, I x.Box.X1, I x.Box.Y1, I x.Box.X2, I x.Box.Y2]
abbrev agSymbol (x : Symbol) : AV := .agg [Sv x.Label, I x.Box.X1, I x.Box.Y1, I x.Box.X2, I x.Box.Y2]
abbrev tASymbol (xs : List Symbol) : Ob := .arr 5 xs.length (fSymbol xs)
def cLU8 (fr : Bool) (x : List Int) : List AV := [slU8 fr x]
def fLU8 (fr : Bool) (xs : List (List Int)) (i : Nat) : List AV := cLU8 fr (at_ xs i)
def slLU8 (fr : Bool) (xs : List (List Int)) : AV := .sl fr 1 xs.length (fLU8 fr xs)
theorem tagcLU8 (t : Bool) (x : List Int) : taggedL t (cLU8 t x) := by simp [cLU8, taggedL, tagged, tagU8]
theorem tagLU8 (t : Bool) (xs : List (List Int)) : tagged t (slLU8 t xs) := by simp only [slLU8, tagged]; exact ⟨trivial, fun i _ => tagcLU8 t _⟩
theorem lenLU8 (fr : Bool) (xs : List (List Int)) : lenA noOb (slLU8 fr xs) = some xs.length := rfl
theorem idsLU8 (fr : Bool) (x : List Int) : AV.idsL (cLU8 fr x) = [] := rfl
theorem leLU8 (fr : Bool) (x : List Int) (ob : Nat → Option Ob) : leL ob false (cLU8 fr x) (cLU8 false x) := (And.intro (And.intro (fun h => by cases h) (And.intro rfl (And.intro rfl (fun i _ => .inl rfl)))) rfl)
abbrev tALU8 (fr : Bool) (xs : List (List Int)) : Ob := .arr 1 xs.length (fLU8 fr xs)
def cU64 (x : Int) : List AV := [.val (.int .u64 x)]
def fU64 (xs : List Int) (i : Nat) : List AV := cU64 (at_ xs i)
def slU64 (fr : Bool) (xs : List Int) : AV := .sl fr 1 xs.length (fU64 xs)
theorem tagcU64 (t : Bool) (x : Int) : taggedL t (cU64 x) := by simp [cU64, taggedL, tagged]
theorem tagU64 (t : Bool) (xs : List Int) : tagged t (slU64 t xs) := by simp only [slU64, tagged]; exact ⟨trivial, fun i _ => tagcU64 t _⟩
theorem lenU64 (fr : Bool) (xs : List Int) : lenA noOb (slU64 fr xs) = some xs.length := rfl
abbrev tAU64 (xs : List Int) : Ob := .arr 1 xs.length (fU64 xs)
structure l00Src where
  code : List Int
  atx : Int
  seed : Int
deriving DecidableEq, Inhabited
def cl00Src (fr : Bool) (x : l00Src) : List AV := [slU8 fr x.code, I x.atx, .val (.int .u64 x.seed)]
def fl00Src (fr : Bool) (xs : List l00Src) (i : Nat) : List AV := cl00Src fr (at_ xs i)
def sll00Src (fr : Bool) (xs : List l00Src) : AV := .sl fr 3 xs.length (fl00Src fr xs)
theorem tagcl00Src (t : Bool) (x : l00Src) : taggedL t (cl00Src t x) := by simp [cl00Src, taggedL, tagged, tagU8]
theorem tagl00Src (t : Bool) (xs : List l00Src) : tagged t (sll00Src t xs) := by simp only [sll00Src, tagged]; exact ⟨trivial, fun i _ => tagcl00Src t _⟩
theorem lenl00Src (fr : Bool) (xs : List l00Src) : lenA noOb (sll00Src fr xs) = some xs.length := rfl
theorem idsl00Src (fr : Bool) (x : l00Src) : AV.idsL (cl00Src fr x) = [] := rfl
theorem lel00Src (fr : Bool) (x : l00Src) (ob : Nat → Option Ob) : leL ob false (cl00Src fr x) (cl00Src false x) := (And.intro (And.intro (fun h => by cases h) (And.intro rfl (And.intro rfl (fun i _ => .inl rfl)))) (And.intro rfl (And.intro rfl rfl)))
abbrev bxl00Src (x : l00Src) : Ob := .box [slU8 false x.code, I x.atx, .val (.int .u64 x.seed)]
abbrev agl00Src (x : l00Src) : AV := .agg [slU8 false x.code, I x.atx, .val (.int .u64 x.seed)]
abbrev bxl00SrcT (x : l00Src) : Ob := .box [slU8 true x.code, I x.atx, .val (.int .u64 x.seed)]
abbrev agl00SrcT (x : l00Src) : AV := .agg [slU8 true x.code, I x.atx, .val (.int .u64 x.seed)]
abbrev tAl00Src (fr : Bool) (xs : List l00Src) : Ob := .arr 3 xs.length (fl00Src fr xs)
def cLI (fr : Bool) (x : List Int) : List AV := [slI fr x]
def fLI (fr : Bool) (xs : List (List Int)) (i : Nat) : List AV := cLI fr (at_ xs i)
def slLI (fr : Bool) (xs : List (List Int)) : AV := .sl fr 1 xs.length (fLI fr xs)
theorem tagcLI (t : Bool) (x : List Int) : taggedL t (cLI t x) := by simp [cLI, taggedL, tagged, tagI]
theorem tagLI (t : Bool) (xs : List (List Int)) : tagged t (slLI t xs) := by simp only [slLI, tagged]; exact ⟨trivial, fun i _ => tagcLI t _⟩
theorem lenLI (fr : Bool) (xs : List (List Int)) : lenA noOb (slLI fr xs) = some xs.length := rfl
theorem idsLI (fr : Bool) (x : List Int) : AV.idsL (cLI fr x) = [] := rfl
theorem leLI (fr : Bool) (x : List Int) (ob : Nat → Option Ob) : leL ob false (cLI fr x) (cLI false x) := (And.intro (And.intro (fun h => by cases h) (And.intro rfl (And.intro rfl (fun i _ => .inl rfl)))) rfl)
abbrev tALI (fr : Bool) (xs : List (List Int)) : Ob := .arr 1 xs.length (fLI fr xs)

-- laws.f6big
theorem f6big_ok (code : List Int) : Con Tryz.prog 4 [slU8 false code] true (Bv (decide (4096 < (code.length : Int)))) := by
  refine fn_ok (fn := Tryz.f4) (nt := 6) Tryz.func4 rfl rfl rfl rfl (by simp [taggedL, tagged, tagU8]) fun B hB => ?_
  refine aw_lens (x := slU8 false code) 0 rfl (fun len_code => ?_)
  simp [LenOK, LenL, cU8, fU8, slU8] at len_code
  refine aR [] [0] [] [slU8 false code] [] [] hB trivial ?_
  refine aR [] [2] [] [Bv (decide (4096 < (code.length : Int)))] [] [] hB trivial ?_
  refine aw_ret ?_
  refine ae_ret hB (Bv (decide (4096 < (code.length : Int)))) (by kernel_rfl) (.inl rfl) rfl (fun _ => trivial)



def same {α : Type} [DecidableEq α] (x y : α) : Bool := decide (x = y)

theorem at_mem {α : Type} [Inhabited α] {xs : List α} {i : Nat} (h : i < xs.length) : at_ xs i ∈ xs := by rw [at_eq h]; exact List.getElem_mem h


def allN (n : Nat) (p : Nat → Bool) : Bool := (List.range n).all p
def anyN (n : Nat) (p : Nat → Bool) : Bool := !(allN n fun j => !(p j))
theorem allN_iff {n : Nat} {p : Nat → Bool} : allN n p = true ↔ ∀ j, j < n → p j = true := by simp [allN, List.all_eq_true]
theorem allN_at {n : Nat} {p : Nat → Bool} (h : ∀ j, j < n → p j = true) : allN n p = true := allN_iff.2 h
theorem allN_not {n : Nat} {p : Nat → Bool} {k : Nat} (hk : k < n) (h : p k = false) : allN n p = false := by
  rw [← Bool.not_eq_true, allN_iff]; intro h'; rw [h' k hk] at h; cases h
theorem anyN_not (n : Nat) (p : Nat → Bool) : anyN n (fun j => !(p j)) = !(allN n p) := by simp [anyN]
theorem anyN_at {n : Nat} {p : Nat → Bool} {k : Nat} (hk : k < n) (h : p k = true) : anyN n p = true := by
  unfold anyN; rw [allN_not hk (by simp [h])]; rfl
theorem anyN_none {n : Nat} {p : Nat → Bool} (h : ∀ j, j < n → p j = false) : anyN n p = false := by
  unfold anyN; rw [allN_at (fun j hj => by simp [h j hj])]; rfl

def okSrc (s : l00Src) : Prop := (∀ j, j < s.code.length → 0 ≤ at_ s.code j ∧ at_ s.code j ≤ 255) ∧ 0 ≤ s.atx ∧ s.code.length ≤ 4611686018427387904
theorem and_255 (a : Int) : 0 ≤ bitsI .and .u64 a 255 ∧ bitsI .and .u64 a 255 ≤ 255 := by
  obtain ⟨n, hn⟩ : ∃ n : Nat, n = (BitVec.ofInt 64 a &&& BitVec.ofInt 64 255).toNat := ⟨_, rfl⟩
  have h : n ≤ 255 := by rw [hn, BitVec.toNat_and]; exact Nat.and_le_right
  have e : bitsI .and .u64 a 255 = IntKind.u64.wrap (n : Int) := by rw [hn]; rfl
  have w : IntKind.u64.wrap (n : Int) = n := wrap_in (inR_u64 (by omega) (by omega))
  rw [e, w]; omega


-- spec.l00From
theorem l00From_ok (code : List Int) : ∃ (s' : l00Src), (s'.code = code ∧ s'.atx = 0) ∧ CallOK Tryz.prog 26 [slU8 false code] (lookO []) false (.ref 7001 0) (lookO [(7001, bxl00Src s')]) := by
  have hh : ∃ r : l00Src, ((r.code = code ∧ r.atx = 0) ∧ (True)) ∧ CallOK Tryz.prog 26 [slU8 false code] (lookO []) false (.ref 7001 0) (lookO [(7001, bxl00Src r)]) := by
    refine fn_okX (Φ := fun r : l00Src => (r.code = code ∧ r.atx = 0) ∧ (True)) [] (fun r => [(7001, bxl00Src r)]) (fn := Tryz.f26) (nt := 6) Tryz.func26 rfl rfl (args := [slU8 false code]) rfl (allcons (.inl ⟨rfl, tagU8 false _⟩) allnil) (res := fun r => .ref 7001 0) ?_
    refine xR [] [0] [] [slU8 false code] [] [] trivial ?_
    refine xR [(2, .new 7001)] [2] [7001] [.ref 7001 0] [some (.box [slU8 false code, I 0, .val (.int .u64 0)])] [] trivial ?_
    refine x_ret ?_
    refine xe_end (l00Src.mk code 0 0) (show ((l00Src.mk code 0 0).code = code ∧ (l00Src.mk code 0 0).atx = 0) ∧ (True) from ⟨(by first | rfl | (exact ⟨rfl, rfl⟩)), trivial⟩) (⟨.inl rfl, trivial⟩) (.ref 7001 0) (by kernel_rfl) (.inl rfl) (fun h => by cases h) (fun h => by cases h)
  obtain ⟨s', ⟨hh0, _⟩, hc⟩ := hh
  exact ⟨s', hh0, hc⟩



-- spec.l00Src).next
theorem next_ok (s : l00Src) (hs : okSrc s) (ha : s.atx ≤ 4000000000000000000) : ∃ (v : Int) (s' : l00Src), (0 ≤ v ∧ v ≤ 255) ∧ (okSrc s') ∧ (s'.code = s.code) ∧ (s.atx + 1 ≤ s'.atx ∧ s'.atx ≤ s.atx + 1) ∧ CallOK Tryz.prog 68 [.ref 7001 0] (lookO [(7001, bxl00Src s)]) true (I v) (lookO [(7001, bxl00Src s')]) := by
  have hs0 := hs.2.1
  have hs1 := hs.2.2
  have hh : ∃ r : Int × l00Src, ((0 ≤ r.1 ∧ r.1 ≤ 255) ∧ (okSrc r.2) ∧ (r.2.code = s.code) ∧ (s.atx + 1 ≤ r.2.atx ∧ r.2.atx ≤ s.atx + 1) ∧ (True)) ∧ CallOK Tryz.prog 68 [.ref 7001 0] (lookO [(7001, bxl00Src s)]) true (I r.1) (lookO [(7001, bxl00Src r.2)]) := by
    refine fn_okX (Φ := fun r : Int × l00Src => (0 ≤ r.1 ∧ r.1 ≤ 255) ∧ (okSrc r.2) ∧ (r.2.code = s.code) ∧ (s.atx + 1 ≤ r.2.atx ∧ r.2.atx ≤ s.atx + 1) ∧ (True)) [(7001, bxl00Src s)] (fun r => [(7001, bxl00Src r.2)]) (fn := Tryz.f68) (nt := 62) Tryz.func68 rfl rfl (args := [.ref 7001 0]) rfl (allcons (.inr trivial) allnil) (res := fun r => I r.1) ?_
    refine xR [] [0] [7001] [.ref 7001 0] [some (bxl00Src s)] [] trivial ?_
    refine xR [] [0, 3] [7001] [.ref 7001 0, I 0] [some (bxl00Src s)] [] trivial ?_
    refine x_seq ?_
    refine x_seq ?_
    by_cases h1 : s.atx < (s.code.length : Int)
    ·have hbt := hs.1 s.atx.toNat (by omega)
     refine x_r [(9, .dec true)] [0, 3, 13] [7001] [.ref 7001 0, I 0, Bv true] [some (bxl00Src s)] [s.atx < (s.code.length : Int)] ⟨h1, trivial⟩ ?_
     refine xe_then ?_
     refine x_true rfl ?_
     refine x_r [] [0, 3] [7001] [.ref 7001 0, I (at_ s.code s.atx.toNat)] [some (bxl00Src s)] [(0 : Int) ≤ s.atx ∧ s.atx < (s.code.length : Int), inR .i64 (at_ s.code s.atx.toNat)] ⟨⟨(by omega), (by omega)⟩, (inR_i64 (by omega) (by omega)), trivial⟩ ?_
     refine xe_then ?_
     refine xR [] [0, 3] [7001] [.ref 7001 0, I (at_ s.code s.atx.toNat)] [some (.box [slU8 false s.code, I (s.atx + 1), .val (.int .u64 s.seed)])] [inR .i64 (s.atx + 1)] ⟨(inR_i64 (by omega) (by omega)), trivial⟩ ?_
     refine xR [(5, .wrap), (8, .wrap), (9, .wrap)] [0, 3] [7001] [.ref 7001 0, I (at_ s.code s.atx.toNat)] [some (.box [slU8 false s.code, I (s.atx + 1), .val (.int .u64 (IntKind.u64.wrap ((IntKind.u64.wrap ((IntKind.u64.wrap (s.seed * 6364136223846793005)) + (at_ s.code s.atx.toNat))) + 1442695040888963407)))])] [inR .u64 (at_ s.code s.atx.toNat)] ⟨(inR_u64 (by omega) (by omega)), trivial⟩ ?_
     refine x_seq ?_
     refine x_seq ?_
     by_cases h2 : (s.atx + 1) ≤ (s.code.length : Int)
     ·refine x_r [(9, .dec true)] [0, 3, 53] [7001] [.ref 7001 0, I (at_ s.code s.atx.toNat), Bv true] [some (.box [slU8 false s.code, I (s.atx + 1), .val (.int .u64 (IntKind.u64.wrap ((IntKind.u64.wrap ((IntKind.u64.wrap (s.seed * 6364136223846793005)) + (at_ s.code s.atx.toNat))) + 1442695040888963407)))])] [(s.atx + 1) ≤ (s.code.length : Int)] ⟨h2, trivial⟩ ?_
      refine xe_then ?_
      refine x_true rfl ?_
      refine xR [] [2] [7001] [I (at_ s.code s.atx.toNat)] [some (.box [slU8 false s.code, I (s.atx + 1), .val (.int .u64 (IntKind.u64.wrap ((IntKind.u64.wrap ((IntKind.u64.wrap (s.seed * 6364136223846793005)) + (at_ s.code s.atx.toNat))) + 1442695040888963407)))])] [] trivial ?_
      refine x_ret ?_
      refine xe_ret_then ?_
      refine xe_end ((at_ s.code s.atx.toNat), (l00Src.mk s.code (s.atx + 1) (IntKind.u64.wrap ((IntKind.u64.wrap ((IntKind.u64.wrap (s.seed * 6364136223846793005)) + (at_ s.code s.atx.toNat))) + 1442695040888963407)))) (show (0 ≤ (at_ s.code s.atx.toNat) ∧ (at_ s.code s.atx.toNat) ≤ 255) ∧ (okSrc (l00Src.mk s.code (s.atx + 1) (IntKind.u64.wrap ((IntKind.u64.wrap ((IntKind.u64.wrap (s.seed * 6364136223846793005)) + (at_ s.code s.atx.toNat))) + 1442695040888963407)))) ∧ ((l00Src.mk s.code (s.atx + 1) (IntKind.u64.wrap ((IntKind.u64.wrap ((IntKind.u64.wrap (s.seed * 6364136223846793005)) + (at_ s.code s.atx.toNat))) + 1442695040888963407))).code = s.code) ∧ (s.atx + 1 ≤ (l00Src.mk s.code (s.atx + 1) (IntKind.u64.wrap ((IntKind.u64.wrap ((IntKind.u64.wrap (s.seed * 6364136223846793005)) + (at_ s.code s.atx.toNat))) + 1442695040888963407))).atx ∧ (l00Src.mk s.code (s.atx + 1) (IntKind.u64.wrap ((IntKind.u64.wrap ((IntKind.u64.wrap (s.seed * 6364136223846793005)) + (at_ s.code s.atx.toNat))) + 1442695040888963407))).atx ≤ s.atx + 1) ∧ (True) from ⟨(by first | omega | rfl | assumption | (dsimp only; first | omega | rfl | assumption) | (simp only [*]; done) | exact ⟨hs.1, (by dsimp only; omega), hs1⟩), (by first | omega | rfl | assumption | (dsimp only; first | omega | rfl | assumption) | (simp only [*]; done) | exact ⟨hs.1, (by dsimp only; omega), hs1⟩), (by first | omega | rfl | assumption | (dsimp only; first | omega | rfl | assumption) | (simp only [*]; done) | exact ⟨hs.1, (by dsimp only; omega), hs1⟩), (by first | omega | rfl | assumption | (dsimp only; first | omega | rfl | assumption) | (simp only [*]; done) | exact ⟨hs.1, (by dsimp only; omega), hs1⟩), trivial⟩) (⟨.inl rfl, trivial⟩) (I (at_ s.code s.atx.toNat)) (by kernel_rfl) (.inl rfl) (fun _ => rfl) (fun _ => trivial)
     refine x_r [(9, .dec false)] [0, 3, 53] [7001] [.ref 7001 0, I (at_ s.code s.atx.toNat), Bv false] [some (.box [slU8 false s.code, I (s.atx + 1), .val (.int .u64 (IntKind.u64.wrap ((IntKind.u64.wrap ((IntKind.u64.wrap (s.seed * 6364136223846793005)) + (at_ s.code s.atx.toNat))) + 1442695040888963407)))])] [¬ ((s.atx + 1) ≤ (s.code.length : Int))] ⟨h2, trivial⟩ ?_
     refine xe_then ?_
     refine x_false rfl ?_
     refine x_skip ?_
     refine xe_then ?_
     refine x_seq ?_
     have hb1 := and_255 ((IntKind.u64.wrap ((IntKind.u64.wrap ((IntKind.u64.wrap (s.seed * 6364136223846793005)) + (at_ s.code s.atx.toNat))) + 1442695040888963407)) / 1099511627776)
     refine x_r [] [2] [7001] [I (bitsI .and .u64 ((IntKind.u64.wrap ((IntKind.u64.wrap ((IntKind.u64.wrap (s.seed * 6364136223846793005)) + (at_ s.code s.atx.toNat))) + 1442695040888963407)) / 1099511627776) 255)] [some (.box [slU8 false s.code, I (s.atx + 1), .val (.int .u64 (IntKind.u64.wrap ((IntKind.u64.wrap ((IntKind.u64.wrap (s.seed * 6364136223846793005)) + (at_ s.code s.atx.toNat))) + 1442695040888963407)))])] [(0 : Int) ≤ 40 ∧ (40 : Int) ≤ ((IntKind.bits .u64 : Nat) : Int), inR .i64 (bitsI .and .u64 ((IntKind.u64.wrap ((IntKind.u64.wrap ((IntKind.u64.wrap (s.seed * 6364136223846793005)) + (at_ s.code s.atx.toNat))) + 1442695040888963407)) / 1099511627776) 255)] ⟨⟨(by decide), (by decide)⟩, (inR_i64 (by omega) (by omega)), trivial⟩ ?_
     refine xe_then ?_
     refine x_ret ?_
     refine xe_end ((bitsI .and .u64 ((IntKind.u64.wrap ((IntKind.u64.wrap ((IntKind.u64.wrap (s.seed * 6364136223846793005)) + (at_ s.code s.atx.toNat))) + 1442695040888963407)) / 1099511627776) 255), (l00Src.mk s.code (s.atx + 1) (IntKind.u64.wrap ((IntKind.u64.wrap ((IntKind.u64.wrap (s.seed * 6364136223846793005)) + (at_ s.code s.atx.toNat))) + 1442695040888963407)))) (show (0 ≤ (bitsI .and .u64 ((IntKind.u64.wrap ((IntKind.u64.wrap ((IntKind.u64.wrap (s.seed * 6364136223846793005)) + (at_ s.code s.atx.toNat))) + 1442695040888963407)) / 1099511627776) 255) ∧ (bitsI .and .u64 ((IntKind.u64.wrap ((IntKind.u64.wrap ((IntKind.u64.wrap (s.seed * 6364136223846793005)) + (at_ s.code s.atx.toNat))) + 1442695040888963407)) / 1099511627776) 255) ≤ 255) ∧ (okSrc (l00Src.mk s.code (s.atx + 1) (IntKind.u64.wrap ((IntKind.u64.wrap ((IntKind.u64.wrap (s.seed * 6364136223846793005)) + (at_ s.code s.atx.toNat))) + 1442695040888963407)))) ∧ ((l00Src.mk s.code (s.atx + 1) (IntKind.u64.wrap ((IntKind.u64.wrap ((IntKind.u64.wrap (s.seed * 6364136223846793005)) + (at_ s.code s.atx.toNat))) + 1442695040888963407))).code = s.code) ∧ (s.atx + 1 ≤ (l00Src.mk s.code (s.atx + 1) (IntKind.u64.wrap ((IntKind.u64.wrap ((IntKind.u64.wrap (s.seed * 6364136223846793005)) + (at_ s.code s.atx.toNat))) + 1442695040888963407))).atx ∧ (l00Src.mk s.code (s.atx + 1) (IntKind.u64.wrap ((IntKind.u64.wrap ((IntKind.u64.wrap (s.seed * 6364136223846793005)) + (at_ s.code s.atx.toNat))) + 1442695040888963407))).atx ≤ s.atx + 1) ∧ (True) from ⟨(by first | omega | rfl | assumption | (dsimp only; first | omega | rfl | assumption) | (simp only [*]; done) | exact ⟨hs.1, (by dsimp only; omega), hs1⟩), (by first | omega | rfl | assumption | (dsimp only; first | omega | rfl | assumption) | (simp only [*]; done) | exact ⟨hs.1, (by dsimp only; omega), hs1⟩), (by first | omega | rfl | assumption | (dsimp only; first | omega | rfl | assumption) | (simp only [*]; done) | exact ⟨hs.1, (by dsimp only; omega), hs1⟩), (by first | omega | rfl | assumption | (dsimp only; first | omega | rfl | assumption) | (simp only [*]; done) | exact ⟨hs.1, (by dsimp only; omega), hs1⟩), trivial⟩) (⟨.inl rfl, trivial⟩) (I (bitsI .and .u64 ((IntKind.u64.wrap ((IntKind.u64.wrap ((IntKind.u64.wrap (s.seed * 6364136223846793005)) + (at_ s.code s.atx.toNat))) + 1442695040888963407)) / 1099511627776) 255)) (by kernel_rfl) (.inl rfl) (fun _ => rfl) (fun _ => trivial)
    refine x_r [(9, .dec false)] [0, 3, 13] [7001] [.ref 7001 0, I 0, Bv false] [some (bxl00Src s)] [¬ (s.atx < (s.code.length : Int))] ⟨h1, trivial⟩ ?_
    refine xe_then ?_
    refine x_false rfl ?_
    refine x_skip ?_
    refine xe_then ?_
    refine xR [] [0, 3] [7001] [.ref 7001 0, I 0] [some (.box [slU8 false s.code, I (s.atx + 1), .val (.int .u64 s.seed)])] [inR .i64 (s.atx + 1)] ⟨(inR_i64 (by omega) (by omega)), trivial⟩ ?_
    refine xR [(5, .wrap), (8, .wrap), (9, .wrap)] [0, 3] [7001] [.ref 7001 0, I 0] [some (.box [slU8 false s.code, I (s.atx + 1), .val (.int .u64 (IntKind.u64.wrap ((IntKind.u64.wrap ((IntKind.u64.wrap (s.seed * 6364136223846793005)) + 0)) + 1442695040888963407)))])] [inR .u64 0] ⟨(inR_u64 (by omega) (by omega)), trivial⟩ ?_
    refine x_seq ?_
    refine x_seq ?_
    by_cases h3 : (s.atx + 1) ≤ (s.code.length : Int)
    ·refine x_r [(9, .dec true)] [0, 3, 53] [7001] [.ref 7001 0, I 0, Bv true] [some (.box [slU8 false s.code, I (s.atx + 1), .val (.int .u64 (IntKind.u64.wrap ((IntKind.u64.wrap ((IntKind.u64.wrap (s.seed * 6364136223846793005)) + 0)) + 1442695040888963407)))])] [(s.atx + 1) ≤ (s.code.length : Int)] ⟨h3, trivial⟩ ?_
     refine xe_then ?_
     refine x_true rfl ?_
     refine xR [] [2] [7001] [I 0] [some (.box [slU8 false s.code, I (s.atx + 1), .val (.int .u64 (IntKind.u64.wrap ((IntKind.u64.wrap ((IntKind.u64.wrap (s.seed * 6364136223846793005)) + 0)) + 1442695040888963407)))])] [] trivial ?_
     refine x_ret ?_
     refine xe_ret_then ?_
     refine xe_end (0, (l00Src.mk s.code (s.atx + 1) (IntKind.u64.wrap ((IntKind.u64.wrap ((IntKind.u64.wrap (s.seed * 6364136223846793005)) + 0)) + 1442695040888963407)))) (show (0 ≤ 0 ∧ 0 ≤ 255) ∧ (okSrc (l00Src.mk s.code (s.atx + 1) (IntKind.u64.wrap ((IntKind.u64.wrap ((IntKind.u64.wrap (s.seed * 6364136223846793005)) + 0)) + 1442695040888963407)))) ∧ ((l00Src.mk s.code (s.atx + 1) (IntKind.u64.wrap ((IntKind.u64.wrap ((IntKind.u64.wrap (s.seed * 6364136223846793005)) + 0)) + 1442695040888963407))).code = s.code) ∧ (s.atx + 1 ≤ (l00Src.mk s.code (s.atx + 1) (IntKind.u64.wrap ((IntKind.u64.wrap ((IntKind.u64.wrap (s.seed * 6364136223846793005)) + 0)) + 1442695040888963407))).atx ∧ (l00Src.mk s.code (s.atx + 1) (IntKind.u64.wrap ((IntKind.u64.wrap ((IntKind.u64.wrap (s.seed * 6364136223846793005)) + 0)) + 1442695040888963407))).atx ≤ s.atx + 1) ∧ (True) from ⟨(by first | omega | rfl | assumption | (dsimp only; first | omega | rfl | assumption) | (simp only [*]; done) | exact ⟨hs.1, (by dsimp only; omega), hs1⟩), (by first | omega | rfl | assumption | (dsimp only; first | omega | rfl | assumption) | (simp only [*]; done) | exact ⟨hs.1, (by dsimp only; omega), hs1⟩), (by first | omega | rfl | assumption | (dsimp only; first | omega | rfl | assumption) | (simp only [*]; done) | exact ⟨hs.1, (by dsimp only; omega), hs1⟩), (by first | omega | rfl | assumption | (dsimp only; first | omega | rfl | assumption) | (simp only [*]; done) | exact ⟨hs.1, (by dsimp only; omega), hs1⟩), trivial⟩) (⟨.inl rfl, trivial⟩) (I 0) (by kernel_rfl) (.inl rfl) (fun _ => rfl) (fun _ => trivial)
    refine x_r [(9, .dec false)] [0, 3, 53] [7001] [.ref 7001 0, I 0, Bv false] [some (.box [slU8 false s.code, I (s.atx + 1), .val (.int .u64 (IntKind.u64.wrap ((IntKind.u64.wrap ((IntKind.u64.wrap (s.seed * 6364136223846793005)) + 0)) + 1442695040888963407)))])] [¬ ((s.atx + 1) ≤ (s.code.length : Int))] ⟨h3, trivial⟩ ?_
    refine xe_then ?_
    refine x_false rfl ?_
    refine x_skip ?_
    refine xe_then ?_
    refine x_seq ?_
    have hb2 := and_255 ((IntKind.u64.wrap ((IntKind.u64.wrap ((IntKind.u64.wrap (s.seed * 6364136223846793005)) + 0)) + 1442695040888963407)) / 1099511627776)
    refine x_r [] [2] [7001] [I (bitsI .and .u64 ((IntKind.u64.wrap ((IntKind.u64.wrap ((IntKind.u64.wrap (s.seed * 6364136223846793005)) + 0)) + 1442695040888963407)) / 1099511627776) 255)] [some (.box [slU8 false s.code, I (s.atx + 1), .val (.int .u64 (IntKind.u64.wrap ((IntKind.u64.wrap ((IntKind.u64.wrap (s.seed * 6364136223846793005)) + 0)) + 1442695040888963407)))])] [(0 : Int) ≤ 40 ∧ (40 : Int) ≤ ((IntKind.bits .u64 : Nat) : Int), inR .i64 (bitsI .and .u64 ((IntKind.u64.wrap ((IntKind.u64.wrap ((IntKind.u64.wrap (s.seed * 6364136223846793005)) + 0)) + 1442695040888963407)) / 1099511627776) 255)] ⟨⟨(by decide), (by decide)⟩, (inR_i64 (by omega) (by omega)), trivial⟩ ?_
    refine xe_then ?_
    refine x_ret ?_
    refine xe_end ((bitsI .and .u64 ((IntKind.u64.wrap ((IntKind.u64.wrap ((IntKind.u64.wrap (s.seed * 6364136223846793005)) + 0)) + 1442695040888963407)) / 1099511627776) 255), (l00Src.mk s.code (s.atx + 1) (IntKind.u64.wrap ((IntKind.u64.wrap ((IntKind.u64.wrap (s.seed * 6364136223846793005)) + 0)) + 1442695040888963407)))) (show (0 ≤ (bitsI .and .u64 ((IntKind.u64.wrap ((IntKind.u64.wrap ((IntKind.u64.wrap (s.seed * 6364136223846793005)) + 0)) + 1442695040888963407)) / 1099511627776) 255) ∧ (bitsI .and .u64 ((IntKind.u64.wrap ((IntKind.u64.wrap ((IntKind.u64.wrap (s.seed * 6364136223846793005)) + 0)) + 1442695040888963407)) / 1099511627776) 255) ≤ 255) ∧ (okSrc (l00Src.mk s.code (s.atx + 1) (IntKind.u64.wrap ((IntKind.u64.wrap ((IntKind.u64.wrap (s.seed * 6364136223846793005)) + 0)) + 1442695040888963407)))) ∧ ((l00Src.mk s.code (s.atx + 1) (IntKind.u64.wrap ((IntKind.u64.wrap ((IntKind.u64.wrap (s.seed * 6364136223846793005)) + 0)) + 1442695040888963407))).code = s.code) ∧ (s.atx + 1 ≤ (l00Src.mk s.code (s.atx + 1) (IntKind.u64.wrap ((IntKind.u64.wrap ((IntKind.u64.wrap (s.seed * 6364136223846793005)) + 0)) + 1442695040888963407))).atx ∧ (l00Src.mk s.code (s.atx + 1) (IntKind.u64.wrap ((IntKind.u64.wrap ((IntKind.u64.wrap (s.seed * 6364136223846793005)) + 0)) + 1442695040888963407))).atx ≤ s.atx + 1) ∧ (True) from ⟨(by first | omega | rfl | assumption | (dsimp only; first | omega | rfl | assumption) | (simp only [*]; done) | exact ⟨hs.1, (by dsimp only; omega), hs1⟩), (by first | omega | rfl | assumption | (dsimp only; first | omega | rfl | assumption) | (simp only [*]; done) | exact ⟨hs.1, (by dsimp only; omega), hs1⟩), (by first | omega | rfl | assumption | (dsimp only; first | omega | rfl | assumption) | (simp only [*]; done) | exact ⟨hs.1, (by dsimp only; omega), hs1⟩), (by first | omega | rfl | assumption | (dsimp only; first | omega | rfl | assumption) | (simp only [*]; done) | exact ⟨hs.1, (by dsimp only; omega), hs1⟩), trivial⟩) (⟨.inl rfl, trivial⟩) (I (bitsI .and .u64 ((IntKind.u64.wrap ((IntKind.u64.wrap ((IntKind.u64.wrap (s.seed * 6364136223846793005)) + 0)) + 1442695040888963407)) / 1099511627776) 255)) (by kernel_rfl) (.inl rfl) (fun _ => rfl) (fun _ => trivial)
  obtain ⟨⟨v, s'⟩, ⟨hh0, hh1, hh2, hh3, _⟩, hc⟩ := hh
  exact ⟨v, s', hh0, hh1, hh2, hh3, hc⟩



-- spec.l00Src).pick
theorem pick_ok (s : l00Src) (n : Int) (hs : okSrc s) (ha : s.atx ≤ 3999999999999999990) : ∃ (v : Int) (s' : l00Src), (0 ≤ v ∧ (v < n ∨ v = 0)) ∧ (okSrc s') ∧ (s'.code = s.code) ∧ (s.atx + 0 ≤ s'.atx ∧ s'.atx ≤ s.atx + 2) ∧ CallOK Tryz.prog 42 [.ref 7001 0, I n] (lookO [(7001, bxl00Src s)]) true (I v) (lookO [(7001, bxl00Src s')]) := by
  have hs0 := hs.2.1
  have hs1 := hs.2.2
  have hh : ∃ r : Int × l00Src, ((0 ≤ r.1 ∧ (r.1 < n ∨ r.1 = 0)) ∧ (okSrc r.2) ∧ (r.2.code = s.code) ∧ (s.atx + 0 ≤ r.2.atx ∧ r.2.atx ≤ s.atx + 2) ∧ (True)) ∧ CallOK Tryz.prog 42 [.ref 7001 0, I n] (lookO [(7001, bxl00Src s)]) true (I r.1) (lookO [(7001, bxl00Src r.2)]) := by
    refine fn_okX (Φ := fun r : Int × l00Src => (0 ≤ r.1 ∧ (r.1 < n ∨ r.1 = 0)) ∧ (okSrc r.2) ∧ (r.2.code = s.code) ∧ (s.atx + 0 ≤ r.2.atx ∧ r.2.atx ≤ s.atx + 2) ∧ (True)) [(7001, bxl00Src s)] (fun r => [(7001, bxl00Src r.2)]) (fn := Tryz.f42) (nt := 20) Tryz.func42 rfl rfl (args := [.ref 7001 0, I n]) rfl (allcons (.inr trivial) (allcons (.inl ⟨rfl, trivial⟩) allnil)) (res := fun r => I r.1) ?_
    refine xR [] [0, 1] [7001] [.ref 7001 0, I n] [some (bxl00Src s)] [] trivial ?_
    refine x_seq ?_
    refine x_seq ?_
    by_cases h1 : n ≤ 1
    ·refine x_r [(1, .dec true)] [0, 1, 7] [7001] [.ref 7001 0, I n, Bv true] [some (bxl00Src s)] [n ≤ 1] ⟨h1, trivial⟩ ?_
     refine xe_then ?_
     refine x_true rfl ?_
     refine xR [] [4] [7001] [I 0] [some (bxl00Src s)] [] trivial ?_
     refine x_ret ?_
     refine xe_ret_then ?_
     refine xe_end (0, s) (show (0 ≤ 0 ∧ (0 < n ∨ 0 = 0)) ∧ (okSrc s) ∧ (s.code = s.code) ∧ (s.atx + 0 ≤ s.atx ∧ s.atx ≤ s.atx + 2) ∧ (True) from ⟨(by first | omega | rfl | assumption | (dsimp only; first | omega | rfl | assumption) | (simp only [*]; done) | exact ⟨Int.emod_nonneg _ (by omega), .inl (Int.emod_lt_of_pos _ (by omega))⟩), (by first | omega | rfl | assumption | (dsimp only; first | omega | rfl | assumption) | (simp only [*]; done) | exact ⟨Int.emod_nonneg _ (by omega), .inl (Int.emod_lt_of_pos _ (by omega))⟩), (by first | omega | rfl | assumption | (dsimp only; first | omega | rfl | assumption) | (simp only [*]; done) | exact ⟨Int.emod_nonneg _ (by omega), .inl (Int.emod_lt_of_pos _ (by omega))⟩), (by first | omega | rfl | assumption | (dsimp only; first | omega | rfl | assumption) | (simp only [*]; done) | exact ⟨Int.emod_nonneg _ (by omega), .inl (Int.emod_lt_of_pos _ (by omega))⟩), trivial⟩) (⟨.inl rfl, trivial⟩) (I 0) (by kernel_rfl) (.inl rfl) (fun _ => rfl) (fun _ => trivial)
    refine x_r [(1, .dec false)] [0, 1, 7] [7001] [.ref 7001 0, I n, Bv false] [some (bxl00Src s)] [¬ (n ≤ 1)] ⟨h1, trivial⟩ ?_
    refine xe_then ?_
    refine x_false rfl ?_
    refine x_skip ?_
    refine xe_then ?_
    refine x_seq ?_
    obtain ⟨v_1, s'_1, hx1_0, hx1_1, hx1_2, hx1_3, hc1⟩ := next_ok s (by first | assumption | (simp only [okSrc] at *; simp_all; done)) (by omega)
    refine x_r [(1, .lend [(7001, bxl00Src s, bxl00Src s'_1)] [] [(true, .any)] true (I v_1))] [0, 1, 5] [7001] [.ref 7001 0, I n, I v_1] [some (bxl00Src s'_1)] [CallOK Tryz.prog 68 [.ref 7001 0] (lookO [(7001, bxl00Src s)]) true (I v_1) (lookO [(7001, bxl00Src s'_1)]) ∧ (((bxl00Src s : Ob) = bxl00Src s ∨ obLe noOb true (bxl00Src s) (bxl00Src s)) ∧ taggedO false (bxl00Src s)) ∧ True] ⟨⟨hc1, ⟨.inl rfl, (by simp [taggedO, taggedL, tagged, tagU8])⟩, trivial⟩, trivial⟩ ?_
    refine xe_then ?_
    refine x_seq ?_
    refine x_seq ?_
    by_cases h2 : 200 < n
    ·refine x_r [(1, .dec true)] [0, 1, 5, 11] [7001] [.ref 7001 0, I n, I v_1, Bv true] [some (bxl00Src s'_1)] [200 < n] ⟨h2, trivial⟩ ?_
     refine xe_then ?_
     refine x_true rfl ?_
     obtain ⟨v_2, s'_2, hx2_0, hx2_1, hx2_2, hx2_3, hc2⟩ := next_ok s'_1 (by first | assumption | (simp only [okSrc] at *; simp_all; done)) (by omega)
     refine x_r [(3, .lend [(7001, bxl00Src s'_1, bxl00Src s'_2)] [] [(true, .any)] true (I v_2))] [1, 5] [7001] [I n, I ((v_1 * 256) + v_2)] [some (bxl00Src s'_2)] [inR .i64 (v_1 * 256), CallOK Tryz.prog 68 [.ref 7001 0] (lookO [(7001, bxl00Src s'_1)]) true (I v_2) (lookO [(7001, bxl00Src s'_2)]) ∧ (((bxl00Src s'_1 : Ob) = bxl00Src s'_1 ∨ obLe noOb true (bxl00Src s'_1) (bxl00Src s'_1)) ∧ taggedO false (bxl00Src s'_1)) ∧ True, inR .i64 ((v_1 * 256) + v_2)] ⟨(inR_i64 (by omega) (by omega)), ⟨hc2, ⟨.inl rfl, (by simp [taggedO, taggedL, tagged, tagU8])⟩, trivial⟩, (inR_i64 (by omega) (by omega)), trivial⟩ ?_
     refine xe_then ?_
     refine xR [(2, .nn)] [4] [7001] [I (((v_1 * 256) + v_2) % n)] [some (bxl00Src s'_2)] [(0 : Int) ≤ ((v_1 * 256) + v_2) ∧ (0 : Int) < n] ⟨⟨(by omega), (by omega)⟩, trivial⟩ ?_
     refine x_ret ?_
     refine xe_end ((((v_1 * 256) + v_2) % n), s'_2) (show (0 ≤ (((v_1 * 256) + v_2) % n) ∧ ((((v_1 * 256) + v_2) % n) < n ∨ (((v_1 * 256) + v_2) % n) = 0)) ∧ (okSrc s'_2) ∧ (s'_2.code = s.code) ∧ (s.atx + 0 ≤ s'_2.atx ∧ s'_2.atx ≤ s.atx + 2) ∧ (True) from ⟨(by first | omega | rfl | assumption | (dsimp only; first | omega | rfl | assumption) | (simp only [*]; done) | exact ⟨Int.emod_nonneg _ (by omega), .inl (Int.emod_lt_of_pos _ (by omega))⟩), (by first | omega | rfl | assumption | (dsimp only; first | omega | rfl | assumption) | (simp only [*]; done) | exact ⟨Int.emod_nonneg _ (by omega), .inl (Int.emod_lt_of_pos _ (by omega))⟩), (by first | omega | rfl | assumption | (dsimp only; first | omega | rfl | assumption) | (simp only [*]; done) | exact ⟨Int.emod_nonneg _ (by omega), .inl (Int.emod_lt_of_pos _ (by omega))⟩), (by first | omega | rfl | assumption | (dsimp only; first | omega | rfl | assumption) | (simp only [*]; done) | exact ⟨Int.emod_nonneg _ (by omega), .inl (Int.emod_lt_of_pos _ (by omega))⟩), trivial⟩) (⟨.inl rfl, trivial⟩) (I (((v_1 * 256) + v_2) % n)) (by kernel_rfl) (.inl rfl) (fun _ => rfl) (fun _ => trivial)
    refine x_r [(1, .dec false)] [0, 1, 5, 11] [7001] [.ref 7001 0, I n, I v_1, Bv false] [some (bxl00Src s'_1)] [¬ (200 < n)] ⟨h2, trivial⟩ ?_
    refine xe_then ?_
    refine x_false rfl ?_
    refine x_skip ?_
    refine xe_then ?_
    refine xR [(2, .nn)] [4] [7001] [I (v_1 % n)] [some (bxl00Src s'_1)] [(0 : Int) ≤ v_1 ∧ (0 : Int) < n] ⟨⟨(by omega), (by omega)⟩, trivial⟩ ?_
    refine x_ret ?_
    refine xe_end ((v_1 % n), s'_1) (show (0 ≤ (v_1 % n) ∧ ((v_1 % n) < n ∨ (v_1 % n) = 0)) ∧ (okSrc s'_1) ∧ (s'_1.code = s.code) ∧ (s.atx + 0 ≤ s'_1.atx ∧ s'_1.atx ≤ s.atx + 2) ∧ (True) from ⟨(by first | omega | rfl | assumption | (dsimp only; first | omega | rfl | assumption) | (simp only [*]; done) | exact ⟨Int.emod_nonneg _ (by omega), .inl (Int.emod_lt_of_pos _ (by omega))⟩), (by first | omega | rfl | assumption | (dsimp only; first | omega | rfl | assumption) | (simp only [*]; done) | exact ⟨Int.emod_nonneg _ (by omega), .inl (Int.emod_lt_of_pos _ (by omega))⟩), (by first | omega | rfl | assumption | (dsimp only; first | omega | rfl | assumption) | (simp only [*]; done) | exact ⟨Int.emod_nonneg _ (by omega), .inl (Int.emod_lt_of_pos _ (by omega))⟩), (by first | omega | rfl | assumption | (dsimp only; first | omega | rfl | assumption) | (simp only [*]; done) | exact ⟨Int.emod_nonneg _ (by omega), .inl (Int.emod_lt_of_pos _ (by omega))⟩), trivial⟩) (⟨.inl rfl, trivial⟩) (I (v_1 % n)) (by kernel_rfl) (.inl rfl) (fun _ => rfl) (fun _ => trivial)
  obtain ⟨⟨v, s'⟩, ⟨hh0, hh1, hh2, hh3, _⟩, hc⟩ := hh
  exact ⟨v, s', hh0, hh1, hh2, hh3, hc⟩



-- spec.l00Src).text
theorem text_ok (s : l00Src) (list : List ByteArray) (hs : okSrc s) (ha : s.atx ≤ 3999999999999999980) (hl : (0 < list.length ∧ list.length ≤ 1000) ∧ ∀ z ∈ list, z.size ≤ 16) : ∃ (v : ByteArray) (s' : l00Src), (v.size ≤ 16) ∧ (okSrc s') ∧ (s'.code = s.code) ∧ (s.atx + 0 ≤ s'.atx ∧ s'.atx ≤ s.atx + 2) ∧ (v ∈ list) ∧ CallOK Tryz.prog 46 [.ref 7001 0, slS false list] (lookO [(7001, bxl00Src s)]) true (Sv v) (lookO [(7001, bxl00Src s')]) := by
  have hh : ∃ r : ByteArray × l00Src, ((r.1.size ≤ 16) ∧ (okSrc r.2) ∧ (r.2.code = s.code) ∧ (s.atx + 0 ≤ r.2.atx ∧ r.2.atx ≤ s.atx + 2) ∧ (r.1 ∈ list) ∧ (True)) ∧ CallOK Tryz.prog 46 [.ref 7001 0, slS false list] (lookO [(7001, bxl00Src s)]) true (Sv r.1) (lookO [(7001, bxl00Src r.2)]) := by
    refine fn_okX (Φ := fun r : ByteArray × l00Src => (r.1.size ≤ 16) ∧ (okSrc r.2) ∧ (r.2.code = s.code) ∧ (s.atx + 0 ≤ r.2.atx ∧ r.2.atx ≤ s.atx + 2) ∧ (r.1 ∈ list) ∧ (True)) [(7001, bxl00Src s)] (fun r => [(7001, bxl00Src r.2)]) (fn := Tryz.f46) (nt := 12) Tryz.func46 rfl rfl (args := [.ref 7001 0, slS false list]) rfl (allcons (.inr trivial) (allcons (.inl ⟨rfl, tagS false _⟩) allnil)) (res := fun r => Sv r.1) ?_
    refine xR [] [0, 1] [7001] [.ref 7001 0, slS false list] [some (bxl00Src s)] [] trivial ?_
    refine x_seq ?_
    obtain ⟨v_1, s'_1, hx1_0, hx1_1, hx1_2, hx1_3, hc1⟩ := pick_ok s (list.length : Int) (by first | assumption | (simp only [okSrc] at *; simp_all; done)) (by omega)
    refine x_r [(4, .lend [(7001, bxl00Src s, bxl00Src s'_1)] [] [(true, .any), (true, .any)] true (I v_1))] [4] [7001] [Sv (at_ list v_1.toNat)] [some (bxl00Src s'_1)] [CallOK Tryz.prog 42 [.ref 7001 0, I (list.length : Int)] (lookO [(7001, bxl00Src s)]) true (I v_1) (lookO [(7001, bxl00Src s'_1)]) ∧ (((bxl00Src s : Ob) = bxl00Src s ∨ obLe noOb true (bxl00Src s) (bxl00Src s)) ∧ taggedO false (bxl00Src s)) ∧ True, (0 : Int) ≤ v_1 ∧ v_1 < (list.length : Int)] ⟨⟨hc1, ⟨.inl rfl, (by simp [taggedO, taggedL, tagged, tagU8])⟩, trivial⟩, ⟨(by omega), (by omega)⟩, trivial⟩ ?_
    refine xe_then ?_
    refine x_ret ?_
    refine xe_end ((at_ list v_1.toNat), s'_1) (show ((at_ list v_1.toNat).size ≤ 16) ∧ (okSrc s'_1) ∧ (s'_1.code = s.code) ∧ (s.atx + 0 ≤ s'_1.atx ∧ s'_1.atx ≤ s.atx + 2) ∧ ((at_ list v_1.toNat) ∈ list) ∧ (True) from ⟨(by first | omega | rfl | assumption | (dsimp only; first | omega | rfl | assumption) | (simp only [*]; done) | (exact at_mem (by omega)) | (exact hl.2 _ (at_mem (by omega))) | (simp_all; done)), (by first | omega | rfl | assumption | (dsimp only; first | omega | rfl | assumption) | (simp only [*]; done) | (exact at_mem (by omega)) | (exact hl.2 _ (at_mem (by omega))) | (simp_all; done)), (by first | omega | rfl | assumption | (dsimp only; first | omega | rfl | assumption) | (simp only [*]; done) | (exact at_mem (by omega)) | (exact hl.2 _ (at_mem (by omega))) | (simp_all; done)), (by first | omega | rfl | assumption | (dsimp only; first | omega | rfl | assumption) | (simp only [*]; done) | (exact at_mem (by omega)) | (exact hl.2 _ (at_mem (by omega))) | (simp_all; done)), (by first | omega | rfl | assumption | (dsimp only; first | omega | rfl | assumption) | (simp only [*]; done) | (exact at_mem (by omega)) | (exact hl.2 _ (at_mem (by omega))) | (simp_all; done)), trivial⟩) (⟨.inl rfl, trivial⟩) (Sv (at_ list v_1.toNat)) (by kernel_rfl) (.inl rfl) (fun _ => rfl) (fun _ => trivial)
  obtain ⟨⟨v, s'⟩, ⟨hh0, hh1, hh2, hh3, hh4, _⟩, hc⟩ := hh
  exact ⟨v, s', hh0, hh1, hh2, hh3, hh4, hc⟩



-- spec.l00Max
theorem l00Max_ok (a : Int) (b : Int) : Con Tryz.prog 82 [I a, I b] true (I (max a b)) := by
  refine fn_ok (fn := Tryz.f82) (nt := 10) Tryz.func82 rfl rfl rfl rfl (by simp [taggedL, tagged]) fun B hB => ?_
  refine aR [] [0, 1] [] [I a, I b] [] [] hB trivial ?_
  refine aw_seq ?_
  refine aw_seq ?_
  by_cases h1 : b < a
  ·refine aw_r [(2, .dec true)] [0, 1, 7] [] [I a, I b, Bv true] [] [b < a] hB ⟨h1, trivial⟩ ?_
   refine ae_then ?_
   refine aw_true rfl ?_
   refine aR [] [4] [] [I a] [] [] hB trivial ?_
   refine aw_ret ?_
   refine ae_ret_then ?_
   refine ae_ret hB (I a) (by kernel_rfl) (.inl (by refine congrArg I ?_; omega)) rfl (fun _ => trivial)
  refine aw_r [(2, .dec false)] [0, 1, 7] [] [I a, I b, Bv false] [] [¬ (b < a)] hB ⟨h1, trivial⟩ ?_
  refine ae_then ?_
  refine aw_false rfl ?_
  refine aw_skip ?_
  refine ae_then ?_
  refine aR [] [4] [] [I b] [] [] hB trivial ?_
  refine aw_ret ?_
  refine ae_ret hB (I b) (by kernel_rfl) (.inl (by refine congrArg I ?_; omega)) rfl (fun _ => trivial)



-- spec.l20Near
theorem l20Near_ok (s : l00Src) (a : Box) (hs : okSrc s) (ha : s.atx ≤ 3999999999999999800) (hbz : 0 ≤ a.X1 ∧ a.X1 ≤ 100000 ∧ 0 ≤ a.Y1 ∧ a.Y1 ≤ 100000) : ∃ (v : Box) (s' : l00Src), (okSrc s') ∧ (s'.code = s.code) ∧ (s.atx + 0 ≤ s'.atx ∧ s'.atx ≤ s.atx + 60) ∧ ((0 ≤ v.X1 ∧ v.X1 ≤ a.X1 + 60) ∧ (0 ≤ v.Y1 ∧ v.Y1 ≤ a.Y1 + 60) ∧ (0 ≤ v.X2 ∧ v.X2 ≤ v.X1 + 50) ∧ (0 ≤ v.Y2 ∧ v.Y2 ≤ v.Y1 + 50)) ∧ CallOK Tryz.prog 66 [.ref 7001 0, agBox a] (lookO [(7001, bxl00Src s)]) true (agBox v) (lookO [(7001, bxl00Src s')]) := by
  have hh : ∃ r : Box × l00Src, ((okSrc r.2) ∧ (r.2.code = s.code) ∧ (s.atx + 0 ≤ r.2.atx ∧ r.2.atx ≤ s.atx + 60) ∧ ((0 ≤ r.1.X1 ∧ r.1.X1 ≤ a.X1 + 60) ∧ (0 ≤ r.1.Y1 ∧ r.1.Y1 ≤ a.Y1 + 60) ∧ (0 ≤ r.1.X2 ∧ r.1.X2 ≤ r.1.X1 + 50) ∧ (0 ≤ r.1.Y2 ∧ r.1.Y2 ≤ r.1.Y1 + 50)) ∧ (True)) ∧ CallOK Tryz.prog 66 [.ref 7001 0, agBox a] (lookO [(7001, bxl00Src s)]) true (agBox r.1) (lookO [(7001, bxl00Src r.2)]) := by
    refine fn_okX (Φ := fun r : Box × l00Src => (okSrc r.2) ∧ (r.2.code = s.code) ∧ (s.atx + 0 ≤ r.2.atx ∧ r.2.atx ≤ s.atx + 60) ∧ ((0 ≤ r.1.X1 ∧ r.1.X1 ≤ a.X1 + 60) ∧ (0 ≤ r.1.Y1 ∧ r.1.Y1 ≤ a.Y1 + 60) ∧ (0 ≤ r.1.X2 ∧ r.1.X2 ≤ r.1.X1 + 50) ∧ (0 ≤ r.1.Y2 ∧ r.1.Y2 ≤ r.1.Y1 + 50)) ∧ (True)) [(7001, bxl00Src s)] (fun r => [(7001, bxl00Src r.2)]) (fn := Tryz.f66) (nt := 32) Tryz.func66 rfl rfl (args := [.ref 7001 0, agBox a]) rfl (allcons (.inr trivial) (allcons (.inl ⟨rfl, by simp [tagged, taggedL]⟩) allnil)) (res := fun r => agBox r.1) ?_
    refine xR [(0, .new 3), (1, .new 4)] [0, 3, 4] [3, 4, 7001] [.ref 7001 0, .ref 3 0, .ref 4 0] [some (bxBox a), some (.box [I 0, I 0, I 0, I 0]), some (bxl00Src s)] [] trivial ?_
    refine x_seq ?_
    obtain ⟨v_1, s'_1, hx1_0, hx1_1, hx1_2, hx1_3, hc1⟩ := pick_ok s 90 (by first | assumption | (simp only [okSrc] at *; simp_all; done)) (by omega)
    refine x_r [(3, .lend [(7001, bxl00Src s, bxl00Src s'_1)] [] [(true, .any), (true, .any)] true (I v_1)), (6, .call [(true, .any), (true, .any)] true (I (max 0 ((a.X1 + v_1) - 30))))] [0, 3, 4, 5] [3, 4, 7001] [.ref 7001 0, .ref 3 0, .ref 4 0, I (max 0 ((a.X1 + v_1) - 30))] [some (bxBox a), some (.box [I 0, I 0, I 0, I 0]), some (bxl00Src s'_1)] [CallOK Tryz.prog 42 [.ref 7001 0, I 90] (lookO [(7001, bxl00Src s)]) true (I v_1) (lookO [(7001, bxl00Src s'_1)]) ∧ (((bxl00Src s : Ob) = bxl00Src s ∨ obLe noOb true (bxl00Src s) (bxl00Src s)) ∧ taggedO false (bxl00Src s)) ∧ True, inR .i64 (a.X1 + v_1), inR .i64 ((a.X1 + v_1) - 30), Con Tryz.prog 82 [I 0, I ((a.X1 + v_1) - 30)] true (I (max 0 ((a.X1 + v_1) - 30))) ∧ True] ⟨⟨hc1, ⟨.inl rfl, (by simp [taggedO, taggedL, tagged, tagU8])⟩, trivial⟩, (inR_i64 (by omega) (by omega)), (inR_i64 (by omega) (by omega)), ⟨(l00Max_ok 0 ((a.X1 + v_1) - 30)), trivial⟩, trivial⟩ ?_
    refine xe_then ?_
    refine x_seq ?_
    obtain ⟨v_2, s'_2, hx2_0, hx2_1, hx2_2, hx2_3, hc2⟩ := pick_ok s'_1 90 (by first | assumption | (simp only [okSrc] at *; simp_all; done)) (by omega)
    refine x_r [(3, .lend [(7001, bxl00Src s'_1, bxl00Src s'_2)] [] [(true, .any), (true, .any)] true (I v_2)), (6, .call [(true, .any), (true, .any)] true (I (max 0 ((a.Y1 + v_2) - 45))))] [0, 4, 5, 6] [4, 7001] [.ref 7001 0, .ref 4 0, I (max 0 ((a.X1 + v_1) - 30)), I (max 0 ((a.Y1 + v_2) - 45))] [some (.box [I 0, I 0, I 0, I 0]), some (bxl00Src s'_2)] [CallOK Tryz.prog 42 [.ref 7001 0, I 90] (lookO [(7001, bxl00Src s'_1)]) true (I v_2) (lookO [(7001, bxl00Src s'_2)]) ∧ (((bxl00Src s'_1 : Ob) = bxl00Src s'_1 ∨ obLe noOb true (bxl00Src s'_1) (bxl00Src s'_1)) ∧ taggedO false (bxl00Src s'_1)) ∧ True, inR .i64 (a.Y1 + v_2), inR .i64 ((a.Y1 + v_2) - 45), Con Tryz.prog 82 [I 0, I ((a.Y1 + v_2) - 45)] true (I (max 0 ((a.Y1 + v_2) - 45))) ∧ True] ⟨⟨hc2, ⟨.inl rfl, (by simp [taggedO, taggedL, tagged, tagU8])⟩, trivial⟩, (inR_i64 (by omega) (by omega)), (inR_i64 (by omega) (by omega)), ⟨(l00Max_ok 0 ((a.Y1 + v_2) - 45)), trivial⟩, trivial⟩ ?_
    refine xe_then ?_
    refine x_seq ?_
    obtain ⟨v_3, s'_3, hx3_0, hx3_1, hx3_2, hx3_3, hc3⟩ := pick_ok s'_2 50 (by first | assumption | (simp only [okSrc] at *; simp_all; done)) (by omega)
    obtain ⟨v_4, s'_4, hx4_0, hx4_1, hx4_2, hx4_3, hc4⟩ := pick_ok s'_3 50 (by first | assumption | (simp only [okSrc] at *; simp_all; done)) (by omega)
    refine x_r [(4, .lend [(7001, bxl00Src s'_2, bxl00Src s'_3)] [] [(true, .any), (true, .any)] true (I v_3)), (8, .lend [(7001, bxl00Src s'_3, bxl00Src s'_4)] [] [(true, .any), (true, .any)] true (I v_4))] [4] [4, 7001] [.ref 4 0] [some (.box [I (max 0 ((a.X1 + v_1) - 30)), I (max 0 ((a.Y1 + v_2) - 45)), I ((max 0 ((a.X1 + v_1) - 30)) + v_3), I ((max 0 ((a.Y1 + v_2) - 45)) + v_4)]), some (bxl00Src s'_4)] [CallOK Tryz.prog 42 [.ref 7001 0, I 50] (lookO [(7001, bxl00Src s'_2)]) true (I v_3) (lookO [(7001, bxl00Src s'_3)]) ∧ (((bxl00Src s'_2 : Ob) = bxl00Src s'_2 ∨ obLe noOb true (bxl00Src s'_2) (bxl00Src s'_2)) ∧ taggedO false (bxl00Src s'_2)) ∧ True, inR .i64 ((max 0 ((a.X1 + v_1) - 30)) + v_3), CallOK Tryz.prog 42 [.ref 7001 0, I 50] (lookO [(7001, bxl00Src s'_3)]) true (I v_4) (lookO [(7001, bxl00Src s'_4)]) ∧ (((bxl00Src s'_3 : Ob) = bxl00Src s'_3 ∨ obLe noOb true (bxl00Src s'_3) (bxl00Src s'_3)) ∧ taggedO false (bxl00Src s'_3)) ∧ True, inR .i64 ((max 0 ((a.Y1 + v_2) - 45)) + v_4)] ⟨⟨hc3, ⟨.inl rfl, (by simp [taggedO, taggedL, tagged, tagU8])⟩, trivial⟩, (inR_i64 (by omega) (by omega)), ⟨hc4, ⟨.inl rfl, (by simp [taggedO, taggedL, tagged, tagU8])⟩, trivial⟩, (inR_i64 (by omega) (by omega)), trivial⟩ ?_
    refine xe_then ?_
    refine x_ret ?_
    refine xe_end ((Box.mk (max 0 ((a.X1 + v_1) - 30)) (max 0 ((a.Y1 + v_2) - 45)) ((max 0 ((a.X1 + v_1) - 30)) + v_3) ((max 0 ((a.Y1 + v_2) - 45)) + v_4)), s'_4) (show (okSrc s'_4) ∧ (s'_4.code = s.code) ∧ (s.atx + 0 ≤ s'_4.atx ∧ s'_4.atx ≤ s.atx + 60) ∧ ((0 ≤ (Box.mk (max 0 ((a.X1 + v_1) - 30)) (max 0 ((a.Y1 + v_2) - 45)) ((max 0 ((a.X1 + v_1) - 30)) + v_3) ((max 0 ((a.Y1 + v_2) - 45)) + v_4)).X1 ∧ (Box.mk (max 0 ((a.X1 + v_1) - 30)) (max 0 ((a.Y1 + v_2) - 45)) ((max 0 ((a.X1 + v_1) - 30)) + v_3) ((max 0 ((a.Y1 + v_2) - 45)) + v_4)).X1 ≤ a.X1 + 60) ∧ (0 ≤ (Box.mk (max 0 ((a.X1 + v_1) - 30)) (max 0 ((a.Y1 + v_2) - 45)) ((max 0 ((a.X1 + v_1) - 30)) + v_3) ((max 0 ((a.Y1 + v_2) - 45)) + v_4)).Y1 ∧ (Box.mk (max 0 ((a.X1 + v_1) - 30)) (max 0 ((a.Y1 + v_2) - 45)) ((max 0 ((a.X1 + v_1) - 30)) + v_3) ((max 0 ((a.Y1 + v_2) - 45)) + v_4)).Y1 ≤ a.Y1 + 60) ∧ (0 ≤ (Box.mk (max 0 ((a.X1 + v_1) - 30)) (max 0 ((a.Y1 + v_2) - 45)) ((max 0 ((a.X1 + v_1) - 30)) + v_3) ((max 0 ((a.Y1 + v_2) - 45)) + v_4)).X2 ∧ (Box.mk (max 0 ((a.X1 + v_1) - 30)) (max 0 ((a.Y1 + v_2) - 45)) ((max 0 ((a.X1 + v_1) - 30)) + v_3) ((max 0 ((a.Y1 + v_2) - 45)) + v_4)).X2 ≤ (Box.mk (max 0 ((a.X1 + v_1) - 30)) (max 0 ((a.Y1 + v_2) - 45)) ((max 0 ((a.X1 + v_1) - 30)) + v_3) ((max 0 ((a.Y1 + v_2) - 45)) + v_4)).X1 + 50) ∧ (0 ≤ (Box.mk (max 0 ((a.X1 + v_1) - 30)) (max 0 ((a.Y1 + v_2) - 45)) ((max 0 ((a.X1 + v_1) - 30)) + v_3) ((max 0 ((a.Y1 + v_2) - 45)) + v_4)).Y2 ∧ (Box.mk (max 0 ((a.X1 + v_1) - 30)) (max 0 ((a.Y1 + v_2) - 45)) ((max 0 ((a.X1 + v_1) - 30)) + v_3) ((max 0 ((a.Y1 + v_2) - 45)) + v_4)).Y2 ≤ (Box.mk (max 0 ((a.X1 + v_1) - 30)) (max 0 ((a.Y1 + v_2) - 45)) ((max 0 ((a.X1 + v_1) - 30)) + v_3) ((max 0 ((a.Y1 + v_2) - 45)) + v_4)).Y1 + 50)) ∧ (True) from ⟨(by first | omega | assumption | (simp only [*]; done) | (dsimp only; omega)), (by first | omega | assumption | (simp only [*]; done) | (dsimp only; omega)), (by first | omega | assumption | (simp only [*]; done) | (dsimp only; omega)), (by first | omega | assumption | (simp only [*]; done) | (dsimp only; omega)), trivial⟩) (⟨.inl rfl, trivial⟩) (.agg [I (max 0 ((a.X1 + v_1) - 30)), I (max 0 ((a.Y1 + v_2) - 45)), I ((max 0 ((a.X1 + v_1) - 30)) + v_3), I ((max 0 ((a.Y1 + v_2) - 45)) + v_4)]) (by kernel_rfl) (.inl rfl) (fun _ => rfl) (fun _ => (by simp [tagged, taggedL]))
  obtain ⟨⟨v, s'⟩, ⟨hh0, hh1, hh2, hh3, _⟩, hc⟩ := hh
  exact ⟨v, s', hh0, hh1, hh2, hh3, hc⟩



def inB (a l h : Int) : Bool := decide (l ≤ a ∧ a ≤ h)
theorem inB_iff {a l h : Int} : inB a l h = true ↔ l ≤ a ∧ a ≤ h := by simp [inB]
theorem bAt_bd (s : ByteArray) (i : Nat) : 0 ≤ bAt s i ∧ bAt s i ≤ 255 := by
  unfold bAt
  have := (s.data.toList.getD i 0).toNat_lt
  omega


def labB (n : Int) : Bool := decide ((97 ≤ n ∧ n ≤ 122) ∨ (48 ≤ n ∧ n ≤ 57) ∨ n = 43 ∨ n = 45 ∨ n = 42 ∨ n = 47 ∨ n = 61 ∨ n = 40 ∨ n = 41 ∨ n = 46 ∨ n = 44)
def okLabel (s : ByteArray) : Bool := decide (s.size = 1) && labB (bAt s 0)


def firstN (n : Nat) (p : Nat → Bool) : Int := match (List.range n).find? p with
  | some i => i
  | none => -1
theorem firstN_hit {n : Nat} {p : Nat → Bool} {k : Nat} (hk : k < n) (hp : p k = true) (hn : ∀ i, i < k → p i = false) : firstN n p = k := by
  have h : (List.range n).find? p = some k := by
    rw [List.find?_range_eq_some]
    exact ⟨hp, List.mem_range.2 hk, fun j hj => by simpa using hn j hj⟩
  simp [firstN, h]
theorem firstN_none {n : Nat} {p : Nat → Bool} (hn : ∀ i, i < n → p i = false) : firstN n p = -1 := by
  have h : (List.range n).find? p = none := by
    rw [List.find?_range_eq_none]
    intro i hi; simpa using hn i hi
  simp [firstN, h]
theorem firstN_cases (n : Nat) (p : Nat → Bool) : (firstN n p = -1 ∧ ∀ i, i < n → p i = false) ∨ ∃ k : Nat, firstN n p = k ∧ k < n ∧ p k = true ∧ ∀ i, i < k → p i = false := by
  by_cases h : ∃ k, k < n ∧ p k = true
  · right
    obtain ⟨k, hk, hp⟩ := h
    cases e : (List.range n).find? p with
    | none => rw [List.find?_range_eq_none] at e; exact absurd hp (by simpa using e k hk)
    | some i =>
      have e' := e
      rw [List.find?_range_eq_some] at e
      exact ⟨i, by simp [firstN, e'], List.mem_range.1 e.2.1, e.1, fun j hj => by simpa using e.2.2 j hj⟩
  · left
    have h' : ∀ i, i < n → p i = false := fun i hi => by rw [← Bool.not_eq_true]; exact fun hp => h ⟨i, hi, hp⟩
    exact ⟨firstN_none h', h'⟩
theorem firstN_any (n : Nat) (p : Nat → Bool) : decide (0 ≤ firstN n p) = anyN n p := by
  rcases firstN_cases n p with ⟨h1, h2⟩ | ⟨k, h1, h2, h3, _⟩
  · rw [h1, anyN_none h2]; decide
  · rw [h1, anyN_at h2 h3]; simp


def sameL {α : Type} [Inhabited α] [DecidableEq α] (a b : List α) : Bool := decide (a.length = b.length) && allN a.length (fun j => decide (at_ a j = at_ b j))
theorem sameL_refl {α : Type} [Inhabited α] [DecidableEq α] (a : List α) : sameL a a = true := by simp [sameL, allN_iff]


def okBx (b : Box) : Bool := inB b.X1 0 b.X2 && (inB b.Y1 0 b.Y2 && (decide (b.X2 ≤ 4095) && decide (b.Y2 ≤ 4095)))
theorem okBx_iff {b : Box} : okBx b = true ↔ (0 ≤ b.X1 ∧ b.X1 ≤ b.X2) ∧ (0 ≤ b.Y1 ∧ b.Y1 ≤ b.Y2) ∧ b.X2 ≤ 4095 ∧ b.Y2 ≤ 4095 := by simp [okBx, inB]
def okSy (s : Symbol) : Bool := okLabel s.Label && okBx s.Box
def okSyms (xs : List Symbol) : Bool := decide ((xs.length : Int) ≤ 8) && allN xs.length (fun j => okSy (at_ xs j))
theorem okSyms_iff {xs : List Symbol} : okSyms xs = true ↔ xs.length ≤ 8 ∧ ∀ j, j < xs.length → okLabel (at_ xs j).Label = true ∧ okBx (at_ xs j).Box = true := by
  simp only [okSyms, Bool.and_eq_true, decide_eq_true_eq, allN_iff, okSy]
  constructor
  · rintro ⟨h1, h2⟩; exact ⟨by omega, h2⟩
  · rintro ⟨h1, h2⟩; exact ⟨by omega, h2⟩
theorem box_ext {a b : Box} (h : a.X1 = b.X1 ∧ a.Y1 = b.Y1 ∧ a.X2 = b.X2 ∧ a.Y2 = b.Y2) : a = b := by cases a; cases b; simp_all
theorem sym_ext {a b : Symbol} (h : a.Label = b.Label ∧ a.Box.X1 = b.Box.X1 ∧ a.Box.Y1 = b.Box.Y1 ∧ a.Box.X2 = b.Box.X2 ∧ a.Box.Y2 = b.Box.Y2) : a = b := by
  cases a; cases b; simp only [Symbol.mk.injEq]; exact ⟨h.1, box_ext h.2⟩
def relI (a b : Box) : Int := if (a.X1 ≤ b.X1 ∧ a.Y1 ≤ b.Y1 ∧ b.X2 ≤ a.X2 ∧ b.Y2 ≤ a.Y2) ∧ ¬ (a.X1 = b.X1 ∧ a.Y1 = b.Y1 ∧ a.X2 = b.X2 ∧ a.Y2 = b.Y2) then 6 else if a.X1 + a.X2 ≤ 2 * b.X1 then (if 2 * b.Y2 ≤ a.Y1 + a.Y2 then 4 else if a.Y1 + a.Y2 ≤ 2 * b.Y1 then 5 else 1) else if b.Y2 ≤ a.Y1 then 2 else if a.Y2 ≤ b.Y1 then 3 else 0
def relT (xs : List Symbol) : List (List Int) := xs.map fun a => xs.map fun b => relI a.Box b.Box
def relR (xs : List Symbol) : List (List Int) × Int := if okSyms xs = true then (relT xs, 0) else ([], 1)
theorem rel_yes {xs : List Symbol} (h : okSyms xs = true) : relR xs = (relT xs, 0) := if_pos h
theorem rel_no {xs : List Symbol} (h : okSyms xs = false) : relR xs = ([], 1) := by simp [relR, h]
def sameLL (a b : List (List Int)) : Bool := decide (a.length = b.length) && allN a.length (fun j => sameL (at_ a j) (at_ b j))
theorem sameLL_refl (a : List (List Int)) : sameLL a a = true := by
  unfold sameLL
  rw [decide_eq_true rfl, Bool.true_and]
  exact allN_at fun j _ => sameL_refl _
def relNs : List ByteArray := [⟨#[110, 111, 110, 101]⟩, ⟨#[114, 105, 103, 104, 116]⟩, ⟨#[97, 98, 111, 118, 101]⟩, ⟨#[98, 101, 108, 111, 119]⟩, ⟨#[117, 112, 112, 101, 114]⟩, ⟨#[108, 111, 119, 101, 114]⟩, ⟨#[105, 110, 115, 105, 100, 101]⟩]
def relNm (k : Int) : ByteArray := if inB k 0 6 = true then at_ relNs k.toNat else ⟨#[]⟩
def fndS (xs : List ByteArray) (x : ByteArray) : Int := firstN xs.length (fun j => decide (at_ xs j = x))
def relNd (s : ByteArray) : Int × Int := if fndS relNs s < 0 then (0, 3) else (fndS relNs s, 0)
theorem relNm_facts (k : Int) : (inB k 0 6 = true ∧ ¬ relNm k = ⟨#[]⟩ ∧ relNd (relNm k) = (k, 0)) ∨ (inB k 0 6 = false ∧ relNm k = ⟨#[]⟩ ∧ relNd (relNm k) = (0, 3)) := by
  cases h : inB k 0 6 with
  | false =>
    have e : relNm k = ⟨#[]⟩ := by unfold relNm; rw [h]; rfl
    exact .inr ⟨rfl, e, by rw [e]; decide⟩
  | true =>
    have hb := inB_iff.1 h
    have : k = 0 ∨ k = 1 ∨ k = 2 ∨ k = 3 ∨ k = 4 ∨ k = 5 ∨ k = 6 := by omega
    rcases this with rfl | rfl | rfl | rfl | rfl | rfl | rfl <;> exact .inl ⟨rfl, by decide, by decide⟩


def syI (s : Symbol) : Prop := s.Label.size ≤ 16 ∧ (-5000 ≤ s.Box.X1 ∧ s.Box.X1 ≤ 5000) ∧ (-5000 ≤ s.Box.Y1 ∧ s.Box.Y1 ≤ 5000) ∧ (-5000 ≤ s.Box.X2 ∧ s.Box.X2 ≤ 5000) ∧ (-5000 ≤ s.Box.Y2 ∧ s.Box.Y2 ≤ 5000)
theorem syI_mk {l : ByteArray} {b : Box} (h : l.size ≤ 16) (hb : (-5000 ≤ b.X1 ∧ b.X1 ≤ 5000) ∧ (-5000 ≤ b.Y1 ∧ b.Y1 ≤ 5000) ∧ (-5000 ≤ b.X2 ∧ b.X2 ≤ 5000) ∧ (-5000 ≤ b.Y2 ∧ b.Y2 ≤ 5000)) : syI ⟨l, b⟩ := ⟨h, hb⟩
theorem syI_snoc {xs : List Symbol} {x : Symbol} (h : ∀ y ∈ xs, syI y) (hx : syI x) : ∀ y ∈ xs ++ [x], syI y := fun y hy => by
  rcases List.mem_append.1 hy with hy | hy
  · exact h y hy
  · rw [List.mem_singleton.1 hy]; exact hx
theorem syI_lab {xs : List Symbol} (h : ∀ y ∈ xs, syI y) : ∀ y ∈ xs, y.Label.size ≤ 9223372036854775807 := fun y hy => by have := (h y hy).1; omega
theorem okSyms_I {xs : List Symbol} (h : okSyms xs = true) : xs.length ≤ 8 ∧ ∀ y ∈ xs, syI y := by
  have q := okSyms_iff.1 h
  refine ⟨q.1, fun y hy => ?_⟩
  obtain ⟨j, hj, e⟩ := List.getElem_of_mem hy
  have q2 := q.2 j hj
  rw [at_eq hj, e] at q2
  have q3 := okBx_iff.1 q2.2
  have q4 := q2.1
  simp only [okLabel, Bool.and_eq_true, decide_eq_true_eq] at q4
  unfold syI; omega


-- spec.l20Draw
theorem l20Draw_ok (s : l00Src) (most : Int) (hs : okSrc s) (ha : s.atx ≤ 3999999999999998000) (hm : 0 ≤ most ∧ most ≤ 8) : ∃ (s' : l00Src) (fs : List Symbol), (okSrc s') ∧ (s'.code = s.code) ∧ (s.atx + 0 ≤ s'.atx ∧ s'.atx ≤ s.atx + 1000) ∧ ((fs.length : Int) ≤ most) ∧ (∀ y_ ∈ fs, syI y_) ∧ CallOK Tryz.prog 37 [.ref 7001 0, I most] (lookO [(7001, bxl00Src s)]) false (.arr 9501) (lookO [(7001, bxl00Src s'), (9501, tASymbol fs)]) := by
  have hh : ∃ r : l00Src × (List Symbol), ((okSrc r.1) ∧ (r.1.code = s.code) ∧ (s.atx + 0 ≤ r.1.atx ∧ r.1.atx ≤ s.atx + 1000) ∧ ((r.2.length : Int) ≤ most) ∧ (∀ y_ ∈ r.2, syI y_) ∧ (True)) ∧ CallOK Tryz.prog 37 [.ref 7001 0, I most] (lookO [(7001, bxl00Src s)]) false (.arr 9501) (lookO [(7001, bxl00Src r.1), (9501, tASymbol r.2)]) := by
    refine fn_okX (Φ := fun r : l00Src × (List Symbol) => (okSrc r.1) ∧ (r.1.code = s.code) ∧ (s.atx + 0 ≤ r.1.atx ∧ r.1.atx ≤ s.atx + 1000) ∧ ((r.2.length : Int) ≤ most) ∧ (∀ y_ ∈ r.2, syI y_) ∧ (True)) [(7001, bxl00Src s)] (fun r => [(7001, bxl00Src r.1), (9501, tASymbol r.2)]) (fn := Tryz.f37) (nt := 30) Tryz.func37 rfl rfl (args := [.ref 7001 0, I most]) rfl (allcons (.inr trivial) (allcons (.inl ⟨rfl, trivial⟩) allnil)) (res := fun r => .arr 9501) ?_
    refine xR [] [0, 1] [7001] [.ref 7001 0, I most] [some (bxl00Src s)] [] trivial ?_
    refine xR [(0, .new 8)] [0, 1, 5] [8, 7001] [.ref 7001 0, I most, .arr 8] [some (.arr 5 0 (litF [] 5)), some (bxl00Src s)] [] trivial ?_
    refine xR [(1, .new 6)] [0, 1, 5, 6] [6, 8, 7001] [.ref 7001 0, I most, .arr 8, .ref 6 0] [some (.box [I 100, I 200, I 130, I 240]), some (.arr 5 0 (litF [] 5)), some (bxl00Src s)] [] trivial ?_
    refine x_seq ?_
    refine x_seq ?_
    obtain ⟨v_1, s'_1, hx1_0, hx1_1, hx1_2, hx1_3, hc1⟩ := pick_ok s (most + 1) (by first | assumption | (simp only [okSrc] at *; simp_all; done)) (by omega)
    refine x_r [(3, .lend [(7001, bxl00Src s, bxl00Src s'_1)] [] [(true, .any), (true, .any)] true (I v_1))] [0, 5, 6, 7] [6, 8, 7001] [.ref 7001 0, .arr 8, .ref 6 0, I v_1] [some (.box [I 100, I 200, I 130, I 240]), some (.arr 5 0 (litF [] 5)), some (bxl00Src s'_1)] [inR .i64 (most + 1), CallOK Tryz.prog 42 [.ref 7001 0, I (most + 1)] (lookO [(7001, bxl00Src s)]) true (I v_1) (lookO [(7001, bxl00Src s'_1)]) ∧ (((bxl00Src s : Ob) = bxl00Src s ∨ obLe noOb true (bxl00Src s) (bxl00Src s)) ∧ taggedO false (bxl00Src s)) ∧ True] ⟨(inR_i64 (by omega) (by omega)), ⟨hc1, ⟨.inl rfl, (by simp [taggedO, taggedL, tagged, tagU8])⟩, trivial⟩, trivial⟩ ?_
    refine xe_then ?_
    refine x_block ?_
    refine x_weak [] (T := [(0, .ref 7001 0), (5, .arr 8), (6, .ref 6 0), (7, I v_1)]) (O := [(6, .box [I ((Box.mk 100 200 130 240).X1), I ((Box.mk 100 200 130 240).Y1), I ((Box.mk 100 200 130 240).X2), I ((Box.mk 100 200 130 240).Y2)]), (8, tASymbol ([] : List Symbol)), (7001, bxl00Src s'_1)]) rfl (⟨.inl rfl, .inl rfl, .inl rfl, .inl rfl, trivial⟩) (⟨.inr ⟨(by first | rfl | (simp [valOf]; done) | (simp [valOf]; omega)), ⟨(by first | rfl | (simp [valOf]; done) | (simp [valOf]; omega)), ⟨(by first | rfl | (simp [valOf]; done) | (simp [valOf]; omega)), ⟨(by first | rfl | (simp [valOf]; done) | (simp [valOf]; omega)), rfl⟩⟩⟩⟩, .inr ⟨rfl, (by first | rfl | (simp; done) | (simp; omega) | omega), fun i_ hi_ => absurd hi_ (Nat.not_lt_zero _)⟩, .inl rfl, trivial⟩) ?_
    refine x_loop (X := (List Symbol) × Int × Box × l00Src) (fun x => mkS [(0, .ref 7001 0), (5, .arr 8), (6, .ref 6 0), (7, I x.2.1)] [(6, bxBox x.2.2.1), (8, tASymbol x.1), (7001, bxl00Src x.2.2.2)]) (fun x => (okSrc x.2.2.2 ∧ x.2.2.2.code = s.code ∧ s.atx ≤ x.2.2.2.atx ∧ x.2.2.2.atx ≤ s.atx + 20 + 100 * (most - x.2.1)) ∧ (0 ≤ x.2.1 ∧ x.2.1 ≤ most) ∧ ((x.1.length : Int) + x.2.1 ≤ most) ∧ (∀ y_ ∈ x.1, syI y_) ∧ ((0 ≤ x.2.2.1.X1 ∧ x.2.2.1.X1 ≤ 200 + 60 * (most - x.2.1)) ∧ (0 ≤ x.2.2.1.Y1 ∧ x.2.2.1.Y1 ≤ 200 + 60 * (most - x.2.1)) ∧ (0 ≤ x.2.2.1.X2 ∧ x.2.2.1.X2 ≤ x.2.2.1.X1 + 50) ∧ (0 ≤ x.2.2.1.Y2 ∧ x.2.2.1.Y2 ≤ x.2.2.1.Y1 + 50)) ∧ True) (fun x => x.2.1.toNat) (([] : List Symbol), v_1, (Box.mk 100 200 130 240), s'_1) rfl (show (okSrc s'_1 ∧ s'_1.code = s.code ∧ s.atx ≤ s'_1.atx ∧ s'_1.atx ≤ s.atx + 20 + 100 * (most - v_1)) ∧ (0 ≤ v_1 ∧ v_1 ≤ most) ∧ ((([] : List Symbol).length : Int) + v_1 ≤ most) ∧ (∀ y_ ∈ ([] : List Symbol), syI y_) ∧ ((0 ≤ (Box.mk 100 200 130 240).X1 ∧ (Box.mk 100 200 130 240).X1 ≤ 200 + 60 * (most - v_1)) ∧ (0 ≤ (Box.mk 100 200 130 240).Y1 ∧ (Box.mk 100 200 130 240).Y1 ≤ 200 + 60 * (most - v_1)) ∧ (0 ≤ (Box.mk 100 200 130 240).X2 ∧ (Box.mk 100 200 130 240).X2 ≤ (Box.mk 100 200 130 240).X1 + 50) ∧ (0 ≤ (Box.mk 100 200 130 240).Y2 ∧ (Box.mk 100 200 130 240).Y2 ≤ (Box.mk 100 200 130 240).Y1 + 50)) ∧ True from ⟨(by exact ⟨by assumption, by first | assumption | rfl | (simp only [*]; done), by omega, by omega⟩), (by omega), (by simp; omega), (by (intro y_ hy_; cases hy_)), (by (dsimp only; omega)), trivial⟩) (fun x hI => ?_)
    obtain ⟨out, k, b, src⟩ := x
    obtain ⟨hs0, hk0, hol, hoz, hbb, _⟩ : (okSrc src ∧ src.code = s.code ∧ s.atx ≤ src.atx ∧ src.atx ≤ s.atx + 20 + 100 * (most - k)) ∧ (0 ≤ k ∧ k ≤ most) ∧ ((out.length : Int) + k ≤ most) ∧ (∀ y_ ∈ out, syI y_) ∧ ((0 ≤ b.X1 ∧ b.X1 ≤ 200 + 60 * (most - k)) ∧ (0 ≤ b.Y1 ∧ b.Y1 ≤ 200 + 60 * (most - k)) ∧ (0 ≤ b.X2 ∧ b.X2 ≤ b.X1 + 50) ∧ (0 ≤ b.Y2 ∧ b.Y2 ≤ b.Y1 + 50)) ∧ True := hI
    show XW _ _ _ _ (mkS [(0, .ref 7001 0), (5, .arr 8), (6, .ref 6 0), (7, I k)] [(6, bxBox b), (8, tASymbol out), (7001, bxl00Src src)]) _ _
    refine x_seq ?_
    refine x_seq ?_
    by_cases h1 : 0 < k
    ·refine x_r [(1, .dec true)] [0, 5, 6, 7, 15] [6, 8, 7001] [.ref 7001 0, .arr 8, .ref 6 0, I k, Bv true] [some (bxBox b), some (tASymbol out), some (bxl00Src src)] [0 < k] ⟨h1, trivial⟩ ?_
     refine xe_then ?_
     refine x_true rfl ?_
     refine x_skip ?_
     refine xe_then ?_
     refine x_seq ?_
     refine x_block ?_
     refine x_seq ?_
     obtain ⟨v_2, s'_2, hx2_0, hx2_1, hx2_2, hx2_3, hx2_4, hc2⟩ := text_ok src ([(⟨#[97]⟩ : ByteArray), (⟨#[120]⟩ : ByteArray), (⟨#[50]⟩ : ByteArray), (⟨#[51]⟩ : ByteArray), (⟨#[45]⟩ : ByteArray), (⟨#[114]⟩ : ByteArray), (⟨#[43]⟩ : ByteArray)]) (by first | assumption | (simp only [okSrc] at *; simp_all; done)) (by omega) (by decide)
     refine x_r [(2, .new 20), (3, .lend [(7001, bxl00Src src, bxl00Src s'_2)] [] [(true, .any), (false, slS false ([(⟨#[97]⟩ : ByteArray), (⟨#[120]⟩ : ByteArray), (⟨#[50]⟩ : ByteArray), (⟨#[51]⟩ : ByteArray), (⟨#[45]⟩ : ByteArray), (⟨#[114]⟩ : ByteArray), (⟨#[43]⟩ : ByteArray)]))] true (Sv v_2)), (6, .new 24), (7, .new 25)] [0, 5, 6, 7] [6, 25, 7001] [.ref 7001 0, .arr 25, .ref 6 0, I k] [some (bxBox b), some (.arr 5 (out.length + 1) (catF out.length (fSymbol out) (litF [Sv v_2, I b.X1, I b.Y1, I b.X2, I b.Y2] 5))), some (bxl00Src s'_2)] [CallOK Tryz.prog 46 [.ref 7001 0, slS false ([(⟨#[97]⟩ : ByteArray), (⟨#[120]⟩ : ByteArray), (⟨#[50]⟩ : ByteArray), (⟨#[51]⟩ : ByteArray), (⟨#[45]⟩ : ByteArray), (⟨#[114]⟩ : ByteArray), (⟨#[43]⟩ : ByteArray)])] (lookO [(7001, bxl00Src src)]) true (Sv v_2) (lookO [(7001, bxl00Src s'_2)]) ∧ ((false = true → true = true) ∧ 1 = 1 ∧ 7 = (([(⟨#[97]⟩ : ByteArray), (⟨#[120]⟩ : ByteArray), (⟨#[50]⟩ : ByteArray), (⟨#[51]⟩ : ByteArray), (⟨#[45]⟩ : ByteArray), (⟨#[114]⟩ : ByteArray), (⟨#[43]⟩ : ByteArray)]).length) ∧ ∀ i_, i_ < (([(⟨#[97]⟩ : ByteArray), (⟨#[120]⟩ : ByteArray), (⟨#[50]⟩ : ByteArray), (⟨#[51]⟩ : ByteArray), (⟨#[45]⟩ : ByteArray), (⟨#[114]⟩ : ByteArray), (⟨#[43]⟩ : ByteArray)]).length) → (litF [Sv (⟨#[97]⟩ : ByteArray), Sv (⟨#[120]⟩ : ByteArray), Sv (⟨#[50]⟩ : ByteArray), Sv (⟨#[51]⟩ : ByteArray), Sv (⟨#[45]⟩ : ByteArray), Sv (⟨#[114]⟩ : ByteArray), Sv (⟨#[43]⟩ : ByteArray)] 1) i_ = (fS ([(⟨#[97]⟩ : ByteArray), (⟨#[120]⟩ : ByteArray), (⟨#[50]⟩ : ByteArray), (⟨#[51]⟩ : ByteArray), (⟨#[45]⟩ : ByteArray), (⟨#[114]⟩ : ByteArray), (⟨#[43]⟩ : ByteArray)])) i_ ∨ (AV.idsL ((fS ([(⟨#[97]⟩ : ByteArray), (⟨#[120]⟩ : ByteArray), (⟨#[50]⟩ : ByteArray), (⟨#[51]⟩ : ByteArray), (⟨#[45]⟩ : ByteArray), (⟨#[114]⟩ : ByteArray), (⟨#[43]⟩ : ByteArray)])) i_) = [] ∧ leL (fun _ => none) false ((litF [Sv (⟨#[97]⟩ : ByteArray), Sv (⟨#[120]⟩ : ByteArray), Sv (⟨#[50]⟩ : ByteArray), Sv (⟨#[51]⟩ : ByteArray), Sv (⟨#[45]⟩ : ByteArray), Sv (⟨#[114]⟩ : ByteArray), Sv (⟨#[43]⟩ : ByteArray)] 1) i_) ((fS ([(⟨#[97]⟩ : ByteArray), (⟨#[120]⟩ : ByteArray), (⟨#[50]⟩ : ByteArray), (⟨#[51]⟩ : ByteArray), (⟨#[45]⟩ : ByteArray), (⟨#[114]⟩ : ByteArray), (⟨#[43]⟩ : ByteArray)])) i_))) ∧ (((bxl00Src src : Ob) = bxl00Src src ∨ obLe noOb true (bxl00Src src) (bxl00Src src)) ∧ taggedO false (bxl00Src src)) ∧ True, (out.length + 1) * 48 ≤ 140737488355328] ⟨⟨hc2, ⟨(fun h => by cases h), rfl, (by first | rfl | (simp; done) | (simp; omega) | omega), fun i_ hi_ => .inl (match i_, hi_ with | 0, _ => rfl | 1, _ => rfl | 2, _ => rfl | 3, _ => rfl | 4, _ => rfl | 5, _ => rfl | 6, _ => rfl | (i + 7), h => absurd h (by simp))⟩, ⟨.inl rfl, (by simp [taggedO, taggedL, tagged, tagU8])⟩, trivial⟩, (by omega), trivial⟩ ?_
     refine xe_then ?_
     obtain ⟨v_3, s'_3, hx3_0, hx3_1, hx3_2, hx3_3, hc3⟩ := l20Near_ok s'_2 b (by first | assumption | (simp only [okSrc] at *; simp_all; done)) (by omega) (by omega)
     refine x_r [(2, .lend [(7001, bxl00Src s'_2, bxl00Src s'_3)] [] [(true, .any), (true, .any)] true (agBox v_3))] [0, 5, 6, 7] [6, 25, 7001] [.ref 7001 0, .arr 25, .ref 6 0, I k] [some (bxBox v_3), some (.arr 5 (out.length + 1) (catF out.length (fSymbol out) (litF [Sv v_2, I b.X1, I b.Y1, I b.X2, I b.Y2] 5))), some (bxl00Src s'_3)] [CallOK Tryz.prog 66 [.ref 7001 0, agBox b] (lookO [(7001, bxl00Src s'_2)]) true (agBox v_3) (lookO [(7001, bxl00Src s'_3)]) ∧ (((bxl00Src s'_2 : Ob) = bxl00Src s'_2 ∨ obLe noOb true (bxl00Src s'_2) (bxl00Src s'_2)) ∧ taggedO false (bxl00Src s'_2)) ∧ True] ⟨⟨hc3, ⟨.inl rfl, (by simp [taggedO, taggedL, tagged, tagU8])⟩, trivial⟩, trivial⟩ ?_
     refine xe_block 1 ?_
     refine xe_then ?_
     refine x_r [] [0, 5, 6, 7] [6, 25, 7001] [.ref 7001 0, .arr 25, .ref 6 0, I (k - 1)] [some (bxBox v_3), some (.arr 5 (out.length + 1) (catF out.length (fSymbol out) (litF [Sv v_2, I b.X1, I b.Y1, I b.X2, I b.Y2] 5))), some (bxl00Src s'_3)] [inR .i64 (k - 1)] ⟨(inR_i64 (by omega) (by omega)), trivial⟩ ?_
     refine xe_weak [(8, 25)] (T := [(0, .ref 7001 0), (5, .arr 8), (6, .ref 6 0), (7, I (k - 1))]) (O := [(6, bxBox v_3), (8, tASymbol (out ++ [(Symbol.mk v_2 b)])), (7001, bxl00Src s'_3)]) rfl (⟨.inl rfl, .inl rfl, .inl rfl, .inl rfl, trivial⟩) (⟨.inl rfl, .inr ⟨rfl, (by first | rfl | (simp; done) | (simp; omega) | omega), fun i_ hi_ => .inl (cat_snoc (enc := cSymbol) (xs := out) rfl i_ hi_)⟩, .inl rfl, trivial⟩) (xe_again ((out ++ [(Symbol.mk v_2 b)]), (k - 1), v_3, s'_3) rfl (show (okSrc s'_3 ∧ s'_3.code = s.code ∧ s.atx ≤ s'_3.atx ∧ s'_3.atx ≤ s.atx + 20 + 100 * (most - (k - 1))) ∧ (0 ≤ (k - 1) ∧ (k - 1) ≤ most) ∧ (((out ++ [(Symbol.mk v_2 b)]).length : Int) + (k - 1) ≤ most) ∧ (∀ y_ ∈ (out ++ [(Symbol.mk v_2 b)]), syI y_) ∧ ((0 ≤ v_3.X1 ∧ v_3.X1 ≤ 200 + 60 * (most - (k - 1))) ∧ (0 ≤ v_3.Y1 ∧ v_3.Y1 ≤ 200 + 60 * (most - (k - 1))) ∧ (0 ≤ v_3.X2 ∧ v_3.X2 ≤ v_3.X1 + 50) ∧ (0 ≤ v_3.Y2 ∧ v_3.Y2 ≤ v_3.Y1 + 50)) ∧ True from ⟨(by exact ⟨by assumption, by first | assumption | rfl | (simp only [*]; done), by omega, by omega⟩), (by omega), (by simp; omega), (by exact syI_snoc hoz (syI_mk (by first | assumption | decide | omega) (by first | assumption | omega | (dsimp only; omega)))), (by omega), trivial⟩) (by first | (show ((k - 1).toNat : Nat) < k.toNat; omega) | (dsimp only; omega)))
    refine x_r [(1, .dec false)] [0, 5, 6, 7, 15] [6, 8, 7001] [.ref 7001 0, .arr 8, .ref 6 0, I k, Bv false] [some (bxBox b), some (tASymbol out), some (bxl00Src src)] [¬ (0 < k)] ⟨h1, trivial⟩ ?_
    refine xe_then ?_
    refine x_false rfl ?_
    refine x_exit ?_
    refine xe_exit_then ?_
    refine xe_loop_exit ?_
    refine xe_exit_same ?_
    refine xe_then ?_
    refine xR [] [4] [8, 7001] [.arr 8] [some (tASymbol out), some (bxl00Src src)] [] trivial ?_
    refine x_ret ?_
    refine xe_weak [(9501, 8)] (T := [(4, .arr 9501)]) (O := [(7001, bxl00Src src), (9501, tASymbol out)]) rfl (⟨.inl rfl, trivial⟩) (⟨.inl rfl, .inl rfl, trivial⟩) ?_
    refine xe_end (src, out) (show (okSrc src) ∧ (src.code = s.code) ∧ (s.atx + 0 ≤ src.atx ∧ src.atx ≤ s.atx + 1000) ∧ ((out.length : Int) ≤ most) ∧ (∀ y_ ∈ out, syI y_) ∧ (True) from ⟨(by first | omega | assumption | exact hs0.1 | exact hs0.2.1), (by first | omega | assumption | exact hs0.1 | exact hs0.2.1), (by first | omega | assumption | exact hs0.1 | exact hs0.2.1), (by first | omega | assumption | exact hs0.1 | exact hs0.2.1), (by first | omega | assumption | exact hs0.1 | exact hs0.2.1), trivial⟩) (⟨.inl rfl, .inl rfl, trivial⟩) (.arr 9501) (by kernel_rfl) (.inl rfl) (fun h => by cases h) (fun h => by cases h)
  obtain ⟨⟨s', fs⟩, ⟨hh0, hh1, hh2, hh3, hh4, _⟩, hc⟩ := hh
  exact ⟨s', fs, hh0, hh1, hh2, hh3, hh4, hc⟩



-- spec.l00Src).among
theorem among_ok (s : l00Src) (list : List Int) (hs : okSrc s) (ha : s.atx ≤ 3999999999999999980) (hl : 0 < list.length ∧ list.length ≤ 1000) : ∃ (v : Int) (s' : l00Src), (v ∈ list) ∧ (okSrc s') ∧ (s'.code = s.code) ∧ (s.atx + 0 ≤ s'.atx ∧ s'.atx ≤ s.atx + 2) ∧ CallOK Tryz.prog 72 [.ref 7001 0, slI false list] (lookO [(7001, bxl00Src s)]) true (I v) (lookO [(7001, bxl00Src s')]) := by
  have hh : ∃ r : Int × l00Src, ((r.1 ∈ list) ∧ (okSrc r.2) ∧ (r.2.code = s.code) ∧ (s.atx + 0 ≤ r.2.atx ∧ r.2.atx ≤ s.atx + 2) ∧ (True)) ∧ CallOK Tryz.prog 72 [.ref 7001 0, slI false list] (lookO [(7001, bxl00Src s)]) true (I r.1) (lookO [(7001, bxl00Src r.2)]) := by
    refine fn_okX (Φ := fun r : Int × l00Src => (r.1 ∈ list) ∧ (okSrc r.2) ∧ (r.2.code = s.code) ∧ (s.atx + 0 ≤ r.2.atx ∧ r.2.atx ≤ s.atx + 2) ∧ (True)) [(7001, bxl00Src s)] (fun r => [(7001, bxl00Src r.2)]) (fn := Tryz.f72) (nt := 12) Tryz.func72 rfl rfl (args := [.ref 7001 0, slI false list]) rfl (allcons (.inr trivial) (allcons (.inl ⟨rfl, tagI false _⟩) allnil)) (res := fun r => I r.1) ?_
    refine xR [] [0, 1] [7001] [.ref 7001 0, slI false list] [some (bxl00Src s)] [] trivial ?_
    refine x_seq ?_
    obtain ⟨v_1, s'_1, hx1_0, hx1_1, hx1_2, hx1_3, hc1⟩ := pick_ok s (list.length : Int) (by first | assumption | (simp only [okSrc] at *; simp_all; done)) (by omega)
    refine x_r [(4, .lend [(7001, bxl00Src s, bxl00Src s'_1)] [] [(true, .any), (true, .any)] true (I v_1))] [4] [7001] [I (at_ list v_1.toNat)] [some (bxl00Src s'_1)] [CallOK Tryz.prog 42 [.ref 7001 0, I (list.length : Int)] (lookO [(7001, bxl00Src s)]) true (I v_1) (lookO [(7001, bxl00Src s'_1)]) ∧ (((bxl00Src s : Ob) = bxl00Src s ∨ obLe noOb true (bxl00Src s) (bxl00Src s)) ∧ taggedO false (bxl00Src s)) ∧ True, (0 : Int) ≤ v_1 ∧ v_1 < (list.length : Int)] ⟨⟨hc1, ⟨.inl rfl, (by simp [taggedO, taggedL, tagged, tagU8])⟩, trivial⟩, ⟨(by omega), (by omega)⟩, trivial⟩ ?_
    refine xe_then ?_
    refine x_ret ?_
    refine xe_end ((at_ list v_1.toNat), s'_1) (show ((at_ list v_1.toNat) ∈ list) ∧ (okSrc s'_1) ∧ (s'_1.code = s.code) ∧ (s.atx + 0 ≤ s'_1.atx ∧ s'_1.atx ≤ s.atx + 2) ∧ (True) from ⟨(by first | omega | rfl | assumption | (dsimp only; first | omega | rfl | assumption) | (simp only [*]; done) | (exact at_mem (by omega)) | (simp_all; done)), (by first | omega | rfl | assumption | (dsimp only; first | omega | rfl | assumption) | (simp only [*]; done) | (exact at_mem (by omega)) | (simp_all; done)), (by first | omega | rfl | assumption | (dsimp only; first | omega | rfl | assumption) | (simp only [*]; done) | (exact at_mem (by omega)) | (simp_all; done)), (by first | omega | rfl | assumption | (dsimp only; first | omega | rfl | assumption) | (simp only [*]; done) | (exact at_mem (by omega)) | (simp_all; done)), trivial⟩) (⟨.inl rfl, trivial⟩) (I (at_ list v_1.toNat)) (by kernel_rfl) (.inl rfl) (fun _ => rfl) (fun _ => trivial)
  obtain ⟨⟨v, s'⟩, ⟨hh0, hh1, hh2, hh3, _⟩, hc⟩ := hh
  exact ⟨v, s', hh0, hh1, hh2, hh3, hc⟩



-- spec.l02DrawBox
theorem l02DrawBox_ok (s : l00Src) (hs : okSrc s) (ha : s.atx ≤ 3999999999999999800) : ∃ (v : Box) (s' : l00Src), (okSrc s') ∧ (s'.code = s.code) ∧ (s.atx + 0 ≤ s'.atx ∧ s'.atx ≤ s.atx + 60) ∧ ((-5000 ≤ v.X1 ∧ v.X1 ≤ 5000) ∧ (-5000 ≤ v.Y1 ∧ v.Y1 ≤ 5000) ∧ (-5000 ≤ v.X2 ∧ v.X2 ≤ 5000) ∧ (-5000 ≤ v.Y2 ∧ v.Y2 ≤ 5000)) ∧ CallOK Tryz.prog 55 [.ref 7001 0] (lookO [(7001, bxl00Src s)]) true (agBox v) (lookO [(7001, bxl00Src s')]) := by
  have hh : ∃ r : Box × l00Src, ((okSrc r.2) ∧ (r.2.code = s.code) ∧ (s.atx + 0 ≤ r.2.atx ∧ r.2.atx ≤ s.atx + 60) ∧ ((-5000 ≤ r.1.X1 ∧ r.1.X1 ≤ 5000) ∧ (-5000 ≤ r.1.Y1 ∧ r.1.Y1 ≤ 5000) ∧ (-5000 ≤ r.1.X2 ∧ r.1.X2 ≤ 5000) ∧ (-5000 ≤ r.1.Y2 ∧ r.1.Y2 ≤ 5000)) ∧ (True)) ∧ CallOK Tryz.prog 55 [.ref 7001 0] (lookO [(7001, bxl00Src s)]) true (agBox r.1) (lookO [(7001, bxl00Src r.2)]) := by
    refine fn_okX (Φ := fun r : Box × l00Src => (okSrc r.2) ∧ (r.2.code = s.code) ∧ (s.atx + 0 ≤ r.2.atx ∧ r.2.atx ≤ s.atx + 60) ∧ ((-5000 ≤ r.1.X1 ∧ r.1.X1 ≤ 5000) ∧ (-5000 ≤ r.1.Y1 ∧ r.1.Y1 ≤ 5000) ∧ (-5000 ≤ r.1.X2 ∧ r.1.X2 ≤ 5000) ∧ (-5000 ≤ r.1.Y2 ∧ r.1.Y2 ≤ 5000)) ∧ (True)) [(7001, bxl00Src s)] (fun r => [(7001, bxl00Src r.2)]) (fn := Tryz.f55) (nt := 41) Tryz.func55 rfl rfl (args := [.ref 7001 0]) rfl (allcons (.inr trivial) allnil) (res := fun r => agBox r.1) ?_
    refine xR [(0, .new 2)] [0, 2] [2, 7001] [.ref 7001 0, .ref 2 0] [some (.box [I 0, I 0, I 0, I 0]), some (bxl00Src s)] [] trivial ?_
    refine x_seq ?_
    obtain ⟨v_1, s'_1, hx1_0, hx1_1, hx1_2, hx1_3, hc1⟩ := pick_ok s 900 (by first | assumption | (simp only [okSrc] at *; simp_all; done)) (by omega)
    refine x_r [(1, .lend [(7001, bxl00Src s, bxl00Src s'_1)] [] [(true, .any), (true, .any)] true (I v_1))] [0, 2, 3] [2, 7001] [.ref 7001 0, .ref 2 0, I v_1] [some (.box [I 0, I 0, I 0, I 0]), some (bxl00Src s'_1)] [CallOK Tryz.prog 42 [.ref 7001 0, I 900] (lookO [(7001, bxl00Src s)]) true (I v_1) (lookO [(7001, bxl00Src s'_1)]) ∧ (((bxl00Src s : Ob) = bxl00Src s ∨ obLe noOb true (bxl00Src s) (bxl00Src s)) ∧ taggedO false (bxl00Src s)) ∧ True] ⟨⟨hc1, ⟨.inl rfl, (by simp [taggedO, taggedL, tagged, tagU8])⟩, trivial⟩, trivial⟩ ?_
    refine xe_then ?_
    refine x_seq ?_
    obtain ⟨v_2, s'_2, hx2_0, hx2_1, hx2_2, hx2_3, hc2⟩ := pick_ok s'_1 900 (by first | assumption | (simp only [okSrc] at *; simp_all; done)) (by omega)
    refine x_r [(1, .lend [(7001, bxl00Src s'_1, bxl00Src s'_2)] [] [(true, .any), (true, .any)] true (I v_2))] [0, 2, 3, 4] [2, 7001] [.ref 7001 0, .ref 2 0, I v_1, I v_2] [some (.box [I 0, I 0, I 0, I 0]), some (bxl00Src s'_2)] [CallOK Tryz.prog 42 [.ref 7001 0, I 900] (lookO [(7001, bxl00Src s'_1)]) true (I v_2) (lookO [(7001, bxl00Src s'_2)]) ∧ (((bxl00Src s'_1 : Ob) = bxl00Src s'_1 ∨ obLe noOb true (bxl00Src s'_1) (bxl00Src s'_1)) ∧ taggedO false (bxl00Src s'_1)) ∧ True] ⟨⟨hc2, ⟨.inl rfl, (by simp [taggedO, taggedL, tagged, tagU8])⟩, trivial⟩, trivial⟩ ?_
    refine xe_then ?_
    refine x_seq ?_
    obtain ⟨v_3, s'_3, hx3_0, hx3_1, hx3_2, hx3_3, hc3⟩ := pick_ok s'_2 300 (by first | assumption | (simp only [okSrc] at *; simp_all; done)) (by omega)
    obtain ⟨v_4, s'_4, hx4_0, hx4_1, hx4_2, hx4_3, hc4⟩ := pick_ok s'_3 300 (by first | assumption | (simp only [okSrc] at *; simp_all; done)) (by omega)
    refine x_r [(4, .lend [(7001, bxl00Src s'_2, bxl00Src s'_3)] [] [(true, .any), (true, .any)] true (I v_3)), (8, .lend [(7001, bxl00Src s'_3, bxl00Src s'_4)] [] [(true, .any), (true, .any)] true (I v_4)), (11, .new 5)] [0, 2, 5] [2, 5, 7001] [.ref 7001 0, .ref 2 0, .ref 5 0] [some (.box [I 0, I 0, I 0, I 0]), some (.box [I v_1, I v_2, I (v_1 + v_3), I (v_2 + v_4)]), some (bxl00Src s'_4)] [CallOK Tryz.prog 42 [.ref 7001 0, I 300] (lookO [(7001, bxl00Src s'_2)]) true (I v_3) (lookO [(7001, bxl00Src s'_3)]) ∧ (((bxl00Src s'_2 : Ob) = bxl00Src s'_2 ∨ obLe noOb true (bxl00Src s'_2) (bxl00Src s'_2)) ∧ taggedO false (bxl00Src s'_2)) ∧ True, inR .i64 (v_1 + v_3), CallOK Tryz.prog 42 [.ref 7001 0, I 300] (lookO [(7001, bxl00Src s'_3)]) true (I v_4) (lookO [(7001, bxl00Src s'_4)]) ∧ (((bxl00Src s'_3 : Ob) = bxl00Src s'_3 ∨ obLe noOb true (bxl00Src s'_3) (bxl00Src s'_3)) ∧ taggedO false (bxl00Src s'_3)) ∧ True, inR .i64 (v_2 + v_4)] ⟨⟨hc3, ⟨.inl rfl, (by simp [taggedO, taggedL, tagged, tagU8])⟩, trivial⟩, (inR_i64 (by omega) (by omega)), ⟨hc4, ⟨.inl rfl, (by simp [taggedO, taggedL, tagged, tagU8])⟩, trivial⟩, (inR_i64 (by omega) (by omega)), trivial⟩ ?_
    refine xe_then ?_
    refine x_seq ?_
    refine x_seq ?_
    obtain ⟨v_5, s'_5, hx5_0, hx5_1, hx5_2, hx5_3, hc5⟩ := pick_ok s'_4 16 (by first | assumption | (simp only [okSrc] at *; simp_all; done)) (by omega)
    refine x_r [(1, .lend [(7001, bxl00Src s'_4, bxl00Src s'_5)] [] [(true, .any), (true, .any)] true (I v_5))] [0, 2, 5, 22] [2, 5, 7001] [.ref 7001 0, .ref 2 0, .ref 5 0, I v_5] [some (.box [I 0, I 0, I 0, I 0]), some (.box [I v_1, I v_2, I (v_1 + v_3), I (v_2 + v_4)]), some (bxl00Src s'_5)] [CallOK Tryz.prog 42 [.ref 7001 0, I 16] (lookO [(7001, bxl00Src s'_4)]) true (I v_5) (lookO [(7001, bxl00Src s'_5)]) ∧ (((bxl00Src s'_4 : Ob) = bxl00Src s'_4 ∨ obLe noOb true (bxl00Src s'_4) (bxl00Src s'_4)) ∧ taggedO false (bxl00Src s'_4)) ∧ True] ⟨⟨hc5, ⟨.inl rfl, (by simp [taggedO, taggedL, tagged, tagU8])⟩, trivial⟩, trivial⟩ ?_
    refine xe_then ?_
    refine x_block ?_
    refine x_seq ?_
    by_cases h1 : v_5 = 0
    ·refine x_r [(0, .dec true)] [0, 2, 5, 22, 23] [2, 5, 7001] [.ref 7001 0, .ref 2 0, .ref 5 0, I v_5, Bv true] [some (.box [I 0, I 0, I 0, I 0]), some (.box [I v_1, I v_2, I (v_1 + v_3), I (v_2 + v_4)]), some (bxl00Src s'_5)] [v_5 = 0] ⟨h1, trivial⟩ ?_
     refine xe_then ?_
     refine x_true rfl ?_
     obtain ⟨v_6, s'_6, hx6_0, hx6_1, hx6_2, hx6_3, hc6⟩ := among_ok s'_5 ([(-1), (v_1 + v_3), ((v_1 + v_3) + 1)]) (by first | assumption | (simp only [okSrc] at *; simp_all; done)) (by omega) (by simp)
     have ham_v_6 : v_6 = (-1) ∨ v_6 = (v_1 + v_3) ∨ v_6 = ((v_1 + v_3) + 1) := by simpa using hx6_0
     refine x_r [(6, .new 31), (7, .lend [(7001, bxl00Src s'_5, bxl00Src s'_6)] [] [(true, .any), (false, slI false ([(-1), (v_1 + v_3), ((v_1 + v_3) + 1)]))] true (I v_6))] [2, 5] [2, 5, 7001] [.ref 2 0, .ref 5 0] [some (.box [I 0, I 0, I 0, I 0]), some (.box [I v_6, I v_2, I (v_1 + v_3), I (v_2 + v_4)]), some (bxl00Src s'_6)] [inR .i64 ((v_1 + v_3) + 1), CallOK Tryz.prog 72 [.ref 7001 0, slI false ([(-1), (v_1 + v_3), ((v_1 + v_3) + 1)])] (lookO [(7001, bxl00Src s'_5)]) true (I v_6) (lookO [(7001, bxl00Src s'_6)]) ∧ ((false = true → true = true) ∧ 1 = 1 ∧ 3 = (([(-1), (v_1 + v_3), ((v_1 + v_3) + 1)]).length) ∧ ∀ i_, i_ < (([(-1), (v_1 + v_3), ((v_1 + v_3) + 1)]).length) → (litF [I (-1), I (v_1 + v_3), I ((v_1 + v_3) + 1)] 1) i_ = (fI ([(-1), (v_1 + v_3), ((v_1 + v_3) + 1)])) i_ ∨ (AV.idsL ((fI ([(-1), (v_1 + v_3), ((v_1 + v_3) + 1)])) i_) = [] ∧ leL (fun _ => none) false ((litF [I (-1), I (v_1 + v_3), I ((v_1 + v_3) + 1)] 1) i_) ((fI ([(-1), (v_1 + v_3), ((v_1 + v_3) + 1)])) i_))) ∧ (((bxl00Src s'_5 : Ob) = bxl00Src s'_5 ∨ obLe noOb true (bxl00Src s'_5) (bxl00Src s'_5)) ∧ taggedO false (bxl00Src s'_5)) ∧ True] ⟨(inR_i64 (by omega) (by omega)), ⟨hc6, ⟨(fun h => by cases h), rfl, (by first | rfl | (simp; done) | (simp; omega) | omega), fun i_ hi_ => .inl (match i_, hi_ with | 0, _ => rfl | 1, _ => rfl | 2, _ => rfl | (i + 3), h => absurd h (by simp))⟩, ⟨.inl rfl, (by simp [taggedO, taggedL, tagged, tagU8])⟩, trivial⟩, trivial⟩ ?_
     refine xe_block 0 ?_
     refine xe_then ?_
     refine xR [] [2] [2, 7001] [.ref 2 0] [some (.box [I v_6, I v_2, I (v_1 + v_3), I (v_2 + v_4)]), some (bxl00Src s'_6)] [] trivial ?_
     refine x_ret ?_
     refine xe_end ((Box.mk v_6 v_2 (v_1 + v_3) (v_2 + v_4)), s'_6) (show (okSrc s'_6) ∧ (s'_6.code = s.code) ∧ (s.atx + 0 ≤ s'_6.atx ∧ s'_6.atx ≤ s.atx + 60) ∧ ((-5000 ≤ (Box.mk v_6 v_2 (v_1 + v_3) (v_2 + v_4)).X1 ∧ (Box.mk v_6 v_2 (v_1 + v_3) (v_2 + v_4)).X1 ≤ 5000) ∧ (-5000 ≤ (Box.mk v_6 v_2 (v_1 + v_3) (v_2 + v_4)).Y1 ∧ (Box.mk v_6 v_2 (v_1 + v_3) (v_2 + v_4)).Y1 ≤ 5000) ∧ (-5000 ≤ (Box.mk v_6 v_2 (v_1 + v_3) (v_2 + v_4)).X2 ∧ (Box.mk v_6 v_2 (v_1 + v_3) (v_2 + v_4)).X2 ≤ 5000) ∧ (-5000 ≤ (Box.mk v_6 v_2 (v_1 + v_3) (v_2 + v_4)).Y2 ∧ (Box.mk v_6 v_2 (v_1 + v_3) (v_2 + v_4)).Y2 ≤ 5000)) ∧ (True) from ⟨(by first | omega | assumption | rfl | (dsimp only; omega) | (simp; done) | (simp; omega) | (simp_all; done) | (simp_all; omega)), (by first | omega | assumption | rfl | (dsimp only; omega) | (simp; done) | (simp; omega) | (simp_all; done) | (simp_all; omega)), (by first | omega | assumption | rfl | (dsimp only; omega) | (simp; done) | (simp; omega) | (simp_all; done) | (simp_all; omega)), (by first | omega | assumption | rfl | (dsimp only; omega) | (simp; done) | (simp; omega) | (simp_all; done) | (simp_all; omega)), trivial⟩) (⟨.inl rfl, trivial⟩) (.agg [I v_6, I v_2, I (v_1 + v_3), I (v_2 + v_4)]) (by kernel_rfl) (.inl rfl) (fun _ => rfl) (fun _ => (by simp [tagged, taggedL]))
    refine x_r [(0, .dec false)] [0, 2, 5, 22, 23] [2, 5, 7001] [.ref 7001 0, .ref 2 0, .ref 5 0, I v_5, Bv false] [some (.box [I 0, I 0, I 0, I 0]), some (.box [I v_1, I v_2, I (v_1 + v_3), I (v_2 + v_4)]), some (bxl00Src s'_5)] [¬ (v_5 = 0)] ⟨h1, trivial⟩ ?_
    refine xe_then ?_
    refine x_false rfl ?_
    refine x_seq ?_
    by_cases h2 : v_5 = 1
    ·refine x_r [(0, .dec true)] [0, 2, 5, 34] [2, 5, 7001] [.ref 7001 0, .ref 2 0, .ref 5 0, Bv true] [some (.box [I 0, I 0, I 0, I 0]), some (.box [I v_1, I v_2, I (v_1 + v_3), I (v_2 + v_4)]), some (bxl00Src s'_5)] [v_5 = 1] ⟨h2, trivial⟩ ?_
     refine xe_then ?_
     refine x_true rfl ?_
     obtain ⟨v_7, s'_7, hx7_0, hx7_1, hx7_2, hx7_3, hc7⟩ := among_ok s'_5 ([4095, 4096, (-1)]) (by first | assumption | (simp only [okSrc] at *; simp_all; done)) (by omega) (by simp)
     have ham_v_7 : v_7 = 4095 ∨ v_7 = 4096 ∨ v_7 = (-1) := by simpa using hx7_0
     refine x_r [(1, .new 37), (2, .lend [(7001, bxl00Src s'_5, bxl00Src s'_7)] [] [(true, .any), (false, slI false ([4095, 4096, (-1)]))] true (I v_7))] [2, 5] [2, 5, 7001] [.ref 2 0, .ref 5 0] [some (.box [I 0, I 0, I 0, I 0]), some (.box [I v_1, I v_2, I (v_1 + v_3), I v_7]), some (bxl00Src s'_7)] [CallOK Tryz.prog 72 [.ref 7001 0, slI false ([4095, 4096, (-1)])] (lookO [(7001, bxl00Src s'_5)]) true (I v_7) (lookO [(7001, bxl00Src s'_7)]) ∧ ((false = true → true = true) ∧ 1 = 1 ∧ 3 = (([4095, 4096, (-1)]).length) ∧ ∀ i_, i_ < (([4095, 4096, (-1)]).length) → (litF [I 4095, I 4096, I (-1)] 1) i_ = (fI ([4095, 4096, (-1)])) i_ ∨ (AV.idsL ((fI ([4095, 4096, (-1)])) i_) = [] ∧ leL (fun _ => none) false ((litF [I 4095, I 4096, I (-1)] 1) i_) ((fI ([4095, 4096, (-1)])) i_))) ∧ (((bxl00Src s'_5 : Ob) = bxl00Src s'_5 ∨ obLe noOb true (bxl00Src s'_5) (bxl00Src s'_5)) ∧ taggedO false (bxl00Src s'_5)) ∧ True] ⟨⟨hc7, ⟨(fun h => by cases h), rfl, (by first | rfl | (simp; done) | (simp; omega) | omega), fun i_ hi_ => .inl (match i_, hi_ with | 0, _ => rfl | 1, _ => rfl | 2, _ => rfl | (i + 3), h => absurd h (by simp))⟩, ⟨.inl rfl, (by simp [taggedO, taggedL, tagged, tagU8])⟩, trivial⟩, trivial⟩ ?_
     refine xe_block 0 ?_
     refine xe_then ?_
     refine xR [] [2] [2, 7001] [.ref 2 0] [some (.box [I v_1, I v_2, I (v_1 + v_3), I v_7]), some (bxl00Src s'_7)] [] trivial ?_
     refine x_ret ?_
     refine xe_end ((Box.mk v_1 v_2 (v_1 + v_3) v_7), s'_7) (show (okSrc s'_7) ∧ (s'_7.code = s.code) ∧ (s.atx + 0 ≤ s'_7.atx ∧ s'_7.atx ≤ s.atx + 60) ∧ ((-5000 ≤ (Box.mk v_1 v_2 (v_1 + v_3) v_7).X1 ∧ (Box.mk v_1 v_2 (v_1 + v_3) v_7).X1 ≤ 5000) ∧ (-5000 ≤ (Box.mk v_1 v_2 (v_1 + v_3) v_7).Y1 ∧ (Box.mk v_1 v_2 (v_1 + v_3) v_7).Y1 ≤ 5000) ∧ (-5000 ≤ (Box.mk v_1 v_2 (v_1 + v_3) v_7).X2 ∧ (Box.mk v_1 v_2 (v_1 + v_3) v_7).X2 ≤ 5000) ∧ (-5000 ≤ (Box.mk v_1 v_2 (v_1 + v_3) v_7).Y2 ∧ (Box.mk v_1 v_2 (v_1 + v_3) v_7).Y2 ≤ 5000)) ∧ (True) from ⟨(by first | omega | assumption | rfl | (dsimp only; omega) | (simp; done) | (simp; omega) | (simp_all; done) | (simp_all; omega)), (by first | omega | assumption | rfl | (dsimp only; omega) | (simp; done) | (simp; omega) | (simp_all; done) | (simp_all; omega)), (by first | omega | assumption | rfl | (dsimp only; omega) | (simp; done) | (simp; omega) | (simp_all; done) | (simp_all; omega)), (by first | omega | assumption | rfl | (dsimp only; omega) | (simp; done) | (simp; omega) | (simp_all; done) | (simp_all; omega)), trivial⟩) (⟨.inl rfl, trivial⟩) (.agg [I v_1, I v_2, I (v_1 + v_3), I v_7]) (by kernel_rfl) (.inl rfl) (fun _ => rfl) (fun _ => (by simp [tagged, taggedL]))
    refine x_r [(0, .dec false)] [0, 2, 5, 34] [2, 5, 7001] [.ref 7001 0, .ref 2 0, .ref 5 0, Bv false] [some (.box [I 0, I 0, I 0, I 0]), some (.box [I v_1, I v_2, I (v_1 + v_3), I (v_2 + v_4)]), some (bxl00Src s'_5)] [¬ (v_5 = 1)] ⟨h2, trivial⟩ ?_
    refine xe_then ?_
    refine x_false rfl ?_
    refine x_skip ?_
    refine xe_block 0 ?_
    refine xe_then ?_
    refine xR [] [2] [2, 7001] [.ref 2 0] [some (.box [I v_1, I v_2, I (v_1 + v_3), I (v_2 + v_4)]), some (bxl00Src s'_5)] [] trivial ?_
    refine x_ret ?_
    refine xe_end ((Box.mk v_1 v_2 (v_1 + v_3) (v_2 + v_4)), s'_5) (show (okSrc s'_5) ∧ (s'_5.code = s.code) ∧ (s.atx + 0 ≤ s'_5.atx ∧ s'_5.atx ≤ s.atx + 60) ∧ ((-5000 ≤ (Box.mk v_1 v_2 (v_1 + v_3) (v_2 + v_4)).X1 ∧ (Box.mk v_1 v_2 (v_1 + v_3) (v_2 + v_4)).X1 ≤ 5000) ∧ (-5000 ≤ (Box.mk v_1 v_2 (v_1 + v_3) (v_2 + v_4)).Y1 ∧ (Box.mk v_1 v_2 (v_1 + v_3) (v_2 + v_4)).Y1 ≤ 5000) ∧ (-5000 ≤ (Box.mk v_1 v_2 (v_1 + v_3) (v_2 + v_4)).X2 ∧ (Box.mk v_1 v_2 (v_1 + v_3) (v_2 + v_4)).X2 ≤ 5000) ∧ (-5000 ≤ (Box.mk v_1 v_2 (v_1 + v_3) (v_2 + v_4)).Y2 ∧ (Box.mk v_1 v_2 (v_1 + v_3) (v_2 + v_4)).Y2 ≤ 5000)) ∧ (True) from ⟨(by first | omega | assumption | rfl | (dsimp only; omega) | (simp; done) | (simp; omega) | (simp_all; done) | (simp_all; omega)), (by first | omega | assumption | rfl | (dsimp only; omega) | (simp; done) | (simp; omega) | (simp_all; done) | (simp_all; omega)), (by first | omega | assumption | rfl | (dsimp only; omega) | (simp; done) | (simp; omega) | (simp_all; done) | (simp_all; omega)), (by first | omega | assumption | rfl | (dsimp only; omega) | (simp; done) | (simp; omega) | (simp_all; done) | (simp_all; omega)), trivial⟩) (⟨.inl rfl, trivial⟩) (.agg [I v_1, I v_2, I (v_1 + v_3), I (v_2 + v_4)]) (by kernel_rfl) (.inl rfl) (fun _ => rfl) (fun _ => (by simp [tagged, taggedL]))
  obtain ⟨⟨v, s'⟩, ⟨hh0, hh1, hh2, hh3, _⟩, hc⟩ := hh
  exact ⟨v, s', hh0, hh1, hh2, hh3, hc⟩



-- spec.l20Bent
theorem l20Bent_ok (s : l00Src) (hs : okSrc s) (ha : s.atx ≤ 3999999999999996000) : ∃ (s' : l00Src) (fs : List Symbol), (okSrc s') ∧ (s'.code = s.code) ∧ (s.atx + 0 ≤ s'.atx ∧ s'.atx ≤ s.atx + 2000) ∧ (fs.length ≤ 12) ∧ (∀ y_ ∈ fs, syI y_) ∧ CallOK Tryz.prog 25 [.ref 7001 0] (lookO [(7001, bxl00Src s)]) false (.arr 9502) (lookO [(7001, bxl00Src s'), (9502, tASymbol fs)]) := by
  have hh : ∃ r : l00Src × (List Symbol), ((okSrc r.1) ∧ (r.1.code = s.code) ∧ (s.atx + 0 ≤ r.1.atx ∧ r.1.atx ≤ s.atx + 2000) ∧ (r.2.length ≤ 12) ∧ (∀ y_ ∈ r.2, syI y_) ∧ (True)) ∧ CallOK Tryz.prog 25 [.ref 7001 0] (lookO [(7001, bxl00Src s)]) false (.arr 9502) (lookO [(7001, bxl00Src r.1), (9502, tASymbol r.2)]) := by
    refine fn_okX (Φ := fun r : l00Src × (List Symbol) => (okSrc r.1) ∧ (r.1.code = s.code) ∧ (s.atx + 0 ≤ r.1.atx ∧ r.1.atx ≤ s.atx + 2000) ∧ (r.2.length ≤ 12) ∧ (∀ y_ ∈ r.2, syI y_) ∧ (True)) [(7001, bxl00Src s)] (fun r => [(7001, bxl00Src r.1), (9502, tASymbol r.2)]) (fn := Tryz.f25) (nt := 48) Tryz.func25 rfl rfl (args := [.ref 7001 0]) rfl (allcons (.inr trivial) allnil) (res := fun r => .arr 9502) ?_
    refine xR [] [0] [7001] [.ref 7001 0] [some (bxl00Src s)] [] trivial ?_
    refine x_seq ?_
    obtain ⟨s'_1, fs_1, hx1_0, hx1_1, hx1_2, hx1_3, hx1_4, hc1⟩ := l20Draw_ok s 6 (by first | assumption | (simp only [okSrc] at *; simp_all; done)) (by omega) (by omega)
    have hfz := hx1_4
    refine x_r [(1, .lend [(7001, bxl00Src s, bxl00Src s'_1)] [(9501, tASymbol fs_1)] [(true, .any), (true, .any)] false (.arr 9501))] [0, 3] [7001, 9501] [.ref 7001 0, .arr 9501] [some (bxl00Src s'_1), some (tASymbol fs_1)] [CallOK Tryz.prog 37 [.ref 7001 0, I 6] (lookO [(7001, bxl00Src s)]) false (.arr 9501) (lookO [(7001, bxl00Src s'_1), (9501, tASymbol fs_1)]) ∧ (((bxl00Src s : Ob) = bxl00Src s ∨ obLe noOb true (bxl00Src s) (bxl00Src s)) ∧ taggedO false (bxl00Src s)) ∧ True] ⟨⟨hc1, ⟨.inl rfl, (by simp [taggedO, taggedL, tagged, tagU8])⟩, trivial⟩, trivial⟩ ?_
    refine xe_then ?_
    refine x_seq ?_
    refine x_seq ?_
    obtain ⟨v_2, s'_2, hx2_0, hx2_1, hx2_2, hx2_3, hc2⟩ := pick_ok s'_1 24 (by first | assumption | (simp only [okSrc] at *; simp_all; done)) (by omega)
    refine x_r [(1, .lend [(7001, bxl00Src s'_1, bxl00Src s'_2)] [] [(true, .any), (true, .any)] true (I v_2))] [0, 3, 8] [7001, 9501] [.ref 7001 0, .arr 9501, I v_2] [some (bxl00Src s'_2), some (tASymbol fs_1)] [CallOK Tryz.prog 42 [.ref 7001 0, I 24] (lookO [(7001, bxl00Src s'_1)]) true (I v_2) (lookO [(7001, bxl00Src s'_2)]) ∧ (((bxl00Src s'_1 : Ob) = bxl00Src s'_1 ∨ obLe noOb true (bxl00Src s'_1) (bxl00Src s'_1)) ∧ taggedO false (bxl00Src s'_1)) ∧ True] ⟨⟨hc2, ⟨.inl rfl, (by simp [taggedO, taggedL, tagged, tagU8])⟩, trivial⟩, trivial⟩ ?_
    refine xe_then ?_
    refine x_block ?_
    refine x_seq ?_
    by_cases h1 : v_2 = 0
    ·refine x_r [(0, .dec true)] [0, 3, 8, 9] [7001, 9501] [.ref 7001 0, .arr 9501, I v_2, Bv true] [some (bxl00Src s'_2), some (tASymbol fs_1)] [v_2 = 0] ⟨h1, trivial⟩ ?_
     refine xe_then ?_
     refine x_true rfl ?_
     obtain ⟨v_3, s'_3, hx3_0, hx3_1, hx3_2, hx3_3, hx3_4, hc3⟩ := text_ok s'_2 ([(⟨#[]⟩ : ByteArray), (⟨#[97, 98]⟩ : ByteArray), (⟨#[32]⟩ : ByteArray)]) (by first | assumption | (simp only [okSrc] at *; simp_all; done)) (by omega) (by decide)
     refine x_r [(2, .new 13), (3, .lend [(7001, bxl00Src s'_2, bxl00Src s'_3)] [] [(true, .any), (false, slS false ([(⟨#[]⟩ : ByteArray), (⟨#[97, 98]⟩ : ByteArray), (⟨#[32]⟩ : ByteArray)]))] true (Sv v_3)), (5, .new 16), (6, .new 17)] [3] [17, 7001] [.arr 17] [some (.arr 5 (fs_1.length + 1) (catF fs_1.length (fSymbol fs_1) (litF [Sv v_3, I 0, I 0, I 0, I 0] 5))), some (bxl00Src s'_3)] [CallOK Tryz.prog 46 [.ref 7001 0, slS false ([(⟨#[]⟩ : ByteArray), (⟨#[97, 98]⟩ : ByteArray), (⟨#[32]⟩ : ByteArray)])] (lookO [(7001, bxl00Src s'_2)]) true (Sv v_3) (lookO [(7001, bxl00Src s'_3)]) ∧ ((false = true → true = true) ∧ 1 = 1 ∧ 3 = (([(⟨#[]⟩ : ByteArray), (⟨#[97, 98]⟩ : ByteArray), (⟨#[32]⟩ : ByteArray)]).length) ∧ ∀ i_, i_ < (([(⟨#[]⟩ : ByteArray), (⟨#[97, 98]⟩ : ByteArray), (⟨#[32]⟩ : ByteArray)]).length) → (litF [Sv (⟨#[]⟩ : ByteArray), Sv (⟨#[97, 98]⟩ : ByteArray), Sv (⟨#[32]⟩ : ByteArray)] 1) i_ = (fS ([(⟨#[]⟩ : ByteArray), (⟨#[97, 98]⟩ : ByteArray), (⟨#[32]⟩ : ByteArray)])) i_ ∨ (AV.idsL ((fS ([(⟨#[]⟩ : ByteArray), (⟨#[97, 98]⟩ : ByteArray), (⟨#[32]⟩ : ByteArray)])) i_) = [] ∧ leL (fun _ => none) false ((litF [Sv (⟨#[]⟩ : ByteArray), Sv (⟨#[97, 98]⟩ : ByteArray), Sv (⟨#[32]⟩ : ByteArray)] 1) i_) ((fS ([(⟨#[]⟩ : ByteArray), (⟨#[97, 98]⟩ : ByteArray), (⟨#[32]⟩ : ByteArray)])) i_))) ∧ (((bxl00Src s'_2 : Ob) = bxl00Src s'_2 ∨ obLe noOb true (bxl00Src s'_2) (bxl00Src s'_2)) ∧ taggedO false (bxl00Src s'_2)) ∧ True, (fs_1.length + 1) * 48 ≤ 140737488355328] ⟨⟨hc3, ⟨(fun h => by cases h), rfl, (by first | rfl | (simp; done) | (simp; omega) | omega), fun i_ hi_ => .inl (match i_, hi_ with | 0, _ => rfl | 1, _ => rfl | 2, _ => rfl | (i + 3), h => absurd h (by simp))⟩, ⟨.inl rfl, (by simp [taggedO, taggedL, tagged, tagU8])⟩, trivial⟩, (by omega), trivial⟩ ?_
     refine xe_block 0 ?_
     refine xe_then ?_
     refine x_seq ?_
     refine x_weak [] (T := [(3, .arr 17)]) (O := [(17, tASymbol (fs_1 ++ [(Symbol.mk v_3 (Box.mk 0 0 0 0))])), (7001, bxl00Src s'_3)]) rfl (⟨.inl rfl, trivial⟩) (⟨.inr ⟨rfl, (by first | rfl | (simp; done) | (simp; omega) | omega), fun i_ hi_ => .inl (cat_snoc (enc := cSymbol) (xs := fs_1) rfl i_ hi_)⟩, .inl rfl, trivial⟩) ?_
     refine x_r [] [2] [17, 7001] [.arr 17] [some (tASymbol (fs_1 ++ [(Symbol.mk v_3 (Box.mk 0 0 0 0))])), some (bxl00Src s'_3)] [] trivial ?_
     refine xe_then ?_
     refine x_ret ?_
     refine xe_weak [(9502, 17)] (T := [(2, .arr 9502)]) (O := [(7001, bxl00Src s'_3), (9502, tASymbol (fs_1 ++ [(Symbol.mk v_3 (Box.mk 0 0 0 0))]))]) rfl (⟨.inl rfl, trivial⟩) (⟨.inl rfl, .inl rfl, trivial⟩) ?_
     refine xe_end (s'_3, (fs_1 ++ [(Symbol.mk v_3 (Box.mk 0 0 0 0))])) (show (okSrc s'_3) ∧ (s'_3.code = s.code) ∧ (s.atx + 0 ≤ s'_3.atx ∧ s'_3.atx ≤ s.atx + 2000) ∧ ((fs_1 ++ [(Symbol.mk v_3 (Box.mk 0 0 0 0))]).length ≤ 12) ∧ (∀ y_ ∈ (fs_1 ++ [(Symbol.mk v_3 (Box.mk 0 0 0 0))]), syI y_) ∧ (True) from ⟨(by first | omega | assumption | exact hs0.1 | exact hs0.2.1 | (simp only [*]; done) | (simp; omega) | (exact syI_snoc hfz (syI_mk (by first | assumption | decide | omega) (by first | assumption | omega | (dsimp only; omega))))), (by first | omega | assumption | exact hs0.1 | exact hs0.2.1 | (simp only [*]; done) | (simp; omega) | (exact syI_snoc hfz (syI_mk (by first | assumption | decide | omega) (by first | assumption | omega | (dsimp only; omega))))), (by first | omega | assumption | exact hs0.1 | exact hs0.2.1 | (simp only [*]; done) | (simp; omega) | (exact syI_snoc hfz (syI_mk (by first | assumption | decide | omega) (by first | assumption | omega | (dsimp only; omega))))), (by first | omega | assumption | exact hs0.1 | exact hs0.2.1 | (simp only [*]; done) | (simp; omega) | (exact syI_snoc hfz (syI_mk (by first | assumption | decide | omega) (by first | assumption | omega | (dsimp only; omega))))), (by first | omega | assumption | exact hs0.1 | exact hs0.2.1 | (simp only [*]; done) | (simp; omega) | (exact syI_snoc hfz (syI_mk (by first | assumption | decide | omega) (by first | assumption | omega | (dsimp only; omega))))), trivial⟩) (⟨.inl rfl, .inl rfl, trivial⟩) (.arr 9502) (by kernel_rfl) (.inl rfl) (fun h => by cases h) (fun h => by cases h)
    refine x_r [(0, .dec false)] [0, 3, 8, 9] [7001, 9501] [.ref 7001 0, .arr 9501, I v_2, Bv false] [some (bxl00Src s'_2), some (tASymbol fs_1)] [¬ (v_2 = 0)] ⟨h1, trivial⟩ ?_
    refine xe_then ?_
    refine x_false rfl ?_
    refine x_seq ?_
    by_cases h2 : v_2 = 1
    ·refine x_r [(0, .dec true)] [0, 3, 8, 18] [7001, 9501] [.ref 7001 0, .arr 9501, I v_2, Bv true] [some (bxl00Src s'_2), some (tASymbol fs_1)] [v_2 = 1] ⟨h2, trivial⟩ ?_
     refine xe_then ?_
     refine x_true rfl ?_
     obtain ⟨v_4, s'_4, hx4_0, hx4_1, hx4_2, hx4_3, hc4⟩ := l02DrawBox_ok s'_2 (by first | assumption | (simp only [okSrc] at *; simp_all; done)) (by omega)
     refine x_r [(2, .lend [(7001, bxl00Src s'_2, bxl00Src s'_4)] [] [(true, .any)] true (agBox v_4)), (4, .new 24), (5, .new 25)] [3] [25, 7001] [.arr 25] [some (.arr 5 (fs_1.length + 1) (catF fs_1.length (fSymbol fs_1) (litF [Sv (⟨#[97]⟩ : ByteArray), I v_4.X1, I v_4.Y1, I v_4.X2, I v_4.Y2] 5))), some (bxl00Src s'_4)] [CallOK Tryz.prog 55 [.ref 7001 0] (lookO [(7001, bxl00Src s'_2)]) true (agBox v_4) (lookO [(7001, bxl00Src s'_4)]) ∧ (((bxl00Src s'_2 : Ob) = bxl00Src s'_2 ∨ obLe noOb true (bxl00Src s'_2) (bxl00Src s'_2)) ∧ taggedO false (bxl00Src s'_2)) ∧ True, (fs_1.length + 1) * 48 ≤ 140737488355328] ⟨⟨hc4, ⟨.inl rfl, (by simp [taggedO, taggedL, tagged, tagU8])⟩, trivial⟩, (by omega), trivial⟩ ?_
     refine xe_block 0 ?_
     refine xe_then ?_
     refine x_seq ?_
     refine x_weak [] (T := [(3, .arr 25)]) (O := [(25, tASymbol (fs_1 ++ [(Symbol.mk (⟨#[97]⟩ : ByteArray) v_4)])), (7001, bxl00Src s'_4)]) rfl (⟨.inl rfl, trivial⟩) (⟨.inr ⟨rfl, (by first | rfl | (simp; done) | (simp; omega) | omega), fun i_ hi_ => .inl (cat_snoc (enc := cSymbol) (xs := fs_1) rfl i_ hi_)⟩, .inl rfl, trivial⟩) ?_
     refine x_r [] [2] [25, 7001] [.arr 25] [some (tASymbol (fs_1 ++ [(Symbol.mk (⟨#[97]⟩ : ByteArray) v_4)])), some (bxl00Src s'_4)] [] trivial ?_
     refine xe_then ?_
     refine x_ret ?_
     refine xe_weak [(9502, 25)] (T := [(2, .arr 9502)]) (O := [(7001, bxl00Src s'_4), (9502, tASymbol (fs_1 ++ [(Symbol.mk (⟨#[97]⟩ : ByteArray) v_4)]))]) rfl (⟨.inl rfl, trivial⟩) (⟨.inl rfl, .inl rfl, trivial⟩) ?_
     refine xe_end (s'_4, (fs_1 ++ [(Symbol.mk (⟨#[97]⟩ : ByteArray) v_4)])) (show (okSrc s'_4) ∧ (s'_4.code = s.code) ∧ (s.atx + 0 ≤ s'_4.atx ∧ s'_4.atx ≤ s.atx + 2000) ∧ ((fs_1 ++ [(Symbol.mk (⟨#[97]⟩ : ByteArray) v_4)]).length ≤ 12) ∧ (∀ y_ ∈ (fs_1 ++ [(Symbol.mk (⟨#[97]⟩ : ByteArray) v_4)]), syI y_) ∧ (True) from ⟨(by first | omega | assumption | exact hs0.1 | exact hs0.2.1 | (simp only [*]; done) | (simp; omega) | (exact syI_snoc hfz (syI_mk (by first | assumption | decide | omega) (by first | assumption | omega | (dsimp only; omega))))), (by first | omega | assumption | exact hs0.1 | exact hs0.2.1 | (simp only [*]; done) | (simp; omega) | (exact syI_snoc hfz (syI_mk (by first | assumption | decide | omega) (by first | assumption | omega | (dsimp only; omega))))), (by first | omega | assumption | exact hs0.1 | exact hs0.2.1 | (simp only [*]; done) | (simp; omega) | (exact syI_snoc hfz (syI_mk (by first | assumption | decide | omega) (by first | assumption | omega | (dsimp only; omega))))), (by first | omega | assumption | exact hs0.1 | exact hs0.2.1 | (simp only [*]; done) | (simp; omega) | (exact syI_snoc hfz (syI_mk (by first | assumption | decide | omega) (by first | assumption | omega | (dsimp only; omega))))), (by first | omega | assumption | exact hs0.1 | exact hs0.2.1 | (simp only [*]; done) | (simp; omega) | (exact syI_snoc hfz (syI_mk (by first | assumption | decide | omega) (by first | assumption | omega | (dsimp only; omega))))), trivial⟩) (⟨.inl rfl, .inl rfl, trivial⟩) (.arr 9502) (by kernel_rfl) (.inl rfl) (fun h => by cases h) (fun h => by cases h)
    refine x_r [(0, .dec false)] [0, 3, 8, 18] [7001, 9501] [.ref 7001 0, .arr 9501, I v_2, Bv false] [some (bxl00Src s'_2), some (tASymbol fs_1)] [¬ (v_2 = 1)] ⟨h2, trivial⟩ ?_
    refine xe_then ?_
    refine x_false rfl ?_
    refine x_seq ?_
    by_cases h3 : v_2 = 2
    ·refine x_r [(0, .dec true)] [0, 3, 26] [7001, 9501] [.ref 7001 0, .arr 9501, Bv true] [some (bxl00Src s'_2), some (tASymbol fs_1)] [v_2 = 2] ⟨h3, trivial⟩ ?_
     refine xe_then ?_
     refine x_true rfl ?_
     refine xR [] [0, 3, 4] [7001, 9501] [.ref 7001 0, .arr 9501, I (fs_1.length : Int)] [some (bxl00Src s'_2), some (tASymbol fs_1)] [] trivial ?_
     refine x_block ?_
     refine x_loop (X := (List Symbol) × Int × l00Src) (fun x => mkS [(0, .ref 7001 0), (3, .arr 9501), (4, I x.2.1)] [(7001, bxl00Src x.2.2), (9501, tASymbol x.1)]) (fun x => (okSrc x.2.2 ∧ x.2.2.code = s.code ∧ s.atx ≤ x.2.2.atx ∧ x.2.2.atx ≤ s.atx + 1010 + 2 * x.2.1) ∧ (0 ≤ x.2.1 ∧ x.2.1 ≤ 9) ∧ ((x.1.length : Int) = x.2.1 ) ∧ (∀ y_ ∈ x.1, syI y_) ∧ True) (fun x => (10 - x.2.1).toNat) (fs_1, (fs_1.length : Int), s'_2) rfl (show (okSrc s'_2 ∧ s'_2.code = s.code ∧ s.atx ≤ s'_2.atx ∧ s'_2.atx ≤ s.atx + 1010 + 2 * (fs_1.length : Int)) ∧ (0 ≤ (fs_1.length : Int) ∧ (fs_1.length : Int) ≤ 9) ∧ ((fs_1.length : Int) = (fs_1.length : Int) ) ∧ (∀ y_ ∈ fs_1, syI y_) ∧ True from ⟨(by exact ⟨by assumption, by first | assumption | rfl | (simp only [*]; done), by omega, by omega⟩), (by omega), (by first | rfl | omega), (by assumption), trivial⟩) (fun x hI => ?_)
     obtain ⟨out, k, src⟩ := x
     obtain ⟨hs0, hk0, hol, hoz, _⟩ : (okSrc src ∧ src.code = s.code ∧ s.atx ≤ src.atx ∧ src.atx ≤ s.atx + 1010 + 2 * k) ∧ (0 ≤ k ∧ k ≤ 9) ∧ ((out.length : Int) = k ) ∧ (∀ y_ ∈ out, syI y_) ∧ True := hI
     show XW _ _ _ _ (mkS [(0, .ref 7001 0), (3, .arr 9501), (4, I k)] [(7001, bxl00Src src), (9501, tASymbol out)]) _ _
     refine x_seq ?_
     refine x_seq ?_
     obtain ⟨v_5, s'_5, hx5_0, hx5_1, hx5_2, hx5_3, hc5⟩ := pick_ok src 2 (by first | assumption | (simp only [okSrc] at *; simp_all; done)) (by omega)
     by_cases h4 : k < (8 + v_5)
     ·refine x_r [(2, .lend [(7001, bxl00Src src, bxl00Src s'_5)] [] [(true, .any), (true, .any)] true (I v_5)), (4, .dec true)] [0, 3, 4, 34] [7001, 9501] [.ref 7001 0, .arr 9501, I k, Bv true] [some (bxl00Src s'_5), some (tASymbol out)] [CallOK Tryz.prog 42 [.ref 7001 0, I 2] (lookO [(7001, bxl00Src src)]) true (I v_5) (lookO [(7001, bxl00Src s'_5)]) ∧ (((bxl00Src src : Ob) = bxl00Src src ∨ obLe noOb true (bxl00Src src) (bxl00Src src)) ∧ taggedO false (bxl00Src src)) ∧ True, inR .i64 (8 + v_5), k < (8 + v_5)] ⟨⟨hc5, ⟨.inl rfl, (by simp [taggedO, taggedL, tagged, tagU8])⟩, trivial⟩, (inR_i64 (by omega) (by omega)), h4, trivial⟩ ?_
      refine xe_then ?_
      refine x_true rfl ?_
      refine x_skip ?_
      refine xe_then ?_
      refine x_seq ?_
      refine x_block ?_
      refine x_r [(8, .new 45), (9, .new 46)] [0, 3, 4] [46, 7001] [.ref 7001 0, .arr 46, I k] [some (.arr 5 (out.length + 1) (catF out.length (fSymbol out) (litF [Sv (⟨#[121]⟩ : ByteArray), I (40 * k), I 0, I ((40 * k) + 30), I 30] 5))), some (bxl00Src s'_5)] [inR .i64 (40 * k), inR .i64 (40 * k), inR .i64 ((40 * k) + 30), (out.length + 1) * 48 ≤ 140737488355328] ⟨(inR_i64 (by omega) (by omega)), (inR_i64 (by omega) (by omega)), (inR_i64 (by omega) (by omega)), (by omega), trivial⟩ ?_
      refine xe_block 2 ?_
      refine xe_then ?_
      refine x_weak [] (T := [(0, .ref 7001 0), (3, .arr 46), (4, I k)]) (O := [(46, tASymbol (out ++ [(Symbol.mk (⟨#[121]⟩ : ByteArray) (Box.mk (40 * k) 0 ((40 * k) + 30) 30))])), (7001, bxl00Src s'_5)]) rfl (⟨.inl rfl, .inl rfl, .inl rfl, trivial⟩) (⟨.inr ⟨rfl, (by first | rfl | (simp; done) | (simp; omega) | omega), fun i_ hi_ => .inl (cat_snoc (enc := cSymbol) (xs := out) rfl i_ hi_)⟩, .inl rfl, trivial⟩) ?_
      refine x_r [] [0, 3, 4] [46, 7001] [.ref 7001 0, .arr 46, I (k + 1)] [some (tASymbol (out ++ [(Symbol.mk (⟨#[121]⟩ : ByteArray) (Box.mk (40 * k) 0 ((40 * k) + 30) 30))])), some (bxl00Src s'_5)] [inR .i64 (k + 1)] ⟨(inR_i64 (by omega) (by omega)), trivial⟩ ?_
      refine xe_weak [(9501, 46)] (T := [(0, .ref 7001 0), (3, .arr 9501), (4, I (k + 1))]) (O := [(7001, bxl00Src s'_5), (9501, tASymbol (out ++ [(Symbol.mk (⟨#[121]⟩ : ByteArray) (Box.mk (40 * k) 0 ((40 * k) + 30) 30))]))]) rfl (⟨.inl rfl, .inl rfl, .inl rfl, trivial⟩) (⟨.inl rfl, .inl rfl, trivial⟩) (xe_again ((out ++ [(Symbol.mk (⟨#[121]⟩ : ByteArray) (Box.mk (40 * k) 0 ((40 * k) + 30) 30))]), (k + 1), s'_5) rfl (show (okSrc s'_5 ∧ s'_5.code = s.code ∧ s.atx ≤ s'_5.atx ∧ s'_5.atx ≤ s.atx + 1010 + 2 * (k + 1)) ∧ (0 ≤ (k + 1) ∧ (k + 1) ≤ 9) ∧ (((out ++ [(Symbol.mk (⟨#[121]⟩ : ByteArray) (Box.mk (40 * k) 0 ((40 * k) + 30) 30))]).length : Int) = (k + 1) ) ∧ (∀ y_ ∈ (out ++ [(Symbol.mk (⟨#[121]⟩ : ByteArray) (Box.mk (40 * k) 0 ((40 * k) + 30) 30))]), syI y_) ∧ True from ⟨(by exact ⟨by assumption, by first | assumption | rfl | (simp only [*]; done), by omega, by omega⟩), (by omega), (by simp; omega), (by exact syI_snoc hoz (syI_mk (by first | assumption | decide | omega) (by first | assumption | omega | (dsimp only; omega)))), trivial⟩) (by first | (show ((10 - (k + 1)).toNat : Nat) < (10 - k).toNat; omega) | (dsimp only; omega)))
     refine x_r [(2, .lend [(7001, bxl00Src src, bxl00Src s'_5)] [] [(true, .any), (true, .any)] true (I v_5)), (4, .dec false)] [0, 3, 4, 34] [7001, 9501] [.ref 7001 0, .arr 9501, I k, Bv false] [some (bxl00Src s'_5), some (tASymbol out)] [CallOK Tryz.prog 42 [.ref 7001 0, I 2] (lookO [(7001, bxl00Src src)]) true (I v_5) (lookO [(7001, bxl00Src s'_5)]) ∧ (((bxl00Src src : Ob) = bxl00Src src ∨ obLe noOb true (bxl00Src src) (bxl00Src src)) ∧ taggedO false (bxl00Src src)) ∧ True, inR .i64 (8 + v_5), ¬ (k < (8 + v_5))] ⟨⟨hc5, ⟨.inl rfl, (by simp [taggedO, taggedL, tagged, tagU8])⟩, trivial⟩, (inR_i64 (by omega) (by omega)), h4, trivial⟩ ?_
     refine xe_then ?_
     refine x_false rfl ?_
     refine x_exit ?_
     refine xe_exit_then ?_
     refine xe_loop_exit ?_
     refine xe_exit_same ?_
     refine xe_block 0 ?_
     refine xe_then ?_
     refine xR [] [2] [7001, 9501] [.arr 9501] [some (bxl00Src s'_5), some (tASymbol out)] [] trivial ?_
     refine x_ret ?_
     refine xe_weak [(9502, 9501)] (T := [(2, .arr 9502)]) (O := [(7001, bxl00Src s'_5), (9502, tASymbol out)]) rfl (⟨.inl rfl, trivial⟩) (⟨.inl rfl, .inl rfl, trivial⟩) ?_
     refine xe_end (s'_5, out) (show (okSrc s'_5) ∧ (s'_5.code = s.code) ∧ (s.atx + 0 ≤ s'_5.atx ∧ s'_5.atx ≤ s.atx + 2000) ∧ (out.length ≤ 12) ∧ (∀ y_ ∈ out, syI y_) ∧ (True) from ⟨(by first | omega | assumption | exact hs0.1 | exact hs0.2.1 | (simp only [*]; done) | (simp; omega) | (exact syI_snoc hfz (syI_mk (by first | assumption | decide | omega) (by first | assumption | omega | (dsimp only; omega))))), (by first | omega | assumption | exact hs0.1 | exact hs0.2.1 | (simp only [*]; done) | (simp; omega) | (exact syI_snoc hfz (syI_mk (by first | assumption | decide | omega) (by first | assumption | omega | (dsimp only; omega))))), (by first | omega | assumption | exact hs0.1 | exact hs0.2.1 | (simp only [*]; done) | (simp; omega) | (exact syI_snoc hfz (syI_mk (by first | assumption | decide | omega) (by first | assumption | omega | (dsimp only; omega))))), (by first | omega | assumption | exact hs0.1 | exact hs0.2.1 | (simp only [*]; done) | (simp; omega) | (exact syI_snoc hfz (syI_mk (by first | assumption | decide | omega) (by first | assumption | omega | (dsimp only; omega))))), (by first | omega | assumption | exact hs0.1 | exact hs0.2.1 | (simp only [*]; done) | (simp; omega) | (exact syI_snoc hfz (syI_mk (by first | assumption | decide | omega) (by first | assumption | omega | (dsimp only; omega))))), trivial⟩) (⟨.inl rfl, .inl rfl, trivial⟩) (.arr 9502) (by kernel_rfl) (.inl rfl) (fun h => by cases h) (fun h => by cases h)
    refine x_r [(0, .dec false)] [0, 3, 26] [7001, 9501] [.ref 7001 0, .arr 9501, Bv false] [some (bxl00Src s'_2), some (tASymbol fs_1)] [¬ (v_2 = 2)] ⟨h3, trivial⟩ ?_
    refine xe_then ?_
    refine x_false rfl ?_
    refine x_skip ?_
    refine xe_block 0 ?_
    refine xe_then ?_
    refine xR [] [2] [7001, 9501] [.arr 9501] [some (bxl00Src s'_2), some (tASymbol fs_1)] [] trivial ?_
    refine x_ret ?_
    refine xe_weak [(9502, 9501)] (T := [(2, .arr 9502)]) (O := [(7001, bxl00Src s'_2), (9502, tASymbol fs_1)]) rfl (⟨.inl rfl, trivial⟩) (⟨.inl rfl, .inl rfl, trivial⟩) ?_
    refine xe_end (s'_2, fs_1) (show (okSrc s'_2) ∧ (s'_2.code = s.code) ∧ (s.atx + 0 ≤ s'_2.atx ∧ s'_2.atx ≤ s.atx + 2000) ∧ (fs_1.length ≤ 12) ∧ (∀ y_ ∈ fs_1, syI y_) ∧ (True) from ⟨(by first | omega | assumption | exact hs0.1 | exact hs0.2.1 | (simp only [*]; done) | (simp; omega) | (exact syI_snoc hfz (syI_mk (by first | assumption | decide | omega) (by first | assumption | omega | (dsimp only; omega))))), (by first | omega | assumption | exact hs0.1 | exact hs0.2.1 | (simp only [*]; done) | (simp; omega) | (exact syI_snoc hfz (syI_mk (by first | assumption | decide | omega) (by first | assumption | omega | (dsimp only; omega))))), (by first | omega | assumption | exact hs0.1 | exact hs0.2.1 | (simp only [*]; done) | (simp; omega) | (exact syI_snoc hfz (syI_mk (by first | assumption | decide | omega) (by first | assumption | omega | (dsimp only; omega))))), (by first | omega | assumption | exact hs0.1 | exact hs0.2.1 | (simp only [*]; done) | (simp; omega) | (exact syI_snoc hfz (syI_mk (by first | assumption | decide | omega) (by first | assumption | omega | (dsimp only; omega))))), (by first | omega | assumption | exact hs0.1 | exact hs0.2.1 | (simp only [*]; done) | (simp; omega) | (exact syI_snoc hfz (syI_mk (by first | assumption | decide | omega) (by first | assumption | omega | (dsimp only; omega))))), trivial⟩) (⟨.inl rfl, .inl rfl, trivial⟩) (.arr 9502) (by kernel_rfl) (.inl rfl) (fun h => by cases h) (fun h => by cases h)
  obtain ⟨⟨s', fs⟩, ⟨hh0, hh1, hh2, hh3, hh4, _⟩, hc⟩ := hh
  exact ⟨s', fs, hh0, hh1, hh2, hh3, hh4, hc⟩



-- spec.DrawRelationTable
theorem DrawRelationTable_ok (code : List Int) (hc : (∀ j, j < code.length → 0 ≤ at_ code j ∧ at_ code j ≤ 255) ∧ code.length ≤ 4611686018427387904) : ∃ (v : List Symbol), (v.length ≤ 12) ∧ (∀ y_ ∈ v, syI y_) ∧ Con Tryz.prog 5 [slU8 false code] true (slSymbol true v) := by
  have hh : ∃ r : (List Symbol), ((r.length ≤ 12) ∧ (∀ y_ ∈ r, syI y_) ∧ (True)) ∧ CallOK Tryz.prog 5 [slU8 false code] (lookO []) true (slSymbol true r) (lookO []) := by
    refine fn_okX (Φ := fun r : (List Symbol) => (r.length ≤ 12) ∧ (∀ y_ ∈ r, syI y_) ∧ (True)) [] (fun r => []) (fn := Tryz.f5) (nt := 6) Tryz.func5 rfl rfl (args := [slU8 false code]) rfl (allcons (.inl ⟨rfl, tagU8 false _⟩) allnil) (res := fun r => slSymbol true r) ?_
    refine xR [] [0] [] [slU8 false code] [] [] trivial ?_
    refine x_seq ?_
    obtain ⟨s'_1, hx1_0, hc1⟩ := l00From_ok code
    have hsrc : okSrc s'_1 := ⟨by rw [hx1_0.1]; exact hc.1, by rw [hx1_0.2]; decide, by rw [hx1_0.1]; exact hc.2⟩
    have hat0 := hx1_0.2
    obtain ⟨s'_2, fs_2, hx2_0, hx2_1, hx2_2, hx2_3, hx2_4, hc2⟩ := l20Bent_ok s'_1 (by first | assumption | (simp only [okSrc] at *; simp_all; done)) (by omega)
    refine x_r [(1, .lend [] [(7001, bxl00Src s'_1)] [(true, .any)] false (.ref 7001 0)), (2, .lend [(7001, bxl00Src s'_1, bxl00Src s'_2)] [(9502, tASymbol fs_2)] [(true, .any)] false (.arr 9502))] [2] [9502] [.arr 9502] [some (tASymbol fs_2)] [CallOK Tryz.prog 26 [slU8 false code] (lookO []) false (.ref 7001 0) (lookO [(7001, bxl00Src s'_1)]) ∧ True, CallOK Tryz.prog 25 [.ref 7001 0] (lookO [(7001, bxl00Src s'_1)]) false (.arr 9502) (lookO [(7001, bxl00Src s'_2), (9502, tASymbol fs_2)]) ∧ (((bxl00Src s'_1 : Ob) = bxl00Src s'_1 ∨ obLe noOb true (bxl00Src s'_1) (bxl00Src s'_1)) ∧ taggedO false (bxl00Src s'_1)) ∧ True] ⟨⟨hc1, trivial⟩, ⟨hc2, ⟨.inl rfl, (by simp [taggedO, taggedL, tagged, tagU8])⟩, trivial⟩, trivial⟩ ?_
    refine xe_then ?_
    refine x_ret ?_
    refine xe_end fs_2 (show (fs_2.length ≤ 12) ∧ (∀ y_ ∈ fs_2, syI y_) ∧ (True) from ⟨(by first | assumption | omega), (by first | assumption | omega), trivial⟩) (trivial) (.arr 9502) (by kernel_rfl) (.inr ⟨(fun _ => rfl), rfl, rfl, fun i _ => .inl rfl⟩) (fun _ => rfl) (fun _ => (tagSymbol true _))
  obtain ⟨v, ⟨hh0, hh1, _⟩, hc⟩ := hh
  exact ⟨v, hh0, hh1, hc⟩



-- impl.isLetter
theorem isLetter_ok (c : Int) : Con Tryz.prog 70 [.val (.int .u8 c)] true (Bv (inB c 97 122)) := by
  refine fn_ok (fn := Tryz.f70) (nt := 9) Tryz.func70 rfl rfl rfl rfl (by simp [taggedL, tagged]) fun B hB => ?_
  refine aR [] [0] [] [.val (.int .u8 c)] [] [] hB trivial ?_
  refine aw_seq ?_
  by_cases h1 : 97 ≤ c
  ·refine aw_r [(1, .dec true)] [2] [] [Bv (decide (c ≤ 122))] [] [97 ≤ c] hB ⟨h1, trivial⟩ ?_
   refine ae_then ?_
   refine aw_ret ?_
   refine ae_ret hB (Bv (decide (c ≤ 122))) (by kernel_rfl) (.inl (by first | rfl | (refine congrArg Bv ?_; simp [inB, *]; done) | (refine congrArg Bv ?_; simp [inB, *]; omega) | (refine congrArg Bv ?_; simp_all [inB]; done) | (refine congrArg Bv ?_; simp_all [inB]; omega))) rfl (fun _ => trivial)
  refine aw_r [(1, .dec false)] [2] [] [Bv false] [] [¬ (97 ≤ c)] hB ⟨h1, trivial⟩ ?_
  refine ae_then ?_
  refine aw_ret ?_
  refine ae_ret hB (Bv false) (by kernel_rfl) (.inl (by first | rfl | (refine congrArg Bv ?_; simp [inB, *]; done) | (refine congrArg Bv ?_; simp [inB, *]; omega) | (refine congrArg Bv ?_; simp_all [inB]; done) | (refine congrArg Bv ?_; simp_all [inB]; omega))) rfl (fun _ => trivial)



def hasB (s : ByteArray) (n : Int) : Bool := s.data.toList.any fun x => decide ((x.toNat : Int) = n)
theorem one_byte {t : ByteArray} (h : t.size = 1) : ∃ c, t = ⟨#[c]⟩ := by
  obtain ⟨⟨l⟩⟩ := t
  cases l with
  | nil => cases h
  | cons c l =>
    cases l with
    | nil => exact ⟨c, rfl⟩
    | cons d l => simp [ByteArray.size] at h
theorem has_index (l : List UInt8) (c : UInt8) : decide (0 ≤ Lib.indexByte l c) = l.any fun x => decide ((x.toNat : Int) = bAt ⟨#[c]⟩ 0) := by
  rw [← Lib.contains_iff_indexByte, Bool.eq_iff_iff]
  simp [bAt, List.contains_iff_mem]
  constructor
  · intro h; exact ⟨c, h, rfl⟩
  · rintro ⟨x, hx, e⟩
    have : x = c := UInt8.toNat_inj.1 (by omega)
    exact this ▸ hx


-- strings.Contains
theorem contains_ok (s t : ByteArray) (h : t.size = 1) : Con Tryz.prog 71 [Sv s, Sv t] true (Bv (hasB s (bAt t 0))) := by
  obtain ⟨c, rfl⟩ := one_byte h
  refine con_of_calls (vals := [.string s, .string ⟨#[c]⟩]) fun w _ => ?_
  refine (Tryz.strings_Contains_one s c w).mono ?_
  rintro e w' ⟨rfl, rfl⟩
  refine ⟨?_, Below.refl _ _⟩
  simp only [has_index, hasB]



-- impl.IsLabel
theorem implIsLabel_ok (s : ByteArray) (ok : s.size ≤ 9223372036854775807) : Con Tryz.prog 53 [Sv s] true (Bv (okLabel s)) := by
  refine fn_ok (fn := Tryz.f53) (nt := 15) Tryz.func53 rfl rfl rfl rfl (by simp [taggedL, tagged]) fun B hB => ?_
  refine aR [] [0] [] [Sv s] [] [] hB trivial ?_
  refine aw_seq ?_
  by_cases h1 : (s.size : Int) = 1
  ·rcases Bool.eq_false_or_eq_true (inB (bAt s 0) 97 122) with h2 | h2
   ·refine aw_r [(2, .dec true), (6, .call [(true, .any)] true (Bv true))] [2] [] [Bv true] [] [(s.size : Int) = 1, (0 : Int) ≤ 0 ∧ 0 < (s.size : Int), Con Tryz.prog 70 [.val (.int .u8 (bAt s 0))] true (Bv true) ∧ True] hB ⟨h1, ⟨(by omega), (by omega)⟩, ⟨(con_bool h2 (isLetter_ok (bAt s 0))), trivial⟩, trivial⟩ ?_
    refine ae_then ?_
    refine aw_ret ?_
    refine ae_ret hB (Bv true) (by kernel_rfl) (.inl (by first | (refine congrArg Bv ?_; simp_all [okLabel, labB, inB]; done) | (refine congrArg Bv ?_; have hbd := bAt_bd s 0; rw [Bool.eq_iff_iff]; simp_all [okLabel, hasB, labB, inB]; omega))) rfl (fun _ => trivial)
   refine aw_r [(2, .dec true), (6, .call [(true, .any)] true (Bv false)), (9, .call [(true, .any), (true, .any)] true (Bv (hasB (⟨#[48, 49, 50, 51, 52, 53, 54, 55, 56, 57, 43, 45, 42, 47, 61, 40, 41, 46, 44]⟩ : ByteArray) (bAt s 0))))] [2] [] [Bv (hasB (⟨#[48, 49, 50, 51, 52, 53, 54, 55, 56, 57, 43, 45, 42, 47, 61, 40, 41, 46, 44]⟩ : ByteArray) (bAt s 0))] [] [(s.size : Int) = 1, (0 : Int) ≤ 0 ∧ 0 < (s.size : Int), Con Tryz.prog 70 [.val (.int .u8 (bAt s 0))] true (Bv false) ∧ True, Con Tryz.prog 71 [Sv (⟨#[48, 49, 50, 51, 52, 53, 54, 55, 56, 57, 43, 45, 42, 47, 61, 40, 41, 46, 44]⟩ : ByteArray), Sv s] true (Bv (hasB (⟨#[48, 49, 50, 51, 52, 53, 54, 55, 56, 57, 43, 45, 42, 47, 61, 40, 41, 46, 44]⟩ : ByteArray) (bAt s 0))) ∧ True] hB ⟨h1, ⟨(by omega), (by omega)⟩, ⟨(con_bool h2 (isLetter_ok (bAt s 0))), trivial⟩, ⟨(contains_ok (⟨#[48, 49, 50, 51, 52, 53, 54, 55, 56, 57, 43, 45, 42, 47, 61, 40, 41, 46, 44]⟩ : ByteArray) s (by omega)), trivial⟩, trivial⟩ ?_
   refine ae_then ?_
   refine aw_ret ?_
   refine ae_ret hB (Bv (hasB (⟨#[48, 49, 50, 51, 52, 53, 54, 55, 56, 57, 43, 45, 42, 47, 61, 40, 41, 46, 44]⟩ : ByteArray) (bAt s 0))) (by kernel_rfl) (.inl (by first | (refine congrArg Bv ?_; simp_all [okLabel, labB, inB]; done) | (refine congrArg Bv ?_; have hbd := bAt_bd s 0; rw [Bool.eq_iff_iff]; simp_all [okLabel, hasB, labB, inB]; omega))) rfl (fun _ => trivial)
  refine aw_r [(2, .dec false)] [2] [] [Bv false] [] [¬ ((s.size : Int) = 1)] hB ⟨h1, trivial⟩ ?_
  refine ae_then ?_
  refine aw_ret ?_
  refine ae_ret hB (Bv false) (by kernel_rfl) (.inl (by first | (refine congrArg Bv ?_; simp_all [okLabel, labB, inB]; done) | (refine congrArg Bv ?_; have hbd := bAt_bd s 0; rw [Bool.eq_iff_iff]; simp_all [okLabel, hasB, labB, inB]; omega))) rfl (fun _ => trivial)



-- impl.within
theorem within_ok (n : Int) (low : Int) (high : Int) : Con Tryz.prog 43 [I n, I low, I high] true (Bv (inB n low high)) := by
  refine fn_ok (fn := Tryz.f43) (nt := 15) Tryz.func43 rfl rfl rfl rfl (by simp [taggedL, tagged]) fun B hB => ?_
  refine aR [] [0, 1, 2] [] [I n, I low, I high] [] [] hB trivial ?_
  refine aw_seq ?_
  by_cases h1 : low ≤ n
  ·refine aw_r [(2, .dec true)] [6] [] [Bv (decide (n ≤ high))] [] [low ≤ n] hB ⟨h1, trivial⟩ ?_
   refine ae_then ?_
   refine aw_ret ?_
   refine ae_ret hB (Bv (decide (n ≤ high))) (by kernel_rfl) (.inl (by first | rfl | (refine congrArg Bv ?_; simp [inB, *]; done) | (refine congrArg Bv ?_; simp [inB, *]; omega) | (refine congrArg Bv ?_; simp_all [inB]; done) | (refine congrArg Bv ?_; simp_all [inB]; omega))) rfl (fun _ => trivial)
  refine aw_r [(2, .dec false)] [6] [] [Bv false] [] [¬ (low ≤ n)] hB ⟨h1, trivial⟩ ?_
  refine ae_then ?_
  refine aw_ret ?_
  refine ae_ret hB (Bv false) (by kernel_rfl) (.inl (by first | rfl | (refine congrArg Bv ?_; simp [inB, *]; done) | (refine congrArg Bv ?_; simp [inB, *]; omega) | (refine congrArg Bv ?_; simp_all [inB]; done) | (refine congrArg Bv ?_; simp_all [inB]; omega))) rfl (fun _ => trivial)



-- impl.ValidBox
theorem ValidBox_ok (b : Box) : Con Tryz.prog 54 [agBox b] true (Bv (okBx b)) := by
  refine fn_ok (fn := Tryz.f54) (nt := 25) Tryz.func54 rfl rfl rfl rfl (by simp [taggedL, tagged]) fun B hB => ?_
  refine aR [(0, .new 1)] [1] [1] [.ref 1 0] [some (bxBox b)] [] hB trivial ?_
  refine aw_seq ?_
  rcases Bool.eq_false_or_eq_true (inB b.X1 0 b.X2) with h1 | h1
  ·rcases Bool.eq_false_or_eq_true (inB b.Y1 0 b.Y2) with h2 | h2
   ·by_cases h3 : b.X2 ≤ 4095
    ·refine aw_r [(4, .call [(true, .any), (true, .any), (true, .any)] true (Bv true)), (10, .call [(true, .any), (true, .any), (true, .any)] true (Bv true)), (15, .dec true)] [2] [] [Bv (decide (b.Y2 ≤ 4095))] [] [Con Tryz.prog 43 [I b.X1, I 0, I b.X2] true (Bv true) ∧ True, Con Tryz.prog 43 [I b.Y1, I 0, I b.Y2] true (Bv true) ∧ True, b.X2 ≤ 4095] hB ⟨⟨(con_bool h1 (within_ok b.X1 0 b.X2)), trivial⟩, ⟨(con_bool h2 (within_ok b.Y1 0 b.Y2)), trivial⟩, h3, trivial⟩ ?_
     refine ae_then ?_
     refine aw_ret ?_
     refine ae_ret hB (Bv (decide (b.Y2 ≤ 4095))) (by kernel_rfl) (.inl (by first | rfl | (refine congrArg Bv ?_; simp [okBx, inB, *]; done) | (refine congrArg Bv ?_; simp [okBx, inB, *]; omega) | (refine congrArg Bv ?_; simp_all [okBx, inB]; done) | (refine congrArg Bv ?_; simp_all [okBx, inB]; omega))) rfl (fun _ => trivial)
    refine aw_r [(4, .call [(true, .any), (true, .any), (true, .any)] true (Bv true)), (10, .call [(true, .any), (true, .any), (true, .any)] true (Bv true)), (15, .dec false)] [2] [] [Bv false] [] [Con Tryz.prog 43 [I b.X1, I 0, I b.X2] true (Bv true) ∧ True, Con Tryz.prog 43 [I b.Y1, I 0, I b.Y2] true (Bv true) ∧ True, ¬ (b.X2 ≤ 4095)] hB ⟨⟨(con_bool h1 (within_ok b.X1 0 b.X2)), trivial⟩, ⟨(con_bool h2 (within_ok b.Y1 0 b.Y2)), trivial⟩, h3, trivial⟩ ?_
    refine ae_then ?_
    refine aw_ret ?_
    refine ae_ret hB (Bv false) (by kernel_rfl) (.inl (by first | rfl | (refine congrArg Bv ?_; simp [okBx, inB, *]; done) | (refine congrArg Bv ?_; simp [okBx, inB, *]; omega) | (refine congrArg Bv ?_; simp_all [okBx, inB]; done) | (refine congrArg Bv ?_; simp_all [okBx, inB]; omega))) rfl (fun _ => trivial)
   refine aw_r [(4, .call [(true, .any), (true, .any), (true, .any)] true (Bv true)), (10, .call [(true, .any), (true, .any), (true, .any)] true (Bv false))] [2] [] [Bv false] [] [Con Tryz.prog 43 [I b.X1, I 0, I b.X2] true (Bv true) ∧ True, Con Tryz.prog 43 [I b.Y1, I 0, I b.Y2] true (Bv false) ∧ True] hB ⟨⟨(con_bool h1 (within_ok b.X1 0 b.X2)), trivial⟩, ⟨(con_bool h2 (within_ok b.Y1 0 b.Y2)), trivial⟩, trivial⟩ ?_
   refine ae_then ?_
   refine aw_ret ?_
   refine ae_ret hB (Bv false) (by kernel_rfl) (.inl (by first | rfl | (refine congrArg Bv ?_; simp [okBx, inB, *]; done) | (refine congrArg Bv ?_; simp [okBx, inB, *]; omega) | (refine congrArg Bv ?_; simp_all [okBx, inB]; done) | (refine congrArg Bv ?_; simp_all [okBx, inB]; omega))) rfl (fun _ => trivial)
  refine aw_r [(4, .call [(true, .any), (true, .any), (true, .any)] true (Bv false))] [2] [] [Bv false] [] [Con Tryz.prog 43 [I b.X1, I 0, I b.X2] true (Bv false) ∧ True] hB ⟨⟨(con_bool h1 (within_ok b.X1 0 b.X2)), trivial⟩, trivial⟩ ?_
  refine ae_then ?_
  refine aw_ret ?_
  refine ae_ret hB (Bv false) (by kernel_rfl) (.inl (by first | rfl | (refine congrArg Bv ?_; simp [okBx, inB, *]; done) | (refine congrArg Bv ?_; simp [okBx, inB, *]; omega) | (refine congrArg Bv ?_; simp_all [okBx, inB]; done) | (refine congrArg Bv ?_; simp_all [okBx, inB]; omega))) rfl (fun _ => trivial)



-- impl.ValidSymbols$1
theorem ValidSymbols1_ok (s : Symbol) (ok : s.Label.size ≤ 9223372036854775807) : Con Tryz.prog 52 [agSymbol s] true (Bv (!(okSy s))) := by
  refine fn_ok (fn := Tryz.f52) (nt := 13) Tryz.func52 rfl rfl rfl rfl (by simp [taggedL, tagged]) fun B hB => ?_
  refine aR [(0, .new 1)] [1] [1] [.ref 1 0] [some (bxSymbol s)] [] hB trivial ?_
  refine aw_seq ?_
  rcases Bool.eq_false_or_eq_true (okLabel s.Label) with h1 | h1
  ·refine aw_r [(2, .call [(true, .any)] true (Bv true)), (7, .call [(true, .any)] true (Bv (okBx s.Box)))] [2] [] [Bv (!(okBx s.Box))] [] [Con Tryz.prog 53 [Sv s.Label] true (Bv true) ∧ True, Con Tryz.prog 54 [agBox s.Box] true (Bv (okBx s.Box)) ∧ True] hB ⟨⟨(con_bool h1 (implIsLabel_ok s.Label ok)), trivial⟩, ⟨(ValidBox_ok s.Box), trivial⟩, trivial⟩ ?_
   refine ae_then ?_
   refine aw_ret ?_
   refine ae_ret hB (Bv (!(okBx s.Box))) (by kernel_rfl) (.inl (by first | rfl | (refine congrArg Bv ?_; simp [okSy, *]; done) | (refine congrArg Bv ?_; simp [okSy, *]; omega) | (refine congrArg Bv ?_; simp_all [okSy]; done) | (refine congrArg Bv ?_; simp_all [okSy]; omega))) rfl (fun _ => trivial)
  refine aw_r [(2, .call [(true, .any)] true (Bv false))] [2] [] [Bv true] [] [Con Tryz.prog 53 [Sv s.Label] true (Bv false) ∧ True] hB ⟨⟨(con_bool h1 (implIsLabel_ok s.Label ok)), trivial⟩, trivial⟩ ?_
  refine ae_then ?_
  refine aw_ret ?_
  refine ae_ret hB (Bv true) (by kernel_rfl) (.inl (by first | rfl | (refine congrArg Bv ?_; simp [okSy, *]; done) | (refine congrArg Bv ?_; simp [okSy, *]; omega) | (refine congrArg Bv ?_; simp_all [okSy]; done) | (refine congrArg Bv ?_; simp_all [okSy]; omega))) rfl (fun _ => trivial)



-- impl.ValidSymbols
theorem containsSy_ok_idx (s : List Symbol) (hel : ∀ j, j < s.length → (at_ s j).Label.size ≤ 9223372036854775807) : Con Tryz.prog 69 [slSymbol false s, .fn 52 []] true (I (firstN s.length (fun j => (!(okSy (at_ s j)))))) := by
  refine fn_ok (fn := Tryz.f69) (nt := 19) Tryz.func69 rfl rfl rfl rfl (by simp [taggedL, tagged, tagSymbol]) fun B hB => ?_
  refine aw_lens (x := slSymbol false s) 0 rfl (fun len_s => ?_)
  simp [LenOK, LenL, cSymbol, fSymbol, slSymbol] at len_s
  refine aR [] [0, 1] [] [slSymbol false s, .fn 52 []] [] [] hB trivial ?_
  refine aw_seq ?_
  refine aR [] [0, 1, 7, 8] [] [slSymbol false s, .fn 52 [], I (s.length : Int), I 0] [] [] hB trivial ?_
  refine aw_block ?_
  refine aw_loop (fun gn gσ => ∃ (t8 : Int), gn = ((s.length : Int) - t8).toNat ∧ (0 ≤ t8 ∧ t8 ≤ (s.length : Int)) ∧ (∀ j : Nat, (j : Int) < t8 → (!(okSy (at_ s j))) = false) ∧ gσ = mkS [(0, slSymbol false s), (1, .fn 52 []), (7, I (s.length : Int)), (8, I t8)] []) (((s.length : Int) - 0).toNat) ⟨0, rfl, (by omega), (by intro j hj; omega), rfl⟩ (fun gn gσ hI => ?_)
  obtain ⟨t8, rfl, hi0, hall0, rfl⟩ := hI
  refine aw_seq ?_
  by_cases h1 : t8 < (s.length : Int)
  ·have hi : t8.toNat < s.length := by omega
   refine aw_r [(0, .dec true)] [0, 1, 7, 8, 9] [] [slSymbol false s, .fn 52 [], I (s.length : Int), I t8, Bv true] [] [t8 < (s.length : Int)] hB ⟨h1, trivial⟩ ?_
   refine ae_then ?_
   refine aw_seq ?_
   refine aw_true rfl ?_
   refine aw_skip ?_
   refine ae_then ?_
   refine aw_seq ?_
   refine aw_block ?_
   refine aR [] [0, 1, 5, 7, 8] [] [slSymbol false s, .fn 52 [], I t8, I (s.length : Int), I t8] [] [] hB trivial ?_
   refine aw_seq ?_
   rcases Bool.eq_false_or_eq_true (!(okSy (Symbol.mk ((at_ s t8.toNat).Label) ((at_ s t8.toNat).Box)))) with h2 | h2
   ·have hfin : firstN s.length (fun j => (!(okSy (at_ s j)))) = t8.toNat := firstN_hit hi h2 (fun j hj => hall0 j (by omega))
    refine aw_r [(5, .call [(true, .any)] true (Bv true))] [0, 1, 5, 7, 8, 16] [] [slSymbol false s, .fn 52 [], I t8, I (s.length : Int), I t8, Bv true] [] [(0 : Int) ≤ t8 ∧ t8 < (s.length : Int), Con Tryz.prog 52 [agSymbol (at_ s t8.toNat)] true (Bv true) ∧ True] hB ⟨⟨(by omega), (by omega)⟩, ⟨(con_bool h2 (ValidSymbols1_ok (Symbol.mk ((at_ s t8.toNat).Label) ((at_ s t8.toNat).Box)) (hel _ hi))), trivial⟩, trivial⟩ ?_
    refine ae_then ?_
    refine aw_true rfl ?_
    refine aR [] [4] [] [I t8] [] [] hB trivial ?_
    refine aw_ret ?_
    refine ae_ret_block (ae_ret_then (ae_ret_then (ae_ret_block (ae_ret_then ?_))))
    refine ae_ret hB (I t8) (by kernel_rfl) (.inl (by refine congrArg I ?_; first | (rw [hfin]; done) | (rw [hfin]; omega))) rfl (fun _ => trivial)
   refine aw_r [(5, .call [(true, .any)] true (Bv false))] [0, 1, 5, 7, 8, 16] [] [slSymbol false s, .fn 52 [], I t8, I (s.length : Int), I t8, Bv false] [] [(0 : Int) ≤ t8 ∧ t8 < (s.length : Int), Con Tryz.prog 52 [agSymbol (at_ s t8.toNat)] true (Bv false) ∧ True] hB ⟨⟨(by omega), (by omega)⟩, ⟨(con_bool h2 (ValidSymbols1_ok (Symbol.mk ((at_ s t8.toNat).Label) ((at_ s t8.toNat).Box)) (hel _ hi))), trivial⟩, trivial⟩ ?_
   refine ae_then ?_
   refine aw_false rfl ?_
   refine aw_skip ?_
   refine ae_block 1 ?_
   refine ae_then ?_
   refine aw_r [] [0, 1, 7, 8] [] [slSymbol false s, .fn 52 [], I (s.length : Int), I (t8 + 1)] [] [inR .i64 (t8 + 1)] hB ⟨(inR_i64 (by omega) (by omega)), trivial⟩ ?_
   exact ae_again _ (by omega) ⟨(t8 + 1), rfl, (by omega), (by intro j hj; by_cases ej : j = t8.toNat; (subst ej; first | assumption | rfl); exact hall0 j (by omega)), rfl⟩
  have hfin : firstN s.length (fun j => (!(okSy (at_ s j)))) = -1 := firstN_none (fun j hj => hall0 j (by omega))
  refine aw_r [(0, .dec false)] [0, 1, 7, 8, 9] [] [slSymbol false s, .fn 52 [], I (s.length : Int), I t8, Bv false] [] [¬ (t8 < (s.length : Int))] hB ⟨h1, trivial⟩ ?_
  refine ae_then ?_
  refine aw_seq ?_
  refine aw_false rfl ?_
  refine aw_exit ?_
  refine ae_exit_then ?_
  refine ae_exit_then ?_
  refine ae_exit_same ?_
  refine ae_then ?_
  refine aR [] [4] [] [I (-1)] [] [] hB trivial ?_
  refine aw_ret ?_
  refine ae_ret hB (I (-1)) (by kernel_rfl) (.inl (by refine congrArg I ?_; first | (rw [hfin]; done) | (rw [hfin]; omega))) rfl (fun _ => trivial)

theorem containsSy_ok (s : List Symbol) (hel : ∀ j, j < s.length → (at_ s j).Label.size ≤ 9223372036854775807) : Con Tryz.prog 51 [slSymbol false s, .fn 52 []] true (Bv (anyN s.length (fun j => (!(okSy (at_ s j)))))) := by
  refine fn_ok (fn := Tryz.f51) (nt := 9) Tryz.func51 rfl rfl rfl rfl (by simp [taggedL, tagged, tagSymbol]) fun B hB => ?_
  refine aw_lens (x := slSymbol false s) 0 rfl (fun len_s => ?_)
  simp [LenOK, LenL, cSymbol, fSymbol, slSymbol] at len_s
  refine aR [] [0, 1] [] [slSymbol false s, .fn 52 []] [] [] hB trivial ?_
  refine aR [(2, .call [(true, .any), (true, .any)] true (I (firstN s.length (fun j => (!(okSy (at_ s j)))))))] [4] [] [Bv (decide (0 ≤ (firstN s.length (fun j => (!(okSy (at_ s j)))))))] [] [Con Tryz.prog 69 [slSymbol false s, .fn 52 []] true (I (firstN s.length (fun j => (!(okSy (at_ s j)))))) ∧ True] hB ⟨⟨(containsSy_ok_idx s hel), trivial⟩, trivial⟩ ?_
  refine aw_ret ?_
  refine ae_ret hB (Bv (decide (0 ≤ (firstN s.length (fun j => (!(okSy (at_ s j)))))))) (by kernel_rfl) (.inl (by exact congrArg Bv (firstN_any _ _))) rfl (fun _ => trivial)

theorem ValidSymbols_ok (list : List Symbol) (ok : ∀ y ∈ list, y.Label.size ≤ 9223372036854775807) : Con Tryz.prog 23 [slSymbol false list] true (Bv (okSyms list)) := by
  refine fn_ok (fn := Tryz.f23) (nt := 11) Tryz.func23 rfl rfl rfl rfl (by simp [taggedL, tagged, tagSymbol]) fun B hB => ?_
  refine aw_lens (x := slSymbol false list) 0 rfl (fun len_list => ?_)
  simp [LenOK, LenL, cSymbol, fSymbol, slSymbol] at len_list
  refine aR [] [0] [] [slSymbol false list] [] [] hB trivial ?_
  refine aw_seq ?_
  by_cases h1 : (list.length : Int) ≤ 8
  ·refine aw_r [(2, .dec true), (5, .call [(true, .any), (true, .any)] true (Bv (anyN list.length (fun j => (!(okSy (at_ list j)))))))] [2] [] [Bv (!(anyN list.length (fun j => (!(okSy (at_ list j))))))] [] [(list.length : Int) ≤ 8, Con Tryz.prog 51 [slSymbol false list, .fn 52 []] true (Bv (anyN list.length (fun j => (!(okSy (at_ list j)))))) ∧ True] hB ⟨h1, ⟨(containsSy_ok list (fun j hj => ok _ (at_mem hj))), trivial⟩, trivial⟩ ?_
   refine ae_then ?_
   refine aw_ret ?_
   refine ae_ret hB (Bv (!(anyN list.length (fun j => (!(okSy (at_ list j))))))) (by kernel_rfl) (.inl (by first | rfl | (refine congrArg Bv ?_; simp [okSyms, anyN_not, *]; done) | (refine congrArg Bv ?_; simp [okSyms, anyN_not, *]; omega) | (refine congrArg Bv ?_; simp_all [okSyms, anyN_not]; done) | (refine congrArg Bv ?_; simp_all [okSyms, anyN_not]; omega))) rfl (fun _ => trivial)
  refine aw_r [(2, .dec false)] [2] [] [Bv false] [] [¬ ((list.length : Int) ≤ 8)] hB ⟨h1, trivial⟩ ?_
  refine ae_then ?_
  refine aw_ret ?_
  refine ae_ret hB (Bv false) (by kernel_rfl) (.inl (by first | rfl | (refine congrArg Bv ?_; simp [okSyms, anyN_not, *]; done) | (refine congrArg Bv ?_; simp [okSyms, anyN_not, *]; omega) | (refine congrArg Bv ?_; simp_all [okSyms, anyN_not]; done) | (refine congrArg Bv ?_; simp_all [okSyms, anyN_not]; omega))) rfl (fun _ => trivial)



-- impl.relation
theorem relation_ok (a : Box) (b : Box) (ha : okBx a = true) (hb : okBx b = true) : Con Tryz.prog 27 [agBox a, agBox b] true (I (relI a b)) := by
  have hp1 := okBx_iff.1 ha
  have hp2 := okBx_iff.1 hb
  refine fn_ok (fn := Tryz.f27) (nt := 89) Tryz.func27 rfl rfl rfl rfl (by simp [taggedL, tagged]) fun B hB => ?_
  refine aR [(0, .new 2), (1, .new 3)] [2, 3] [2, 3] [.ref 2 0, .ref 3 0] [some (bxBox a), some (bxBox b)] [] hB trivial ?_
  refine aw_seq ?_
  by_cases h1 : a.X1 ≤ b.X1
  ·by_cases h2 : a.Y1 ≤ b.Y1
   ·by_cases h3 : b.X2 ≤ a.X2
    ·by_cases h4 : b.Y2 ≤ a.Y2
     ·refine aw_r [(4, .dec true), (10, .dec true), (17, .dec true), (24, .dec true)] [2, 3, 5] [2, 3] [.ref 2 0, .ref 3 0, Bv true] [some (bxBox a), some (bxBox b)] [a.X1 ≤ b.X1, a.Y1 ≤ b.Y1, b.X2 ≤ a.X2, b.Y2 ≤ a.Y2] hB ⟨h1, h2, h3, h4, trivial⟩ ?_
      refine ae_then ?_
      refine aw_seq ?_
      by_cases h5 : (a.X1 + a.X2) ≤ (2 * b.X1)
      ·refine aw_r [(8, .dec true)] [2, 3, 5, 6] [2, 3] [.ref 2 0, .ref 3 0, Bv true, Bv true] [some (bxBox a), some (bxBox b)] [inR .i64 (2 * b.X1), inR .i64 (a.X1 + a.X2), (a.X1 + a.X2) ≤ (2 * b.X1)] hB ⟨(inR_i64 (by omega) (by omega)), (inR_i64 (by omega) (by omega)), h5, trivial⟩ ?_
       refine ae_then ?_
       refine aw_seq ?_
       refine aw_block ?_
       refine aw_seq ?_
       by_cases h6 : a.X1 = b.X1 ∧ a.Y1 = b.Y1 ∧ a.X2 = b.X2 ∧ a.Y2 = b.Y2 ∧ True
       ·have hab : a.X1 = b.X1 ∧ a.Y1 = b.Y1 ∧ a.X2 = b.X2 ∧ a.Y2 = b.Y2 := ⟨h6.1, h6.2.1, h6.2.2.1, h6.2.2.2.1⟩
        refine aw_r [(4, .dec false)] [2, 3, 6, 42] [2, 3] [.ref 2 0, .ref 3 0, Bv true, Bv false] [some (bxBox a), some (bxBox b)] [¬ (¬ (a.X1 = b.X1 ∧ a.Y1 = b.Y1 ∧ a.X2 = b.X2 ∧ a.Y2 = b.Y2 ∧ True))] hB ⟨(fun hq => hq h6), trivial⟩ ?_
        refine ae_then ?_
        refine aw_false rfl ?_
        refine aw_seq ?_
        by_cases h7 : (2 * b.Y2) ≤ (a.Y1 + a.Y2)
        ·refine aw_r [(10, .dec true)] [2, 3, 6, 49] [2, 3] [.ref 2 0, .ref 3 0, Bv true, Bv true] [some (bxBox a), some (bxBox b)] [inR .i64 (2 * b.Y2), inR .i64 (a.Y1 + a.Y2), (2 * b.Y2) ≤ (a.Y1 + a.Y2)] hB ⟨(inR_i64 (by omega) (by omega)), (inR_i64 (by omega) (by omega)), h7, trivial⟩ ?_
         refine ae_then ?_
         refine aw_true rfl ?_
         refine aR [] [4] [] [I 4] [] [] hB trivial ?_
         refine aw_ret ?_
         refine ae_ret_block (ae_ret_then ?_)
         refine ae_ret hB (I 4) (by kernel_rfl) (.inl (by refine congrArg I ?_; unfold relI; (repeat' split) <;> first | rfl | omega)) rfl (fun _ => trivial)
        refine aw_r [(10, .dec false)] [2, 3, 6, 49] [2, 3] [.ref 2 0, .ref 3 0, Bv true, Bv false] [some (bxBox a), some (bxBox b)] [inR .i64 (2 * b.Y2), inR .i64 (a.Y1 + a.Y2), ¬ ((2 * b.Y2) ≤ (a.Y1 + a.Y2))] hB ⟨(inR_i64 (by omega) (by omega)), (inR_i64 (by omega) (by omega)), h7, trivial⟩ ?_
        refine ae_then ?_
        refine aw_false rfl ?_
        refine aw_seq ?_
        by_cases h8 : (a.Y1 + a.Y2) ≤ (2 * b.Y1)
        ·refine aw_r [(10, .dec true)] [2, 3, 6, 62] [2, 3] [.ref 2 0, .ref 3 0, Bv true, Bv true] [some (bxBox a), some (bxBox b)] [inR .i64 (2 * b.Y1), inR .i64 (a.Y1 + a.Y2), (a.Y1 + a.Y2) ≤ (2 * b.Y1)] hB ⟨(inR_i64 (by omega) (by omega)), (inR_i64 (by omega) (by omega)), h8, trivial⟩ ?_
         refine ae_then ?_
         refine aw_true rfl ?_
         refine aR [] [4] [] [I 5] [] [] hB trivial ?_
         refine aw_ret ?_
         refine ae_ret_block (ae_ret_then ?_)
         refine ae_ret hB (I 5) (by kernel_rfl) (.inl (by refine congrArg I ?_; unfold relI; (repeat' split) <;> first | rfl | omega)) rfl (fun _ => trivial)
        refine aw_r [(10, .dec false)] [2, 3, 6, 62] [2, 3] [.ref 2 0, .ref 3 0, Bv true, Bv false] [some (bxBox a), some (bxBox b)] [inR .i64 (2 * b.Y1), inR .i64 (a.Y1 + a.Y2), ¬ ((a.Y1 + a.Y2) ≤ (2 * b.Y1))] hB ⟨(inR_i64 (by omega) (by omega)), (inR_i64 (by omega) (by omega)), h8, trivial⟩ ?_
        refine ae_then ?_
        refine aw_false rfl ?_
        refine aR [] [2, 3, 75] [2, 3] [.ref 2 0, .ref 3 0, Bv true] [some (bxBox a), some (bxBox b)] [] hB trivial ?_
        refine aw_true rfl ?_
        refine aR [] [4] [] [I 1] [] [] hB trivial ?_
        refine aw_ret ?_
        refine ae_ret_block (ae_ret_then ?_)
        refine ae_ret hB (I 1) (by kernel_rfl) (.inl (by refine congrArg I ?_; unfold relI; (repeat' split) <;> first | rfl | omega)) rfl (fun _ => trivial)
       have hab : ¬ (a.X1 = b.X1 ∧ a.Y1 = b.Y1 ∧ a.X2 = b.X2 ∧ a.Y2 = b.Y2) := fun q => h6 ⟨q.1, q.2.1, q.2.2.1, q.2.2.2, trivial⟩
       refine aw_r [(4, .dec true)] [2, 3, 6, 42] [2, 3] [.ref 2 0, .ref 3 0, Bv true, Bv true] [some (bxBox a), some (bxBox b)] [¬ (a.X1 = b.X1 ∧ a.Y1 = b.Y1 ∧ a.X2 = b.X2 ∧ a.Y2 = b.Y2 ∧ True)] hB ⟨h6, trivial⟩ ?_
       refine ae_then ?_
       refine aw_true rfl ?_
       refine aR [] [4] [] [I 6] [] [] hB trivial ?_
       refine aw_ret ?_
       refine ae_ret_block (ae_ret_then ?_)
       refine ae_ret hB (I 6) (by kernel_rfl) (.inl (by refine congrArg I ?_; unfold relI; (repeat' split) <;> first | rfl | omega)) rfl (fun _ => trivial)
      refine aw_r [(8, .dec false)] [2, 3, 5, 6] [2, 3] [.ref 2 0, .ref 3 0, Bv true, Bv false] [some (bxBox a), some (bxBox b)] [inR .i64 (2 * b.X1), inR .i64 (a.X1 + a.X2), ¬ ((a.X1 + a.X2) ≤ (2 * b.X1))] hB ⟨(inR_i64 (by omega) (by omega)), (inR_i64 (by omega) (by omega)), h5, trivial⟩ ?_
      refine ae_then ?_
      refine aw_seq ?_
      refine aw_block ?_
      refine aw_seq ?_
      by_cases h9 : a.X1 = b.X1 ∧ a.Y1 = b.Y1 ∧ a.X2 = b.X2 ∧ a.Y2 = b.Y2 ∧ True
      ·have hab : a.X1 = b.X1 ∧ a.Y1 = b.Y1 ∧ a.X2 = b.X2 ∧ a.Y2 = b.Y2 := ⟨h9.1, h9.2.1, h9.2.2.1, h9.2.2.2.1⟩
       refine aw_r [(4, .dec false)] [2, 3, 6, 42] [2, 3] [.ref 2 0, .ref 3 0, Bv false, Bv false] [some (bxBox a), some (bxBox b)] [¬ (¬ (a.X1 = b.X1 ∧ a.Y1 = b.Y1 ∧ a.X2 = b.X2 ∧ a.Y2 = b.Y2 ∧ True))] hB ⟨(fun hq => hq h9), trivial⟩ ?_
       refine ae_then ?_
       refine aw_false rfl ?_
       refine aR [] [2, 3, 6, 49] [2, 3] [.ref 2 0, .ref 3 0, Bv false, Bv false] [some (bxBox a), some (bxBox b)] [] hB trivial ?_
       refine aw_false rfl ?_
       refine aR [] [2, 3, 6, 62] [2, 3] [.ref 2 0, .ref 3 0, Bv false, Bv false] [some (bxBox a), some (bxBox b)] [] hB trivial ?_
       refine aw_false rfl ?_
       refine aR [] [2, 3, 75] [2, 3] [.ref 2 0, .ref 3 0, Bv false] [some (bxBox a), some (bxBox b)] [] hB trivial ?_
       refine aw_false rfl ?_
       refine aw_seq ?_
       by_cases h10 : b.Y2 ≤ a.Y1
       ·refine aw_r [(4, .dec true)] [2, 3, 77] [2, 3] [.ref 2 0, .ref 3 0, Bv true] [some (bxBox a), some (bxBox b)] [b.Y2 ≤ a.Y1] hB ⟨h10, trivial⟩ ?_
        refine ae_then ?_
        refine aw_true rfl ?_
        refine aR [] [4] [] [I 2] [] [] hB trivial ?_
        refine aw_ret ?_
        refine ae_ret_block (ae_ret_then ?_)
        refine ae_ret hB (I 2) (by kernel_rfl) (.inl (by refine congrArg I ?_; unfold relI; (repeat' split) <;> first | rfl | omega)) rfl (fun _ => trivial)
       refine aw_r [(4, .dec false)] [2, 3, 77] [2, 3] [.ref 2 0, .ref 3 0, Bv false] [some (bxBox a), some (bxBox b)] [¬ (b.Y2 ≤ a.Y1)] hB ⟨h10, trivial⟩ ?_
       refine ae_then ?_
       refine aw_false rfl ?_
       refine aw_seq ?_
       by_cases h11 : a.Y2 ≤ b.Y1
       ·refine aw_r [(4, .dec true)] [83] [] [Bv true] [] [a.Y2 ≤ b.Y1] hB ⟨h11, trivial⟩ ?_
        refine ae_then ?_
        refine aw_true rfl ?_
        refine aR [] [4] [] [I 3] [] [] hB trivial ?_
        refine aw_ret ?_
        refine ae_ret_block (ae_ret_then ?_)
        refine ae_ret hB (I 3) (by kernel_rfl) (.inl (by refine congrArg I ?_; unfold relI; (repeat' split) <;> first | rfl | omega)) rfl (fun _ => trivial)
       refine aw_r [(4, .dec false)] [83] [] [Bv false] [] [¬ (a.Y2 ≤ b.Y1)] hB ⟨h11, trivial⟩ ?_
       refine ae_then ?_
       refine aw_false rfl ?_
       refine aw_skip ?_
       refine ae_block 0 ?_
       refine ae_then ?_
       refine aR [] [4] [] [I 0] [] [] hB trivial ?_
       refine aw_ret ?_
       refine ae_ret hB (I 0) (by kernel_rfl) (.inl (by refine congrArg I ?_; unfold relI; (repeat' split) <;> first | rfl | omega)) rfl (fun _ => trivial)
      have hab : ¬ (a.X1 = b.X1 ∧ a.Y1 = b.Y1 ∧ a.X2 = b.X2 ∧ a.Y2 = b.Y2) := fun q => h9 ⟨q.1, q.2.1, q.2.2.1, q.2.2.2, trivial⟩
      refine aw_r [(4, .dec true)] [2, 3, 6, 42] [2, 3] [.ref 2 0, .ref 3 0, Bv false, Bv true] [some (bxBox a), some (bxBox b)] [¬ (a.X1 = b.X1 ∧ a.Y1 = b.Y1 ∧ a.X2 = b.X2 ∧ a.Y2 = b.Y2 ∧ True)] hB ⟨h9, trivial⟩ ?_
      refine ae_then ?_
      refine aw_true rfl ?_
      refine aR [] [4] [] [I 6] [] [] hB trivial ?_
      refine aw_ret ?_
      refine ae_ret_block (ae_ret_then ?_)
      refine ae_ret hB (I 6) (by kernel_rfl) (.inl (by refine congrArg I ?_; unfold relI; (repeat' split) <;> first | rfl | omega)) rfl (fun _ => trivial)
     refine aw_r [(4, .dec true), (10, .dec true), (17, .dec true), (24, .dec false)] [2, 3, 5] [2, 3] [.ref 2 0, .ref 3 0, Bv false] [some (bxBox a), some (bxBox b)] [a.X1 ≤ b.X1, a.Y1 ≤ b.Y1, b.X2 ≤ a.X2, ¬ (b.Y2 ≤ a.Y2)] hB ⟨h1, h2, h3, h4, trivial⟩ ?_
     refine ae_then ?_
     refine aw_seq ?_
     by_cases h12 : (a.X1 + a.X2) ≤ (2 * b.X1)
     ·refine aw_r [(8, .dec true)] [2, 3, 5, 6] [2, 3] [.ref 2 0, .ref 3 0, Bv false, Bv true] [some (bxBox a), some (bxBox b)] [inR .i64 (2 * b.X1), inR .i64 (a.X1 + a.X2), (a.X1 + a.X2) ≤ (2 * b.X1)] hB ⟨(inR_i64 (by omega) (by omega)), (inR_i64 (by omega) (by omega)), h12, trivial⟩ ?_
      refine ae_then ?_
      refine aw_seq ?_
      refine aw_block ?_
      refine aR [] [2, 3, 6, 42] [2, 3] [.ref 2 0, .ref 3 0, Bv true, Bv false] [some (bxBox a), some (bxBox b)] [] hB trivial ?_
      refine aw_false rfl ?_
      refine aw_seq ?_
      by_cases h13 : (2 * b.Y2) ≤ (a.Y1 + a.Y2)
      ·refine aw_r [(10, .dec true)] [2, 3, 6, 49] [2, 3] [.ref 2 0, .ref 3 0, Bv true, Bv true] [some (bxBox a), some (bxBox b)] [inR .i64 (2 * b.Y2), inR .i64 (a.Y1 + a.Y2), (2 * b.Y2) ≤ (a.Y1 + a.Y2)] hB ⟨(inR_i64 (by omega) (by omega)), (inR_i64 (by omega) (by omega)), h13, trivial⟩ ?_
       refine ae_then ?_
       refine aw_true rfl ?_
       refine aR [] [4] [] [I 4] [] [] hB trivial ?_
       refine aw_ret ?_
       refine ae_ret_block (ae_ret_then ?_)
       refine ae_ret hB (I 4) (by kernel_rfl) (.inl (by refine congrArg I ?_; unfold relI; (repeat' split) <;> first | rfl | omega)) rfl (fun _ => trivial)
      refine aw_r [(10, .dec false)] [2, 3, 6, 49] [2, 3] [.ref 2 0, .ref 3 0, Bv true, Bv false] [some (bxBox a), some (bxBox b)] [inR .i64 (2 * b.Y2), inR .i64 (a.Y1 + a.Y2), ¬ ((2 * b.Y2) ≤ (a.Y1 + a.Y2))] hB ⟨(inR_i64 (by omega) (by omega)), (inR_i64 (by omega) (by omega)), h13, trivial⟩ ?_
      refine ae_then ?_
      refine aw_false rfl ?_
      refine aw_seq ?_
      by_cases h14 : (a.Y1 + a.Y2) ≤ (2 * b.Y1)
      ·refine aw_r [(10, .dec true)] [2, 3, 6, 62] [2, 3] [.ref 2 0, .ref 3 0, Bv true, Bv true] [some (bxBox a), some (bxBox b)] [inR .i64 (2 * b.Y1), inR .i64 (a.Y1 + a.Y2), (a.Y1 + a.Y2) ≤ (2 * b.Y1)] hB ⟨(inR_i64 (by omega) (by omega)), (inR_i64 (by omega) (by omega)), h14, trivial⟩ ?_
       refine ae_then ?_
       refine aw_true rfl ?_
       refine aR [] [4] [] [I 5] [] [] hB trivial ?_
       refine aw_ret ?_
       refine ae_ret_block (ae_ret_then ?_)
       refine ae_ret hB (I 5) (by kernel_rfl) (.inl (by refine congrArg I ?_; unfold relI; (repeat' split) <;> first | rfl | omega)) rfl (fun _ => trivial)
      refine aw_r [(10, .dec false)] [2, 3, 6, 62] [2, 3] [.ref 2 0, .ref 3 0, Bv true, Bv false] [some (bxBox a), some (bxBox b)] [inR .i64 (2 * b.Y1), inR .i64 (a.Y1 + a.Y2), ¬ ((a.Y1 + a.Y2) ≤ (2 * b.Y1))] hB ⟨(inR_i64 (by omega) (by omega)), (inR_i64 (by omega) (by omega)), h14, trivial⟩ ?_
      refine ae_then ?_
      refine aw_false rfl ?_
      refine aR [] [2, 3, 75] [2, 3] [.ref 2 0, .ref 3 0, Bv true] [some (bxBox a), some (bxBox b)] [] hB trivial ?_
      refine aw_true rfl ?_
      refine aR [] [4] [] [I 1] [] [] hB trivial ?_
      refine aw_ret ?_
      refine ae_ret_block (ae_ret_then ?_)
      refine ae_ret hB (I 1) (by kernel_rfl) (.inl (by refine congrArg I ?_; unfold relI; (repeat' split) <;> first | rfl | omega)) rfl (fun _ => trivial)
     refine aw_r [(8, .dec false)] [2, 3, 5, 6] [2, 3] [.ref 2 0, .ref 3 0, Bv false, Bv false] [some (bxBox a), some (bxBox b)] [inR .i64 (2 * b.X1), inR .i64 (a.X1 + a.X2), ¬ ((a.X1 + a.X2) ≤ (2 * b.X1))] hB ⟨(inR_i64 (by omega) (by omega)), (inR_i64 (by omega) (by omega)), h12, trivial⟩ ?_
     refine ae_then ?_
     refine aw_seq ?_
     refine aw_block ?_
     refine aR [] [2, 3, 6, 42] [2, 3] [.ref 2 0, .ref 3 0, Bv false, Bv false] [some (bxBox a), some (bxBox b)] [] hB trivial ?_
     refine aw_false rfl ?_
     refine aR [] [2, 3, 6, 49] [2, 3] [.ref 2 0, .ref 3 0, Bv false, Bv false] [some (bxBox a), some (bxBox b)] [] hB trivial ?_
     refine aw_false rfl ?_
     refine aR [] [2, 3, 6, 62] [2, 3] [.ref 2 0, .ref 3 0, Bv false, Bv false] [some (bxBox a), some (bxBox b)] [] hB trivial ?_
     refine aw_false rfl ?_
     refine aR [] [2, 3, 75] [2, 3] [.ref 2 0, .ref 3 0, Bv false] [some (bxBox a), some (bxBox b)] [] hB trivial ?_
     refine aw_false rfl ?_
     refine aw_seq ?_
     by_cases h15 : b.Y2 ≤ a.Y1
     ·refine aw_r [(4, .dec true)] [2, 3, 77] [2, 3] [.ref 2 0, .ref 3 0, Bv true] [some (bxBox a), some (bxBox b)] [b.Y2 ≤ a.Y1] hB ⟨h15, trivial⟩ ?_
      refine ae_then ?_
      refine aw_true rfl ?_
      refine aR [] [4] [] [I 2] [] [] hB trivial ?_
      refine aw_ret ?_
      refine ae_ret_block (ae_ret_then ?_)
      refine ae_ret hB (I 2) (by kernel_rfl) (.inl (by refine congrArg I ?_; unfold relI; (repeat' split) <;> first | rfl | omega)) rfl (fun _ => trivial)
     refine aw_r [(4, .dec false)] [2, 3, 77] [2, 3] [.ref 2 0, .ref 3 0, Bv false] [some (bxBox a), some (bxBox b)] [¬ (b.Y2 ≤ a.Y1)] hB ⟨h15, trivial⟩ ?_
     refine ae_then ?_
     refine aw_false rfl ?_
     refine aw_seq ?_
     by_cases h16 : a.Y2 ≤ b.Y1
     ·refine aw_r [(4, .dec true)] [83] [] [Bv true] [] [a.Y2 ≤ b.Y1] hB ⟨h16, trivial⟩ ?_
      refine ae_then ?_
      refine aw_true rfl ?_
      refine aR [] [4] [] [I 3] [] [] hB trivial ?_
      refine aw_ret ?_
      refine ae_ret_block (ae_ret_then ?_)
      refine ae_ret hB (I 3) (by kernel_rfl) (.inl (by refine congrArg I ?_; unfold relI; (repeat' split) <;> first | rfl | omega)) rfl (fun _ => trivial)
     refine aw_r [(4, .dec false)] [83] [] [Bv false] [] [¬ (a.Y2 ≤ b.Y1)] hB ⟨h16, trivial⟩ ?_
     refine ae_then ?_
     refine aw_false rfl ?_
     refine aw_skip ?_
     refine ae_block 0 ?_
     refine ae_then ?_
     refine aR [] [4] [] [I 0] [] [] hB trivial ?_
     refine aw_ret ?_
     refine ae_ret hB (I 0) (by kernel_rfl) (.inl (by refine congrArg I ?_; unfold relI; (repeat' split) <;> first | rfl | omega)) rfl (fun _ => trivial)
    refine aw_r [(4, .dec true), (10, .dec true), (17, .dec false)] [2, 3, 5] [2, 3] [.ref 2 0, .ref 3 0, Bv false] [some (bxBox a), some (bxBox b)] [a.X1 ≤ b.X1, a.Y1 ≤ b.Y1, ¬ (b.X2 ≤ a.X2)] hB ⟨h1, h2, h3, trivial⟩ ?_
    refine ae_then ?_
    refine aw_seq ?_
    by_cases h17 : (a.X1 + a.X2) ≤ (2 * b.X1)
    ·refine aw_r [(8, .dec true)] [2, 3, 5, 6] [2, 3] [.ref 2 0, .ref 3 0, Bv false, Bv true] [some (bxBox a), some (bxBox b)] [inR .i64 (2 * b.X1), inR .i64 (a.X1 + a.X2), (a.X1 + a.X2) ≤ (2 * b.X1)] hB ⟨(inR_i64 (by omega) (by omega)), (inR_i64 (by omega) (by omega)), h17, trivial⟩ ?_
     refine ae_then ?_
     refine aw_seq ?_
     refine aw_block ?_
     refine aR [] [2, 3, 6, 42] [2, 3] [.ref 2 0, .ref 3 0, Bv true, Bv false] [some (bxBox a), some (bxBox b)] [] hB trivial ?_
     refine aw_false rfl ?_
     refine aw_seq ?_
     by_cases h18 : (2 * b.Y2) ≤ (a.Y1 + a.Y2)
     ·refine aw_r [(10, .dec true)] [2, 3, 6, 49] [2, 3] [.ref 2 0, .ref 3 0, Bv true, Bv true] [some (bxBox a), some (bxBox b)] [inR .i64 (2 * b.Y2), inR .i64 (a.Y1 + a.Y2), (2 * b.Y2) ≤ (a.Y1 + a.Y2)] hB ⟨(inR_i64 (by omega) (by omega)), (inR_i64 (by omega) (by omega)), h18, trivial⟩ ?_
      refine ae_then ?_
      refine aw_true rfl ?_
      refine aR [] [4] [] [I 4] [] [] hB trivial ?_
      refine aw_ret ?_
      refine ae_ret_block (ae_ret_then ?_)
      refine ae_ret hB (I 4) (by kernel_rfl) (.inl (by refine congrArg I ?_; unfold relI; (repeat' split) <;> first | rfl | omega)) rfl (fun _ => trivial)
     refine aw_r [(10, .dec false)] [2, 3, 6, 49] [2, 3] [.ref 2 0, .ref 3 0, Bv true, Bv false] [some (bxBox a), some (bxBox b)] [inR .i64 (2 * b.Y2), inR .i64 (a.Y1 + a.Y2), ¬ ((2 * b.Y2) ≤ (a.Y1 + a.Y2))] hB ⟨(inR_i64 (by omega) (by omega)), (inR_i64 (by omega) (by omega)), h18, trivial⟩ ?_
     refine ae_then ?_
     refine aw_false rfl ?_
     refine aw_seq ?_
     by_cases h19 : (a.Y1 + a.Y2) ≤ (2 * b.Y1)
     ·refine aw_r [(10, .dec true)] [2, 3, 6, 62] [2, 3] [.ref 2 0, .ref 3 0, Bv true, Bv true] [some (bxBox a), some (bxBox b)] [inR .i64 (2 * b.Y1), inR .i64 (a.Y1 + a.Y2), (a.Y1 + a.Y2) ≤ (2 * b.Y1)] hB ⟨(inR_i64 (by omega) (by omega)), (inR_i64 (by omega) (by omega)), h19, trivial⟩ ?_
      refine ae_then ?_
      refine aw_true rfl ?_
      refine aR [] [4] [] [I 5] [] [] hB trivial ?_
      refine aw_ret ?_
      refine ae_ret_block (ae_ret_then ?_)
      refine ae_ret hB (I 5) (by kernel_rfl) (.inl (by refine congrArg I ?_; unfold relI; (repeat' split) <;> first | rfl | omega)) rfl (fun _ => trivial)
     refine aw_r [(10, .dec false)] [2, 3, 6, 62] [2, 3] [.ref 2 0, .ref 3 0, Bv true, Bv false] [some (bxBox a), some (bxBox b)] [inR .i64 (2 * b.Y1), inR .i64 (a.Y1 + a.Y2), ¬ ((a.Y1 + a.Y2) ≤ (2 * b.Y1))] hB ⟨(inR_i64 (by omega) (by omega)), (inR_i64 (by omega) (by omega)), h19, trivial⟩ ?_
     refine ae_then ?_
     refine aw_false rfl ?_
     refine aR [] [2, 3, 75] [2, 3] [.ref 2 0, .ref 3 0, Bv true] [some (bxBox a), some (bxBox b)] [] hB trivial ?_
     refine aw_true rfl ?_
     refine aR [] [4] [] [I 1] [] [] hB trivial ?_
     refine aw_ret ?_
     refine ae_ret_block (ae_ret_then ?_)
     refine ae_ret hB (I 1) (by kernel_rfl) (.inl (by refine congrArg I ?_; unfold relI; (repeat' split) <;> first | rfl | omega)) rfl (fun _ => trivial)
    refine aw_r [(8, .dec false)] [2, 3, 5, 6] [2, 3] [.ref 2 0, .ref 3 0, Bv false, Bv false] [some (bxBox a), some (bxBox b)] [inR .i64 (2 * b.X1), inR .i64 (a.X1 + a.X2), ¬ ((a.X1 + a.X2) ≤ (2 * b.X1))] hB ⟨(inR_i64 (by omega) (by omega)), (inR_i64 (by omega) (by omega)), h17, trivial⟩ ?_
    refine ae_then ?_
    refine aw_seq ?_
    refine aw_block ?_
    refine aR [] [2, 3, 6, 42] [2, 3] [.ref 2 0, .ref 3 0, Bv false, Bv false] [some (bxBox a), some (bxBox b)] [] hB trivial ?_
    refine aw_false rfl ?_
    refine aR [] [2, 3, 6, 49] [2, 3] [.ref 2 0, .ref 3 0, Bv false, Bv false] [some (bxBox a), some (bxBox b)] [] hB trivial ?_
    refine aw_false rfl ?_
    refine aR [] [2, 3, 6, 62] [2, 3] [.ref 2 0, .ref 3 0, Bv false, Bv false] [some (bxBox a), some (bxBox b)] [] hB trivial ?_
    refine aw_false rfl ?_
    refine aR [] [2, 3, 75] [2, 3] [.ref 2 0, .ref 3 0, Bv false] [some (bxBox a), some (bxBox b)] [] hB trivial ?_
    refine aw_false rfl ?_
    refine aw_seq ?_
    by_cases h20 : b.Y2 ≤ a.Y1
    ·refine aw_r [(4, .dec true)] [2, 3, 77] [2, 3] [.ref 2 0, .ref 3 0, Bv true] [some (bxBox a), some (bxBox b)] [b.Y2 ≤ a.Y1] hB ⟨h20, trivial⟩ ?_
     refine ae_then ?_
     refine aw_true rfl ?_
     refine aR [] [4] [] [I 2] [] [] hB trivial ?_
     refine aw_ret ?_
     refine ae_ret_block (ae_ret_then ?_)
     refine ae_ret hB (I 2) (by kernel_rfl) (.inl (by refine congrArg I ?_; unfold relI; (repeat' split) <;> first | rfl | omega)) rfl (fun _ => trivial)
    refine aw_r [(4, .dec false)] [2, 3, 77] [2, 3] [.ref 2 0, .ref 3 0, Bv false] [some (bxBox a), some (bxBox b)] [¬ (b.Y2 ≤ a.Y1)] hB ⟨h20, trivial⟩ ?_
    refine ae_then ?_
    refine aw_false rfl ?_
    refine aw_seq ?_
    by_cases h21 : a.Y2 ≤ b.Y1
    ·refine aw_r [(4, .dec true)] [83] [] [Bv true] [] [a.Y2 ≤ b.Y1] hB ⟨h21, trivial⟩ ?_
     refine ae_then ?_
     refine aw_true rfl ?_
     refine aR [] [4] [] [I 3] [] [] hB trivial ?_
     refine aw_ret ?_
     refine ae_ret_block (ae_ret_then ?_)
     refine ae_ret hB (I 3) (by kernel_rfl) (.inl (by refine congrArg I ?_; unfold relI; (repeat' split) <;> first | rfl | omega)) rfl (fun _ => trivial)
    refine aw_r [(4, .dec false)] [83] [] [Bv false] [] [¬ (a.Y2 ≤ b.Y1)] hB ⟨h21, trivial⟩ ?_
    refine ae_then ?_
    refine aw_false rfl ?_
    refine aw_skip ?_
    refine ae_block 0 ?_
    refine ae_then ?_
    refine aR [] [4] [] [I 0] [] [] hB trivial ?_
    refine aw_ret ?_
    refine ae_ret hB (I 0) (by kernel_rfl) (.inl (by refine congrArg I ?_; unfold relI; (repeat' split) <;> first | rfl | omega)) rfl (fun _ => trivial)
   refine aw_r [(4, .dec true), (10, .dec false)] [2, 3, 5] [2, 3] [.ref 2 0, .ref 3 0, Bv false] [some (bxBox a), some (bxBox b)] [a.X1 ≤ b.X1, ¬ (a.Y1 ≤ b.Y1)] hB ⟨h1, h2, trivial⟩ ?_
   refine ae_then ?_
   refine aw_seq ?_
   by_cases h22 : (a.X1 + a.X2) ≤ (2 * b.X1)
   ·refine aw_r [(8, .dec true)] [2, 3, 5, 6] [2, 3] [.ref 2 0, .ref 3 0, Bv false, Bv true] [some (bxBox a), some (bxBox b)] [inR .i64 (2 * b.X1), inR .i64 (a.X1 + a.X2), (a.X1 + a.X2) ≤ (2 * b.X1)] hB ⟨(inR_i64 (by omega) (by omega)), (inR_i64 (by omega) (by omega)), h22, trivial⟩ ?_
    refine ae_then ?_
    refine aw_seq ?_
    refine aw_block ?_
    refine aR [] [2, 3, 6, 42] [2, 3] [.ref 2 0, .ref 3 0, Bv true, Bv false] [some (bxBox a), some (bxBox b)] [] hB trivial ?_
    refine aw_false rfl ?_
    refine aw_seq ?_
    by_cases h23 : (2 * b.Y2) ≤ (a.Y1 + a.Y2)
    ·refine aw_r [(10, .dec true)] [2, 3, 6, 49] [2, 3] [.ref 2 0, .ref 3 0, Bv true, Bv true] [some (bxBox a), some (bxBox b)] [inR .i64 (2 * b.Y2), inR .i64 (a.Y1 + a.Y2), (2 * b.Y2) ≤ (a.Y1 + a.Y2)] hB ⟨(inR_i64 (by omega) (by omega)), (inR_i64 (by omega) (by omega)), h23, trivial⟩ ?_
     refine ae_then ?_
     refine aw_true rfl ?_
     refine aR [] [4] [] [I 4] [] [] hB trivial ?_
     refine aw_ret ?_
     refine ae_ret_block (ae_ret_then ?_)
     refine ae_ret hB (I 4) (by kernel_rfl) (.inl (by refine congrArg I ?_; unfold relI; (repeat' split) <;> first | rfl | omega)) rfl (fun _ => trivial)
    refine aw_r [(10, .dec false)] [2, 3, 6, 49] [2, 3] [.ref 2 0, .ref 3 0, Bv true, Bv false] [some (bxBox a), some (bxBox b)] [inR .i64 (2 * b.Y2), inR .i64 (a.Y1 + a.Y2), ¬ ((2 * b.Y2) ≤ (a.Y1 + a.Y2))] hB ⟨(inR_i64 (by omega) (by omega)), (inR_i64 (by omega) (by omega)), h23, trivial⟩ ?_
    refine ae_then ?_
    refine aw_false rfl ?_
    refine aw_seq ?_
    by_cases h24 : (a.Y1 + a.Y2) ≤ (2 * b.Y1)
    ·refine aw_r [(10, .dec true)] [2, 3, 6, 62] [2, 3] [.ref 2 0, .ref 3 0, Bv true, Bv true] [some (bxBox a), some (bxBox b)] [inR .i64 (2 * b.Y1), inR .i64 (a.Y1 + a.Y2), (a.Y1 + a.Y2) ≤ (2 * b.Y1)] hB ⟨(inR_i64 (by omega) (by omega)), (inR_i64 (by omega) (by omega)), h24, trivial⟩ ?_
     refine ae_then ?_
     refine aw_true rfl ?_
     refine aR [] [4] [] [I 5] [] [] hB trivial ?_
     refine aw_ret ?_
     refine ae_ret_block (ae_ret_then ?_)
     refine ae_ret hB (I 5) (by kernel_rfl) (.inl (by refine congrArg I ?_; unfold relI; (repeat' split) <;> first | rfl | omega)) rfl (fun _ => trivial)
    refine aw_r [(10, .dec false)] [2, 3, 6, 62] [2, 3] [.ref 2 0, .ref 3 0, Bv true, Bv false] [some (bxBox a), some (bxBox b)] [inR .i64 (2 * b.Y1), inR .i64 (a.Y1 + a.Y2), ¬ ((a.Y1 + a.Y2) ≤ (2 * b.Y1))] hB ⟨(inR_i64 (by omega) (by omega)), (inR_i64 (by omega) (by omega)), h24, trivial⟩ ?_
    refine ae_then ?_
    refine aw_false rfl ?_
    refine aR [] [2, 3, 75] [2, 3] [.ref 2 0, .ref 3 0, Bv true] [some (bxBox a), some (bxBox b)] [] hB trivial ?_
    refine aw_true rfl ?_
    refine aR [] [4] [] [I 1] [] [] hB trivial ?_
    refine aw_ret ?_
    refine ae_ret_block (ae_ret_then ?_)
    refine ae_ret hB (I 1) (by kernel_rfl) (.inl (by refine congrArg I ?_; unfold relI; (repeat' split) <;> first | rfl | omega)) rfl (fun _ => trivial)
   refine aw_r [(8, .dec false)] [2, 3, 5, 6] [2, 3] [.ref 2 0, .ref 3 0, Bv false, Bv false] [some (bxBox a), some (bxBox b)] [inR .i64 (2 * b.X1), inR .i64 (a.X1 + a.X2), ¬ ((a.X1 + a.X2) ≤ (2 * b.X1))] hB ⟨(inR_i64 (by omega) (by omega)), (inR_i64 (by omega) (by omega)), h22, trivial⟩ ?_
   refine ae_then ?_
   refine aw_seq ?_
   refine aw_block ?_
   refine aR [] [2, 3, 6, 42] [2, 3] [.ref 2 0, .ref 3 0, Bv false, Bv false] [some (bxBox a), some (bxBox b)] [] hB trivial ?_
   refine aw_false rfl ?_
   refine aR [] [2, 3, 6, 49] [2, 3] [.ref 2 0, .ref 3 0, Bv false, Bv false] [some (bxBox a), some (bxBox b)] [] hB trivial ?_
   refine aw_false rfl ?_
   refine aR [] [2, 3, 6, 62] [2, 3] [.ref 2 0, .ref 3 0, Bv false, Bv false] [some (bxBox a), some (bxBox b)] [] hB trivial ?_
   refine aw_false rfl ?_
   refine aR [] [2, 3, 75] [2, 3] [.ref 2 0, .ref 3 0, Bv false] [some (bxBox a), some (bxBox b)] [] hB trivial ?_
   refine aw_false rfl ?_
   refine aw_seq ?_
   by_cases h25 : b.Y2 ≤ a.Y1
   ·refine aw_r [(4, .dec true)] [2, 3, 77] [2, 3] [.ref 2 0, .ref 3 0, Bv true] [some (bxBox a), some (bxBox b)] [b.Y2 ≤ a.Y1] hB ⟨h25, trivial⟩ ?_
    refine ae_then ?_
    refine aw_true rfl ?_
    refine aR [] [4] [] [I 2] [] [] hB trivial ?_
    refine aw_ret ?_
    refine ae_ret_block (ae_ret_then ?_)
    refine ae_ret hB (I 2) (by kernel_rfl) (.inl (by refine congrArg I ?_; unfold relI; (repeat' split) <;> first | rfl | omega)) rfl (fun _ => trivial)
   refine aw_r [(4, .dec false)] [2, 3, 77] [2, 3] [.ref 2 0, .ref 3 0, Bv false] [some (bxBox a), some (bxBox b)] [¬ (b.Y2 ≤ a.Y1)] hB ⟨h25, trivial⟩ ?_
   refine ae_then ?_
   refine aw_false rfl ?_
   refine aw_seq ?_
   by_cases h26 : a.Y2 ≤ b.Y1
   ·refine aw_r [(4, .dec true)] [83] [] [Bv true] [] [a.Y2 ≤ b.Y1] hB ⟨h26, trivial⟩ ?_
    refine ae_then ?_
    refine aw_true rfl ?_
    refine aR [] [4] [] [I 3] [] [] hB trivial ?_
    refine aw_ret ?_
    refine ae_ret_block (ae_ret_then ?_)
    refine ae_ret hB (I 3) (by kernel_rfl) (.inl (by refine congrArg I ?_; unfold relI; (repeat' split) <;> first | rfl | omega)) rfl (fun _ => trivial)
   refine aw_r [(4, .dec false)] [83] [] [Bv false] [] [¬ (a.Y2 ≤ b.Y1)] hB ⟨h26, trivial⟩ ?_
   refine ae_then ?_
   refine aw_false rfl ?_
   refine aw_skip ?_
   refine ae_block 0 ?_
   refine ae_then ?_
   refine aR [] [4] [] [I 0] [] [] hB trivial ?_
   refine aw_ret ?_
   refine ae_ret hB (I 0) (by kernel_rfl) (.inl (by refine congrArg I ?_; unfold relI; (repeat' split) <;> first | rfl | omega)) rfl (fun _ => trivial)
  refine aw_r [(4, .dec false)] [2, 3, 5] [2, 3] [.ref 2 0, .ref 3 0, Bv false] [some (bxBox a), some (bxBox b)] [¬ (a.X1 ≤ b.X1)] hB ⟨h1, trivial⟩ ?_
  refine ae_then ?_
  refine aw_seq ?_
  by_cases h27 : (a.X1 + a.X2) ≤ (2 * b.X1)
  ·refine aw_r [(8, .dec true)] [2, 3, 5, 6] [2, 3] [.ref 2 0, .ref 3 0, Bv false, Bv true] [some (bxBox a), some (bxBox b)] [inR .i64 (2 * b.X1), inR .i64 (a.X1 + a.X2), (a.X1 + a.X2) ≤ (2 * b.X1)] hB ⟨(inR_i64 (by omega) (by omega)), (inR_i64 (by omega) (by omega)), h27, trivial⟩ ?_
   refine ae_then ?_
   refine aw_seq ?_
   refine aw_block ?_
   refine aR [] [2, 3, 6, 42] [2, 3] [.ref 2 0, .ref 3 0, Bv true, Bv false] [some (bxBox a), some (bxBox b)] [] hB trivial ?_
   refine aw_false rfl ?_
   refine aw_seq ?_
   by_cases h28 : (2 * b.Y2) ≤ (a.Y1 + a.Y2)
   ·refine aw_r [(10, .dec true)] [2, 3, 6, 49] [2, 3] [.ref 2 0, .ref 3 0, Bv true, Bv true] [some (bxBox a), some (bxBox b)] [inR .i64 (2 * b.Y2), inR .i64 (a.Y1 + a.Y2), (2 * b.Y2) ≤ (a.Y1 + a.Y2)] hB ⟨(inR_i64 (by omega) (by omega)), (inR_i64 (by omega) (by omega)), h28, trivial⟩ ?_
    refine ae_then ?_
    refine aw_true rfl ?_
    refine aR [] [4] [] [I 4] [] [] hB trivial ?_
    refine aw_ret ?_
    refine ae_ret_block (ae_ret_then ?_)
    refine ae_ret hB (I 4) (by kernel_rfl) (.inl (by refine congrArg I ?_; unfold relI; (repeat' split) <;> first | rfl | omega)) rfl (fun _ => trivial)
   refine aw_r [(10, .dec false)] [2, 3, 6, 49] [2, 3] [.ref 2 0, .ref 3 0, Bv true, Bv false] [some (bxBox a), some (bxBox b)] [inR .i64 (2 * b.Y2), inR .i64 (a.Y1 + a.Y2), ¬ ((2 * b.Y2) ≤ (a.Y1 + a.Y2))] hB ⟨(inR_i64 (by omega) (by omega)), (inR_i64 (by omega) (by omega)), h28, trivial⟩ ?_
   refine ae_then ?_
   refine aw_false rfl ?_
   refine aw_seq ?_
   by_cases h29 : (a.Y1 + a.Y2) ≤ (2 * b.Y1)
   ·refine aw_r [(10, .dec true)] [2, 3, 6, 62] [2, 3] [.ref 2 0, .ref 3 0, Bv true, Bv true] [some (bxBox a), some (bxBox b)] [inR .i64 (2 * b.Y1), inR .i64 (a.Y1 + a.Y2), (a.Y1 + a.Y2) ≤ (2 * b.Y1)] hB ⟨(inR_i64 (by omega) (by omega)), (inR_i64 (by omega) (by omega)), h29, trivial⟩ ?_
    refine ae_then ?_
    refine aw_true rfl ?_
    refine aR [] [4] [] [I 5] [] [] hB trivial ?_
    refine aw_ret ?_
    refine ae_ret_block (ae_ret_then ?_)
    refine ae_ret hB (I 5) (by kernel_rfl) (.inl (by refine congrArg I ?_; unfold relI; (repeat' split) <;> first | rfl | omega)) rfl (fun _ => trivial)
   refine aw_r [(10, .dec false)] [2, 3, 6, 62] [2, 3] [.ref 2 0, .ref 3 0, Bv true, Bv false] [some (bxBox a), some (bxBox b)] [inR .i64 (2 * b.Y1), inR .i64 (a.Y1 + a.Y2), ¬ ((a.Y1 + a.Y2) ≤ (2 * b.Y1))] hB ⟨(inR_i64 (by omega) (by omega)), (inR_i64 (by omega) (by omega)), h29, trivial⟩ ?_
   refine ae_then ?_
   refine aw_false rfl ?_
   refine aR [] [2, 3, 75] [2, 3] [.ref 2 0, .ref 3 0, Bv true] [some (bxBox a), some (bxBox b)] [] hB trivial ?_
   refine aw_true rfl ?_
   refine aR [] [4] [] [I 1] [] [] hB trivial ?_
   refine aw_ret ?_
   refine ae_ret_block (ae_ret_then ?_)
   refine ae_ret hB (I 1) (by kernel_rfl) (.inl (by refine congrArg I ?_; unfold relI; (repeat' split) <;> first | rfl | omega)) rfl (fun _ => trivial)
  refine aw_r [(8, .dec false)] [2, 3, 5, 6] [2, 3] [.ref 2 0, .ref 3 0, Bv false, Bv false] [some (bxBox a), some (bxBox b)] [inR .i64 (2 * b.X1), inR .i64 (a.X1 + a.X2), ¬ ((a.X1 + a.X2) ≤ (2 * b.X1))] hB ⟨(inR_i64 (by omega) (by omega)), (inR_i64 (by omega) (by omega)), h27, trivial⟩ ?_
  refine ae_then ?_
  refine aw_seq ?_
  refine aw_block ?_
  refine aR [] [2, 3, 6, 42] [2, 3] [.ref 2 0, .ref 3 0, Bv false, Bv false] [some (bxBox a), some (bxBox b)] [] hB trivial ?_
  refine aw_false rfl ?_
  refine aR [] [2, 3, 6, 49] [2, 3] [.ref 2 0, .ref 3 0, Bv false, Bv false] [some (bxBox a), some (bxBox b)] [] hB trivial ?_
  refine aw_false rfl ?_
  refine aR [] [2, 3, 6, 62] [2, 3] [.ref 2 0, .ref 3 0, Bv false, Bv false] [some (bxBox a), some (bxBox b)] [] hB trivial ?_
  refine aw_false rfl ?_
  refine aR [] [2, 3, 75] [2, 3] [.ref 2 0, .ref 3 0, Bv false] [some (bxBox a), some (bxBox b)] [] hB trivial ?_
  refine aw_false rfl ?_
  refine aw_seq ?_
  by_cases h30 : b.Y2 ≤ a.Y1
  ·refine aw_r [(4, .dec true)] [2, 3, 77] [2, 3] [.ref 2 0, .ref 3 0, Bv true] [some (bxBox a), some (bxBox b)] [b.Y2 ≤ a.Y1] hB ⟨h30, trivial⟩ ?_
   refine ae_then ?_
   refine aw_true rfl ?_
   refine aR [] [4] [] [I 2] [] [] hB trivial ?_
   refine aw_ret ?_
   refine ae_ret_block (ae_ret_then ?_)
   refine ae_ret hB (I 2) (by kernel_rfl) (.inl (by refine congrArg I ?_; unfold relI; (repeat' split) <;> first | rfl | omega)) rfl (fun _ => trivial)
  refine aw_r [(4, .dec false)] [2, 3, 77] [2, 3] [.ref 2 0, .ref 3 0, Bv false] [some (bxBox a), some (bxBox b)] [¬ (b.Y2 ≤ a.Y1)] hB ⟨h30, trivial⟩ ?_
  refine ae_then ?_
  refine aw_false rfl ?_
  refine aw_seq ?_
  by_cases h31 : a.Y2 ≤ b.Y1
  ·refine aw_r [(4, .dec true)] [83] [] [Bv true] [] [a.Y2 ≤ b.Y1] hB ⟨h31, trivial⟩ ?_
   refine ae_then ?_
   refine aw_true rfl ?_
   refine aR [] [4] [] [I 3] [] [] hB trivial ?_
   refine aw_ret ?_
   refine ae_ret_block (ae_ret_then ?_)
   refine ae_ret hB (I 3) (by kernel_rfl) (.inl (by refine congrArg I ?_; unfold relI; (repeat' split) <;> first | rfl | omega)) rfl (fun _ => trivial)
  refine aw_r [(4, .dec false)] [83] [] [Bv false] [] [¬ (a.Y2 ≤ b.Y1)] hB ⟨h31, trivial⟩ ?_
  refine ae_then ?_
  refine aw_false rfl ?_
  refine aw_skip ?_
  refine ae_block 0 ?_
  refine ae_then ?_
  refine aR [] [4] [] [I 0] [] [] hB trivial ?_
  refine aw_ret ?_
  refine ae_ret hB (I 0) (by kernel_rfl) (.inl (by refine congrArg I ?_; unfold relI; (repeat' split) <;> first | rfl | omega)) rfl (fun _ => trivial)





def oLIc (F : Nat) (x : List Int) (i : Nat) : List AV := [.row F i]
def oLI (F : Nat) (xs : List (List Int)) (i : Nat) : List AV := oLIc F (at_ xs i) i
def mLI (xs : List (List Int)) (p : Nat) : Nat := (at_ xs p).length
def gLI (xs : List (List Int)) (p : Nat) : Nat → List AV := fI (at_ xs p)
abbrev tOLI (F : Nat) (xs : List (List Int)) : Ob := .oar [F] 1 xs.length (oLI F xs)
abbrev tFLI (xs : List (List Int)) : Ob := .fam xs.length 1 (mLI xs) (gLI xs)

theorem at_mapB {α β : Type} [Inhabited α] [Inhabited β] {xs : List α} {f : α → β} {k : Nat} (h : k < xs.length) : at_ (xs.map f) k = f (at_ xs k) := by simp [at_, h]
theorem mapTake_succ {α β : Type} [Inhabited α] {xs : List α} {f : α → β} {i : Int} {y : β} (h0 : 0 ≤ i) (h : i.toNat < xs.length) (hy : y = f (at_ xs i.toNat)) : (xs.take (i + 1).toNat).map f = (xs.take i.toNat).map f ++ [y] := by
  have e : (i + 1).toNat = i.toNat + 1 := by omega
  rw [e, List.take_succ_eq_append_getElem h, hy, at_eq h]
  simp only [List.map_append, List.map_cons, List.map_nil]
theorem map_all {α β : Type} {xs : List α} {f : α → β} {i : Int} (h : (xs.length : Int) ≤ i) : (xs.take i.toNat).map f = xs.map f := by
  rw [List.take_of_length_le (by omega)]


-- impl.RelationTable
theorem implRelationTable_ok (list : List Symbol) (ok : ∀ y ∈ list, y.Label.size ≤ 9223372036854775807) : ∃ (v : List (List Int)) (c : Int), (v = (relR list).1) ∧ (c = (relR list).2) ∧ Con Tryz.prog 6 [slSymbol false list] true (.tup [slLI true v, I c]) := by
  have hh : ∃ r : (List (List Int)) × Int, ((r.1 = (relR list).1) ∧ (r.2 = (relR list).2) ∧ (True)) ∧ CallOK Tryz.prog 6 [slSymbol false list] (lookO []) true (.tup [slLI true r.1, I r.2]) (lookO []) := by
    refine fn_okX (Φ := fun r : (List (List Int)) × Int => (r.1 = (relR list).1) ∧ (r.2 = (relR list).2) ∧ (True)) [] (fun r => []) (fn := Tryz.f6) (nt := 40) Tryz.func6 rfl rfl (args := [slSymbol false list]) rfl (allcons (.inl ⟨rfl, tagSymbol false _⟩) allnil) (res := fun r => .tup [slLI true r.1, I r.2]) ?_
    refine xR [] [0] [] [slSymbol false list] [] [] trivial ?_
    refine x_seq ?_
    refine x_seq ?_
    rcases Bool.eq_false_or_eq_true (okSyms list) with h1 | h1
    ·have hok := h1
     have hoi := okSyms_iff.1 hok
     have hst := rel_yes hok
     refine x_r [(1, .call [(true, .any)] true (Bv true))] [0, 12] [] [slSymbol false list, Bv false] [] [Con Tryz.prog 23 [slSymbol false list] true (Bv true) ∧ True] ⟨⟨(con_bool h1 (ValidSymbols_ok list ok)), trivial⟩, trivial⟩ ?_
     refine xe_then ?_
     refine x_false rfl ?_
     refine x_skip ?_
     refine xe_then ?_
     refine xR [] [0, 4] [] [slSymbol false list, nilA] [] [] trivial ?_
     refine x_seq ?_
     refine xR [] [0, 4, 13, 14, 15] [] [slSymbol false list, nilA, slSymbol false list, I (list.length : Int), I 0] [] [] trivial ?_
     refine x_block ?_
     refine x_nil 4 704 1 (fun _ => []) (by kernel_rfl) ?_
     refine x_weak [] (T := [(0, slSymbol false list), (4, .arr 704), (13, slSymbol false list), (14, I (list.length : Int)), (15, I 0)]) (O := [(704, tALI true ([] : List (List Int)))]) rfl (⟨.inl rfl, .inl rfl, .inl rfl, .inl rfl, .inl rfl, trivial⟩) (⟨.inr ⟨rfl, (by first | rfl | (simp; done) | (simp; omega) | omega), fun i_ hi_ => absurd hi_ (Nat.not_lt_zero _)⟩, trivial⟩) ?_
     refine x_loop (X := (List (List Int)) × Int) (fun x => mkS [(0, slSymbol false list), (4, .arr 704), (13, slSymbol false list), (14, I (list.length : Int)), (15, I x.2)] [(704, tALI true x.1)]) (fun x => (0 ≤ x.2 ∧ x.2 ≤ (list.length : Int)) ∧ ((x.1.length : Int) = x.2) ∧ (x.1 = (list.take x.2.toNat).map fun a => list.map fun b => relI a.Box b.Box) ∧ True) (fun x => ((list.length : Int) - x.2).toNat) (([] : List (List Int)), 0) rfl (show (0 ≤ (0 : Int) ∧ (0 : Int) ≤ (list.length : Int)) ∧ ((([] : List (List Int)).length : Int) = (0 : Int)) ∧ (([] : List (List Int)) = (list.take (0 : Int).toNat).map fun a => list.map fun b => relI a.Box b.Box) ∧ True from ⟨(by omega), (by rfl), (by rfl), trivial⟩) (fun x hI => ?_)
     obtain ⟨tb, t15⟩ := x
     obtain ⟨hi0, htl, htb, _⟩ : (0 ≤ t15 ∧ t15 ≤ (list.length : Int)) ∧ ((tb.length : Int) = t15) ∧ (tb = (list.take t15.toNat).map fun a => list.map fun b => relI a.Box b.Box) ∧ True := hI
     show XW _ _ _ _ (mkS [(0, slSymbol false list), (4, .arr 704), (13, slSymbol false list), (14, I (list.length : Int)), (15, I t15)] [(704, tALI true tb)]) _ _
     refine x_seq ?_
     by_cases h2 : t15 < (list.length : Int)
     ·have hi : t15.toNat < list.length := by omega
      have hbi := (hoi.2 _ hi).2
      refine x_r [(0, .dec true)] [0, 4, 13, 14, 15, 16] [704] [slSymbol false list, .arr 704, slSymbol false list, I (list.length : Int), I t15, Bv true] [some (tALI true tb)] [t15 < (list.length : Int)] ⟨h2, trivial⟩ ?_
      refine xe_then ?_
      refine x_seq ?_
      refine x_true rfl ?_
      refine x_skip ?_
      refine xe_then ?_
      refine x_seq ?_
      refine x_block ?_
      refine xR [(2, .new 6)] [0, 4, 6, 13, 14, 15] [6, 704] [slSymbol false list, .arr 704, .ref 6 0, slSymbol false list, I (list.length : Int), I t15] [some (bxSymbol (at_ list t15.toNat)), some (tALI true tb)] [(0 : Int) ≤ t15 ∧ t15 < (list.length : Int)] ⟨⟨(by omega), (by omega)⟩, trivial⟩ ?_
      refine xR [] [0, 4, 6, 7, 13, 14, 15] [6, 704] [slSymbol false list, .arr 704, .ref 6 0, nilA, slSymbol false list, I (list.length : Int), I t15] [some (bxSymbol (at_ list t15.toNat)), some (tALI true tb)] [] trivial ?_
      refine x_seq ?_
      refine xR [] [0, 4, 6, 7, 13, 14, 15, 19, 20, 21] [6, 704] [slSymbol false list, .arr 704, .ref 6 0, nilA, slSymbol false list, I (list.length : Int), I t15, slSymbol false list, I (list.length : Int), I 0] [some (bxSymbol (at_ list t15.toNat)), some (tALI true tb)] [] trivial ?_
      refine x_block ?_
      refine x_nil 7 707 1 (fun _ => []) (by kernel_rfl) ?_
      refine x_weak [] (T := [(0, slSymbol false list), (4, .arr 704), (6, .ref 6 0), (7, .arr 707), (13, slSymbol false list), (14, I (list.length : Int)), (15, I t15), (19, slSymbol false list), (20, I (list.length : Int)), (21, I 0)]) (O := [(6, bxSymbol (at_ list t15.toNat)), (704, tALI true tb), (707, tAI ([] : List Int))]) rfl (⟨.inl rfl, .inl rfl, .inl rfl, .inl rfl, .inl rfl, .inl rfl, .inl rfl, .inl rfl, .inl rfl, .inl rfl, trivial⟩) (⟨.inl rfl, .inl rfl, .inr ⟨rfl, (by first | rfl | (simp; done) | (simp; omega) | omega), fun i_ hi_ => absurd hi_ (Nat.not_lt_zero _)⟩, trivial⟩) ?_
      refine x_loop (X := (List Int) × Int) (fun x => mkS [(0, slSymbol false list), (4, .arr 704), (6, .ref 6 0), (7, .arr 707), (13, slSymbol false list), (14, I (list.length : Int)), (15, I t15), (19, slSymbol false list), (20, I (list.length : Int)), (21, I x.2)] [(6, bxSymbol (at_ list t15.toNat)), (704, tALI true tb), (707, tAI x.1)]) (fun x => (0 ≤ x.2 ∧ x.2 ≤ (list.length : Int)) ∧ (x.1 = (list.take x.2.toNat).map fun b => relI (at_ list t15.toNat).Box b.Box) ∧ True) (fun x => ((list.length : Int) - x.2).toNat) (([] : List Int), 0) rfl (show (0 ≤ (0 : Int) ∧ (0 : Int) ≤ (list.length : Int)) ∧ (([] : List Int) = (list.take (0 : Int).toNat).map fun b => relI (at_ list t15.toNat).Box b.Box) ∧ True from ⟨(by omega), (by rfl), trivial⟩) (fun x hI => ?_)
      obtain ⟨row, t21⟩ := x
      obtain ⟨hk0, hrw, _⟩ : (0 ≤ t21 ∧ t21 ≤ (list.length : Int)) ∧ (row = (list.take t21.toNat).map fun b => relI (at_ list t15.toNat).Box b.Box) ∧ True := hI
      show XW _ _ _ _ (mkS [(0, slSymbol false list), (4, .arr 704), (6, .ref 6 0), (7, .arr 707), (13, slSymbol false list), (14, I (list.length : Int)), (15, I t15), (19, slSymbol false list), (20, I (list.length : Int)), (21, I t21)] [(6, bxSymbol (at_ list t15.toNat)), (704, tALI true tb), (707, tAI row)]) _ _
      refine x_seq ?_
      by_cases h3 : t21 < (list.length : Int)
      ·have hk : t21.toNat < list.length := by omega
       have hbk := (hoi.2 _ hk).2
       have hrl : row.length = t21.toNat := by rw [hrw]; simp; omega
       refine x_r [(0, .dec true)] [0, 4, 6, 7, 13, 14, 15, 19, 20, 21, 22] [6, 704, 707] [slSymbol false list, .arr 704, .ref 6 0, .arr 707, slSymbol false list, I (list.length : Int), I t15, slSymbol false list, I (list.length : Int), I t21, Bv true] [some (bxSymbol (at_ list t15.toNat)), some (tALI true tb), some (tAI row)] [t21 < (list.length : Int)] ⟨h3, trivial⟩ ?_
       refine xe_then ?_
       refine x_seq ?_
       refine x_true rfl ?_
       refine x_skip ?_
       refine xe_then ?_
       refine x_seq ?_
       refine x_block ?_
       refine xR [(2, .new 9)] [0, 4, 6, 7, 9, 13, 14, 15, 19, 20, 21] [6, 9, 704, 707] [slSymbol false list, .arr 704, .ref 6 0, .arr 707, .ref 9 0, slSymbol false list, I (list.length : Int), I t15, slSymbol false list, I (list.length : Int), I t21] [some (bxSymbol (at_ list t15.toNat)), some (bxSymbol (at_ list t21.toNat)), some (tALI true tb), some (tAI row)] [(0 : Int) ≤ t21 ∧ t21 < (list.length : Int)] ⟨⟨(by omega), (by omega)⟩, trivial⟩ ?_
       refine x_r [(5, .call [(true, .any), (true, .any)] true (I (relI ((at_ list t15.toNat).Box) ((at_ list t21.toNat).Box)))), (6, .new 31), (7, .new 32)] [0, 4, 6, 7, 13, 14, 15, 19, 20, 21] [6, 32, 704] [slSymbol false list, .arr 704, .ref 6 0, .arr 32, slSymbol false list, I (list.length : Int), I t15, slSymbol false list, I (list.length : Int), I t21] [some (bxSymbol (at_ list t15.toNat)), some (.arr 1 (row.length + 1) (catF row.length (fI row) (litF [I (relI ((at_ list t15.toNat).Box) ((at_ list t21.toNat).Box))] 1))), some (tALI true tb)] [Con Tryz.prog 27 [agBox ((at_ list t15.toNat).Box), agBox ((at_ list t21.toNat).Box)] true (I (relI ((at_ list t15.toNat).Box) ((at_ list t21.toNat).Box))) ∧ True, (row.length + 1) * 8 ≤ 140737488355328] ⟨⟨(relation_ok ((at_ list t15.toNat).Box) ((at_ list t21.toNat).Box) hbi hbk), trivial⟩, (by omega), trivial⟩ ?_
       refine xe_block 3 ?_
       refine xe_then ?_
       refine x_weak [] (T := [(0, slSymbol false list), (4, .arr 704), (6, .ref 6 0), (7, .arr 32), (13, slSymbol false list), (14, I (list.length : Int)), (15, I t15), (19, slSymbol false list), (20, I (list.length : Int)), (21, I t21)]) (O := [(6, bxSymbol (at_ list t15.toNat)), (32, tAI (row ++ [(relI ((at_ list t15.toNat).Box) ((at_ list t21.toNat).Box))])), (704, tALI true tb)]) rfl (⟨.inl rfl, .inl rfl, .inl rfl, .inl rfl, .inl rfl, .inl rfl, .inl rfl, .inl rfl, .inl rfl, .inl rfl, trivial⟩) (⟨.inl rfl, .inr ⟨rfl, (by first | rfl | (simp; done) | (simp; omega) | omega), fun i_ hi_ => .inl (cat_snoc (enc := cI) (xs := row) rfl i_ hi_)⟩, .inl rfl, trivial⟩) ?_
       refine x_r [] [0, 4, 6, 7, 13, 14, 15, 19, 20, 21] [6, 32, 704] [slSymbol false list, .arr 704, .ref 6 0, .arr 32, slSymbol false list, I (list.length : Int), I t15, slSymbol false list, I (list.length : Int), I (t21 + 1)] [some (bxSymbol (at_ list t15.toNat)), some (tAI (row ++ [(relI ((at_ list t15.toNat).Box) ((at_ list t21.toNat).Box))])), some (tALI true tb)] [inR .i64 (t21 + 1)] ⟨(inR_i64 (by omega) (by omega)), trivial⟩ ?_
       refine xe_weak [(707, 32)] (T := [(0, slSymbol false list), (4, .arr 704), (6, .ref 6 0), (7, .arr 707), (13, slSymbol false list), (14, I (list.length : Int)), (15, I t15), (19, slSymbol false list), (20, I (list.length : Int)), (21, I (t21 + 1))]) (O := [(6, bxSymbol (at_ list t15.toNat)), (704, tALI true tb), (707, tAI (row ++ [(relI ((at_ list t15.toNat).Box) ((at_ list t21.toNat).Box))]))]) rfl (⟨.inl rfl, .inl rfl, .inl rfl, .inl rfl, .inl rfl, .inl rfl, .inl rfl, .inl rfl, .inl rfl, .inl rfl, trivial⟩) (⟨.inl rfl, .inl rfl, .inl rfl, trivial⟩) (xe_again ((row ++ [(relI ((at_ list t15.toNat).Box) ((at_ list t21.toNat).Box))]), (t21 + 1)) rfl (show (0 ≤ (t21 + 1) ∧ (t21 + 1) ≤ (list.length : Int)) ∧ ((row ++ [(relI ((at_ list t15.toNat).Box) ((at_ list t21.toNat).Box))]) = (list.take (t21 + 1).toNat).map fun b => relI (at_ list t15.toNat).Box b.Box) ∧ True from ⟨(by omega), (by rw [hrw]; exact (mapTake_succ (by omega) hk rfl).symm), trivial⟩) (by first | (show (((list.length : Int) - (t21 + 1)).toNat : Nat) < ((list.length : Int) - t21).toNat; omega) | (dsimp only; omega)))
      have hrf : row = list.map fun b => relI (at_ list t15.toNat).Box b.Box := by rw [hrw]; exact map_all (by omega)
      refine x_r [(0, .dec false)] [0, 4, 6, 7, 13, 14, 15, 19, 20, 21, 22] [6, 704, 707] [slSymbol false list, .arr 704, .ref 6 0, .arr 707, slSymbol false list, I (list.length : Int), I t15, slSymbol false list, I (list.length : Int), I t21, Bv false] [some (bxSymbol (at_ list t15.toNat)), some (tALI true tb), some (tAI row)] [¬ (t21 < (list.length : Int))] ⟨h3, trivial⟩ ?_
      refine xe_then ?_
      refine x_seq ?_
      refine x_false rfl ?_
      refine x_exit ?_
      refine xe_exit_then ?_
      refine xe_loop_exit ?_
      refine xe_exit_same ?_
      refine xe_then ?_
      refine x_weak [] (T := [(0, slSymbol false list), (4, .arr 704), (6, .ref 6 0), (7, slI true row), (13, slSymbol false list), (14, I (list.length : Int)), (15, I t15), (19, slSymbol false list), (20, I (list.length : Int)), (21, I t21), (22, Bv false)]) (O := [(6, bxSymbol (at_ list t15.toNat)), (704, tALI true tb)]) rfl (⟨.inl rfl, .inl rfl, .inl rfl, .inr ⟨(fun _ => rfl), rfl, rfl, fun i _ => .inl rfl⟩, .inl rfl, .inl rfl, .inl rfl, .inl rfl, .inl rfl, .inl rfl, .inl rfl, trivial⟩) (⟨.inl rfl, .inl rfl, trivial⟩) ?_
      refine x_r [(2, .new 36), (3, .new 37)] [0, 4, 13, 14, 15] [37] [slSymbol false list, .arr 37, slSymbol false list, I (list.length : Int), I t15] [some (.arr 1 (tb.length + 1) (catF tb.length (fLI true tb) (litF [slI true row] 1)))] [(tb.length + 1) * 24 ≤ 140737488355328] ⟨(by omega), trivial⟩ ?_
      refine xe_block 1 ?_
      refine xe_then ?_
      refine x_weak [] (T := [(0, slSymbol false list), (4, .arr 37), (13, slSymbol false list), (14, I (list.length : Int)), (15, I t15)]) (O := [(37, tALI true (tb ++ [row]))]) rfl (⟨.inl rfl, .inl rfl, .inl rfl, .inl rfl, .inl rfl, trivial⟩) (⟨.inr ⟨rfl, (by first | rfl | (simp; done) | (simp; omega) | omega), fun i_ hi_ => .inl (cat_snoc (enc := (cLI true)) (xs := tb) rfl i_ hi_)⟩, trivial⟩) ?_
      refine x_r [] [0, 4, 13, 14, 15] [37] [slSymbol false list, .arr 37, slSymbol false list, I (list.length : Int), I (t15 + 1)] [some (tALI true (tb ++ [row]))] [inR .i64 (t15 + 1)] ⟨(inR_i64 (by omega) (by omega)), trivial⟩ ?_
      refine xe_weak [(704, 37)] (T := [(0, slSymbol false list), (4, .arr 704), (13, slSymbol false list), (14, I (list.length : Int)), (15, I (t15 + 1))]) (O := [(704, tALI true (tb ++ [row]))]) rfl (⟨.inl rfl, .inl rfl, .inl rfl, .inl rfl, .inl rfl, trivial⟩) (⟨.inl rfl, trivial⟩) (xe_again ((tb ++ [row]), (t15 + 1)) rfl (show (0 ≤ (t15 + 1) ∧ (t15 + 1) ≤ (list.length : Int)) ∧ (((tb ++ [row]).length : Int) = (t15 + 1)) ∧ ((tb ++ [row]) = (list.take (t15 + 1).toNat).map fun a => list.map fun b => relI a.Box b.Box) ∧ True from ⟨(by omega), (by simp; omega), (by rw [htb]; exact (mapTake_succ (by omega) hi hrf).symm), trivial⟩) (by first | (show (((list.length : Int) - (t15 + 1)).toNat : Nat) < ((list.length : Int) - t15).toNat; omega) | (dsimp only; omega)))
     have hfin : tb = relT list := by rw [htb]; exact map_all (by omega)
     refine x_r [(0, .dec false)] [0, 4, 13, 14, 15, 16] [704] [slSymbol false list, .arr 704, slSymbol false list, I (list.length : Int), I t15, Bv false] [some (tALI true tb)] [¬ (t15 < (list.length : Int))] ⟨h2, trivial⟩ ?_
     refine xe_then ?_
     refine x_seq ?_
     refine x_false rfl ?_
     refine x_exit ?_
     refine xe_exit_then ?_
     refine xe_loop_exit ?_
     refine xe_exit_same ?_
     refine xe_then ?_
     refine xR [] [2, 3] [704] [.arr 704, I 0] [some (tALI true tb)] [] trivial ?_
     refine x_ret ?_
     refine xe_end (tb, 0) (show (tb = (relR list).1) ∧ (0 = (relR list).2) ∧ (True) from ⟨(by first | (rw [hst]; done) | (rw [hst]; exact hfin) | (rw [hst, hfin]; done) | rfl), (by first | (rw [hst]; done) | (rw [hst]; exact hfin) | (rw [hst, hfin]; done) | rfl), trivial⟩) (trivial) (.tup [.arr 704, I 0]) (by kernel_rfl) (.inr ⟨⟨(fun _ => rfl), rfl, rfl, fun i _ => .inl rfl⟩, ⟨rfl, rfl⟩⟩) (fun _ => rfl) (fun _ => (by simp [tagged, taggedL, tagLI]))
    have hst := rel_no h1
    refine x_r [(1, .call [(true, .any)] true (Bv false))] [0, 12] [] [slSymbol false list, Bv true] [] [Con Tryz.prog 23 [slSymbol false list] true (Bv false) ∧ True] ⟨⟨(con_bool h1 (ValidSymbols_ok list ok)), trivial⟩, trivial⟩ ?_
    refine xe_then ?_
    refine x_true rfl ?_
    refine xR [] [2, 3] [] [nilA, I 1] [] [] trivial ?_
    refine x_ret ?_
    refine xe_ret_then ?_
    refine xe_end (([] : List (List Int)), 1) (show (([] : List (List Int)) = (relR list).1) ∧ (1 = (relR list).2) ∧ (True) from ⟨(by first | (rw [hst]; done) | (rw [hst]; exact hfin) | (rw [hst, hfin]; done) | rfl), (by first | (rw [hst]; done) | (rw [hst]; exact hfin) | (rw [hst, hfin]; done) | rfl), trivial⟩) (trivial) (.tup [nilA, I 1]) (by kernel_rfl) (.inr ⟨⟨rfl, rfl⟩, ⟨rfl, rfl⟩⟩) (fun _ => rfl) (fun _ => (by simp [tagged, taggedL, tagLI]))
  obtain ⟨⟨v, c⟩, ⟨hh0, hh1, _⟩, hc⟩ := hh
  exact ⟨v, c, hh0, hh1, hc⟩



-- spec.l01Small
theorem l01Small_ok (c : Int) : Con Tryz.prog 85 [.val (.int .u8 c)] true (Bv (inB c 97 122)) := by
  refine fn_ok (fn := Tryz.f85) (nt := 9) Tryz.func85 rfl rfl rfl rfl (by simp [taggedL, tagged]) fun B hB => ?_
  refine aR [] [0] [] [.val (.int .u8 c)] [] [] hB trivial ?_
  refine aw_seq ?_
  by_cases h1 : 97 ≤ c
  ·refine aw_r [(1, .dec true)] [2] [] [Bv (decide (c ≤ 122))] [] [97 ≤ c] hB ⟨h1, trivial⟩ ?_
   refine ae_then ?_
   refine aw_ret ?_
   refine ae_ret hB (Bv (decide (c ≤ 122))) (by kernel_rfl) (.inl (by first | rfl | (refine congrArg Bv ?_; simp [inB, *]; done) | (refine congrArg Bv ?_; simp [inB, *]; omega) | (refine congrArg Bv ?_; simp_all [inB]; done) | (refine congrArg Bv ?_; simp_all [inB]; omega))) rfl (fun _ => trivial)
  refine aw_r [(1, .dec false)] [2] [] [Bv false] [] [¬ (97 ≤ c)] hB ⟨h1, trivial⟩ ?_
  refine ae_then ?_
  refine aw_ret ?_
  refine ae_ret hB (Bv false) (by kernel_rfl) (.inl (by first | rfl | (refine congrArg Bv ?_; simp [inB, *]; done) | (refine congrArg Bv ?_; simp [inB, *]; omega) | (refine congrArg Bv ?_; simp_all [inB]; done) | (refine congrArg Bv ?_; simp_all [inB]; omega))) rfl (fun _ => trivial)



-- spec.l11Label
theorem l11Label_ok (c : Int) : Con Tryz.prog 73 [.val (.int .u8 c)] true (Bv (labB c)) := by
  refine fn_ok (fn := Tryz.f73) (nt := 24) Tryz.func73 rfl rfl rfl rfl (by simp [taggedL, tagged]) fun B hB => ?_
  refine aR [] [0] [] [.val (.int .u8 c)] [] [] hB trivial ?_
  refine aw_seq ?_
  refine aR [] [0, 3] [] [.val (.int .u8 c), .val (.int .u8 c)] [] [] hB trivial ?_
  refine aw_block ?_
  refine aw_seq ?_
  refine aw_seq ?_
  by_cases h1 : c = 43
  ·refine aw_r [(0, .dec true)] [0, 3, 4] [] [.val (.int .u8 c), .val (.int .u8 c), Bv true] [] [c = 43] hB ⟨h1, trivial⟩ ?_
   refine ae_then ?_
   refine aw_true rfl ?_
   refine aw_skip ?_
   refine ae_then ?_
   refine aw_true rfl ?_
   refine aR [] [2] [] [Bv true] [] [] hB trivial ?_
   refine aw_ret ?_
   refine ae_ret_block (ae_ret_then ?_)
   refine ae_ret hB (Bv true) (by kernel_rfl) (.inl (by first | rfl | (refine congrArg Bv ?_; simp [labB, inB, *]; done) | (refine congrArg Bv ?_; simp [labB, inB, *]; omega) | (refine congrArg Bv ?_; simp_all [labB, inB]; done) | (refine congrArg Bv ?_; simp_all [labB, inB]; omega))) rfl (fun _ => trivial)
  refine aw_r [(0, .dec false)] [0, 3, 4] [] [.val (.int .u8 c), .val (.int .u8 c), Bv false] [] [¬ (c = 43)] hB ⟨h1, trivial⟩ ?_
  refine ae_then ?_
  refine aw_false rfl ?_
  refine aw_seq ?_
  by_cases h2 : c = 45
  ·refine aw_r [(0, .dec true)] [0, 3, 4] [] [.val (.int .u8 c), .val (.int .u8 c), Bv true] [] [c = 45] hB ⟨h2, trivial⟩ ?_
   refine ae_then ?_
   refine aw_true rfl ?_
   refine aw_skip ?_
   refine ae_then ?_
   refine aw_true rfl ?_
   refine aR [] [2] [] [Bv true] [] [] hB trivial ?_
   refine aw_ret ?_
   refine ae_ret_block (ae_ret_then ?_)
   refine ae_ret hB (Bv true) (by kernel_rfl) (.inl (by first | rfl | (refine congrArg Bv ?_; simp [labB, inB, *]; done) | (refine congrArg Bv ?_; simp [labB, inB, *]; omega) | (refine congrArg Bv ?_; simp_all [labB, inB]; done) | (refine congrArg Bv ?_; simp_all [labB, inB]; omega))) rfl (fun _ => trivial)
  refine aw_r [(0, .dec false)] [0, 3, 4] [] [.val (.int .u8 c), .val (.int .u8 c), Bv false] [] [¬ (c = 45)] hB ⟨h2, trivial⟩ ?_
  refine ae_then ?_
  refine aw_false rfl ?_
  refine aw_seq ?_
  by_cases h3 : c = 42
  ·refine aw_r [(0, .dec true)] [0, 3, 4] [] [.val (.int .u8 c), .val (.int .u8 c), Bv true] [] [c = 42] hB ⟨h3, trivial⟩ ?_
   refine ae_then ?_
   refine aw_true rfl ?_
   refine aw_skip ?_
   refine ae_then ?_
   refine aw_true rfl ?_
   refine aR [] [2] [] [Bv true] [] [] hB trivial ?_
   refine aw_ret ?_
   refine ae_ret_block (ae_ret_then ?_)
   refine ae_ret hB (Bv true) (by kernel_rfl) (.inl (by first | rfl | (refine congrArg Bv ?_; simp [labB, inB, *]; done) | (refine congrArg Bv ?_; simp [labB, inB, *]; omega) | (refine congrArg Bv ?_; simp_all [labB, inB]; done) | (refine congrArg Bv ?_; simp_all [labB, inB]; omega))) rfl (fun _ => trivial)
  refine aw_r [(0, .dec false)] [0, 3, 4] [] [.val (.int .u8 c), .val (.int .u8 c), Bv false] [] [¬ (c = 42)] hB ⟨h3, trivial⟩ ?_
  refine ae_then ?_
  refine aw_false rfl ?_
  refine aw_seq ?_
  by_cases h4 : c = 47
  ·refine aw_r [(0, .dec true)] [0, 3, 4] [] [.val (.int .u8 c), .val (.int .u8 c), Bv true] [] [c = 47] hB ⟨h4, trivial⟩ ?_
   refine ae_then ?_
   refine aw_true rfl ?_
   refine aw_skip ?_
   refine ae_then ?_
   refine aw_true rfl ?_
   refine aR [] [2] [] [Bv true] [] [] hB trivial ?_
   refine aw_ret ?_
   refine ae_ret_block (ae_ret_then ?_)
   refine ae_ret hB (Bv true) (by kernel_rfl) (.inl (by first | rfl | (refine congrArg Bv ?_; simp [labB, inB, *]; done) | (refine congrArg Bv ?_; simp [labB, inB, *]; omega) | (refine congrArg Bv ?_; simp_all [labB, inB]; done) | (refine congrArg Bv ?_; simp_all [labB, inB]; omega))) rfl (fun _ => trivial)
  refine aw_r [(0, .dec false)] [0, 3, 4] [] [.val (.int .u8 c), .val (.int .u8 c), Bv false] [] [¬ (c = 47)] hB ⟨h4, trivial⟩ ?_
  refine ae_then ?_
  refine aw_false rfl ?_
  refine aw_seq ?_
  by_cases h5 : c = 61
  ·refine aw_r [(0, .dec true)] [0, 3, 4] [] [.val (.int .u8 c), .val (.int .u8 c), Bv true] [] [c = 61] hB ⟨h5, trivial⟩ ?_
   refine ae_then ?_
   refine aw_true rfl ?_
   refine aw_skip ?_
   refine ae_then ?_
   refine aw_true rfl ?_
   refine aR [] [2] [] [Bv true] [] [] hB trivial ?_
   refine aw_ret ?_
   refine ae_ret_block (ae_ret_then ?_)
   refine ae_ret hB (Bv true) (by kernel_rfl) (.inl (by first | rfl | (refine congrArg Bv ?_; simp [labB, inB, *]; done) | (refine congrArg Bv ?_; simp [labB, inB, *]; omega) | (refine congrArg Bv ?_; simp_all [labB, inB]; done) | (refine congrArg Bv ?_; simp_all [labB, inB]; omega))) rfl (fun _ => trivial)
  refine aw_r [(0, .dec false)] [0, 3, 4] [] [.val (.int .u8 c), .val (.int .u8 c), Bv false] [] [¬ (c = 61)] hB ⟨h5, trivial⟩ ?_
  refine ae_then ?_
  refine aw_false rfl ?_
  refine aw_seq ?_
  by_cases h6 : c = 40
  ·refine aw_r [(0, .dec true)] [0, 3, 4] [] [.val (.int .u8 c), .val (.int .u8 c), Bv true] [] [c = 40] hB ⟨h6, trivial⟩ ?_
   refine ae_then ?_
   refine aw_true rfl ?_
   refine aw_skip ?_
   refine ae_then ?_
   refine aw_true rfl ?_
   refine aR [] [2] [] [Bv true] [] [] hB trivial ?_
   refine aw_ret ?_
   refine ae_ret_block (ae_ret_then ?_)
   refine ae_ret hB (Bv true) (by kernel_rfl) (.inl (by first | rfl | (refine congrArg Bv ?_; simp [labB, inB, *]; done) | (refine congrArg Bv ?_; simp [labB, inB, *]; omega) | (refine congrArg Bv ?_; simp_all [labB, inB]; done) | (refine congrArg Bv ?_; simp_all [labB, inB]; omega))) rfl (fun _ => trivial)
  refine aw_r [(0, .dec false)] [0, 3, 4] [] [.val (.int .u8 c), .val (.int .u8 c), Bv false] [] [¬ (c = 40)] hB ⟨h6, trivial⟩ ?_
  refine ae_then ?_
  refine aw_false rfl ?_
  refine aw_seq ?_
  by_cases h7 : c = 41
  ·refine aw_r [(0, .dec true)] [0, 3, 4] [] [.val (.int .u8 c), .val (.int .u8 c), Bv true] [] [c = 41] hB ⟨h7, trivial⟩ ?_
   refine ae_then ?_
   refine aw_true rfl ?_
   refine aw_skip ?_
   refine ae_then ?_
   refine aw_true rfl ?_
   refine aR [] [2] [] [Bv true] [] [] hB trivial ?_
   refine aw_ret ?_
   refine ae_ret_block (ae_ret_then ?_)
   refine ae_ret hB (Bv true) (by kernel_rfl) (.inl (by first | rfl | (refine congrArg Bv ?_; simp [labB, inB, *]; done) | (refine congrArg Bv ?_; simp [labB, inB, *]; omega) | (refine congrArg Bv ?_; simp_all [labB, inB]; done) | (refine congrArg Bv ?_; simp_all [labB, inB]; omega))) rfl (fun _ => trivial)
  refine aw_r [(0, .dec false)] [0, 3, 4] [] [.val (.int .u8 c), .val (.int .u8 c), Bv false] [] [¬ (c = 41)] hB ⟨h7, trivial⟩ ?_
  refine ae_then ?_
  refine aw_false rfl ?_
  refine aw_seq ?_
  by_cases h8 : c = 46
  ·refine aw_r [(0, .dec true)] [0, 3, 4] [] [.val (.int .u8 c), .val (.int .u8 c), Bv true] [] [c = 46] hB ⟨h8, trivial⟩ ?_
   refine ae_then ?_
   refine aw_true rfl ?_
   refine aw_skip ?_
   refine ae_then ?_
   refine aw_true rfl ?_
   refine aR [] [2] [] [Bv true] [] [] hB trivial ?_
   refine aw_ret ?_
   refine ae_ret_block (ae_ret_then ?_)
   refine ae_ret hB (Bv true) (by kernel_rfl) (.inl (by first | rfl | (refine congrArg Bv ?_; simp [labB, inB, *]; done) | (refine congrArg Bv ?_; simp [labB, inB, *]; omega) | (refine congrArg Bv ?_; simp_all [labB, inB]; done) | (refine congrArg Bv ?_; simp_all [labB, inB]; omega))) rfl (fun _ => trivial)
  refine aw_r [(0, .dec false)] [0, 3, 4] [] [.val (.int .u8 c), .val (.int .u8 c), Bv false] [] [¬ (c = 46)] hB ⟨h8, trivial⟩ ?_
  refine ae_then ?_
  refine aw_false rfl ?_
  by_cases h9 : c = 44
  ·refine aw_r [(0, .dec true)] [0, 4] [] [.val (.int .u8 c), Bv true] [] [c = 44] hB ⟨h9, trivial⟩ ?_
   refine ae_then ?_
   refine aw_true rfl ?_
   refine aR [] [2] [] [Bv true] [] [] hB trivial ?_
   refine aw_ret ?_
   refine ae_ret_block (ae_ret_then ?_)
   refine ae_ret hB (Bv true) (by kernel_rfl) (.inl (by first | rfl | (refine congrArg Bv ?_; simp [labB, inB, *]; done) | (refine congrArg Bv ?_; simp [labB, inB, *]; omega) | (refine congrArg Bv ?_; simp_all [labB, inB]; done) | (refine congrArg Bv ?_; simp_all [labB, inB]; omega))) rfl (fun _ => trivial)
  refine aw_r [(0, .dec false)] [0, 4] [] [.val (.int .u8 c), Bv false] [] [¬ (c = 44)] hB ⟨h9, trivial⟩ ?_
  refine ae_then ?_
  refine aw_false rfl ?_
  refine aw_skip ?_
  refine ae_block 0 ?_
  refine ae_then ?_
  refine aw_seq ?_
  rcases Bool.eq_false_or_eq_true (inB c 97 122) with h10 | h10
  ·refine aw_r [(1, .call [(true, .any)] true (Bv true))] [2] [] [Bv true] [] [Con Tryz.prog 85 [.val (.int .u8 c)] true (Bv true) ∧ True] hB ⟨⟨(con_bool h10 (l01Small_ok c)), trivial⟩, trivial⟩ ?_
   refine ae_then ?_
   refine aw_ret ?_
   refine ae_ret hB (Bv true) (by kernel_rfl) (.inl (by first | rfl | (refine congrArg Bv ?_; simp [labB, inB, *]; done) | (refine congrArg Bv ?_; simp [labB, inB, *]; omega) | (refine congrArg Bv ?_; simp_all [labB, inB]; done) | (refine congrArg Bv ?_; simp_all [labB, inB]; omega))) rfl (fun _ => trivial)
  by_cases h11 : 48 ≤ c
  ·refine aw_r [(1, .call [(true, .any)] true (Bv false)), (4, .dec true)] [2] [] [Bv (decide (c ≤ 57))] [] [Con Tryz.prog 85 [.val (.int .u8 c)] true (Bv false) ∧ True, 48 ≤ c] hB ⟨⟨(con_bool h10 (l01Small_ok c)), trivial⟩, h11, trivial⟩ ?_
   refine ae_then ?_
   refine aw_ret ?_
   refine ae_ret hB (Bv (decide (c ≤ 57))) (by kernel_rfl) (.inl (by first | rfl | (refine congrArg Bv ?_; simp [labB, inB, *]; done) | (refine congrArg Bv ?_; simp [labB, inB, *]; omega) | (refine congrArg Bv ?_; simp_all [labB, inB]; done) | (refine congrArg Bv ?_; simp_all [labB, inB]; omega))) rfl (fun _ => trivial)
  refine aw_r [(1, .call [(true, .any)] true (Bv false)), (4, .dec false)] [2] [] [Bv false] [] [Con Tryz.prog 85 [.val (.int .u8 c)] true (Bv false) ∧ True, ¬ (48 ≤ c)] hB ⟨⟨(con_bool h10 (l01Small_ok c)), trivial⟩, h11, trivial⟩ ?_
  refine ae_then ?_
  refine aw_ret ?_
  refine ae_ret hB (Bv false) (by kernel_rfl) (.inl (by first | rfl | (refine congrArg Bv ?_; simp [labB, inB, *]; done) | (refine congrArg Bv ?_; simp [labB, inB, *]; omega) | (refine congrArg Bv ?_; simp_all [labB, inB]; done) | (refine congrArg Bv ?_; simp_all [labB, inB]; omega))) rfl (fun _ => trivial)



-- spec.IsLabel
theorem specIsLabel_ok (s : ByteArray) (ok : s.size ≤ 9223372036854775807) : Con Tryz.prog 56 [Sv s] true (Bv (okLabel s)) := by
  refine fn_ok (fn := Tryz.f56) (nt := 11) Tryz.func56 rfl rfl rfl rfl (by simp [taggedL, tagged]) fun B hB => ?_
  refine aR [] [0] [] [Sv s] [] [] hB trivial ?_
  refine aw_seq ?_
  by_cases h1 : (s.size : Int) = 1
  ·refine aw_r [(2, .dec true), (6, .call [(true, .any)] true (Bv (labB (bAt s 0))))] [2] [] [Bv (labB (bAt s 0))] [] [(s.size : Int) = 1, (0 : Int) ≤ 0 ∧ 0 < (s.size : Int), Con Tryz.prog 73 [.val (.int .u8 (bAt s 0))] true (Bv (labB (bAt s 0))) ∧ True] hB ⟨h1, ⟨(by omega), (by omega)⟩, ⟨(l11Label_ok (bAt s 0)), trivial⟩, trivial⟩ ?_
   refine ae_then ?_
   refine aw_ret ?_
   refine ae_ret hB (Bv (labB (bAt s 0))) (by kernel_rfl) (.inl (by first | rfl | (refine congrArg Bv ?_; simp [okLabel, *]; done) | (refine congrArg Bv ?_; simp [okLabel, *]; omega) | (refine congrArg Bv ?_; simp_all [okLabel]; done) | (refine congrArg Bv ?_; simp_all [okLabel]; omega))) rfl (fun _ => trivial)
  refine aw_r [(2, .dec false)] [2] [] [Bv false] [] [¬ ((s.size : Int) = 1)] hB ⟨h1, trivial⟩ ?_
  refine ae_then ?_
  refine aw_ret ?_
  refine ae_ret hB (Bv false) (by kernel_rfl) (.inl (by first | rfl | (refine congrArg Bv ?_; simp [okLabel, *]; done) | (refine congrArg Bv ?_; simp [okLabel, *]; omega) | (refine congrArg Bv ?_; simp_all [okLabel]; done) | (refine congrArg Bv ?_; simp_all [okLabel]; omega))) rfl (fun _ => trivial)



-- spec.l00In
theorem l00In_ok (n : Int) (low : Int) (high : Int) : Con Tryz.prog 50 [I n, I low, I high] true (Bv (inB n low high)) := by
  refine fn_ok (fn := Tryz.f50) (nt := 15) Tryz.func50 rfl rfl rfl rfl (by simp [taggedL, tagged]) fun B hB => ?_
  refine aR [] [0, 1, 2] [] [I n, I low, I high] [] [] hB trivial ?_
  refine aw_seq ?_
  by_cases h1 : low ≤ n
  ·refine aw_r [(2, .dec true)] [6] [] [Bv (decide (n ≤ high))] [] [low ≤ n] hB ⟨h1, trivial⟩ ?_
   refine ae_then ?_
   refine aw_ret ?_
   refine ae_ret hB (Bv (decide (n ≤ high))) (by kernel_rfl) (.inl (by first | rfl | (refine congrArg Bv ?_; simp [inB, *]; done) | (refine congrArg Bv ?_; simp [inB, *]; omega) | (refine congrArg Bv ?_; simp_all [inB]; done) | (refine congrArg Bv ?_; simp_all [inB]; omega))) rfl (fun _ => trivial)
  refine aw_r [(2, .dec false)] [6] [] [Bv false] [] [¬ (low ≤ n)] hB ⟨h1, trivial⟩ ?_
  refine ae_then ?_
  refine aw_ret ?_
  refine ae_ret hB (Bv false) (by kernel_rfl) (.inl (by first | rfl | (refine congrArg Bv ?_; simp [inB, *]; done) | (refine congrArg Bv ?_; simp [inB, *]; omega) | (refine congrArg Bv ?_; simp_all [inB]; done) | (refine congrArg Bv ?_; simp_all [inB]; omega))) rfl (fun _ => trivial)



-- spec.l02Box
theorem l02Box_ok (b : Box) : Con Tryz.prog 57 [agBox b] true (Bv (okBx b)) := by
  refine fn_ok (fn := Tryz.f57) (nt := 25) Tryz.func57 rfl rfl rfl rfl (by simp [taggedL, tagged]) fun B hB => ?_
  refine aR [(0, .new 1)] [1] [1] [.ref 1 0] [some (bxBox b)] [] hB trivial ?_
  refine aw_seq ?_
  rcases Bool.eq_false_or_eq_true (inB b.X1 0 b.X2) with h1 | h1
  ·rcases Bool.eq_false_or_eq_true (inB b.Y1 0 b.Y2) with h2 | h2
   ·by_cases h3 : b.X2 ≤ 4095
    ·refine aw_r [(4, .call [(true, .any), (true, .any), (true, .any)] true (Bv true)), (10, .call [(true, .any), (true, .any), (true, .any)] true (Bv true)), (15, .dec true)] [2] [] [Bv (decide (b.Y2 ≤ 4095))] [] [Con Tryz.prog 50 [I b.X1, I 0, I b.X2] true (Bv true) ∧ True, Con Tryz.prog 50 [I b.Y1, I 0, I b.Y2] true (Bv true) ∧ True, b.X2 ≤ 4095] hB ⟨⟨(con_bool h1 (l00In_ok b.X1 0 b.X2)), trivial⟩, ⟨(con_bool h2 (l00In_ok b.Y1 0 b.Y2)), trivial⟩, h3, trivial⟩ ?_
     refine ae_then ?_
     refine aw_ret ?_
     refine ae_ret hB (Bv (decide (b.Y2 ≤ 4095))) (by kernel_rfl) (.inl (by first | rfl | (refine congrArg Bv ?_; simp [okBx, inB, *]; done) | (refine congrArg Bv ?_; simp [okBx, inB, *]; omega) | (refine congrArg Bv ?_; simp_all [okBx, inB]; done) | (refine congrArg Bv ?_; simp_all [okBx, inB]; omega))) rfl (fun _ => trivial)
    refine aw_r [(4, .call [(true, .any), (true, .any), (true, .any)] true (Bv true)), (10, .call [(true, .any), (true, .any), (true, .any)] true (Bv true)), (15, .dec false)] [2] [] [Bv false] [] [Con Tryz.prog 50 [I b.X1, I 0, I b.X2] true (Bv true) ∧ True, Con Tryz.prog 50 [I b.Y1, I 0, I b.Y2] true (Bv true) ∧ True, ¬ (b.X2 ≤ 4095)] hB ⟨⟨(con_bool h1 (l00In_ok b.X1 0 b.X2)), trivial⟩, ⟨(con_bool h2 (l00In_ok b.Y1 0 b.Y2)), trivial⟩, h3, trivial⟩ ?_
    refine ae_then ?_
    refine aw_ret ?_
    refine ae_ret hB (Bv false) (by kernel_rfl) (.inl (by first | rfl | (refine congrArg Bv ?_; simp [okBx, inB, *]; done) | (refine congrArg Bv ?_; simp [okBx, inB, *]; omega) | (refine congrArg Bv ?_; simp_all [okBx, inB]; done) | (refine congrArg Bv ?_; simp_all [okBx, inB]; omega))) rfl (fun _ => trivial)
   refine aw_r [(4, .call [(true, .any), (true, .any), (true, .any)] true (Bv true)), (10, .call [(true, .any), (true, .any), (true, .any)] true (Bv false))] [2] [] [Bv false] [] [Con Tryz.prog 50 [I b.X1, I 0, I b.X2] true (Bv true) ∧ True, Con Tryz.prog 50 [I b.Y1, I 0, I b.Y2] true (Bv false) ∧ True] hB ⟨⟨(con_bool h1 (l00In_ok b.X1 0 b.X2)), trivial⟩, ⟨(con_bool h2 (l00In_ok b.Y1 0 b.Y2)), trivial⟩, trivial⟩ ?_
   refine ae_then ?_
   refine aw_ret ?_
   refine ae_ret hB (Bv false) (by kernel_rfl) (.inl (by first | rfl | (refine congrArg Bv ?_; simp [okBx, inB, *]; done) | (refine congrArg Bv ?_; simp [okBx, inB, *]; omega) | (refine congrArg Bv ?_; simp_all [okBx, inB]; done) | (refine congrArg Bv ?_; simp_all [okBx, inB]; omega))) rfl (fun _ => trivial)
  refine aw_r [(4, .call [(true, .any), (true, .any), (true, .any)] true (Bv false))] [2] [] [Bv false] [] [Con Tryz.prog 50 [I b.X1, I 0, I b.X2] true (Bv false) ∧ True] hB ⟨⟨(con_bool h1 (l00In_ok b.X1 0 b.X2)), trivial⟩, trivial⟩ ?_
  refine ae_then ?_
  refine aw_ret ?_
  refine ae_ret hB (Bv false) (by kernel_rfl) (.inl (by first | rfl | (refine congrArg Bv ?_; simp [okBx, inB, *]; done) | (refine congrArg Bv ?_; simp [okBx, inB, *]; omega) | (refine congrArg Bv ?_; simp_all [okBx, inB]; done) | (refine congrArg Bv ?_; simp_all [okBx, inB]; omega))) rfl (fun _ => trivial)



-- spec.l20Ok
theorem l20Ok_ok (list : List Symbol) (ok : ∀ y ∈ list, y.Label.size ≤ 9223372036854775807) : Con Tryz.prog 28 [slSymbol false list] true (Bv (okSyms list)) := by
  refine fn_ok (fn := Tryz.f28) (nt := 29) Tryz.func28 rfl rfl rfl rfl (by simp [taggedL, tagged, tagSymbol]) fun B hB => ?_
  refine aw_lens (x := slSymbol false list) 0 rfl (fun len_list => ?_)
  simp [LenOK, LenL, cSymbol, fSymbol, slSymbol] at len_list
  refine aR [] [0] [] [slSymbol false list] [] [] hB trivial ?_
  refine aw_seq ?_
  refine aR [] [0, 3] [] [slSymbol false list, I 0] [] [] hB trivial ?_
  refine aw_block ?_
  refine aw_loop (fun gn gσ => ∃ (i : Int), gn = ((list.length : Int) - i).toNat ∧ (0 ≤ i ∧ i ≤ (list.length : Int)) ∧ (∀ j : Nat, (j : Int) < i → okSy (at_ list j) = true) ∧ gσ = mkS [(0, slSymbol false list), (3, I i)] []) (((list.length : Int) - 0).toNat) ⟨0, rfl, (by omega), (by intro j hj; omega), rfl⟩ (fun gn gσ hI => ?_)
  obtain ⟨i, rfl, hi0, hall0, rfl⟩ := hI
  refine aw_seq ?_
  refine aw_seq ?_
  by_cases h1 : i < (list.length : Int)
  ·have hi : i.toNat < list.length := by omega
   refine aw_r [(3, .dec true)] [0, 3, 7] [] [slSymbol false list, I i, Bv true] [] [i < (list.length : Int)] hB ⟨h1, trivial⟩ ?_
   refine ae_then ?_
   refine aw_true rfl ?_
   refine aw_skip ?_
   refine ae_then ?_
   refine aw_seq ?_
   refine aw_block ?_
   refine aw_seq ?_
   rcases Bool.eq_false_or_eq_true (okLabel ((at_ list i.toNat).Label)) with h2 | h2
   ·have hl1 := h2
    rcases Bool.eq_false_or_eq_true (okBx ((at_ list i.toNat).Box)) with h3 | h3
    ·have hok : okSy (at_ list i.toNat) = true := by unfold okSy; rw [hl1, h3]; rfl
     refine aw_r [(5, .call [(true, .any)] true (Bv true)), (13, .call [(true, .any)] true (Bv true))] [0, 3, 25] [] [slSymbol false list, I i, Bv false] [] [(0 : Int) ≤ i ∧ i < (list.length : Int), Con Tryz.prog 56 [Sv ((at_ list i.toNat).Label)] true (Bv true) ∧ True, (0 : Int) ≤ i ∧ i < (list.length : Int), Con Tryz.prog 57 [agBox ((at_ list i.toNat).Box)] true (Bv true) ∧ True] hB ⟨⟨(by omega), (by omega)⟩, ⟨(con_bool h2 (specIsLabel_ok ((at_ list i.toNat).Label) (ok _ (at_mem hi)))), trivial⟩, ⟨(by omega), (by omega)⟩, ⟨(con_bool h3 (l02Box_ok ((at_ list i.toNat).Box))), trivial⟩, trivial⟩ ?_
     refine ae_then ?_
     refine aw_false rfl ?_
     refine aw_skip ?_
     refine ae_block 1 ?_
     refine ae_then ?_
     refine aw_r [] [0, 3] [] [slSymbol false list, I (i + 1)] [] [inR .i64 (i + 1)] hB ⟨(inR_i64 (by omega) (by omega)), trivial⟩ ?_
     exact ae_again _ (by omega) ⟨(i + 1), rfl, (by omega), (by intro j hj; by_cases ej : j = i.toNat; (subst ej; first | assumption | exact hok); exact hall0 j (by omega)), rfl⟩
    have hall : allN list.length (fun j => okSy (at_ list j)) = false := allN_not hi (by unfold okSy; rw [h3]; simp)
    refine aw_r [(5, .call [(true, .any)] true (Bv true)), (13, .call [(true, .any)] true (Bv false))] [0, 3, 25] [] [slSymbol false list, I i, Bv true] [] [(0 : Int) ≤ i ∧ i < (list.length : Int), Con Tryz.prog 56 [Sv ((at_ list i.toNat).Label)] true (Bv true) ∧ True, (0 : Int) ≤ i ∧ i < (list.length : Int), Con Tryz.prog 57 [agBox ((at_ list i.toNat).Box)] true (Bv false) ∧ True] hB ⟨⟨(by omega), (by omega)⟩, ⟨(con_bool h2 (specIsLabel_ok ((at_ list i.toNat).Label) (ok _ (at_mem hi)))), trivial⟩, ⟨(by omega), (by omega)⟩, ⟨(con_bool h3 (l02Box_ok ((at_ list i.toNat).Box))), trivial⟩, trivial⟩ ?_
    refine ae_then ?_
    refine aw_true rfl ?_
    refine aR [] [2] [] [Bv false] [] [] hB trivial ?_
    refine aw_ret ?_
    refine ae_ret_block (ae_ret_then (ae_ret_then (ae_ret_block (ae_ret_then ?_))))
    refine ae_ret hB (Bv false) (by kernel_rfl) (.inl (by refine congrArg Bv ?_; unfold okSyms; rw [hall]; first | (simp; done) | (simp; omega))) rfl (fun _ => trivial)
   have hall : allN list.length (fun j => okSy (at_ list j)) = false := allN_not hi (by unfold okSy; rw [h2]; rfl)
   refine aw_r [(5, .call [(true, .any)] true (Bv false))] [0, 3, 25] [] [slSymbol false list, I i, Bv true] [] [(0 : Int) ≤ i ∧ i < (list.length : Int), Con Tryz.prog 56 [Sv ((at_ list i.toNat).Label)] true (Bv false) ∧ True] hB ⟨⟨(by omega), (by omega)⟩, ⟨(con_bool h2 (specIsLabel_ok ((at_ list i.toNat).Label) (ok _ (at_mem hi)))), trivial⟩, trivial⟩ ?_
   refine ae_then ?_
   refine aw_true rfl ?_
   refine aR [] [2] [] [Bv false] [] [] hB trivial ?_
   refine aw_ret ?_
   refine ae_ret_block (ae_ret_then (ae_ret_then (ae_ret_block (ae_ret_then ?_))))
   refine ae_ret hB (Bv false) (by kernel_rfl) (.inl (by refine congrArg Bv ?_; unfold okSyms; rw [hall]; first | (simp; done) | (simp; omega))) rfl (fun _ => trivial)
  have hall : allN list.length (fun j => okSy (at_ list j)) = true := allN_at (fun j hj => hall0 j (by omega))
  refine aw_r [(3, .dec false)] [0, 3, 7] [] [slSymbol false list, I i, Bv false] [] [¬ (i < (list.length : Int))] hB ⟨h1, trivial⟩ ?_
  refine ae_then ?_
  refine aw_false rfl ?_
  refine aw_exit ?_
  refine ae_exit_then ?_
  refine ae_exit_then ?_
  refine ae_exit_same ?_
  refine ae_then ?_
  refine aR [] [2] [] [Bv (decide ((list.length : Int) ≤ 8))] [] [] hB trivial ?_
  refine aw_ret ?_
  refine ae_ret hB (Bv (decide ((list.length : Int) ≤ 8))) (by kernel_rfl) (.inl (by refine congrArg Bv ?_; unfold okSyms; rw [hall]; first | (simp; done) | (simp; omega))) rfl (fun _ => trivial)


end Go.Proofs.YtlkfodajddkomaaGreatDoor.Ax
