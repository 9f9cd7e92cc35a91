/- Contracts that the statement FnFiles reaches, part 1. No conditions. -/
import Derived.Test.YtecdjaknbiekkaaGreatDoorAxO
import Derived.Test.YtecdjaknbiekkaaGreatDoorShelf
import Derived.Test.YtecdjaknbiekkaaGreatDoorTie
import Derived.Test.YtecdjaknbiekkaaGreatDoorCards
import Derived.LaidMore
import Derived.Lay
import Derived.Lib.IndexBytes
import Derived.Lib.ItoaNum
import Derived.Lib.ParseIntBCases
import Derived.Lib.SplitLaws
import Derived.OpenShut
import Derived.SevenTiedAt
import Derived.Stop.Joined
import Derived.Test.YtecdjaknbiekkaaGreatDoorAxBd
import Derived.Test.YtecdjaknbiekkaaGreatDoorAxGr
import Derived.Test.YtecdjaknbiekkaaGreatDoorAxS
import Derived.Test.YtecdjaknbiekkaaGreatDoorAxY
namespace Go.Proofs.YtecdjaknbiekkaaGreatDoor.Ax
open Go.RowKit Go.ChangeShapes Go.WideShapes
set_option linter.unusedVariables false
set_option linter.unusedSimpArgs false
def cU8 (x : Int) : List AV := [.val (.int .u8 x)]
def fU8 (xs : List Int) (i : Nat) : List AV := cU8 (at_ xs i)
def slU8 (fr : Bool) (xs : List Int) : AV := .sl fr 1 xs.length (fU8 xs)
theorem tagcU8 (t : Bool) (x : Int) : taggedL t (cU8 x) := by simp [cU8, taggedL, tagged]
theorem tagU8 (t : Bool) (xs : List Int) : tagged t (slU8 t xs) := by simp only [slU8, tagged]; exact ⟨trivial, fun i _ => tagcU8 t _⟩
def cI (x : Int) : List AV := [I x]
def fI (xs : List Int) (i : Nat) : List AV := cI (at_ xs i)
def slI (fr : Bool) (xs : List Int) : AV := .sl fr 1 xs.length (fI xs)
theorem tagcI (t : Bool) (x : Int) : taggedL t (cI x) := by simp [cI, taggedL, tagged]
theorem tagI (t : Bool) (xs : List Int) : tagged t (slI t xs) := by simp only [slI, tagged]; exact ⟨trivial, fun i _ => tagcI t _⟩
abbrev tAI (xs : List Int) : Ob := .arr 1 xs.length (fI xs)
structure Point where
  X : Int
  Y : Int
  T : Int
deriving DecidableEq, Inhabited
def cPoint (x : Point) : List AV := [I x.X, I x.Y, I x.T]
def fPoint (xs : List Point) (i : Nat) : List AV := cPoint (at_ xs i)
def slPoint (fr : Bool) (xs : List Point) : AV := .sl fr 3 xs.length (fPoint xs)
theorem tagcPoint (t : Bool) (x : Point) : taggedL t (cPoint x) := by simp [cPoint, taggedL, tagged]
theorem tagPoint (t : Bool) (xs : List Point) : tagged t (slPoint t xs) := by simp only [slPoint, tagged]; exact ⟨trivial, fun i _ => tagcPoint t _⟩
abbrev bxPoint (x : Point) : Ob := .box [I x.X, I x.Y, I x.T]
abbrev agPoint (x : Point) : AV := .agg [I x.X, I x.Y, I x.T]
abbrev tAPoint (xs : List Point) : Ob := .arr 3 xs.length (fPoint xs)
structure Stroke where
  Points : List Point
deriving DecidableEq, Inhabited
def cStroke (fr : Bool) (x : Stroke) : List AV := [slPoint fr x.Points]
def fStroke (fr : Bool) (xs : List Stroke) (i : Nat) : List AV := cStroke fr (at_ xs i)
def slStroke (fr : Bool) (xs : List Stroke) : AV := .sl fr 1 xs.length (fStroke fr xs)
theorem tagcStroke (t : Bool) (x : Stroke) : taggedL t (cStroke t x) := by simp [cStroke, taggedL, tagged, tagPoint]
theorem tagStroke (t : Bool) (xs : List Stroke) : tagged t (slStroke t xs) := by simp only [slStroke, tagged]; exact ⟨trivial, fun i _ => tagcStroke t _⟩
theorem idsStroke (fr : Bool) (x : Stroke) : AV.idsL (cStroke fr x) = [] := rfl
theorem leStroke (fr : Bool) (x : Stroke) (ob : Nat → Option Ob) : leL ob false (cStroke fr x) (cStroke false x) := (And.intro (And.intro (fun h => by cases h) (And.intro rfl (And.intro rfl (fun i _ => .inl rfl)))) rfl)
abbrev tAStroke (fr : Bool) (xs : List Stroke) : Ob := .arr 1 xs.length (fStroke fr xs)
structure Ink where
  Strokes : List Stroke
deriving DecidableEq, Inhabited
def cLU8 (fr : Bool) (x : List Int) : List AV := [slU8 fr x]
structure l00Src where
  code : List Int
  atx : Int
  seed : Int
deriving DecidableEq, Inhabited
abbrev bxl00Src (x : l00Src) : Ob := .box [slU8 false x.code, I x.atx, .val (.int .u64 x.seed)]
def cS (x : ByteArray) : List AV := [Sv x]
def fS (xs : List ByteArray) (i : Nat) : List AV := cS (at_ xs i)
def slS (fr : Bool) (xs : List ByteArray) : AV := .sl fr 1 xs.length (fS xs)
theorem tagcS (t : Bool) (x : ByteArray) : taggedL t (cS x) := by simp [cS, taggedL, tagged]
theorem tagS (t : Bool) (xs : List ByteArray) : tagged t (slS t xs) := by simp only [slS, tagged]; exact ⟨trivial, fun i _ => tagcS t _⟩
abbrev tAS (xs : List ByteArray) : Ob := .arr 1 xs.length (fS xs)
structure Channel where
  Name : ByteArray
  Unit : ByteArray
  Low : Int
  High : Int
deriving DecidableEq, Inhabited
def cChannel (x : Channel) : List AV := [Sv x.Name, Sv x.Unit, I x.Low, I x.High]
def fChannel (xs : List Channel) (i : Nat) : List AV := cChannel (at_ xs i)
def slChannel (fr : Bool) (xs : List Channel) : AV := .sl fr 4 xs.length (fChannel xs)
theorem tagcChannel (t : Bool) (x : Channel) : taggedL t (cChannel x) := by simp [cChannel, taggedL, tagged]
theorem tagChannel (t : Bool) (xs : List Channel) : tagged t (slChannel t xs) := by simp only [slChannel, tagged]; exact ⟨trivial, fun i _ => tagcChannel t _⟩
abbrev bxChannel (x : Channel) : Ob := .box [Sv x.Name, Sv x.Unit, I x.Low, I x.High]
abbrev agChannel (x : Channel) : AV := .agg [Sv x.Name, Sv x.Unit, I x.Low, I x.High]
abbrev tAChannel (xs : List Channel) : Ob := .arr 4 xs.length (fChannel xs)
def cLI (fr : Bool) (x : List Int) : List AV := [slI fr x]
def fLI (fr : Bool) (xs : List (List Int)) (i : Nat) : List AV := cLI fr (at_ xs i)
def slLI (fr : Bool) (xs : List (List Int)) : AV := .sl fr 1 xs.length (fLI fr xs)
theorem tagcLI (t : Bool) (x : List Int) : taggedL t (cLI t x) := by simp [cLI, taggedL, tagged, tagI]
theorem tagLI (t : Bool) (xs : List (List Int)) : tagged t (slLI t xs) := by simp only [slLI, tagged]; exact ⟨trivial, fun i _ => tagcLI t _⟩
theorem idsLI (fr : Bool) (x : List Int) : AV.idsL (cLI fr x) = [] := rfl
theorem leLI (fr : Bool) (x : List Int) (ob : Nat → Option Ob) : leL ob false (cLI fr x) (cLI false x) := (And.intro (And.intro (fun h => by cases h) (And.intro rfl (And.intro rfl (fun i _ => .inl rfl)))) rfl)
structure Rows where
  Values : List (List Int)
deriving DecidableEq, Inhabited
def cRows (fr : Bool) (x : Rows) : List AV := [slLI fr x.Values]
def fRows (fr : Bool) (xs : List Rows) (i : Nat) : List AV := cRows fr (at_ xs i)
def slRows (fr : Bool) (xs : List Rows) : AV := .sl fr 1 xs.length (fRows fr xs)
theorem tagcRows (t : Bool) (x : Rows) : taggedL t (cRows t x) := by simp [cRows, taggedL, tagged, tagLI]
theorem tagRows (t : Bool) (xs : List Rows) : tagged t (slRows t xs) := by simp only [slRows, tagged]; exact ⟨trivial, fun i _ => tagcRows t _⟩
theorem idsRows (fr : Bool) (x : Rows) : AV.idsL (cRows fr x) = [] := rfl
theorem leRows (fr : Bool) (x : Rows) (ob : Nat → Option Ob) : leL ob false (cRows fr x) (cRows false x) := (And.intro (And.intro (fun h => by cases h) (And.intro rfl (And.intro rfl (fun i _ => .inr ⟨idsLI _ _, leLI _ _ _⟩)))) rfl)
abbrev tARows (fr : Bool) (xs : List Rows) : Ob := .arr 1 xs.length (fRows fr xs)
structure Note where
  From : Int
  To : Int
  Text : ByteArray
deriving DecidableEq, Inhabited
def cNote (x : Note) : List AV := [I x.From, I x.To, Sv x.Text]
def fNote (xs : List Note) (i : Nat) : List AV := cNote (at_ xs i)
def slNote (fr : Bool) (xs : List Note) : AV := .sl fr 3 xs.length (fNote xs)
theorem tagcNote (t : Bool) (x : Note) : taggedL t (cNote x) := by simp [cNote, taggedL, tagged]
theorem tagNote (t : Bool) (xs : List Note) : tagged t (slNote t xs) := by simp only [slNote, tagged]; exact ⟨trivial, fun i _ => tagcNote t _⟩
abbrev bxNote (x : Note) : Ob := .box [I x.From, I x.To, Sv x.Text]
abbrev agNote (x : Note) : AV := .agg [I x.From, I x.To, Sv x.Text]
abbrev tANote (xs : List Note) : Ob := .arr 3 xs.length (fNote xs)
structure File where
  Channels : List Channel
  Strokes : List Rows
  Notes : List Note
deriving DecidableEq, Inhabited
abbrev bxFile (x : File) : Ob := .box [slChannel false x.Channels, slRows false x.Strokes, slNote false x.Notes]
abbrev agFile (x : File) : AV := .agg [slChannel false x.Channels, slRows false x.Strokes, slNote false x.Notes]
abbrev bxFileT (x : File) : Ob := .box [slChannel true x.Channels, slRows true x.Strokes, slNote true x.Notes]
abbrev agFileT (x : File) : AV := .agg [slChannel true x.Channels, slRows true x.Strokes, slNote true x.Notes]
theorem a2Long_ok (code : List Int) (more : List Int) : Con Tryz.prog 5 [slU8 false code, slU8 false more] true (Bv (decide (3000 < (code.length : Int) ∨ 3000 < (more.length : Int)))) := by
  refine fn_ok (fn := Tryz.f5) (nt := 13) Tryz.func5 rfl rfl rfl rfl (by simp [taggedL, tagged, tagU8]) fun B hB => ?_
  refine aw_lens (x := slU8 false code) 0 rfl (fun len_code => ?_)
  simp [LenOK, LenL, cU8, fU8, slU8] at len_code
  refine aw_lens (x := slU8 false more) 1 rfl (fun len_more => ?_)
  simp [LenOK, LenL, cU8, fU8, slU8] at len_more
  refine aR [] [0, 1] [] [slU8 false code, slU8 false more] [] [] hB trivial ?_
  refine aw_seq ?_
  by_cases h1 : 3000 < (code.length : Int)
  ·refine aw_r [(2, .dec true)] [4] [] [Bv true] [] [3000 < (code.length : Int)] hB ⟨h1, trivial⟩ ?_
   refine ae_then ?_
   refine aw_ret ?_
   refine ae_ret hB (Bv true) (by kernel_rfl) (.inl (by refine congrArg Bv ?_; simp [*])) rfl (fun _ => trivial)
  refine aw_r [(2, .dec false)] [4] [] [Bv (decide (3000 < (more.length : Int)))] [] [¬ (3000 < (code.length : Int))] hB ⟨h1, trivial⟩ ?_
  refine ae_then ?_
  refine aw_ret ?_
  refine ae_ret hB (Bv (decide (3000 < (more.length : Int)))) (by kernel_rfl) (.inl (by refine congrArg Bv ?_; simp [*])) rfl (fun _ => trivial)
def same {α : Type} [DecidableEq α] (x y : α) : Bool := decide (x = y)
theorem at_mem {α : Type} [Inhabited α] {xs : List α} {i : Nat} (h : i < xs.length) : at_ xs i ∈ xs := by rw [at_eq h]; exact List.getElem_mem h
def allN (n : Nat) (p : Nat → Bool) : Bool := (List.range n).all p
theorem allN_iff {n : Nat} {p : Nat → Bool} : allN n p = true ↔ ∀ j, j < n → p j = true := by simp [allN, List.all_eq_true]
theorem allN_at {n : Nat} {p : Nat → Bool} (h : ∀ j, j < n → p j = true) : allN n p = true := allN_iff.2 h
theorem allN_get {n : Nat} {p : Nat → Bool} (h : allN n p = true) {k : Nat} (hk : k < n) : p k = true := allN_iff.1 h k hk
theorem allN_not {n : Nat} {p : Nat → Bool} {k : Nat} (hk : k < n) (h : p k = false) : allN n p = false := by
  rw [← Bool.not_eq_true, allN_iff]; intro h'; rw [h' k hk] at h; cases h
def okSrc (s : l00Src) : Prop := (∀ j, j < s.code.length → 0 ≤ at_ s.code j ∧ at_ s.code j ≤ 255) ∧ 0 ≤ s.atx ∧ s.code.length ≤ 4611686018427387904
theorem and_255 (a : Int) : 0 ≤ bitsI .and .u64 a 255 ∧ bitsI .and .u64 a 255 ≤ 255 := by
  obtain ⟨n, hn⟩ : ∃ n : Nat, n = (BitVec.ofInt 64 a &&& BitVec.ofInt 64 255).toNat := ⟨_, rfl⟩
  have h : n ≤ 255 := by rw [hn, BitVec.toNat_and]; exact Nat.and_le_right
  have e : bitsI .and .u64 a 255 = IntKind.u64.wrap (n : Int) := by rw [hn]; rfl
  have w : IntKind.u64.wrap (n : Int) = n := wrap_in (inR_u64 (by omega) (by omega))
  rw [e, w]; omega
theorem l00From_ok (code : List Int) : ∃ (s' : l00Src), (s'.code = code ∧ s'.atx = 0) ∧ CallOK Tryz.prog 27 [slU8 false code] (lookO []) false (.ref 7001 0) (lookO [(7001, bxl00Src s')]) := by
  have hh : ∃ r : l00Src, ((r.code = code ∧ r.atx = 0) ∧ (True)) ∧ CallOK Tryz.prog 27 [slU8 false code] (lookO []) false (.ref 7001 0) (lookO [(7001, bxl00Src r)]) := by
    refine fn_okX (Φ := fun r : l00Src => (r.code = code ∧ r.atx = 0) ∧ (True)) [] (fun r => [(7001, bxl00Src r)]) (fn := Tryz.f27) (nt := 6) Tryz.func27 rfl rfl (args := [slU8 false code]) rfl (allcons (.inl ⟨rfl, tagU8 false _⟩) allnil) (res := fun r => .ref 7001 0) ?_
    refine xR [] [0] [] [slU8 false code] [] [] trivial ?_
    refine xR [(2, .new 7001)] [2] [7001] [.ref 7001 0] [some (.box [slU8 false code, I 0, .val (.int .u64 0)])] [] trivial ?_
    refine x_ret ?_
    refine xe_end (l00Src.mk code 0 0) (show ((l00Src.mk code 0 0).code = code ∧ (l00Src.mk code 0 0).atx = 0) ∧ (True) from ⟨(by first | rfl | (exact ⟨rfl, rfl⟩)), trivial⟩) (⟨.inl rfl, trivial⟩) (.ref 7001 0) (by kernel_rfl) (.inl rfl) (fun h => by cases h) (fun h => by cases h)
  obtain ⟨s', ⟨hh0, _⟩, hc⟩ := hh
  exact ⟨s', hh0, hc⟩
theorem next_ok (s : l00Src) (hs : okSrc s) (ha : s.atx ≤ 4000000000000000000) : ∃ (v : Int) (s' : l00Src), (0 ≤ v ∧ v ≤ 255) ∧ (okSrc s') ∧ (s'.code = s.code) ∧ (s.atx + 1 ≤ s'.atx ∧ s'.atx ≤ s.atx + 1) ∧ CallOK Tryz.prog 103 [.ref 7001 0] (lookO [(7001, bxl00Src s)]) true (I v) (lookO [(7001, bxl00Src s')]) := by
  have hs0 := hs.2.1
  have hs1 := hs.2.2
  have hh : ∃ r : Int × l00Src, ((0 ≤ r.1 ∧ r.1 ≤ 255) ∧ (okSrc r.2) ∧ (r.2.code = s.code) ∧ (s.atx + 1 ≤ r.2.atx ∧ r.2.atx ≤ s.atx + 1) ∧ (True)) ∧ CallOK Tryz.prog 103 [.ref 7001 0] (lookO [(7001, bxl00Src s)]) true (I r.1) (lookO [(7001, bxl00Src r.2)]) := by
    refine fn_okX (Φ := fun r : Int × l00Src => (0 ≤ r.1 ∧ r.1 ≤ 255) ∧ (okSrc r.2) ∧ (r.2.code = s.code) ∧ (s.atx + 1 ≤ r.2.atx ∧ r.2.atx ≤ s.atx + 1) ∧ (True)) [(7001, bxl00Src s)] (fun r => [(7001, bxl00Src r.2)]) (fn := Tryz.f103) (nt := 62) Tryz.func103 rfl rfl (args := [.ref 7001 0]) rfl (allcons (.inr trivial) allnil) (res := fun r => I r.1) ?_
    refine xR [] [0] [7001] [.ref 7001 0] [some (bxl00Src s)] [] trivial ?_
    refine xR [] [0, 3] [7001] [.ref 7001 0, I 0] [some (bxl00Src s)] [] trivial ?_
    refine x_seq ?_
    refine x_seq ?_
    by_cases h1 : s.atx < (s.code.length : Int)
    ·have hbt := hs.1 s.atx.toNat (by omega)
     refine x_r [(9, .dec true)] [0, 3, 13] [7001] [.ref 7001 0, I 0, Bv true] [some (bxl00Src s)] [s.atx < (s.code.length : Int)] ⟨h1, trivial⟩ ?_
     refine xe_then ?_
     refine x_true rfl ?_
     refine x_r [] [0, 3] [7001] [.ref 7001 0, I (at_ s.code s.atx.toNat)] [some (bxl00Src s)] [(0 : Int) ≤ s.atx ∧ s.atx < (s.code.length : Int), inR .i64 (at_ s.code s.atx.toNat)] ⟨⟨(by omega), (by omega)⟩, (inR_i64 (by omega) (by omega)), trivial⟩ ?_
     refine xe_then ?_
     refine xR [] [0, 3] [7001] [.ref 7001 0, I (at_ s.code s.atx.toNat)] [some (.box [slU8 false s.code, I (s.atx + 1), .val (.int .u64 s.seed)])] [inR .i64 (s.atx + 1)] ⟨(inR_i64 (by omega) (by omega)), trivial⟩ ?_
     refine xR [(5, .wrap), (8, .wrap), (9, .wrap)] [0, 3] [7001] [.ref 7001 0, I (at_ s.code s.atx.toNat)] [some (.box [slU8 false s.code, I (s.atx + 1), .val (.int .u64 (IntKind.u64.wrap ((IntKind.u64.wrap ((IntKind.u64.wrap (s.seed * 6364136223846793005)) + (at_ s.code s.atx.toNat))) + 1442695040888963407)))])] [inR .u64 (at_ s.code s.atx.toNat)] ⟨(inR_u64 (by omega) (by omega)), trivial⟩ ?_
     refine x_seq ?_
     refine x_seq ?_
     by_cases h2 : (s.atx + 1) ≤ (s.code.length : Int)
     ·refine x_r [(9, .dec true)] [0, 3, 53] [7001] [.ref 7001 0, I (at_ s.code s.atx.toNat), Bv true] [some (.box [slU8 false s.code, I (s.atx + 1), .val (.int .u64 (IntKind.u64.wrap ((IntKind.u64.wrap ((IntKind.u64.wrap (s.seed * 6364136223846793005)) + (at_ s.code s.atx.toNat))) + 1442695040888963407)))])] [(s.atx + 1) ≤ (s.code.length : Int)] ⟨h2, trivial⟩ ?_
      refine xe_then ?_
      refine x_true rfl ?_
      refine xR [] [2] [7001] [I (at_ s.code s.atx.toNat)] [some (.box [slU8 false s.code, I (s.atx + 1), .val (.int .u64 (IntKind.u64.wrap ((IntKind.u64.wrap ((IntKind.u64.wrap (s.seed * 6364136223846793005)) + (at_ s.code s.atx.toNat))) + 1442695040888963407)))])] [] trivial ?_
      refine x_ret ?_
      refine xe_ret_then ?_
      refine xe_end ((at_ s.code s.atx.toNat), (l00Src.mk s.code (s.atx + 1) (IntKind.u64.wrap ((IntKind.u64.wrap ((IntKind.u64.wrap (s.seed * 6364136223846793005)) + (at_ s.code s.atx.toNat))) + 1442695040888963407)))) (show (0 ≤ (at_ s.code s.atx.toNat) ∧ (at_ s.code s.atx.toNat) ≤ 255) ∧ (okSrc (l00Src.mk s.code (s.atx + 1) (IntKind.u64.wrap ((IntKind.u64.wrap ((IntKind.u64.wrap (s.seed * 6364136223846793005)) + (at_ s.code s.atx.toNat))) + 1442695040888963407)))) ∧ ((l00Src.mk s.code (s.atx + 1) (IntKind.u64.wrap ((IntKind.u64.wrap ((IntKind.u64.wrap (s.seed * 6364136223846793005)) + (at_ s.code s.atx.toNat))) + 1442695040888963407))).code = s.code) ∧ (s.atx + 1 ≤ (l00Src.mk s.code (s.atx + 1) (IntKind.u64.wrap ((IntKind.u64.wrap ((IntKind.u64.wrap (s.seed * 6364136223846793005)) + (at_ s.code s.atx.toNat))) + 1442695040888963407))).atx ∧ (l00Src.mk s.code (s.atx + 1) (IntKind.u64.wrap ((IntKind.u64.wrap ((IntKind.u64.wrap (s.seed * 6364136223846793005)) + (at_ s.code s.atx.toNat))) + 1442695040888963407))).atx ≤ s.atx + 1) ∧ (True) from ⟨(by first | omega | rfl | assumption | (dsimp only; first | omega | rfl | assumption) | (simp only [*]; done) | exact ⟨hs.1, (by dsimp only; omega), hs1⟩), (by first | omega | rfl | assumption | (dsimp only; first | omega | rfl | assumption) | (simp only [*]; done) | exact ⟨hs.1, (by dsimp only; omega), hs1⟩), (by first | omega | rfl | assumption | (dsimp only; first | omega | rfl | assumption) | (simp only [*]; done) | exact ⟨hs.1, (by dsimp only; omega), hs1⟩), (by first | omega | rfl | assumption | (dsimp only; first | omega | rfl | assumption) | (simp only [*]; done) | exact ⟨hs.1, (by dsimp only; omega), hs1⟩), trivial⟩) (⟨.inl rfl, trivial⟩) (I (at_ s.code s.atx.toNat)) (by kernel_rfl) (.inl rfl) (fun _ => rfl) (fun _ => trivial)
     refine x_r [(9, .dec false)] [0, 3, 53] [7001] [.ref 7001 0, I (at_ s.code s.atx.toNat), Bv false] [some (.box [slU8 false s.code, I (s.atx + 1), .val (.int .u64 (IntKind.u64.wrap ((IntKind.u64.wrap ((IntKind.u64.wrap (s.seed * 6364136223846793005)) + (at_ s.code s.atx.toNat))) + 1442695040888963407)))])] [¬ ((s.atx + 1) ≤ (s.code.length : Int))] ⟨h2, trivial⟩ ?_
     refine xe_then ?_
     refine x_false rfl ?_
     refine x_skip ?_
     refine xe_then ?_
     refine x_seq ?_
     have hb1 := and_255 ((IntKind.u64.wrap ((IntKind.u64.wrap ((IntKind.u64.wrap (s.seed * 6364136223846793005)) + (at_ s.code s.atx.toNat))) + 1442695040888963407)) / 1099511627776)
     refine x_r [] [2] [7001] [I (bitsI .and .u64 ((IntKind.u64.wrap ((IntKind.u64.wrap ((IntKind.u64.wrap (s.seed * 6364136223846793005)) + (at_ s.code s.atx.toNat))) + 1442695040888963407)) / 1099511627776) 255)] [some (.box [slU8 false s.code, I (s.atx + 1), .val (.int .u64 (IntKind.u64.wrap ((IntKind.u64.wrap ((IntKind.u64.wrap (s.seed * 6364136223846793005)) + (at_ s.code s.atx.toNat))) + 1442695040888963407)))])] [(0 : Int) ≤ 40 ∧ (40 : Int) ≤ ((IntKind.bits .u64 : Nat) : Int), inR .i64 (bitsI .and .u64 ((IntKind.u64.wrap ((IntKind.u64.wrap ((IntKind.u64.wrap (s.seed * 6364136223846793005)) + (at_ s.code s.atx.toNat))) + 1442695040888963407)) / 1099511627776) 255)] ⟨⟨(by decide), (by decide)⟩, (inR_i64 (by omega) (by omega)), trivial⟩ ?_
     refine xe_then ?_
     refine x_ret ?_
     refine xe_end ((bitsI .and .u64 ((IntKind.u64.wrap ((IntKind.u64.wrap ((IntKind.u64.wrap (s.seed * 6364136223846793005)) + (at_ s.code s.atx.toNat))) + 1442695040888963407)) / 1099511627776) 255), (l00Src.mk s.code (s.atx + 1) (IntKind.u64.wrap ((IntKind.u64.wrap ((IntKind.u64.wrap (s.seed * 6364136223846793005)) + (at_ s.code s.atx.toNat))) + 1442695040888963407)))) (show (0 ≤ (bitsI .and .u64 ((IntKind.u64.wrap ((IntKind.u64.wrap ((IntKind.u64.wrap (s.seed * 6364136223846793005)) + (at_ s.code s.atx.toNat))) + 1442695040888963407)) / 1099511627776) 255) ∧ (bitsI .and .u64 ((IntKind.u64.wrap ((IntKind.u64.wrap ((IntKind.u64.wrap (s.seed * 6364136223846793005)) + (at_ s.code s.atx.toNat))) + 1442695040888963407)) / 1099511627776) 255) ≤ 255) ∧ (okSrc (l00Src.mk s.code (s.atx + 1) (IntKind.u64.wrap ((IntKind.u64.wrap ((IntKind.u64.wrap (s.seed * 6364136223846793005)) + (at_ s.code s.atx.toNat))) + 1442695040888963407)))) ∧ ((l00Src.mk s.code (s.atx + 1) (IntKind.u64.wrap ((IntKind.u64.wrap ((IntKind.u64.wrap (s.seed * 6364136223846793005)) + (at_ s.code s.atx.toNat))) + 1442695040888963407))).code = s.code) ∧ (s.atx + 1 ≤ (l00Src.mk s.code (s.atx + 1) (IntKind.u64.wrap ((IntKind.u64.wrap ((IntKind.u64.wrap (s.seed * 6364136223846793005)) + (at_ s.code s.atx.toNat))) + 1442695040888963407))).atx ∧ (l00Src.mk s.code (s.atx + 1) (IntKind.u64.wrap ((IntKind.u64.wrap ((IntKind.u64.wrap (s.seed * 6364136223846793005)) + (at_ s.code s.atx.toNat))) + 1442695040888963407))).atx ≤ s.atx + 1) ∧ (True) from ⟨(by first | omega | rfl | assumption | (dsimp only; first | omega | rfl | assumption) | (simp only [*]; done) | exact ⟨hs.1, (by dsimp only; omega), hs1⟩), (by first | omega | rfl | assumption | (dsimp only; first | omega | rfl | assumption) | (simp only [*]; done) | exact ⟨hs.1, (by dsimp only; omega), hs1⟩), (by first | omega | rfl | assumption | (dsimp only; first | omega | rfl | assumption) | (simp only [*]; done) | exact ⟨hs.1, (by dsimp only; omega), hs1⟩), (by first | omega | rfl | assumption | (dsimp only; first | omega | rfl | assumption) | (simp only [*]; done) | exact ⟨hs.1, (by dsimp only; omega), hs1⟩), trivial⟩) (⟨.inl rfl, trivial⟩) (I (bitsI .and .u64 ((IntKind.u64.wrap ((IntKind.u64.wrap ((IntKind.u64.wrap (s.seed * 6364136223846793005)) + (at_ s.code s.atx.toNat))) + 1442695040888963407)) / 1099511627776) 255)) (by kernel_rfl) (.inl rfl) (fun _ => rfl) (fun _ => trivial)
    refine x_r [(9, .dec false)] [0, 3, 13] [7001] [.ref 7001 0, I 0, Bv false] [some (bxl00Src s)] [¬ (s.atx < (s.code.length : Int))] ⟨h1, trivial⟩ ?_
    refine xe_then ?_
    refine x_false rfl ?_
    refine x_skip ?_
    refine xe_then ?_
    refine xR [] [0, 3] [7001] [.ref 7001 0, I 0] [some (.box [slU8 false s.code, I (s.atx + 1), .val (.int .u64 s.seed)])] [inR .i64 (s.atx + 1)] ⟨(inR_i64 (by omega) (by omega)), trivial⟩ ?_
    refine xR [(5, .wrap), (8, .wrap), (9, .wrap)] [0, 3] [7001] [.ref 7001 0, I 0] [some (.box [slU8 false s.code, I (s.atx + 1), .val (.int .u64 (IntKind.u64.wrap ((IntKind.u64.wrap ((IntKind.u64.wrap (s.seed * 6364136223846793005)) + 0)) + 1442695040888963407)))])] [inR .u64 0] ⟨(inR_u64 (by omega) (by omega)), trivial⟩ ?_
    refine x_seq ?_
    refine x_seq ?_
    by_cases h3 : (s.atx + 1) ≤ (s.code.length : Int)
    ·refine x_r [(9, .dec true)] [0, 3, 53] [7001] [.ref 7001 0, I 0, Bv true] [some (.box [slU8 false s.code, I (s.atx + 1), .val (.int .u64 (IntKind.u64.wrap ((IntKind.u64.wrap ((IntKind.u64.wrap (s.seed * 6364136223846793005)) + 0)) + 1442695040888963407)))])] [(s.atx + 1) ≤ (s.code.length : Int)] ⟨h3, trivial⟩ ?_
     refine xe_then ?_
     refine x_true rfl ?_
     refine xR [] [2] [7001] [I 0] [some (.box [slU8 false s.code, I (s.atx + 1), .val (.int .u64 (IntKind.u64.wrap ((IntKind.u64.wrap ((IntKind.u64.wrap (s.seed * 6364136223846793005)) + 0)) + 1442695040888963407)))])] [] trivial ?_
     refine x_ret ?_
     refine xe_ret_then ?_
     refine xe_end (0, (l00Src.mk s.code (s.atx + 1) (IntKind.u64.wrap ((IntKind.u64.wrap ((IntKind.u64.wrap (s.seed * 6364136223846793005)) + 0)) + 1442695040888963407)))) (show (0 ≤ 0 ∧ 0 ≤ 255) ∧ (okSrc (l00Src.mk s.code (s.atx + 1) (IntKind.u64.wrap ((IntKind.u64.wrap ((IntKind.u64.wrap (s.seed * 6364136223846793005)) + 0)) + 1442695040888963407)))) ∧ ((l00Src.mk s.code (s.atx + 1) (IntKind.u64.wrap ((IntKind.u64.wrap ((IntKind.u64.wrap (s.seed * 6364136223846793005)) + 0)) + 1442695040888963407))).code = s.code) ∧ (s.atx + 1 ≤ (l00Src.mk s.code (s.atx + 1) (IntKind.u64.wrap ((IntKind.u64.wrap ((IntKind.u64.wrap (s.seed * 6364136223846793005)) + 0)) + 1442695040888963407))).atx ∧ (l00Src.mk s.code (s.atx + 1) (IntKind.u64.wrap ((IntKind.u64.wrap ((IntKind.u64.wrap (s.seed * 6364136223846793005)) + 0)) + 1442695040888963407))).atx ≤ s.atx + 1) ∧ (True) from ⟨(by first | omega | rfl | assumption | (dsimp only; first | omega | rfl | assumption) | (simp only [*]; done) | exact ⟨hs.1, (by dsimp only; omega), hs1⟩), (by first | omega | rfl | assumption | (dsimp only; first | omega | rfl | assumption) | (simp only [*]; done) | exact ⟨hs.1, (by dsimp only; omega), hs1⟩), (by first | omega | rfl | assumption | (dsimp only; first | omega | rfl | assumption) | (simp only [*]; done) | exact ⟨hs.1, (by dsimp only; omega), hs1⟩), (by first | omega | rfl | assumption | (dsimp only; first | omega | rfl | assumption) | (simp only [*]; done) | exact ⟨hs.1, (by dsimp only; omega), hs1⟩), trivial⟩) (⟨.inl rfl, trivial⟩) (I 0) (by kernel_rfl) (.inl rfl) (fun _ => rfl) (fun _ => trivial)
    refine x_r [(9, .dec false)] [0, 3, 53] [7001] [.ref 7001 0, I 0, Bv false] [some (.box [slU8 false s.code, I (s.atx + 1), .val (.int .u64 (IntKind.u64.wrap ((IntKind.u64.wrap ((IntKind.u64.wrap (s.seed * 6364136223846793005)) + 0)) + 1442695040888963407)))])] [¬ ((s.atx + 1) ≤ (s.code.length : Int))] ⟨h3, trivial⟩ ?_
    refine xe_then ?_
    refine x_false rfl ?_
    refine x_skip ?_
    refine xe_then ?_
    refine x_seq ?_
    have hb2 := and_255 ((IntKind.u64.wrap ((IntKind.u64.wrap ((IntKind.u64.wrap (s.seed * 6364136223846793005)) + 0)) + 1442695040888963407)) / 1099511627776)
    refine x_r [] [2] [7001] [I (bitsI .and .u64 ((IntKind.u64.wrap ((IntKind.u64.wrap ((IntKind.u64.wrap (s.seed * 6364136223846793005)) + 0)) + 1442695040888963407)) / 1099511627776) 255)] [some (.box [slU8 false s.code, I (s.atx + 1), .val (.int .u64 (IntKind.u64.wrap ((IntKind.u64.wrap ((IntKind.u64.wrap (s.seed * 6364136223846793005)) + 0)) + 1442695040888963407)))])] [(0 : Int) ≤ 40 ∧ (40 : Int) ≤ ((IntKind.bits .u64 : Nat) : Int), inR .i64 (bitsI .and .u64 ((IntKind.u64.wrap ((IntKind.u64.wrap ((IntKind.u64.wrap (s.seed * 6364136223846793005)) + 0)) + 1442695040888963407)) / 1099511627776) 255)] ⟨⟨(by decide), (by decide)⟩, (inR_i64 (by omega) (by omega)), trivial⟩ ?_
    refine xe_then ?_
    refine x_ret ?_
    refine xe_end ((bitsI .and .u64 ((IntKind.u64.wrap ((IntKind.u64.wrap ((IntKind.u64.wrap (s.seed * 6364136223846793005)) + 0)) + 1442695040888963407)) / 1099511627776) 255), (l00Src.mk s.code (s.atx + 1) (IntKind.u64.wrap ((IntKind.u64.wrap ((IntKind.u64.wrap (s.seed * 6364136223846793005)) + 0)) + 1442695040888963407)))) (show (0 ≤ (bitsI .and .u64 ((IntKind.u64.wrap ((IntKind.u64.wrap ((IntKind.u64.wrap (s.seed * 6364136223846793005)) + 0)) + 1442695040888963407)) / 1099511627776) 255) ∧ (bitsI .and .u64 ((IntKind.u64.wrap ((IntKind.u64.wrap ((IntKind.u64.wrap (s.seed * 6364136223846793005)) + 0)) + 1442695040888963407)) / 1099511627776) 255) ≤ 255) ∧ (okSrc (l00Src.mk s.code (s.atx + 1) (IntKind.u64.wrap ((IntKind.u64.wrap ((IntKind.u64.wrap (s.seed * 6364136223846793005)) + 0)) + 1442695040888963407)))) ∧ ((l00Src.mk s.code (s.atx + 1) (IntKind.u64.wrap ((IntKind.u64.wrap ((IntKind.u64.wrap (s.seed * 6364136223846793005)) + 0)) + 1442695040888963407))).code = s.code) ∧ (s.atx + 1 ≤ (l00Src.mk s.code (s.atx + 1) (IntKind.u64.wrap ((IntKind.u64.wrap ((IntKind.u64.wrap (s.seed * 6364136223846793005)) + 0)) + 1442695040888963407))).atx ∧ (l00Src.mk s.code (s.atx + 1) (IntKind.u64.wrap ((IntKind.u64.wrap ((IntKind.u64.wrap (s.seed * 6364136223846793005)) + 0)) + 1442695040888963407))).atx ≤ s.atx + 1) ∧ (True) from ⟨(by first | omega | rfl | assumption | (dsimp only; first | omega | rfl | assumption) | (simp only [*]; done) | exact ⟨hs.1, (by dsimp only; omega), hs1⟩), (by first | omega | rfl | assumption | (dsimp only; first | omega | rfl | assumption) | (simp only [*]; done) | exact ⟨hs.1, (by dsimp only; omega), hs1⟩), (by first | omega | rfl | assumption | (dsimp only; first | omega | rfl | assumption) | (simp only [*]; done) | exact ⟨hs.1, (by dsimp only; omega), hs1⟩), (by first | omega | rfl | assumption | (dsimp only; first | omega | rfl | assumption) | (simp only [*]; done) | exact ⟨hs.1, (by dsimp only; omega), hs1⟩), trivial⟩) (⟨.inl rfl, trivial⟩) (I (bitsI .and .u64 ((IntKind.u64.wrap ((IntKind.u64.wrap ((IntKind.u64.wrap (s.seed * 6364136223846793005)) + 0)) + 1442695040888963407)) / 1099511627776) 255)) (by kernel_rfl) (.inl rfl) (fun _ => rfl) (fun _ => trivial)
  obtain ⟨⟨v, s'⟩, ⟨hh0, hh1, hh2, hh3, _⟩, hc⟩ := hh
  exact ⟨v, s', hh0, hh1, hh2, hh3, hc⟩
theorem pick_ok (s : l00Src) (n : Int) (hs : okSrc s) (ha : s.atx ≤ 3999999999999999990) : ∃ (v : Int) (s' : l00Src), (0 ≤ v ∧ (v < n ∨ v = 0)) ∧ (okSrc s') ∧ (s'.code = s.code) ∧ (s.atx + 0 ≤ s'.atx ∧ s'.atx ≤ s.atx + 2) ∧ CallOK Tryz.prog 49 [.ref 7001 0, I n] (lookO [(7001, bxl00Src s)]) true (I v) (lookO [(7001, bxl00Src s')]) := by
  have hs0 := hs.2.1
  have hs1 := hs.2.2
  have hh : ∃ r : Int × l00Src, ((0 ≤ r.1 ∧ (r.1 < n ∨ r.1 = 0)) ∧ (okSrc r.2) ∧ (r.2.code = s.code) ∧ (s.atx + 0 ≤ r.2.atx ∧ r.2.atx ≤ s.atx + 2) ∧ (True)) ∧ CallOK Tryz.prog 49 [.ref 7001 0, I n] (lookO [(7001, bxl00Src s)]) true (I r.1) (lookO [(7001, bxl00Src r.2)]) := by
    refine fn_okX (Φ := fun r : Int × l00Src => (0 ≤ r.1 ∧ (r.1 < n ∨ r.1 = 0)) ∧ (okSrc r.2) ∧ (r.2.code = s.code) ∧ (s.atx + 0 ≤ r.2.atx ∧ r.2.atx ≤ s.atx + 2) ∧ (True)) [(7001, bxl00Src s)] (fun r => [(7001, bxl00Src r.2)]) (fn := Tryz.f49) (nt := 20) Tryz.func49 rfl rfl (args := [.ref 7001 0, I n]) rfl (allcons (.inr trivial) (allcons (.inl ⟨rfl, trivial⟩) allnil)) (res := fun r => I r.1) ?_
    refine xR [] [0, 1] [7001] [.ref 7001 0, I n] [some (bxl00Src s)] [] trivial ?_
    refine x_seq ?_
    refine x_seq ?_
    by_cases h1 : n ≤ 1
    ·refine x_r [(1, .dec true)] [0, 1, 7] [7001] [.ref 7001 0, I n, Bv true] [some (bxl00Src s)] [n ≤ 1] ⟨h1, trivial⟩ ?_
     refine xe_then ?_
     refine x_true rfl ?_
     refine xR [] [4] [7001] [I 0] [some (bxl00Src s)] [] trivial ?_
     refine x_ret ?_
     refine xe_ret_then ?_
     refine xe_end (0, s) (show (0 ≤ 0 ∧ (0 < n ∨ 0 = 0)) ∧ (okSrc s) ∧ (s.code = s.code) ∧ (s.atx + 0 ≤ s.atx ∧ s.atx ≤ s.atx + 2) ∧ (True) from ⟨(by first | omega | rfl | assumption | (dsimp only; first | omega | rfl | assumption) | (simp only [*]; done) | exact ⟨Int.emod_nonneg _ (by omega), .inl (Int.emod_lt_of_pos _ (by omega))⟩), (by first | omega | rfl | assumption | (dsimp only; first | omega | rfl | assumption) | (simp only [*]; done) | exact ⟨Int.emod_nonneg _ (by omega), .inl (Int.emod_lt_of_pos _ (by omega))⟩), (by first | omega | rfl | assumption | (dsimp only; first | omega | rfl | assumption) | (simp only [*]; done) | exact ⟨Int.emod_nonneg _ (by omega), .inl (Int.emod_lt_of_pos _ (by omega))⟩), (by first | omega | rfl | assumption | (dsimp only; first | omega | rfl | assumption) | (simp only [*]; done) | exact ⟨Int.emod_nonneg _ (by omega), .inl (Int.emod_lt_of_pos _ (by omega))⟩), trivial⟩) (⟨.inl rfl, trivial⟩) (I 0) (by kernel_rfl) (.inl rfl) (fun _ => rfl) (fun _ => trivial)
    refine x_r [(1, .dec false)] [0, 1, 7] [7001] [.ref 7001 0, I n, Bv false] [some (bxl00Src s)] [¬ (n ≤ 1)] ⟨h1, trivial⟩ ?_
    refine xe_then ?_
    refine x_false rfl ?_
    refine x_skip ?_
    refine xe_then ?_
    refine x_seq ?_
    obtain ⟨v_1, s'_1, hx1_0, hx1_1, hx1_2, hx1_3, hc1⟩ := next_ok s (by first | assumption | (simp only [okSrc] at *; simp_all; done)) (by omega)
    refine x_r [(1, .lend [(7001, bxl00Src s, bxl00Src s'_1)] [] [(true, .any)] true (I v_1))] [0, 1, 5] [7001] [.ref 7001 0, I n, I v_1] [some (bxl00Src s'_1)] [CallOK Tryz.prog 103 [.ref 7001 0] (lookO [(7001, bxl00Src s)]) true (I v_1) (lookO [(7001, bxl00Src s'_1)]) ∧ (((bxl00Src s : Ob) = bxl00Src s ∨ obLe noOb true (bxl00Src s) (bxl00Src s)) ∧ taggedO false (bxl00Src s)) ∧ True] ⟨⟨hc1, ⟨.inl rfl, (by simp [taggedO, taggedL, tagged, tagU8])⟩, trivial⟩, trivial⟩ ?_
    refine xe_then ?_
    refine x_seq ?_
    refine x_seq ?_
    by_cases h2 : 200 < n
    ·refine x_r [(1, .dec true)] [0, 1, 5, 11] [7001] [.ref 7001 0, I n, I v_1, Bv true] [some (bxl00Src s'_1)] [200 < n] ⟨h2, trivial⟩ ?_
     refine xe_then ?_
     refine x_true rfl ?_
     obtain ⟨v_2, s'_2, hx2_0, hx2_1, hx2_2, hx2_3, hc2⟩ := next_ok s'_1 (by first | assumption | (simp only [okSrc] at *; simp_all; done)) (by omega)
     refine x_r [(3, .lend [(7001, bxl00Src s'_1, bxl00Src s'_2)] [] [(true, .any)] true (I v_2))] [1, 5] [7001] [I n, I ((v_1 * 256) + v_2)] [some (bxl00Src s'_2)] [inR .i64 (v_1 * 256), CallOK Tryz.prog 103 [.ref 7001 0] (lookO [(7001, bxl00Src s'_1)]) true (I v_2) (lookO [(7001, bxl00Src s'_2)]) ∧ (((bxl00Src s'_1 : Ob) = bxl00Src s'_1 ∨ obLe noOb true (bxl00Src s'_1) (bxl00Src s'_1)) ∧ taggedO false (bxl00Src s'_1)) ∧ True, inR .i64 ((v_1 * 256) + v_2)] ⟨(inR_i64 (by omega) (by omega)), ⟨hc2, ⟨.inl rfl, (by simp [taggedO, taggedL, tagged, tagU8])⟩, trivial⟩, (inR_i64 (by omega) (by omega)), trivial⟩ ?_
     refine xe_then ?_
     refine xR [(2, .nn)] [4] [7001] [I (((v_1 * 256) + v_2) % n)] [some (bxl00Src s'_2)] [(0 : Int) ≤ ((v_1 * 256) + v_2) ∧ (0 : Int) < n] ⟨⟨(by omega), (by omega)⟩, trivial⟩ ?_
     refine x_ret ?_
     refine xe_end ((((v_1 * 256) + v_2) % n), s'_2) (show (0 ≤ (((v_1 * 256) + v_2) % n) ∧ ((((v_1 * 256) + v_2) % n) < n ∨ (((v_1 * 256) + v_2) % n) = 0)) ∧ (okSrc s'_2) ∧ (s'_2.code = s.code) ∧ (s.atx + 0 ≤ s'_2.atx ∧ s'_2.atx ≤ s.atx + 2) ∧ (True) from ⟨(by first | omega | rfl | assumption | (dsimp only; first | omega | rfl | assumption) | (simp only [*]; done) | exact ⟨Int.emod_nonneg _ (by omega), .inl (Int.emod_lt_of_pos _ (by omega))⟩), (by first | omega | rfl | assumption | (dsimp only; first | omega | rfl | assumption) | (simp only [*]; done) | exact ⟨Int.emod_nonneg _ (by omega), .inl (Int.emod_lt_of_pos _ (by omega))⟩), (by first | omega | rfl | assumption | (dsimp only; first | omega | rfl | assumption) | (simp only [*]; done) | exact ⟨Int.emod_nonneg _ (by omega), .inl (Int.emod_lt_of_pos _ (by omega))⟩), (by first | omega | rfl | assumption | (dsimp only; first | omega | rfl | assumption) | (simp only [*]; done) | exact ⟨Int.emod_nonneg _ (by omega), .inl (Int.emod_lt_of_pos _ (by omega))⟩), trivial⟩) (⟨.inl rfl, trivial⟩) (I (((v_1 * 256) + v_2) % n)) (by kernel_rfl) (.inl rfl) (fun _ => rfl) (fun _ => trivial)
    refine x_r [(1, .dec false)] [0, 1, 5, 11] [7001] [.ref 7001 0, I n, I v_1, Bv false] [some (bxl00Src s'_1)] [¬ (200 < n)] ⟨h2, trivial⟩ ?_
    refine xe_then ?_
    refine x_false rfl ?_
    refine x_skip ?_
    refine xe_then ?_
    refine xR [(2, .nn)] [4] [7001] [I (v_1 % n)] [some (bxl00Src s'_1)] [(0 : Int) ≤ v_1 ∧ (0 : Int) < n] ⟨⟨(by omega), (by omega)⟩, trivial⟩ ?_
    refine x_ret ?_
    refine xe_end ((v_1 % n), s'_1) (show (0 ≤ (v_1 % n) ∧ ((v_1 % n) < n ∨ (v_1 % n) = 0)) ∧ (okSrc s'_1) ∧ (s'_1.code = s.code) ∧ (s.atx + 0 ≤ s'_1.atx ∧ s'_1.atx ≤ s.atx + 2) ∧ (True) from ⟨(by first | omega | rfl | assumption | (dsimp only; first | omega | rfl | assumption) | (simp only [*]; done) | exact ⟨Int.emod_nonneg _ (by omega), .inl (Int.emod_lt_of_pos _ (by omega))⟩), (by first | omega | rfl | assumption | (dsimp only; first | omega | rfl | assumption) | (simp only [*]; done) | exact ⟨Int.emod_nonneg _ (by omega), .inl (Int.emod_lt_of_pos _ (by omega))⟩), (by first | omega | rfl | assumption | (dsimp only; first | omega | rfl | assumption) | (simp only [*]; done) | exact ⟨Int.emod_nonneg _ (by omega), .inl (Int.emod_lt_of_pos _ (by omega))⟩), (by first | omega | rfl | assumption | (dsimp only; first | omega | rfl | assumption) | (simp only [*]; done) | exact ⟨Int.emod_nonneg _ (by omega), .inl (Int.emod_lt_of_pos _ (by omega))⟩), trivial⟩) (⟨.inl rfl, trivial⟩) (I (v_1 % n)) (by kernel_rfl) (.inl rfl) (fun _ => rfl) (fun _ => trivial)
  obtain ⟨⟨v, s'⟩, ⟨hh0, hh1, hh2, hh3, _⟩, hc⟩ := hh
  exact ⟨v, s', hh0, hh1, hh2, hh3, hc⟩
theorem one_ok (s : l00Src) (n : Int) (hs : okSrc s) (ha : s.atx ≤ 3999999999999999980) : ∃ (v : Bool) (s' : l00Src), (okSrc s') ∧ (s'.code = s.code) ∧ (s.atx + 0 ≤ s'.atx ∧ s'.atx ≤ s.atx + 2) ∧ CallOK Tryz.prog 28 [.ref 7001 0, I n] (lookO [(7001, bxl00Src s)]) true (Bv v) (lookO [(7001, bxl00Src s')]) := by
  have hh : ∃ r : Bool × l00Src, ((okSrc r.2) ∧ (r.2.code = s.code) ∧ (s.atx + 0 ≤ r.2.atx ∧ r.2.atx ≤ s.atx + 2) ∧ (True)) ∧ CallOK Tryz.prog 28 [.ref 7001 0, I n] (lookO [(7001, bxl00Src s)]) true (Bv r.1) (lookO [(7001, bxl00Src r.2)]) := by
    refine fn_okX (Φ := fun r : Bool × l00Src => (okSrc r.2) ∧ (r.2.code = s.code) ∧ (s.atx + 0 ≤ r.2.atx ∧ r.2.atx ≤ s.atx + 2) ∧ (True)) [(7001, bxl00Src s)] (fun r => [(7001, bxl00Src r.2)]) (fn := Tryz.f28) (nt := 9) Tryz.func28 rfl rfl (args := [.ref 7001 0, I n]) rfl (allcons (.inr trivial) (allcons (.inl ⟨rfl, trivial⟩) allnil)) (res := fun r => Bv r.1) ?_
    refine xR [] [0, 1] [7001] [.ref 7001 0, I n] [some (bxl00Src s)] [] trivial ?_
    refine x_seq ?_
    obtain ⟨v_1, s'_1, hx1_0, hx1_1, hx1_2, hx1_3, hc1⟩ := pick_ok s n (by first | assumption | (simp only [okSrc] at *; simp_all; done)) (by omega)
    refine x_r [(2, .lend [(7001, bxl00Src s, bxl00Src s'_1)] [] [(true, .any), (true, .any)] true (I v_1))] [4] [7001] [Bv (decide (v_1 = 0))] [some (bxl00Src s'_1)] [CallOK Tryz.prog 49 [.ref 7001 0, I n] (lookO [(7001, bxl00Src s)]) true (I v_1) (lookO [(7001, bxl00Src s'_1)]) ∧ (((bxl00Src s : Ob) = bxl00Src s ∨ obLe noOb true (bxl00Src s) (bxl00Src s)) ∧ taggedO false (bxl00Src s)) ∧ True] ⟨⟨hc1, ⟨.inl rfl, (by simp [taggedO, taggedL, tagged, tagU8])⟩, trivial⟩, trivial⟩ ?_
    refine xe_then ?_
    refine x_ret ?_
    refine xe_end (decide (v_1 = 0), s'_1) (show (okSrc s'_1) ∧ (s'_1.code = s.code) ∧ (s.atx + 0 ≤ s'_1.atx ∧ s'_1.atx ≤ s.atx + 2) ∧ (True) from ⟨(by first | omega | rfl | assumption | (dsimp only; first | omega | rfl | assumption) | (simp only [*]; done) | (simp_all; done)), (by first | omega | rfl | assumption | (dsimp only; first | omega | rfl | assumption) | (simp only [*]; done) | (simp_all; done)), (by first | omega | rfl | assumption | (dsimp only; first | omega | rfl | assumption) | (simp only [*]; done) | (simp_all; done)), trivial⟩) (⟨.inl rfl, trivial⟩) (Bv (decide (v_1 = 0))) (by kernel_rfl) (.inl rfl) (fun _ => rfl) (fun _ => trivial)
  obtain ⟨⟨v, s'⟩, ⟨hh0, hh1, hh2, _⟩, hc⟩ := hh
  exact ⟨v, s', hh0, hh1, hh2, hc⟩
theorem l00Min_ok (a : Int) (b : Int) : Con Tryz.prog 104 [I a, I b] true (I (min a b)) := by
  refine fn_ok (fn := Tryz.f104) (nt := 10) Tryz.func104 rfl rfl rfl rfl (by simp [taggedL, tagged]) fun B hB => ?_
  refine aR [] [0, 1] [] [I a, I b] [] [] hB trivial ?_
  refine aw_seq ?_
  refine aw_seq ?_
  by_cases h1 : a < b
  ·refine aw_r [(2, .dec true)] [0, 1, 7] [] [I a, I b, Bv true] [] [a < b] hB ⟨h1, trivial⟩ ?_
   refine ae_then ?_
   refine aw_true rfl ?_
   refine aR [] [4] [] [I a] [] [] hB trivial ?_
   refine aw_ret ?_
   refine ae_ret_then ?_
   refine ae_ret hB (I a) (by kernel_rfl) (.inl (by refine congrArg I ?_; omega)) rfl (fun _ => trivial)
  refine aw_r [(2, .dec false)] [0, 1, 7] [] [I a, I b, Bv false] [] [¬ (a < b)] hB ⟨h1, trivial⟩ ?_
  refine ae_then ?_
  refine aw_false rfl ?_
  refine aw_skip ?_
  refine ae_then ?_
  refine aR [] [4] [] [I b] [] [] hB trivial ?_
  refine aw_ret ?_
  refine ae_ret hB (I b) (by kernel_rfl) (.inl (by refine congrArg I ?_; omega)) rfl (fun _ => trivial)
theorem l00Max_ok (a : Int) (b : Int) : Con Tryz.prog 94 [I a, I b] true (I (max a b)) := by
  refine fn_ok (fn := Tryz.f94) (nt := 10) Tryz.func94 rfl rfl rfl rfl (by simp [taggedL, tagged]) fun B hB => ?_
  refine aR [] [0, 1] [] [I a, I b] [] [] hB trivial ?_
  refine aw_seq ?_
  refine aw_seq ?_
  by_cases h1 : b < a
  ·refine aw_r [(2, .dec true)] [0, 1, 7] [] [I a, I b, Bv true] [] [b < a] hB ⟨h1, trivial⟩ ?_
   refine ae_then ?_
   refine aw_true rfl ?_
   refine aR [] [4] [] [I a] [] [] hB trivial ?_
   refine aw_ret ?_
   refine ae_ret_then ?_
   refine ae_ret hB (I a) (by kernel_rfl) (.inl (by refine congrArg I ?_; omega)) rfl (fun _ => trivial)
  refine aw_r [(2, .dec false)] [0, 1, 7] [] [I a, I b, Bv false] [] [¬ (b < a)] hB ⟨h1, trivial⟩ ?_
  refine ae_then ?_
  refine aw_false rfl ?_
  refine aw_skip ?_
  refine ae_then ?_
  refine aR [] [4] [] [I b] [] [] hB trivial ?_
  refine aw_ret ?_
  refine ae_ret hB (I b) (by kernel_rfl) (.inl (by refine congrArg I ?_; omega)) rfl (fun _ => trivial)
def inB (a l h : Int) : Bool := decide (l ≤ a ∧ a ≤ h)
theorem inB_iff {a l h : Int} : inB a l h = true ↔ l ≤ a ∧ a ≤ h := by simp [inB]
def okP (p : Point) : Bool := inB p.X 0 4095 && (inB p.Y 0 4095 && inB p.T 0 3600000)
theorem okP_iff {p : Point} : okP p = true ↔ (0 ≤ p.X ∧ p.X ≤ 4095) ∧ (0 ≤ p.Y ∧ p.Y ≤ 4095) ∧ (0 ≤ p.T ∧ p.T ≤ 3600000) := by simp [okP, inB, and_assoc]
def okPt (xs : List Point) (j : Nat) : Bool := okP (at_ xs j) && (decide (j = 0) || decide ((at_ xs (j - 1)).T < (at_ xs j).T))
def okStroke' (s : Stroke) : Bool := decide (1 ≤ (s.Points.length : Int) ∧ (s.Points.length : Int) ≤ 60) && allN s.Points.length (okPt s.Points)
theorem okPt_no {xs : List Point} {i : Int} (hi : 0 < i) (h : (at_ xs i.toNat).T ≤ (at_ xs (i - 1).toNat).T) : okPt xs i.toNat = false := by
  have e : (i - 1).toNat = i.toNat - 1 := by omega
  rw [e] at h
  have : ¬ i.toNat = 0 := by omega
  simp [okPt, this]; intro _; omega
theorem okPt_bad {xs : List Point} {j : Nat} (h : okP (at_ xs j) = false) : okPt xs j = false := by simp [okPt, h]
theorem okPt_yes {xs : List Point} {i : Int} (h1 : okP (at_ xs i.toNat) = true) (hi : 0 < i) (h : ¬ (at_ xs i.toNat).T ≤ (at_ xs (i - 1).toNat).T) : okPt xs i.toNat = true := by
  have e : (i - 1).toNat = i.toNat - 1 := by omega
  rw [e] at h
  simp [okPt, h1]; right; omega
theorem okPt_zero {xs : List Point} {i : Int} (h1 : okP (at_ xs i.toNat) = true) (h0 : 0 ≤ i) (hi : ¬ 0 < i) : okPt xs i.toNat = true := by
  have : i.toNat = 0 := by omega
  simp [okPt, this] at h1 ⊢; exact h1
theorem okS_at {s : Stroke} (h : okStroke' s = true) {j : Nat} (hj : j < s.Points.length) : okP (at_ s.Points j) = true := by
  simp only [okStroke', Bool.and_eq_true] at h
  have := allN_get h.2 hj
  simp only [okPt, Bool.and_eq_true] at this
  exact this.1
theorem okS_len {s : Stroke} (h : okStroke' s = true) : 1 ≤ (s.Points.length : Int) ∧ (s.Points.length : Int) ≤ 60 := by
  simp only [okStroke', Bool.and_eq_true, decide_eq_true_eq] at h
  exact h.1
def lastT (s : Stroke) : Int := (at_ s.Points (s.Points.length - 1)).T
def okSA (xs : List Stroke) (j : Nat) : Bool := okStroke' (at_ xs j) && (decide (j = 0) || decide (lastT (at_ xs (j - 1)) < (at_ (at_ xs j).Points 0).T))
def okInk' (x : Ink) : Bool := decide ((x.Strokes.length : Int) ≤ 16) && allN x.Strokes.length (okSA x.Strokes)
theorem okSA_bad {xs : List Stroke} {j : Nat} (h : okStroke' (at_ xs j) = false) : okSA xs j = false := by simp [okSA, h]
theorem okSA_no {xs : List Stroke} {i : Int} (hi : 0 < i) (h : (at_ (at_ xs i.toNat).Points 0).T ≤ (at_ (at_ xs (i - 1).toNat).Points ((at_ xs (i - 1).toNat).Points.length - 1)).T) : okSA xs i.toNat = false := by
  have e : (i - 1).toNat = i.toNat - 1 := by omega
  rw [e] at h
  have : ¬ i.toNat = 0 := by omega
  unfold okSA lastT; simp [this]; intro _; omega
theorem okSA_yes {xs : List Stroke} {i : Int} (h1 : okStroke' (at_ xs i.toNat) = true) (hi : 0 < i) (h : ¬ (at_ (at_ xs i.toNat).Points 0).T ≤ (at_ (at_ xs (i - 1).toNat).Points ((at_ xs (i - 1).toNat).Points.length - 1)).T) : okSA xs i.toNat = true := by
  have e : (i - 1).toNat = i.toNat - 1 := by omega
  rw [e] at h
  unfold okSA lastT; simp [h1]; right; omega
theorem okSA_zero {xs : List Stroke} {i : Int} (h1 : okStroke' (at_ xs i.toNat) = true) (h0 : 0 ≤ i) (hi : ¬ 0 < i) : okSA xs i.toNat = true := by
  have : i.toNat = 0 := by omega
  simp [okSA, this] at h1 ⊢; exact h1
theorem okSA_ok {xs : List Stroke} {j : Nat} (h : okSA xs j = true) : okStroke' (at_ xs j) = true := by
  simp only [okSA, Bool.and_eq_true] at h; exact h.1
theorem okI_all {x : Ink} (h : okInk' x = true) : ∀ j, j < x.Strokes.length → okStroke' (at_ x.Strokes j) = true := by
  simp only [okInk', Bool.and_eq_true] at h
  exact fun j hj => okSA_ok (allN_get h.2 hj)
theorem okI_mem {x : Ink} (h : okInk' x = true) : ∀ s ∈ x.Strokes, okStroke' s = true := by
  intro s hs
  obtain ⟨j, hj, e⟩ := List.getElem_of_mem hs
  have := okI_all h j hj
  simpa [at_, hj, e] using this
theorem okI_len {x : Ink} (h : okInk' x = true) : (x.Strokes.length : Int) ≤ 16 := by
  simp only [okInk', Bool.and_eq_true, decide_eq_true_eq] at h
  exact h.1
theorem last_mem {α : Type} [Inhabited α] {xs : List α} (h : 1 ≤ xs.length) : at_ xs (xs.length - 1) ∈ xs := at_mem (by omega)
theorem all_snoc {α : Type} {P : α → Prop} {xs : List α} {x : α} (h : ∀ y ∈ xs, P y) (hx : P x) : ∀ y ∈ xs ++ [x], P y := by
  intro y hy
  rcases List.mem_append.1 hy with h1 | h1
  · exact h y h1
  · simp at h1; subst h1; exact hx
theorem okS_of {pts : List Point} (h1 : 1 ≤ (pts.length : Int)) (h2 : (pts.length : Int) ≤ 60) (hp : ∀ p ∈ pts, okP p = true) (hw : pts.Pairwise fun p q => p.T < q.T) : okStroke' ⟨pts⟩ = true := by
  simp only [okStroke', Bool.and_eq_true, decide_eq_true_eq]
  refine ⟨⟨h1, h2⟩, allN_at fun j hj => ?_⟩
  simp only [okPt, Bool.and_eq_true, Bool.or_eq_true, decide_eq_true_eq]
  refine ⟨hp _ (at_mem hj), ?_⟩
  by_cases e : j = 0
  · exact .inl e
  · right
    have := List.pairwise_iff_getElem.1 hw (j - 1) j (by omega) hj (by omega)
    rw [at_eq (by omega), at_eq hj]; exact this
def dpts (pts : List Point) (t : Int) : Prop := (∀ p ∈ pts, p.T < t) ∧ pts.Pairwise fun p q => p.T < q.T
theorem dpts_nil (t : Int) : dpts [] t := ⟨fun _ h => by simp at h, .nil⟩
theorem dpts_snoc {pts : List Point} {p : Point} {t t' : Int} (h : dpts pts t) (e : p.T = t) (ht : t < t') : dpts (pts ++ [p]) t' := by
  refine ⟨all_snoc (fun q hq => Int.lt_trans (h.1 q hq) ht) (by omega), ?_⟩
  rw [List.pairwise_append]
  refine ⟨h.2, List.pairwise_singleton _ _, fun q hq r hr => ?_⟩
  simp at hr; subst hr; rw [e]; exact h.1 q hq
def inkD (ss : List Stroke) (t : Int) : Prop := okInk' ⟨ss⟩ = true ∧ ∀ s ∈ ss, lastT s < t
theorem inkD_nil (t : Int) : inkD [] t := ⟨rfl, fun _ h => by simp at h⟩
theorem inkD_snoc {ss : List Stroke} {s : Stroke} {t t' : Int} (h : inkD ss t) (hs : okStroke' s = true) (hf : ∀ p ∈ s.Points, t ≤ p.T) (hl : lastT s < t') (ht : t ≤ t') (hn : ss.length ≤ 15) : inkD (ss ++ [s]) t' := by
  obtain ⟨h1, h2⟩ := h
  refine ⟨?_, all_snoc (fun q hq => Int.lt_of_lt_of_le (h2 q hq) ht) hl⟩
  simp only [okInk', Bool.and_eq_true, decide_eq_true_eq] at h1 ⊢
  refine ⟨by simp; omega, allN_at fun j hj => ?_⟩
  simp only [List.length_append, List.length_cons, List.length_nil] at hj
  have e1 : ∀ k, k < ss.length → at_ (ss ++ [s]) k = at_ ss k := fun k hk => by simp [at_, List.getElem?_append_left hk]
  by_cases e : j < ss.length
  · have := allN_get h1.2 e
    simp only [okSA] at this ⊢
    rw [e1 j e, e1 (j - 1) (by omega)]; exact this
  · have ej : j = ss.length := by omega
    subst ej
    have e2 : at_ (ss ++ [s]) ss.length = s := by simp [at_]
    simp only [okSA, e2, hs, Bool.true_and, Bool.or_eq_true, decide_eq_true_eq]
    by_cases h0 : ss.length = 0
    · exact .inl h0
    · right
      rw [e1 _ (by omega)]
      have q1 := h2 _ (at_mem (xs := ss) (i := ss.length - 1) (by omega))
      have hln := okS_len hs
      have q2 := hf _ (at_mem (xs := s.Points) (i := 0) (by omega))
      omega
theorem two_ok {a b : Point} (ha : okP a = true) (hb : okP b = true) (h : a.T < b.T) : okStroke' ⟨[a, b]⟩ = true := okS_of (by simp) (by simp) (fun p hp => by simp at hp; rcases hp with rfl | rfl; exact ha; exact hb) (by simp [h])
theorem inkD_two {ss : List Stroke} {t t' x1 y1 x2 y2 t2 : Int} (h : inkD ss t) (h1 : (0 ≤ x1 ∧ x1 ≤ 4095) ∧ 0 ≤ y1 ∧ y1 ≤ 4095) (h2 : (0 ≤ x2 ∧ x2 ≤ 4095) ∧ 0 ≤ y2 ∧ y2 ≤ 4095) (ht : 0 ≤ t ∧ t < t2 ∧ t2 ≤ 3600000) (ht2 : t2 < t') (hn : ss.length ≤ 15) : inkD (ss ++ [⟨[⟨x1, y1, t⟩, ⟨x2, y2, t2⟩]⟩]) t' :=
  inkD_snoc h (two_ok (okP_iff.2 ⟨h1.1, h1.2, by dsimp only; omega⟩) (okP_iff.2 ⟨h2.1, h2.2, by dsimp only; omega⟩) ht.2.1) (fun p hp => by simp at hp; rcases hp with rfl | rfl; exact Int.le_refl _; (dsimp only; omega)) (by simp [lastT, at_]; exact ht2) (by omega) hn
theorem l02DrawStroke_ok (s : l00Src) (time : Int) (px : Int) (py : Int) (hs : okSrc s) (ha : s.atx ≤ 3999999999999999600) (ht : 0 ≤ time ∧ time ≤ 100000 ∧ 0 ≤ px ∧ px ≤ 100000 ∧ 0 ≤ py ∧ py ≤ 100000) : ∃ (s' : l00Src) (pts : List Point), (okSrc s') ∧ (s'.code = s.code) ∧ (s.atx + 0 ≤ s'.atx ∧ s'.atx ≤ s.atx + 200) ∧ (1 ≤ pts.length ∧ pts.length ≤ 10) ∧ (∀ p ∈ pts, time ≤ p.T ∧ p.T ≤ time + 210) ∧ (px ≤ 4095 ∧ py ≤ 4095 → okStroke' ⟨pts⟩ = true) ∧ CallOK Tryz.prog 73 [.ref 7001 0, I time, I px, I py] (lookO [(7001, bxl00Src s)]) false (.agg [.arr 8001]) (lookO [(7001, bxl00Src s'), (8001, tAPoint pts)]) := by
  have hh : ∃ r : l00Src × (List Point), ((okSrc r.1) ∧ (r.1.code = s.code) ∧ (s.atx + 0 ≤ r.1.atx ∧ r.1.atx ≤ s.atx + 200) ∧ (1 ≤ r.2.length ∧ r.2.length ≤ 10) ∧ (∀ p ∈ r.2, time ≤ p.T ∧ p.T ≤ time + 210) ∧ (px ≤ 4095 ∧ py ≤ 4095 → okStroke' ⟨r.2⟩ = true) ∧ (True)) ∧ CallOK Tryz.prog 73 [.ref 7001 0, I time, I px, I py] (lookO [(7001, bxl00Src s)]) false (.agg [.arr 8001]) (lookO [(7001, bxl00Src r.1), (8001, tAPoint r.2)]) := by
    refine fn_okX (Φ := fun r : l00Src × (List Point) => (okSrc r.1) ∧ (r.1.code = s.code) ∧ (s.atx + 0 ≤ r.1.atx ∧ r.1.atx ≤ s.atx + 200) ∧ (1 ≤ r.2.length ∧ r.2.length ≤ 10) ∧ (∀ p ∈ r.2, time ≤ p.T ∧ p.T ≤ time + 210) ∧ (px ≤ 4095 ∧ py ≤ 4095 → okStroke' ⟨r.2⟩ = true) ∧ (True)) [(7001, bxl00Src s)] (fun r => [(7001, bxl00Src r.1), (8001, tAPoint r.2)]) (fn := Tryz.f73) (nt := 68) Tryz.func73 rfl rfl (args := [.ref 7001 0, I time, I px, I py]) rfl (allcons (.inr trivial) (allcons (.inl ⟨rfl, trivial⟩) (allcons (.inl ⟨rfl, trivial⟩) (allcons (.inl ⟨rfl, trivial⟩) allnil)))) (res := fun r => .agg [.arr 8001]) ?_
    refine xR [(0, .new 8)] [0, 1, 2, 3, 8] [8, 7001] [.ref 7001 0, I time, I px, I py, .ref 8 0] [some (.box [nilA]), some (bxl00Src s)] [] trivial ?_
    refine xR [(1, .new 9)] [0, 1, 2, 3, 8, 9] [8, 9, 7001] [.ref 7001 0, I time, I px, I py, .ref 8 0, .ref 9 0] [some (.box [nilA]), some (.box [nilA]), some (bxl00Src s)] [] trivial ?_
    refine x_seq ?_
    obtain ⟨v_1, s'_1, hx1_0, hx1_1, hx1_2, hx1_3, hc1⟩ := pick_ok s 60 (by first | assumption | (simp only [okSrc] at *; simp_all; done)) (by omega)
    refine x_r [(1, .lend [(7001, bxl00Src s, bxl00Src s'_1)] [] [(true, .any), (true, .any)] true (I v_1))] [0, 1, 2, 3, 8, 9, 10] [8, 9, 7001] [.ref 7001 0, I time, I px, I py, .ref 8 0, .ref 9 0, I (v_1 - 20)] [some (.box [nilA]), some (.box [nilA]), some (bxl00Src s'_1)] [CallOK Tryz.prog 49 [.ref 7001 0, I 60] (lookO [(7001, bxl00Src s)]) true (I v_1) (lookO [(7001, bxl00Src s'_1)]) ∧ (((bxl00Src s : Ob) = bxl00Src s ∨ obLe noOb true (bxl00Src s) (bxl00Src s)) ∧ taggedO false (bxl00Src s)) ∧ True, inR .i64 (v_1 - 20)] ⟨⟨hc1, ⟨.inl rfl, (by simp [taggedO, taggedL, tagged, tagU8])⟩, trivial⟩, (inR_i64 (by omega) (by omega)), trivial⟩ ?_
    refine xe_then ?_
    refine x_seq ?_
    obtain ⟨v_2, s'_2, hx2_0, hx2_1, hx2_2, hx2_3, hc2⟩ := pick_ok s'_1 60 (by first | assumption | (simp only [okSrc] at *; simp_all; done)) (by omega)
    refine x_r [(1, .lend [(7001, bxl00Src s'_1, bxl00Src s'_2)] [] [(true, .any), (true, .any)] true (I v_2))] [0, 1, 2, 3, 8, 9, 10, 11] [8, 9, 7001] [.ref 7001 0, I time, I px, I py, .ref 8 0, .ref 9 0, I (v_1 - 20), I (v_2 - 30)] [some (.box [nilA]), some (.box [nilA]), some (bxl00Src s'_2)] [CallOK Tryz.prog 49 [.ref 7001 0, I 60] (lookO [(7001, bxl00Src s'_1)]) true (I v_2) (lookO [(7001, bxl00Src s'_2)]) ∧ (((bxl00Src s'_1 : Ob) = bxl00Src s'_1 ∨ obLe noOb true (bxl00Src s'_1) (bxl00Src s'_1)) ∧ taggedO false (bxl00Src s'_1)) ∧ True, inR .i64 (v_2 - 30)] ⟨⟨hc2, ⟨.inl rfl, (by simp [taggedO, taggedL, tagged, tagU8])⟩, trivial⟩, (inR_i64 (by omega) (by omega)), trivial⟩ ?_
    refine xe_then ?_
    refine x_seq ?_
    refine x_seq ?_
    obtain ⟨v_3, s'_3, hx3_0, hx3_1, hx3_2, hx3_3, hc3⟩ := pick_ok s'_2 10 (by first | assumption | (simp only [okSrc] at *; simp_all; done)) (by omega)
    refine x_r [(1, .lend [(7001, bxl00Src s'_2, bxl00Src s'_3)] [] [(true, .any), (true, .any)] true (I v_3))] [0, 1, 2, 3, 8, 9, 10, 11, 12] [8, 9, 7001] [.ref 7001 0, I time, I px, I py, .ref 8 0, .ref 9 0, I (v_1 - 20), I (v_2 - 30), I (1 + v_3)] [some (.box [nilA]), some (.box [nilA]), some (bxl00Src s'_3)] [CallOK Tryz.prog 49 [.ref 7001 0, I 10] (lookO [(7001, bxl00Src s'_2)]) true (I v_3) (lookO [(7001, bxl00Src s'_3)]) ∧ (((bxl00Src s'_2 : Ob) = bxl00Src s'_2 ∨ obLe noOb true (bxl00Src s'_2) (bxl00Src s'_2)) ∧ taggedO false (bxl00Src s'_2)) ∧ True, inR .i64 (1 + v_3)] ⟨⟨hc3, ⟨.inl rfl, (by simp [taggedO, taggedL, tagged, tagU8])⟩, trivial⟩, (inR_i64 (by omega) (by omega)), trivial⟩ ?_
    refine xe_then ?_
    refine x_block ?_
    refine x_nilC 9 0 790 3 (fun _ => []) rfl (by kernel_rfl) ?_
    refine x_weak [] (T := [(0, .ref 7001 0), (1, I time), (2, I px), (3, I py), (8, .ref 8 0), (9, .ref 9 0), (10, I (v_1 - 20)), (11, I (v_2 - 30)), (12, I (1 + v_3))]) (O := [(8, .box [nilA]), (9, .box [.arr 790]), (790, tAPoint ([] : List Point)), (7001, bxl00Src s'_3)]) rfl (⟨.inl rfl, .inl rfl, .inl rfl, .inl rfl, .inl rfl, .inl rfl, .inl rfl, .inl rfl, .inl rfl, trivial⟩) (⟨.inl rfl, .inl rfl, .inr ⟨rfl, (by first | rfl | (simp; done) | (simp; omega) | omega), fun i_ hi_ => absurd hi_ (Nat.not_lt_zero _)⟩, .inl rfl, trivial⟩) ?_
    refine x_loop (X := Int × Int × Int × Int × Int × Int × (List Point) × l00Src) (fun x => mkS [(0, .ref 7001 0), (1, I x.1), (2, I x.2.1), (3, I x.2.2.1), (8, .ref 8 0), (9, .ref 9 0), (10, I x.2.2.2.1), (11, I x.2.2.2.2.1), (12, I x.2.2.2.2.2.1)] [(8, .box [nilA]), (9, .box [.arr 790]), (790, tAPoint x.2.2.2.2.2.2.1), (7001, bxl00Src x.2.2.2.2.2.2.2)]) (fun x => (okSrc x.2.2.2.2.2.2.2 ∧ x.2.2.2.2.2.2.2.code = s.code ∧ s.atx ≤ x.2.2.2.2.2.2.2.atx ∧ x.2.2.2.2.2.2.2.atx ≤ s.atx + 6 + 12 * (10 - x.2.2.2.2.2.1)) ∧ (0 ≤ x.2.2.2.2.2.1 ∧ x.2.2.2.2.2.1 ≤ 10) ∧ ((x.2.2.2.2.2.2.1.length : Int) + x.2.2.2.2.2.1 ≤ 10 ∧ 1 ≤ (x.2.2.2.2.2.2.1.length : Int) + x.2.2.2.2.2.1) ∧ (time ≤ x.1 ∧ x.1 ≤ time + 21 * (10 - x.2.2.2.2.2.1)) ∧ (∀ p ∈ x.2.2.2.2.2.2.1, time ≤ p.T ∧ p.T ≤ time + 210) ∧ (0 ≤ x.2.1 ∧ x.2.1 ≤ 100000 ∧ 0 ≤ x.2.2.1 ∧ x.2.2.1 ≤ 100000) ∧ (-40 ≤ x.2.2.2.1 ∧ x.2.2.2.1 ≤ 60 ∧ -40 ≤ x.2.2.2.2.1 ∧ x.2.2.2.2.1 ≤ 60) ∧ (dpts x.2.2.2.2.2.2.1 x.1) ∧ (px ≤ 4095 ∧ py ≤ 4095 → (x.2.1 ≤ 4095 ∧ x.2.2.1 ≤ 4095) ∧ ∀ p ∈ x.2.2.2.2.2.2.1, okP p = true) ∧ True) (fun x => x.2.2.2.2.2.1.toNat) (time, px, py, (v_1 - 20), (v_2 - 30), (1 + v_3), ([] : List Point), s'_3) rfl (show (okSrc s'_3 ∧ s'_3.code = s.code ∧ s.atx ≤ s'_3.atx ∧ s'_3.atx ≤ s.atx + 6 + 12 * (10 - (1 + v_3))) ∧ (0 ≤ (1 + v_3) ∧ (1 + v_3) ≤ 10) ∧ ((([] : List Point).length : Int) + (1 + v_3) ≤ 10 ∧ 1 ≤ (([] : List Point).length : Int) + (1 + v_3)) ∧ (time ≤ time ∧ time ≤ time + 21 * (10 - (1 + v_3))) ∧ (∀ p ∈ ([] : List Point), time ≤ p.T ∧ p.T ≤ time + 210) ∧ (0 ≤ px ∧ px ≤ 100000 ∧ 0 ≤ py ∧ py ≤ 100000) ∧ (-40 ≤ (v_1 - 20) ∧ (v_1 - 20) ≤ 60 ∧ -40 ≤ (v_2 - 30) ∧ (v_2 - 30) ≤ 60) ∧ (dpts ([] : List Point) time) ∧ (px ≤ 4095 ∧ py ≤ 4095 → (px ≤ 4095 ∧ py ≤ 4095) ∧ ∀ p ∈ ([] : List Point), okP p = true) ∧ True from ⟨(by exact ⟨by assumption, by first | assumption | rfl | (simp only [*]; done), by omega, by omega⟩), (by omega), (by simp; omega), (by omega), (by (intro z hz; simp at hz)), (by omega), (by omega), (by exact dpts_nil _), (by exact fun q => ⟨q, fun p hp => by simp at hp⟩), trivial⟩) (fun x hI => ?_)
    obtain ⟨time', x', y', dx, dy, k, pts, src⟩ := x
    obtain ⟨hs0, hk0, hl0, ht0, hp0, hx0, hd0, hdp, hok, _⟩ : (okSrc src ∧ src.code = s.code ∧ s.atx ≤ src.atx ∧ src.atx ≤ s.atx + 6 + 12 * (10 - k)) ∧ (0 ≤ k ∧ k ≤ 10) ∧ ((pts.length : Int) + k ≤ 10 ∧ 1 ≤ (pts.length : Int) + k) ∧ (time ≤ time' ∧ time' ≤ time + 21 * (10 - k)) ∧ (∀ p ∈ pts, time ≤ p.T ∧ p.T ≤ time + 210) ∧ (0 ≤ x' ∧ x' ≤ 100000 ∧ 0 ≤ y' ∧ y' ≤ 100000) ∧ (-40 ≤ dx ∧ dx ≤ 60 ∧ -40 ≤ dy ∧ dy ≤ 60) ∧ (dpts pts time') ∧ (px ≤ 4095 ∧ py ≤ 4095 → (x' ≤ 4095 ∧ y' ≤ 4095) ∧ ∀ p ∈ pts, okP p = true) ∧ True := hI
    show XW _ _ _ _ (mkS [(0, .ref 7001 0), (1, I time'), (2, I x'), (3, I y'), (8, .ref 8 0), (9, .ref 9 0), (10, I dx), (11, I dy), (12, I k)] [(8, .box [nilA]), (9, .box [.arr 790]), (790, tAPoint pts), (7001, bxl00Src src)]) _ _
    refine x_seq ?_
    refine x_seq ?_
    by_cases h1 : 0 < k
    ·refine x_r [(1, .dec true)] [0, 1, 2, 3, 8, 9, 10, 11, 12, 24] [8, 9, 790, 7001] [.ref 7001 0, I time', I x', I y', .ref 8 0, .ref 9 0, I dx, I dy, I k, Bv true] [some (.box [nilA]), some (.box [.arr 790]), some (tAPoint pts), some (bxl00Src src)] [0 < k] ⟨h1, trivial⟩ ?_
     refine xe_then ?_
     refine x_true rfl ?_
     refine x_skip ?_
     refine xe_then ?_
     refine x_seq ?_
     refine x_block ?_
     refine xR [(6, .new 33), (7, .new 34)] [0, 1, 2, 3, 8, 9, 10, 11, 12] [8, 9, 34, 7001] [.ref 7001 0, I time', I x', I y', .ref 8 0, .ref 9 0, I dx, I dy, I k] [some (.box [nilA]), some (.box [.arr 34]), some (.arr 3 (pts.length + 1) (catF pts.length (fPoint pts) (litF [I x', I y', I time'] 3))), some (bxl00Src src)] [(pts.length + 1) * 24 ≤ 140737488355328] ⟨(by omega), trivial⟩ ?_
     refine x_seq ?_
     obtain ⟨v_4, s'_4, hx4_0, hx4_1, hx4_2, hx4_3, hc4⟩ := pick_ok src 20 (by first | assumption | (simp only [okSrc] at *; simp_all; done)) (by omega)
     refine x_r [(2, .lend [(7001, bxl00Src src, bxl00Src s'_4)] [] [(true, .any), (true, .any)] true (I v_4))] [0, 1, 2, 3, 8, 9, 10, 11, 12] [8, 9, 34, 7001] [.ref 7001 0, I (time' + (1 + v_4)), I x', I y', .ref 8 0, .ref 9 0, I dx, I dy, I k] [some (.box [nilA]), some (.box [.arr 34]), some (.arr 3 (pts.length + 1) (catF pts.length (fPoint pts) (litF [I x', I y', I time'] 3))), some (bxl00Src s'_4)] [CallOK Tryz.prog 49 [.ref 7001 0, I 20] (lookO [(7001, bxl00Src src)]) true (I v_4) (lookO [(7001, bxl00Src s'_4)]) ∧ (((bxl00Src src : Ob) = bxl00Src src ∨ obLe noOb true (bxl00Src src) (bxl00Src src)) ∧ taggedO false (bxl00Src src)) ∧ True, inR .i64 (1 + v_4), inR .i64 (time' + (1 + v_4))] ⟨⟨hc4, ⟨.inl rfl, (by simp [taggedO, taggedL, tagged, tagU8])⟩, trivial⟩, (inR_i64 (by omega) (by omega)), (inR_i64 (by omega) (by omega)), trivial⟩ ?_
     refine xe_then ?_
     refine x_seq ?_
     obtain ⟨v_5, s'_5, hx5_0, hx5_1, hx5_2, hx5_3, hc5⟩ := pick_ok s'_4 9 (by first | assumption | (simp only [okSrc] at *; simp_all; done)) (by omega)
     refine x_r [(4, .lend [(7001, bxl00Src s'_4, bxl00Src s'_5)] [] [(true, .any), (true, .any)] true (I v_5)), (7, .call [(true, .any), (true, .any)] true (I (min 4095 (((x' + dx) + v_5) - 4)))), (8, .call [(true, .any), (true, .any)] true (I (max 0 (min 4095 (((x' + dx) + v_5) - 4)))))] [0, 1, 2, 3, 8, 9, 10, 11, 12] [8, 9, 34, 7001] [.ref 7001 0, I (time' + (1 + v_4)), I (max 0 (min 4095 (((x' + dx) + v_5) - 4))), I y', .ref 8 0, .ref 9 0, I dx, I dy, I k] [some (.box [nilA]), some (.box [.arr 34]), some (.arr 3 (pts.length + 1) (catF pts.length (fPoint pts) (litF [I x', I y', I time'] 3))), some (bxl00Src s'_5)] [inR .i64 (x' + dx), CallOK Tryz.prog 49 [.ref 7001 0, I 9] (lookO [(7001, bxl00Src s'_4)]) true (I v_5) (lookO [(7001, bxl00Src s'_5)]) ∧ (((bxl00Src s'_4 : Ob) = bxl00Src s'_4 ∨ obLe noOb true (bxl00Src s'_4) (bxl00Src s'_4)) ∧ taggedO false (bxl00Src s'_4)) ∧ True, inR .i64 ((x' + dx) + v_5), inR .i64 (((x' + dx) + v_5) - 4), Con Tryz.prog 104 [I 4095, I (((x' + dx) + v_5) - 4)] true (I (min 4095 (((x' + dx) + v_5) - 4))) ∧ True, Con Tryz.prog 94 [I 0, I (min 4095 (((x' + dx) + v_5) - 4))] true (I (max 0 (min 4095 (((x' + dx) + v_5) - 4)))) ∧ True] ⟨(inR_i64 (by omega) (by omega)), ⟨hc5, ⟨.inl rfl, (by simp [taggedO, taggedL, tagged, tagU8])⟩, trivial⟩, (inR_i64 (by omega) (by omega)), (inR_i64 (by omega) (by omega)), ⟨(l00Min_ok 4095 (((x' + dx) + v_5) - 4)), trivial⟩, ⟨(l00Max_ok 0 (min 4095 (((x' + dx) + v_5) - 4))), trivial⟩, trivial⟩ ?_
     refine xe_then ?_
     refine x_seq ?_
     obtain ⟨v_6, s'_6, hx6_0, hx6_1, hx6_2, hx6_3, hc6⟩ := pick_ok s'_5 9 (by first | assumption | (simp only [okSrc] at *; simp_all; done)) (by omega)
     refine x_r [(4, .lend [(7001, bxl00Src s'_5, bxl00Src s'_6)] [] [(true, .any), (true, .any)] true (I v_6)), (7, .call [(true, .any), (true, .any)] true (I (min 4095 (((y' + dy) + v_6) - 4)))), (8, .call [(true, .any), (true, .any)] true (I (max 0 (min 4095 (((y' + dy) + v_6) - 4)))))] [0, 1, 2, 3, 8, 9, 10, 11, 12] [8, 9, 34, 7001] [.ref 7001 0, I (time' + (1 + v_4)), I (max 0 (min 4095 (((x' + dx) + v_5) - 4))), I (max 0 (min 4095 (((y' + dy) + v_6) - 4))), .ref 8 0, .ref 9 0, I dx, I dy, I k] [some (.box [nilA]), some (.box [.arr 34]), some (.arr 3 (pts.length + 1) (catF pts.length (fPoint pts) (litF [I x', I y', I time'] 3))), some (bxl00Src s'_6)] [inR .i64 (y' + dy), CallOK Tryz.prog 49 [.ref 7001 0, I 9] (lookO [(7001, bxl00Src s'_5)]) true (I v_6) (lookO [(7001, bxl00Src s'_6)]) ∧ (((bxl00Src s'_5 : Ob) = bxl00Src s'_5 ∨ obLe noOb true (bxl00Src s'_5) (bxl00Src s'_5)) ∧ taggedO false (bxl00Src s'_5)) ∧ True, inR .i64 ((y' + dy) + v_6), inR .i64 (((y' + dy) + v_6) - 4), Con Tryz.prog 104 [I 4095, I (((y' + dy) + v_6) - 4)] true (I (min 4095 (((y' + dy) + v_6) - 4))) ∧ True, Con Tryz.prog 94 [I 0, I (min 4095 (((y' + dy) + v_6) - 4))] true (I (max 0 (min 4095 (((y' + dy) + v_6) - 4)))) ∧ True] ⟨(inR_i64 (by omega) (by omega)), ⟨hc6, ⟨.inl rfl, (by simp [taggedO, taggedL, tagged, tagU8])⟩, trivial⟩, (inR_i64 (by omega) (by omega)), (inR_i64 (by omega) (by omega)), ⟨(l00Min_ok 4095 (((y' + dy) + v_6) - 4)), trivial⟩, ⟨(l00Max_ok 0 (min 4095 (((y' + dy) + v_6) - 4))), trivial⟩, trivial⟩ ?_
     refine xe_then ?_
     refine x_seq ?_
     obtain ⟨v_7, s'_7, hx7_0, hx7_1, hx7_2, hc7⟩ := one_ok s'_6 3 (by first | assumption | (simp only [okSrc] at *; simp_all; done)) (by omega)
     rcases Bool.eq_false_or_eq_true v_7 with h2 | h2
     ·subst h2
      refine x_r [(1, .lend [(7001, bxl00Src s'_6, bxl00Src s'_7)] [] [(true, .any), (true, .any)] true (Bv true))] [0, 1, 2, 3, 8, 9, 10, 11, 12, 60] [8, 9, 34, 7001] [.ref 7001 0, I (time' + (1 + v_4)), I (max 0 (min 4095 (((x' + dx) + v_5) - 4))), I (max 0 (min 4095 (((y' + dy) + v_6) - 4))), .ref 8 0, .ref 9 0, I dx, I dy, I k, Bv true] [some (.box [nilA]), some (.box [.arr 34]), some (.arr 3 (pts.length + 1) (catF pts.length (fPoint pts) (litF [I x', I y', I time'] 3))), some (bxl00Src s'_7)] [CallOK Tryz.prog 28 [.ref 7001 0, I 3] (lookO [(7001, bxl00Src s'_6)]) true (Bv true) (lookO [(7001, bxl00Src s'_7)]) ∧ (((bxl00Src s'_6 : Ob) = bxl00Src s'_6 ∨ obLe noOb true (bxl00Src s'_6) (bxl00Src s'_6)) ∧ taggedO false (bxl00Src s'_6)) ∧ True] ⟨⟨hc7, ⟨.inl rfl, (by simp [taggedO, taggedL, tagged, tagU8])⟩, trivial⟩, trivial⟩ ?_
      refine xe_then ?_
      refine x_true rfl ?_
      refine x_seq ?_
      obtain ⟨v_8, s'_8, hx8_0, hx8_1, hx8_2, hx8_3, hc8⟩ := pick_ok s'_7 80 (by first | assumption | (simp only [okSrc] at *; simp_all; done)) (by omega)
      refine x_r [(1, .lend [(7001, bxl00Src s'_7, bxl00Src s'_8)] [] [(true, .any), (true, .any)] true (I v_8))] [0, 1, 2, 3, 8, 9, 10, 12] [8, 9, 34, 7001] [.ref 7001 0, I (time' + (1 + v_4)), I (max 0 (min 4095 (((x' + dx) + v_5) - 4))), I (max 0 (min 4095 (((y' + dy) + v_6) - 4))), .ref 8 0, .ref 9 0, I (v_8 - 40), I k] [some (.box [nilA]), some (.box [.arr 34]), some (.arr 3 (pts.length + 1) (catF pts.length (fPoint pts) (litF [I x', I y', I time'] 3))), some (bxl00Src s'_8)] [CallOK Tryz.prog 49 [.ref 7001 0, I 80] (lookO [(7001, bxl00Src s'_7)]) true (I v_8) (lookO [(7001, bxl00Src s'_8)]) ∧ (((bxl00Src s'_7 : Ob) = bxl00Src s'_7 ∨ obLe noOb true (bxl00Src s'_7) (bxl00Src s'_7)) ∧ taggedO false (bxl00Src s'_7)) ∧ True, inR .i64 (v_8 - 40)] ⟨⟨hc8, ⟨.inl rfl, (by simp [taggedO, taggedL, tagged, tagU8])⟩, trivial⟩, (inR_i64 (by omega) (by omega)), trivial⟩ ?_
      refine xe_then ?_
      obtain ⟨v_9, s'_9, hx9_0, hx9_1, hx9_2, hx9_3, hc9⟩ := pick_ok s'_8 80 (by first | assumption | (simp only [okSrc] at *; simp_all; done)) (by omega)
      refine x_r [(1, .lend [(7001, bxl00Src s'_8, bxl00Src s'_9)] [] [(true, .any), (true, .any)] true (I v_9))] [0, 1, 2, 3, 8, 9, 10, 11, 12] [8, 9, 34, 7001] [.ref 7001 0, I (time' + (1 + v_4)), I (max 0 (min 4095 (((x' + dx) + v_5) - 4))), I (max 0 (min 4095 (((y' + dy) + v_6) - 4))), .ref 8 0, .ref 9 0, I (v_8 - 40), I (v_9 - 40), I k] [some (.box [nilA]), some (.box [.arr 34]), some (.arr 3 (pts.length + 1) (catF pts.length (fPoint pts) (litF [I x', I y', I time'] 3))), some (bxl00Src s'_9)] [CallOK Tryz.prog 49 [.ref 7001 0, I 80] (lookO [(7001, bxl00Src s'_8)]) true (I v_9) (lookO [(7001, bxl00Src s'_9)]) ∧ (((bxl00Src s'_8 : Ob) = bxl00Src s'_8 ∨ obLe noOb true (bxl00Src s'_8) (bxl00Src s'_8)) ∧ taggedO false (bxl00Src s'_8)) ∧ True, inR .i64 (v_9 - 40)] ⟨⟨hc9, ⟨.inl rfl, (by simp [taggedO, taggedL, tagged, tagU8])⟩, trivial⟩, (inR_i64 (by omega) (by omega)), trivial⟩ ?_
      refine xe_block 1 ?_
      refine xe_then ?_
      refine x_r [] [0, 1, 2, 3, 8, 9, 10, 11, 12] [8, 9, 34, 7001] [.ref 7001 0, I (time' + (1 + v_4)), I (max 0 (min 4095 (((x' + dx) + v_5) - 4))), I (max 0 (min 4095 (((y' + dy) + v_6) - 4))), .ref 8 0, .ref 9 0, I (v_8 - 40), I (v_9 - 40), I (k - 1)] [some (.box [nilA]), some (.box [.arr 34]), some (.arr 3 (pts.length + 1) (catF pts.length (fPoint pts) (litF [I x', I y', I time'] 3))), some (bxl00Src s'_9)] [inR .i64 (k - 1)] ⟨(inR_i64 (by omega) (by omega)), trivial⟩ ?_
      refine xe_weak [(790, 34)] (T := [(0, .ref 7001 0), (1, I (time' + (1 + v_4))), (2, I (max 0 (min 4095 (((x' + dx) + v_5) - 4)))), (3, I (max 0 (min 4095 (((y' + dy) + v_6) - 4)))), (8, .ref 8 0), (9, .ref 9 0), (10, I (v_8 - 40)), (11, I (v_9 - 40)), (12, I (k - 1))]) (O := [(8, .box [nilA]), (9, .box [.arr 790]), (790, tAPoint (pts ++ [(Point.mk x' y' time')])), (7001, bxl00Src s'_9)]) rfl (⟨.inl rfl, .inl rfl, .inl rfl, .inl rfl, .inl rfl, .inl rfl, .inl rfl, .inl rfl, .inl rfl, trivial⟩) (⟨.inl rfl, .inl rfl, .inr ⟨rfl, (by first | rfl | (simp; done) | (simp; omega) | omega), fun i_ hi_ => .inl (cat_snoc (enc := cPoint) (xs := pts) rfl i_ hi_)⟩, .inl rfl, trivial⟩) (xe_again ((time' + (1 + v_4)), (max 0 (min 4095 (((x' + dx) + v_5) - 4))), (max 0 (min 4095 (((y' + dy) + v_6) - 4))), (v_8 - 40), (v_9 - 40), (k - 1), (pts ++ [(Point.mk x' y' time')]), s'_9) rfl (show (okSrc s'_9 ∧ s'_9.code = s.code ∧ s.atx ≤ s'_9.atx ∧ s'_9.atx ≤ s.atx + 6 + 12 * (10 - (k - 1))) ∧ (0 ≤ (k - 1) ∧ (k - 1) ≤ 10) ∧ (((pts ++ [(Point.mk x' y' time')]).length : Int) + (k - 1) ≤ 10 ∧ 1 ≤ ((pts ++ [(Point.mk x' y' time')]).length : Int) + (k - 1)) ∧ (time ≤ (time' + (1 + v_4)) ∧ (time' + (1 + v_4)) ≤ time + 21 * (10 - (k - 1))) ∧ (∀ p ∈ (pts ++ [(Point.mk x' y' time')]), time ≤ p.T ∧ p.T ≤ time + 210) ∧ (0 ≤ (max 0 (min 4095 (((x' + dx) + v_5) - 4))) ∧ (max 0 (min 4095 (((x' + dx) + v_5) - 4))) ≤ 100000 ∧ 0 ≤ (max 0 (min 4095 (((y' + dy) + v_6) - 4))) ∧ (max 0 (min 4095 (((y' + dy) + v_6) - 4))) ≤ 100000) ∧ (-40 ≤ (v_8 - 40) ∧ (v_8 - 40) ≤ 60 ∧ -40 ≤ (v_9 - 40) ∧ (v_9 - 40) ≤ 60) ∧ (dpts (pts ++ [(Point.mk x' y' time')]) (time' + (1 + v_4))) ∧ (px ≤ 4095 ∧ py ≤ 4095 → ((max 0 (min 4095 (((x' + dx) + v_5) - 4))) ≤ 4095 ∧ (max 0 (min 4095 (((y' + dy) + v_6) - 4))) ≤ 4095) ∧ ∀ p ∈ (pts ++ [(Point.mk x' y' time')]), okP p = true) ∧ True from ⟨(by exact ⟨by assumption, by first | assumption | rfl | (simp only [*]; done), by omega, by omega⟩), (by omega), (by simp; omega), (by omega), (by exact all_snoc hp0 (by dsimp only; omega)), (by omega), (by omega), (by exact dpts_snoc hdp rfl (by omega)), (by exact fun q => ⟨by have := (hok q).1; omega, all_snoc (hok q).2 (okP_iff.2 ⟨by have := (hok q).1; dsimp only; omega, by have := (hok q).1; dsimp only; omega, by dsimp only; omega⟩)⟩), trivial⟩) (by first | (show ((k - 1).toNat : Nat) < k.toNat; omega) | (dsimp only; omega)))
     subst h2
     refine x_r [(1, .lend [(7001, bxl00Src s'_6, bxl00Src s'_7)] [] [(true, .any), (true, .any)] true (Bv false))] [0, 1, 2, 3, 8, 9, 10, 11, 12, 60] [8, 9, 34, 7001] [.ref 7001 0, I (time' + (1 + v_4)), I (max 0 (min 4095 (((x' + dx) + v_5) - 4))), I (max 0 (min 4095 (((y' + dy) + v_6) - 4))), .ref 8 0, .ref 9 0, I dx, I dy, I k, Bv false] [some (.box [nilA]), some (.box [.arr 34]), some (.arr 3 (pts.length + 1) (catF pts.length (fPoint pts) (litF [I x', I y', I time'] 3))), some (bxl00Src s'_7)] [CallOK Tryz.prog 28 [.ref 7001 0, I 3] (lookO [(7001, bxl00Src s'_6)]) true (Bv false) (lookO [(7001, bxl00Src s'_7)]) ∧ (((bxl00Src s'_6 : Ob) = bxl00Src s'_6 ∨ obLe noOb true (bxl00Src s'_6) (bxl00Src s'_6)) ∧ taggedO false (bxl00Src s'_6)) ∧ True] ⟨⟨hc7, ⟨.inl rfl, (by simp [taggedO, taggedL, tagged, tagU8])⟩, trivial⟩, trivial⟩ ?_
     refine xe_then ?_
     refine x_false rfl ?_
     refine x_skip ?_
     refine xe_block 1 ?_
     refine xe_then ?_
     refine x_r [] [0, 1, 2, 3, 8, 9, 10, 11, 12] [8, 9, 34, 7001] [.ref 7001 0, I (time' + (1 + v_4)), I (max 0 (min 4095 (((x' + dx) + v_5) - 4))), I (max 0 (min 4095 (((y' + dy) + v_6) - 4))), .ref 8 0, .ref 9 0, I dx, I dy, I (k - 1)] [some (.box [nilA]), some (.box [.arr 34]), some (.arr 3 (pts.length + 1) (catF pts.length (fPoint pts) (litF [I x', I y', I time'] 3))), some (bxl00Src s'_7)] [inR .i64 (k - 1)] ⟨(inR_i64 (by omega) (by omega)), trivial⟩ ?_
     refine xe_weak [(790, 34)] (T := [(0, .ref 7001 0), (1, I (time' + (1 + v_4))), (2, I (max 0 (min 4095 (((x' + dx) + v_5) - 4)))), (3, I (max 0 (min 4095 (((y' + dy) + v_6) - 4)))), (8, .ref 8 0), (9, .ref 9 0), (10, I dx), (11, I dy), (12, I (k - 1))]) (O := [(8, .box [nilA]), (9, .box [.arr 790]), (790, tAPoint (pts ++ [(Point.mk x' y' time')])), (7001, bxl00Src s'_7)]) rfl (⟨.inl rfl, .inl rfl, .inl rfl, .inl rfl, .inl rfl, .inl rfl, .inl rfl, .inl rfl, .inl rfl, trivial⟩) (⟨.inl rfl, .inl rfl, .inr ⟨rfl, (by first | rfl | (simp; done) | (simp; omega) | omega), fun i_ hi_ => .inl (cat_snoc (enc := cPoint) (xs := pts) rfl i_ hi_)⟩, .inl rfl, trivial⟩) (xe_again ((time' + (1 + v_4)), (max 0 (min 4095 (((x' + dx) + v_5) - 4))), (max 0 (min 4095 (((y' + dy) + v_6) - 4))), dx, dy, (k - 1), (pts ++ [(Point.mk x' y' time')]), s'_7) rfl (show (okSrc s'_7 ∧ s'_7.code = s.code ∧ s.atx ≤ s'_7.atx ∧ s'_7.atx ≤ s.atx + 6 + 12 * (10 - (k - 1))) ∧ (0 ≤ (k - 1) ∧ (k - 1) ≤ 10) ∧ (((pts ++ [(Point.mk x' y' time')]).length : Int) + (k - 1) ≤ 10 ∧ 1 ≤ ((pts ++ [(Point.mk x' y' time')]).length : Int) + (k - 1)) ∧ (time ≤ (time' + (1 + v_4)) ∧ (time' + (1 + v_4)) ≤ time + 21 * (10 - (k - 1))) ∧ (∀ p ∈ (pts ++ [(Point.mk x' y' time')]), time ≤ p.T ∧ p.T ≤ time + 210) ∧ (0 ≤ (max 0 (min 4095 (((x' + dx) + v_5) - 4))) ∧ (max 0 (min 4095 (((x' + dx) + v_5) - 4))) ≤ 100000 ∧ 0 ≤ (max 0 (min 4095 (((y' + dy) + v_6) - 4))) ∧ (max 0 (min 4095 (((y' + dy) + v_6) - 4))) ≤ 100000) ∧ (-40 ≤ dx ∧ dx ≤ 60 ∧ -40 ≤ dy ∧ dy ≤ 60) ∧ (dpts (pts ++ [(Point.mk x' y' time')]) (time' + (1 + v_4))) ∧ (px ≤ 4095 ∧ py ≤ 4095 → ((max 0 (min 4095 (((x' + dx) + v_5) - 4))) ≤ 4095 ∧ (max 0 (min 4095 (((y' + dy) + v_6) - 4))) ≤ 4095) ∧ ∀ p ∈ (pts ++ [(Point.mk x' y' time')]), okP p = true) ∧ True from ⟨(by exact ⟨by assumption, by first | assumption | rfl | (simp only [*]; done), by omega, by omega⟩), (by omega), (by simp; omega), (by omega), (by exact all_snoc hp0 (by dsimp only; omega)), (by omega), (by omega), (by exact dpts_snoc hdp rfl (by omega)), (by exact fun q => ⟨by have := (hok q).1; omega, all_snoc (hok q).2 (okP_iff.2 ⟨by have := (hok q).1; dsimp only; omega, by have := (hok q).1; dsimp only; omega, by dsimp only; omega⟩)⟩), trivial⟩) (by first | (show ((k - 1).toNat : Nat) < k.toNat; omega) | (dsimp only; omega)))
    refine x_r [(1, .dec false)] [0, 1, 2, 3, 8, 9, 10, 11, 12, 24] [8, 9, 790, 7001] [.ref 7001 0, I time', I x', I y', .ref 8 0, .ref 9 0, I dx, I dy, I k, Bv false] [some (.box [nilA]), some (.box [.arr 790]), some (tAPoint pts), some (bxl00Src src)] [¬ (0 < k)] ⟨h1, trivial⟩ ?_
    refine xe_then ?_
    refine x_false rfl ?_
    refine x_exit ?_
    refine xe_exit_then ?_
    refine xe_loop_exit ?_
    refine xe_exit_same ?_
    refine xe_then ?_
    refine xR [] [8] [8, 790, 7001] [.ref 8 0] [some (.box [.arr 790]), some (tAPoint pts), some (bxl00Src src)] [] trivial ?_
    refine x_ret ?_
    refine xe_weak [(8001, 790)] (T := [(8, .ref 8 0)]) (O := [(8, .box [.arr 8001]), (7001, bxl00Src src), (8001, tAPoint pts)]) rfl (⟨.inl rfl, trivial⟩) (⟨.inl rfl, .inl rfl, .inl rfl, trivial⟩) ?_
    refine xe_end (src, pts) (show (okSrc src) ∧ (src.code = s.code) ∧ (s.atx + 0 ≤ src.atx ∧ src.atx ≤ s.atx + 200) ∧ (1 ≤ pts.length ∧ pts.length ≤ 10) ∧ (∀ p ∈ pts, time ≤ p.T ∧ p.T ≤ time + 210) ∧ (px ≤ 4095 ∧ py ≤ 4095 → okStroke' ⟨pts⟩ = true) ∧ (True) from ⟨(by first | exact fun q => okS_of (by omega) (by omega) (hok q).2 hdp.2 | omega | assumption | (simp_all; done)), (by first | exact fun q => okS_of (by omega) (by omega) (hok q).2 hdp.2 | omega | assumption | (simp_all; done)), (by first | exact fun q => okS_of (by omega) (by omega) (hok q).2 hdp.2 | omega | assumption | (simp_all; done)), (by first | exact fun q => okS_of (by omega) (by omega) (hok q).2 hdp.2 | omega | assumption | (simp_all; done)), (by first | exact fun q => okS_of (by omega) (by omega) (hok q).2 hdp.2 | omega | assumption | (simp_all; done)), (by first | exact fun q => okS_of (by omega) (by omega) (hok q).2 hdp.2 | omega | assumption | (simp_all; done)), trivial⟩) (⟨.inl rfl, .inl rfl, trivial⟩) (.agg [.arr 8001]) (by kernel_rfl) (.inl rfl) (fun h => by cases h) (fun h => by cases h)
  obtain ⟨⟨s', pts⟩, ⟨hh0, hh1, hh2, hh3, hh4, hh5, _⟩, hc⟩ := hh
  exact ⟨s', pts, hh0, hh1, hh2, hh3, hh4, hh5, hc⟩
theorem l02Last_ok (s : Stroke) (hl : 1 ≤ s.Points.length) : Con Tryz.prog 74 [.ptr false [slPoint false s.Points]] true (I ((at_ s.Points (s.Points.length - 1)).T)) := by
  refine fn_ok (fn := Tryz.f74) (nt := 16) Tryz.func74 rfl rfl rfl rfl (by simp [taggedL, tagged, tagPoint]) fun B hB => ?_
  refine aw_lens (x := .ptr false [slPoint false s.Points]) 0 rfl (fun len_s => ?_)
  simp [LenOK, LenL, cPoint, fPoint, slPoint] at len_s
  refine aR [] [0] [] [.ptr false [slPoint false s.Points]] [] [] hB trivial ?_
  refine aR [] [2] [] [I ((at_ s.Points (((s.Points.length : Int) - 1).toNat)).T)] [] [inR .i64 ((s.Points.length : Int) - 1), (0 : Int) ≤ ((s.Points.length : Int) - 1) ∧ ((s.Points.length : Int) - 1) < (s.Points.length : Int)] hB ⟨(inR_i64 (by omega) (by omega)), ⟨(by omega), (by omega)⟩, trivial⟩ ?_
  refine aw_ret ?_
  refine ae_ret hB (I ((at_ s.Points (((s.Points.length : Int) - 1).toNat)).T)) (by kernel_rfl) (.inl (by (have e : ((s.Points.length : Int) - 1).toNat = s.Points.length - 1 := by omega); rw [e])) rfl (fun _ => trivial)
theorem le_row {ob : Nat → Option Ob} {F N sz p n : Nat} {m : Nat → Nat} {g : Nat → Nat → List AV} {fr : Bool} {f : Nat → List AV} (h : ob F = some (.fam N sz m g)) (hp : p < N) (hn : m p = n)
    (hf : ∀ i, i < n → g p i = f i ∨ (AV.idsL (f i) = [] ∧ leL (fun _ => none) false (g p i) (f i))) : le ob true (.row F p) (.sl fr sz n f) := by
  simp only [le, h]
  exact ⟨fun _ => trivial, hp, trivial, hn, hf⟩
def oStrokec (F : Nat) (x : Stroke) (i : Nat) : List AV := [.row F i]
def oStroke (F : Nat) (xs : List Stroke) (i : Nat) : List AV := oStrokec F (at_ xs i) i
def mStroke (xs : List Stroke) (p : Nat) : Nat := ((at_ xs p).Points).length
def gStroke (xs : List Stroke) (p : Nat) : Nat → List AV := fPoint ((at_ xs p).Points)
abbrev tOStroke (F : Nat) (xs : List Stroke) : Ob := .oar [F] 1 xs.length (oStroke F xs)
abbrev tFStroke (xs : List Stroke) : Ob := .fam xs.length 3 (mStroke xs) (gStroke xs)
theorem oleStroke {ob : Nat → Option Ob} {F : Nat} (fr : Bool) (xs : List Stroke) (h : ob F = some (.fam xs.length 3 (mStroke xs) (gStroke xs))) : ∀ i, i < xs.length → AV.idsL (fStroke fr xs i) = [] ∧ leL ob true (oStroke F xs i) (fStroke fr xs i) :=
  fun i hi => And.intro rfl (And.intro (le_row h hi rfl (fun q _ => .inl rfl)) rfl)
theorem ocatStroke {F j N : Nat} (hF : Nat.beq F j = false) {xs : List Stroke} {x : Stroke} {g : Nat → List AV} (hN : N = xs.length) (hx : AV.joiL j F N (g 0) = oStrokec F x N) : ∀ i, i < (xs ++ [x]).length → AV.joiL j F N (catF xs.length (oStroke F xs) g i) = oStroke F (xs ++ [x]) i := by
  subst hN
  intro i hi
  by_cases h : i < xs.length
  · rw [catF_lt h]
    simp [oStroke, oStrokec, at_left h, AV.joiL, AV.joi, hF]
  · have e : i = xs.length := by simp at hi; omega
    subst e
    rw [catF_ge (Nat.le_refl _), Nat.sub_self, hx]
    simp [oStroke, at_right (Nat.le_refl _), at_]
theorem fcatStroke {xs : List Stroke} (x : Stroke) {n : Nat} {f : Nat → List AV} (hn : n = x.Points.length) (hf : ∀ i, i < n → f i = fPoint x.Points i) : xs.length + 1 = (xs ++ [x]).length ∧ 3 = 3 ∧ ∀ p, p < (xs ++ [x]).length → famUp xs.length n (mStroke xs) p = mStroke (xs ++ [x]) p ∧ ∀ i, i < mStroke (xs ++ [x]) p → famUpF xs.length f (gStroke xs) p i = gStroke (xs ++ [x]) p i ∨ (AV.idsL (gStroke (xs ++ [x]) p i) = [] ∧ leL (fun _ => none) false (famUpF xs.length f (gStroke xs) p i) (gStroke (xs ++ [x]) p i)) := by
  refine ⟨by simp, rfl, fun p hp => ?_⟩
  by_cases h : p < xs.length
  · have e : Nat.beq p xs.length = false := Bool.eq_false_iff.2 fun e => by have := Nat.eq_of_beq_eq_true e; omega
    simp [famUp, famUpF, e, mStroke, gStroke, at_left h]
  · have e : p = xs.length := by simp at hp; omega
    subst e
    have e2 : at_ (xs ++ [x]) xs.length = x := by simp [at_right (Nat.le_refl _), at_]
    simp only [famUp, famUpF, Nat.beq_refl, cond_true, mStroke, gStroke, e2]
    exact ⟨hn, fun i hi => .inl (hf i (by omega))⟩
theorem l14Draw_ok (s : l00Src) (most : Int) (hs : okSrc s) (ha : s.atx ≤ 3999999999999992000) (hm : 0 ≤ most ∧ most ≤ 10) : ∃ (s' : l00Src) (ss : List Stroke), (okSrc s') ∧ (s'.code = s.code) ∧ (s.atx + 0 ≤ s'.atx ∧ s'.atx ≤ s.atx + 4000) ∧ ((ss.length : Int) ≤ most) ∧ (okInk' ⟨ss⟩ = true) ∧ CallOK Tryz.prog 29 [.ref 7001 0, I most] (lookO [(7001, bxl00Src s)]) false (.agg [.arr 8321]) (lookO [(7001, bxl00Src s'), (8321, tOStroke 8322 ss), (8322, tFStroke ss)]) := by
  have hh : ∃ r : l00Src × (List Stroke), ((okSrc r.1) ∧ (r.1.code = s.code) ∧ (s.atx + 0 ≤ r.1.atx ∧ r.1.atx ≤ s.atx + 4000) ∧ ((r.2.length : Int) ≤ most) ∧ (okInk' ⟨r.2⟩ = true) ∧ (True)) ∧ CallOK Tryz.prog 29 [.ref 7001 0, I most] (lookO [(7001, bxl00Src s)]) false (.agg [.arr 8321]) (lookO [(7001, bxl00Src r.1), (8321, tOStroke 8322 r.2), (8322, tFStroke r.2)]) := by
    refine fn_okX (Φ := fun r : l00Src × (List Stroke) => (okSrc r.1) ∧ (r.1.code = s.code) ∧ (s.atx + 0 ≤ r.1.atx ∧ r.1.atx ≤ s.atx + 4000) ∧ ((r.2.length : Int) ≤ most) ∧ (okInk' ⟨r.2⟩ = true) ∧ (True)) [(7001, bxl00Src s)] (fun r => [(7001, bxl00Src r.1), (8321, tOStroke 8322 r.2), (8322, tFStroke r.2)]) (fn := Tryz.f29) (nt := 75) Tryz.func29 rfl rfl (args := [.ref 7001 0, I most]) rfl (allcons (.inr trivial) (allcons (.inl ⟨rfl, trivial⟩) allnil)) (res := fun r => .agg [.arr 8321]) ?_
    refine xR [(0, .new 4)] [0, 1, 4] [4, 7001] [.ref 7001 0, I most, .ref 4 0] [some (.box [nilA]), some (bxl00Src s)] [] trivial ?_
    refine xR [(1, .new 5)] [0, 1, 4, 5] [4, 5, 7001] [.ref 7001 0, I most, .ref 4 0, .ref 5 0] [some (.box [nilA]), some (.box [nilA]), some (bxl00Src s)] [] trivial ?_
    refine xR [] [0, 1, 4, 5, 6] [4, 5, 7001] [.ref 7001 0, I most, .ref 4 0, .ref 5 0, I 0] [some (.box [nilA]), some (.box [nilA]), some (bxl00Src s)] [] trivial ?_
    refine x_seq ?_
    obtain ⟨v_1, s'_1, hx1_0, hx1_1, hx1_2, hx1_3, hc1⟩ := pick_ok s 200 (by first | assumption | (simp only [okSrc] at *; simp_all; done)) (by omega)
    refine x_r [(1, .lend [(7001, bxl00Src s, bxl00Src s'_1)] [] [(true, .any), (true, .any)] true (I v_1))] [0, 1, 4, 5, 6, 7] [4, 5, 7001] [.ref 7001 0, I most, .ref 4 0, .ref 5 0, I 0, I v_1] [some (.box [nilA]), some (.box [nilA]), some (bxl00Src s'_1)] [CallOK Tryz.prog 49 [.ref 7001 0, I 200] (lookO [(7001, bxl00Src s)]) true (I v_1) (lookO [(7001, bxl00Src s'_1)]) ∧ (((bxl00Src s : Ob) = bxl00Src s ∨ obLe noOb true (bxl00Src s) (bxl00Src s)) ∧ taggedO false (bxl00Src s)) ∧ True] ⟨⟨hc1, ⟨.inl rfl, (by simp [taggedO, taggedL, tagged, tagU8])⟩, trivial⟩, trivial⟩ ?_
    refine xe_then ?_
    refine x_seq ?_
    refine x_seq ?_
    obtain ⟨v_2, s'_2, hx2_0, hx2_1, hx2_2, hx2_3, hc2⟩ := pick_ok s'_1 (most + 1) (by first | assumption | (simp only [okSrc] at *; simp_all; done)) (by omega)
    refine x_r [(3, .lend [(7001, bxl00Src s'_1, bxl00Src s'_2)] [] [(true, .any), (true, .any)] true (I v_2))] [0, 4, 5, 6, 7, 8] [4, 5, 7001] [.ref 7001 0, .ref 4 0, .ref 5 0, I 0, I v_1, I v_2] [some (.box [nilA]), some (.box [nilA]), some (bxl00Src s'_2)] [inR .i64 (most + 1), CallOK Tryz.prog 49 [.ref 7001 0, I (most + 1)] (lookO [(7001, bxl00Src s'_1)]) true (I v_2) (lookO [(7001, bxl00Src s'_2)]) ∧ (((bxl00Src s'_1 : Ob) = bxl00Src s'_1 ∨ obLe noOb true (bxl00Src s'_1) (bxl00Src s'_1)) ∧ taggedO false (bxl00Src s'_1)) ∧ True] ⟨(inR_i64 (by omega) (by omega)), ⟨hc2, ⟨.inl rfl, (by simp [taggedO, taggedL, tagged, tagU8])⟩, trivial⟩, trivial⟩ ?_
    refine xe_then ?_
    refine x_block ?_
    refine x_nilC 5 0 750 1 (fun _ => []) rfl (by kernel_rfl) ?_
    refine x_fam 8322 3 (fun _ => 0) (fun _ _ => []) (by kernel_rfl) ?_
    refine x_weak [] (T := [(0, .ref 7001 0), (4, .ref 4 0), (5, .ref 5 0), (6, I 0), (7, I v_1), (8, I v_2)]) (O := [(4, .box [nilA]), (5, .box [.arr 750]), (750, tOStroke 8322 ([] : List Stroke)), (7001, bxl00Src s'_2), (8322, tFStroke ([] : List Stroke))]) rfl (⟨.inl rfl, .inl rfl, .inl rfl, .inl rfl, .inl rfl, .inl rfl, trivial⟩) (⟨.inl rfl, .inl rfl, .inr ⟨rfl, rfl, fun i hi => absurd hi (Nat.not_lt_zero _)⟩, .inl rfl, .inr ⟨rfl, rfl, fun p hp => absurd hp (Nat.not_lt_zero _)⟩, trivial⟩) ?_
    refine x_loop (X := Int × Int × Int × (List Stroke) × l00Src) (fun x => mkS [(0, .ref 7001 0), (4, .ref 4 0), (5, .ref 5 0), (6, I x.1), (7, I x.2.1), (8, I x.2.2.1)] [(4, .box [nilA]), (5, .box [.arr 750]), (750, tOStroke 8322 x.2.2.2.1), (7001, bxl00Src x.2.2.2.2), (8322, tFStroke x.2.2.2.1)]) (fun x => (okSrc x.2.2.2.2 ∧ x.2.2.2.2.code = s.code ∧ s.atx ≤ x.2.2.2.2.atx ∧ x.2.2.2.2.atx ≤ s.atx + 10 + 260 * (most - x.2.2.1)) ∧ (0 ≤ x.2.2.1 ∧ x.2.2.1 ≤ most) ∧ ((x.2.2.2.1.length : Int) + x.2.2.1 ≤ most) ∧ (0 ≤ x.1 ∧ x.1 ≤ 100 + 500 * (most - x.2.2.1)) ∧ (0 ≤ x.2.1 ∧ x.2.1 ≤ 200 + 300 * (most - x.2.2.1)) ∧ (inkD x.2.2.2.1 x.1) ∧ True) (fun x => x.2.2.1.toNat) (0, v_1, v_2, ([] : List Stroke), s'_2) rfl (show (okSrc s'_2 ∧ s'_2.code = s.code ∧ s.atx ≤ s'_2.atx ∧ s'_2.atx ≤ s.atx + 10 + 260 * (most - v_2)) ∧ (0 ≤ v_2 ∧ v_2 ≤ most) ∧ ((([] : List Stroke).length : Int) + v_2 ≤ most) ∧ (0 ≤ (0 : Int) ∧ (0 : Int) ≤ 100 + 500 * (most - v_2)) ∧ (0 ≤ v_1 ∧ v_1 ≤ 200 + 300 * (most - v_2)) ∧ (inkD ([] : List Stroke) (0 : Int)) ∧ True from ⟨(by exact ⟨by assumption, by first | assumption | rfl | (simp only [*]; done), by omega, by omega⟩), (by omega), (by simp; omega), (by omega), (by omega), (by exact inkD_nil _), trivial⟩) (fun x hI => ?_)
    obtain ⟨time, x, k, ss, src⟩ := x
    obtain ⟨hs0, hk0, hl0, ht0, hx0, hik, _⟩ : (okSrc src ∧ src.code = s.code ∧ s.atx ≤ src.atx ∧ src.atx ≤ s.atx + 10 + 260 * (most - k)) ∧ (0 ≤ k ∧ k ≤ most) ∧ ((ss.length : Int) + k ≤ most) ∧ (0 ≤ time ∧ time ≤ 100 + 500 * (most - k)) ∧ (0 ≤ x ∧ x ≤ 200 + 300 * (most - k)) ∧ (inkD ss time) ∧ True := hI
    show XW _ _ _ _ (mkS [(0, .ref 7001 0), (4, .ref 4 0), (5, .ref 5 0), (6, I time), (7, I x), (8, I k)] [(4, .box [nilA]), (5, .box [.arr 750]), (750, tOStroke 8322 ss), (7001, bxl00Src src), (8322, tFStroke ss)]) _ _
    refine x_seq ?_
    refine x_seq ?_
    by_cases h1 : 0 < k
    ·refine x_r [(1, .dec true)] [0, 4, 5, 6, 7, 8, 19] [4, 5, 750, 7001, 8322] [.ref 7001 0, .ref 4 0, .ref 5 0, I time, I x, I k, Bv true] [some (.box [nilA]), some (.box [.arr 750]), some (tOStroke 8322 ss), some (bxl00Src src), some (tFStroke ss)] [0 < k] ⟨h1, trivial⟩ ?_
     refine xe_then ?_
     refine x_true rfl ?_
     refine x_skip ?_
     refine xe_then ?_
     refine x_seq ?_
     refine x_block ?_
     refine x_seq ?_
     obtain ⟨s'_3, pts_3, hx3_0, hx3_1, hx3_2, hx3_3, hx3_4, hx3_5, hc3⟩ := l02DrawStroke_ok src time x 300 (by first | assumption | (simp only [okSrc] at *; simp_all; done)) (by omega) (by omega)
     have hlt : time ≤ (at_ (Stroke.mk pts_3).Points ((Stroke.mk pts_3).Points.length - 1)).T ∧ (at_ (Stroke.mk pts_3).Points ((Stroke.mk pts_3).Points.length - 1)).T ≤ time + 210 := hx3_4 _ (last_mem (xs := pts_3) (by omega))
     have hvs : okStroke' (Stroke.mk pts_3) = true := hx3_5 ⟨by omega, by omega⟩
     have hvt := hx3_4
     refine x_r [(3, .lend [(7001, bxl00Src src, bxl00Src s'_3)] [(8001, tAPoint pts_3)] [(true, .any), (true, .any), (true, .any), (true, .any)] false (.agg [.arr 8001])), (4, .new 9)] [0, 4, 5, 6, 7, 8, 9] [4, 5, 9, 750, 7001, 8001, 8322] [.ref 7001 0, .ref 4 0, .ref 5 0, I time, I x, I k, .ref 9 0] [some (.box [nilA]), some (.box [.arr 750]), some (.box [.arr 8001]), some (tOStroke 8322 ss), some (bxl00Src s'_3), some (tAPoint pts_3), some (tFStroke ss)] [CallOK Tryz.prog 73 [.ref 7001 0, I time, I x, I 300] (lookO [(7001, bxl00Src src)]) false (.agg [.arr 8001]) (lookO [(7001, bxl00Src s'_3), (8001, tAPoint pts_3)]) ∧ (((bxl00Src src : Ob) = bxl00Src src ∨ obLe noOb true (bxl00Src src) (bxl00Src src)) ∧ taggedO false (bxl00Src src)) ∧ True] ⟨⟨hc3, ⟨.inl rfl, (by simp [taggedO, taggedL, tagged, tagU8])⟩, trivial⟩, trivial⟩ ?_
     refine xe_then ?_
     refine x_seq ?_
     refine x_seq ?_
     obtain ⟨v_4, s'_4, hx4_0, hx4_1, hx4_2, hc4⟩ := one_ok s'_3 3 (by first | assumption | (simp only [okSrc] at *; simp_all; done)) (by omega)
     rcases Bool.eq_false_or_eq_true v_4 with h2 | h2
     ·subst h2
      refine x_r [(1, .lend [(7001, bxl00Src s'_3, bxl00Src s'_4)] [] [(true, .any), (true, .any)] true (Bv true))] [0, 4, 5, 6, 7, 8, 9, 27] [4, 5, 9, 750, 7001, 8001, 8322] [.ref 7001 0, .ref 4 0, .ref 5 0, I time, I x, I k, .ref 9 0, Bv true] [some (.box [nilA]), some (.box [.arr 750]), some (.box [.arr 8001]), some (tOStroke 8322 ss), some (bxl00Src s'_4), some (tAPoint pts_3), some (tFStroke ss)] [CallOK Tryz.prog 28 [.ref 7001 0, I 3] (lookO [(7001, bxl00Src s'_3)]) true (Bv true) (lookO [(7001, bxl00Src s'_4)]) ∧ (((bxl00Src s'_3 : Ob) = bxl00Src s'_3 ∨ obLe noOb true (bxl00Src s'_3) (bxl00Src s'_3)) ∧ taggedO false (bxl00Src s'_3)) ∧ True] ⟨⟨hc4, ⟨.inl rfl, (by simp [taggedO, taggedL, tagged, tagU8])⟩, trivial⟩, trivial⟩ ?_
      refine xe_then ?_
      refine x_true rfl ?_
      refine x_seq ?_
      obtain ⟨v_5, s'_5, hx5_0, hx5_1, hx5_2, hx5_3, hc5⟩ := pick_ok s'_4 (x + 60) (by first | assumption | (simp only [okSrc] at *; simp_all; done)) (by omega)
      refine x_r [(3, .lend [(7001, bxl00Src s'_4, bxl00Src s'_5)] [] [(true, .any), (true, .any)] true (I v_5))] [0, 4, 5, 6, 7, 8, 9, 10] [4, 5, 9, 750, 7001, 8001, 8322] [.ref 7001 0, .ref 4 0, .ref 5 0, I time, I x, I k, .ref 9 0, I v_5] [some (.box [nilA]), some (.box [.arr 750]), some (.box [.arr 8001]), some (tOStroke 8322 ss), some (bxl00Src s'_5), some (tAPoint pts_3), some (tFStroke ss)] [inR .i64 (x + 60), CallOK Tryz.prog 49 [.ref 7001 0, I (x + 60)] (lookO [(7001, bxl00Src s'_4)]) true (I v_5) (lookO [(7001, bxl00Src s'_5)]) ∧ (((bxl00Src s'_4 : Ob) = bxl00Src s'_4 ∨ obLe noOb true (bxl00Src s'_4) (bxl00Src s'_4)) ∧ taggedO false (bxl00Src s'_4)) ∧ True] ⟨(inR_i64 (by omega) (by omega)), ⟨hc5, ⟨.inl rfl, (by simp [taggedO, taggedL, tagged, tagU8])⟩, trivial⟩, trivial⟩ ?_
      refine xe_then ?_
      obtain ⟨v_6, s'_6, hx6_0, hx6_1, hx6_2, hx6_3, hc6⟩ := pick_ok s'_5 200 (by first | assumption | (simp only [okSrc] at *; simp_all; done)) (by omega)
      refine x_r [(5, .lend [(7001, bxl00Src s'_5, bxl00Src s'_6)] [] [(true, .any), (true, .any)] true (I v_6)), (10, .new 42)] [0, 4, 5, 7, 8, 9] [4, 5, 9, 42, 750, 7001, 8322] [.ref 7001 0, .ref 4 0, .ref 5 0, I x, I k, .ref 9 0] [some (.box [nilA]), some (.box [.arr 750]), some (.box [.arr 42]), some (.arr 3 2 (litF [I v_5, I 200, I time, I (v_5 + v_6), I 210, I (time + 5)] 3)), some (tOStroke 8322 ss), some (bxl00Src s'_6), some (tFStroke ss)] [CallOK Tryz.prog 49 [.ref 7001 0, I 200] (lookO [(7001, bxl00Src s'_5)]) true (I v_6) (lookO [(7001, bxl00Src s'_6)]) ∧ (((bxl00Src s'_5 : Ob) = bxl00Src s'_5 ∨ obLe noOb true (bxl00Src s'_5) (bxl00Src s'_5)) ∧ taggedO false (bxl00Src s'_5)) ∧ True, inR .i64 (v_5 + v_6), inR .i64 (time + 5)] ⟨⟨hc6, ⟨.inl rfl, (by simp [taggedO, taggedL, tagged, tagU8])⟩, trivial⟩, (inR_i64 (by omega) (by omega)), (inR_i64 (by omega) (by omega)), trivial⟩ ?_
      refine xe_then ?_
      refine xR [(3, .new 66), (4, .new 67)] [0, 4, 5, 7, 8, 9] [4, 5, 9, 42, 67, 7001, 8322] [.ref 7001 0, .ref 4 0, .ref 5 0, I x, I k, .ref 9 0] [some (.box [nilA]), some (.box [.arr 67]), some (.box [.arr 42]), some (.arr 3 2 (litF [I v_5, I 200, I time, I (v_5 + v_6), I 210, I (time + 5)] 3)), some (.oar [8322, 42] 1 (ss.length + 1) (catF ss.length (oStroke 8322 ss) (litF [.arr 42] 1))), some (bxl00Src s'_6), some (tFStroke ss)] [(ss.length + 1) * 24 ≤ 140737488355328] ⟨(by omega), trivial⟩ ?_
      obtain ⟨v_7, s'_7, hx7_0, hx7_1, hx7_2, hx7_3, hc7⟩ := pick_ok s'_6 50 (by first | assumption | (simp only [okSrc] at *; simp_all; done)) (by omega)
      refine x_r [(0, .call [(false, .ptr false [slPoint false ([(Point.mk v_5 200 time), (Point.mk (v_5 + v_6) 210 (time + 5))])])] true (I ((at_ (Stroke.mk ([(Point.mk v_5 200 time), (Point.mk (v_5 + v_6) 210 (time + 5))])).Points ((Stroke.mk ([(Point.mk v_5 200 time), (Point.mk (v_5 + v_6) 210 (time + 5))])).Points.length - 1)).T))), (3, .lend [(7001, bxl00Src s'_6, bxl00Src s'_7)] [] [(true, .any), (true, .any)] true (I v_7))] [0, 4, 5, 6, 7, 8] [4, 5, 42, 67, 7001, 8322] [.ref 7001 0, .ref 4 0, .ref 5 0, I ((((at_ (Stroke.mk ([(Point.mk v_5 200 time), (Point.mk (v_5 + v_6) 210 (time + 5))])).Points ((Stroke.mk ([(Point.mk v_5 200 time), (Point.mk (v_5 + v_6) 210 (time + 5))])).Points.length - 1)).T) + 1) + v_7), I x, I k] [some (.box [nilA]), some (.box [.arr 67]), some (.arr 3 2 (litF [I v_5, I 200, I time, I (v_5 + v_6), I 210, I (time + 5)] 3)), some (.oar [8322, 42] 1 (ss.length + 1) (catF ss.length (oStroke 8322 ss) (litF [.arr 42] 1))), some (bxl00Src s'_7), some (tFStroke ss)] [Con Tryz.prog 74 [.ptr false [slPoint false ([(Point.mk v_5 200 time), (Point.mk (v_5 + v_6) 210 (time + 5))])]] true (I ((at_ (Stroke.mk ([(Point.mk v_5 200 time), (Point.mk (v_5 + v_6) 210 (time + 5))])).Points ((Stroke.mk ([(Point.mk v_5 200 time), (Point.mk (v_5 + v_6) 210 (time + 5))])).Points.length - 1)).T)) ∧ ((false = true → true = true) ∧ AV.idsL [slPoint false ([(Point.mk v_5 200 time), (Point.mk (v_5 + v_6) 210 (time + 5))])] = [] ∧ ((false = true → true = true) ∧ 3 = 3 ∧ 2 = (([(Point.mk v_5 200 time), (Point.mk (v_5 + v_6) 210 (time + 5))]).length) ∧ ∀ i_, i_ < (([(Point.mk v_5 200 time), (Point.mk (v_5 + v_6) 210 (time + 5))]).length) → (litF [I v_5, I 200, I time, I (v_5 + v_6), I 210, I (time + 5)] 3) i_ = (fPoint ([(Point.mk v_5 200 time), (Point.mk (v_5 + v_6) 210 (time + 5))])) i_ ∨ (AV.idsL ((fPoint ([(Point.mk v_5 200 time), (Point.mk (v_5 + v_6) 210 (time + 5))])) i_) = [] ∧ leL (fun _ => none) false ((litF [I v_5, I 200, I time, I (v_5 + v_6), I 210, I (time + 5)] 3) i_) ((fPoint ([(Point.mk v_5 200 time), (Point.mk (v_5 + v_6) 210 (time + 5))])) i_))) ∧ ([] : List AV) = []) ∧ True, inR .i64 (((at_ (Stroke.mk ([(Point.mk v_5 200 time), (Point.mk (v_5 + v_6) 210 (time + 5))])).Points ((Stroke.mk ([(Point.mk v_5 200 time), (Point.mk (v_5 + v_6) 210 (time + 5))])).Points.length - 1)).T) + 1), CallOK Tryz.prog 49 [.ref 7001 0, I 50] (lookO [(7001, bxl00Src s'_6)]) true (I v_7) (lookO [(7001, bxl00Src s'_7)]) ∧ (((bxl00Src s'_6 : Ob) = bxl00Src s'_6 ∨ obLe noOb true (bxl00Src s'_6) (bxl00Src s'_6)) ∧ taggedO false (bxl00Src s'_6)) ∧ True, inR .i64 ((((at_ (Stroke.mk ([(Point.mk v_5 200 time), (Point.mk (v_5 + v_6) 210 (time + 5))])).Points ((Stroke.mk ([(Point.mk v_5 200 time), (Point.mk (v_5 + v_6) 210 (time + 5))])).Points.length - 1)).T) + 1) + v_7)] ⟨⟨(l02Last_ok (Stroke.mk ([(Point.mk v_5 200 time), (Point.mk (v_5 + v_6) 210 (time + 5))])) (by first | assumption | (simp only; omega) | (simp; done))), ⟨(fun h => by cases h), rfl, ⟨⟨(fun h => by cases h), rfl, (by first | rfl | (simp; done) | (simp; omega) | omega), fun i_ hi_ => .inl (match i_, hi_ with | 0, _ => rfl | 1, _ => rfl | (i + 2), h => absurd h (by simp))⟩, rfl⟩⟩, trivial⟩, (inR_i64 (by (first | omega | (simp [at_]; omega))) (by (first | omega | (simp [at_]; omega)))), ⟨hc7, ⟨.inl rfl, (by simp [taggedO, taggedL, tagged, tagU8])⟩, trivial⟩, (inR_i64 (by (first | omega | (simp [at_]; omega))) (by (first | omega | (simp [at_]; omega)))), trivial⟩ ?_
      refine xe_block 1 ?_
      refine xe_then ?_
      refine x_r [] [0, 4, 5, 6, 7, 8] [4, 5, 42, 67, 7001, 8322] [.ref 7001 0, .ref 4 0, .ref 5 0, I ((((at_ (Stroke.mk ([(Point.mk v_5 200 time), (Point.mk (v_5 + v_6) 210 (time + 5))])).Points ((Stroke.mk ([(Point.mk v_5 200 time), (Point.mk (v_5 + v_6) 210 (time + 5))])).Points.length - 1)).T) + 1) + v_7), I x, I (k - 1)] [some (.box [nilA]), some (.box [.arr 67]), some (.arr 3 2 (litF [I v_5, I 200, I time, I (v_5 + v_6), I 210, I (time + 5)] 3)), some (.oar [8322, 42] 1 (ss.length + 1) (catF ss.length (oStroke 8322 ss) (litF [.arr 42] 1))), some (bxl00Src s'_7), some (tFStroke ss)] [inR .i64 (k - 1)] ⟨(inR_i64 (by omega) (by omega)), trivial⟩ ?_
      refine xe_join 42 8322 rfl rfl rfl ?_
      refine xe_weak [(750, 67)] (T := [(0, .ref 7001 0), (4, .ref 4 0), (5, .ref 5 0), (6, I ((((at_ (Stroke.mk ([(Point.mk v_5 200 time), (Point.mk (v_5 + v_6) 210 (time + 5))])).Points ((Stroke.mk ([(Point.mk v_5 200 time), (Point.mk (v_5 + v_6) 210 (time + 5))])).Points.length - 1)).T) + 1) + v_7)), (7, I x), (8, I (k - 1))]) (O := [(4, .box [nilA]), (5, .box [.arr 750]), (750, tOStroke 8322 (ss ++ [(Stroke.mk ([(Point.mk v_5 200 time), (Point.mk (v_5 + v_6) 210 (time + 5))]))])), (7001, bxl00Src s'_7), (8322, tFStroke (ss ++ [(Stroke.mk ([(Point.mk v_5 200 time), (Point.mk (v_5 + v_6) 210 (time + 5))]))]))]) rfl (⟨.inl rfl, .inl rfl, .inl rfl, .inl rfl, .inl rfl, .inl rfl, trivial⟩) (⟨.inl rfl, .inl rfl, .inr ⟨rfl, rfl, (by simp), fun i hi => .inl (ocatStroke rfl rfl rfl i hi)⟩, .inl rfl, .inr (fcatStroke (Stroke.mk ([(Point.mk v_5 200 time), (Point.mk (v_5 + v_6) 210 (time + 5))])) (by first | rfl | (simp; done)) (fun i_ hi_ => (match i_, hi_ with | 0, _ => rfl | 1, _ => rfl | (i + 2), h => absurd h (by simp)))), trivial⟩) (xe_again (((((at_ (Stroke.mk ([(Point.mk v_5 200 time), (Point.mk (v_5 + v_6) 210 (time + 5))])).Points ((Stroke.mk ([(Point.mk v_5 200 time), (Point.mk (v_5 + v_6) 210 (time + 5))])).Points.length - 1)).T) + 1) + v_7), x, (k - 1), (ss ++ [(Stroke.mk ([(Point.mk v_5 200 time), (Point.mk (v_5 + v_6) 210 (time + 5))]))]), s'_7) rfl (show (okSrc s'_7 ∧ s'_7.code = s.code ∧ s.atx ≤ s'_7.atx ∧ s'_7.atx ≤ s.atx + 10 + 260 * (most - (k - 1))) ∧ (0 ≤ (k - 1) ∧ (k - 1) ≤ most) ∧ (((ss ++ [(Stroke.mk ([(Point.mk v_5 200 time), (Point.mk (v_5 + v_6) 210 (time + 5))]))]).length : Int) + (k - 1) ≤ most) ∧ (0 ≤ ((((at_ (Stroke.mk ([(Point.mk v_5 200 time), (Point.mk (v_5 + v_6) 210 (time + 5))])).Points ((Stroke.mk ([(Point.mk v_5 200 time), (Point.mk (v_5 + v_6) 210 (time + 5))])).Points.length - 1)).T) + 1) + v_7) ∧ ((((at_ (Stroke.mk ([(Point.mk v_5 200 time), (Point.mk (v_5 + v_6) 210 (time + 5))])).Points ((Stroke.mk ([(Point.mk v_5 200 time), (Point.mk (v_5 + v_6) 210 (time + 5))])).Points.length - 1)).T) + 1) + v_7) ≤ 100 + 500 * (most - (k - 1))) ∧ (0 ≤ x ∧ x ≤ 200 + 300 * (most - (k - 1))) ∧ (inkD (ss ++ [(Stroke.mk ([(Point.mk v_5 200 time), (Point.mk (v_5 + v_6) 210 (time + 5))]))]) ((((at_ (Stroke.mk ([(Point.mk v_5 200 time), (Point.mk (v_5 + v_6) 210 (time + 5))])).Points ((Stroke.mk ([(Point.mk v_5 200 time), (Point.mk (v_5 + v_6) 210 (time + 5))])).Points.length - 1)).T) + 1) + v_7)) ∧ True from ⟨(by exact ⟨by assumption, by first | assumption | rfl | (simp only [*]; done), by omega, by omega⟩), (by omega), (by simp; omega), (by (first | omega | (simp [at_]; omega))), (by omega), (by first | exact inkD_snoc hik hvs (fun p hp => (hvt p hp).1) (by have := hlt; unfold lastT; omega) (by omega) (by omega) | exact inkD_two hik (by omega) (by omega) (by omega) (by first | omega | (simp [at_]; omega)) (by omega)), trivial⟩) (by first | (show ((k - 1).toNat : Nat) < k.toNat; omega) | (dsimp only; omega)))
     subst h2
     refine x_r [(1, .lend [(7001, bxl00Src s'_3, bxl00Src s'_4)] [] [(true, .any), (true, .any)] true (Bv false))] [0, 4, 5, 6, 7, 8, 9, 27] [4, 5, 9, 750, 7001, 8001, 8322] [.ref 7001 0, .ref 4 0, .ref 5 0, I time, I x, I k, .ref 9 0, Bv false] [some (.box [nilA]), some (.box [.arr 750]), some (.box [.arr 8001]), some (tOStroke 8322 ss), some (bxl00Src s'_4), some (tAPoint pts_3), some (tFStroke ss)] [CallOK Tryz.prog 28 [.ref 7001 0, I 3] (lookO [(7001, bxl00Src s'_3)]) true (Bv false) (lookO [(7001, bxl00Src s'_4)]) ∧ (((bxl00Src s'_3 : Ob) = bxl00Src s'_3 ∨ obLe noOb true (bxl00Src s'_3) (bxl00Src s'_3)) ∧ taggedO false (bxl00Src s'_3)) ∧ True] ⟨⟨hc4, ⟨.inl rfl, (by simp [taggedO, taggedL, tagged, tagU8])⟩, trivial⟩, trivial⟩ ?_
     refine xe_then ?_
     refine x_false rfl ?_
     refine x_seq ?_
     obtain ⟨v_8, s'_8, hx8_0, hx8_1, hx8_2, hc8⟩ := one_ok s'_4 2 (by first | assumption | (simp only [okSrc] at *; simp_all; done)) (by omega)
     rcases Bool.eq_false_or_eq_true v_8 with h3 | h3
     ·subst h3
      refine x_r [(1, .lend [(7001, bxl00Src s'_4, bxl00Src s'_8)] [] [(true, .any), (true, .any)] true (Bv true))] [0, 4, 5, 6, 7, 8, 9, 45] [4, 5, 9, 750, 7001, 8001, 8322] [.ref 7001 0, .ref 4 0, .ref 5 0, I time, I x, I k, .ref 9 0, Bv true] [some (.box [nilA]), some (.box [.arr 750]), some (.box [.arr 8001]), some (tOStroke 8322 ss), some (bxl00Src s'_8), some (tAPoint pts_3), some (tFStroke ss)] [CallOK Tryz.prog 28 [.ref 7001 0, I 2] (lookO [(7001, bxl00Src s'_4)]) true (Bv true) (lookO [(7001, bxl00Src s'_8)]) ∧ (((bxl00Src s'_4 : Ob) = bxl00Src s'_4 ∨ obLe noOb true (bxl00Src s'_4) (bxl00Src s'_4)) ∧ taggedO false (bxl00Src s'_4)) ∧ True] ⟨⟨hc8, ⟨.inl rfl, (by simp [taggedO, taggedL, tagged, tagU8])⟩, trivial⟩, trivial⟩ ?_
      refine xe_then ?_
      refine x_true rfl ?_
      refine x_seq ?_
      obtain ⟨v_9, s'_9, hx9_0, hx9_1, hx9_2, hx9_3, hc9⟩ := pick_ok s'_8 300 (by first | assumption | (simp only [okSrc] at *; simp_all; done)) (by omega)
      refine x_r [(6, .lend [(7001, bxl00Src s'_8, bxl00Src s'_9)] [] [(true, .any), (true, .any)] true (I v_9)), (11, .new 57)] [0, 4, 5, 7, 8, 9] [4, 5, 9, 57, 750, 7001, 8322] [.ref 7001 0, .ref 4 0, .ref 5 0, I x, I k, .ref 9 0] [some (.box [nilA]), some (.box [.arr 750]), some (.box [.arr 57]), some (.arr 3 2 (litF [I x, I 200, I time, I ((x + 20) + v_9), I 500, I (time + 9)] 3)), some (tOStroke 8322 ss), some (bxl00Src s'_9), some (tFStroke ss)] [inR .i64 (x + 20), CallOK Tryz.prog 49 [.ref 7001 0, I 300] (lookO [(7001, bxl00Src s'_8)]) true (I v_9) (lookO [(7001, bxl00Src s'_9)]) ∧ (((bxl00Src s'_8 : Ob) = bxl00Src s'_8 ∨ obLe noOb true (bxl00Src s'_8) (bxl00Src s'_8)) ∧ taggedO false (bxl00Src s'_8)) ∧ True, inR .i64 ((x + 20) + v_9), inR .i64 (time + 9)] ⟨(inR_i64 (by omega) (by omega)), ⟨hc9, ⟨.inl rfl, (by simp [taggedO, taggedL, tagged, tagU8])⟩, trivial⟩, (inR_i64 (by omega) (by omega)), (inR_i64 (by omega) (by omega)), trivial⟩ ?_
      refine xe_then ?_
      obtain ⟨v_10, s'_10, hx10_0, hx10_1, hx10_2, hx10_3, hc10⟩ := pick_ok s'_9 300 (by first | assumption | (simp only [okSrc] at *; simp_all; done)) (by omega)
      refine x_r [(2, .lend [(7001, bxl00Src s'_9, bxl00Src s'_10)] [] [(true, .any), (true, .any)] true (I v_10))] [0, 4, 5, 7, 8, 9] [4, 5, 9, 57, 750, 7001, 8322] [.ref 7001 0, .ref 4 0, .ref 5 0, I (x + v_10), I k, .ref 9 0] [some (.box [nilA]), some (.box [.arr 750]), some (.box [.arr 57]), some (.arr 3 2 (litF [I x, I 200, I time, I ((x + 20) + v_9), I 500, I (time + 9)] 3)), some (tOStroke 8322 ss), some (bxl00Src s'_10), some (tFStroke ss)] [CallOK Tryz.prog 49 [.ref 7001 0, I 300] (lookO [(7001, bxl00Src s'_9)]) true (I v_10) (lookO [(7001, bxl00Src s'_10)]) ∧ (((bxl00Src s'_9 : Ob) = bxl00Src s'_9 ∨ obLe noOb true (bxl00Src s'_9) (bxl00Src s'_9)) ∧ taggedO false (bxl00Src s'_9)) ∧ True, inR .i64 (x + v_10)] ⟨⟨hc10, ⟨.inl rfl, (by simp [taggedO, taggedL, tagged, tagU8])⟩, trivial⟩, (inR_i64 (by omega) (by omega)), trivial⟩ ?_
      refine xe_then ?_
      refine xR [(3, .new 66), (4, .new 67)] [0, 4, 5, 7, 8, 9] [4, 5, 9, 57, 67, 7001, 8322] [.ref 7001 0, .ref 4 0, .ref 5 0, I (x + v_10), I k, .ref 9 0] [some (.box [nilA]), some (.box [.arr 67]), some (.box [.arr 57]), some (.arr 3 2 (litF [I x, I 200, I time, I ((x + 20) + v_9), I 500, I (time + 9)] 3)), some (.oar [8322, 57] 1 (ss.length + 1) (catF ss.length (oStroke 8322 ss) (litF [.arr 57] 1))), some (bxl00Src s'_10), some (tFStroke ss)] [(ss.length + 1) * 24 ≤ 140737488355328] ⟨(by omega), trivial⟩ ?_
      obtain ⟨v_11, s'_11, hx11_0, hx11_1, hx11_2, hx11_3, hc11⟩ := pick_ok s'_10 50 (by first | assumption | (simp only [okSrc] at *; simp_all; done)) (by omega)
      refine x_r [(0, .call [(false, .ptr false [slPoint false ([(Point.mk x 200 time), (Point.mk ((x + 20) + v_9) 500 (time + 9))])])] true (I ((at_ (Stroke.mk ([(Point.mk x 200 time), (Point.mk ((x + 20) + v_9) 500 (time + 9))])).Points ((Stroke.mk ([(Point.mk x 200 time), (Point.mk ((x + 20) + v_9) 500 (time + 9))])).Points.length - 1)).T))), (3, .lend [(7001, bxl00Src s'_10, bxl00Src s'_11)] [] [(true, .any), (true, .any)] true (I v_11))] [0, 4, 5, 6, 7, 8] [4, 5, 57, 67, 7001, 8322] [.ref 7001 0, .ref 4 0, .ref 5 0, I ((((at_ (Stroke.mk ([(Point.mk x 200 time), (Point.mk ((x + 20) + v_9) 500 (time + 9))])).Points ((Stroke.mk ([(Point.mk x 200 time), (Point.mk ((x + 20) + v_9) 500 (time + 9))])).Points.length - 1)).T) + 1) + v_11), I (x + v_10), I k] [some (.box [nilA]), some (.box [.arr 67]), some (.arr 3 2 (litF [I x, I 200, I time, I ((x + 20) + v_9), I 500, I (time + 9)] 3)), some (.oar [8322, 57] 1 (ss.length + 1) (catF ss.length (oStroke 8322 ss) (litF [.arr 57] 1))), some (bxl00Src s'_11), some (tFStroke ss)] [Con Tryz.prog 74 [.ptr false [slPoint false ([(Point.mk x 200 time), (Point.mk ((x + 20) + v_9) 500 (time + 9))])]] true (I ((at_ (Stroke.mk ([(Point.mk x 200 time), (Point.mk ((x + 20) + v_9) 500 (time + 9))])).Points ((Stroke.mk ([(Point.mk x 200 time), (Point.mk ((x + 20) + v_9) 500 (time + 9))])).Points.length - 1)).T)) ∧ ((false = true → true = true) ∧ AV.idsL [slPoint false ([(Point.mk x 200 time), (Point.mk ((x + 20) + v_9) 500 (time + 9))])] = [] ∧ ((false = true → true = true) ∧ 3 = 3 ∧ 2 = (([(Point.mk x 200 time), (Point.mk ((x + 20) + v_9) 500 (time + 9))]).length) ∧ ∀ i_, i_ < (([(Point.mk x 200 time), (Point.mk ((x + 20) + v_9) 500 (time + 9))]).length) → (litF [I x, I 200, I time, I ((x + 20) + v_9), I 500, I (time + 9)] 3) i_ = (fPoint ([(Point.mk x 200 time), (Point.mk ((x + 20) + v_9) 500 (time + 9))])) i_ ∨ (AV.idsL ((fPoint ([(Point.mk x 200 time), (Point.mk ((x + 20) + v_9) 500 (time + 9))])) i_) = [] ∧ leL (fun _ => none) false ((litF [I x, I 200, I time, I ((x + 20) + v_9), I 500, I (time + 9)] 3) i_) ((fPoint ([(Point.mk x 200 time), (Point.mk ((x + 20) + v_9) 500 (time + 9))])) i_))) ∧ ([] : List AV) = []) ∧ True, inR .i64 (((at_ (Stroke.mk ([(Point.mk x 200 time), (Point.mk ((x + 20) + v_9) 500 (time + 9))])).Points ((Stroke.mk ([(Point.mk x 200 time), (Point.mk ((x + 20) + v_9) 500 (time + 9))])).Points.length - 1)).T) + 1), CallOK Tryz.prog 49 [.ref 7001 0, I 50] (lookO [(7001, bxl00Src s'_10)]) true (I v_11) (lookO [(7001, bxl00Src s'_11)]) ∧ (((bxl00Src s'_10 : Ob) = bxl00Src s'_10 ∨ obLe noOb true (bxl00Src s'_10) (bxl00Src s'_10)) ∧ taggedO false (bxl00Src s'_10)) ∧ True, inR .i64 ((((at_ (Stroke.mk ([(Point.mk x 200 time), (Point.mk ((x + 20) + v_9) 500 (time + 9))])).Points ((Stroke.mk ([(Point.mk x 200 time), (Point.mk ((x + 20) + v_9) 500 (time + 9))])).Points.length - 1)).T) + 1) + v_11)] ⟨⟨(l02Last_ok (Stroke.mk ([(Point.mk x 200 time), (Point.mk ((x + 20) + v_9) 500 (time + 9))])) (by first | assumption | (simp only; omega) | (simp; done))), ⟨(fun h => by cases h), rfl, ⟨⟨(fun h => by cases h), rfl, (by first | rfl | (simp; done) | (simp; omega) | omega), fun i_ hi_ => .inl (match i_, hi_ with | 0, _ => rfl | 1, _ => rfl | (i + 2), h => absurd h (by simp))⟩, rfl⟩⟩, trivial⟩, (inR_i64 (by (first | omega | (simp [at_]; omega))) (by (first | omega | (simp [at_]; omega)))), ⟨hc11, ⟨.inl rfl, (by simp [taggedO, taggedL, tagged, tagU8])⟩, trivial⟩, (inR_i64 (by (first | omega | (simp [at_]; omega))) (by (first | omega | (simp [at_]; omega)))), trivial⟩ ?_
      refine xe_block 1 ?_
      refine xe_then ?_
      refine x_r [] [0, 4, 5, 6, 7, 8] [4, 5, 57, 67, 7001, 8322] [.ref 7001 0, .ref 4 0, .ref 5 0, I ((((at_ (Stroke.mk ([(Point.mk x 200 time), (Point.mk ((x + 20) + v_9) 500 (time + 9))])).Points ((Stroke.mk ([(Point.mk x 200 time), (Point.mk ((x + 20) + v_9) 500 (time + 9))])).Points.length - 1)).T) + 1) + v_11), I (x + v_10), I (k - 1)] [some (.box [nilA]), some (.box [.arr 67]), some (.arr 3 2 (litF [I x, I 200, I time, I ((x + 20) + v_9), I 500, I (time + 9)] 3)), some (.oar [8322, 57] 1 (ss.length + 1) (catF ss.length (oStroke 8322 ss) (litF [.arr 57] 1))), some (bxl00Src s'_11), some (tFStroke ss)] [inR .i64 (k - 1)] ⟨(inR_i64 (by omega) (by omega)), trivial⟩ ?_
      refine xe_join 57 8322 rfl rfl rfl ?_
      refine xe_weak [(750, 67)] (T := [(0, .ref 7001 0), (4, .ref 4 0), (5, .ref 5 0), (6, I ((((at_ (Stroke.mk ([(Point.mk x 200 time), (Point.mk ((x + 20) + v_9) 500 (time + 9))])).Points ((Stroke.mk ([(Point.mk x 200 time), (Point.mk ((x + 20) + v_9) 500 (time + 9))])).Points.length - 1)).T) + 1) + v_11)), (7, I (x + v_10)), (8, I (k - 1))]) (O := [(4, .box [nilA]), (5, .box [.arr 750]), (750, tOStroke 8322 (ss ++ [(Stroke.mk ([(Point.mk x 200 time), (Point.mk ((x + 20) + v_9) 500 (time + 9))]))])), (7001, bxl00Src s'_11), (8322, tFStroke (ss ++ [(Stroke.mk ([(Point.mk x 200 time), (Point.mk ((x + 20) + v_9) 500 (time + 9))]))]))]) rfl (⟨.inl rfl, .inl rfl, .inl rfl, .inl rfl, .inl rfl, .inl rfl, trivial⟩) (⟨.inl rfl, .inl rfl, .inr ⟨rfl, rfl, (by simp), fun i hi => .inl (ocatStroke rfl rfl rfl i hi)⟩, .inl rfl, .inr (fcatStroke (Stroke.mk ([(Point.mk x 200 time), (Point.mk ((x + 20) + v_9) 500 (time + 9))])) (by first | rfl | (simp; done)) (fun i_ hi_ => (match i_, hi_ with | 0, _ => rfl | 1, _ => rfl | (i + 2), h => absurd h (by simp)))), trivial⟩) (xe_again (((((at_ (Stroke.mk ([(Point.mk x 200 time), (Point.mk ((x + 20) + v_9) 500 (time + 9))])).Points ((Stroke.mk ([(Point.mk x 200 time), (Point.mk ((x + 20) + v_9) 500 (time + 9))])).Points.length - 1)).T) + 1) + v_11), (x + v_10), (k - 1), (ss ++ [(Stroke.mk ([(Point.mk x 200 time), (Point.mk ((x + 20) + v_9) 500 (time + 9))]))]), s'_11) rfl (show (okSrc s'_11 ∧ s'_11.code = s.code ∧ s.atx ≤ s'_11.atx ∧ s'_11.atx ≤ s.atx + 10 + 260 * (most - (k - 1))) ∧ (0 ≤ (k - 1) ∧ (k - 1) ≤ most) ∧ (((ss ++ [(Stroke.mk ([(Point.mk x 200 time), (Point.mk ((x + 20) + v_9) 500 (time + 9))]))]).length : Int) + (k - 1) ≤ most) ∧ (0 ≤ ((((at_ (Stroke.mk ([(Point.mk x 200 time), (Point.mk ((x + 20) + v_9) 500 (time + 9))])).Points ((Stroke.mk ([(Point.mk x 200 time), (Point.mk ((x + 20) + v_9) 500 (time + 9))])).Points.length - 1)).T) + 1) + v_11) ∧ ((((at_ (Stroke.mk ([(Point.mk x 200 time), (Point.mk ((x + 20) + v_9) 500 (time + 9))])).Points ((Stroke.mk ([(Point.mk x 200 time), (Point.mk ((x + 20) + v_9) 500 (time + 9))])).Points.length - 1)).T) + 1) + v_11) ≤ 100 + 500 * (most - (k - 1))) ∧ (0 ≤ (x + v_10) ∧ (x + v_10) ≤ 200 + 300 * (most - (k - 1))) ∧ (inkD (ss ++ [(Stroke.mk ([(Point.mk x 200 time), (Point.mk ((x + 20) + v_9) 500 (time + 9))]))]) ((((at_ (Stroke.mk ([(Point.mk x 200 time), (Point.mk ((x + 20) + v_9) 500 (time + 9))])).Points ((Stroke.mk ([(Point.mk x 200 time), (Point.mk ((x + 20) + v_9) 500 (time + 9))])).Points.length - 1)).T) + 1) + v_11)) ∧ True from ⟨(by exact ⟨by assumption, by first | assumption | rfl | (simp only [*]; done), by omega, by omega⟩), (by omega), (by simp; omega), (by (first | omega | (simp [at_]; omega))), (by omega), (by first | exact inkD_snoc hik hvs (fun p hp => (hvt p hp).1) (by have := hlt; unfold lastT; omega) (by omega) (by omega) | exact inkD_two hik (by omega) (by omega) (by omega) (by first | omega | (simp [at_]; omega)) (by omega)), trivial⟩) (by first | (show ((k - 1).toNat : Nat) < k.toNat; omega) | (dsimp only; omega)))
     subst h3
     refine x_r [(1, .lend [(7001, bxl00Src s'_4, bxl00Src s'_8)] [] [(true, .any), (true, .any)] true (Bv false))] [0, 4, 5, 6, 7, 8, 9, 45] [4, 5, 9, 750, 7001, 8001, 8322] [.ref 7001 0, .ref 4 0, .ref 5 0, I time, I x, I k, .ref 9 0, Bv false] [some (.box [nilA]), some (.box [.arr 750]), some (.box [.arr 8001]), some (tOStroke 8322 ss), some (bxl00Src s'_8), some (tAPoint pts_3), some (tFStroke ss)] [CallOK Tryz.prog 28 [.ref 7001 0, I 2] (lookO [(7001, bxl00Src s'_4)]) true (Bv false) (lookO [(7001, bxl00Src s'_8)]) ∧ (((bxl00Src s'_4 : Ob) = bxl00Src s'_4 ∨ obLe noOb true (bxl00Src s'_4) (bxl00Src s'_4)) ∧ taggedO false (bxl00Src s'_4)) ∧ True] ⟨⟨hc8, ⟨.inl rfl, (by simp [taggedO, taggedL, tagged, tagU8])⟩, trivial⟩, trivial⟩ ?_
     refine xe_then ?_
     refine x_false rfl ?_
     refine x_skip ?_
     refine xe_then ?_
     refine xR [(3, .new 66), (4, .new 67)] [0, 4, 5, 7, 8, 9] [4, 5, 9, 67, 7001, 8001, 8322] [.ref 7001 0, .ref 4 0, .ref 5 0, I x, I k, .ref 9 0] [some (.box [nilA]), some (.box [.arr 67]), some (.box [.arr 8001]), some (.oar [8322, 8001] 1 (ss.length + 1) (catF ss.length (oStroke 8322 ss) (litF [.arr 8001] 1))), some (bxl00Src s'_8), some (tAPoint pts_3), some (tFStroke ss)] [(ss.length + 1) * 24 ≤ 140737488355328] ⟨(by omega), trivial⟩ ?_
     obtain ⟨v_12, s'_12, hx12_0, hx12_1, hx12_2, hx12_3, hc12⟩ := pick_ok s'_8 50 (by first | assumption | (simp only [okSrc] at *; simp_all; done)) (by omega)
     refine x_r [(0, .call [(false, .ptr false [slPoint false pts_3])] true (I ((at_ (Stroke.mk pts_3).Points ((Stroke.mk pts_3).Points.length - 1)).T))), (3, .lend [(7001, bxl00Src s'_8, bxl00Src s'_12)] [] [(true, .any), (true, .any)] true (I v_12))] [0, 4, 5, 6, 7, 8] [4, 5, 67, 7001, 8001, 8322] [.ref 7001 0, .ref 4 0, .ref 5 0, I ((((at_ (Stroke.mk pts_3).Points ((Stroke.mk pts_3).Points.length - 1)).T) + 1) + v_12), I x, I k] [some (.box [nilA]), some (.box [.arr 67]), some (.oar [8322, 8001] 1 (ss.length + 1) (catF ss.length (oStroke 8322 ss) (litF [.arr 8001] 1))), some (bxl00Src s'_12), some (tAPoint pts_3), some (tFStroke ss)] [Con Tryz.prog 74 [.ptr false [slPoint false pts_3]] true (I ((at_ (Stroke.mk pts_3).Points ((Stroke.mk pts_3).Points.length - 1)).T)) ∧ ((false = true → true = true) ∧ AV.idsL [slPoint false pts_3] = [] ∧ ((false = true → true = true) ∧ 3 = 3 ∧ pts_3.length = pts_3.length ∧ ∀ i_, i_ < pts_3.length → (fPoint pts_3) i_ = (fPoint pts_3) i_ ∨ (AV.idsL ((fPoint pts_3) i_) = [] ∧ leL (fun _ => none) false ((fPoint pts_3) i_) ((fPoint pts_3) i_))) ∧ ([] : List AV) = []) ∧ True, inR .i64 (((at_ (Stroke.mk pts_3).Points ((Stroke.mk pts_3).Points.length - 1)).T) + 1), CallOK Tryz.prog 49 [.ref 7001 0, I 50] (lookO [(7001, bxl00Src s'_8)]) true (I v_12) (lookO [(7001, bxl00Src s'_12)]) ∧ (((bxl00Src s'_8 : Ob) = bxl00Src s'_8 ∨ obLe noOb true (bxl00Src s'_8) (bxl00Src s'_8)) ∧ taggedO false (bxl00Src s'_8)) ∧ True, inR .i64 ((((at_ (Stroke.mk pts_3).Points ((Stroke.mk pts_3).Points.length - 1)).T) + 1) + v_12)] ⟨⟨(l02Last_ok (Stroke.mk pts_3) (by first | assumption | (simp only; omega) | (simp; done))), ⟨(fun h => by cases h), rfl, ⟨⟨(fun h => by cases h), rfl, rfl, fun i _ => .inl rfl⟩, rfl⟩⟩, trivial⟩, (inR_i64 (by (first | omega | (simp [at_]; omega))) (by (first | omega | (simp [at_]; omega)))), ⟨hc12, ⟨.inl rfl, (by simp [taggedO, taggedL, tagged, tagU8])⟩, trivial⟩, (inR_i64 (by (first | omega | (simp [at_]; omega))) (by (first | omega | (simp [at_]; omega)))), trivial⟩ ?_
     refine xe_block 1 ?_
     refine xe_then ?_
     refine x_r [] [0, 4, 5, 6, 7, 8] [4, 5, 67, 7001, 8001, 8322] [.ref 7001 0, .ref 4 0, .ref 5 0, I ((((at_ (Stroke.mk pts_3).Points ((Stroke.mk pts_3).Points.length - 1)).T) + 1) + v_12), I x, I (k - 1)] [some (.box [nilA]), some (.box [.arr 67]), some (.oar [8322, 8001] 1 (ss.length + 1) (catF ss.length (oStroke 8322 ss) (litF [.arr 8001] 1))), some (bxl00Src s'_12), some (tAPoint pts_3), some (tFStroke ss)] [inR .i64 (k - 1)] ⟨(inR_i64 (by omega) (by omega)), trivial⟩ ?_
     refine xe_join 8001 8322 rfl rfl rfl ?_
     refine xe_weak [(750, 67)] (T := [(0, .ref 7001 0), (4, .ref 4 0), (5, .ref 5 0), (6, I ((((at_ (Stroke.mk pts_3).Points ((Stroke.mk pts_3).Points.length - 1)).T) + 1) + v_12)), (7, I x), (8, I (k - 1))]) (O := [(4, .box [nilA]), (5, .box [.arr 750]), (750, tOStroke 8322 (ss ++ [(Stroke.mk pts_3)])), (7001, bxl00Src s'_12), (8322, tFStroke (ss ++ [(Stroke.mk pts_3)]))]) rfl (⟨.inl rfl, .inl rfl, .inl rfl, .inl rfl, .inl rfl, .inl rfl, trivial⟩) (⟨.inl rfl, .inl rfl, .inr ⟨rfl, rfl, (by simp), fun i hi => .inl (ocatStroke rfl rfl rfl i hi)⟩, .inl rfl, .inr (fcatStroke (Stroke.mk pts_3) (by first | rfl | (simp; done)) (fun i_ hi_ => (by first | rfl | fail))), trivial⟩) (xe_again (((((at_ (Stroke.mk pts_3).Points ((Stroke.mk pts_3).Points.length - 1)).T) + 1) + v_12), x, (k - 1), (ss ++ [(Stroke.mk pts_3)]), s'_12) rfl (show (okSrc s'_12 ∧ s'_12.code = s.code ∧ s.atx ≤ s'_12.atx ∧ s'_12.atx ≤ s.atx + 10 + 260 * (most - (k - 1))) ∧ (0 ≤ (k - 1) ∧ (k - 1) ≤ most) ∧ (((ss ++ [(Stroke.mk pts_3)]).length : Int) + (k - 1) ≤ most) ∧ (0 ≤ ((((at_ (Stroke.mk pts_3).Points ((Stroke.mk pts_3).Points.length - 1)).T) + 1) + v_12) ∧ ((((at_ (Stroke.mk pts_3).Points ((Stroke.mk pts_3).Points.length - 1)).T) + 1) + v_12) ≤ 100 + 500 * (most - (k - 1))) ∧ (0 ≤ x ∧ x ≤ 200 + 300 * (most - (k - 1))) ∧ (inkD (ss ++ [(Stroke.mk pts_3)]) ((((at_ (Stroke.mk pts_3).Points ((Stroke.mk pts_3).Points.length - 1)).T) + 1) + v_12)) ∧ True from ⟨(by exact ⟨by assumption, by first | assumption | rfl | (simp only [*]; done), by omega, by omega⟩), (by omega), (by simp; omega), (by (first | omega | (simp [at_]; omega))), (by omega), (by first | exact inkD_snoc hik hvs (fun p hp => (hvt p hp).1) (by have := hlt; unfold lastT; omega) (by omega) (by omega) | exact inkD_two hik (by omega) (by omega) (by omega) (by first | omega | (simp [at_]; omega)) (by omega)), trivial⟩) (by first | (show ((k - 1).toNat : Nat) < k.toNat; omega) | (dsimp only; omega)))
    refine x_r [(1, .dec false)] [0, 4, 5, 6, 7, 8, 19] [4, 5, 750, 7001, 8322] [.ref 7001 0, .ref 4 0, .ref 5 0, I time, I x, I k, Bv false] [some (.box [nilA]), some (.box [.arr 750]), some (tOStroke 8322 ss), some (bxl00Src src), some (tFStroke ss)] [¬ (0 < k)] ⟨h1, trivial⟩ ?_
    refine xe_then ?_
    refine x_false rfl ?_
    refine x_exit ?_
    refine xe_exit_then ?_
    refine xe_loop_exit ?_
    refine xe_exit_same ?_
    refine xe_then ?_
    refine xR [] [4] [4, 750, 7001, 8322] [.ref 4 0] [some (.box [.arr 750]), some (tOStroke 8322 ss), some (bxl00Src src), some (tFStroke ss)] [] trivial ?_
    refine x_ret ?_
    refine xe_weak [(8321, 750)] (T := [(4, .ref 4 0)]) (O := [(4, .box [.arr 8321]), (7001, bxl00Src src), (8321, tOStroke 8322 ss), (8322, tFStroke ss)]) rfl (⟨.inl rfl, trivial⟩) (⟨.inl rfl, .inl rfl, .inl rfl, .inl rfl, trivial⟩) ?_
    refine xe_end (src, ss) (show (okSrc src) ∧ (src.code = s.code) ∧ (s.atx + 0 ≤ src.atx ∧ src.atx ≤ s.atx + 4000) ∧ ((ss.length : Int) ≤ most) ∧ (okInk' ⟨ss⟩ = true) ∧ (True) from ⟨(by first | exact hik.1 | omega | assumption | rfl | (simp; done) | (simp; omega) | (simp_all; done)), (by first | exact hik.1 | omega | assumption | rfl | (simp; done) | (simp; omega) | (simp_all; done)), (by first | exact hik.1 | omega | assumption | rfl | (simp; done) | (simp; omega) | (simp_all; done)), (by first | exact hik.1 | omega | assumption | rfl | (simp; done) | (simp; omega) | (simp_all; done)), (by first | exact hik.1 | omega | assumption | rfl | (simp; done) | (simp; omega) | (simp_all; done)), trivial⟩) (⟨.inl rfl, .inl rfl, .inl rfl, trivial⟩) (.agg [.arr 8321]) (by kernel_rfl) (.inl rfl) (fun h => by cases h) (fun h => by cases h)
  obtain ⟨⟨s', ss⟩, ⟨hh0, hh1, hh2, hh3, hh4, _⟩, hc⟩ := hh
  exact ⟨s', ss, hh0, hh1, hh2, hh3, hh4, hc⟩
theorem l02Draw_ok (s : l00Src) (most : Int) (hs : okSrc s) (ha : s.atx ≤ 3999999999999995000) (hm : 0 ≤ most ∧ most ≤ 10) : ∃ (s' : l00Src) (ss : List Stroke), (okSrc s') ∧ (s'.code = s.code) ∧ (s.atx + 0 ≤ s'.atx ∧ s'.atx ≤ s.atx + 3000) ∧ ((ss.length : Int) ≤ most) ∧ (∀ t ∈ ss, 1 ≤ t.Points.length ∧ t.Points.length ≤ 10) ∧ (okInk' ⟨ss⟩ = true) ∧ CallOK Tryz.prog 30 [.ref 7001 0, I most] (lookO [(7001, bxl00Src s)]) false (.agg [.arr 8011]) (lookO [(7001, bxl00Src s'), (8011, tOStroke 8012 ss), (8012, tFStroke ss)]) := by
  have hh : ∃ r : l00Src × (List Stroke), ((okSrc r.1) ∧ (r.1.code = s.code) ∧ (s.atx + 0 ≤ r.1.atx ∧ r.1.atx ≤ s.atx + 3000) ∧ ((r.2.length : Int) ≤ most) ∧ (∀ t ∈ r.2, 1 ≤ t.Points.length ∧ t.Points.length ≤ 10) ∧ (okInk' ⟨r.2⟩ = true) ∧ (True)) ∧ CallOK Tryz.prog 30 [.ref 7001 0, I most] (lookO [(7001, bxl00Src s)]) false (.agg [.arr 8011]) (lookO [(7001, bxl00Src r.1), (8011, tOStroke 8012 r.2), (8012, tFStroke r.2)]) := by
    refine fn_okX (Φ := fun r : l00Src × (List Stroke) => (okSrc r.1) ∧ (r.1.code = s.code) ∧ (s.atx + 0 ≤ r.1.atx ∧ r.1.atx ≤ s.atx + 3000) ∧ ((r.2.length : Int) ≤ most) ∧ (∀ t ∈ r.2, 1 ≤ t.Points.length ∧ t.Points.length ≤ 10) ∧ (okInk' ⟨r.2⟩ = true) ∧ (True)) [(7001, bxl00Src s)] (fun r => [(7001, bxl00Src r.1), (8011, tOStroke 8012 r.2), (8012, tFStroke r.2)]) (fn := Tryz.f30) (nt := 47) Tryz.func30 rfl rfl (args := [.ref 7001 0, I most]) rfl (allcons (.inr trivial) (allcons (.inl ⟨rfl, trivial⟩) allnil)) (res := fun r => .agg [.arr 8011]) ?_
    refine xR [(0, .new 4)] [0, 1, 4] [4, 7001] [.ref 7001 0, I most, .ref 4 0] [some (.box [nilA]), some (bxl00Src s)] [] trivial ?_
    refine xR [(1, .new 5)] [0, 1, 4, 5] [4, 5, 7001] [.ref 7001 0, I most, .ref 4 0, .ref 5 0] [some (.box [nilA]), some (.box [nilA]), some (bxl00Src s)] [] trivial ?_
    refine x_seq ?_
    obtain ⟨v_1, s'_1, hx1_0, hx1_1, hx1_2, hx1_3, hc1⟩ := pick_ok s 100 (by first | assumption | (simp only [okSrc] at *; simp_all; done)) (by omega)
    refine x_r [(1, .lend [(7001, bxl00Src s, bxl00Src s'_1)] [] [(true, .any), (true, .any)] true (I v_1))] [0, 1, 4, 5, 6] [4, 5, 7001] [.ref 7001 0, I most, .ref 4 0, .ref 5 0, I v_1] [some (.box [nilA]), some (.box [nilA]), some (bxl00Src s'_1)] [CallOK Tryz.prog 49 [.ref 7001 0, I 100] (lookO [(7001, bxl00Src s)]) true (I v_1) (lookO [(7001, bxl00Src s'_1)]) ∧ (((bxl00Src s : Ob) = bxl00Src s ∨ obLe noOb true (bxl00Src s) (bxl00Src s)) ∧ taggedO false (bxl00Src s)) ∧ True] ⟨⟨hc1, ⟨.inl rfl, (by simp [taggedO, taggedL, tagged, tagU8])⟩, trivial⟩, trivial⟩ ?_
    refine xe_then ?_
    refine x_seq ?_
    obtain ⟨v_2, s'_2, hx2_0, hx2_1, hx2_2, hx2_3, hc2⟩ := pick_ok s'_1 200 (by first | assumption | (simp only [okSrc] at *; simp_all; done)) (by omega)
    refine x_r [(1, .lend [(7001, bxl00Src s'_1, bxl00Src s'_2)] [] [(true, .any), (true, .any)] true (I v_2))] [0, 1, 4, 5, 6, 7] [4, 5, 7001] [.ref 7001 0, I most, .ref 4 0, .ref 5 0, I v_1, I (100 + v_2)] [some (.box [nilA]), some (.box [nilA]), some (bxl00Src s'_2)] [CallOK Tryz.prog 49 [.ref 7001 0, I 200] (lookO [(7001, bxl00Src s'_1)]) true (I v_2) (lookO [(7001, bxl00Src s'_2)]) ∧ (((bxl00Src s'_1 : Ob) = bxl00Src s'_1 ∨ obLe noOb true (bxl00Src s'_1) (bxl00Src s'_1)) ∧ taggedO false (bxl00Src s'_1)) ∧ True, inR .i64 (100 + v_2)] ⟨⟨hc2, ⟨.inl rfl, (by simp [taggedO, taggedL, tagged, tagU8])⟩, trivial⟩, (inR_i64 (by omega) (by omega)), trivial⟩ ?_
    refine xe_then ?_
    refine x_seq ?_
    refine x_seq ?_
    obtain ⟨v_3, s'_3, hx3_0, hx3_1, hx3_2, hx3_3, hc3⟩ := pick_ok s'_2 (most + 1) (by first | assumption | (simp only [okSrc] at *; simp_all; done)) (by omega)
    refine x_r [(3, .lend [(7001, bxl00Src s'_2, bxl00Src s'_3)] [] [(true, .any), (true, .any)] true (I v_3))] [0, 4, 5, 6, 7, 8] [4, 5, 7001] [.ref 7001 0, .ref 4 0, .ref 5 0, I v_1, I (100 + v_2), I v_3] [some (.box [nilA]), some (.box [nilA]), some (bxl00Src s'_3)] [inR .i64 (most + 1), CallOK Tryz.prog 49 [.ref 7001 0, I (most + 1)] (lookO [(7001, bxl00Src s'_2)]) true (I v_3) (lookO [(7001, bxl00Src s'_3)]) ∧ (((bxl00Src s'_2 : Ob) = bxl00Src s'_2 ∨ obLe noOb true (bxl00Src s'_2) (bxl00Src s'_2)) ∧ taggedO false (bxl00Src s'_2)) ∧ True] ⟨(inR_i64 (by omega) (by omega)), ⟨hc3, ⟨.inl rfl, (by simp [taggedO, taggedL, tagged, tagU8])⟩, trivial⟩, trivial⟩ ?_
    refine xe_then ?_
    refine x_block ?_
    refine x_nilC 5 0 750 1 (fun _ => []) rfl (by kernel_rfl) ?_
    refine x_fam 8012 3 (fun _ => 0) (fun _ _ => []) (by kernel_rfl) ?_
    refine x_weak [] (T := [(0, .ref 7001 0), (4, .ref 4 0), (5, .ref 5 0), (6, I v_1), (7, I (100 + v_2)), (8, I v_3)]) (O := [(4, .box [nilA]), (5, .box [.arr 750]), (750, tOStroke 8012 ([] : List Stroke)), (7001, bxl00Src s'_3), (8012, tFStroke ([] : List Stroke))]) rfl (⟨.inl rfl, .inl rfl, .inl rfl, .inl rfl, .inl rfl, .inl rfl, trivial⟩) (⟨.inl rfl, .inl rfl, .inr ⟨rfl, rfl, fun i hi => absurd hi (Nat.not_lt_zero _)⟩, .inl rfl, .inr ⟨rfl, rfl, fun p hp => absurd hp (Nat.not_lt_zero _)⟩, trivial⟩) ?_
    refine x_loop (X := Int × Int × Int × (List Stroke) × l00Src) (fun x => mkS [(0, .ref 7001 0), (4, .ref 4 0), (5, .ref 5 0), (6, I x.1), (7, I x.2.1), (8, I x.2.2.1)] [(4, .box [nilA]), (5, .box [.arr 750]), (750, tOStroke 8012 x.2.2.2.1), (7001, bxl00Src x.2.2.2.2), (8012, tFStroke x.2.2.2.1)]) (fun x => (okSrc x.2.2.2.2 ∧ x.2.2.2.2.code = s.code ∧ s.atx ≤ x.2.2.2.2.atx ∧ x.2.2.2.2.atx ≤ s.atx + 10 + 210 * (most - x.2.2.1)) ∧ (0 ≤ x.2.2.1 ∧ x.2.2.1 ≤ most) ∧ ((x.2.2.2.1.length : Int) + x.2.2.1 ≤ most) ∧ (0 ≤ x.1 ∧ x.1 ≤ 100 + 500 * (most - x.2.2.1)) ∧ (∀ t ∈ x.2.2.2.1, 1 ≤ t.Points.length ∧ t.Points.length ≤ 10) ∧ (0 ≤ x.2.1 ∧ x.2.1 ≤ 300 + 200 * (most - x.2.2.1)) ∧ (inkD x.2.2.2.1 x.1) ∧ True) (fun x => x.2.2.1.toNat) (v_1, (100 + v_2), v_3, ([] : List Stroke), s'_3) rfl (show (okSrc s'_3 ∧ s'_3.code = s.code ∧ s.atx ≤ s'_3.atx ∧ s'_3.atx ≤ s.atx + 10 + 210 * (most - v_3)) ∧ (0 ≤ v_3 ∧ v_3 ≤ most) ∧ ((([] : List Stroke).length : Int) + v_3 ≤ most) ∧ (0 ≤ v_1 ∧ v_1 ≤ 100 + 500 * (most - v_3)) ∧ (∀ t ∈ ([] : List Stroke), 1 ≤ t.Points.length ∧ t.Points.length ≤ 10) ∧ (0 ≤ (100 + v_2) ∧ (100 + v_2) ≤ 300 + 200 * (most - v_3)) ∧ (inkD ([] : List Stroke) v_1) ∧ True from ⟨(by exact ⟨by assumption, by first | assumption | rfl | (simp only [*]; done), by omega, by omega⟩), (by omega), (by simp; omega), (by omega), (by (intro z hz; simp at hz)), (by omega), (by exact inkD_nil _), trivial⟩) (fun x hI => ?_)
    obtain ⟨time, x, k, ss, src⟩ := x
    obtain ⟨hs0, hk0, hl0, ht0, hp0, hx0, hik, _⟩ : (okSrc src ∧ src.code = s.code ∧ s.atx ≤ src.atx ∧ src.atx ≤ s.atx + 10 + 210 * (most - k)) ∧ (0 ≤ k ∧ k ≤ most) ∧ ((ss.length : Int) + k ≤ most) ∧ (0 ≤ time ∧ time ≤ 100 + 500 * (most - k)) ∧ (∀ t ∈ ss, 1 ≤ t.Points.length ∧ t.Points.length ≤ 10) ∧ (0 ≤ x ∧ x ≤ 300 + 200 * (most - k)) ∧ (inkD ss time) ∧ True := hI
    show XW _ _ _ _ (mkS [(0, .ref 7001 0), (4, .ref 4 0), (5, .ref 5 0), (6, I time), (7, I x), (8, I k)] [(4, .box [nilA]), (5, .box [.arr 750]), (750, tOStroke 8012 ss), (7001, bxl00Src src), (8012, tFStroke ss)]) _ _
    refine x_seq ?_
    refine x_seq ?_
    by_cases h1 : 0 < k
    ·refine x_r [(1, .dec true)] [0, 4, 5, 6, 7, 8, 21] [4, 5, 750, 7001, 8012] [.ref 7001 0, .ref 4 0, .ref 5 0, I time, I x, I k, Bv true] [some (.box [nilA]), some (.box [.arr 750]), some (tOStroke 8012 ss), some (bxl00Src src), some (tFStroke ss)] [0 < k] ⟨h1, trivial⟩ ?_
     refine xe_then ?_
     refine x_true rfl ?_
     refine x_skip ?_
     refine xe_then ?_
     refine x_seq ?_
     refine x_block ?_
     refine x_seq ?_
     obtain ⟨v_4, s'_4, hx4_0, hx4_1, hx4_2, hx4_3, hc4⟩ := pick_ok src 200 (by first | assumption | (simp only [okSrc] at *; simp_all; done)) (by omega)
     obtain ⟨s'_5, pts_5, hx5_0, hx5_1, hx5_2, hx5_3, hx5_4, hx5_5, hc5⟩ := l02DrawStroke_ok s'_4 time x (300 + v_4) (by first | assumption | (simp only [okSrc] at *; simp_all; done)) (by omega) (by omega)
     have hlt : time ≤ (at_ (Stroke.mk pts_5).Points ((Stroke.mk pts_5).Points.length - 1)).T ∧ (at_ (Stroke.mk pts_5).Points ((Stroke.mk pts_5).Points.length - 1)).T ≤ time + 210 := hx5_4 _ (last_mem (xs := pts_5) (by omega))
     have hvs : okStroke' (Stroke.mk pts_5) = true := hx5_5 ⟨by omega, by omega⟩
     have hvt := hx5_4
     refine x_r [(4, .lend [(7001, bxl00Src src, bxl00Src s'_4)] [] [(true, .any), (true, .any)] true (I v_4)), (6, .lend [(7001, bxl00Src s'_4, bxl00Src s'_5)] [(8001, tAPoint pts_5)] [(true, .any), (true, .any), (true, .any), (true, .any)] false (.agg [.arr 8001])), (7, .new 9)] [0, 4, 5, 7, 8, 9] [4, 5, 9, 750, 7001, 8001, 8012] [.ref 7001 0, .ref 4 0, .ref 5 0, I x, I k, .ref 9 0] [some (.box [nilA]), some (.box [.arr 750]), some (.box [.arr 8001]), some (tOStroke 8012 ss), some (bxl00Src s'_5), some (tAPoint pts_5), some (tFStroke ss)] [CallOK Tryz.prog 49 [.ref 7001 0, I 200] (lookO [(7001, bxl00Src src)]) true (I v_4) (lookO [(7001, bxl00Src s'_4)]) ∧ (((bxl00Src src : Ob) = bxl00Src src ∨ obLe noOb true (bxl00Src src) (bxl00Src src)) ∧ taggedO false (bxl00Src src)) ∧ True, inR .i64 (300 + v_4), CallOK Tryz.prog 73 [.ref 7001 0, I time, I x, I (300 + v_4)] (lookO [(7001, bxl00Src s'_4)]) false (.agg [.arr 8001]) (lookO [(7001, bxl00Src s'_5), (8001, tAPoint pts_5)]) ∧ (((bxl00Src s'_4 : Ob) = bxl00Src s'_4 ∨ obLe noOb true (bxl00Src s'_4) (bxl00Src s'_4)) ∧ taggedO false (bxl00Src s'_4)) ∧ True] ⟨⟨hc4, ⟨.inl rfl, (by simp [taggedO, taggedL, tagged, tagU8])⟩, trivial⟩, (inR_i64 (by omega) (by omega)), ⟨hc5, ⟨.inl rfl, (by simp [taggedO, taggedL, tagged, tagU8])⟩, trivial⟩, trivial⟩ ?_
     refine xe_then ?_
     refine xR [(3, .new 34), (4, .new 35)] [0, 4, 5, 7, 8, 9] [4, 5, 9, 35, 7001, 8001, 8012] [.ref 7001 0, .ref 4 0, .ref 5 0, I x, I k, .ref 9 0] [some (.box [nilA]), some (.box [.arr 35]), some (.box [.arr 8001]), some (.oar [8012, 8001] 1 (ss.length + 1) (catF ss.length (oStroke 8012 ss) (litF [.arr 8001] 1))), some (bxl00Src s'_5), some (tAPoint pts_5), some (tFStroke ss)] [(ss.length + 1) * 24 ≤ 140737488355328] ⟨(by omega), trivial⟩ ?_
     refine x_seq ?_
     obtain ⟨v_6, s'_6, hx6_0, hx6_1, hx6_2, hx6_3, hc6⟩ := pick_ok s'_5 200 (by first | assumption | (simp only [okSrc] at *; simp_all; done)) (by omega)
     refine x_r [(0, .call [(false, .ptr false [slPoint false pts_5])] true (I ((at_ (Stroke.mk pts_5).Points ((Stroke.mk pts_5).Points.length - 1)).T))), (3, .lend [(7001, bxl00Src s'_5, bxl00Src s'_6)] [] [(true, .any), (true, .any)] true (I v_6))] [0, 4, 5, 6, 7, 8] [4, 5, 35, 7001, 8001, 8012] [.ref 7001 0, .ref 4 0, .ref 5 0, I ((((at_ (Stroke.mk pts_5).Points ((Stroke.mk pts_5).Points.length - 1)).T) + 1) + v_6), I x, I k] [some (.box [nilA]), some (.box [.arr 35]), some (.oar [8012, 8001] 1 (ss.length + 1) (catF ss.length (oStroke 8012 ss) (litF [.arr 8001] 1))), some (bxl00Src s'_6), some (tAPoint pts_5), some (tFStroke ss)] [Con Tryz.prog 74 [.ptr false [slPoint false pts_5]] true (I ((at_ (Stroke.mk pts_5).Points ((Stroke.mk pts_5).Points.length - 1)).T)) ∧ ((false = true → true = true) ∧ AV.idsL [slPoint false pts_5] = [] ∧ ((false = true → true = true) ∧ 3 = 3 ∧ pts_5.length = pts_5.length ∧ ∀ i_, i_ < pts_5.length → (fPoint pts_5) i_ = (fPoint pts_5) i_ ∨ (AV.idsL ((fPoint pts_5) i_) = [] ∧ leL (fun _ => none) false ((fPoint pts_5) i_) ((fPoint pts_5) i_))) ∧ ([] : List AV) = []) ∧ True, inR .i64 (((at_ (Stroke.mk pts_5).Points ((Stroke.mk pts_5).Points.length - 1)).T) + 1), CallOK Tryz.prog 49 [.ref 7001 0, I 200] (lookO [(7001, bxl00Src s'_5)]) true (I v_6) (lookO [(7001, bxl00Src s'_6)]) ∧ (((bxl00Src s'_5 : Ob) = bxl00Src s'_5 ∨ obLe noOb true (bxl00Src s'_5) (bxl00Src s'_5)) ∧ taggedO false (bxl00Src s'_5)) ∧ True, inR .i64 ((((at_ (Stroke.mk pts_5).Points ((Stroke.mk pts_5).Points.length - 1)).T) + 1) + v_6)] ⟨⟨(l02Last_ok (Stroke.mk pts_5) (by first | assumption | (simp only; omega))), ⟨(fun h => by cases h), rfl, ⟨⟨(fun h => by cases h), rfl, rfl, fun i _ => .inl rfl⟩, rfl⟩⟩, trivial⟩, (inR_i64 (by omega) (by omega)), ⟨hc6, ⟨.inl rfl, (by simp [taggedO, taggedL, tagged, tagU8])⟩, trivial⟩, (inR_i64 (by omega) (by omega)), trivial⟩ ?_
     refine xe_then ?_
     obtain ⟨v_7, s'_7, hx7_0, hx7_1, hx7_2, hx7_3, hc7⟩ := pick_ok s'_6 200 (by first | assumption | (simp only [okSrc] at *; simp_all; done)) (by omega)
     refine x_r [(2, .lend [(7001, bxl00Src s'_6, bxl00Src s'_7)] [] [(true, .any), (true, .any)] true (I v_7))] [0, 4, 5, 6, 7, 8] [4, 5, 35, 7001, 8001, 8012] [.ref 7001 0, .ref 4 0, .ref 5 0, I ((((at_ (Stroke.mk pts_5).Points ((Stroke.mk pts_5).Points.length - 1)).T) + 1) + v_6), I (x + v_7), I k] [some (.box [nilA]), some (.box [.arr 35]), some (.oar [8012, 8001] 1 (ss.length + 1) (catF ss.length (oStroke 8012 ss) (litF [.arr 8001] 1))), some (bxl00Src s'_7), some (tAPoint pts_5), some (tFStroke ss)] [CallOK Tryz.prog 49 [.ref 7001 0, I 200] (lookO [(7001, bxl00Src s'_6)]) true (I v_7) (lookO [(7001, bxl00Src s'_7)]) ∧ (((bxl00Src s'_6 : Ob) = bxl00Src s'_6 ∨ obLe noOb true (bxl00Src s'_6) (bxl00Src s'_6)) ∧ taggedO false (bxl00Src s'_6)) ∧ True, inR .i64 (x + v_7)] ⟨⟨hc7, ⟨.inl rfl, (by simp [taggedO, taggedL, tagged, tagU8])⟩, trivial⟩, (inR_i64 (by omega) (by omega)), trivial⟩ ?_
     refine xe_block 1 ?_
     refine xe_then ?_
     refine x_r [] [0, 4, 5, 6, 7, 8] [4, 5, 35, 7001, 8001, 8012] [.ref 7001 0, .ref 4 0, .ref 5 0, I ((((at_ (Stroke.mk pts_5).Points ((Stroke.mk pts_5).Points.length - 1)).T) + 1) + v_6), I (x + v_7), I (k - 1)] [some (.box [nilA]), some (.box [.arr 35]), some (.oar [8012, 8001] 1 (ss.length + 1) (catF ss.length (oStroke 8012 ss) (litF [.arr 8001] 1))), some (bxl00Src s'_7), some (tAPoint pts_5), some (tFStroke ss)] [inR .i64 (k - 1)] ⟨(inR_i64 (by omega) (by omega)), trivial⟩ ?_
     refine xe_join 8001 8012 rfl rfl rfl ?_
     refine xe_weak [(750, 35)] (T := [(0, .ref 7001 0), (4, .ref 4 0), (5, .ref 5 0), (6, I ((((at_ (Stroke.mk pts_5).Points ((Stroke.mk pts_5).Points.length - 1)).T) + 1) + v_6)), (7, I (x + v_7)), (8, I (k - 1))]) (O := [(4, .box [nilA]), (5, .box [.arr 750]), (750, tOStroke 8012 (ss ++ [(Stroke.mk pts_5)])), (7001, bxl00Src s'_7), (8012, tFStroke (ss ++ [(Stroke.mk pts_5)]))]) rfl (⟨.inl rfl, .inl rfl, .inl rfl, .inl rfl, .inl rfl, .inl rfl, trivial⟩) (⟨.inl rfl, .inl rfl, .inr ⟨rfl, rfl, (by simp), fun i hi => .inl (ocatStroke rfl rfl rfl i hi)⟩, .inl rfl, .inr (fcatStroke (Stroke.mk pts_5) (by first | rfl | (simp; done)) (fun i_ hi_ => (by first | rfl | fail))), trivial⟩) (xe_again (((((at_ (Stroke.mk pts_5).Points ((Stroke.mk pts_5).Points.length - 1)).T) + 1) + v_6), (x + v_7), (k - 1), (ss ++ [(Stroke.mk pts_5)]), s'_7) rfl (show (okSrc s'_7 ∧ s'_7.code = s.code ∧ s.atx ≤ s'_7.atx ∧ s'_7.atx ≤ s.atx + 10 + 210 * (most - (k - 1))) ∧ (0 ≤ (k - 1) ∧ (k - 1) ≤ most) ∧ (((ss ++ [(Stroke.mk pts_5)]).length : Int) + (k - 1) ≤ most) ∧ (0 ≤ ((((at_ (Stroke.mk pts_5).Points ((Stroke.mk pts_5).Points.length - 1)).T) + 1) + v_6) ∧ ((((at_ (Stroke.mk pts_5).Points ((Stroke.mk pts_5).Points.length - 1)).T) + 1) + v_6) ≤ 100 + 500 * (most - (k - 1))) ∧ (∀ t ∈ (ss ++ [(Stroke.mk pts_5)]), 1 ≤ t.Points.length ∧ t.Points.length ≤ 10) ∧ (0 ≤ (x + v_7) ∧ (x + v_7) ≤ 300 + 200 * (most - (k - 1))) ∧ (inkD (ss ++ [(Stroke.mk pts_5)]) ((((at_ (Stroke.mk pts_5).Points ((Stroke.mk pts_5).Points.length - 1)).T) + 1) + v_6)) ∧ True from ⟨(by exact ⟨by assumption, by first | assumption | rfl | (simp only [*]; done), by omega, by omega⟩), (by omega), (by simp; omega), (by omega), (by exact all_snoc hp0 (by dsimp only; omega)), (by omega), (by exact inkD_snoc hik hvs (fun p hp => (hvt p hp).1) (by have := hlt; unfold lastT; omega) (by omega) (by omega)), trivial⟩) (by first | (show ((k - 1).toNat : Nat) < k.toNat; omega) | (dsimp only; omega)))
    refine x_r [(1, .dec false)] [0, 4, 5, 6, 7, 8, 21] [4, 5, 750, 7001, 8012] [.ref 7001 0, .ref 4 0, .ref 5 0, I time, I x, I k, Bv false] [some (.box [nilA]), some (.box [.arr 750]), some (tOStroke 8012 ss), some (bxl00Src src), some (tFStroke ss)] [¬ (0 < k)] ⟨h1, trivial⟩ ?_
    refine xe_then ?_
    refine x_false rfl ?_
    refine x_exit ?_
    refine xe_exit_then ?_
    refine xe_loop_exit ?_
    refine xe_exit_same ?_
    refine xe_then ?_
    refine xR [] [4] [4, 750, 7001, 8012] [.ref 4 0] [some (.box [.arr 750]), some (tOStroke 8012 ss), some (bxl00Src src), some (tFStroke ss)] [] trivial ?_
    refine x_ret ?_
    refine xe_weak [(8011, 750)] (T := [(4, .ref 4 0)]) (O := [(4, .box [.arr 8011]), (7001, bxl00Src src), (8011, tOStroke 8012 ss), (8012, tFStroke ss)]) rfl (⟨.inl rfl, trivial⟩) (⟨.inl rfl, .inl rfl, .inl rfl, .inl rfl, trivial⟩) ?_
    refine xe_end (src, ss) (show (okSrc src) ∧ (src.code = s.code) ∧ (s.atx + 0 ≤ src.atx ∧ src.atx ≤ s.atx + 3000) ∧ ((ss.length : Int) ≤ most) ∧ (∀ t ∈ ss, 1 ≤ t.Points.length ∧ t.Points.length ≤ 10) ∧ (okInk' ⟨ss⟩ = true) ∧ (True) from ⟨(by first | exact hik.1 | omega | assumption | rfl | (simp; done) | (simp; omega) | (simp_all; done)), (by first | exact hik.1 | omega | assumption | rfl | (simp; done) | (simp; omega) | (simp_all; done)), (by first | exact hik.1 | omega | assumption | rfl | (simp; done) | (simp; omega) | (simp_all; done)), (by first | exact hik.1 | omega | assumption | rfl | (simp; done) | (simp; omega) | (simp_all; done)), (by first | exact hik.1 | omega | assumption | rfl | (simp; done) | (simp; omega) | (simp_all; done)), (by first | exact hik.1 | omega | assumption | rfl | (simp; done) | (simp; omega) | (simp_all; done)), trivial⟩) (⟨.inl rfl, .inl rfl, .inl rfl, trivial⟩) (.agg [.arr 8011]) (by kernel_rfl) (.inl rfl) (fun h => by cases h) (fun h => by cases h)
  obtain ⟨⟨s', ss⟩, ⟨hh0, hh1, hh2, hh3, hh4, hh5, _⟩, hc⟩ := hh
  exact ⟨s', ss, hh0, hh1, hh2, hh3, hh4, hh5, hc⟩
theorem A2Ink_ok (code : List Int) (hc : (∀ j, j < code.length → 0 ≤ at_ code j ∧ at_ code j ≤ 255) ∧ code.length ≤ 4611686018427387904) : ∃ (ik : Ink), (okInk' ik = true) ∧ ((ik.Strokes.length : Int) ≤ 6) ∧ Con Tryz.prog 6 [slU8 false code] true (.agg [slStroke true ik.Strokes]) := by
  have hh : ∃ r : Ink, ((okInk' r = true) ∧ ((r.Strokes.length : Int) ≤ 6) ∧ (True)) ∧ CallOK Tryz.prog 6 [slU8 false code] (lookO []) true (.agg [slStroke true r.Strokes]) (lookO []) := by
    refine fn_okX (Φ := fun r : Ink => (okInk' r = true) ∧ ((r.Strokes.length : Int) ≤ 6) ∧ (True)) [] (fun r => []) (fn := Tryz.f6) (nt := 12) Tryz.func6 rfl rfl (args := [slU8 false code]) rfl (allcons (.inl ⟨rfl, tagU8 false _⟩) allnil) (res := fun r => .agg [slStroke true r.Strokes]) ?_
    refine xR [(0, .new 2)] [0, 2] [2] [slU8 false code, .ref 2 0] [some (.box [nilA])] [] trivial ?_
    refine x_seq ?_
    obtain ⟨s'_1, hx1_0, hc1⟩ := l00From_ok code
    have hsrc : okSrc s'_1 := ⟨by rw [hx1_0.1]; exact hc.1, by rw [hx1_0.2]; decide, by rw [hx1_0.1]; exact hc.2⟩
    have hat0 := hx1_0.2
    refine x_r [(1, .lend [] [(7001, bxl00Src s'_1)] [(true, .any)] false (.ref 7001 0))] [2, 3] [2, 7001] [.ref 2 0, .ref 7001 0] [some (.box [nilA]), some (bxl00Src s'_1)] [CallOK Tryz.prog 27 [slU8 false code] (lookO []) false (.ref 7001 0) (lookO [(7001, bxl00Src s'_1)]) ∧ True] ⟨⟨hc1, trivial⟩, trivial⟩ ?_
    refine xe_then ?_
    refine x_seq ?_
    refine x_seq ?_
    obtain ⟨v_2, s'_2, hx2_0, hx2_1, hx2_2, hc2⟩ := one_ok s'_1 3 (by first | assumption | (simp only [okSrc] at *; simp_all; done)) (by omega)
    rcases Bool.eq_false_or_eq_true v_2 with h1 | h1
    ·subst h1
     refine x_r [(1, .lend [(7001, bxl00Src s'_1, bxl00Src s'_2)] [] [(true, .any), (true, .any)] true (Bv true))] [2, 3, 7] [2, 7001] [.ref 2 0, .ref 7001 0, Bv true] [some (.box [nilA]), some (bxl00Src s'_2)] [CallOK Tryz.prog 28 [.ref 7001 0, I 3] (lookO [(7001, bxl00Src s'_1)]) true (Bv true) (lookO [(7001, bxl00Src s'_2)]) ∧ (((bxl00Src s'_1 : Ob) = bxl00Src s'_1 ∨ obLe noOb true (bxl00Src s'_1) (bxl00Src s'_1)) ∧ taggedO false (bxl00Src s'_1)) ∧ True] ⟨⟨hc2, ⟨.inl rfl, (by simp [taggedO, taggedL, tagged, tagU8])⟩, trivial⟩, trivial⟩ ?_
     refine xe_then ?_
     refine x_true rfl ?_
     refine x_seq ?_
     obtain ⟨s'_3, ss_3, hx3_0, hx3_1, hx3_2, hx3_3, hx3_4, hc3⟩ := l14Draw_ok s'_2 6 (by first | assumption | (simp only [okSrc] at *; simp_all; done)) (by omega) (by omega)
     refine x_r [(1, .lend [(7001, bxl00Src s'_2, bxl00Src s'_3)] [(8321, tOStroke 8322 ss_3), (8322, tFStroke ss_3)] [(true, .any), (true, .any)] false (.agg [.arr 8321]))] [2] [2, 8321, 8322] [.ref 2 0] [some (.box [.arr 8321]), some (tOStroke 8322 ss_3), some (tFStroke ss_3)] [CallOK Tryz.prog 29 [.ref 7001 0, I 6] (lookO [(7001, bxl00Src s'_2)]) false (.agg [.arr 8321]) (lookO [(7001, bxl00Src s'_3), (8321, tOStroke 8322 ss_3), (8322, tFStroke ss_3)]) ∧ (((bxl00Src s'_2 : Ob) = bxl00Src s'_2 ∨ obLe noOb true (bxl00Src s'_2) (bxl00Src s'_2)) ∧ taggedO false (bxl00Src s'_2)) ∧ True] ⟨⟨hc3, ⟨.inl rfl, (by simp [taggedO, taggedL, tagged, tagU8])⟩, trivial⟩, trivial⟩ ?_
     refine xe_then ?_
     refine x_ret ?_
     refine xe_ret_then ?_
     refine xe_end (Ink.mk ss_3) (show (okInk' (Ink.mk ss_3) = true) ∧ (((Ink.mk ss_3).Strokes.length : Int) ≤ 6) ∧ (True) from ⟨(by first | assumption | omega | (simp only; omega) | (simp only; assumption)), (by first | assumption | omega | (simp only; omega) | (simp only; assumption)), trivial⟩) (trivial) (.agg [.arr 8321]) (by kernel_rfl) (.inr ⟨⟨(fun _ => rfl), rfl, rfl, oleStroke _ _ rfl⟩, rfl⟩) (fun _ => rfl) (fun _ => (by simp [tagged, taggedL, tagStroke]))
    subst h1
    refine x_r [(1, .lend [(7001, bxl00Src s'_1, bxl00Src s'_2)] [] [(true, .any), (true, .any)] true (Bv false))] [2, 3, 7] [2, 7001] [.ref 2 0, .ref 7001 0, Bv false] [some (.box [nilA]), some (bxl00Src s'_2)] [CallOK Tryz.prog 28 [.ref 7001 0, I 3] (lookO [(7001, bxl00Src s'_1)]) true (Bv false) (lookO [(7001, bxl00Src s'_2)]) ∧ (((bxl00Src s'_1 : Ob) = bxl00Src s'_1 ∨ obLe noOb true (bxl00Src s'_1) (bxl00Src s'_1)) ∧ taggedO false (bxl00Src s'_1)) ∧ True] ⟨⟨hc2, ⟨.inl rfl, (by simp [taggedO, taggedL, tagged, tagU8])⟩, trivial⟩, trivial⟩ ?_
    refine xe_then ?_
    refine x_false rfl ?_
    refine x_skip ?_
    refine xe_then ?_
    refine x_seq ?_
    obtain ⟨s'_4, ss_4, hx4_0, hx4_1, hx4_2, hx4_3, hx4_4, hx4_5, hc4⟩ := l02Draw_ok s'_2 5 (by first | assumption | (simp only [okSrc] at *; simp_all; done)) (by omega) (by omega)
    refine x_r [(1, .lend [(7001, bxl00Src s'_2, bxl00Src s'_4)] [(8011, tOStroke 8012 ss_4), (8012, tFStroke ss_4)] [(true, .any), (true, .any)] false (.agg [.arr 8011]))] [2] [2, 8011, 8012] [.ref 2 0] [some (.box [.arr 8011]), some (tOStroke 8012 ss_4), some (tFStroke ss_4)] [CallOK Tryz.prog 30 [.ref 7001 0, I 5] (lookO [(7001, bxl00Src s'_2)]) false (.agg [.arr 8011]) (lookO [(7001, bxl00Src s'_4), (8011, tOStroke 8012 ss_4), (8012, tFStroke ss_4)]) ∧ (((bxl00Src s'_2 : Ob) = bxl00Src s'_2 ∨ obLe noOb true (bxl00Src s'_2) (bxl00Src s'_2)) ∧ taggedO false (bxl00Src s'_2)) ∧ True] ⟨⟨hc4, ⟨.inl rfl, (by simp [taggedO, taggedL, tagged, tagU8])⟩, trivial⟩, trivial⟩ ?_
    refine xe_then ?_
    refine x_ret ?_
    refine xe_end (Ink.mk ss_4) (show (okInk' (Ink.mk ss_4) = true) ∧ (((Ink.mk ss_4).Strokes.length : Int) ≤ 6) ∧ (True) from ⟨(by first | assumption | omega | (simp only; omega) | (simp only; assumption)), (by first | assumption | omega | (simp only; omega) | (simp only; assumption)), trivial⟩) (trivial) (.agg [.arr 8011]) (by kernel_rfl) (.inr ⟨⟨(fun _ => rfl), rfl, rfl, oleStroke _ _ rfl⟩, rfl⟩) (fun _ => rfl) (fun _ => (by simp [tagged, taggedL, tagStroke]))
  obtain ⟨ik, ⟨hh0, hh1, _⟩, hc⟩ := hh
  exact ⟨ik, hh0, hh1, hc⟩
theorem within_ok (n : Int) (low : Int) (high : Int) : Con Tryz.prog 117 [I n, I low, I high] true (Bv (inB n low high)) := by
  refine fn_ok (fn := Tryz.f117) (nt := 15) Tryz.func117 rfl rfl rfl rfl (by simp [taggedL, tagged]) fun B hB => ?_
  refine aR [] [0, 1, 2] [] [I n, I low, I high] [] [] hB trivial ?_
  refine aw_seq ?_
  by_cases h1 : low ≤ n
  ·refine aw_r [(2, .dec true)] [6] [] [Bv (decide (n ≤ high))] [] [low ≤ n] hB ⟨h1, trivial⟩ ?_
   refine ae_then ?_
   refine aw_ret ?_
   refine ae_ret hB (Bv (decide (n ≤ high))) (by kernel_rfl) (.inl (by first | rfl | (refine congrArg Bv ?_; simp [inB, *]; done) | (refine congrArg Bv ?_; simp [inB, *]; omega) | (refine congrArg Bv ?_; simp_all [inB]; done) | (refine congrArg Bv ?_; simp_all [inB]; omega))) rfl (fun _ => trivial)
  refine aw_r [(2, .dec false)] [6] [] [Bv false] [] [¬ (low ≤ n)] hB ⟨h1, trivial⟩ ?_
  refine ae_then ?_
  refine aw_ret ?_
  refine ae_ret hB (Bv false) (by kernel_rfl) (.inl (by first | rfl | (refine congrArg Bv ?_; simp [inB, *]; done) | (refine congrArg Bv ?_; simp [inB, *]; omega) | (refine congrArg Bv ?_; simp_all [inB]; done) | (refine congrArg Bv ?_; simp_all [inB]; omega))) rfl (fun _ => trivial)
theorem isCoord_ok (n : Int) : Con Tryz.prog 148 [I n] true (Bv (inB n 0 4095)) := by
  refine fn_ok (fn := Tryz.f148) (nt := 5) Tryz.func148 rfl rfl rfl rfl (by simp [taggedL, tagged]) fun B hB => ?_
  refine aR [] [0] [] [I n] [] [] hB trivial ?_
  refine aR [(1, .call [(true, .any), (true, .any), (true, .any)] true (Bv (inB n 0 4095)))] [2] [] [Bv (inB n 0 4095)] [] [Con Tryz.prog 117 [I n, I 0, I 4095] true (Bv (inB n 0 4095)) ∧ True] hB ⟨⟨(within_ok n 0 4095), trivial⟩, trivial⟩ ?_
  refine aw_ret ?_
  refine ae_ret hB (Bv (inB n 0 4095)) (by kernel_rfl) (.inl rfl) rfl (fun _ => trivial)
theorem validPoint_ok (p : Point) : Con Tryz.prog 121 [agPoint p] true (Bv (okP p)) := by
  refine fn_ok (fn := Tryz.f121) (nt := 16) Tryz.func121 rfl rfl rfl rfl (by simp [taggedL, tagged]) fun B hB => ?_
  refine aR [(0, .new 1)] [1] [1] [.ref 1 0] [some (bxPoint p)] [] hB trivial ?_
  refine aw_seq ?_
  rcases Bool.eq_false_or_eq_true (inB p.X 0 4095) with h1 | h1
  ·rcases Bool.eq_false_or_eq_true (inB p.Y 0 4095) with h2 | h2
   ·refine aw_r [(2, .call [(true, .any)] true (Bv true)), (6, .call [(true, .any)] true (Bv true)), (11, .call [(true, .any), (true, .any), (true, .any)] true (Bv (inB p.T 0 3600000)))] [2] [] [Bv (inB p.T 0 3600000)] [] [Con Tryz.prog 148 [I p.X] true (Bv true) ∧ True, Con Tryz.prog 148 [I p.Y] true (Bv true) ∧ True, Con Tryz.prog 117 [I p.T, I 0, I 3600000] true (Bv (inB p.T 0 3600000)) ∧ True] hB ⟨⟨(con_bool h1 (isCoord_ok p.X)), trivial⟩, ⟨(con_bool h2 (isCoord_ok p.Y)), trivial⟩, ⟨(within_ok p.T 0 3600000), trivial⟩, trivial⟩ ?_
    refine ae_then ?_
    refine aw_ret ?_
    refine ae_ret hB (Bv (inB p.T 0 3600000)) (by kernel_rfl) (.inl (by first | rfl | (refine congrArg Bv ?_; simp [okP, *]; done) | (refine congrArg Bv ?_; simp [okP, *]; omega) | (refine congrArg Bv ?_; simp_all [okP]; done) | (refine congrArg Bv ?_; simp_all [okP]; omega))) rfl (fun _ => trivial)
   refine aw_r [(2, .call [(true, .any)] true (Bv true)), (6, .call [(true, .any)] true (Bv false))] [2] [] [Bv false] [] [Con Tryz.prog 148 [I p.X] true (Bv true) ∧ True, Con Tryz.prog 148 [I p.Y] true (Bv false) ∧ True] hB ⟨⟨(con_bool h1 (isCoord_ok p.X)), trivial⟩, ⟨(con_bool h2 (isCoord_ok p.Y)), trivial⟩, trivial⟩ ?_
   refine ae_then ?_
   refine aw_ret ?_
   refine ae_ret hB (Bv false) (by kernel_rfl) (.inl (by first | rfl | (refine congrArg Bv ?_; simp [okP, *]; done) | (refine congrArg Bv ?_; simp [okP, *]; omega) | (refine congrArg Bv ?_; simp_all [okP]; done) | (refine congrArg Bv ?_; simp_all [okP]; omega))) rfl (fun _ => trivial)
  refine aw_r [(2, .call [(true, .any)] true (Bv false))] [2] [] [Bv false] [] [Con Tryz.prog 148 [I p.X] true (Bv false) ∧ True] hB ⟨⟨(con_bool h1 (isCoord_ok p.X)), trivial⟩, trivial⟩ ?_
  refine ae_then ?_
  refine aw_ret ?_
  refine ae_ret hB (Bv false) (by kernel_rfl) (.inl (by first | rfl | (refine congrArg Bv ?_; simp [okP, *]; done) | (refine congrArg Bv ?_; simp [okP, *]; omega) | (refine congrArg Bv ?_; simp_all [okP]; done) | (refine congrArg Bv ?_; simp_all [okP]; omega))) rfl (fun _ => trivial)
theorem ValidStroke_ok (s : Stroke) : Con Tryz.prog 75 [.agg [slPoint false s.Points]] true (Bv (okStroke' s)) := by
  refine fn_ok (fn := Tryz.f75) (nt := 43) Tryz.func75 rfl rfl rfl rfl (by simp [taggedL, tagged, tagPoint]) fun B hB => ?_
  refine aw_lens (x := .agg [slPoint false s.Points]) 0 rfl (fun len_s => ?_)
  simp [LenOK, LenL, cPoint, fPoint, slPoint] at len_s
  refine aR [(0, .new 1)] [1] [1] [.ref 1 0] [some (.box [slPoint false s.Points])] [] hB trivial ?_
  refine aw_seq ?_
  refine aR [] [1, 6, 7, 8] [1] [.ref 1 0, slPoint false s.Points, I (s.Points.length : Int), I 0] [some (.box [slPoint false s.Points])] [] hB trivial ?_
  refine aw_block ?_
  refine aw_loop (fun gn gσ => ∃ (t8 : Int), gn = ((s.Points.length : Int) - t8).toNat ∧ (0 ≤ t8 ∧ t8 ≤ (s.Points.length : Int)) ∧ (∀ j : Nat, (j : Int) < t8 → okPt s.Points j = true) ∧ gσ = mkS [(1, .ref 1 0), (6, slPoint false s.Points), (7, I (s.Points.length : Int)), (8, I t8)] [(1, .box [slPoint false s.Points])]) (((s.Points.length : Int) - 0).toNat) ⟨0, rfl, (by omega), (by intro j hj; omega), rfl⟩ (fun gn gσ hI => ?_)
  obtain ⟨t8, rfl, hi0, hall0, rfl⟩ := hI
  refine aw_seq ?_
  by_cases h1 : t8 < (s.Points.length : Int)
  ·have hi : t8.toNat < s.Points.length := by omega
   refine aw_r [(0, .dec true)] [1, 6, 7, 8, 9] [1] [.ref 1 0, slPoint false s.Points, I (s.Points.length : Int), I t8, Bv true] [some (.box [slPoint false s.Points])] [t8 < (s.Points.length : Int)] hB ⟨h1, trivial⟩ ?_
   refine ae_then ?_
   refine aw_seq ?_
   refine aw_true rfl ?_
   refine aw_skip ?_
   refine ae_then ?_
   refine aw_seq ?_
   refine aw_block ?_
   refine aR [(3, .new 4)] [1, 3, 4, 6, 7, 8] [1, 4] [.ref 1 0, I t8, .ref 4 0, slPoint false s.Points, I (s.Points.length : Int), I t8] [some (.box [slPoint false s.Points]), some (bxPoint (at_ s.Points t8.toNat))] [(0 : Int) ≤ t8 ∧ t8 < (s.Points.length : Int)] hB ⟨⟨(by omega), (by omega)⟩, trivial⟩ ?_
   refine aw_seq ?_
   rcases Bool.eq_false_or_eq_true (okP (at_ s.Points t8.toNat)) with h2 | h2
   ·by_cases h3 : 0 < t8
    ·by_cases h4 : ((at_ s.Points t8.toNat).T) ≤ ((at_ s.Points ((t8 - 1).toNat)).T)
     ·have hall : allN s.Points.length (okPt s.Points) = false := allN_not hi (okPt_no h3 h4)
      refine aw_r [(1, .call [(true, .any)] true (Bv true)), (5, .dec true), (16, .dec true)] [1, 6, 7, 8, 31] [1] [.ref 1 0, slPoint false s.Points, I (s.Points.length : Int), I t8, Bv true] [some (.box [slPoint false s.Points])] [Con Tryz.prog 121 [agPoint (at_ s.Points t8.toNat)] true (Bv true) ∧ True, 0 < t8, inR .i64 (t8 - 1), (0 : Int) ≤ (t8 - 1) ∧ (t8 - 1) < (s.Points.length : Int), ((at_ s.Points t8.toNat).T) ≤ ((at_ s.Points ((t8 - 1).toNat)).T)] hB ⟨⟨(con_bool h2 (validPoint_ok (at_ s.Points t8.toNat))), trivial⟩, h3, (inR_i64 (by omega) (by omega)), ⟨(by omega), (by omega)⟩, h4, trivial⟩ ?_
      refine ae_then ?_
      refine aw_true rfl ?_
      refine aR [] [2] [] [Bv false] [] [] hB trivial ?_
      refine aw_ret ?_
      refine ae_ret_block (ae_ret_then (ae_ret_then (ae_ret_block (ae_ret_then ?_))))
      refine ae_ret hB (Bv false) (by kernel_rfl) (.inl (by first | rfl | (refine congrArg Bv ?_; simp [okStroke', inB, *]; done) | (refine congrArg Bv ?_; simp [okStroke', inB, *]; omega) | (refine congrArg Bv ?_; simp_all [okStroke', inB]; done) | (refine congrArg Bv ?_; simp_all [okStroke', inB]; omega))) rfl (fun _ => trivial)
     have hok := okPt_yes h2 h3 h4
     refine aw_r [(1, .call [(true, .any)] true (Bv true)), (5, .dec true), (16, .dec false)] [1, 6, 7, 8, 31] [1] [.ref 1 0, slPoint false s.Points, I (s.Points.length : Int), I t8, Bv false] [some (.box [slPoint false s.Points])] [Con Tryz.prog 121 [agPoint (at_ s.Points t8.toNat)] true (Bv true) ∧ True, 0 < t8, inR .i64 (t8 - 1), (0 : Int) ≤ (t8 - 1) ∧ (t8 - 1) < (s.Points.length : Int), ¬ (((at_ s.Points t8.toNat).T) ≤ ((at_ s.Points ((t8 - 1).toNat)).T))] hB ⟨⟨(con_bool h2 (validPoint_ok (at_ s.Points t8.toNat))), trivial⟩, h3, (inR_i64 (by omega) (by omega)), ⟨(by omega), (by omega)⟩, h4, trivial⟩ ?_
     refine ae_then ?_
     refine aw_false rfl ?_
     refine aw_skip ?_
     refine ae_block 1 ?_
     refine ae_then ?_
     refine aw_r [] [1, 6, 7, 8] [1] [.ref 1 0, slPoint false s.Points, I (s.Points.length : Int), I (t8 + 1)] [some (.box [slPoint false s.Points])] [inR .i64 (t8 + 1)] hB ⟨(inR_i64 (by omega) (by omega)), trivial⟩ ?_
     exact ae_again _ (by omega) ⟨(t8 + 1), rfl, (by omega), (by intro j hj; by_cases ej : j = t8.toNat; (subst ej; first | assumption | exact hok); exact hall0 j (by omega)), rfl⟩
    have hok := okPt_zero h2 hi0.1 h3
    refine aw_r [(1, .call [(true, .any)] true (Bv true)), (5, .dec false)] [1, 6, 7, 8, 31] [1] [.ref 1 0, slPoint false s.Points, I (s.Points.length : Int), I t8, Bv false] [some (.box [slPoint false s.Points])] [Con Tryz.prog 121 [agPoint (at_ s.Points t8.toNat)] true (Bv true) ∧ True, ¬ (0 < t8)] hB ⟨⟨(con_bool h2 (validPoint_ok (at_ s.Points t8.toNat))), trivial⟩, h3, trivial⟩ ?_
    refine ae_then ?_
    refine aw_false rfl ?_
    refine aw_skip ?_
    refine ae_block 1 ?_
    refine ae_then ?_
    refine aw_r [] [1, 6, 7, 8] [1] [.ref 1 0, slPoint false s.Points, I (s.Points.length : Int), I (t8 + 1)] [some (.box [slPoint false s.Points])] [inR .i64 (t8 + 1)] hB ⟨(inR_i64 (by omega) (by omega)), trivial⟩ ?_
    exact ae_again _ (by omega) ⟨(t8 + 1), rfl, (by omega), (by intro j hj; by_cases ej : j = t8.toNat; (subst ej; first | assumption | exact hok); exact hall0 j (by omega)), rfl⟩
   have hall : allN s.Points.length (okPt s.Points) = false := allN_not hi (okPt_bad h2)
   refine aw_r [(1, .call [(true, .any)] true (Bv false))] [1, 6, 7, 8, 31] [1] [.ref 1 0, slPoint false s.Points, I (s.Points.length : Int), I t8, Bv true] [some (.box [slPoint false s.Points])] [Con Tryz.prog 121 [agPoint (at_ s.Points t8.toNat)] true (Bv false) ∧ True] hB ⟨⟨(con_bool h2 (validPoint_ok (at_ s.Points t8.toNat))), trivial⟩, trivial⟩ ?_
   refine ae_then ?_
   refine aw_true rfl ?_
   refine aR [] [2] [] [Bv false] [] [] hB trivial ?_
   refine aw_ret ?_
   refine ae_ret_block (ae_ret_then (ae_ret_then (ae_ret_block (ae_ret_then ?_))))
   refine ae_ret hB (Bv false) (by kernel_rfl) (.inl (by first | rfl | (refine congrArg Bv ?_; simp [okStroke', inB, *]; done) | (refine congrArg Bv ?_; simp [okStroke', inB, *]; omega) | (refine congrArg Bv ?_; simp_all [okStroke', inB]; done) | (refine congrArg Bv ?_; simp_all [okStroke', inB]; omega))) rfl (fun _ => trivial)
  have hall : allN s.Points.length (okPt s.Points) = true := allN_at (fun j hj => hall0 j (by omega))
  refine aw_r [(0, .dec false)] [1, 6, 7, 8, 9] [1] [.ref 1 0, slPoint false s.Points, I (s.Points.length : Int), I t8, Bv false] [some (.box [slPoint false s.Points])] [¬ (t8 < (s.Points.length : Int))] hB ⟨h1, trivial⟩ ?_
  refine ae_then ?_
  refine aw_seq ?_
  refine aw_false rfl ?_
  refine aw_exit ?_
  refine ae_exit_then ?_
  refine ae_exit_then ?_
  refine ae_exit_same ?_
  refine ae_then ?_
  refine aw_seq ?_
  by_cases h5 : 1 ≤ (s.Points.length : Int)
  ·refine aw_r [(3, .dec true)] [2] [] [Bv (decide ((s.Points.length : Int) ≤ 60))] [] [1 ≤ (s.Points.length : Int)] hB ⟨h5, trivial⟩ ?_
   refine ae_then ?_
   refine aw_ret ?_
   refine ae_ret hB (Bv (decide ((s.Points.length : Int) ≤ 60))) (by kernel_rfl) (.inl (by first | rfl | (refine congrArg Bv ?_; simp [okStroke', inB, *]; done) | (refine congrArg Bv ?_; simp [okStroke', inB, *]; omega) | (refine congrArg Bv ?_; simp_all [okStroke', inB]; done) | (refine congrArg Bv ?_; simp_all [okStroke', inB]; omega))) rfl (fun _ => trivial)
  refine aw_r [(3, .dec false)] [2] [] [Bv false] [] [¬ (1 ≤ (s.Points.length : Int))] hB ⟨h5, trivial⟩ ?_
  refine ae_then ?_
  refine aw_ret ?_
  refine ae_ret hB (Bv false) (by kernel_rfl) (.inl (by first | rfl | (refine congrArg Bv ?_; simp [okStroke', inB, *]; done) | (refine congrArg Bv ?_; simp [okStroke', inB, *]; omega) | (refine congrArg Bv ?_; simp_all [okStroke', inB]; done) | (refine congrArg Bv ?_; simp_all [okStroke', inB]; omega))) rfl (fun _ => trivial)
theorem firstOf_ok (s : Stroke) (ok : okStroke' s = true) : Con Tryz.prog 76 [.agg [slPoint false s.Points]] true (agPoint (at_ s.Points 0)) := by
  have hln := okS_len ok
  refine fn_ok (fn := Tryz.f76) (nt := 7) Tryz.func76 rfl rfl rfl rfl (by simp [taggedL, tagged, tagPoint]) fun B hB => ?_
  refine aw_lens (x := .agg [slPoint false s.Points]) 0 rfl (fun len_s => ?_)
  simp [LenOK, LenL, cPoint, fPoint, slPoint] at len_s
  refine aR [(0, .new 1), (1, .new 2)] [1, 2] [1, 2] [.ref 1 0, .ref 2 0] [some (.box [slPoint false s.Points]), some (.box [I 0, I 0, I 0])] [] hB trivial ?_
  refine aR [] [2] [2] [.ref 2 0] [some (bxPoint (at_ s.Points 0))] [(0 : Int) ≤ 0 ∧ 0 < (s.Points.length : Int)] hB ⟨⟨(by omega), (by omega)⟩, trivial⟩ ?_
  refine aw_ret ?_
  refine ae_ret hB (agPoint (at_ s.Points 0)) (by kernel_rfl) (.inl rfl) rfl (fun _ => (by simp [tagged, taggedL]))
theorem lastOf_ok (s : Stroke) (ok : okStroke' s = true) : Con Tryz.prog 77 [.agg [slPoint false s.Points]] true (agPoint (at_ s.Points (s.Points.length - 1))) := by
  have hln := okS_len ok
  refine fn_ok (fn := Tryz.f77) (nt := 11) Tryz.func77 rfl rfl rfl rfl (by simp [taggedL, tagged, tagPoint]) fun B hB => ?_
  refine aw_lens (x := .agg [slPoint false s.Points]) 0 rfl (fun len_s => ?_)
  simp [LenOK, LenL, cPoint, fPoint, slPoint] at len_s
  refine aR [(0, .new 1), (1, .new 2)] [1, 2] [1, 2] [.ref 1 0, .ref 2 0] [some (.box [slPoint false s.Points]), some (.box [I 0, I 0, I 0])] [] hB trivial ?_
  refine aR [] [2] [2] [.ref 2 0] [some (bxPoint (at_ s.Points (((s.Points.length : Int) - 1).toNat)))] [inR .i64 ((s.Points.length : Int) - 1), (0 : Int) ≤ ((s.Points.length : Int) - 1) ∧ ((s.Points.length : Int) - 1) < (s.Points.length : Int)] hB ⟨(inR_i64 (by omega) (by omega)), ⟨(by omega), (by omega)⟩, trivial⟩ ?_
  refine aw_ret ?_
  refine ae_ret hB (agPoint (at_ s.Points (((s.Points.length : Int) - 1).toNat))) (by kernel_rfl) (.inl (by first | rfl | (have e : ((s.Points.length : Int) - 1).toNat = s.Points.length - 1 := (by omega); rw [e]))) rfl (fun _ => (by simp [tagged, taggedL]))
theorem ValidInk_ok (ik : Ink) : Con Tryz.prog 31 [.agg [slStroke false ik.Strokes]] true (Bv (okInk' ik)) := by
  refine fn_ok (fn := Tryz.f31) (nt := 39) Tryz.func31 rfl rfl rfl rfl (by simp [taggedL, tagged, tagStroke]) fun B hB => ?_
  refine aw_lens (x := .agg [slStroke false ik.Strokes]) 0 rfl (fun len_ik => ?_)
  simp [LenOK, LenL, cPoint, cStroke, fPoint, fStroke, slPoint, slStroke] at len_ik
  refine aR [(0, .new 1)] [1] [1] [.ref 1 0] [some (.box [slStroke false ik.Strokes])] [] hB trivial ?_
  refine aw_seq ?_
  refine aR [] [1, 6, 7, 8] [1] [.ref 1 0, slStroke false ik.Strokes, I (ik.Strokes.length : Int), I 0] [some (.box [slStroke false ik.Strokes])] [] hB trivial ?_
  refine aw_block ?_
  refine aw_loop (fun gn gσ => ∃ (t8 : Int), gn = ((ik.Strokes.length : Int) - t8).toNat ∧ (0 ≤ t8 ∧ t8 ≤ (ik.Strokes.length : Int)) ∧ (∀ j : Nat, (j : Int) < t8 → okSA ik.Strokes j = true) ∧ gσ = mkS [(1, .ref 1 0), (6, slStroke false ik.Strokes), (7, I (ik.Strokes.length : Int)), (8, I t8)] [(1, .box [slStroke false ik.Strokes])]) (((ik.Strokes.length : Int) - 0).toNat) ⟨0, rfl, (by omega), (by intro j hj; omega), rfl⟩ (fun gn gσ hI => ?_)
  obtain ⟨t8, rfl, hi0, hall0, rfl⟩ := hI
  refine aw_seq ?_
  by_cases h1 : t8 < (ik.Strokes.length : Int)
  ·have hi : t8.toNat < ik.Strokes.length := by omega
   refine aw_r [(0, .dec true)] [1, 6, 7, 8, 9] [1] [.ref 1 0, slStroke false ik.Strokes, I (ik.Strokes.length : Int), I t8, Bv true] [some (.box [slStroke false ik.Strokes])] [t8 < (ik.Strokes.length : Int)] hB ⟨h1, trivial⟩ ?_
   refine ae_then ?_
   refine aw_seq ?_
   refine aw_true rfl ?_
   refine aw_skip ?_
   refine ae_then ?_
   refine aw_seq ?_
   refine aw_block ?_
   refine aR [(3, .new 4)] [1, 3, 4, 6, 7, 8] [1, 4] [.ref 1 0, I t8, .ref 4 0, slStroke false ik.Strokes, I (ik.Strokes.length : Int), I t8] [some (.box [slStroke false ik.Strokes]), some (.box [slPoint false ((at_ ik.Strokes t8.toNat).Points)])] [(0 : Int) ≤ t8 ∧ t8 < (ik.Strokes.length : Int)] hB ⟨⟨(by omega), (by omega)⟩, trivial⟩ ?_
   refine aw_seq ?_
   rcases Bool.eq_false_or_eq_true (okStroke' (at_ ik.Strokes t8.toNat)) with h2 | h2
   ·have hln := okS_len h2
    by_cases h3 : 0 < t8
    ·have hpr := okS_len (okSA_ok (hall0 (t8 - 1).toNat (by omega)))
     by_cases h4 : ((at_ (at_ ik.Strokes t8.toNat).Points 0).T) ≤ ((at_ (at_ ik.Strokes ((t8 - 1).toNat)).Points ((at_ ik.Strokes ((t8 - 1).toNat)).Points.length - 1)).T)
     ·have hall : allN ik.Strokes.length (okSA ik.Strokes) = false := allN_not hi (okSA_no h3 h4)
      refine aw_r [(1, .call [(true, .any)] true (Bv true)), (5, .dec true), (8, .call [(true, .any)] true (agPoint (at_ (at_ ik.Strokes t8.toNat).Points 0))), (16, .call [(true, .any)] true (agPoint (at_ (at_ ik.Strokes ((t8 - 1).toNat)).Points ((at_ ik.Strokes ((t8 - 1).toNat)).Points.length - 1)))), (18, .dec true)] [1, 6, 7, 8, 33] [1] [.ref 1 0, slStroke false ik.Strokes, I (ik.Strokes.length : Int), I t8, Bv true] [some (.box [slStroke false ik.Strokes])] [Con Tryz.prog 75 [.agg [slPoint false ((at_ ik.Strokes t8.toNat).Points)]] true (Bv true) ∧ True, 0 < t8, Con Tryz.prog 76 [.agg [slPoint false ((at_ ik.Strokes t8.toNat).Points)]] true (agPoint (at_ (at_ ik.Strokes t8.toNat).Points 0)) ∧ True, inR .i64 (t8 - 1), (0 : Int) ≤ (t8 - 1) ∧ (t8 - 1) < (ik.Strokes.length : Int), Con Tryz.prog 77 [.agg [slPoint false ((at_ ik.Strokes ((t8 - 1).toNat)).Points)]] true (agPoint (at_ (at_ ik.Strokes ((t8 - 1).toNat)).Points ((at_ ik.Strokes ((t8 - 1).toNat)).Points.length - 1))) ∧ True, ((at_ (at_ ik.Strokes t8.toNat).Points 0).T) ≤ ((at_ (at_ ik.Strokes ((t8 - 1).toNat)).Points ((at_ ik.Strokes ((t8 - 1).toNat)).Points.length - 1)).T)] hB ⟨⟨(con_bool h2 (ValidStroke_ok (at_ ik.Strokes t8.toNat))), trivial⟩, h3, ⟨(firstOf_ok (at_ ik.Strokes t8.toNat) (by first | assumption | exact okSA_ok (hall0 _ (by omega)))), trivial⟩, (inR_i64 (by omega) (by omega)), ⟨(by omega), (by omega)⟩, ⟨(lastOf_ok (at_ ik.Strokes ((t8 - 1).toNat)) (by first | assumption | exact okSA_ok (hall0 _ (by omega)))), trivial⟩, h4, trivial⟩ ?_
      refine ae_then ?_
      refine aw_true rfl ?_
      refine aR [] [2] [] [Bv false] [] [] hB trivial ?_
      refine aw_ret ?_
      refine ae_ret_block (ae_ret_then (ae_ret_then (ae_ret_block (ae_ret_then ?_))))
      refine ae_ret hB (Bv false) (by kernel_rfl) (.inl (by first | rfl | (refine congrArg Bv ?_; simp [okInk', *]; done) | (refine congrArg Bv ?_; simp [okInk', *]; omega) | (refine congrArg Bv ?_; simp_all [okInk']; done) | (refine congrArg Bv ?_; simp_all [okInk']; omega))) rfl (fun _ => trivial)
     have hok := okSA_yes h2 h3 h4
     refine aw_r [(1, .call [(true, .any)] true (Bv true)), (5, .dec true), (8, .call [(true, .any)] true (agPoint (at_ (at_ ik.Strokes t8.toNat).Points 0))), (16, .call [(true, .any)] true (agPoint (at_ (at_ ik.Strokes ((t8 - 1).toNat)).Points ((at_ ik.Strokes ((t8 - 1).toNat)).Points.length - 1)))), (18, .dec false)] [1, 6, 7, 8, 33] [1] [.ref 1 0, slStroke false ik.Strokes, I (ik.Strokes.length : Int), I t8, Bv false] [some (.box [slStroke false ik.Strokes])] [Con Tryz.prog 75 [.agg [slPoint false ((at_ ik.Strokes t8.toNat).Points)]] true (Bv true) ∧ True, 0 < t8, Con Tryz.prog 76 [.agg [slPoint false ((at_ ik.Strokes t8.toNat).Points)]] true (agPoint (at_ (at_ ik.Strokes t8.toNat).Points 0)) ∧ True, inR .i64 (t8 - 1), (0 : Int) ≤ (t8 - 1) ∧ (t8 - 1) < (ik.Strokes.length : Int), Con Tryz.prog 77 [.agg [slPoint false ((at_ ik.Strokes ((t8 - 1).toNat)).Points)]] true (agPoint (at_ (at_ ik.Strokes ((t8 - 1).toNat)).Points ((at_ ik.Strokes ((t8 - 1).toNat)).Points.length - 1))) ∧ True, ¬ (((at_ (at_ ik.Strokes t8.toNat).Points 0).T) ≤ ((at_ (at_ ik.Strokes ((t8 - 1).toNat)).Points ((at_ ik.Strokes ((t8 - 1).toNat)).Points.length - 1)).T))] hB ⟨⟨(con_bool h2 (ValidStroke_ok (at_ ik.Strokes t8.toNat))), trivial⟩, h3, ⟨(firstOf_ok (at_ ik.Strokes t8.toNat) (by first | assumption | exact okSA_ok (hall0 _ (by omega)))), trivial⟩, (inR_i64 (by omega) (by omega)), ⟨(by omega), (by omega)⟩, ⟨(lastOf_ok (at_ ik.Strokes ((t8 - 1).toNat)) (by first | assumption | exact okSA_ok (hall0 _ (by omega)))), trivial⟩, h4, trivial⟩ ?_
     refine ae_then ?_
     refine aw_false rfl ?_
     refine aw_skip ?_
     refine ae_block 1 ?_
     refine ae_then ?_
     refine aw_r [] [1, 6, 7, 8] [1] [.ref 1 0, slStroke false ik.Strokes, I (ik.Strokes.length : Int), I (t8 + 1)] [some (.box [slStroke false ik.Strokes])] [inR .i64 (t8 + 1)] hB ⟨(inR_i64 (by omega) (by omega)), trivial⟩ ?_
     exact ae_again _ (by omega) ⟨(t8 + 1), rfl, (by omega), (by intro j hj; by_cases ej : j = t8.toNat; (subst ej; first | assumption | exact hok); exact hall0 j (by omega)), rfl⟩
    have hok := okSA_zero h2 hi0.1 h3
    refine aw_r [(1, .call [(true, .any)] true (Bv true)), (5, .dec false)] [1, 6, 7, 8, 33] [1] [.ref 1 0, slStroke false ik.Strokes, I (ik.Strokes.length : Int), I t8, Bv false] [some (.box [slStroke false ik.Strokes])] [Con Tryz.prog 75 [.agg [slPoint false ((at_ ik.Strokes t8.toNat).Points)]] true (Bv true) ∧ True, ¬ (0 < t8)] hB ⟨⟨(con_bool h2 (ValidStroke_ok (at_ ik.Strokes t8.toNat))), trivial⟩, h3, trivial⟩ ?_
    refine ae_then ?_
    refine aw_false rfl ?_
    refine aw_skip ?_
    refine ae_block 1 ?_
    refine ae_then ?_
    refine aw_r [] [1, 6, 7, 8] [1] [.ref 1 0, slStroke false ik.Strokes, I (ik.Strokes.length : Int), I (t8 + 1)] [some (.box [slStroke false ik.Strokes])] [inR .i64 (t8 + 1)] hB ⟨(inR_i64 (by omega) (by omega)), trivial⟩ ?_
    exact ae_again _ (by omega) ⟨(t8 + 1), rfl, (by omega), (by intro j hj; by_cases ej : j = t8.toNat; (subst ej; first | assumption | exact hok); exact hall0 j (by omega)), rfl⟩
   have hall : allN ik.Strokes.length (okSA ik.Strokes) = false := allN_not hi (okSA_bad (by simpa using h2))
   refine aw_r [(1, .call [(true, .any)] true (Bv false))] [1, 6, 7, 8, 33] [1] [.ref 1 0, slStroke false ik.Strokes, I (ik.Strokes.length : Int), I t8, Bv true] [some (.box [slStroke false ik.Strokes])] [Con Tryz.prog 75 [.agg [slPoint false ((at_ ik.Strokes t8.toNat).Points)]] true (Bv false) ∧ True] hB ⟨⟨(con_bool h2 (ValidStroke_ok (at_ ik.Strokes t8.toNat))), trivial⟩, trivial⟩ ?_
   refine ae_then ?_
   refine aw_true rfl ?_
   refine aR [] [2] [] [Bv false] [] [] hB trivial ?_
   refine aw_ret ?_
   refine ae_ret_block (ae_ret_then (ae_ret_then (ae_ret_block (ae_ret_then ?_))))
   refine ae_ret hB (Bv false) (by kernel_rfl) (.inl (by first | rfl | (refine congrArg Bv ?_; simp [okInk', *]; done) | (refine congrArg Bv ?_; simp [okInk', *]; omega) | (refine congrArg Bv ?_; simp_all [okInk']; done) | (refine congrArg Bv ?_; simp_all [okInk']; omega))) rfl (fun _ => trivial)
  have hall : allN ik.Strokes.length (okSA ik.Strokes) = true := allN_at (fun j hj => hall0 j (by omega))
  refine aw_r [(0, .dec false)] [1, 6, 7, 8, 9] [1] [.ref 1 0, slStroke false ik.Strokes, I (ik.Strokes.length : Int), I t8, Bv false] [some (.box [slStroke false ik.Strokes])] [¬ (t8 < (ik.Strokes.length : Int))] hB ⟨h1, trivial⟩ ?_
  refine ae_then ?_
  refine aw_seq ?_
  refine aw_false rfl ?_
  refine aw_exit ?_
  refine ae_exit_then ?_
  refine ae_exit_then ?_
  refine ae_exit_same ?_
  refine ae_then ?_
  refine aR [] [2] [] [Bv (decide ((ik.Strokes.length : Int) ≤ 16))] [] [] hB trivial ?_
  refine aw_ret ?_
  refine ae_ret hB (Bv (decide ((ik.Strokes.length : Int) ≤ 16))) (by kernel_rfl) (.inl (by first | rfl | (refine congrArg Bv ?_; simp [okInk', *]; done) | (refine congrArg Bv ?_; simp [okInk', *]; omega) | (refine congrArg Bv ?_; simp_all [okInk']; done) | (refine congrArg Bv ?_; simp_all [okInk']; omega))) rfl (fun _ => trivial)
def firstN (n : Nat) (p : Nat → Bool) : Int := match (List.range n).find? p with
  | some i => i
  | none => -1
theorem firstN_hit {n : Nat} {p : Nat → Bool} {k : Nat} (hk : k < n) (hp : p k = true) (hn : ∀ i, i < k → p i = false) : firstN n p = k := by
  have h : (List.range n).find? p = some k := by
    rw [List.find?_range_eq_some]
    exact ⟨hp, List.mem_range.2 hk, fun j hj => by simpa using hn j hj⟩
  simp [firstN, h]
theorem firstN_none {n : Nat} {p : Nat → Bool} (hn : ∀ i, i < n → p i = false) : firstN n p = -1 := by
  have h : (List.range n).find? p = none := by
    rw [List.find?_range_eq_none]
    intro i hi; simpa using hn i hi
  simp [firstN, h]
def chrB (n : Int) : Bool := inB n 97 122 || (inB n 48 57 || decide (n = 45))
def okName (s : ByteArray) : Prop := (1 ≤ s.size ∧ s.size ≤ 12) ∧ inB (bAt s 0) 97 122 = true ∧ ∀ j : Nat, j < s.size → chrB (bAt s j) = true
def okChan (c : Channel) : Prop := okName c.Name ∧ okName c.Unit ∧ (-1000000000 ≤ c.Low ∧ c.Low < c.High ∧ c.High ≤ 1000000000)
def okRw (cs : List Channel) (row : List Int) : Prop := row.length = cs.length ∧ ∀ k : Nat, k < cs.length → (at_ cs k).Low ≤ at_ row k ∧ at_ row k ≤ (at_ cs k).High
def okRows (cs : List Channel) (r : Rows) : Prop := (1 ≤ r.Values.length ∧ r.Values.length ≤ 60) ∧ ∀ row ∈ r.Values, okRw cs row
def okNote (n : Nat) (x : Note) : Prop := (0 ≤ x.From ∧ x.From < x.To ∧ x.To ≤ (n : Int)) ∧ okName x.Text
def okFil (f : File) : Prop := ((1 ≤ f.Channels.length ∧ f.Channels.length ≤ 6) ∧ f.Strokes.length ≤ 16 ∧ f.Notes.length ≤ 12) ∧ (∀ c ∈ f.Channels, okChan c) ∧ (f.Channels.Pairwise fun x y => x.Name ≠ y.Name) ∧ (∀ r ∈ f.Strokes, okRows f.Channels r) ∧ ∀ n ∈ f.Notes, okNote f.Strokes.length n
def idxC (cs : List Channel) (name : ByteArray) : Int := firstN cs.length fun j => decide ((at_ cs j).Name = name)
theorem idxC_at {cs : List Channel} (hp : cs.Pairwise fun x y => x.Name ≠ y.Name) {k : Nat} (hk : k < cs.length) : idxC cs (at_ cs k).Name = (k : Int) := by
  refine firstN_hit hk (decide_eq_true rfl) fun i hi => decide_eq_false ?_
  rw [at_eq hk, at_eq (by omega)]
  exact (List.pairwise_iff_getElem.1 hp) i k (by omega) hk hi
theorem chr_or2 {n : Int} (h : chrB n = true) : inB n 97 122 = true ∨ inB n 48 57 = true ∨ n = 45 := by simpa [chrB] using h
theorem chr_or {n : Int} (h : chrB n = true) : inB n 97 122 = true ∨ (48 ≤ n ∧ n ≤ 57) ∨ n = 45 := by
  simp only [chrB, Bool.or_eq_true, decide_eq_true_eq] at h
  rcases h with h | h | h
  · exact .inl h
  · exact .inr (.inl (inB_iff.1 h))
  · exact .inr (.inr h)
theorem down_spec (n : Int) {d : Int} (hd : 0 < d) : (Int.tmod n d < 0 → Int.tdiv n d - 1 = n / d) ∧ (¬ Int.tmod n d < 0 → Int.tdiv n d = n / d) := by
  have h1 := Int.mul_tdiv_add_tmod n d
  have h2 := Int.tmod_lt_of_pos n hd
  have h3 := Int.lt_tmod_of_pos n hd
  generalize Int.tdiv n d = q at *
  generalize Int.tmod n d = r at *
  subst h1
  constructor
  · intro h
    have e : d * q + r = (r + d) + d * (q - 1) := by rw [Int.mul_sub, Int.mul_one]; omega
    rw [e, Int.add_mul_ediv_left _ _ (by omega), Int.ediv_eq_zero_of_lt (by omega) (by omega)]; omega
  · intro h
    rw [Int.add_comm, Int.add_mul_ediv_left _ _ (by omega), Int.ediv_eq_zero_of_lt (by omega) (by omega)]; omega
theorem tdiv_bd (n d : Int) : ((Int.tdiv n d).natAbs : Int) ≤ (n.natAbs : Int) := by
  rw [Int.natAbs_tdiv]
  exact Int.ofNat_le.2 (Nat.div_le_self _ _)
def nearI (n d : Int) : Int := (2 * n + d) / (2 * d)
theorem near_spec (n : Int) {d : Int} (hd : 0 < d) : (d - (n - n / d * d) ≤ n - n / d * d → n / d + 1 = nearI n d) ∧ (¬ d - (n - n / d * d) ≤ n - n / d * d → n / d = nearI n d) := by
  have h1 := Int.mul_ediv_add_emod n d
  have h2 := Int.emod_nonneg n (b := d) (by omega)
  have h3 := Int.emod_lt_of_pos n hd
  unfold nearI
  generalize n / d = q at *
  generalize n % d = r at *
  have e0 : q * d = d * q := Int.mul_comm _ _
  have e3 : 2 * d * q = 2 * (d * q) := Int.mul_assoc _ _ _
  constructor
  · intro h
    have e : 2 * n + d = (2 * r - d) + 2 * d * (q + 1) := by rw [Int.mul_add, e3]; omega
    rw [e, Int.add_mul_ediv_left _ _ (by omega), Int.ediv_eq_zero_of_lt (by omega) (by omega)]; omega
  · intro h
    have e : 2 * n + d = (2 * r + d) + 2 * d * q := by rw [e3]; omega
    rw [e, Int.add_mul_ediv_left _ _ (by omega), Int.ediv_eq_zero_of_lt (by omega) (by omega)]; omega
theorem rest_bd (n : Int) {d : Int} (hd : 0 < d) : 0 ≤ n - n / d * d ∧ n - n / d * d < d := by
  have h1 := Int.mul_ediv_add_emod n d
  have h2 := Int.emod_nonneg n (b := d) (by omega)
  have h3 := Int.emod_lt_of_pos n hd
  rw [Int.mul_comm] at h1
  omega
theorem ediv_bd (n : Int) {d : Int} (hd : 0 < d) : -(n.natAbs : Int) ≤ n / d ∧ n / d ≤ (n.natAbs : Int) := by
  constructor
  · rw [Int.le_ediv_iff_mul_le hd]
    have : (n.natAbs : Int) * 1 ≤ (n.natAbs : Int) * d := Int.mul_le_mul_of_nonneg_left (by omega) (by omega)
    rw [Int.neg_mul]; omega
  · have h1 : (n.natAbs : Int) * 1 ≤ (n.natAbs : Int) * d := Int.mul_le_mul_of_nonneg_left (by omega) (by omega)
    have b : n / d < (n.natAbs : Int) + 1 := Int.ediv_lt_of_lt_mul hd (by rw [Int.add_mul, Int.one_mul]; omega)
    omega
def strB (xs : List Int) : ByteArray := ⟨(xs.map fun n => UInt8.ofNat n.toNat).toArray⟩
def bytesL (s : ByteArray) : List Int := s.data.toList.map fun b => (b.toNat : Int)
@[simp] theorem bytesL_len (s : ByteArray) : (bytesL s).length = s.size := by unfold bytesL; rw [List.length_map, Array.length_toList]; rfl
def decB (n : Int) : ByteArray := ⟨(Lib.itoa n).toArray⟩
def digs (u : Nat) : List Int := if h : u = 0 then [] else digs (u / 10) ++ [48 + ((u % 10 : Nat) : Int)]
termination_by u
decreasing_by omega
theorem digs_zero : digs 0 = [] := by rw [digs]; simp
theorem digs_pos {u : Nat} (h : u ≠ 0) : digs u = digs (u / 10) ++ [48 + ((u % 10 : Nat) : Int)] := by rw [digs]; simp [h]
theorem digs_len : ∀ (k u : Nat), u < 10 ^ k → (digs u).length ≤ k := by
  intro k
  induction k with
  | zero => intro u h; have : u = 0 := by simpa using h
            subst this; simp [digs_zero]
  | succ k ih =>
    intro u h
    by_cases e : u = 0
    · subst e; simp [digs_zero]
    · rw [digs_pos e]
      have := ih (u / 10) (by rw [Nat.pow_succ] at h; omega)
      simp; omega
theorem digs_dec : ∀ u : Nat, u ≠ 0 → (digs u).map (fun n => UInt8.ofNat n.toNat) = Lib.decDigits u := by
  intro u
  induction u using Nat.strongRecOn with
  | _ u ih =>
    intro e
    rw [digs_pos e, Lib.decDigits, List.map_append]
    by_cases h : u < 10
    · rw [dif_pos h, show u / 10 = 0 by omega, digs_zero]
      simp only [List.map_nil, List.nil_append, List.map_cons]
      congr 2
      omega
    · rw [dif_neg h, ih (u / 10) (by omega) (by omega)]
      simp only [List.map_cons, List.map_nil]
      congr 3
theorem decB_pos {n : Int} (h : 0 < n) : decB n = strB (digs n.natAbs) := by
  unfold decB strB Lib.itoa
  rw [if_neg (by omega), digs_dec _ (by omega), show n.toNat = n.natAbs by omega]
theorem decB_neg {n : Int} (h : n < 0) : decB n = (⟨#[45]⟩ : ByteArray) ++ strB (digs n.natAbs) := by
  unfold decB strB Lib.itoa
  rw [if_pos h, digs_dec _ (by omega)]
  apply ByteArray.ext
  rw [ByteArray.data_append]
  simp
theorem decB_zero : decB 0 = (⟨#[48]⟩ : ByteArray) := by
  unfold decB Lib.itoa
  rw [if_neg (by decide)]
  simp [Lib.decDigits]
theorem strB_size' (xs : List Int) : (strB xs).size = xs.length := by simp [strB, ByteArray.size]
theorem decB_size {n : Int} (h : -9223372036854775808 ≤ n ∧ n ≤ 9223372036854775807) : (decB n).size ≤ 20 := by
  have hl := digs_len 19 n.natAbs (by omega)
  rcases Int.lt_trichotomy n 0 with h1 | h1 | h1
  · rw [decB_neg h1, ByteArray.size_append, strB_size']
    have : (⟨#[45]⟩ : ByteArray).size = 1 := rfl
    omega
  · subst h1; rw [decB_zero]; decide
  · rw [decB_pos h1, strB_size']; omega
def jrest (sep : ByteArray) : List ByteArray → ByteArray
  | [] => ⟨#[]⟩
  | y :: l => (sep ++ y) ++ jrest sep l
def jnB (sep : ByteArray) : List ByteArray → ByteArray
  | [] => ⟨#[]⟩
  | x :: l => x ++ jrest sep l
theorem ba_nilT (x : ByteArray) : x ++ (⟨#[]⟩ : ByteArray) = x := by apply ByteArray.ext; simp
theorem nil_ba (x : ByteArray) : (⟨#[]⟩ : ByteArray) ++ x = x := by apply ByteArray.ext; simp
theorem jrest_snoc (sep y : ByteArray) : ∀ l, jrest sep (l ++ [y]) = (jrest sep l ++ sep) ++ y
  | [] => by simp only [List.nil_append, jrest, ba_nilT, nil_ba]
  | x :: l => by simp only [List.cons_append, jrest, jrest_snoc sep y l, ByteArray.append_assoc]
theorem jnB_snoc {sep y : ByteArray} {l : List ByteArray} (h : l ≠ []) : jnB sep (l ++ [y]) = (jnB sep l ++ sep) ++ y := by
  cases l with
  | nil => exact absurd rfl h
  | cons x l => simp only [List.cons_append, jnB, jrest_snoc, ByteArray.append_assoc]
def jnZ (xs : List ByteArray) : Nat → Nat
  | 0 => 0
  | k + 1 => jnZ xs k + (at_ xs k).size
theorem jnZ_cons (x : ByteArray) (xs : List ByteArray) : ∀ k, jnZ (x :: xs) (k + 1) = x.size + jnZ xs k
  | 0 => by simp [jnZ, at_]
  | k + 1 => by rw [jnZ, jnZ_cons x xs k, jnZ]; simp [at_]; omega
theorem jnZ_mono (xs : List ByteArray) {k m : Nat} (h : k ≤ m) : jnZ xs k ≤ jnZ xs m := by
  induction m with
  | zero => have : k = 0 := by omega
            subst this; exact Nat.le_refl _
  | succ m ih =>
    by_cases e : k = m + 1
    · subst e; exact Nat.le_refl _
    · have := ih (by omega); rw [jnZ]; omega
theorem jrest_size (sep : ByteArray) : ∀ xs, (jrest sep xs).size = jnZ xs xs.length + sep.size * xs.length
  | [] => rfl
  | x :: l => by rw [jrest, ByteArray.size_append, ByteArray.size_append, jrest_size sep l, List.length_cons, jnZ_cons, Nat.mul_succ]; omega
theorem jnB_size (sep : ByteArray) {xs : List ByteArray} (h : xs ≠ []) : (jnB sep xs).size = jnZ xs xs.length + sep.size * (xs.length - 1) := by
  cases xs with
  | nil => exact absurd rfl h
  | cons x l => rw [jnB, ByteArray.size_append, jrest_size, List.length_cons, jnZ_cons, Nat.add_sub_cancel]; omega
def noB (c : UInt8) (s : ByteArray) : Prop := c ∉ s.data.toList
def splC (c : UInt8) (s : ByteArray) : List ByteArray := Lib.splitB ⟨#[c]⟩ 0 (Lib.countB s ⟨#[c]⟩) s
theorem indexByte_none (c : UInt8) : ∀ l : List UInt8, c ∉ l → Lib.indexByte l c = -1
  | [], _ => rfl
  | b :: l, h => by
    have h1 : ¬ b = c := fun e => h (by simp [e])
    have h2 := indexByte_none c l (fun e => h (by simp [e]))
    simp [Lib.indexByte, h1, h2]
theorem indexByte_hit (c : UInt8) (r : List UInt8) : ∀ l : List UInt8, c ∉ l → Lib.indexByte (l ++ c :: r) c = (l.length : Int)
  | [], _ => by simp [Lib.indexByte]
  | b :: l, h => by
    have h1 : ¬ b = c := fun e => h (by simp [e])
    have h2 := indexByte_hit c r l (fun e => h (by simp [e]))
    have h3 : ¬ (l.length : Int) = -1 := by omega
    simp [Lib.indexByte, h1, h2, h3]
theorem spl_none {c : UInt8} {s : ByteArray} (h : noB c s) : splC c s = [s] := by
  have hi : Lib.indexB s ⟨#[c]⟩ = -1 := by
    show Lib.index s.data.toList [c] = -1
    rw [Lib.index_one, indexByte_none c _ h]
  unfold splC
  rw [Lib.countB_miss _ _ hi, Lib.splitB_zero]
theorem ext_left (x y : ByteArray) : (x ++ y).extract 0 x.size = x := by
  exact ByteArray.extract_append_eq_left rfl
theorem ext_right (x y : ByteArray) : (x ++ y).extract x.size (x ++ y).size = y := by
  exact ByteArray.extract_append_eq_right rfl ByteArray.size_append
theorem spl_cons {c : UInt8} {x r : ByteArray} (h : noB c x) : splC c ((x ++ ⟨#[c]⟩) ++ r) = x :: splC c r := by
  have hi : Lib.indexB ((x ++ ⟨#[c]⟩) ++ r) ⟨#[c]⟩ = ((x.size : Nat) : Int) := by
    show Lib.index ((x ++ ⟨#[c]⟩) ++ r).data.toList [c] = _
    rw [Lib.index_one]
    have : ((x ++ ⟨#[c]⟩) ++ r).data.toList = x.data.toList ++ c :: r.data.toList := by simp
    rw [this, indexByte_hit c _ _ h]
    rfl
  have hz : (x ++ (⟨#[c]⟩ : ByteArray)).size = x.size + (⟨#[c]⟩ : ByteArray).size := by rw [ByteArray.size_append]
  have he : ((x ++ ⟨#[c]⟩) ++ r).extract (x.size + (⟨#[c]⟩ : ByteArray).size) ((x ++ ⟨#[c]⟩) ++ r).size = r := by
    rw [← hz]; exact ext_right _ _
  have hl : ((x ++ ⟨#[c]⟩) ++ r).extract 0 (x.size + 0) = x := by
    rw [Nat.add_zero, ByteArray.append_assoc]; exact ext_left _ _
  unfold splC
  rw [Lib.countB_hit _ _ _ (show 1 ≤ (⟨#[c]⟩ : ByteArray).size from Nat.le_refl 1) hi, he, Nat.add_comm 1, Lib.splitB_hit _ _ _ _ _ hi, he, hl]
theorem spl_join {c : UInt8} : ∀ {xs : List ByteArray}, xs ≠ [] → (∀ x ∈ xs, noB c x) → splC c (jnB ⟨#[c]⟩ xs) = xs
  | [], h, _ => absurd rfl h
  | [x], _, h => by
    rw [jnB, jrest, ba_nilT]; exact spl_none (h x (by simp))
  | x :: y :: l, _, h => by
    have e : jnB ⟨#[c]⟩ (x :: y :: l) = (x ++ ⟨#[c]⟩) ++ jnB ⟨#[c]⟩ (y :: l) := by simp only [jnB, jrest, ByteArray.append_assoc]
    rw [e, spl_cons (h x (by simp)), spl_join (by simp) fun z hz => h z (by simp [hz])]
theorem noB_app {c : UInt8} {x y : ByteArray} (h1 : noB c x) (h2 : noB c y) : noB c (x ++ y) := by
  unfold noB at *; simp [h1, h2]
theorem noB_nil {c : UInt8} : noB c ⟨#[]⟩ := by simp [noB]
theorem noB_jrest {c : UInt8} {sep : ByteArray} (hs : noB c sep) : ∀ {xs : List ByteArray}, (∀ x ∈ xs, noB c x) → noB c (jrest sep xs)
  | [], _ => noB_nil
  | x :: l, h => noB_app (noB_app hs (h x (by simp))) (noB_jrest hs fun z hz => h z (by simp [hz]))
theorem noB_join {c : UInt8} {sep : ByteArray} (hs : noB c sep) : ∀ {xs : List ByteArray}, (∀ x ∈ xs, noB c x) → noB c (jnB sep xs)
  | [], _ => noB_nil
  | x :: l, h => noB_app (h x (by simp)) (noB_jrest hs fun z hz => h z (by simp [hz]))
theorem decDigits_bytes : ∀ (k u : Nat), u < k → ∀ b ∈ Lib.decDigits u, 48 ≤ b.toNat ∧ b.toNat ≤ 57
  | 0, u, h, _, _ => absurd h (Nat.not_lt_zero _)
  | k + 1, u, h, b, hb => by
    rw [Lib.decDigits] at hb
    split at hb
    · have hb := List.mem_singleton.1 hb; subst hb; rw [UInt8.toNat_ofNat']; omega
    · rcases List.mem_append.1 hb with hb | hb
      · exact decDigits_bytes k (u / 10) (by omega) b hb
      · have hb := List.mem_singleton.1 hb; subst hb; rw [UInt8.toNat_ofNat']; omega
theorem decB_bytes (n : Int) : ∀ b ∈ (decB n).data.toList, b.toNat = 45 ∨ (48 ≤ b.toNat ∧ b.toNat ≤ 57) := fun b hb => by
  have hb : b ∈ Lib.itoa n := by simpa [decB] using hb
  unfold Lib.itoa at hb
  split at hb
  · rcases List.mem_cons.1 hb with e | hb
    · subst e; exact .inl rfl
    · exact .inr (decDigits_bytes _ _ (Nat.lt_succ_self _) b hb)
  · exact .inr (decDigits_bytes _ _ (Nat.lt_succ_self _) b hb)
theorem decB_noB {c : UInt8} (hc : c.toNat < 45 ∨ 57 < c.toNat) (n : Int) : noB c (decB n) := fun h => by
  have := decB_bytes n c h
  omega
theorem decDigits_ne (u : Nat) : Lib.decDigits u ≠ [] := by rw [Lib.decDigits]; split <;> simp
theorem puM_app (M : Nat) : ∀ (l r : List UInt8) (acc : Nat), Lib.parseUintM M acc (l ++ r) = match Lib.parseUintM M acc l with | .ok v => Lib.parseUintM M v r | .«syntax» => .«syntax» | .range => .range
  | [], r, acc => rfl
  | c :: l, r, acc => by
    simp only [List.cons_append, Lib.parseUintM]
    split
    · split
      · rfl
      · split
        · rfl
        · exact puM_app M l r _
    · rfl
theorem puM_dec {M : Nat} (hM : 1000000000000000000 ≤ M) : ∀ (k u : Nat), u < k → u < 1000000000000000000 → Lib.parseUintM M 0 (Lib.decDigits u) = .ok u
  | 0, u, h, _ => absurd h (Nat.not_lt_zero _)
  | k + 1, u, h, h2 => by
    rw [Lib.decDigits]
    split
    · rename_i h3
      have e : (UInt8.ofNat (48 + u)).toNat = 48 + u := by rw [UInt8.toNat_ofNat']; omega
      simp only [Lib.parseUintM, e]
      rw [if_pos (by omega), if_neg (by omega), if_neg (by omega)]
      simp
    · rename_i h3
      rw [puM_app, puM_dec hM k (u / 10) (by omega) (by omega)]
      have e : (UInt8.ofNat (48 + u % 10)).toNat = 48 + u % 10 := by rw [UInt8.toNat_ofNat']; omega
      simp only [Lib.parseUintM, e]
      rw [if_pos (by omega), if_neg (by omega), if_neg (by omega)]
      congr 1
      omega
theorem parse_dec {n : Int} (h : -1000000000000000000 < n ∧ n < 1000000000000000000) : Lib.parseIntB 64 (decB n).data.toList = .ok n := by
  have e : (decB n).data.toList = Lib.itoa n := by simp [decB]
  rw [e]
  unfold Lib.itoa
  split
  · rename_i h0
    rw [Lib.parseIntB_minus]
    unfold Lib.parseUintB
    rw [if_neg (decDigits_ne _), puM_dec (by decide) _ _ (Nat.lt_succ_self _) (by omega)]
    simp only [Lib.signedC]
    rw [if_neg (by omega)]
    congr 1
    omega
  · rename_i h0
    obtain ⟨c, r, hc⟩ : ∃ c r, Lib.decDigits n.toNat = c :: r := by
      cases h : Lib.decDigits n.toNat with
      | nil => exact absurd h (decDigits_ne _)
      | cons c r => exact ⟨c, r, rfl⟩
    have hb := decDigits_bytes _ n.toNat (Nat.lt_succ_self _) c (by rw [hc]; simp)
    rw [hc, Lib.parseIntB_plain 64 c r (by omega) (by omega), ← hc]
    unfold Lib.parseUintB
    rw [if_neg (decDigits_ne _), puM_dec (by decide) _ _ (Nat.lt_succ_self _) (by omega)]
    simp only [Lib.signlessC]
    rw [if_neg (by omega)]
    congr 1
    omega
theorem con_of_calls_sl {P : Program} {f : FuncId} {vals : List Value} {n : Nat} {T : TypeId} {cs : Array Value} {g : Nat → Value} (hn : n ≤ maxLen) (hc : ∀ i, i < n → cs[i]? = some (g i) ∧ (g i).oneCell' = true)
    (h : ∀ w, WX w → Calls P f vals.toArray w fun e w' => e = .returned (.slice (some ⟨w.heap.size, 0, none⟩) n n) ∧ w' = w.alloc (.cells cs T)) : Con P f (vals.map .val) true (.sl true 1 n fun i => [.val (g i)]) := by
  intro B vals' hbo hm hr
  have : vals' = vals := by
    have hl := hr.1
    simp at hl
    apply List.ext_getElem hl.symm
    intro i h1 h2
    have := hr.2 i (.val vals[i]) vals'[i] (by simp [List.getElem?_map, List.getElem?_eq_getElem h2]) (List.getElem?_eq_getElem h1)
    generalize vals[i] = x at *
    generalize vals'[i] = y at *
    cases this with | tree _ _ h => cases h; rfl
  subst this
  refine (h B.w0 (hm.glob _ (Kept.refl _ _))).mono ?_
  rintro e w' ⟨rfl, rfl⟩
  have hk : Kept B.w0 (fun _ => False) (B.w0.alloc (.cells cs T)) := ⟨rfl, rfl, rfl, by simp, fun k hk _ => Go.heap_alloc_old _ _ hk⟩
  have hnew := heap_alloc_new B.w0 (.cells cs T)
  refine ⟨_, B.κ0, rfl, hm.world hk, .tree _ _ (.sl true 1 n _ B.w0.heap.size 0 n (fun i _ => g i) ⟨(Array.getElem?_eq_some_iff.1 hnew).1, ⟨fun _ => .inl (Nat.le_refl _), fun h => absurd (.inl (Nat.le_refl _)) h⟩, fun i hi => absurd rfl hi⟩ (Nat.le_refl _) hn (fun _ _ => rfl) (fun i j hi hj => ?_) fun i j u hi hu => ?_)⟩
  · have : j = 0 := by omega
    subst this
    refine ⟨?_, (hc i hi).2⟩
    have := (hc i hi).1
    rw [Lib.cell_of_heap hnew]
    simpa using this
  · cases j with
    | zero => simp at hu; subst hu; exact .val _
    | succ j => simp at hu
theorem splB_length {sep s : ByteArray} (h1 : sep.size = 1) : (Lib.splitB sep 0 (Lib.countB s sep) s).length = Lib.countB s sep + 1 := Lib.splitB_all sep (by omega) 0 _ s rfl
def chX : List Channel := [⟨⟨#[120]⟩, ⟨#[100, 111, 116]⟩, 0, 4095⟩, ⟨⟨#[121]⟩, ⟨#[100, 111, 116]⟩, 0, 4095⟩, ⟨⟨#[116]⟩, ⟨#[109, 115]⟩, 0, 3600000⟩]
def rwP (p : Point) : List Int := [p.X, p.Y, p.T]
def rwS (s : Stroke) : Rows := ⟨s.Points.map rwP⟩
def filI (x : Ink) : File := ⟨chX, x.Strokes.map rwS, []⟩
def rwB (r : Rows) : Stroke := ⟨r.Values.map fun w => ⟨at_ w 0, at_ w 1, at_ w 2⟩⟩
theorem rwB_S (s : Stroke) : rwB (rwS s) = s := by
  unfold rwB rwS
  rw [List.map_map]
  have : s.Points.map ((fun w => (⟨at_ w 0, at_ w 1, at_ w 2⟩ : Point)) ∘ rwP) = s.Points := by
    conv => rhs; rw [← List.map_id s.Points]
    exact List.map_congr_left fun p _ => rfl
  rw [this]
theorem filI_inj {x y : Ink} (h : filI x = filI y) : x = y := by
  have h2 := congrArg (fun f => f.Strokes.map rwB) h
  simp only [filI, List.map_map] at h2
  have e : ∀ z : Ink, z.Strokes.map (rwB ∘ rwS) = z.Strokes := fun z => by
    conv => rhs; rw [← List.map_id z.Strokes]
    exact List.map_congr_left fun s _ => rwB_S s
  rw [e, e] at h2
  cases x; cases y; simp_all
theorem at_mp {α β : Type} [Inhabited α] [Inhabited β] {f : α → β} {xs : List α} {k : Nat} (h : k < xs.length) : at_ (xs.map f) k = f (at_ xs k) := by simp [at_, h]
theorem chX_nm : okName ⟨#[120]⟩ ∧ okName ⟨#[121]⟩ ∧ okName ⟨#[116]⟩ ∧ okName ⟨#[100, 111, 116]⟩ ∧ okName ⟨#[109, 115]⟩ := by
  refine ⟨?_, ?_, ?_, ?_, ?_⟩ <;> exact ⟨by decide, by decide, by decide⟩
theorem filI_ok {x : Ink} (h : okInk' x = true) : okFil (filI x) := by
  have hl := okI_len h
  have hn := chX_nm
  refine ⟨⟨⟨by show 1 ≤ chX.length; decide, by show chX.length ≤ 6; decide⟩, by simp [filI]; omega, by simp [filI]⟩, fun c hc => ?_, ?_, fun r hr => ?_, fun n hn => by simp [filI] at hn⟩
  · simp only [filI, chX, List.mem_cons, List.not_mem_nil, or_false] at hc
    rcases hc with rfl | rfl | rfl
    · exact ⟨hn.1, hn.2.2.2.1, by decide⟩
    · exact ⟨hn.2.1, hn.2.2.2.1, by decide⟩
    · exact ⟨hn.2.2.1, hn.2.2.2.2, by decide⟩
  · show chX.Pairwise _
    unfold chX
    simp only [List.pairwise_cons, List.mem_cons, List.not_mem_nil, or_false, List.Pairwise.nil, and_true]
    refine ⟨fun y hy => ?_, fun y hy => ?_, fun y hy => by cases hy⟩
    · rcases hy with rfl | rfl <;> decide
    · subst hy; decide
  · obtain ⟨s, hs, rfl⟩ := List.mem_map.1 hr
    have hos := okI_mem h s hs
    have hsl := okS_len hos
    refine ⟨by simp [rwS]; omega, fun row hrow => ?_⟩
    obtain ⟨p, hp, rfl⟩ := List.mem_map.1 hrow
    obtain ⟨j, hj, e⟩ := List.getElem_of_mem hp
    have hpb := okP_iff.1 (okS_at hos hj)
    rw [at_eq hj, e] at hpb
    refine ⟨rfl, fun k hk => ?_⟩
    have hk3 : k < 3 := hk
    match k, hk3 with
    | 0, _ => exact hpb.1
    | 1, _ => exact hpb.2.1
    | 2, _ => exact hpb.2.2
theorem ltLI (ob : Nat → Option Ob) (fv fr : Bool) (x : List Int) : leL ob fv (cLI true x) (cLI fr x) := And.intro (And.intro (fun _ => rfl) (And.intro rfl (And.intro rfl (fun i _ => .inl rfl)))) (rfl)
theorem oaddLI {ob : Nat → Option Ob} {fr : Bool} (xs : List (List Int)) (x : List Int) {g : Nat → List AV} (h : leL ob true (g 0) (cLI fr x)) : ∀ i, i < (xs ++ [x]).length → AV.idsL (fLI fr (xs ++ [x]) i) = [] ∧ leL ob true (catF xs.length (fLI true xs) g i) (fLI fr (xs ++ [x]) i) := by
  intro i hi
  by_cases hl : i < xs.length
  · rw [catF_lt hl]
    have e : fLI fr (xs ++ [x]) i = cLI fr (at_ xs i) := by show cLI fr (at_ _ _) = _; rw [at_left hl]
    rw [e]; exact ⟨rfl, ltLI _ _ _ _⟩
  · have e : i = xs.length := by simp at hi; omega
    subst e
    rw [catF_ge (Nat.le_refl _), Nat.sub_self]
    have e : fLI fr (xs ++ [x]) xs.length = cLI fr x := by show cLI fr (at_ _ _) = _; rw [at_right (Nat.le_refl _)]; simp [at_]
    rw [e]; exact ⟨rfl, h⟩
theorem ltRows (ob : Nat → Option Ob) (fv fr : Bool) (x : Rows) : leL ob fv (cRows true x) (cRows fr x) := And.intro (And.intro (fun _ => rfl) (And.intro rfl (And.intro rfl (fun i _ => (by cases fr; exact .inr ⟨idsLI _ _, leLI _ _ _⟩; exact .inl rfl))))) (rfl)
theorem ltnRows (ob : Nat → Option Ob) (fv fr : Bool) (x : Rows) : leL ob fv (cRows fr x) (cRows fr x) := And.intro (And.intro (fun h => h) (And.intro rfl (And.intro rfl (fun i _ => .inl rfl)))) (rfl)
theorem oaddRows {ob : Nat → Option Ob} {fr : Bool} (xs : List Rows) (x : Rows) {g : Nat → List AV} (h : leL ob true (g 0) (cRows fr x)) : ∀ i, i < (xs ++ [x]).length → AV.idsL (fRows fr (xs ++ [x]) i) = [] ∧ leL ob true (catF xs.length (fRows true xs) g i) (fRows fr (xs ++ [x]) i) := by
  intro i hi
  by_cases hl : i < xs.length
  · rw [catF_lt hl]
    have e : fRows fr (xs ++ [x]) i = cRows fr (at_ xs i) := by show cRows fr (at_ _ _) = _; rw [at_left hl]
    rw [e]; exact ⟨rfl, ltRows _ _ _ _⟩
  · have e : i = xs.length := by simp at hi; omega
    subst e
    rw [catF_ge (Nat.le_refl _), Nat.sub_self]
    have e : fRows fr (xs ++ [x]) xs.length = cRows fr x := by show cRows fr (at_ _ _) = _; rw [at_right (Nat.le_refl _)]; simp [at_]
    rw [e]; exact ⟨rfl, h⟩
theorem oaddnRows {ob : Nat → Option Ob} {fr : Bool} (xs : List Rows) (x : Rows) {g : Nat → List AV} (h : leL ob true (g 0) (cRows fr x)) : ∀ i, i < (xs ++ [x]).length → AV.idsL (fRows fr (xs ++ [x]) i) = [] ∧ leL ob true (catF xs.length (fRows fr xs) g i) (fRows fr (xs ++ [x]) i) := by
  intro i hi
  by_cases hl : i < xs.length
  · rw [catF_lt hl]
    have e : fRows fr (xs ++ [x]) i = cRows fr (at_ xs i) := by show cRows fr (at_ _ _) = _; rw [at_left hl]
    rw [e]; exact ⟨rfl, ltnRows _ _ _ _⟩
  · have e : i = xs.length := by simp at hi; omega
    subst e
    rw [catF_ge (Nat.le_refl _), Nat.sub_self]
    have e : fRows fr (xs ++ [x]) xs.length = cRows fr x := by show cRows fr (at_ _ _) = _; rw [at_right (Nat.le_refl _)]; simp [at_]
    rw [e]; exact ⟨rfl, h⟩
end Go.Proofs.YtecdjaknbiekkaaGreatDoor.Ax
