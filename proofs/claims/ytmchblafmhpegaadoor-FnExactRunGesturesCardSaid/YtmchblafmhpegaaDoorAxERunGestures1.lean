/- Contracts that the statement FnExactRunGestures reaches, part 1. No conditions. -/
import Derived.Test.YtmchblafmhpegaaDoorAxO
import Derived.Test.YtmchblafmhpegaaDoorShelf
import Derived.Test.YtmchblafmhpegaaDoorTie
import Derived.Test.YtmchblafmhpegaaDoorCards
import Derived.LaidMore
import Derived.Lay
import Derived.OpenShut
import Derived.SevenTiedAt
import Derived.Shelf.Strings.SlTrimAscii
import Derived.Stop.Joined
namespace Go.Proofs.YtmchblafmhpegaaDoor.Ax
open Go.RowKit Go.ChangeShapes Go.WideShapes
set_option linter.unusedVariables false
set_option linter.unusedSimpArgs false


def cS (x : ByteArray) : List AV := [Sv x]
def fS (xs : List ByteArray) (i : Nat) : List AV := cS (at_ xs i)
def slS (fr : Bool) (xs : List ByteArray) : AV := .sl fr 1 xs.length (fS xs)
theorem tagcS (t : Bool) (x : ByteArray) : taggedL t (cS x) := by simp [cS, taggedL, tagged]
theorem tagS (t : Bool) (xs : List ByteArray) : tagged t (slS t xs) := by simp only [slS, tagged]; exact ⟨trivial, fun i _ => tagcS t _⟩
theorem lenS (fr : Bool) (xs : List ByteArray) : lenA noOb (slS fr xs) = some xs.length := rfl
def cI (x : Int) : List AV := [I x]
def fI (xs : List Int) (i : Nat) : List AV := cI (at_ xs i)
def slI (fr : Bool) (xs : List Int) : AV := .sl fr 1 xs.length (fI xs)
theorem tagcI (t : Bool) (x : Int) : taggedL t (cI x) := by simp [cI, taggedL, tagged]
theorem tagI (t : Bool) (xs : List Int) : tagged t (slI t xs) := by simp only [slI, tagged]; exact ⟨trivial, fun i _ => tagcI t _⟩
theorem lenI (fr : Bool) (xs : List Int) : lenA noOb (slI fr xs) = some xs.length := rfl
structure CellRow where
  Text : ByteArray
  X : Int
  Y : Int
  Cell : Int
deriving DecidableEq, Inhabited
def cCellRow (x : CellRow) : List AV := [Sv x.Text, I x.X, I x.Y, I x.Cell]
def fCellRow (xs : List CellRow) (i : Nat) : List AV := cCellRow (at_ xs i)
def slCellRow (fr : Bool) (xs : List CellRow) : AV := .sl fr 4 xs.length (fCellRow xs)
theorem tagcCellRow (t : Bool) (x : CellRow) : taggedL t (cCellRow x) := by simp [cCellRow, taggedL, tagged]
theorem tagCellRow (t : Bool) (xs : List CellRow) : tagged t (slCellRow t xs) := by simp only [slCellRow, tagged]; exact ⟨trivial, fun i _ => tagcCellRow t _⟩
theorem lenCellRow (fr : Bool) (xs : List CellRow) : lenA noOb (slCellRow fr xs) = some xs.length := rfl
structure Point where
  X : Int
  Y : Int
  T : Int
deriving DecidableEq, Inhabited
def cPoint (x : Point) : List AV := [I x.X, I x.Y, I x.T]
def fPoint (xs : List Point) (i : Nat) : List AV := cPoint (at_ xs i)
def slPoint (fr : Bool) (xs : List Point) : AV := .sl fr 3 xs.length (fPoint xs)
theorem tagcPoint (t : Bool) (x : Point) : taggedL t (cPoint x) := by simp [cPoint, taggedL, tagged]
theorem tagPoint (t : Bool) (xs : List Point) : tagged t (slPoint t xs) := by simp only [slPoint, tagged]; exact ⟨trivial, fun i _ => tagcPoint t _⟩
theorem lenPoint (fr : Bool) (xs : List Point) : lenA noOb (slPoint fr xs) = some xs.length := rfl
def cLPoint (fr : Bool) (x : List Point) : List AV := [slPoint fr x]
def fLPoint (fr : Bool) (xs : List (List Point)) (i : Nat) : List AV := cLPoint fr (at_ xs i)
def slLPoint (fr : Bool) (xs : List (List Point)) : AV := .sl fr 1 xs.length (fLPoint fr xs)
theorem tagcLPoint (t : Bool) (x : List Point) : taggedL t (cLPoint t x) := by simp [cLPoint, taggedL, tagged, tagPoint]
theorem tagLPoint (t : Bool) (xs : List (List Point)) : tagged t (slLPoint t xs) := by simp only [slLPoint, tagged]; exact ⟨trivial, fun i _ => tagcLPoint t _⟩
theorem lenLPoint (fr : Bool) (xs : List (List Point)) : lenA noOb (slLPoint fr xs) = some xs.length := rfl
theorem idsLPoint (fr : Bool) (x : List Point) : AV.idsL (cLPoint fr x) = [] := rfl
theorem leLPoint (fr : Bool) (x : List Point) (ob : Nat → Option Ob) : leL ob false (cLPoint fr x) (cLPoint false x) := (And.intro (And.intro (fun h => by cases h) (And.intro rfl (And.intro rfl (fun i _ => .inl rfl)))) rfl)
structure Stroke where
  Points : List Point
deriving DecidableEq, Inhabited
def cStroke (fr : Bool) (x : Stroke) : List AV := [slPoint fr x.Points]
def fStroke (fr : Bool) (xs : List Stroke) (i : Nat) : List AV := cStroke fr (at_ xs i)
def slStroke (fr : Bool) (xs : List Stroke) : AV := .sl fr 1 xs.length (fStroke fr xs)
theorem tagcStroke (t : Bool) (x : Stroke) : taggedL t (cStroke t x) := by simp [cStroke, taggedL, tagged, tagPoint]
theorem tagStroke (t : Bool) (xs : List Stroke) : tagged t (slStroke t xs) := by simp only [slStroke, tagged]; exact ⟨trivial, fun i _ => tagcStroke t _⟩
theorem lenStroke (fr : Bool) (xs : List Stroke) : lenA noOb (slStroke fr xs) = some xs.length := rfl
theorem idsStroke (fr : Bool) (x : Stroke) : AV.idsL (cStroke fr x) = [] := rfl
theorem leStroke (fr : Bool) (x : Stroke) (ob : Nat → Option Ob) : leL ob false (cStroke fr x) (cStroke false x) := (And.intro (And.intro (fun h => by cases h) (And.intro rfl (And.intro rfl (fun i _ => .inl rfl)))) rfl)
structure Edit where
  Kind : Int
  From : Int
  To : Int
deriving DecidableEq, Inhabited
def cEdit (x : Edit) : List AV := [I x.Kind, I x.From, I x.To]
def fEdit (xs : List Edit) (i : Nat) : List AV := cEdit (at_ xs i)
def slEdit (fr : Bool) (xs : List Edit) : AV := .sl fr 3 xs.length (fEdit xs)
theorem tagcEdit (t : Bool) (x : Edit) : taggedL t (cEdit x) := by simp [cEdit, taggedL, tagged]
theorem tagEdit (t : Bool) (xs : List Edit) : tagged t (slEdit t xs) := by simp only [slEdit, tagged]; exact ⟨trivial, fun i _ => tagcEdit t _⟩
theorem lenEdit (fr : Bool) (xs : List Edit) : lenA noOb (slEdit fr xs) = some xs.length := rfl
structure Box where
  X1 : Int
  Y1 : Int
  X2 : Int
  Y2 : Int
deriving DecidableEq, Inhabited
def cBox (x : Box) : List AV := [I x.X1, I x.Y1, I x.X2, I x.Y2]
def fBox (xs : List Box) (i : Nat) : List AV := cBox (at_ xs i)
def slBox (fr : Bool) (xs : List Box) : AV := .sl fr 4 xs.length (fBox xs)
theorem tagcBox (t : Bool) (x : Box) : taggedL t (cBox x) := by simp [cBox, taggedL, tagged]
theorem tagBox (t : Bool) (xs : List Box) : tagged t (slBox t xs) := by simp only [slBox, tagged]; exact ⟨trivial, fun i _ => tagcBox t _⟩
theorem lenBox (fr : Bool) (xs : List Box) : lenA noOb (slBox fr xs) = some xs.length := rfl
def cLStroke (fr : Bool) (x : List Stroke) : List AV := [slStroke fr x]
def fLStroke (fr : Bool) (xs : List (List Stroke)) (i : Nat) : List AV := cLStroke fr (at_ xs i)
def slLStroke (fr : Bool) (xs : List (List Stroke)) : AV := .sl fr 1 xs.length (fLStroke fr xs)
theorem tagcLStroke (t : Bool) (x : List Stroke) : taggedL t (cLStroke t x) := by simp [cLStroke, taggedL, tagged, tagStroke]
theorem tagLStroke (t : Bool) (xs : List (List Stroke)) : tagged t (slLStroke t xs) := by simp only [slLStroke, tagged]; exact ⟨trivial, fun i _ => tagcLStroke t _⟩
theorem lenLStroke (fr : Bool) (xs : List (List Stroke)) : lenA noOb (slLStroke fr xs) = some xs.length := rfl
theorem idsLStroke (fr : Bool) (x : List Stroke) : AV.idsL (cLStroke fr x) = [] := rfl
theorem leLStroke (fr : Bool) (x : List Stroke) (ob : Nat → Option Ob) : leL ob false (cLStroke fr x) (cLStroke false x) := (And.intro (And.intro (fun h => by cases h) (And.intro rfl (And.intro rfl (fun i _ => .inr ⟨idsStroke _ _, leStroke _ _ _⟩)))) rfl)

/-- What is left of l behind b. -/
def szTake (l : Int) (b : Nat) : Int := if l < b then -1 else l - b
theorem szTake_nn {l : Int} {b : Nat} (h : ¬ szTake l b < 0) : szTake l b = l - b ∧ (b : Int) ≤ l := by
  unfold szTake at *; split at h <;> simp_all <;> omega
theorem szTake_ng {l : Int} {b : Nat} (h : szTake l b < 0) (h0 : 0 ≤ l) : szTake l b = -1 ∧ l < b := by
  unfold szTake at *; split at h <;> simp_all <;> omega
theorem szTake_of {l : Int} {b : Nat} (h : (b : Int) ≤ l) : szTake l b = l - b := by unfold szTake; rw [if_neg (by omega)]
theorem szTake_neg {l : Int} {b : Nat} (h : l < b) : szTake l b = -1 := by unfold szTake; rw [if_pos h]
theorem take_snoc' {α : Type} [Inhabited α] {l : List α} {k : Nat} (h : k < l.length) : l.take (k + 1) = l.take k ++ [at_ l k] := by
  rw [List.take_succ_eq_append_getElem h, at_eq h]

def okCellRow (x : CellRow) : Prop := (x.Text.size ≤ 9223372036854775807)

def bulkCellRow (x : CellRow) : Nat := x.Text.size
def bulkCellRowS : List CellRow → Nat
  | [] => 0
  | x :: r => 1 + (bulkCellRow x) + bulkCellRowS r
theorem bulkCellRowS_app (xs ys : List CellRow) : bulkCellRowS (xs ++ ys) = bulkCellRowS xs + bulkCellRowS ys := by
  induction xs with
  | nil => simp [bulkCellRowS]
  | cons x r ih => simp [bulkCellRowS, ih]; omega
theorem bulkCellRowS_len (xs : List CellRow) : xs.length ≤ bulkCellRowS xs := by
  induction xs with
  | nil => simp
  | cons x r ih => simp [bulkCellRowS]; omega
theorem bulkCellRowS_take {xs : List CellRow} {i : Nat} (h : i < xs.length) : bulkCellRowS (xs.take (i + 1)) = bulkCellRowS (xs.take i) + 1 + (bulkCellRow (at_ xs i)) := by
  rw [take_snoc' h, bulkCellRowS_app]; simp [bulkCellRowS]; omega
theorem bulkCellRowS_le (xs : List CellRow) (i : Nat) : bulkCellRowS (xs.take i) + (xs.length - i) ≤ bulkCellRowS xs := by
  have e := bulkCellRowS_app (xs.take i) (xs.drop i)
  rw [List.take_append_drop] at e
  have := bulkCellRowS_len (xs.drop i)
  simp at this
  omega
theorem bulkCellRowS_at {xs : List CellRow} {i : Nat} (h : i < xs.length) : 1 + (bulkCellRow (at_ xs i)) ≤ bulkCellRowS xs := by
  have h1 := bulkCellRowS_take h
  have h2 := bulkCellRowS_le xs (i + 1)
  omega

-- laws.szCellRow
theorem szCellRow_ok (a : CellRow) (left : Int) (h0 : 0 ≤ left ∧ left ≤ 1048576) (ok0 : okCellRow a) : Con Tryd.prog 9 [.agg [Sv a.Text, I a.X, I a.Y, I a.Cell], I left] true (I (szTake left (bulkCellRow a))) := by
  have ok := ok0
  unfold okCellRow at ok
  have ok_Text := ok
  refine fn_ok (fn := Tryd.f9) (nt := 13) Tryd.func9 rfl rfl rfl rfl (by simp [taggedL, tagged]) fun B hB => ?_
  refine aw_seq ?_
  refine aw_reg [(0, .new 2)] [1, 2] [2] [I left, .ref 2 0] [some (.box [Sv a.Text, I a.X, I a.Y, I a.Cell])] [] (by kernel_rfl) hB trivial ?_
  refine ae_then ?_
  refine aw_seq ?_
  refine aw_reg [] [1] [] [I (left - (a.Text.size : Int))] [] [inR .i64 (left - (a.Text.size : Int))] (by kernel_rfl) hB ⟨(inR_i64 (by omega) (by omega)), trivial⟩ ?_
  refine ae_then ?_
  refine aw_seq ?_
  refine aw_seq ?_
  by_cases h1 : (left - (a.Text.size : Int)) < 0
  · refine aw_reg [(1, .dec true)] [1, 11] [] [I (left - (a.Text.size : Int)), Bv true] [] [(left - (a.Text.size : Int)) < 0] (by kernel_rfl) hB ⟨h1, trivial⟩ ?_
    refine ae_then ?_
    refine aw_true rfl ?_
    refine aw_seq ?_
    refine aw_reg [] [4] [] [I (-1)] [] [] (by kernel_rfl) hB trivial ?_
    refine ae_then ?_
    refine aw_ret ?_
    refine ae_ret_then ?_
    refine ae_ret hB (I (-1)) (by kernel_rfl) (.inl (by refine congrArg I ?_; unfold szTake bulkCellRow; split <;> omega)) rfl (fun _ => trivial)
  · refine aw_reg [(1, .dec false)] [1, 11] [] [I (left - (a.Text.size : Int)), Bv false] [] [¬ ((left - (a.Text.size : Int)) < 0)] (by kernel_rfl) hB ⟨h1, trivial⟩ ?_
    refine ae_then ?_
    refine aw_false rfl ?_
    refine aw_skip ?_
    refine ae_then ?_
    refine aw_seq ?_
    refine aw_reg [] [4] [] [I (left - (a.Text.size : Int))] [] [] (by kernel_rfl) hB trivial ?_
    refine ae_then ?_
    refine aw_ret ?_
    refine ae_ret hB (I (left - (a.Text.size : Int))) (by kernel_rfl) (.inl (by refine congrArg I ?_; unfold szTake bulkCellRow; split <;> omega)) rfl (fun _ => trivial)


def bulkPointS (xs : List Point) : Nat := xs.length
theorem bulkPointS_len (xs : List Point) : xs.length ≤ bulkPointS xs := Nat.le_refl _

-- laws.szPointS
theorem szPointS_ok (a : List Point) (left : Int) (h0 : 0 ≤ left ∧ left ≤ 1048576) : Con Tryd.prog 40 [slPoint false a, I left] true (I (szTake left (bulkPointS a))) := by
  refine fn_ok (fn := Tryd.f40) (nt := 12) Tryd.func40 rfl rfl rfl rfl (by simp [taggedL, tagged, tagPoint]) fun B hB => ?_
  refine aw_lens (x := slPoint false a) 0 rfl (fun len_a => ?_)
  simp [LenOK, LenL, cPoint, fPoint, slPoint] at len_a
  refine aw_seq ?_
  refine aw_reg [] [0, 1] [] [slPoint false a, I left] [] [] (by kernel_rfl) hB trivial ?_
  refine ae_then ?_
  refine aw_seq ?_
  refine aw_reg [] [1] [] [I (left - (a.length : Int))] [] [inR .i64 (left - (a.length : Int))] (by kernel_rfl) hB ⟨(inR_i64 (by omega) (by omega)), trivial⟩ ?_
  refine ae_then ?_
  refine aw_seq ?_
  refine aw_seq ?_
  by_cases h1 : (left - (a.length : Int)) < 0
  · refine aw_reg [(1, .dec true)] [1, 10] [] [I (left - (a.length : Int)), Bv true] [] [(left - (a.length : Int)) < 0] (by kernel_rfl) hB ⟨h1, trivial⟩ ?_
    refine ae_then ?_
    refine aw_true rfl ?_
    refine aw_seq ?_
    refine aw_reg [] [4] [] [I (-1)] [] [] (by kernel_rfl) hB trivial ?_
    refine ae_then ?_
    refine aw_ret ?_
    refine ae_ret_then ?_
    refine ae_ret hB (I (-1)) (by kernel_rfl) (.inl (by refine congrArg I ?_; unfold szTake bulkPointS; split <;> omega)) rfl (fun _ => trivial)
  · refine aw_reg [(1, .dec false)] [1, 10] [] [I (left - (a.length : Int)), Bv false] [] [¬ ((left - (a.length : Int)) < 0)] (by kernel_rfl) hB ⟨h1, trivial⟩ ?_
    refine ae_then ?_
    refine aw_false rfl ?_
    refine aw_skip ?_
    refine ae_then ?_
    refine aw_seq ?_
    refine aw_reg [] [4] [] [I (left - (a.length : Int))] [] [] (by kernel_rfl) hB trivial ?_
    refine ae_then ?_
    refine aw_ret ?_
    refine ae_ret hB (I (left - (a.length : Int))) (by kernel_rfl) (.inl (by refine congrArg I ?_; unfold szTake bulkPointS; split <;> omega)) rfl (fun _ => trivial)


def bulkStroke (x : Stroke) : Nat := (bulkPointS x.Points)
def bulkStrokeS : List Stroke → Nat
  | [] => 0
  | x :: r => 1 + (bulkStroke x) + bulkStrokeS r
theorem bulkStrokeS_app (xs ys : List Stroke) : bulkStrokeS (xs ++ ys) = bulkStrokeS xs + bulkStrokeS ys := by
  induction xs with
  | nil => simp [bulkStrokeS]
  | cons x r ih => simp [bulkStrokeS, ih]; omega
theorem bulkStrokeS_len (xs : List Stroke) : xs.length ≤ bulkStrokeS xs := by
  induction xs with
  | nil => simp
  | cons x r ih => simp [bulkStrokeS]; omega
theorem bulkStrokeS_take {xs : List Stroke} {i : Nat} (h : i < xs.length) : bulkStrokeS (xs.take (i + 1)) = bulkStrokeS (xs.take i) + 1 + (bulkStroke (at_ xs i)) := by
  rw [take_snoc' h, bulkStrokeS_app]; simp [bulkStrokeS]; omega
theorem bulkStrokeS_le (xs : List Stroke) (i : Nat) : bulkStrokeS (xs.take i) + (xs.length - i) ≤ bulkStrokeS xs := by
  have e := bulkStrokeS_app (xs.take i) (xs.drop i)
  rw [List.take_append_drop] at e
  have := bulkStrokeS_len (xs.drop i)
  simp at this
  omega
theorem bulkStrokeS_at {xs : List Stroke} {i : Nat} (h : i < xs.length) : 1 + (bulkStroke (at_ xs i)) ≤ bulkStrokeS xs := by
  have h1 := bulkStrokeS_take h
  have h2 := bulkStrokeS_le xs (i + 1)
  omega

-- laws.szStroke
theorem szStroke_ok (a : Stroke) (left : Int) (h0 : 0 ≤ left ∧ left ≤ 1048576) : Con Tryd.prog 22 [.agg [slPoint false a.Points], I left] true (I (szTake left (bulkStroke a))) := by
  refine fn_ok (fn := Tryd.f22) (nt := 12) Tryd.func22 rfl rfl rfl rfl (by simp [taggedL, tagged, tagPoint]) fun B hB => ?_
  refine aw_lens (x := .agg [slPoint false a.Points]) 0 rfl (fun len_a => ?_)
  simp [LenOK, LenL, cPoint, fPoint, slPoint] at len_a
  refine aw_seq ?_
  refine aw_reg [(0, .new 2)] [1, 2] [2] [I left, .ref 2 0] [some (.box [slPoint false a.Points])] [] (by kernel_rfl) hB trivial ?_
  refine ae_then ?_
  refine aw_seq ?_
  refine aw_reg [(3, .call [(true, slPoint false a.Points), (true, I left)] true (I (szTake left (bulkPointS a.Points))))] [1] [] [I (szTake left (bulkPointS a.Points))] [] [Con Tryd.prog 40 [slPoint false a.Points, I left] true (I (szTake left (bulkPointS a.Points))) ∧ ((slPoint false a.Points : AV) = slPoint false a.Points) ∧ ((I left : AV) = I left) ∧ True] (by kernel_rfl) hB ⟨⟨(szPointS_ok a.Points left (by omega)), rfl, rfl, trivial⟩, trivial⟩ ?_
  refine ae_then ?_
  refine aw_seq ?_
  refine aw_seq ?_
  by_cases h1 : (szTake left (bulkPointS a.Points)) < 0
  · have eh1 := szTake_ng h1 (by omega)
    refine aw_reg [(1, .dec true)] [1, 10] [] [I (szTake left (bulkPointS a.Points)), Bv true] [] [(szTake left (bulkPointS a.Points)) < 0] (by kernel_rfl) hB ⟨h1, trivial⟩ ?_
    refine ae_then ?_
    refine aw_true rfl ?_
    refine aw_seq ?_
    refine aw_reg [] [4] [] [I (-1)] [] [] (by kernel_rfl) hB trivial ?_
    refine ae_then ?_
    refine aw_ret ?_
    refine ae_ret_then ?_
    refine ae_ret hB (I (-1)) (by kernel_rfl) (.inl (by refine congrArg I ?_; unfold szTake bulkStroke; split <;> omega)) rfl (fun _ => trivial)
  · have eh1 := szTake_nn h1
    refine aw_reg [(1, .dec false)] [1, 10] [] [I (szTake left (bulkPointS a.Points)), Bv false] [] [¬ ((szTake left (bulkPointS a.Points)) < 0)] (by kernel_rfl) hB ⟨h1, trivial⟩ ?_
    refine ae_then ?_
    refine aw_false rfl ?_
    refine aw_skip ?_
    refine ae_then ?_
    refine aw_seq ?_
    refine aw_reg [] [4] [] [I (szTake left (bulkPointS a.Points))] [] [] (by kernel_rfl) hB trivial ?_
    refine ae_then ?_
    refine aw_ret ?_
    refine ae_ret hB (I (szTake left (bulkPointS a.Points))) (by kernel_rfl) (.inl (by refine congrArg I ?_; unfold szTake bulkStroke; split <;> omega)) rfl (fun _ => trivial)


theorem at_mem {α : Type} [Inhabited α] {xs : List α} {i : Nat} (h : i < xs.length) : at_ xs i ∈ xs := by rw [at_eq h]; exact List.getElem_mem h

-- laws.szStrokeS
theorem szStrokeS_ok (a : List Stroke) (left : Int) (h0 : 0 ≤ left ∧ left ≤ 1048576) : Con Tryd.prog 27 [slStroke false a, I left] true (I (szTake left (bulkStrokeS a))) := by
  have hb0 := bulkStrokeS_len a
  refine fn_ok (fn := Tryd.f27) (nt := 27) Tryd.func27 rfl rfl rfl rfl (by simp [taggedL, tagged, tagStroke]) fun B hB => ?_
  refine aw_lens (x := slStroke false a) 0 rfl (fun len_a => ?_)
  simp [LenOK, LenL, cPoint, cStroke, fPoint, fStroke, slPoint, slStroke] at len_a
  refine aw_seq ?_
  refine aw_reg [] [0, 1] [] [slStroke false a, I left] [] [] (by kernel_rfl) hB trivial ?_
  refine ae_then ?_
  refine aw_seq ?_
  refine aw_reg [] [0, 1] [] [slStroke false a, I (left - (a.length : Int))] [] [inR .i64 (left - (a.length : Int))] (by kernel_rfl) hB ⟨(inR_i64 (by omega) (by omega)), trivial⟩ ?_
  refine ae_then ?_
  refine aw_seq ?_
  refine aw_seq ?_
  by_cases h1 : (left - (a.length : Int)) < 0
  · refine aw_reg [(1, .dec true)] [0, 1, 11] [] [slStroke false a, I (left - (a.length : Int)), Bv true] [] [(left - (a.length : Int)) < 0] (by kernel_rfl) hB ⟨h1, trivial⟩ ?_
    refine ae_then ?_
    refine aw_true rfl ?_
    refine aw_seq ?_
    refine aw_reg [] [4] [] [I (-1)] [] [] (by kernel_rfl) hB trivial ?_
    refine ae_then ?_
    refine aw_ret ?_
    refine ae_ret_then ?_
    refine ae_ret hB (I (-1)) (by kernel_rfl) (.inl (by refine congrArg I ?_; unfold szTake; split <;> omega)) rfl (fun _ => trivial)
  · refine aw_reg [(1, .dec false)] [0, 1, 11] [] [slStroke false a, I (left - (a.length : Int)), Bv false] [] [¬ ((left - (a.length : Int)) < 0)] (by kernel_rfl) hB ⟨h1, trivial⟩ ?_
    refine ae_then ?_
    refine aw_false rfl ?_
    refine aw_skip ?_
    refine ae_then ?_
    refine aw_seq ?_
    refine aw_seq ?_
    refine aw_reg [] [0, 1, 5] [] [slStroke false a, I (left - (a.length : Int)), I 0] [] [] (by kernel_rfl) hB trivial ?_
    refine ae_then ?_
    refine aw_block ?_
    refine aw_loop (fun gn gσ => ∃ (left' : Int) (i : Int), gn = ((a.length : Int) - i).toNat ∧ (0 ≤ i ∧ i ≤ (a.length : Int)) ∧ (0 ≤ left' ∧ left' ≤ 1048576) ∧ (left' + (a.length : Int) - i + (bulkStrokeS (a.take i.toNat) : Int) = left) ∧ gσ = mkS [(0, slStroke false a), (1, I left'), (5, I i)] []) (((a.length : Int) - 0).toNat) ⟨(left - (a.length : Int)), 0, rfl, (by omega), (by omega), (by simp [bulkStrokeS]), rfl⟩ (fun gn gσ hI => ?_)
    obtain ⟨left', i, rfl, hi0, hl0, hs0, rfl⟩ := hI
    refine aw_seq ?_
    refine aw_seq ?_
    by_cases h2 : i < (a.length : Int)
    · have hi : i.toNat < a.length := by omega
      have hle := bulkStrokeS_le a (i.toNat + 1)
      have htk := bulkStrokeS_take hi
      refine aw_reg [(3, .dec true)] [0, 1, 5, 15] [] [slStroke false a, I left', I i, Bv true] [] [i < (a.length : Int)] (by kernel_rfl) hB ⟨h2, trivial⟩ ?_
      refine ae_then ?_
      refine aw_true rfl ?_
      refine aw_skip ?_
      refine ae_then ?_
      refine aw_seq ?_
      refine aw_block ?_
      refine aw_seq ?_
      refine aw_reg [(5, .call [(true, .agg [slPoint false ((at_ a i.toNat).Points)]), (true, I left')] true (I (szTake left' (bulkStroke (at_ a i.toNat)))))] [0, 1, 5] [] [slStroke false a, I (szTake left' (bulkStroke (at_ a i.toNat))), I i] [] [(0 : Int) ≤ i ∧ i < (a.length : Int), Con Tryd.prog 22 [.agg [slPoint false ((at_ a i.toNat).Points)], I left'] true (I (szTake left' (bulkStroke (at_ a i.toNat)))) ∧ ((.agg [slPoint false ((at_ a i.toNat).Points)] : AV) = .agg [slPoint false ((at_ a i.toNat).Points)]) ∧ ((I left' : AV) = I left') ∧ True] (by kernel_rfl) hB ⟨⟨(by omega), (by omega)⟩, ⟨(szStroke_ok (at_ a i.toNat) left' (by omega)), rfl, rfl, trivial⟩, trivial⟩ ?_
      refine ae_then ?_
      refine aw_seq ?_
      by_cases h3 : (szTake left' (bulkStroke (at_ a i.toNat))) < 0
      · have eh3 := szTake_ng h3 (by omega)
        refine aw_reg [(1, .dec true)] [0, 1, 5, 25] [] [slStroke false a, I (szTake left' (bulkStroke (at_ a i.toNat))), I i, Bv true] [] [(szTake left' (bulkStroke (at_ a i.toNat))) < 0] (by kernel_rfl) hB ⟨h3, trivial⟩ ?_
        refine ae_then ?_
        refine aw_true rfl ?_
        refine aw_seq ?_
        refine aw_reg [] [4] [] [I (-1)] [] [] (by kernel_rfl) hB trivial ?_
        refine ae_then ?_
        refine aw_ret ?_
        refine ae_ret_block (ae_ret_then (ae_ret_then (ae_ret_block (ae_ret_then ?_))))
        refine ae_ret hB (I (-1)) (by kernel_rfl) (.inl (by refine congrArg I ?_; unfold szTake; split <;> omega)) rfl (fun _ => trivial)
      · have eh3 := szTake_nn h3
        refine aw_reg [(1, .dec false)] [0, 1, 5, 25] [] [slStroke false a, I (szTake left' (bulkStroke (at_ a i.toNat))), I i, Bv false] [] [¬ ((szTake left' (bulkStroke (at_ a i.toNat))) < 0)] (by kernel_rfl) hB ⟨h3, trivial⟩ ?_
        refine ae_then ?_
        refine aw_false rfl ?_
        refine aw_skip ?_
        refine ae_block 1 ?_
        refine ae_then ?_
        refine aw_reg [] [0, 1, 5] [] [slStroke false a, I (szTake left' (bulkStroke (at_ a i.toNat))), I (i + 1)] [] [inR .i64 (i + 1)] (by kernel_rfl) hB ⟨(inR_i64 (by omega) (by omega)), trivial⟩ ?_
        exact ae_again _ (by omega) ⟨(szTake left' (bulkStroke (at_ a i.toNat))), (i + 1), rfl, (by omega), (by omega), (by (have e2 : (i + 1).toNat = i.toNat + 1 := by omega); rw [e2, htk]; push_cast; omega), rfl⟩
    · have hie : i.toNat = a.length := by omega
      rw [hie, List.take_length] at hs0
      refine aw_reg [(3, .dec false)] [0, 1, 5, 15] [] [slStroke false a, I left', I i, Bv false] [] [¬ (i < (a.length : Int))] (by kernel_rfl) hB ⟨h2, trivial⟩ ?_
      refine ae_then ?_
      refine aw_false rfl ?_
      refine aw_exit ?_
      refine ae_exit_then ?_
      refine ae_exit_then ?_
      refine ae_exit_same ?_
      refine ae_then ?_
      refine aw_seq ?_
      refine aw_reg [] [4] [] [I left'] [] [] (by kernel_rfl) hB trivial ?_
      refine ae_then ?_
      refine aw_ret ?_
      refine ae_ret hB (I left') (by kernel_rfl) (.inl (by refine congrArg I ?_; unfold szTake; split <;> omega)) rfl (fun _ => trivial)


-- laws.toCellRow
theorem toCellRow_ok (a : CellRow) (hb : bulkCellRow a ≤ 1048576) : Con Tryd.prog 11 [.agg [Sv a.Text, I a.X, I a.Y, I a.Cell]] true (.agg [Sv a.Text, I a.X, I a.Y, I a.Cell]) := by
  refine fn_ok (fn := Tryd.f11) (nt := 17) Tryd.func11 rfl rfl rfl rfl (by simp [taggedL, tagged]) fun B hB => ?_
  refine aw_seq ?_
  refine aw_reg [(0, .new 1), (1, .new 2)] [1, 2] [1, 2] [.ref 1 0, .ref 2 0] [some (.box [Sv a.Text, I a.X, I a.Y, I a.Cell]), some (.box [Sv (⟨#[]⟩ : ByteArray), I 0, I 0, I 0])] [] (by kernel_rfl) hB trivial ?_
  refine ae_then ?_
  refine aw_seq ?_
  refine aw_reg [(0, .new 3)] [1, 2, 3] [1, 2, 3] [.ref 1 0, .ref 2 0, .ref 3 0] [some (.box [Sv a.Text, I a.X, I a.Y, I a.Cell]), some (.box [Sv (⟨#[]⟩ : ByteArray), I 0, I 0, I 0]), some (.box [Sv (⟨#[]⟩ : ByteArray), I 0, I 0, I 0])] [] (by kernel_rfl) hB trivial ?_
  refine ae_then ?_
  refine aw_seq ?_
  refine aw_reg [] [1, 2, 3] [1, 2, 3] [.ref 1 0, .ref 2 0, .ref 3 0] [some (.box [Sv a.Text, I a.X, I a.Y, I a.Cell]), some (.box [Sv (⟨#[]⟩ : ByteArray), I 0, I 0, I 0]), some (.box [Sv a.Text, I 0, I 0, I 0])] [] (by kernel_rfl) hB trivial ?_
  refine ae_then ?_
  refine aw_seq ?_
  refine aw_reg [] [1, 2, 3] [1, 2, 3] [.ref 1 0, .ref 2 0, .ref 3 0] [some (.box [Sv a.Text, I a.X, I a.Y, I a.Cell]), some (.box [Sv (⟨#[]⟩ : ByteArray), I 0, I 0, I 0]), some (.box [Sv a.Text, I a.X, I 0, I 0])] [] (by kernel_rfl) hB trivial ?_
  refine ae_then ?_
  refine aw_seq ?_
  refine aw_reg [] [1, 2, 3] [1, 2, 3] [.ref 1 0, .ref 2 0, .ref 3 0] [some (.box [Sv a.Text, I a.X, I a.Y, I a.Cell]), some (.box [Sv (⟨#[]⟩ : ByteArray), I 0, I 0, I 0]), some (.box [Sv a.Text, I a.X, I a.Y, I 0])] [] (by kernel_rfl) hB trivial ?_
  refine ae_then ?_
  refine aw_seq ?_
  refine aw_reg [] [2, 3] [2, 3] [.ref 2 0, .ref 3 0] [some (.box [Sv (⟨#[]⟩ : ByteArray), I 0, I 0, I 0]), some (.box [Sv a.Text, I a.X, I a.Y, I a.Cell])] [] (by kernel_rfl) hB trivial ?_
  refine ae_then ?_
  refine aw_seq ?_
  refine aw_reg [] [2] [2] [.ref 2 0] [some (.box [Sv a.Text, I a.X, I a.Y, I a.Cell])] [] (by kernel_rfl) hB trivial ?_
  refine ae_then ?_
  refine aw_ret ?_
  refine ae_ret hB (.agg [Sv a.Text, I a.X, I a.Y, I a.Cell]) (by kernel_rfl) (.inl rfl) rfl (fun _ => (by simp [tagged, taggedL]))


-- laws.toPoint
theorem toPoint_ok (a : Point) : Con Tryd.prog 58 [.agg [I a.X, I a.Y, I a.T]] true (.agg [I a.X, I a.Y, I a.T]) := by
  refine fn_ok (fn := Tryd.f58) (nt := 14) Tryd.func58 rfl rfl rfl rfl (by simp [taggedL, tagged]) fun B hB => ?_
  refine aw_seq ?_
  refine aw_reg [(0, .new 1), (1, .new 2)] [1, 2] [1, 2] [.ref 1 0, .ref 2 0] [some (.box [I a.X, I a.Y, I a.T]), some (.box [I 0, I 0, I 0])] [] (by kernel_rfl) hB trivial ?_
  refine ae_then ?_
  refine aw_seq ?_
  refine aw_reg [(0, .new 3)] [1, 2, 3] [1, 2, 3] [.ref 1 0, .ref 2 0, .ref 3 0] [some (.box [I a.X, I a.Y, I a.T]), some (.box [I 0, I 0, I 0]), some (.box [I 0, I 0, I 0])] [] (by kernel_rfl) hB trivial ?_
  refine ae_then ?_
  refine aw_seq ?_
  refine aw_reg [] [1, 2, 3] [1, 2, 3] [.ref 1 0, .ref 2 0, .ref 3 0] [some (.box [I a.X, I a.Y, I a.T]), some (.box [I 0, I 0, I 0]), some (.box [I a.X, I 0, I 0])] [] (by kernel_rfl) hB trivial ?_
  refine ae_then ?_
  refine aw_seq ?_
  refine aw_reg [] [1, 2, 3] [1, 2, 3] [.ref 1 0, .ref 2 0, .ref 3 0] [some (.box [I a.X, I a.Y, I a.T]), some (.box [I 0, I 0, I 0]), some (.box [I a.X, I a.Y, I 0])] [] (by kernel_rfl) hB trivial ?_
  refine ae_then ?_
  refine aw_seq ?_
  refine aw_reg [] [2, 3] [2, 3] [.ref 2 0, .ref 3 0] [some (.box [I 0, I 0, I 0]), some (.box [I a.X, I a.Y, I a.T])] [] (by kernel_rfl) hB trivial ?_
  refine ae_then ?_
  refine aw_seq ?_
  refine aw_reg [] [2] [2] [.ref 2 0] [some (.box [I a.X, I a.Y, I a.T])] [] (by kernel_rfl) hB trivial ?_
  refine ae_then ?_
  refine aw_ret ?_
  refine ae_ret hB (.agg [I a.X, I a.Y, I a.T]) (by kernel_rfl) (.inl rfl) rfl (fun _ => (by simp [tagged, taggedL]))


theorem set_at {α : Type} [Inhabited α] {ys xs : List α} {i : Int} (hl : ys.length = xs.length) (hi : i.toNat < xs.length) (h : ∀ j : Nat, (j : Int) < i → at_ ys j = at_ xs j) (j : Nat) (hj : j ≤ i.toNat) : at_ (ys.set i.toNat (at_ xs i.toNat)) j = at_ xs j := by
  by_cases e : i.toNat = j
  · subst e; simp [at_, hl, hi]
  · have := h j (by omega)
    simp only [at_] at this ⊢
    rw [← this]
    simp [e]
/-- Whether two things are the same. -/
def same {α : Type} [DecidableEq α] (x y : α) : Bool := decide (x = y)
theorem same_iff {α : Type} [DecidableEq α] {x y : α} : same x y = true ↔ x = y := by simp [same]
theorem ext_at {α : Type} [Inhabited α] {xs ys : List α} (hl : xs.length = ys.length) (h : ∀ j : Nat, j < xs.length → at_ xs j = at_ ys j) : xs = ys := by
  apply List.ext_getElem hl
  intro i h1 h2
  rw [← at_eq h1, ← at_eq h2]
  exact h i h1

-- laws.toPointS
theorem toPointS_ok (a : List Point) (hb : bulkPointS a ≤ 1048576) : Con Tryd.prog 43 [slPoint false a] true (slPoint true a) := by
  have hb0 := bulkPointS_len a
  refine fn_ok (fn := Tryd.f43) (nt := 23) Tryd.func43 rfl rfl rfl rfl (by simp [taggedL, tagged, tagPoint]) fun B hB => ?_
  refine aw_lens (x := slPoint false a) 0 rfl (fun len_a => ?_)
  simp [LenOK, LenL, cPoint, fPoint, slPoint] at len_a
  refine aw_seq ?_
  refine aw_reg [] [0] [] [slPoint false a] [] [] (by kernel_rfl) hB trivial ?_
  refine ae_then ?_
  refine aw_seq ?_
  refine aw_reg [(2, .new 7)] [0, 3] [7] [slPoint false a, .arr 7] [some (.arr 3 ((a.length : Int).toNat) (fun _ => [I 0, I 0, I 0]))] [(0 : Int) ≤ (a.length : Int) ∧ ((a.length : Int) : Int) ≤ (a.length : Int) ∧ (24 : Int) * (a.length : Int) ≤ 281474976710656 ∧ (a.length : Int) ≤ 9223372036854775807] (by kernel_rfl) hB ⟨⟨(by omega), (by omega), (by omega), (by omega)⟩, trivial⟩ ?_
  refine ae_then ?_
  refine aw_seq ?_
  refine aw_seq ?_
  refine aw_reg [] [0, 3, 4] [7] [slPoint false a, .arr 7, I 0] [some (.arr 3 ((a.length : Int).toNat) (fun _ => [I 0, I 0, I 0]))] [] (by kernel_rfl) hB trivial ?_
  refine ae_then ?_
  refine aw_block ?_
  refine aw_weak hB [] (T := [(0, slPoint false a), (3, .arr 7), (4, I 0)]) (O := [(7, .arr 3 ((List.replicate ((a.length : Int).toNat) (Point.mk 0 0 0)).length) (fPoint (List.replicate ((a.length : Int).toNat) (Point.mk 0 0 0))))]) rfl (⟨.inl rfl, .inl rfl, .inl rfl, trivial⟩) (⟨.inr ⟨rfl, (by first | rfl | (simp; done) | (simp; omega) | omega), fun i hi => .inl (const_enc (enc := cPoint) rfl i hi)⟩, trivial⟩) ?_
  refine aw_loop (fun gn gσ => ∃ (i : Int) (ys : List Point), gn = ((a.length : Int) - i).toNat ∧ (0 ≤ i ∧ i ≤ (a.length : Int)) ∧ (ys.length = a.length) ∧ (∀ j : Nat, (j : Int) < i → at_ ys j = at_ a j) ∧ gσ = mkS [(0, slPoint false a), (3, .arr 7), (4, I i)] [(7, .arr 3 ys.length (fPoint ys))]) (((a.length : Int) - 0).toNat) ⟨0, (List.replicate ((a.length : Int).toNat) (Point.mk 0 0 0)), rfl, (by omega), (by simp), (by intro j hj; omega), rfl⟩ (fun gn gσ hI => ?_)
  obtain ⟨i, ys, rfl, hi0, hy0, hy1, rfl⟩ := hI
  refine aw_seq ?_
  refine aw_seq ?_
  by_cases h1 : i < (a.length : Int)
  · have hi : i.toNat < a.length := by omega
    have hiy : i.toNat < ys.length := by omega
    refine aw_reg [(3, .dec true)] [0, 3, 4, 11] [7] [slPoint false a, .arr 7, I i, Bv true] [some (.arr 3 ys.length (fPoint ys))] [i < (a.length : Int)] (by kernel_rfl) hB ⟨h1, trivial⟩ ?_
    refine ae_then ?_
    refine aw_true rfl ?_
    refine aw_skip ?_
    refine ae_then ?_
    refine aw_seq ?_
    refine aw_block ?_
    refine aw_reg [(6, .call [(true, .agg [I ((at_ a i.toNat).X), I ((at_ a i.toNat).Y), I ((at_ a i.toNat).T)])] true (.agg [I ((at_ a i.toNat).X), I ((at_ a i.toNat).Y), I ((at_ a i.toNat).T)]))] [0, 3, 4] [7] [slPoint false a, .arr 7, I i] [some (.arr 3 ys.length (fun q => bif Nat.beq q i.toNat then [I ((at_ a i.toNat).X), I ((at_ a i.toNat).Y), I ((at_ a i.toNat).T)] else (fPoint ys) q))] [(0 : Int) ≤ i ∧ i < (a.length : Int), Con Tryd.prog 58 [.agg [I ((at_ a i.toNat).X), I ((at_ a i.toNat).Y), I ((at_ a i.toNat).T)]] true (.agg [I ((at_ a i.toNat).X), I ((at_ a i.toNat).Y), I ((at_ a i.toNat).T)]) ∧ ((.agg [I ((at_ a i.toNat).X), I ((at_ a i.toNat).Y), I ((at_ a i.toNat).T)] : AV) = .agg [I ((at_ a i.toNat).X), I ((at_ a i.toNat).Y), I ((at_ a i.toNat).T)]) ∧ True, (0 : Int) ≤ i ∧ i < (ys.length : Int), i.toNat < ys.length] (by kernel_rfl) hB ⟨⟨(by omega), (by omega)⟩, ⟨(toPoint_ok (at_ a i.toNat)), rfl, trivial⟩, ⟨(by omega), (by omega)⟩, (by omega), trivial⟩ ?_
    refine ae_block 1 ?_
    refine ae_then ?_
    refine aw_reg [] [0, 3, 4] [7] [slPoint false a, .arr 7, I (i + 1)] [some (.arr 3 ys.length (fun q => bif Nat.beq q i.toNat then [I ((at_ a i.toNat).X), I ((at_ a i.toNat).Y), I ((at_ a i.toNat).T)] else (fPoint ys) q))] [inR .i64 (i + 1)] (by kernel_rfl) hB ⟨(inR_i64 (by omega) (by omega)), trivial⟩ ?_
    refine ae_weak hB [] (T := [(0, slPoint false a), (3, .arr 7), (4, I (i + 1))]) (O := [(7, .arr 3 ((ys.set i.toNat (at_ a i.toNat)).length) (fPoint (ys.set i.toNat (at_ a i.toNat))))]) rfl (⟨.inl rfl, .inl rfl, .inl rfl, trivial⟩) (⟨.inr ⟨rfl, (by first | rfl | (simp; done) | (simp; omega) | omega), fun i hi => .inl (upd_enc (enc := cPoint) rfl i hi)⟩, trivial⟩) (ae_again _ (by omega) ⟨(i + 1), (ys.set i.toNat (at_ a i.toNat)), rfl, (by omega), (by simp [hy0]), (by intro j hj; exact set_at hy0 hi hy1 j (by omega)), rfl⟩)
  · obtain rfl : a = ys := (ext_at hy0 (fun j hj => hy1 j (by omega))).symm
    refine aw_reg [(3, .dec false)] [0, 3, 4, 11] [7] [slPoint false a, .arr 7, I i, Bv false] [some (.arr 3 a.length (fPoint a))] [¬ (i < (a.length : Int))] (by kernel_rfl) hB ⟨h1, trivial⟩ ?_
    refine ae_then ?_
    refine aw_false rfl ?_
    refine aw_exit ?_
    refine ae_exit_then ?_
    refine ae_exit_then ?_
    refine ae_exit_same ?_
    refine ae_then ?_
    refine aw_seq ?_
    refine aw_reg [] [2] [7] [.arr 7] [some (.arr 3 a.length (fPoint a))] [] (by kernel_rfl) hB trivial ?_
    refine ae_then ?_
    refine aw_ret ?_
    refine ae_ret hB (.arr 7) (by kernel_rfl) (.inr ⟨(fun _ => rfl), rfl, rfl, fun i _ => .inl rfl⟩) rfl (fun _ => (tagPoint true _))


-- laws.toStroke
theorem toStroke_ok (a : Stroke) (hb : bulkStroke a ≤ 1048576) : Con Tryd.prog 24 [.agg [slPoint false a.Points]] true (.agg [slPoint true a.Points]) := by
  refine fn_ok (fn := Tryd.f24) (nt := 9) Tryd.func24 rfl rfl rfl rfl (by simp [taggedL, tagged, tagPoint]) fun B hB => ?_
  refine aw_lens (x := .agg [slPoint false a.Points]) 0 rfl (fun len_a => ?_)
  simp [LenOK, LenL, cPoint, fPoint, slPoint] at len_a
  refine aw_seq ?_
  refine aw_reg [(0, .new 1), (1, .new 2)] [1, 2] [1, 2] [.ref 1 0, .ref 2 0] [some (.box [slPoint false a.Points]), some (.box [nilA])] [] (by kernel_rfl) hB trivial ?_
  refine ae_then ?_
  refine aw_seq ?_
  refine aw_reg [(0, .new 3)] [1, 2, 3] [1, 2, 3] [.ref 1 0, .ref 2 0, .ref 3 0] [some (.box [slPoint false a.Points]), some (.box [nilA]), some (.box [nilA])] [] (by kernel_rfl) hB trivial ?_
  refine ae_then ?_
  refine aw_seq ?_
  refine aw_reg [(2, .call [(true, slPoint false a.Points)] true (slPoint true a.Points))] [2, 3] [2, 3] [.ref 2 0, .ref 3 0] [some (.box [nilA]), some (.box [slPoint true a.Points])] [Con Tryd.prog 43 [slPoint false a.Points] true (slPoint true a.Points) ∧ ((slPoint false a.Points : AV) = slPoint false a.Points) ∧ True] (by kernel_rfl) hB ⟨⟨(toPointS_ok a.Points (by unfold bulkStroke at hb; omega)), rfl, trivial⟩, trivial⟩ ?_
  refine ae_then ?_
  refine aw_seq ?_
  refine aw_reg [] [2] [2] [.ref 2 0] [some (.box [slPoint true a.Points])] [] (by kernel_rfl) hB trivial ?_
  refine ae_then ?_
  refine aw_ret ?_
  refine ae_ret hB (.agg [slPoint true a.Points]) (by kernel_rfl) (.inr ⟨⟨(fun _ => rfl), rfl, rfl, fun i _ => .inl rfl⟩, rfl⟩) rfl (fun _ => (by simp [tagged, taggedL, tagPoint]))


-- laws.toStrokeS
theorem toStrokeS_ok (a : List Stroke) (hb : bulkStrokeS a ≤ 1048576) : Con Tryd.prog 29 [slStroke false a] true (slStroke true a) := by
  have hb0 := bulkStrokeS_len a
  refine fn_ok (fn := Tryd.f29) (nt := 23) Tryd.func29 rfl rfl rfl rfl (by simp [taggedL, tagged, tagStroke]) fun B hB => ?_
  refine aw_lens (x := slStroke false a) 0 rfl (fun len_a => ?_)
  simp [LenOK, LenL, cPoint, cStroke, fPoint, fStroke, slPoint, slStroke] at len_a
  refine aw_seq ?_
  refine aw_reg [] [0] [] [slStroke false a] [] [] (by kernel_rfl) hB trivial ?_
  refine ae_then ?_
  refine aw_seq ?_
  refine aw_reg [(2, .new 7)] [0, 3] [7] [slStroke false a, .arr 7] [some (.arr 1 ((a.length : Int).toNat) (fun _ => [nilA]))] [(0 : Int) ≤ (a.length : Int) ∧ ((a.length : Int) : Int) ≤ (a.length : Int) ∧ (24 : Int) * (a.length : Int) ≤ 281474976710656 ∧ (a.length : Int) ≤ 9223372036854775807] (by kernel_rfl) hB ⟨⟨(by omega), (by omega), (by omega), (by omega)⟩, trivial⟩ ?_
  refine ae_then ?_
  refine aw_seq ?_
  refine aw_seq ?_
  refine aw_reg [] [0, 3, 4] [7] [slStroke false a, .arr 7, I 0] [some (.arr 1 ((a.length : Int).toNat) (fun _ => [nilA]))] [] (by kernel_rfl) hB trivial ?_
  refine ae_then ?_
  refine aw_block ?_
  refine aw_weak hB [] (T := [(0, slStroke false a), (3, .arr 7), (4, I 0)]) (O := [(7, .arr 1 ((List.replicate ((a.length : Int).toNat) (Stroke.mk ([] : List Point))).length) (fStroke true (List.replicate ((a.length : Int).toNat) (Stroke.mk ([] : List Point)))))]) rfl (⟨.inl rfl, .inl rfl, .inl rfl, trivial⟩) (⟨.inr ⟨rfl, (by first | rfl | (simp; done) | (simp; omega) | omega), fun i hi => .inr (by rw [show (fStroke true (List.replicate ((a.length : Int).toNat) (Stroke.mk ([] : List Point)))) i = (cStroke true) (Stroke.mk ([] : List Point)) from rep_enc (enc := (cStroke true)) i hi]; exact ⟨rfl, ⟨⟨rfl, rfl⟩, rfl⟩⟩)⟩, trivial⟩) ?_
  refine aw_loop (fun gn gσ => ∃ (i : Int) (ys : List Stroke), gn = ((a.length : Int) - i).toNat ∧ (0 ≤ i ∧ i ≤ (a.length : Int)) ∧ (ys.length = a.length) ∧ (∀ j : Nat, (j : Int) < i → at_ ys j = at_ a j) ∧ gσ = mkS [(0, slStroke false a), (3, .arr 7), (4, I i)] [(7, .arr 1 ys.length (fStroke true ys))]) (((a.length : Int) - 0).toNat) ⟨0, (List.replicate ((a.length : Int).toNat) (Stroke.mk ([] : List Point))), rfl, (by omega), (by simp), (by intro j hj; omega), rfl⟩ (fun gn gσ hI => ?_)
  obtain ⟨i, ys, rfl, hi0, hy0, hy1, rfl⟩ := hI
  refine aw_seq ?_
  refine aw_seq ?_
  by_cases h1 : i < (a.length : Int)
  · have hi : i.toNat < a.length := by omega
    have hiy : i.toNat < ys.length := by omega
    refine aw_reg [(3, .dec true)] [0, 3, 4, 11] [7] [slStroke false a, .arr 7, I i, Bv true] [some (.arr 1 ys.length (fStroke true ys))] [i < (a.length : Int)] (by kernel_rfl) hB ⟨h1, trivial⟩ ?_
    refine ae_then ?_
    refine aw_true rfl ?_
    refine aw_skip ?_
    refine ae_then ?_
    refine aw_seq ?_
    refine aw_block ?_
    refine aw_reg [(6, .call [(true, .agg [slPoint false ((at_ a i.toNat).Points)])] true (.agg [slPoint true ((at_ a i.toNat).Points)]))] [0, 3, 4] [7] [slStroke false a, .arr 7, I i] [some (.arr 1 ys.length (fun q => bif Nat.beq q i.toNat then [slPoint true ((at_ a i.toNat).Points)] else (fStroke true ys) q))] [(0 : Int) ≤ i ∧ i < (a.length : Int), Con Tryd.prog 24 [.agg [slPoint false ((at_ a i.toNat).Points)]] true (.agg [slPoint true ((at_ a i.toNat).Points)]) ∧ ((.agg [slPoint false ((at_ a i.toNat).Points)] : AV) = .agg [slPoint false ((at_ a i.toNat).Points)]) ∧ True, (0 : Int) ≤ i ∧ i < (ys.length : Int), i.toNat < ys.length] (by kernel_rfl) hB ⟨⟨(by omega), (by omega)⟩, ⟨(toStroke_ok (at_ a i.toNat) (by have := bulkStrokeS_at hi; omega)), rfl, trivial⟩, ⟨(by omega), (by omega)⟩, (by omega), trivial⟩ ?_
    refine ae_block 1 ?_
    refine ae_then ?_
    refine aw_reg [] [0, 3, 4] [7] [slStroke false a, .arr 7, I (i + 1)] [some (.arr 1 ys.length (fun q => bif Nat.beq q i.toNat then [slPoint true ((at_ a i.toNat).Points)] else (fStroke true ys) q))] [inR .i64 (i + 1)] (by kernel_rfl) hB ⟨(inR_i64 (by omega) (by omega)), trivial⟩ ?_
    refine ae_weak hB [] (T := [(0, slStroke false a), (3, .arr 7), (4, I (i + 1))]) (O := [(7, .arr 1 ((ys.set i.toNat (at_ a i.toNat)).length) (fStroke true (ys.set i.toNat (at_ a i.toNat))))]) rfl (⟨.inl rfl, .inl rfl, .inl rfl, trivial⟩) (⟨.inr ⟨rfl, (by first | rfl | (simp; done) | (simp; omega) | omega), fun i hi => .inl (upd_enc (enc := (cStroke true)) rfl i hi)⟩, trivial⟩) (ae_again _ (by omega) ⟨(i + 1), (ys.set i.toNat (at_ a i.toNat)), rfl, (by omega), (by simp [hy0]), (by intro j hj; exact set_at hy0 hi hy1 j (by omega)), rfl⟩)
  · obtain rfl : a = ys := (ext_at hy0 (fun j hj => hy1 j (by omega))).symm
    refine aw_reg [(3, .dec false)] [0, 3, 4, 11] [7] [slStroke false a, .arr 7, I i, Bv false] [some (.arr 1 a.length (fStroke true a))] [¬ (i < (a.length : Int))] (by kernel_rfl) hB ⟨h1, trivial⟩ ?_
    refine ae_then ?_
    refine aw_false rfl ?_
    refine aw_exit ?_
    refine ae_exit_then ?_
    refine ae_exit_then ?_
    refine ae_exit_same ?_
    refine ae_then ?_
    refine aw_seq ?_
    refine aw_reg [] [2] [7] [.arr 7] [some (.arr 1 a.length (fStroke true a))] [] (by kernel_rfl) hB trivial ?_
    refine ae_then ?_
    refine aw_ret ?_
    refine ae_ret hB (.arr 7) (by kernel_rfl) (.inr ⟨(fun _ => rfl), rfl, rfl, fun i _ => .inl rfl⟩) rfl (fun _ => (tagStroke true _))


/-- Whether p holds of all numbers below n. -/
def allN (n : Nat) (p : Nat → Bool) : Bool := (List.range n).all p
def anyN (n : Nat) (p : Nat → Bool) : Bool := !(allN n fun j => !(p j))
theorem allN_iff {n : Nat} {p : Nat → Bool} : allN n p = true ↔ ∀ j, j < n → p j = true := by simp [allN, List.all_eq_true]
theorem allN_at {n : Nat} {p : Nat → Bool} (h : ∀ j, j < n → p j = true) : allN n p = true := allN_iff.2 h
theorem allN_get {n : Nat} {p : Nat → Bool} (h : allN n p = true) {k : Nat} (hk : k < n) : p k = true := allN_iff.1 h k hk
theorem allN_not {n : Nat} {p : Nat → Bool} {k : Nat} (hk : k < n) (h : p k = false) : allN n p = false := by
  rw [← Bool.not_eq_true, allN_iff]; intro h'; rw [h' k hk] at h; cases h
theorem anyN_not (n : Nat) (p : Nat → Bool) : anyN n (fun j => !(p j)) = !(allN n p) := by simp [anyN]
theorem anyN_at {n : Nat} {p : Nat → Bool} {k : Nat} (hk : k < n) (h : p k = true) : anyN n p = true := by
  unfold anyN; rw [allN_not hk (by simp [h])]; rfl
theorem anyN_none {n : Nat} {p : Nat → Bool} (h : ∀ j, j < n → p j = false) : anyN n p = false := by
  unfold anyN; rw [allN_at (fun j hj => by simp [h j hj])]; rfl
theorem anyN_iff {n : Nat} {p : Nat → Bool} : anyN n p = true ↔ ∃ j, j < n ∧ p j = true := by
  constructor
  · intro h
    apply Classical.byContradiction
    intro hn
    rw [anyN_none (fun j hj => by rw [← Bool.not_eq_true]; exact fun hp => hn ⟨j, hj, hp⟩)] at h
    cases h
  · rintro ⟨j, hj, hp⟩; exact anyN_at hj hp
theorem up_to {n : Int} {p : Nat → Prop} {i : Int} (hi : 0 ≤ i) (h : ∀ j : Nat, (j : Int) < i → p j) (hp : p i.toNat) : ∀ j : Nat, (j : Int) < i + 1 → p j := fun j hj => by
  by_cases e : j = i.toNat
  · subst e; exact hp
  · exact h j (by omega)

def inB (a l h : Int) : Bool := decide (l ≤ a ∧ a ≤ h)
theorem inB_iff {a l h : Int} : inB a l h = true ↔ l ≤ a ∧ a ≤ h := by simp [inB]
theorem bAt_bd (s : ByteArray) (i : Nat) : 0 ≤ bAt s i ∧ bAt s i ≤ 255 := by
  unfold bAt
  have := (s.data.toList.getD i 0).toNat_lt
  omega

-- spec.l01Small
theorem l01Small_ok (c : Int) : Con Tryd.prog 70 [.val (.int .u8 c)] true (Bv (inB c 97 122)) := by
  refine fn_ok (fn := Tryd.f70) (nt := 9) Tryd.func70 rfl rfl rfl rfl (by simp [taggedL, tagged]) fun B hB => ?_
  refine aw_seq ?_
  refine aw_reg [] [0] [] [.val (.int .u8 c)] [] [] (by kernel_rfl) hB trivial ?_
  refine ae_then ?_
  refine aw_seq ?_
  by_cases h1 : 97 ≤ c
  · refine aw_reg [(1, .dec true)] [2] [] [Bv (decide (c ≤ 122))] [] [97 ≤ c] (by kernel_rfl) hB ⟨h1, trivial⟩ ?_
    refine ae_then ?_
    refine aw_ret ?_
    refine ae_ret hB (Bv (decide (c ≤ 122))) (by kernel_rfl) (.inl (by first | rfl | (refine congrArg Bv ?_; simp [inB, *]; done) | (refine congrArg Bv ?_; simp [inB, *]; omega) | (refine congrArg Bv ?_; simp_all [inB]; done) | (refine congrArg Bv ?_; simp_all [inB]; omega))) rfl (fun _ => trivial)
  · refine aw_reg [(1, .dec false)] [2] [] [Bv false] [] [¬ (97 ≤ c)] (by kernel_rfl) hB ⟨h1, trivial⟩ ?_
    refine ae_then ?_
    refine aw_ret ?_
    refine ae_ret hB (Bv false) (by kernel_rfl) (.inl (by first | rfl | (refine congrArg Bv ?_; simp [inB, *]; done) | (refine congrArg Bv ?_; simp [inB, *]; omega) | (refine congrArg Bv ?_; simp_all [inB]; done) | (refine congrArg Bv ?_; simp_all [inB]; omega))) rfl (fun _ => trivial)


-- spec.l01Digit
theorem l01Digit_ok (c : Int) : Con Tryd.prog 71 [.val (.int .u8 c)] true (Bv (inB c 48 57)) := by
  refine fn_ok (fn := Tryd.f71) (nt := 9) Tryd.func71 rfl rfl rfl rfl (by simp [taggedL, tagged]) fun B hB => ?_
  refine aw_seq ?_
  refine aw_reg [] [0] [] [.val (.int .u8 c)] [] [] (by kernel_rfl) hB trivial ?_
  refine ae_then ?_
  refine aw_seq ?_
  by_cases h1 : 48 ≤ c
  · refine aw_reg [(1, .dec true)] [2] [] [Bv (decide (c ≤ 57))] [] [48 ≤ c] (by kernel_rfl) hB ⟨h1, trivial⟩ ?_
    refine ae_then ?_
    refine aw_ret ?_
    refine ae_ret hB (Bv (decide (c ≤ 57))) (by kernel_rfl) (.inl (by first | rfl | (refine congrArg Bv ?_; simp [inB, *]; done) | (refine congrArg Bv ?_; simp [inB, *]; omega) | (refine congrArg Bv ?_; simp_all [inB]; done) | (refine congrArg Bv ?_; simp_all [inB]; omega))) rfl (fun _ => trivial)
  · refine aw_reg [(1, .dec false)] [2] [] [Bv false] [] [¬ (48 ≤ c)] (by kernel_rfl) hB ⟨h1, trivial⟩ ?_
    refine ae_then ?_
    refine aw_ret ?_
    refine ae_ret hB (Bv false) (by kernel_rfl) (.inl (by first | rfl | (refine congrArg Bv ?_; simp [inB, *]; done) | (refine congrArg Bv ?_; simp [inB, *]; omega) | (refine congrArg Bv ?_; simp_all [inB]; done) | (refine congrArg Bv ?_; simp_all [inB]; omega))) rfl (fun _ => trivial)


def cellB (n : Int) : Bool := inB n 97 122 || (inB n 48 57 || decide (n = 32))
/-- Whether a text is made of small letters, digits and blanks. -/
def lettersB (s : ByteArray) : Bool := allN s.size (fun j => cellB (bAt s j))
def okRow (l : CellRow) : Bool := lettersB l.Text && (decide ((l.Text.size : Int) ≤ 60) && (inB l.X 0 4095 && (inB l.Y 0 4095 && inB l.Cell 2 60)))
theorem okRow_iff {l : CellRow} : okRow l = true ↔ lettersB l.Text = true ∧ (l.Text.size : Int) ≤ 60 ∧ (0 ≤ l.X ∧ l.X ≤ 4095) ∧ (0 ≤ l.Y ∧ l.Y ≤ 4095) ∧ (2 ≤ l.Cell ∧ l.Cell ≤ 60) := by simp [okRow, inB, and_assoc]
/-- A text without what t has at its ends. -/
def trimB (s t : ByteArray) : ByteArray := ⟨(Lib.trimS s.data.toList t.data.toList).toArray⟩
theorem dropWhile_nil {α : Type} {p : α → Bool} : ∀ {l : List α}, l.dropWhile p = [] ↔ ∀ x ∈ l, p x = true
  | [] => by simp
  | x :: l => by
    rw [List.dropWhile_cons]
    cases h : p x with
    | true => simp only [if_true]; rw [dropWhile_nil]; simp [h]
    | false => simp [h]
theorem dropWhile_head {α : Type} {p : α → Bool} : ∀ {l : List α} {x : α} {r : List α}, l.dropWhile p = x :: r → p x = false
  | [], _, _, h => by simp at h
  | y :: l, x, r, h => by
    rw [List.dropWhile_cons] at h
    cases hp : p y with
    | true => rw [hp] at h; exact dropWhile_head h
    | false => rw [hp] at h; simp at h; rw [← h.1]; exact hp
theorem trimS_nil {l cs : List UInt8} : Lib.trimS l cs = [] ↔ ∀ x ∈ l, cs.contains x = true := by
  unfold Lib.trimS Lib.trimLeftS Lib.trimRightS
  constructor
  · intro h
    rw [dropWhile_nil] at h
    cases e : l.reverse.dropWhile (cs.contains ·) with
    | nil => rw [dropWhile_nil] at e; intro x hx; exact e x (by simpa using hx)
    | cons x r =>
      have h1 := dropWhile_head e
      have h2 := h x (by rw [e]; simp)
      rw [h2] at h1; cases h1
  · intro h
    have e : l.reverse.dropWhile (cs.contains ·) = [] := dropWhile_nil.2 fun x hx => h x (by simpa using hx)
    rw [e]; rfl
theorem lettersB_iff {s : ByteArray} : lettersB s = true ↔ ∀ x ∈ s.data.toList, cellB x.toNat = true := by
  unfold lettersB
  rw [allN_iff]
  have hl : s.size = s.data.toList.length := by rw [Array.length_toList]; rfl
  constructor
  · intro h x hx
    obtain ⟨i, hi, rfl⟩ := List.getElem_of_mem hx
    have := h i (by omega)
    rw [bAt, List.getD_eq_getElem?_getD, List.getElem?_eq_getElem hi] at this
    exact this
  · intro h j hj
    rw [bAt, List.getD_eq_getElem?_getD, List.getElem?_eq_getElem (by omega)]
    exact h _ (List.getElem_mem _)
def cellsT : ByteArray := ⟨#[97, 98, 99, 100, 101, 102, 103, 104, 105, 106, 107, 108, 109, 110, 111, 112, 113, 114, 115, 116, 117, 118, 119, 120, 121, 122, 48, 49, 50, 51, 52, 53, 54, 55, 56, 57, 32]⟩
set_option maxRecDepth 100000 in
theorem cellsT_has (x : UInt8) : cellsT.data.toList.contains x = cellB x.toNat := by
  have h1 : cellsT.data.toList.contains x = (cellsT.data.toList.map fun y => y.toNat).contains x.toNat := by
    rw [Bool.eq_iff_iff]
    simp only [List.contains_iff_mem, List.mem_map]
    constructor
    · intro h; exact ⟨x, h, rfl⟩
    · rintro ⟨y, hy, e⟩; rw [← UInt8.toNat_inj.1 e]; exact hy
  rw [h1]
  generalize x.toNat = n
  have h2 : (cellsT.data.toList.map fun y => y.toNat) = [97, 98, 99, 100, 101, 102, 103, 104, 105, 106, 107, 108, 109, 110, 111, 112, 113, 114, 115, 116, 117, 118, 119, 120, 121, 122, 48, 49, 50, 51, 52, 53, 54, 55, 56, 57, 32] := by rfl
  rw [h2, Bool.eq_iff_iff]
  simp [cellB, inB]
  omega
theorem trim_cells (s : ByteArray) : trimB s cellsT = ⟨#[]⟩ ↔ lettersB s = true := by
  rw [lettersB_iff]
  constructor
  · intro h x hx
    have h' : Lib.trimS s.data.toList cellsT.data.toList = [] := by
      have := congrArg (fun b => b.data.toList) h
      simpa [trimB] using this
    rw [← cellsT_has]
    exact trimS_nil.1 h' x hx
  · intro h
    have : Lib.trimS s.data.toList cellsT.data.toList = [] := trimS_nil.2 fun x hx => by rw [cellsT_has]; exact h x hx
    unfold trimB
    rw [this]

-- spec.l23Letters
theorem l23Letters_ok (s : ByteArray) (ok : s.size ≤ 9223372036854775807) : Con Tryd.prog 50 [Sv s] true (Bv (lettersB s)) := by
  refine fn_ok (fn := Tryd.f50) (nt := 28) Tryd.func50 rfl rfl rfl rfl (by simp [taggedL, tagged]) fun B hB => ?_
  refine aw_seq ?_
  refine aw_reg [] [0] [] [Sv s] [] [] (by kernel_rfl) hB trivial ?_
  refine ae_then ?_
  refine aw_seq ?_
  refine aw_seq ?_
  refine aw_reg [] [0, 3] [] [Sv s, I 0] [] [] (by kernel_rfl) hB trivial ?_
  refine ae_then ?_
  refine aw_block ?_
  refine aw_loop (fun gn gσ => ∃ (i : Int), gn = ((s.size : Int) - i).toNat ∧ (0 ≤ i ∧ i ≤ (s.size : Int)) ∧ (∀ j : Nat, (j : Int) < i → cellB (bAt s j) = true) ∧ gσ = mkS [(0, Sv s), (3, I i)] []) (((s.size : Int) - 0).toNat) ⟨0, rfl, (by omega), (by intro j hj; omega), rfl⟩ (fun gn gσ hI => ?_)
  obtain ⟨i, rfl, hi0, hall0, rfl⟩ := hI
  refine aw_seq ?_
  refine aw_seq ?_
  by_cases h1 : i < (s.size : Int)
  · have hi : i.toNat < s.size := by omega
    refine aw_reg [(3, .dec true)] [0, 3, 7] [] [Sv s, I i, Bv true] [] [i < (s.size : Int)] (by kernel_rfl) hB ⟨h1, trivial⟩ ?_
    refine ae_then ?_
    refine aw_true rfl ?_
    refine aw_skip ?_
    refine ae_then ?_
    refine aw_seq ?_
    refine aw_block ?_
    refine aw_seq ?_
    rcases Bool.eq_false_or_eq_true (inB (bAt s i.toNat) 97 122) with h2 | h2
    · refine aw_reg [(3, .call [(true, .val (.int .u8 (bAt s i.toNat)))] true (Bv true))] [0, 3, 27] [] [Sv s, I i, Bv false] [] [(0 : Int) ≤ i ∧ i < (s.size : Int), Con Tryd.prog 70 [.val (.int .u8 (bAt s i.toNat))] true (Bv true) ∧ ((.val (.int .u8 (bAt s i.toNat)) : AV) = .val (.int .u8 (bAt s i.toNat))) ∧ True] (by kernel_rfl) hB ⟨⟨(by omega), (by omega)⟩, ⟨(con_bool h2 (l01Small_ok (bAt s i.toNat))), rfl, trivial⟩, trivial⟩ ?_
      refine ae_then ?_
      refine aw_false rfl ?_
      refine aw_skip ?_
      refine ae_block 1 ?_
      refine ae_then ?_
      refine aw_reg [] [0, 3] [] [Sv s, I (i + 1)] [] [inR .i64 (i + 1)] (by kernel_rfl) hB ⟨(inR_i64 (by omega) (by omega)), trivial⟩ ?_
      exact ae_again _ (by omega) ⟨(i + 1), rfl, (by omega), (by intro j hj; by_cases ej : j = i.toNat; (subst ej; simp_all [cellB]); exact hall0 j (by omega)), rfl⟩
    · rcases Bool.eq_false_or_eq_true (inB (bAt s i.toNat) 48 57) with h3 | h3
      · refine aw_reg [(3, .call [(true, .val (.int .u8 (bAt s i.toNat)))] true (Bv false)), (9, .call [(true, .val (.int .u8 (bAt s i.toNat)))] true (Bv true))] [0, 3, 27] [] [Sv s, I i, Bv false] [] [(0 : Int) ≤ i ∧ i < (s.size : Int), Con Tryd.prog 70 [.val (.int .u8 (bAt s i.toNat))] true (Bv false) ∧ ((.val (.int .u8 (bAt s i.toNat)) : AV) = .val (.int .u8 (bAt s i.toNat))) ∧ True, (0 : Int) ≤ i ∧ i < (s.size : Int), Con Tryd.prog 71 [.val (.int .u8 (bAt s i.toNat))] true (Bv true) ∧ ((.val (.int .u8 (bAt s i.toNat)) : AV) = .val (.int .u8 (bAt s i.toNat))) ∧ True] (by kernel_rfl) hB ⟨⟨(by omega), (by omega)⟩, ⟨(con_bool h2 (l01Small_ok (bAt s i.toNat))), rfl, trivial⟩, ⟨(by omega), (by omega)⟩, ⟨(con_bool h3 (l01Digit_ok (bAt s i.toNat))), rfl, trivial⟩, trivial⟩ ?_
        refine ae_then ?_
        refine aw_false rfl ?_
        refine aw_skip ?_
        refine ae_block 1 ?_
        refine ae_then ?_
        refine aw_reg [] [0, 3] [] [Sv s, I (i + 1)] [] [inR .i64 (i + 1)] (by kernel_rfl) hB ⟨(inR_i64 (by omega) (by omega)), trivial⟩ ?_
        exact ae_again _ (by omega) ⟨(i + 1), rfl, (by omega), (by intro j hj; by_cases ej : j = i.toNat; (subst ej; simp_all [cellB]); exact hall0 j (by omega)), rfl⟩
      · by_cases h4 : (bAt s i.toNat) = 32
        · refine aw_reg [(3, .call [(true, .val (.int .u8 (bAt s i.toNat)))] true (Bv false)), (9, .call [(true, .val (.int .u8 (bAt s i.toNat)))] true (Bv false)), (16, .dec false)] [0, 3, 27] [] [Sv s, I i, Bv false] [] [(0 : Int) ≤ i ∧ i < (s.size : Int), Con Tryd.prog 70 [.val (.int .u8 (bAt s i.toNat))] true (Bv false) ∧ ((.val (.int .u8 (bAt s i.toNat)) : AV) = .val (.int .u8 (bAt s i.toNat))) ∧ True, (0 : Int) ≤ i ∧ i < (s.size : Int), Con Tryd.prog 71 [.val (.int .u8 (bAt s i.toNat))] true (Bv false) ∧ ((.val (.int .u8 (bAt s i.toNat)) : AV) = .val (.int .u8 (bAt s i.toNat))) ∧ True, (0 : Int) ≤ i ∧ i < (s.size : Int), ¬ ((bAt s i.toNat) ≠ 32)] (by kernel_rfl) hB ⟨⟨(by omega), (by omega)⟩, ⟨(con_bool h2 (l01Small_ok (bAt s i.toNat))), rfl, trivial⟩, ⟨(by omega), (by omega)⟩, ⟨(con_bool h3 (l01Digit_ok (bAt s i.toNat))), rfl, trivial⟩, ⟨(by omega), (by omega)⟩, (fun hq => hq h4), trivial⟩ ?_
          refine ae_then ?_
          refine aw_false rfl ?_
          refine aw_skip ?_
          refine ae_block 1 ?_
          refine ae_then ?_
          refine aw_reg [] [0, 3] [] [Sv s, I (i + 1)] [] [inR .i64 (i + 1)] (by kernel_rfl) hB ⟨(inR_i64 (by omega) (by omega)), trivial⟩ ?_
          exact ae_again _ (by omega) ⟨(i + 1), rfl, (by omega), (by intro j hj; by_cases ej : j = i.toNat; (subst ej; simp_all [cellB]); exact hall0 j (by omega)), rfl⟩
        · refine aw_reg [(3, .call [(true, .val (.int .u8 (bAt s i.toNat)))] true (Bv false)), (9, .call [(true, .val (.int .u8 (bAt s i.toNat)))] true (Bv false)), (16, .dec true)] [0, 3, 27] [] [Sv s, I i, Bv true] [] [(0 : Int) ≤ i ∧ i < (s.size : Int), Con Tryd.prog 70 [.val (.int .u8 (bAt s i.toNat))] true (Bv false) ∧ ((.val (.int .u8 (bAt s i.toNat)) : AV) = .val (.int .u8 (bAt s i.toNat))) ∧ True, (0 : Int) ≤ i ∧ i < (s.size : Int), Con Tryd.prog 71 [.val (.int .u8 (bAt s i.toNat))] true (Bv false) ∧ ((.val (.int .u8 (bAt s i.toNat)) : AV) = .val (.int .u8 (bAt s i.toNat))) ∧ True, (0 : Int) ≤ i ∧ i < (s.size : Int), (bAt s i.toNat) ≠ 32] (by kernel_rfl) hB ⟨⟨(by omega), (by omega)⟩, ⟨(con_bool h2 (l01Small_ok (bAt s i.toNat))), rfl, trivial⟩, ⟨(by omega), (by omega)⟩, ⟨(con_bool h3 (l01Digit_ok (bAt s i.toNat))), rfl, trivial⟩, ⟨(by omega), (by omega)⟩, h4, trivial⟩ ?_
          refine ae_then ?_
          refine aw_true rfl ?_
          refine aw_seq ?_
          refine aw_reg [] [2] [] [Bv false] [] [] (by kernel_rfl) hB trivial ?_
          refine ae_then ?_
          refine aw_ret ?_
          refine ae_ret_block (ae_ret_then (ae_ret_then (ae_ret_block (ae_ret_then ?_))))
          refine ae_ret hB (Bv false) (by kernel_rfl) (.inl (by refine congrArg Bv ?_; first | exact hall.symm | (symm; exact allN_not hi (by simp_all [cellB, inB])))) rfl (fun _ => trivial)
  · have hall : allN s.size (fun j => cellB (bAt s j)) = true := allN_at (fun j hj => hall0 j (by omega))
    refine aw_reg [(3, .dec false)] [0, 3, 7] [] [Sv s, I i, Bv false] [] [¬ (i < (s.size : Int))] (by kernel_rfl) hB ⟨h1, trivial⟩ ?_
    refine ae_then ?_
    refine aw_false rfl ?_
    refine aw_exit ?_
    refine ae_exit_then ?_
    refine ae_exit_then ?_
    refine ae_exit_same ?_
    refine ae_then ?_
    refine aw_seq ?_
    refine aw_reg [] [2] [] [Bv true] [] [] (by kernel_rfl) hB trivial ?_
    refine ae_then ?_
    refine aw_ret ?_
    refine ae_ret hB (Bv true) (by kernel_rfl) (.inl (by refine congrArg Bv ?_; first | exact hall.symm | (symm; exact allN_not hi (by simp_all [cellB, inB])))) rfl (fun _ => trivial)


-- spec.l00In
theorem l00In_ok (n : Int) (low : Int) (high : Int) : Con Tryd.prog 36 [I n, I low, I high] true (Bv (inB n low high)) := by
  refine fn_ok (fn := Tryd.f36) (nt := 15) Tryd.func36 rfl rfl rfl rfl (by simp [taggedL, tagged]) fun B hB => ?_
  refine aw_seq ?_
  refine aw_reg [] [0, 1, 2] [] [I n, I low, I high] [] [] (by kernel_rfl) hB trivial ?_
  refine ae_then ?_
  refine aw_seq ?_
  by_cases h1 : low ≤ n
  · refine aw_reg [(2, .dec true)] [6] [] [Bv (decide (n ≤ high))] [] [low ≤ n] (by kernel_rfl) hB ⟨h1, trivial⟩ ?_
    refine ae_then ?_
    refine aw_ret ?_
    refine ae_ret hB (Bv (decide (n ≤ high))) (by kernel_rfl) (.inl (by first | rfl | (refine congrArg Bv ?_; simp [inB, *]; done) | (refine congrArg Bv ?_; simp [inB, *]; omega) | (refine congrArg Bv ?_; simp_all [inB]; done) | (refine congrArg Bv ?_; simp_all [inB]; omega))) rfl (fun _ => trivial)
  · refine aw_reg [(2, .dec false)] [6] [] [Bv false] [] [¬ (low ≤ n)] (by kernel_rfl) hB ⟨h1, trivial⟩ ?_
    refine ae_then ?_
    refine aw_ret ?_
    refine ae_ret hB (Bv false) (by kernel_rfl) (.inl (by first | rfl | (refine congrArg Bv ?_; simp [inB, *]; done) | (refine congrArg Bv ?_; simp [inB, *]; omega) | (refine congrArg Bv ?_; simp_all [inB]; done) | (refine congrArg Bv ?_; simp_all [inB]; omega))) rfl (fun _ => trivial)


-- spec.l23Ok
theorem l23Ok_ok (l : CellRow) (ok : l.Text.size ≤ 9223372036854775807) : Con Tryd.prog 32 [.ptr false [Sv l.Text, I l.X, I l.Y, I l.Cell]] true (Bv (okRow l)) := by
  refine fn_ok (fn := Tryd.f32) (nt := 37) Tryd.func32 rfl rfl rfl rfl (by simp [taggedL, tagged]) fun B hB => ?_
  refine aw_seq ?_
  refine aw_reg [] [0] [] [.ptr false [Sv l.Text, I l.X, I l.Y, I l.Cell]] [] [] (by kernel_rfl) hB trivial ?_
  refine ae_then ?_
  refine aw_seq ?_
  rcases Bool.eq_false_or_eq_true (lettersB l.Text) with h1 | h1
  · by_cases h2 : (l.Text.size : Int) ≤ 60
    · rcases Bool.eq_false_or_eq_true (inB l.X 0 4095) with h3 | h3
      · rcases Bool.eq_false_or_eq_true (inB l.Y 0 4095) with h4 | h4
        · refine aw_reg [(4, .call [(true, Sv l.Text)] true (Bv true)), (11, .dec true), (18, .call [(true, I l.X), (true, I 0), (true, I 4095)] true (Bv true)), (25, .call [(true, I l.Y), (true, I 0), (true, I 4095)] true (Bv true)), (32, .call [(true, I l.Cell), (true, I 2), (true, I 60)] true (Bv (inB l.Cell 2 60)))] [2] [] [Bv (inB l.Cell 2 60)] [] [Con Tryd.prog 50 [Sv l.Text] true (Bv true) ∧ ((Sv l.Text : AV) = Sv l.Text) ∧ True, (l.Text.size : Int) ≤ 60, Con Tryd.prog 36 [I l.X, I 0, I 4095] true (Bv true) ∧ ((I l.X : AV) = I l.X) ∧ ((I 0 : AV) = I 0) ∧ ((I 4095 : AV) = I 4095) ∧ True, Con Tryd.prog 36 [I l.Y, I 0, I 4095] true (Bv true) ∧ ((I l.Y : AV) = I l.Y) ∧ ((I 0 : AV) = I 0) ∧ ((I 4095 : AV) = I 4095) ∧ True, Con Tryd.prog 36 [I l.Cell, I 2, I 60] true (Bv (inB l.Cell 2 60)) ∧ ((I l.Cell : AV) = I l.Cell) ∧ ((I 2 : AV) = I 2) ∧ ((I 60 : AV) = I 60) ∧ True] (by kernel_rfl) hB ⟨⟨(con_bool h1 (l23Letters_ok l.Text ok)), rfl, trivial⟩, h2, ⟨(con_bool h3 (l00In_ok l.X 0 4095)), rfl, rfl, rfl, trivial⟩, ⟨(con_bool h4 (l00In_ok l.Y 0 4095)), rfl, rfl, rfl, trivial⟩, ⟨(l00In_ok l.Cell 2 60), rfl, rfl, rfl, trivial⟩, trivial⟩ ?_
          refine ae_then ?_
          refine aw_ret ?_
          refine ae_ret hB (Bv (inB l.Cell 2 60)) (by kernel_rfl) (.inl (by first | rfl | (refine congrArg Bv ?_; simp [okRow, inB, *]; done) | (refine congrArg Bv ?_; simp [okRow, inB, *]; omega) | (refine congrArg Bv ?_; simp_all [okRow, inB]; done) | (refine congrArg Bv ?_; simp_all [okRow, inB]; omega))) rfl (fun _ => trivial)
        · refine aw_reg [(4, .call [(true, Sv l.Text)] true (Bv true)), (11, .dec true), (18, .call [(true, I l.X), (true, I 0), (true, I 4095)] true (Bv true)), (25, .call [(true, I l.Y), (true, I 0), (true, I 4095)] true (Bv false))] [2] [] [Bv false] [] [Con Tryd.prog 50 [Sv l.Text] true (Bv true) ∧ ((Sv l.Text : AV) = Sv l.Text) ∧ True, (l.Text.size : Int) ≤ 60, Con Tryd.prog 36 [I l.X, I 0, I 4095] true (Bv true) ∧ ((I l.X : AV) = I l.X) ∧ ((I 0 : AV) = I 0) ∧ ((I 4095 : AV) = I 4095) ∧ True, Con Tryd.prog 36 [I l.Y, I 0, I 4095] true (Bv false) ∧ ((I l.Y : AV) = I l.Y) ∧ ((I 0 : AV) = I 0) ∧ ((I 4095 : AV) = I 4095) ∧ True] (by kernel_rfl) hB ⟨⟨(con_bool h1 (l23Letters_ok l.Text ok)), rfl, trivial⟩, h2, ⟨(con_bool h3 (l00In_ok l.X 0 4095)), rfl, rfl, rfl, trivial⟩, ⟨(con_bool h4 (l00In_ok l.Y 0 4095)), rfl, rfl, rfl, trivial⟩, trivial⟩ ?_
          refine ae_then ?_
          refine aw_ret ?_
          refine ae_ret hB (Bv false) (by kernel_rfl) (.inl (by first | rfl | (refine congrArg Bv ?_; simp [okRow, inB, *]; done) | (refine congrArg Bv ?_; simp [okRow, inB, *]; omega) | (refine congrArg Bv ?_; simp_all [okRow, inB]; done) | (refine congrArg Bv ?_; simp_all [okRow, inB]; omega))) rfl (fun _ => trivial)
      · refine aw_reg [(4, .call [(true, Sv l.Text)] true (Bv true)), (11, .dec true), (18, .call [(true, I l.X), (true, I 0), (true, I 4095)] true (Bv false))] [2] [] [Bv false] [] [Con Tryd.prog 50 [Sv l.Text] true (Bv true) ∧ ((Sv l.Text : AV) = Sv l.Text) ∧ True, (l.Text.size : Int) ≤ 60, Con Tryd.prog 36 [I l.X, I 0, I 4095] true (Bv false) ∧ ((I l.X : AV) = I l.X) ∧ ((I 0 : AV) = I 0) ∧ ((I 4095 : AV) = I 4095) ∧ True] (by kernel_rfl) hB ⟨⟨(con_bool h1 (l23Letters_ok l.Text ok)), rfl, trivial⟩, h2, ⟨(con_bool h3 (l00In_ok l.X 0 4095)), rfl, rfl, rfl, trivial⟩, trivial⟩ ?_
        refine ae_then ?_
        refine aw_ret ?_
        refine ae_ret hB (Bv false) (by kernel_rfl) (.inl (by first | rfl | (refine congrArg Bv ?_; simp [okRow, inB, *]; done) | (refine congrArg Bv ?_; simp [okRow, inB, *]; omega) | (refine congrArg Bv ?_; simp_all [okRow, inB]; done) | (refine congrArg Bv ?_; simp_all [okRow, inB]; omega))) rfl (fun _ => trivial)
    · refine aw_reg [(4, .call [(true, Sv l.Text)] true (Bv true)), (11, .dec false)] [2] [] [Bv false] [] [Con Tryd.prog 50 [Sv l.Text] true (Bv true) ∧ ((Sv l.Text : AV) = Sv l.Text) ∧ True, ¬ ((l.Text.size : Int) ≤ 60)] (by kernel_rfl) hB ⟨⟨(con_bool h1 (l23Letters_ok l.Text ok)), rfl, trivial⟩, h2, trivial⟩ ?_
      refine ae_then ?_
      refine aw_ret ?_
      refine ae_ret hB (Bv false) (by kernel_rfl) (.inl (by first | rfl | (refine congrArg Bv ?_; simp [okRow, inB, *]; done) | (refine congrArg Bv ?_; simp [okRow, inB, *]; omega) | (refine congrArg Bv ?_; simp_all [okRow, inB]; done) | (refine congrArg Bv ?_; simp_all [okRow, inB]; omega))) rfl (fun _ => trivial)
  · refine aw_reg [(4, .call [(true, Sv l.Text)] true (Bv false))] [2] [] [Bv false] [] [Con Tryd.prog 50 [Sv l.Text] true (Bv false) ∧ ((Sv l.Text : AV) = Sv l.Text) ∧ True] (by kernel_rfl) hB ⟨⟨(con_bool h1 (l23Letters_ok l.Text ok)), rfl, trivial⟩, trivial⟩ ?_
    refine ae_then ?_
    refine aw_ret ?_
    refine ae_ret hB (Bv false) (by kernel_rfl) (.inl (by first | rfl | (refine congrArg Bv ?_; simp [okRow, inB, *]; done) | (refine congrArg Bv ?_; simp [okRow, inB, *]; omega) | (refine congrArg Bv ?_; simp_all [okRow, inB]; done) | (refine congrArg Bv ?_; simp_all [okRow, inB]; omega))) rfl (fun _ => trivial)


def okP (p : Point) : Bool := inB p.X 0 4095 && (inB p.Y 0 4095 && inB p.T 0 3600000)
theorem okP_iff {p : Point} : okP p = true ↔ (0 ≤ p.X ∧ p.X ≤ 4095) ∧ (0 ≤ p.Y ∧ p.Y ≤ 4095) ∧ (0 ≤ p.T ∧ p.T ≤ 3600000) := by simp [okP, inB, and_assoc]
/-- Whether the point at j is valid, and later than the one ahead of it. -/
def okPt (xs : List Point) (j : Nat) : Bool := okP (at_ xs j) && (decide (j = 0) || decide ((at_ xs (j - 1)).T < (at_ xs j).T))
def okStroke' (s : Stroke) : Bool := decide (1 ≤ (s.Points.length : Int) ∧ (s.Points.length : Int) ≤ 60) && allN s.Points.length (okPt s.Points)
theorem okPt_no {xs : List Point} {i : Int} (hi : 0 < i) (h : (at_ xs i.toNat).T ≤ (at_ xs (i - 1).toNat).T) : okPt xs i.toNat = false := by
  have e : (i - 1).toNat = i.toNat - 1 := by omega
  rw [e] at h
  have : ¬ i.toNat = 0 := by omega
  simp [okPt, this]; intro _; omega
theorem okPt_bad {xs : List Point} {j : Nat} (h : okP (at_ xs j) = false) : okPt xs j = false := by simp [okPt, h]
theorem okPt_yes {xs : List Point} {i : Int} (h1 : okP (at_ xs i.toNat) = true) (hi : 0 < i) (h : ¬ (at_ xs i.toNat).T ≤ (at_ xs (i - 1).toNat).T) : okPt xs i.toNat = true := by
  have e : (i - 1).toNat = i.toNat - 1 := by omega
  rw [e] at h
  simp [okPt, h1]; right; omega
theorem okPt_zero {xs : List Point} {i : Int} (h1 : okP (at_ xs i.toNat) = true) (h0 : 0 ≤ i) (hi : ¬ 0 < i) : okPt xs i.toNat = true := by
  have : i.toNat = 0 := by omega
  simp [okPt, this] at h1 ⊢; exact h1
theorem okS_at {s : Stroke} (h : okStroke' s = true) {j : Nat} (hj : j < s.Points.length) : okP (at_ s.Points j) = true := by
  simp only [okStroke', Bool.and_eq_true] at h
  have := allN_get h.2 hj
  simp only [okPt, Bool.and_eq_true] at this
  exact this.1
theorem okS_T {s : Stroke} (h : okStroke' s = true) {j : Nat} (hj : j < s.Points.length) (h0 : 0 < j) : (at_ s.Points (j - 1)).T < (at_ s.Points j).T := by
  simp only [okStroke', Bool.and_eq_true] at h
  have := allN_get h.2 hj
  simp only [okPt, Bool.and_eq_true, Bool.or_eq_true, decide_eq_true_eq] at this
  omega
theorem okS_len {s : Stroke} (h : okStroke' s = true) : 1 ≤ (s.Points.length : Int) ∧ (s.Points.length : Int) ≤ 60 := by
  simp only [okStroke', Bool.and_eq_true, decide_eq_true_eq] at h
  exact h.1

-- spec.l02Point
theorem l02Point_ok (p : Point) : Con Tryd.prog 52 [.agg [I p.X, I p.Y, I p.T]] true (Bv (okP p)) := by
  refine fn_ok (fn := Tryd.f52) (nt := 16) Tryd.func52 rfl rfl rfl rfl (by simp [taggedL, tagged]) fun B hB => ?_
  refine aw_seq ?_
  refine aw_reg [(0, .new 1)] [1] [1] [.ref 1 0] [some (.box [I p.X, I p.Y, I p.T])] [] (by kernel_rfl) hB trivial ?_
  refine ae_then ?_
  refine aw_seq ?_
  rcases Bool.eq_false_or_eq_true (inB p.X 0 4095) with h1 | h1
  · rcases Bool.eq_false_or_eq_true (inB p.Y 0 4095) with h2 | h2
    · refine aw_reg [(2, .call [(true, I p.X), (true, I 0), (true, I 4095)] true (Bv true)), (6, .call [(true, I p.Y), (true, I 0), (true, I 4095)] true (Bv true)), (11, .call [(true, I p.T), (true, I 0), (true, I 3600000)] true (Bv (inB p.T 0 3600000)))] [2] [] [Bv (inB p.T 0 3600000)] [] [Con Tryd.prog 36 [I p.X, I 0, I 4095] true (Bv true) ∧ ((I p.X : AV) = I p.X) ∧ ((I 0 : AV) = I 0) ∧ ((I 4095 : AV) = I 4095) ∧ True, Con Tryd.prog 36 [I p.Y, I 0, I 4095] true (Bv true) ∧ ((I p.Y : AV) = I p.Y) ∧ ((I 0 : AV) = I 0) ∧ ((I 4095 : AV) = I 4095) ∧ True, Con Tryd.prog 36 [I p.T, I 0, I 3600000] true (Bv (inB p.T 0 3600000)) ∧ ((I p.T : AV) = I p.T) ∧ ((I 0 : AV) = I 0) ∧ ((I 3600000 : AV) = I 3600000) ∧ True] (by kernel_rfl) hB ⟨⟨(con_bool h1 (l00In_ok p.X 0 4095)), rfl, rfl, rfl, trivial⟩, ⟨(con_bool h2 (l00In_ok p.Y 0 4095)), rfl, rfl, rfl, trivial⟩, ⟨(l00In_ok p.T 0 3600000), rfl, rfl, rfl, trivial⟩, trivial⟩ ?_
      refine ae_then ?_
      refine aw_ret ?_
      refine ae_ret hB (Bv (inB p.T 0 3600000)) (by kernel_rfl) (.inl (by first | rfl | (refine congrArg Bv ?_; simp [okP, *]; done) | (refine congrArg Bv ?_; simp [okP, *]; omega) | (refine congrArg Bv ?_; simp_all [okP]; done) | (refine congrArg Bv ?_; simp_all [okP]; omega))) rfl (fun _ => trivial)
    · refine aw_reg [(2, .call [(true, I p.X), (true, I 0), (true, I 4095)] true (Bv true)), (6, .call [(true, I p.Y), (true, I 0), (true, I 4095)] true (Bv false))] [2] [] [Bv false] [] [Con Tryd.prog 36 [I p.X, I 0, I 4095] true (Bv true) ∧ ((I p.X : AV) = I p.X) ∧ ((I 0 : AV) = I 0) ∧ ((I 4095 : AV) = I 4095) ∧ True, Con Tryd.prog 36 [I p.Y, I 0, I 4095] true (Bv false) ∧ ((I p.Y : AV) = I p.Y) ∧ ((I 0 : AV) = I 0) ∧ ((I 4095 : AV) = I 4095) ∧ True] (by kernel_rfl) hB ⟨⟨(con_bool h1 (l00In_ok p.X 0 4095)), rfl, rfl, rfl, trivial⟩, ⟨(con_bool h2 (l00In_ok p.Y 0 4095)), rfl, rfl, rfl, trivial⟩, trivial⟩ ?_
      refine ae_then ?_
      refine aw_ret ?_
      refine ae_ret hB (Bv false) (by kernel_rfl) (.inl (by first | rfl | (refine congrArg Bv ?_; simp [okP, *]; done) | (refine congrArg Bv ?_; simp [okP, *]; omega) | (refine congrArg Bv ?_; simp_all [okP]; done) | (refine congrArg Bv ?_; simp_all [okP]; omega))) rfl (fun _ => trivial)
  · refine aw_reg [(2, .call [(true, I p.X), (true, I 0), (true, I 4095)] true (Bv false))] [2] [] [Bv false] [] [Con Tryd.prog 36 [I p.X, I 0, I 4095] true (Bv false) ∧ ((I p.X : AV) = I p.X) ∧ ((I 0 : AV) = I 0) ∧ ((I 4095 : AV) = I 4095) ∧ True] (by kernel_rfl) hB ⟨⟨(con_bool h1 (l00In_ok p.X 0 4095)), rfl, rfl, rfl, trivial⟩, trivial⟩ ?_
    refine ae_then ?_
    refine aw_ret ?_
    refine ae_ret hB (Bv false) (by kernel_rfl) (.inl (by first | rfl | (refine congrArg Bv ?_; simp [okP, *]; done) | (refine congrArg Bv ?_; simp [okP, *]; omega) | (refine congrArg Bv ?_; simp_all [okP]; done) | (refine congrArg Bv ?_; simp_all [okP]; omega))) rfl (fun _ => trivial)


-- spec.l02Stroke
theorem l02Stroke_ok (s : Stroke) : Con Tryd.prog 41 [.ptr false [slPoint false s.Points]] true (Bv (okStroke' s)) := by
  refine fn_ok (fn := Tryd.f41) (nt := 52) Tryd.func41 rfl rfl rfl rfl (by simp [taggedL, tagged, tagPoint]) fun B hB => ?_
  refine aw_lens (x := .ptr false [slPoint false s.Points]) 0 rfl (fun len_s => ?_)
  simp [LenOK, LenL, cPoint, fPoint, slPoint] at len_s
  refine aw_seq ?_
  refine aw_reg [] [0] [] [.ptr false [slPoint false s.Points]] [] [] (by kernel_rfl) hB trivial ?_
  refine ae_then ?_
  refine aw_seq ?_
  refine aw_seq ?_
  refine aw_reg [] [0, 3] [] [.ptr false [slPoint false s.Points], I 0] [] [] (by kernel_rfl) hB trivial ?_
  refine ae_then ?_
  refine aw_block ?_
  refine aw_loop (fun gn gσ => ∃ (i : Int), gn = ((s.Points.length : Int) - i).toNat ∧ (0 ≤ i ∧ i ≤ (s.Points.length : Int)) ∧ (∀ j : Nat, (j : Int) < i → okPt s.Points j = true) ∧ gσ = mkS [(0, .ptr false [slPoint false s.Points]), (3, I i)] []) (((s.Points.length : Int) - 0).toNat) ⟨0, rfl, (by omega), (by intro j hj; omega), rfl⟩ (fun gn gσ hI => ?_)
  obtain ⟨i, rfl, hi0, hall0, rfl⟩ := hI
  refine aw_seq ?_
  refine aw_seq ?_
  by_cases h1 : i < (s.Points.length : Int)
  · have hi : i.toNat < s.Points.length := by omega
    refine aw_reg [(6, .dec true)] [0, 3, 10] [] [.ptr false [slPoint false s.Points], I i, Bv true] [] [i < (s.Points.length : Int)] (by kernel_rfl) hB ⟨h1, trivial⟩ ?_
    refine ae_then ?_
    refine aw_true rfl ?_
    refine aw_skip ?_
    refine ae_then ?_
    refine aw_seq ?_
    refine aw_block ?_
    refine aw_seq ?_
    rcases Bool.eq_false_or_eq_true (okP (at_ s.Points i.toNat)) with h2 | h2
    · by_cases h3 : 0 < i
      · by_cases h4 : ((at_ s.Points i.toNat).T) ≤ ((at_ s.Points ((i - 1).toNat)).T)
        · have hall : allN s.Points.length (okPt s.Points) = false := allN_not hi (okPt_no h3 h4)
          refine aw_reg [(7, .call [(true, .agg [I ((at_ s.Points i.toNat).X), I ((at_ s.Points i.toNat).Y), I ((at_ s.Points i.toNat).T)])] true (Bv true)), (11, .dec true), (30, .dec true)] [0, 3, 45] [] [.ptr false [slPoint false s.Points], I i, Bv true] [] [(0 : Int) ≤ i ∧ i < (s.Points.length : Int), Con Tryd.prog 52 [.agg [I ((at_ s.Points i.toNat).X), I ((at_ s.Points i.toNat).Y), I ((at_ s.Points i.toNat).T)]] true (Bv true) ∧ ((.agg [I ((at_ s.Points i.toNat).X), I ((at_ s.Points i.toNat).Y), I ((at_ s.Points i.toNat).T)] : AV) = .agg [I ((at_ s.Points i.toNat).X), I ((at_ s.Points i.toNat).Y), I ((at_ s.Points i.toNat).T)]) ∧ True, 0 < i, (0 : Int) ≤ i ∧ i < (s.Points.length : Int), inR .i64 (i - 1), (0 : Int) ≤ (i - 1) ∧ (i - 1) < (s.Points.length : Int), ((at_ s.Points i.toNat).T) ≤ ((at_ s.Points ((i - 1).toNat)).T)] (by kernel_rfl) hB ⟨⟨(by omega), (by omega)⟩, ⟨(con_bool h2 (l02Point_ok (at_ s.Points i.toNat))), rfl, trivial⟩, h3, ⟨(by omega), (by omega)⟩, (inR_i64 (by omega) (by omega)), ⟨(by omega), (by omega)⟩, h4, trivial⟩ ?_
          refine ae_then ?_
          refine aw_true rfl ?_
          refine aw_seq ?_
          refine aw_reg [] [2] [] [Bv false] [] [] (by kernel_rfl) hB trivial ?_
          refine ae_then ?_
          refine aw_ret ?_
          refine ae_ret_block (ae_ret_then (ae_ret_then (ae_ret_block (ae_ret_then ?_))))
          refine ae_ret hB (Bv false) (by kernel_rfl) (.inl (by first | rfl | (refine congrArg Bv ?_; simp [okStroke', inB, *]; done) | (refine congrArg Bv ?_; simp [okStroke', inB, *]; omega) | (refine congrArg Bv ?_; simp_all [okStroke', inB]; done) | (refine congrArg Bv ?_; simp_all [okStroke', inB]; omega))) rfl (fun _ => trivial)
        · have hok := okPt_yes h2 h3 h4
          refine aw_reg [(7, .call [(true, .agg [I ((at_ s.Points i.toNat).X), I ((at_ s.Points i.toNat).Y), I ((at_ s.Points i.toNat).T)])] true (Bv true)), (11, .dec true), (30, .dec false)] [0, 3, 45] [] [.ptr false [slPoint false s.Points], I i, Bv false] [] [(0 : Int) ≤ i ∧ i < (s.Points.length : Int), Con Tryd.prog 52 [.agg [I ((at_ s.Points i.toNat).X), I ((at_ s.Points i.toNat).Y), I ((at_ s.Points i.toNat).T)]] true (Bv true) ∧ ((.agg [I ((at_ s.Points i.toNat).X), I ((at_ s.Points i.toNat).Y), I ((at_ s.Points i.toNat).T)] : AV) = .agg [I ((at_ s.Points i.toNat).X), I ((at_ s.Points i.toNat).Y), I ((at_ s.Points i.toNat).T)]) ∧ True, 0 < i, (0 : Int) ≤ i ∧ i < (s.Points.length : Int), inR .i64 (i - 1), (0 : Int) ≤ (i - 1) ∧ (i - 1) < (s.Points.length : Int), ¬ (((at_ s.Points i.toNat).T) ≤ ((at_ s.Points ((i - 1).toNat)).T))] (by kernel_rfl) hB ⟨⟨(by omega), (by omega)⟩, ⟨(con_bool h2 (l02Point_ok (at_ s.Points i.toNat))), rfl, trivial⟩, h3, ⟨(by omega), (by omega)⟩, (inR_i64 (by omega) (by omega)), ⟨(by omega), (by omega)⟩, h4, trivial⟩ ?_
          refine ae_then ?_
          refine aw_false rfl ?_
          refine aw_skip ?_
          refine ae_block 1 ?_
          refine ae_then ?_
          refine aw_reg [] [0, 3] [] [.ptr false [slPoint false s.Points], I (i + 1)] [] [inR .i64 (i + 1)] (by kernel_rfl) hB ⟨(inR_i64 (by omega) (by omega)), trivial⟩ ?_
          exact ae_again _ (by omega) ⟨(i + 1), rfl, (by omega), (by intro j hj; by_cases ej : j = i.toNat; (subst ej; first | assumption | exact hok); exact hall0 j (by omega)), rfl⟩
      · have hok := okPt_zero h2 hi0.1 h3
        refine aw_reg [(7, .call [(true, .agg [I ((at_ s.Points i.toNat).X), I ((at_ s.Points i.toNat).Y), I ((at_ s.Points i.toNat).T)])] true (Bv true)), (11, .dec false)] [0, 3, 45] [] [.ptr false [slPoint false s.Points], I i, Bv false] [] [(0 : Int) ≤ i ∧ i < (s.Points.length : Int), Con Tryd.prog 52 [.agg [I ((at_ s.Points i.toNat).X), I ((at_ s.Points i.toNat).Y), I ((at_ s.Points i.toNat).T)]] true (Bv true) ∧ ((.agg [I ((at_ s.Points i.toNat).X), I ((at_ s.Points i.toNat).Y), I ((at_ s.Points i.toNat).T)] : AV) = .agg [I ((at_ s.Points i.toNat).X), I ((at_ s.Points i.toNat).Y), I ((at_ s.Points i.toNat).T)]) ∧ True, ¬ (0 < i)] (by kernel_rfl) hB ⟨⟨(by omega), (by omega)⟩, ⟨(con_bool h2 (l02Point_ok (at_ s.Points i.toNat))), rfl, trivial⟩, h3, trivial⟩ ?_
        refine ae_then ?_
        refine aw_false rfl ?_
        refine aw_skip ?_
        refine ae_block 1 ?_
        refine ae_then ?_
        refine aw_reg [] [0, 3] [] [.ptr false [slPoint false s.Points], I (i + 1)] [] [inR .i64 (i + 1)] (by kernel_rfl) hB ⟨(inR_i64 (by omega) (by omega)), trivial⟩ ?_
        exact ae_again _ (by omega) ⟨(i + 1), rfl, (by omega), (by intro j hj; by_cases ej : j = i.toNat; (subst ej; first | assumption | exact hok); exact hall0 j (by omega)), rfl⟩
    · have hall : allN s.Points.length (okPt s.Points) = false := allN_not hi (okPt_bad h2)
      refine aw_reg [(7, .call [(true, .agg [I ((at_ s.Points i.toNat).X), I ((at_ s.Points i.toNat).Y), I ((at_ s.Points i.toNat).T)])] true (Bv false))] [0, 3, 45] [] [.ptr false [slPoint false s.Points], I i, Bv true] [] [(0 : Int) ≤ i ∧ i < (s.Points.length : Int), Con Tryd.prog 52 [.agg [I ((at_ s.Points i.toNat).X), I ((at_ s.Points i.toNat).Y), I ((at_ s.Points i.toNat).T)]] true (Bv false) ∧ ((.agg [I ((at_ s.Points i.toNat).X), I ((at_ s.Points i.toNat).Y), I ((at_ s.Points i.toNat).T)] : AV) = .agg [I ((at_ s.Points i.toNat).X), I ((at_ s.Points i.toNat).Y), I ((at_ s.Points i.toNat).T)]) ∧ True] (by kernel_rfl) hB ⟨⟨(by omega), (by omega)⟩, ⟨(con_bool h2 (l02Point_ok (at_ s.Points i.toNat))), rfl, trivial⟩, trivial⟩ ?_
      refine ae_then ?_
      refine aw_true rfl ?_
      refine aw_seq ?_
      refine aw_reg [] [2] [] [Bv false] [] [] (by kernel_rfl) hB trivial ?_
      refine ae_then ?_
      refine aw_ret ?_
      refine ae_ret_block (ae_ret_then (ae_ret_then (ae_ret_block (ae_ret_then ?_))))
      refine ae_ret hB (Bv false) (by kernel_rfl) (.inl (by first | rfl | (refine congrArg Bv ?_; simp [okStroke', inB, *]; done) | (refine congrArg Bv ?_; simp [okStroke', inB, *]; omega) | (refine congrArg Bv ?_; simp_all [okStroke', inB]; done) | (refine congrArg Bv ?_; simp_all [okStroke', inB]; omega))) rfl (fun _ => trivial)
  · have hall : allN s.Points.length (okPt s.Points) = true := allN_at (fun j hj => hall0 j (by omega))
    refine aw_reg [(6, .dec false)] [0, 3, 10] [] [.ptr false [slPoint false s.Points], I i, Bv false] [] [¬ (i < (s.Points.length : Int))] (by kernel_rfl) hB ⟨h1, trivial⟩ ?_
    refine ae_then ?_
    refine aw_false rfl ?_
    refine aw_exit ?_
    refine ae_exit_then ?_
    refine ae_exit_then ?_
    refine ae_exit_same ?_
    refine ae_then ?_
    refine aw_seq ?_
    refine aw_reg [(5, .call [(true, I (s.Points.length : Int)), (true, I 1), (true, I 60)] true (Bv (inB (s.Points.length : Int) 1 60)))] [2] [] [Bv (inB (s.Points.length : Int) 1 60)] [] [Con Tryd.prog 36 [I (s.Points.length : Int), I 1, I 60] true (Bv (inB (s.Points.length : Int) 1 60)) ∧ ((I (s.Points.length : Int) : AV) = I (s.Points.length : Int)) ∧ ((I 1 : AV) = I 1) ∧ ((I 60 : AV) = I 60) ∧ True] (by kernel_rfl) hB ⟨⟨(l00In_ok (s.Points.length : Int) 1 60), rfl, rfl, rfl, trivial⟩, trivial⟩ ?_
    refine ae_then ?_
    refine aw_ret ?_
    refine ae_ret hB (Bv (inB (s.Points.length : Int) 1 60)) (by kernel_rfl) (.inl (by first | rfl | (refine congrArg Bv ?_; simp [okStroke', inB, *]; done) | (refine congrArg Bv ?_; simp [okStroke', inB, *]; omega) | (refine congrArg Bv ?_; simp_all [okStroke', inB]; done) | (refine congrArg Bv ?_; simp_all [okStroke', inB]; omega))) rfl (fun _ => trivial)


theorem bitLen_spec (x : Nat) (h : x < 2 ^ 64) : x < 2 ^ Lib.bitLen x ∧ ∀ k, x < 2 ^ k → Lib.bitLen x ≤ k := by
  induction x using Nat.strongRecOn with
  | _ x ih =>
    by_cases h0 : x = 0
    · subst h0
      have : Lib.bitLen 0 = 0 := by decide
      rw [this]
      exact ⟨by decide, fun k _ => Nat.zero_le _⟩
    · have e := Lib.bitLen_half x h0 h
      obtain ⟨h1, h2⟩ := ih (x / 2) (by omega) (by omega)
      rw [e]
      refine ⟨by rw [Nat.pow_add]; omega, fun k hk => ?_⟩
      cases k with
      | zero => simp at hk; omega
      | succ k =>
        have := h2 k (by rw [Nat.pow_succ] at hk; omega)
        omega
theorem sq_le {a b : Int} (h0 : 0 ≤ a) (h : a ≤ b) : a * a ≤ b * b := Int.mul_le_mul h h h0 (by omega)
theorem sq_lt {a b : Int} (h0 : 0 ≤ b) (h : a * a < b * b) : a < b := by
  by_cases h' : a < b
  · exact h'
  · have := sq_le h0 (Int.not_lt.1 h'); omega
def rootN : Nat → Nat
  | 0 => 0
  | n + 1 => if (rootN n + 1) * (rootN n + 1) ≤ n + 1 then rootN n + 1 else rootN n
theorem rootN_spec (n : Nat) : rootN n * rootN n ≤ n ∧ n < (rootN n + 1) * (rootN n + 1) := by
  induction n with
  | zero => simp [rootN]
  | succ n ih =>
    unfold rootN
    split
    · rename_i h
      refine ⟨h, ?_⟩
      have : (rootN n + 1 + 1) * (rootN n + 1 + 1) = (rootN n + 1) * (rootN n + 1) + 2 * (rootN n + 1) + 1 := by
        generalize rootN n + 1 = a
        rw [Nat.add_mul, Nat.mul_add]; omega
      omega
    · omega
/-- The greatest number whose square is at most n. -/
def rootI (n : Int) : Int := (rootN n.toNat : Int)
theorem rootI_spec {n : Int} (h : 0 ≤ n) : 0 ≤ rootI n ∧ rootI n * rootI n ≤ n ∧ n < (rootI n + 1) * (rootI n + 1) := by
  have := rootN_spec n.toNat
  unfold rootI
  refine ⟨by omega, ?_, ?_⟩
  · have h1 : ((rootN n.toNat * rootN n.toNat : Nat) : Int) ≤ (n.toNat : Int) := Int.ofNat_le.2 this.1
    rw [Int.natCast_mul] at h1; omega
  · have h1 : ((n.toNat : Nat) : Int) < (((rootN n.toNat + 1) * (rootN n.toNat + 1) : Nat) : Int) := Int.ofNat_lt.2 this.2
    rw [Int.natCast_mul] at h1
    have e : ((rootN n.toNat + 1 : Nat) : Int) = (rootN n.toNat : Int) + 1 := by omega
    rw [e] at h1; omega
theorem rootI_eq {n r : Int} (h0 : 0 ≤ r) (h1 : r * r ≤ n) (h2 : n < (r + 1) * (r + 1)) : rootI n = r := by
  have hn : 0 ≤ n := Int.le_trans (Int.mul_nonneg h0 h0) h1
  obtain ⟨a, b, c⟩ := rootI_spec hn
  have e1 : rootI n < r + 1 := sq_lt (by omega) (by omega)
  have e2 : r < rootI n + 1 := sq_lt (by omega) (by omega)
  omega
theorem rootI_bd {n B : Int} (h : 0 ≤ n) (hB : 0 ≤ B) (h2 : n < (B + 1) * (B + 1)) : 0 ≤ rootI n ∧ rootI n ≤ B := by
  obtain ⟨a, b, c⟩ := rootI_spec h
  have : rootI n < B + 1 := sq_lt (by omega) (by omega)
  omega
/-- A step of the way down. -/
theorem newton {n r : Int} (hr : 0 < r) : n < ((r + n / r) / 2 + 1) * ((r + n / r) / 2 + 1) := by
  obtain ⟨m, hm⟩ : ∃ m, m = n / r := ⟨_, rfl⟩
  have h1 : n < r * (m + 1) := by
    have := Int.lt_mul_ediv_self_add (x := n) hr
    rw [← hm] at this; rw [Int.mul_add]; omega
  rw [← hm]
  obtain ⟨q, hq⟩ : ∃ q, q = (r + m) / 2 := ⟨_, rfl⟩
  rw [← hq]
  have h2 : r + m + 1 ≤ 2 * (q + 1) := by omega
  by_cases h0 : n < 0
  · have : 0 ≤ (q + 1) * (q + 1) := by
      rcases Int.le_total 0 (q + 1) with h | h
      · exact Int.mul_nonneg h h
      · exact Int.mul_nonneg_of_nonpos_of_nonpos h h
    omega
  have h0 := Int.not_lt.1 h0
  have hm0 : 0 ≤ m := by rw [hm]; exact Int.ediv_nonneg h0 (by omega)
  have h3 := sq_le (show 0 ≤ r + m + 1 by omega) h2
  have h4 : (2 * (q + 1)) * (2 * (q + 1)) = 4 * ((q + 1) * (q + 1)) := by
    generalize q + 1 = a
    rw [show (2 * a) * (2 * a) = (2 * 2) * (a * a) by rw [Int.mul_assoc, Int.mul_left_comm a 2 a, ← Int.mul_assoc]]; omega
  have h5 : 4 * (r * (m + 1)) ≤ (r + m + 1) * (r + m + 1) := by
    have h6 : 0 ≤ (r - (m + 1)) * (r - (m + 1)) := by
      rcases Int.le_total 0 (r - (m + 1)) with h | h
      · exact Int.mul_nonneg h h
      · exact Int.mul_nonneg_of_nonpos_of_nonpos h h
    have e : r + m + 1 = r + (m + 1) := by omega
    rw [e]
    generalize m + 1 = k at h6 ⊢
    have e1 : (r - k) * (r - k) = r * r - 2 * (r * k) + k * k := by rw [Int.sub_mul, Int.mul_sub, Int.mul_sub, Int.mul_comm k r]; omega
    have e2 : (r + k) * (r + k) = r * r + 2 * (r * k) + k * k := by rw [Int.add_mul, Int.mul_add, Int.mul_add, Int.mul_comm k r]; omega
    omega
  omega
theorem newton_end {n r : Int} (hr : 0 < r) (h : ¬ (r + n / r) / 2 < r) : r * r ≤ n := by
  have h1 : r ≤ n / r := by omega
  have h2 := Int.mul_ediv_self_le (x := n) (k := r) (by omega)
  exact Int.le_trans (Int.mul_le_mul_of_nonneg_left h1 (by omega)) h2

theorem root0 {n : Int} (h0 : 0 ≤ n) (h1 : n ≤ 1000000000000000) : (Lib.bitLen n.toNat ≤ 50) ∧ (1 ≤ 1 * ((2 ^ ((((Lib.bitLen n.toNat : Nat) : Int) + 1) / 2).toNat : Nat) : Int) ∧ 1 * ((2 ^ ((((Lib.bitLen n.toNat : Nat) : Int) + 1) / 2).toNat : Nat) : Int) ≤ 33554432) ∧
    n < (1 * ((2 ^ ((((Lib.bitLen n.toNat : Nat) : Int) + 1) / 2).toNat : Nat) : Int) + 1) * (1 * ((2 ^ ((((Lib.bitLen n.toNat : Nat) : Int) + 1) / 2).toNat : Nat) : Int) + 1) := by
  obtain ⟨a, b⟩ := bitLen_spec n.toNat (by omega)
  have hL := b 50 (by omega)
  generalize Lib.bitLen n.toNat = L at *
  have e : (((L : Int) + 1) / 2).toNat = (L + 1) / 2 := by omega
  rw [e]
  have hk : (L + 1) / 2 ≤ 25 := by omega
  have h3 : 2 ^ ((L + 1) / 2) ≤ 2 ^ 25 := Nat.pow_le_pow_right (by decide) hk
  have h4 : 1 ≤ 2 ^ ((L + 1) / 2) := Nat.one_le_two_pow
  have h5 : 2 ^ L ≤ 2 ^ ((L + 1) / 2) * 2 ^ ((L + 1) / 2) := by rw [← Nat.pow_add]; exact Nat.pow_le_pow_right (by decide) (by omega)
  generalize 2 ^ ((L + 1) / 2) = R at *
  have h6 : n.toNat < R * R := Nat.lt_of_lt_of_le a h5
  have h7 : ((n.toNat : Nat) : Int) < ((R * R : Nat) : Int) := Int.ofNat_lt.2 h6
  rw [Int.natCast_mul] at h7
  refine ⟨hL, by omega, ?_⟩
  have e2 : (1 * (R : Int) + 1) * (1 * (R : Int) + 1) = (R : Int) * R + 2 * R + 1 := by rw [Int.one_mul, Int.add_mul, Int.mul_add]; omega
  omega
theorem div_bd {n r : Int} (h : 0 ≤ n) (hr : 0 < r) : 0 ≤ n / r ∧ n / r ≤ n := ⟨Int.ediv_nonneg h (by omega), Int.ediv_le_self _ h⟩
theorem newton_pos {n q : Int} (h : 0 < n) (hq : 0 ≤ q) (h2 : n < (q + 1) * (q + 1)) : 0 < q := by
  by_cases e : q = 0
  · subst e; omega
  · omega

def farI (a b : Point) : Int := (a.X - b.X) * (a.X - b.X) + (a.Y - b.Y) * (a.Y - b.Y)
theorem sq_bd {x B : Int} (h1 : -B ≤ x) (h2 : x ≤ B) : 0 ≤ x * x ∧ x * x ≤ B * B := by
  rcases Int.le_total 0 x with h | h
  · exact ⟨Int.mul_nonneg h h, sq_le h h2⟩
  · have := sq_le (a := -x) (b := B) (by omega) (by omega)
    rw [Int.neg_mul_neg] at this
    exact ⟨Int.mul_nonneg_of_nonpos_of_nonpos h h, this⟩
theorem far_bd {a b : Point} (ha : okP a = true) (hb : okP b = true) : (0 ≤ (a.X - b.X) * (a.X - b.X) ∧ (a.X - b.X) * (a.X - b.X) ≤ 16769025) ∧ (0 ≤ (a.Y - b.Y) * (a.Y - b.Y) ∧ (a.Y - b.Y) * (a.Y - b.Y) ≤ 16769025) := by
  have h1 := okP_iff.1 ha
  have h2 := okP_iff.1 hb
  exact ⟨sq_bd (B := 4095) (by omega) (by omega), sq_bd (B := 4095) (by omega) (by omega)⟩
/-- The length of a segment. -/
def segI (a b : Point) : Int := rootI (256 * farI a b)
theorem segI_bd {a b : Point} (ha : okP a = true) (hb : okP b = true) : (0 ≤ farI a b ∧ farI a b ≤ 33538050) ∧ 0 ≤ segI a b ∧ segI a b ≤ 92659 := by
  have := far_bd ha hb
  have h : 0 ≤ farI a b ∧ farI a b ≤ 33538050 := by unfold farI; omega
  exact ⟨h, rootI_bd (by omega) (by decide) (by omega)⟩

-- spec.l05Far
theorem l05Far_ok (a : Point) (b : Point) (ha : okP a = true) (hb : okP b = true) : Con Tryd.prog 98 [.agg [I a.X, I a.Y, I a.T], .agg [I b.X, I b.Y, I b.T]] true (I (farI a b)) := by
  have ha' := okP_iff.1 ha
  have hb' := okP_iff.1 hb
  have hfb := far_bd ha hb
  refine fn_ok (fn := Tryd.f98) (nt := 24) Tryd.func98 rfl rfl rfl rfl (by simp [taggedL, tagged]) fun B hB => ?_
  refine aw_seq ?_
  refine aw_reg [(0, .new 2), (1, .new 3)] [2, 3] [2, 3] [.ref 2 0, .ref 3 0] [some (.box [I a.X, I a.Y, I a.T]), some (.box [I b.X, I b.Y, I b.T])] [] (by kernel_rfl) hB trivial ?_
  refine ae_then ?_
  refine aw_seq ?_
  refine aw_reg [] [2, 3, 5] [2, 3] [.ref 2 0, .ref 3 0, I (a.X - b.X)] [some (.box [I a.X, I a.Y, I a.T]), some (.box [I b.X, I b.Y, I b.T])] [inR .i64 (a.X - b.X)] (by kernel_rfl) hB ⟨(inR_i64 (by omega) (by omega)), trivial⟩ ?_
  refine ae_then ?_
  refine aw_seq ?_
  refine aw_reg [] [5, 6] [] [I (a.X - b.X), I (a.Y - b.Y)] [] [inR .i64 (a.Y - b.Y)] (by kernel_rfl) hB ⟨(inR_i64 (by omega) (by omega)), trivial⟩ ?_
  refine ae_then ?_
  refine aw_seq ?_
  refine aw_reg [] [4] [] [I (((a.X - b.X) * (a.X - b.X)) + ((a.Y - b.Y) * (a.Y - b.Y)))] [] [inR .i64 ((a.X - b.X) * (a.X - b.X)), inR .i64 ((a.Y - b.Y) * (a.Y - b.Y)), inR .i64 (((a.X - b.X) * (a.X - b.X)) + ((a.Y - b.Y) * (a.Y - b.Y)))] (by kernel_rfl) hB ⟨(inR_i64 (by omega) (by omega)), (inR_i64 (by omega) (by omega)), (inR_i64 (by omega) (by omega)), trivial⟩ ?_
  refine ae_then ?_
  refine aw_ret ?_
  refine ae_ret hB (I (((a.X - b.X) * (a.X - b.X)) + ((a.Y - b.Y) * (a.Y - b.Y)))) (by kernel_rfl) (.inl (by first | rfl | (refine congrArg Bv ?_; simp [*]; done) | (refine congrArg Bv ?_; simp [*]; omega) | (refine congrArg Bv ?_; simp_all []; done) | (refine congrArg Bv ?_; simp_all []; omega))) rfl (fun _ => trivial)


-- spec.l05Root
theorem l05Root_ok (n : Int) (hn : 0 ≤ n ∧ n ≤ 1000000000000000) : Con Tryd.prog 97 [I n] true (I (rootI n)) := by
  refine fn_ok (fn := Tryd.f97) (nt := 23) Tryd.func97 rfl rfl rfl rfl (by simp [taggedL, tagged]) fun B hB => ?_
  refine aw_seq ?_
  refine aw_reg [] [0] [] [I n] [] [] (by kernel_rfl) hB trivial ?_
  refine ae_then ?_
  refine aw_seq ?_
  refine aw_reg [] [0, 3] [] [I n, I 0] [] [] (by kernel_rfl) hB trivial ?_
  refine ae_then ?_
  refine aw_seq ?_
  refine aw_reg [] [0, 3, 4] [] [I n, I 0, I 40000000] [] [] (by kernel_rfl) hB trivial ?_
  refine ae_then ?_
  refine aw_seq ?_
  refine aw_block ?_
  refine aw_loop (fun gn gσ => ∃ (low : Int) (high : Int), gn = ((high : Int) - low).toNat ∧ (0 ≤ low ∧ low ≤ high ∧ high ≤ 40000000) ∧ (low * low ≤ n) ∧ (n < (high + 1) * (high + 1)) ∧ gσ = mkS [(0, I n), (3, I low), (4, I high)] []) (((40000000 : Int) - 0).toNat) ⟨0, 40000000, rfl, (by omega), (by omega), (by omega), rfl⟩ (fun gn gσ hI => ?_)
  obtain ⟨low, high, rfl, hl0, hl1, hl2, rfl⟩ := hI
  have hmm := sq_le (a := (((low + high) + 1) / 2)) (b := 40000000) (by omega) (by omega)
  have hmz := sq_le (a := 0) (b := (((low + high) + 1) / 2)) (by omega) (by omega)
  refine aw_seq ?_
  refine aw_seq ?_
  by_cases h1 : low < high
  · refine aw_reg [(2, .dec true)] [0, 3, 4, 8] [] [I n, I low, I high, Bv true] [] [low < high] (by kernel_rfl) hB ⟨h1, trivial⟩ ?_
    refine ae_then ?_
    refine aw_true rfl ?_
    refine aw_skip ?_
    refine ae_then ?_
    refine aw_block ?_
    refine aw_seq ?_
    refine aw_reg [(4, .nn)] [0, 3, 4, 5] [] [I n, I low, I high, I (((low + high) + 1) / 2)] [] [inR .i64 (low + high), inR .i64 ((low + high) + 1), (0 : Int) ≤ ((low + high) + 1) ∧ (0 : Int) < 2 ∧ inR .i64 ((low + high) + 1)] (by kernel_rfl) hB ⟨(inR_i64 (by omega) (by omega)), (inR_i64 (by omega) (by omega)), ⟨(by omega), (by omega), (inR_i64 (by omega) (by omega))⟩, trivial⟩ ?_
    refine ae_then ?_
    refine aw_seq ?_
    by_cases h2 : ((((low + high) + 1) / 2) * (((low + high) + 1) / 2)) ≤ n
    · refine aw_reg [(4, .dec true)] [0, 3, 4, 5, 18] [] [I n, I low, I high, I (((low + high) + 1) / 2), Bv true] [] [inR .i64 ((((low + high) + 1) / 2) * (((low + high) + 1) / 2)), ((((low + high) + 1) / 2) * (((low + high) + 1) / 2)) ≤ n] (by kernel_rfl) hB ⟨(inR_i64 (by omega) (by omega)), h2, trivial⟩ ?_
      refine ae_then ?_
      refine aw_true rfl ?_
      refine aw_reg [] [0, 3, 4] [] [I n, I (((low + high) + 1) / 2), I high] [] [] (by kernel_rfl) hB trivial ?_
      refine ae_block 1 ?_
      exact ae_again _ (by omega) ⟨(((low + high) + 1) / 2), high, rfl, (by omega), (by omega), (by first | omega | (rw [show ∀ x : Int, x - 1 + 1 = x from fun x => by omega]; omega)), rfl⟩
    · refine aw_reg [(4, .dec false)] [0, 3, 4, 5, 18] [] [I n, I low, I high, I (((low + high) + 1) / 2), Bv false] [] [inR .i64 ((((low + high) + 1) / 2) * (((low + high) + 1) / 2)), ¬ (((((low + high) + 1) / 2) * (((low + high) + 1) / 2)) ≤ n)] (by kernel_rfl) hB ⟨(inR_i64 (by omega) (by omega)), h2, trivial⟩ ?_
      refine ae_then ?_
      refine aw_false rfl ?_
      refine aw_reg [] [0, 3, 4] [] [I n, I low, I ((((low + high) + 1) / 2) - 1)] [] [inR .i64 ((((low + high) + 1) / 2) - 1)] (by kernel_rfl) hB ⟨(inR_i64 (by omega) (by omega)), trivial⟩ ?_
      refine ae_block 1 ?_
      exact ae_again _ (by omega) ⟨low, ((((low + high) + 1) / 2) - 1), rfl, (by omega), (by omega), (by first | omega | (rw [show ∀ x : Int, x - 1 + 1 = x from fun x => by omega]; omega)), rfl⟩
  · refine aw_reg [(2, .dec false)] [0, 3, 4, 8] [] [I n, I low, I high, Bv false] [] [¬ (low < high)] (by kernel_rfl) hB ⟨h1, trivial⟩ ?_
    refine ae_then ?_
    refine aw_false rfl ?_
    refine aw_exit ?_
    refine ae_exit_then ?_
    refine ae_exit_then ?_
    refine ae_exit_same ?_
    refine ae_then ?_
    refine aw_seq ?_
    refine aw_reg [] [2] [] [I low] [] [] (by kernel_rfl) hB trivial ?_
    refine ae_then ?_
    refine aw_ret ?_
    refine ae_ret hB (I low) (by kernel_rfl) (.inl (by exact congrArg I (Eq.symm (rootI_eq hl0.1 hl1 (by have e : high = low := (by omega); rw [e] at hl2; exact hl2))))) rfl (fun _ => trivial)


-- spec.l05Length
theorem l05Length_ok (a : Point) (b : Point) (ha : okP a = true) (hb : okP b = true) : Con Tryd.prog 84 [.agg [I a.X, I a.Y, I a.T], .agg [I b.X, I b.Y, I b.T]] true (I (segI a b)) := by
  have ha' := okP_iff.1 ha
  have hb' := okP_iff.1 hb
  have hfb := far_bd ha hb
  have hlb := segI_bd ha hb
  refine fn_ok (fn := Tryd.f84) (nt := 10) Tryd.func84 rfl rfl rfl rfl (by simp [taggedL, tagged]) fun B hB => ?_
  refine aw_seq ?_
  refine aw_reg [(0, .new 2), (1, .new 3)] [2, 3] [2, 3] [.ref 2 0, .ref 3 0] [some (.box [I a.X, I a.Y, I a.T]), some (.box [I b.X, I b.Y, I b.T])] [] (by kernel_rfl) hB trivial ?_
  refine ae_then ?_
  refine aw_seq ?_
  refine aw_reg [(2, .call [(true, .agg [I a.X, I a.Y, I a.T]), (true, .agg [I b.X, I b.Y, I b.T])] true (I (farI a b))), (4, .call [(true, I (256 * (farI a b)))] true (I (rootI (256 * (farI a b)))))] [4] [] [I (rootI (256 * (farI a b)))] [] [Con Tryd.prog 98 [.agg [I a.X, I a.Y, I a.T], .agg [I b.X, I b.Y, I b.T]] true (I (farI a b)) ∧ ((.agg [I a.X, I a.Y, I a.T] : AV) = .agg [I a.X, I a.Y, I a.T]) ∧ ((.agg [I b.X, I b.Y, I b.T] : AV) = .agg [I b.X, I b.Y, I b.T]) ∧ True, inR .i64 (256 * (farI a b)), Con Tryd.prog 97 [I (256 * (farI a b))] true (I (rootI (256 * (farI a b)))) ∧ ((I (256 * (farI a b)) : AV) = I (256 * (farI a b))) ∧ True] (by kernel_rfl) hB ⟨⟨(l05Far_ok a b ha hb), rfl, rfl, trivial⟩, (inR_i64 (by omega) (by omega)), ⟨(l05Root_ok (256 * (farI a b)) (by omega)), rfl, trivial⟩, trivial⟩ ?_
  refine ae_then ?_
  refine aw_ret ?_
  refine ae_ret hB (I (rootI (256 * (farI a b)))) (by kernel_rfl) (.inl (by first | rfl | (refine congrArg Bv ?_; simp [*]; done) | (refine congrArg Bv ?_; simp [*]; omega) | (refine congrArg Bv ?_; simp_all []; done) | (refine congrArg Bv ?_; simp_all []; omega))) rfl (fun _ => trivial)


/-- The length of the first points' way: segments that end ahead of the k-th point. -/
def sumS (xs : List Point) : Nat → Int
  | 0 => 0
  | k + 1 => sumS xs k + (if k = 0 then 0 else segI (at_ xs (k - 1)) (at_ xs k))
theorem sumS_succ {xs : List Point} {i : Int} (h : 1 ≤ i) : sumS xs (i + 1).toNat = sumS xs i.toNat + segI (at_ xs (i - 1).toNat) (at_ xs i.toNat) := by
  have e1 : (i + 1).toNat = i.toNat + 1 := by omega
  have e2 : (i - 1).toNat = i.toNat - 1 := by omega
  have e3 : ¬ i.toNat = 0 := by omega
  rw [e1, e2]; simp [sumS, e3]
/-- How often the way changes between left and right, and the last difference: over the segments that end ahead of the k-th point. -/
def revS (xs : List Point) : Nat → Int × Int
  | 0 => (0, 0)
  | k + 1 => if k = 0 then (0, 0) else
    let dx := (at_ xs k).X - (at_ xs (k - 1)).X
    let p := revS xs k
    if dx = 0 then p else (if p.2 ≠ 0 ∧ ¬ (0 < dx ↔ 0 < p.2) then p.1 + 1 else p.1, dx)

-- spec.l05Sum
theorem l05Sum_ok (s : Stroke) (ok : okStroke' s = true) : Con Tryd.prog 79 [.ptr false [slPoint false s.Points]] true (I (sumS s.Points s.Points.length)) := by
  have hln := okS_len ok
  refine fn_ok (fn := Tryd.f79) (nt := 33) Tryd.func79 rfl rfl rfl rfl (by simp [taggedL, tagged, tagPoint]) fun B hB => ?_
  refine aw_lens (x := .ptr false [slPoint false s.Points]) 0 rfl (fun len_s => ?_)
  simp [LenOK, LenL, cPoint, fPoint, slPoint] at len_s
  refine aw_seq ?_
  refine aw_reg [] [0] [] [.ptr false [slPoint false s.Points]] [] [] (by kernel_rfl) hB trivial ?_
  refine ae_then ?_
  refine aw_seq ?_
  refine aw_reg [] [0, 3] [] [.ptr false [slPoint false s.Points], I 0] [] [] (by kernel_rfl) hB trivial ?_
  refine ae_then ?_
  refine aw_seq ?_
  refine aw_seq ?_
  refine aw_reg [] [0, 3, 4] [] [.ptr false [slPoint false s.Points], I 0, I 1] [] [] (by kernel_rfl) hB trivial ?_
  refine ae_then ?_
  refine aw_block ?_
  refine aw_loop (fun gn gσ => ∃ (sum : Int) (i : Int), gn = ((s.Points.length : Int) - i).toNat ∧ (1 ≤ i ∧ i ≤ (s.Points.length : Int)) ∧ (sum = sumS s.Points i.toNat) ∧ (0 ≤ sum ∧ sum ≤ 92659 * (i - 1)) ∧ gσ = mkS [(0, .ptr false [slPoint false s.Points]), (3, I sum), (4, I i)] []) (((s.Points.length : Int) - 1).toNat) ⟨0, 1, rfl, (by omega), (by rfl), (by omega), rfl⟩ (fun gn gσ hI => ?_)
  obtain ⟨sum, i, rfl, hi0, hs0, hs1, rfl⟩ := hI
  refine aw_seq ?_
  refine aw_seq ?_
  by_cases h1 : i < (s.Points.length : Int)
  · have hi : i.toNat < s.Points.length := by omega
    have hi2 : (i - 1).toNat < s.Points.length := by omega
    have hp1 := okS_at ok hi2
    have hp2 := okS_at ok hi
    have hlb := segI_bd hp1 hp2
    refine aw_reg [(6, .dec true)] [0, 3, 4, 11] [] [.ptr false [slPoint false s.Points], I sum, I i, Bv true] [] [i < (s.Points.length : Int)] (by kernel_rfl) hB ⟨h1, trivial⟩ ?_
    refine ae_then ?_
    refine aw_true rfl ?_
    refine aw_skip ?_
    refine ae_then ?_
    refine aw_seq ?_
    refine aw_block ?_
    refine aw_reg [(16, .call [(true, .agg [I ((at_ s.Points ((i - 1).toNat)).X), I ((at_ s.Points ((i - 1).toNat)).Y), I ((at_ s.Points ((i - 1).toNat)).T)]), (true, .agg [I ((at_ s.Points i.toNat).X), I ((at_ s.Points i.toNat).Y), I ((at_ s.Points i.toNat).T)])] true (I (segI (at_ s.Points ((i - 1).toNat)) (at_ s.Points i.toNat))))] [0, 3, 4] [] [.ptr false [slPoint false s.Points], I (sum + (segI (at_ s.Points ((i - 1).toNat)) (at_ s.Points i.toNat))), I i] [] [inR .i64 (i - 1), (0 : Int) ≤ (i - 1) ∧ (i - 1) < (s.Points.length : Int), (0 : Int) ≤ i ∧ i < (s.Points.length : Int), Con Tryd.prog 84 [.agg [I ((at_ s.Points ((i - 1).toNat)).X), I ((at_ s.Points ((i - 1).toNat)).Y), I ((at_ s.Points ((i - 1).toNat)).T)], .agg [I ((at_ s.Points i.toNat).X), I ((at_ s.Points i.toNat).Y), I ((at_ s.Points i.toNat).T)]] true (I (segI (at_ s.Points ((i - 1).toNat)) (at_ s.Points i.toNat))) ∧ ((.agg [I ((at_ s.Points ((i - 1).toNat)).X), I ((at_ s.Points ((i - 1).toNat)).Y), I ((at_ s.Points ((i - 1).toNat)).T)] : AV) = .agg [I ((at_ s.Points ((i - 1).toNat)).X), I ((at_ s.Points ((i - 1).toNat)).Y), I ((at_ s.Points ((i - 1).toNat)).T)]) ∧ ((.agg [I ((at_ s.Points i.toNat).X), I ((at_ s.Points i.toNat).Y), I ((at_ s.Points i.toNat).T)] : AV) = .agg [I ((at_ s.Points i.toNat).X), I ((at_ s.Points i.toNat).Y), I ((at_ s.Points i.toNat).T)]) ∧ True, inR .i64 (sum + (segI (at_ s.Points ((i - 1).toNat)) (at_ s.Points i.toNat)))] (by kernel_rfl) hB ⟨(inR_i64 (by omega) (by omega)), ⟨(by omega), (by omega)⟩, ⟨(by omega), (by omega)⟩, ⟨(l05Length_ok (at_ s.Points ((i - 1).toNat)) (at_ s.Points i.toNat) hp1 hp2), rfl, rfl, trivial⟩, (inR_i64 (by omega) (by omega)), trivial⟩ ?_
    refine ae_block 1 ?_
    refine ae_then ?_
    refine aw_reg [] [0, 3, 4] [] [.ptr false [slPoint false s.Points], I (sum + (segI (at_ s.Points ((i - 1).toNat)) (at_ s.Points i.toNat))), I (i + 1)] [] [inR .i64 (i + 1)] (by kernel_rfl) hB ⟨(inR_i64 (by omega) (by omega)), trivial⟩ ?_
    exact ae_again _ (by omega) ⟨(sum + (segI (at_ s.Points ((i - 1).toNat)) (at_ s.Points i.toNat))), (i + 1), rfl, (by omega), (by rw [sumS_succ hi0.1, ← hs0]), (by omega), rfl⟩
  · have hie : i.toNat = s.Points.length := by omega
    rw [hie] at hs0
    refine aw_reg [(6, .dec false)] [0, 3, 4, 11] [] [.ptr false [slPoint false s.Points], I sum, I i, Bv false] [] [¬ (i < (s.Points.length : Int))] (by kernel_rfl) hB ⟨h1, trivial⟩ ?_
    refine ae_then ?_
    refine aw_false rfl ?_
    refine aw_exit ?_
    refine ae_exit_then ?_
    refine ae_exit_then ?_
    refine ae_exit_same ?_
    refine ae_then ?_
    refine aw_seq ?_
    refine aw_reg [] [2] [] [I sum] [] [] (by kernel_rfl) hB trivial ?_
    refine ae_then ?_
    refine aw_ret ?_
    refine ae_ret hB (I sum) (by kernel_rfl) (.inl (by rw [hs0])) rfl (fun _ => trivial)


theorem revS_1 {xs : List Point} {i : Int} (h : 1 ≤ i) : (revS xs (i + 1).toNat).1 = if (at_ xs i.toNat).X - (at_ xs (i - 1).toNat).X ≠ 0 ∧ (revS xs i.toNat).2 ≠ 0 ∧ ¬ (0 < (at_ xs i.toNat).X - (at_ xs (i - 1).toNat).X ↔ 0 < (revS xs i.toNat).2) then (revS xs i.toNat).1 + 1 else (revS xs i.toNat).1 := by
  have e1 : (i + 1).toNat = i.toNat + 1 := by omega
  have e2 : (i - 1).toNat = i.toNat - 1 := by omega
  have e3 : ¬ i.toNat = 0 := by omega
  rw [e1, e2]; simp only [revS, if_neg e3]
  by_cases h : (at_ xs i.toNat).X - (at_ xs (i.toNat - 1)).X = 0 <;> simp [h]
theorem revS_2 {xs : List Point} {i : Int} (h : 1 ≤ i) : (revS xs (i + 1).toNat).2 = if (at_ xs i.toNat).X - (at_ xs (i - 1).toNat).X = 0 then (revS xs i.toNat).2 else (at_ xs i.toNat).X - (at_ xs (i - 1).toNat).X := by
  have e1 : (i + 1).toNat = i.toNat + 1 := by omega
  have e2 : (i - 1).toNat = i.toNat - 1 := by omega
  have e3 : ¬ i.toNat = 0 := by omega
  rw [e1, e2]; simp only [revS, if_neg e3]
  by_cases h : (at_ xs i.toNat).X - (at_ xs (i.toNat - 1)).X = 0 <;> simp [h]

-- spec.l23Reversals
theorem l23Reversals_ok (s : Stroke) (ok : okStroke' s = true) : Con Tryd.prog 80 [.ptr false [slPoint false s.Points]] true (I ((revS s.Points s.Points.length).1)) := by
  have hln := okS_len ok
  refine fn_ok (fn := Tryd.f80) (nt := 49) Tryd.func80 rfl rfl rfl rfl (by simp [taggedL, tagged, tagPoint]) fun B hB => ?_
  refine aw_lens (x := .ptr false [slPoint false s.Points]) 0 rfl (fun len_s => ?_)
  simp [LenOK, LenL, cPoint, fPoint, slPoint] at len_s
  refine aw_seq ?_
  refine aw_reg [] [0] [] [.ptr false [slPoint false s.Points]] [] [] (by kernel_rfl) hB trivial ?_
  refine ae_then ?_
  refine aw_seq ?_
  refine aw_reg [] [0, 3] [] [.ptr false [slPoint false s.Points], I 0] [] [] (by kernel_rfl) hB trivial ?_
  refine ae_then ?_
  refine aw_seq ?_
  refine aw_reg [] [0, 3, 4] [] [.ptr false [slPoint false s.Points], I 0, I 0] [] [] (by kernel_rfl) hB trivial ?_
  refine ae_then ?_
  refine aw_seq ?_
  refine aw_seq ?_
  refine aw_reg [] [0, 3, 4, 5] [] [.ptr false [slPoint false s.Points], I 0, I 0, I 1] [] [] (by kernel_rfl) hB trivial ?_
  refine ae_then ?_
  refine aw_block ?_
  refine aw_loop (fun gn gσ => ∃ (n : Int) (last : Int) (i : Int), gn = ((s.Points.length : Int) - i).toNat ∧ (1 ≤ i ∧ i ≤ (s.Points.length : Int)) ∧ (n = (revS s.Points i.toNat).1) ∧ (last = (revS s.Points i.toNat).2) ∧ (0 ≤ n ∧ n ≤ i) ∧ gσ = mkS [(0, .ptr false [slPoint false s.Points]), (3, I n), (4, I last), (5, I i)] []) (((s.Points.length : Int) - 1).toNat) ⟨0, 0, 1, rfl, (by omega), (by rfl), (by rfl), (by omega), rfl⟩ (fun gn gσ hI => ?_)
  obtain ⟨n, last, i, rfl, hi0, hr1, hr2, hr3, rfl⟩ := hI
  refine aw_seq ?_
  refine aw_seq ?_
  by_cases h1 : i < (s.Points.length : Int)
  · have hi : i.toNat < s.Points.length := by omega
    have hi2 : (i - 1).toNat < s.Points.length := by omega
    have hp1 := okP_iff.1 (okS_at ok hi2)
    have hp2 := okP_iff.1 (okS_at ok hi)
    refine aw_reg [(6, .dec true)] [0, 3, 4, 5, 13] [] [.ptr false [slPoint false s.Points], I n, I last, I i, Bv true] [] [i < (s.Points.length : Int)] (by kernel_rfl) hB ⟨h1, trivial⟩ ?_
    refine ae_then ?_
    refine aw_true rfl ?_
    refine aw_skip ?_
    refine ae_then ?_
    refine aw_seq ?_
    refine aw_block ?_
    refine aw_seq ?_
    refine aw_reg [] [0, 3, 4, 5, 6] [] [.ptr false [slPoint false s.Points], I n, I last, I i, I (((at_ s.Points i.toNat).X) - ((at_ s.Points ((i - 1).toNat)).X))] [] [(0 : Int) ≤ i ∧ i < (s.Points.length : Int), inR .i64 (i - 1), (0 : Int) ≤ (i - 1) ∧ (i - 1) < (s.Points.length : Int), inR .i64 (((at_ s.Points i.toNat).X) - ((at_ s.Points ((i - 1).toNat)).X))] (by kernel_rfl) hB ⟨⟨(by omega), (by omega)⟩, (inR_i64 (by omega) (by omega)), ⟨(by omega), (by omega)⟩, (inR_i64 (by omega) (by omega)), trivial⟩ ?_
    refine ae_then ?_
    refine aw_seq ?_
    refine aw_seq ?_
    by_cases h2 : (((at_ s.Points i.toNat).X) - ((at_ s.Points ((i - 1).toNat)).X)) = 0
    · refine aw_reg [(1, .dec true)] [0, 3, 4, 5, 6, 35] [] [.ptr false [slPoint false s.Points], I n, I last, I i, I (((at_ s.Points i.toNat).X) - ((at_ s.Points ((i - 1).toNat)).X)), Bv true] [] [(((at_ s.Points i.toNat).X) - ((at_ s.Points ((i - 1).toNat)).X)) = 0] (by kernel_rfl) hB ⟨h2, trivial⟩ ?_
      refine ae_then ?_
      refine aw_true rfl ?_
      refine aw_exit ?_
      refine ae_exit_then ?_
      refine ae_exit_same ?_
      refine ae_then ?_
      refine aw_reg [] [0, 3, 4, 5] [] [.ptr false [slPoint false s.Points], I n, I last, I (i + 1)] [] [inR .i64 (i + 1)] (by kernel_rfl) hB ⟨(inR_i64 (by omega) (by omega)), trivial⟩ ?_
      exact ae_again _ (by omega) ⟨n, last, (i + 1), rfl, (by omega), (by rw [revS_1 hi0.1, ← hr1, ← hr2]; omega), (by rw [revS_2 hi0.1, ← hr2]; omega), (by omega), rfl⟩
    · refine aw_reg [(1, .dec false)] [0, 3, 4, 5, 6, 35] [] [.ptr false [slPoint false s.Points], I n, I last, I i, I (((at_ s.Points i.toNat).X) - ((at_ s.Points ((i - 1).toNat)).X)), Bv false] [] [¬ ((((at_ s.Points i.toNat).X) - ((at_ s.Points ((i - 1).toNat)).X)) = 0)] (by kernel_rfl) hB ⟨h2, trivial⟩ ?_
      refine ae_then ?_
      refine aw_false rfl ?_
      refine aw_skip ?_
      refine ae_then ?_
      refine aw_seq ?_
      refine aw_seq ?_
      by_cases h3 : last = 0
      · refine aw_reg [(1, .dec false)] [0, 3, 5, 6, 44] [] [.ptr false [slPoint false s.Points], I n, I i, I (((at_ s.Points i.toNat).X) - ((at_ s.Points ((i - 1).toNat)).X)), Bv false] [] [¬ (last ≠ 0)] (by kernel_rfl) hB ⟨(fun hq => hq h3), trivial⟩ ?_
        refine ae_then ?_
        refine aw_false rfl ?_
        refine aw_skip ?_
        refine ae_then ?_
        refine aw_reg [] [0, 3, 4, 5] [] [.ptr false [slPoint false s.Points], I n, I (((at_ s.Points i.toNat).X) - ((at_ s.Points ((i - 1).toNat)).X)), I i] [] [] (by kernel_rfl) hB trivial ?_
        refine ae_block 1 ?_
        refine ae_then ?_
        refine aw_reg [] [0, 3, 4, 5] [] [.ptr false [slPoint false s.Points], I n, I (((at_ s.Points i.toNat).X) - ((at_ s.Points ((i - 1).toNat)).X)), I (i + 1)] [] [inR .i64 (i + 1)] (by kernel_rfl) hB ⟨(inR_i64 (by omega) (by omega)), trivial⟩ ?_
        exact ae_again _ (by omega) ⟨n, (((at_ s.Points i.toNat).X) - ((at_ s.Points ((i - 1).toNat)).X)), (i + 1), rfl, (by omega), (by rw [revS_1 hi0.1, ← hr1, ← hr2]; omega), (by rw [revS_2 hi0.1, ← hr2]; omega), (by omega), rfl⟩
      · by_cases h4 : 0 < (((at_ s.Points i.toNat).X) - ((at_ s.Points ((i - 1).toNat)).X))
        · by_cases h5 : 0 < last
          · refine aw_reg [(1, .dec true), (4, .dec true), (6, .dec true)] [0, 3, 5, 6, 44] [] [.ptr false [slPoint false s.Points], I n, I i, I (((at_ s.Points i.toNat).X) - ((at_ s.Points ((i - 1).toNat)).X)), Bv false] [] [last ≠ 0, 0 < (((at_ s.Points i.toNat).X) - ((at_ s.Points ((i - 1).toNat)).X)), 0 < last] (by kernel_rfl) hB ⟨h3, h4, h5, trivial⟩ ?_
            refine ae_then ?_
            refine aw_false rfl ?_
            refine aw_skip ?_
            refine ae_then ?_
            refine aw_reg [] [0, 3, 4, 5] [] [.ptr false [slPoint false s.Points], I n, I (((at_ s.Points i.toNat).X) - ((at_ s.Points ((i - 1).toNat)).X)), I i] [] [] (by kernel_rfl) hB trivial ?_
            refine ae_block 1 ?_
            refine ae_then ?_
            refine aw_reg [] [0, 3, 4, 5] [] [.ptr false [slPoint false s.Points], I n, I (((at_ s.Points i.toNat).X) - ((at_ s.Points ((i - 1).toNat)).X)), I (i + 1)] [] [inR .i64 (i + 1)] (by kernel_rfl) hB ⟨(inR_i64 (by omega) (by omega)), trivial⟩ ?_
            exact ae_again _ (by omega) ⟨n, (((at_ s.Points i.toNat).X) - ((at_ s.Points ((i - 1).toNat)).X)), (i + 1), rfl, (by omega), (by rw [revS_1 hi0.1, ← hr1, ← hr2]; omega), (by rw [revS_2 hi0.1, ← hr2]; omega), (by omega), rfl⟩
          · refine aw_reg [(1, .dec true), (4, .dec true), (6, .dec false)] [0, 3, 5, 6, 44] [] [.ptr false [slPoint false s.Points], I n, I i, I (((at_ s.Points i.toNat).X) - ((at_ s.Points ((i - 1).toNat)).X)), Bv true] [] [last ≠ 0, 0 < (((at_ s.Points i.toNat).X) - ((at_ s.Points ((i - 1).toNat)).X)), ¬ (0 < last)] (by kernel_rfl) hB ⟨h3, h4, h5, trivial⟩ ?_
            refine ae_then ?_
            refine aw_true rfl ?_
            refine aw_reg [] [0, 3, 5, 6] [] [.ptr false [slPoint false s.Points], I (n + 1), I i, I (((at_ s.Points i.toNat).X) - ((at_ s.Points ((i - 1).toNat)).X))] [] [inR .i64 (n + 1)] (by kernel_rfl) hB ⟨(inR_i64 (by omega) (by omega)), trivial⟩ ?_
            refine ae_then ?_
            refine aw_reg [] [0, 3, 4, 5] [] [.ptr false [slPoint false s.Points], I (n + 1), I (((at_ s.Points i.toNat).X) - ((at_ s.Points ((i - 1).toNat)).X)), I i] [] [] (by kernel_rfl) hB trivial ?_
            refine ae_block 1 ?_
            refine ae_then ?_
            refine aw_reg [] [0, 3, 4, 5] [] [.ptr false [slPoint false s.Points], I (n + 1), I (((at_ s.Points i.toNat).X) - ((at_ s.Points ((i - 1).toNat)).X)), I (i + 1)] [] [inR .i64 (i + 1)] (by kernel_rfl) hB ⟨(inR_i64 (by omega) (by omega)), trivial⟩ ?_
            exact ae_again _ (by omega) ⟨(n + 1), (((at_ s.Points i.toNat).X) - ((at_ s.Points ((i - 1).toNat)).X)), (i + 1), rfl, (by omega), (by rw [revS_1 hi0.1, ← hr1, ← hr2]; omega), (by rw [revS_2 hi0.1, ← hr2]; omega), (by omega), rfl⟩
        · by_cases h6 : 0 < last
          · refine aw_reg [(1, .dec true), (4, .dec false), (6, .dec true)] [0, 3, 5, 6, 44] [] [.ptr false [slPoint false s.Points], I n, I i, I (((at_ s.Points i.toNat).X) - ((at_ s.Points ((i - 1).toNat)).X)), Bv true] [] [last ≠ 0, ¬ (0 < (((at_ s.Points i.toNat).X) - ((at_ s.Points ((i - 1).toNat)).X))), 0 < last] (by kernel_rfl) hB ⟨h3, h4, h6, trivial⟩ ?_
            refine ae_then ?_
            refine aw_true rfl ?_
            refine aw_reg [] [0, 3, 5, 6] [] [.ptr false [slPoint false s.Points], I (n + 1), I i, I (((at_ s.Points i.toNat).X) - ((at_ s.Points ((i - 1).toNat)).X))] [] [inR .i64 (n + 1)] (by kernel_rfl) hB ⟨(inR_i64 (by omega) (by omega)), trivial⟩ ?_
            refine ae_then ?_
            refine aw_reg [] [0, 3, 4, 5] [] [.ptr false [slPoint false s.Points], I (n + 1), I (((at_ s.Points i.toNat).X) - ((at_ s.Points ((i - 1).toNat)).X)), I i] [] [] (by kernel_rfl) hB trivial ?_
            refine ae_block 1 ?_
            refine ae_then ?_
            refine aw_reg [] [0, 3, 4, 5] [] [.ptr false [slPoint false s.Points], I (n + 1), I (((at_ s.Points i.toNat).X) - ((at_ s.Points ((i - 1).toNat)).X)), I (i + 1)] [] [inR .i64 (i + 1)] (by kernel_rfl) hB ⟨(inR_i64 (by omega) (by omega)), trivial⟩ ?_
            exact ae_again _ (by omega) ⟨(n + 1), (((at_ s.Points i.toNat).X) - ((at_ s.Points ((i - 1).toNat)).X)), (i + 1), rfl, (by omega), (by rw [revS_1 hi0.1, ← hr1, ← hr2]; omega), (by rw [revS_2 hi0.1, ← hr2]; omega), (by omega), rfl⟩
          · refine aw_reg [(1, .dec true), (4, .dec false), (6, .dec false)] [0, 3, 5, 6, 44] [] [.ptr false [slPoint false s.Points], I n, I i, I (((at_ s.Points i.toNat).X) - ((at_ s.Points ((i - 1).toNat)).X)), Bv false] [] [last ≠ 0, ¬ (0 < (((at_ s.Points i.toNat).X) - ((at_ s.Points ((i - 1).toNat)).X))), ¬ (0 < last)] (by kernel_rfl) hB ⟨h3, h4, h6, trivial⟩ ?_
            refine ae_then ?_
            refine aw_false rfl ?_
            refine aw_skip ?_
            refine ae_then ?_
            refine aw_reg [] [0, 3, 4, 5] [] [.ptr false [slPoint false s.Points], I n, I (((at_ s.Points i.toNat).X) - ((at_ s.Points ((i - 1).toNat)).X)), I i] [] [] (by kernel_rfl) hB trivial ?_
            refine ae_block 1 ?_
            refine ae_then ?_
            refine aw_reg [] [0, 3, 4, 5] [] [.ptr false [slPoint false s.Points], I n, I (((at_ s.Points i.toNat).X) - ((at_ s.Points ((i - 1).toNat)).X)), I (i + 1)] [] [inR .i64 (i + 1)] (by kernel_rfl) hB ⟨(inR_i64 (by omega) (by omega)), trivial⟩ ?_
            exact ae_again _ (by omega) ⟨n, (((at_ s.Points i.toNat).X) - ((at_ s.Points ((i - 1).toNat)).X)), (i + 1), rfl, (by omega), (by rw [revS_1 hi0.1, ← hr1, ← hr2]; omega), (by rw [revS_2 hi0.1, ← hr2]; omega), (by omega), rfl⟩
  · have hie : i.toNat = s.Points.length := by omega
    rw [hie] at hr1
    refine aw_reg [(6, .dec false)] [0, 3, 4, 5, 13] [] [.ptr false [slPoint false s.Points], I n, I last, I i, Bv false] [] [¬ (i < (s.Points.length : Int))] (by kernel_rfl) hB ⟨h1, trivial⟩ ?_
    refine ae_then ?_
    refine aw_false rfl ?_
    refine aw_exit ?_
    refine ae_exit_then ?_
    refine ae_exit_then ?_
    refine ae_exit_same ?_
    refine ae_then ?_
    refine aw_seq ?_
    refine aw_reg [] [2] [] [I n] [] [] (by kernel_rfl) hB trivial ?_
    refine ae_then ?_
    refine aw_ret ?_
    refine ae_ret hB (I n) (by kernel_rfl) (.inl (by rw [hr1])) rfl (fun _ => trivial)


-- spec.l05Size
theorem l05Size_ok (n : Int) (hn : -9223372036854775807 ≤ n ∧ n ≤ 9223372036854775807) : Con Tryd.prog 83 [I n] true (I (n.natAbs : Int)) := by
  refine fn_ok (fn := Tryd.f83) (nt := 8) Tryd.func83 rfl rfl rfl rfl (by simp [taggedL, tagged]) fun B hB => ?_
  refine aw_seq ?_
  refine aw_reg [] [0] [] [I n] [] [] (by kernel_rfl) hB trivial ?_
  refine ae_then ?_
  refine aw_seq ?_
  refine aw_seq ?_
  by_cases h1 : n < 0
  · refine aw_reg [(1, .dec true)] [0, 4] [] [I n, Bv true] [] [n < 0] (by kernel_rfl) hB ⟨h1, trivial⟩ ?_
    refine ae_then ?_
    refine aw_true rfl ?_
    refine aw_seq ?_
    refine aw_reg [] [2] [] [I (-n)] [] [inR .i64 (-n)] (by kernel_rfl) hB ⟨(inR_i64 (by omega) (by omega)), trivial⟩ ?_
    refine ae_then ?_
    refine aw_ret ?_
    refine ae_ret_then ?_
    refine ae_ret hB (I (-n)) (by kernel_rfl) (.inl (by refine congrArg I ?_; omega)) rfl (fun _ => trivial)
  · refine aw_reg [(1, .dec false)] [0, 4] [] [I n, Bv false] [] [¬ (n < 0)] (by kernel_rfl) hB ⟨h1, trivial⟩ ?_
    refine ae_then ?_
    refine aw_false rfl ?_
    refine aw_skip ?_
    refine ae_then ?_
    refine aw_seq ?_
    refine aw_reg [] [2] [] [I n] [] [] (by kernel_rfl) hB trivial ?_
    refine ae_then ?_
    refine aw_ret ?_
    refine ae_ret hB (I n) (by kernel_rfl) (.inl (by refine congrArg I ?_; omega)) rfl (fun _ => trivial)


/-- The direction of a difference that is not zero. -/
def dirI (dx dy : Int) : Int :=
  if ((dx.natAbs : Int) + (dy.natAbs : Int)) * ((dx.natAbs : Int) + (dy.natAbs : Int)) ≤ (2 * (dx.natAbs : Int)) * (dx.natAbs : Int) then (if 0 < dx then 0 else 4)
  else if ((dx.natAbs : Int) + (dy.natAbs : Int)) * ((dx.natAbs : Int) + (dy.natAbs : Int)) ≤ (2 * (dy.natAbs : Int)) * (dy.natAbs : Int) then (if 0 < dy then 2 else 6)
  else if 0 < dx ∧ 0 < dy then 1 else if dx < 0 ∧ 0 < dy then 3 else if dx < 0 then 5 else 7
theorem dirI_bd (dx dy : Int) : 0 ≤ dirI dx dy ∧ dirI dx dy ≤ 7 := by unfold dirI; (repeat' split) <;> omega
theorem two_sq {x : Int} (h : 0 ≤ x) (h2 : x ≤ 4095) : 0 ≤ (2 * x) * x ∧ (2 * x) * x ≤ 33538050 := by
  have := sq_bd (x := x) (B := 4095) (by omega) h2
  rw [Int.mul_assoc]; omega
theorem dir_zero {dx dy : Int} (h : dx = 0) : ((dx.natAbs : Int) + (dy.natAbs : Int)) * ((dx.natAbs : Int) + (dy.natAbs : Int)) ≤ (2 * (dy.natAbs : Int)) * (dy.natAbs : Int) := by
  subst h
  have := sq_bd (x := (dy.natAbs : Int)) (B := (dy.natAbs : Int)) (by omega) (by omega)
  rw [Int.mul_assoc]; simp at this ⊢; omega

-- spec.l05Sector
theorem l05Sector_ok (dx : Int) (dy : Int) (hd : (-4095 ≤ dx ∧ dx ≤ 4095) ∧ -4095 ≤ dy ∧ dy ≤ 4095) : Con Tryd.prog 96 [I dx, I dy] true (I (dirI dx dy)) := by
  have hx2 := two_sq (x := (dx.natAbs : Int)) (by omega) (by omega)
  have hy2 := two_sq (x := (dy.natAbs : Int)) (by omega) (by omega)
  have hs2 := sq_bd (x := (dx.natAbs : Int) + (dy.natAbs : Int)) (B := 8190) (by omega) (by omega)
  have hz := @dir_zero dx dy
  refine fn_ok (fn := Tryd.f96) (nt := 54) Tryd.func96 rfl rfl rfl rfl (by simp [taggedL, tagged]) fun B hB => ?_
  refine aw_seq ?_
  refine aw_reg [] [0, 1] [] [I dx, I dy] [] [] (by kernel_rfl) hB trivial ?_
  refine ae_then ?_
  refine aw_seq ?_
  refine aw_reg [(1, .call [(true, I dx)] true (I (dx.natAbs : Int)))] [0, 1, 5] [] [I dx, I dy, I (dx.natAbs : Int)] [] [Con Tryd.prog 83 [I dx] true (I (dx.natAbs : Int)) ∧ ((I dx : AV) = I dx) ∧ True] (by kernel_rfl) hB ⟨⟨(l05Size_ok dx (by omega)), rfl, trivial⟩, trivial⟩ ?_
  refine ae_then ?_
  refine aw_seq ?_
  refine aw_reg [(1, .call [(true, I dy)] true (I (dy.natAbs : Int)))] [0, 1, 5, 6] [] [I dx, I dy, I (dx.natAbs : Int), I (dy.natAbs : Int)] [] [Con Tryd.prog 83 [I dy] true (I (dy.natAbs : Int)) ∧ ((I dy : AV) = I dy) ∧ True] (by kernel_rfl) hB ⟨⟨(l05Size_ok dy (by omega)), rfl, trivial⟩, trivial⟩ ?_
  refine ae_then ?_
  refine aw_seq ?_
  refine aw_reg [] [0, 1, 5, 6, 7] [] [I dx, I dy, I (dx.natAbs : Int), I (dy.natAbs : Int), I (((dx.natAbs : Int) + (dy.natAbs : Int)) * ((dx.natAbs : Int) + (dy.natAbs : Int)))] [] [inR .i64 ((dx.natAbs : Int) + (dy.natAbs : Int)), inR .i64 ((dx.natAbs : Int) + (dy.natAbs : Int)), inR .i64 (((dx.natAbs : Int) + (dy.natAbs : Int)) * ((dx.natAbs : Int) + (dy.natAbs : Int)))] (by kernel_rfl) hB ⟨(inR_i64 (by omega) (by omega)), (inR_i64 (by omega) (by omega)), (inR_i64 (by omega) (by omega)), trivial⟩ ?_
  refine ae_then ?_
  refine aw_seq ?_
  refine aw_block ?_
  refine aw_seq ?_
  by_cases h1 : (((dx.natAbs : Int) + (dy.natAbs : Int)) * ((dx.natAbs : Int) + (dy.natAbs : Int))) ≤ ((2 * (dx.natAbs : Int)) * (dx.natAbs : Int))
  · refine aw_reg [(5, .dec true)] [0, 1, 6, 7, 19] [] [I dx, I dy, I (dy.natAbs : Int), I (((dx.natAbs : Int) + (dy.natAbs : Int)) * ((dx.natAbs : Int) + (dy.natAbs : Int))), Bv true] [] [inR .i64 (2 * (dx.natAbs : Int)), inR .i64 ((2 * (dx.natAbs : Int)) * (dx.natAbs : Int)), (((dx.natAbs : Int) + (dy.natAbs : Int)) * ((dx.natAbs : Int) + (dy.natAbs : Int))) ≤ ((2 * (dx.natAbs : Int)) * (dx.natAbs : Int))] (by kernel_rfl) hB ⟨(inR_i64 (by omega) (by omega)), (inR_i64 (by omega) (by omega)), h1, trivial⟩ ?_
    refine ae_then ?_
    refine aw_true rfl ?_
    refine aw_seq ?_
    refine aw_seq ?_
    by_cases h2 : 0 < dx
    · refine aw_reg [(1, .dec true)] [27] [] [Bv true] [] [0 < dx] (by kernel_rfl) hB ⟨h2, trivial⟩ ?_
      refine ae_then ?_
      refine aw_true rfl ?_
      refine aw_seq ?_
      refine aw_reg [] [4] [] [I 0] [] [] (by kernel_rfl) hB trivial ?_
      refine ae_then ?_
      refine aw_ret ?_
      refine ae_ret_then (ae_ret_block (ae_ret_then ?_))
      refine ae_ret hB (I 0) (by kernel_rfl) (.inl (by refine congrArg I ?_; unfold dirI; (repeat' split) <;> first | rfl | omega)) rfl (fun _ => trivial)
    · refine aw_reg [(1, .dec false)] [27] [] [Bv false] [] [¬ (0 < dx)] (by kernel_rfl) hB ⟨h2, trivial⟩ ?_
      refine ae_then ?_
      refine aw_false rfl ?_
      refine aw_skip ?_
      refine ae_then ?_
      refine aw_seq ?_
      refine aw_reg [] [4] [] [I 4] [] [] (by kernel_rfl) hB trivial ?_
      refine ae_then ?_
      refine aw_ret ?_
      refine ae_ret_block (ae_ret_then ?_)
      refine ae_ret hB (I 4) (by kernel_rfl) (.inl (by refine congrArg I ?_; unfold dirI; (repeat' split) <;> first | rfl | omega)) rfl (fun _ => trivial)
  · refine aw_reg [(5, .dec false)] [0, 1, 6, 7, 19] [] [I dx, I dy, I (dy.natAbs : Int), I (((dx.natAbs : Int) + (dy.natAbs : Int)) * ((dx.natAbs : Int) + (dy.natAbs : Int))), Bv false] [] [inR .i64 (2 * (dx.natAbs : Int)), inR .i64 ((2 * (dx.natAbs : Int)) * (dx.natAbs : Int)), ¬ ((((dx.natAbs : Int) + (dy.natAbs : Int)) * ((dx.natAbs : Int) + (dy.natAbs : Int))) ≤ ((2 * (dx.natAbs : Int)) * (dx.natAbs : Int)))] (by kernel_rfl) hB ⟨(inR_i64 (by omega) (by omega)), (inR_i64 (by omega) (by omega)), h1, trivial⟩ ?_
    refine ae_then ?_
    refine aw_false rfl ?_
    refine aw_seq ?_
    by_cases h3 : (((dx.natAbs : Int) + (dy.natAbs : Int)) * ((dx.natAbs : Int) + (dy.natAbs : Int))) ≤ ((2 * (dy.natAbs : Int)) * (dy.natAbs : Int))
    · refine aw_reg [(5, .dec true)] [0, 1, 28] [] [I dx, I dy, Bv true] [] [inR .i64 (2 * (dy.natAbs : Int)), inR .i64 ((2 * (dy.natAbs : Int)) * (dy.natAbs : Int)), (((dx.natAbs : Int) + (dy.natAbs : Int)) * ((dx.natAbs : Int) + (dy.natAbs : Int))) ≤ ((2 * (dy.natAbs : Int)) * (dy.natAbs : Int))] (by kernel_rfl) hB ⟨(inR_i64 (by omega) (by omega)), (inR_i64 (by omega) (by omega)), h3, trivial⟩ ?_
      refine ae_then ?_
      refine aw_true rfl ?_
      refine aw_seq ?_
      refine aw_seq ?_
      by_cases h4 : 0 < dy
      · refine aw_reg [(1, .dec true)] [36] [] [Bv true] [] [0 < dy] (by kernel_rfl) hB ⟨h4, trivial⟩ ?_
        refine ae_then ?_
        refine aw_true rfl ?_
        refine aw_seq ?_
        refine aw_reg [] [4] [] [I 2] [] [] (by kernel_rfl) hB trivial ?_
        refine ae_then ?_
        refine aw_ret ?_
        refine ae_ret_then (ae_ret_block (ae_ret_then ?_))
        refine ae_ret hB (I 2) (by kernel_rfl) (.inl (by refine congrArg I ?_; unfold dirI; (repeat' split) <;> first | rfl | omega)) rfl (fun _ => trivial)
      · refine aw_reg [(1, .dec false)] [36] [] [Bv false] [] [¬ (0 < dy)] (by kernel_rfl) hB ⟨h4, trivial⟩ ?_
        refine ae_then ?_
        refine aw_false rfl ?_
        refine aw_skip ?_
        refine ae_then ?_
        refine aw_seq ?_
        refine aw_reg [] [4] [] [I 6] [] [] (by kernel_rfl) hB trivial ?_
        refine ae_then ?_
        refine aw_ret ?_
        refine ae_ret_block (ae_ret_then ?_)
        refine ae_ret hB (I 6) (by kernel_rfl) (.inl (by refine congrArg I ?_; unfold dirI; (repeat' split) <;> first | rfl | omega)) rfl (fun _ => trivial)
    · refine aw_reg [(5, .dec false)] [0, 1, 28] [] [I dx, I dy, Bv false] [] [inR .i64 (2 * (dy.natAbs : Int)), inR .i64 ((2 * (dy.natAbs : Int)) * (dy.natAbs : Int)), ¬ ((((dx.natAbs : Int) + (dy.natAbs : Int)) * ((dx.natAbs : Int) + (dy.natAbs : Int))) ≤ ((2 * (dy.natAbs : Int)) * (dy.natAbs : Int)))] (by kernel_rfl) hB ⟨(inR_i64 (by omega) (by omega)), (inR_i64 (by omega) (by omega)), h3, trivial⟩ ?_
      refine ae_then ?_
      refine aw_false rfl ?_
      refine aw_seq ?_
      by_cases h5 : 0 < dx
      · by_cases h6 : 0 < dy
        · refine aw_reg [(1, .dec true), (4, .dec true)] [0, 1, 37] [] [I dx, I dy, Bv true] [] [0 < dx, 0 < dy] (by kernel_rfl) hB ⟨h5, h6, trivial⟩ ?_
          refine ae_then ?_
          refine aw_true rfl ?_
          refine aw_seq ?_
          refine aw_reg [] [4] [] [I 1] [] [] (by kernel_rfl) hB trivial ?_
          refine ae_then ?_
          refine aw_ret ?_
          refine ae_ret_block (ae_ret_then ?_)
          refine ae_ret hB (I 1) (by kernel_rfl) (.inl (by refine congrArg I ?_; unfold dirI; (repeat' split) <;> first | rfl | omega)) rfl (fun _ => trivial)
        · refine aw_reg [(1, .dec true), (4, .dec false)] [0, 1, 37] [] [I dx, I dy, Bv false] [] [0 < dx, ¬ (0 < dy)] (by kernel_rfl) hB ⟨h5, h6, trivial⟩ ?_
          refine ae_then ?_
          refine aw_false rfl ?_
          refine aw_seq ?_
          by_cases h7 : dx < 0
          · refine aw_reg [(1, .dec true), (4, .dec false)] [0, 44] [] [I dx, Bv false] [] [dx < 0, ¬ (0 < dy)] (by kernel_rfl) hB ⟨h7, h6, trivial⟩ ?_
            refine ae_then ?_
            refine aw_false rfl ?_
            refine aw_seq ?_
            refine aw_reg [(1, .dec true)] [51] [] [Bv true] [] [dx < 0] (by kernel_rfl) hB ⟨h7, trivial⟩ ?_
            refine ae_then ?_
            refine aw_true rfl ?_
            refine aw_seq ?_
            refine aw_reg [] [4] [] [I 5] [] [] (by kernel_rfl) hB trivial ?_
            refine ae_then ?_
            refine aw_ret ?_
            refine ae_ret_block (ae_ret_then ?_)
            refine ae_ret hB (I 5) (by kernel_rfl) (.inl (by refine congrArg I ?_; unfold dirI; (repeat' split) <;> first | rfl | omega)) rfl (fun _ => trivial)
          · refine aw_reg [(1, .dec false)] [0, 44] [] [I dx, Bv false] [] [¬ (dx < 0)] (by kernel_rfl) hB ⟨h7, trivial⟩ ?_
            refine ae_then ?_
            refine aw_false rfl ?_
            refine aw_seq ?_
            refine aw_reg [(1, .dec false)] [51] [] [Bv false] [] [¬ (dx < 0)] (by kernel_rfl) hB ⟨h7, trivial⟩ ?_
            refine ae_then ?_
            refine aw_false rfl ?_
            refine aw_skip ?_
            refine ae_block 0 ?_
            refine ae_then ?_
            refine aw_seq ?_
            refine aw_reg [] [4] [] [I 7] [] [] (by kernel_rfl) hB trivial ?_
            refine ae_then ?_
            refine aw_ret ?_
            refine ae_ret hB (I 7) (by kernel_rfl) (.inl (by refine congrArg I ?_; unfold dirI; (repeat' split) <;> first | rfl | omega)) rfl (fun _ => trivial)
      · refine aw_reg [(1, .dec false)] [0, 1, 37] [] [I dx, I dy, Bv false] [] [¬ (0 < dx)] (by kernel_rfl) hB ⟨h5, trivial⟩ ?_
        refine ae_then ?_
        refine aw_false rfl ?_
        refine aw_seq ?_
        by_cases h8 : dx < 0
        · by_cases h9 : 0 < dy
          · refine aw_reg [(1, .dec true), (4, .dec true)] [0, 44] [] [I dx, Bv true] [] [dx < 0, 0 < dy] (by kernel_rfl) hB ⟨h8, h9, trivial⟩ ?_
            refine ae_then ?_
            refine aw_true rfl ?_
            refine aw_seq ?_
            refine aw_reg [] [4] [] [I 3] [] [] (by kernel_rfl) hB trivial ?_
            refine ae_then ?_
            refine aw_ret ?_
            refine ae_ret_block (ae_ret_then ?_)
            refine ae_ret hB (I 3) (by kernel_rfl) (.inl (by refine congrArg I ?_; unfold dirI; (repeat' split) <;> first | rfl | omega)) rfl (fun _ => trivial)
          · refine aw_reg [(1, .dec true), (4, .dec false)] [0, 44] [] [I dx, Bv false] [] [dx < 0, ¬ (0 < dy)] (by kernel_rfl) hB ⟨h8, h9, trivial⟩ ?_
            refine ae_then ?_
            refine aw_false rfl ?_
            refine aw_seq ?_
            refine aw_reg [(1, .dec true)] [51] [] [Bv true] [] [dx < 0] (by kernel_rfl) hB ⟨h8, trivial⟩ ?_
            refine ae_then ?_
            refine aw_true rfl ?_
            refine aw_seq ?_
            refine aw_reg [] [4] [] [I 5] [] [] (by kernel_rfl) hB trivial ?_
            refine ae_then ?_
            refine aw_ret ?_
            refine ae_ret_block (ae_ret_then ?_)
            refine ae_ret hB (I 5) (by kernel_rfl) (.inl (by refine congrArg I ?_; unfold dirI; (repeat' split) <;> first | rfl | omega)) rfl (fun _ => trivial)
        · refine aw_reg [(1, .dec false)] [0, 44] [] [I dx, Bv false] [] [¬ (dx < 0)] (by kernel_rfl) hB ⟨h8, trivial⟩ ?_
          refine ae_then ?_
          refine aw_false rfl ?_
          refine aw_seq ?_
          refine aw_reg [(1, .dec false)] [51] [] [Bv false] [] [¬ (dx < 0)] (by kernel_rfl) hB ⟨h8, trivial⟩ ?_
          refine ae_then ?_
          refine aw_false rfl ?_
          refine aw_skip ?_
          refine ae_block 0 ?_
          refine ae_then ?_
          refine aw_seq ?_
          refine aw_reg [] [4] [] [I 7] [] [] (by kernel_rfl) hB trivial ?_
          refine ae_then ?_
          refine aw_ret ?_
          refine ae_ret hB (I 7) (by kernel_rfl) (.inl (by refine congrArg I ?_; unfold dirI; (repeat' split) <;> first | rfl | omega)) rfl (fun _ => trivial)


/-- The directions of the segments that have a length and end ahead of the k-th point. -/
def dirsL (xs : List Point) : Nat → List Int
  | 0 => []
  | k + 1 => if k = 0 ∨ ((at_ xs k).X - (at_ xs (k - 1)).X = 0 ∧ (at_ xs k).Y - (at_ xs (k - 1)).Y = 0) then dirsL xs k
    else dirsL xs k ++ [dirI ((at_ xs k).X - (at_ xs (k - 1)).X) ((at_ xs k).Y - (at_ xs (k - 1)).Y)]
theorem dirsL_len (xs : List Point) : ∀ k : Nat, (dirsL xs k).length ≤ k
  | 0 => Nat.le_refl _
  | k + 1 => by
    have := dirsL_len xs k
    unfold dirsL
    split
    · omega
    · simp; omega
theorem dirsL_one (xs : List Point) : dirsL xs 1 = [] := by simp [dirsL]
theorem dirsL_same {xs : List Point} {i : Int} (h : 1 ≤ i) (hx : (at_ xs i.toNat).X - (at_ xs (i - 1).toNat).X = 0) (hy : (at_ xs i.toNat).Y - (at_ xs (i - 1).toNat).Y = 0) : dirsL xs (i + 1).toNat = dirsL xs i.toNat := by
  have e1 : (i + 1).toNat = i.toNat + 1 := by omega
  have e2 : (i - 1).toNat = i.toNat - 1 := by omega
  rw [e2] at hx hy
  rw [e1]
  conv => lhs; unfold dirsL
  rw [if_pos (.inr ⟨hx, hy⟩)]
theorem dirsL_more {xs : List Point} {i : Int} (h : 1 ≤ i) (hn : ¬ ((at_ xs i.toNat).X - (at_ xs (i - 1).toNat).X = 0 ∧ (at_ xs i.toNat).Y - (at_ xs (i - 1).toNat).Y = 0)) :
    dirsL xs (i + 1).toNat = dirsL xs i.toNat ++ [dirI ((at_ xs i.toNat).X - (at_ xs (i - 1).toNat).X) ((at_ xs i.toNat).Y - (at_ xs (i - 1).toNat).Y)] := by
  have e1 : (i + 1).toNat = i.toNat + 1 := by omega
  have e2 : (i - 1).toNat = i.toNat - 1 := by omega
  rw [e2] at hn ⊢
  rw [e1]
  conv => lhs; unfold dirsL
  rw [if_neg (by rintro (h' | h'); omega; exact hn h')]

-- spec.l05Directions
theorem l05Directions_ok (s : Stroke) (ok : okStroke' s = true) : Con Tryd.prog 81 [.ptr false [slPoint false s.Points]] true (slI true (dirsL s.Points s.Points.length)) := by
  have hln := okS_len ok
  refine fn_ok (fn := Tryd.f81) (nt := 66) Tryd.func81 rfl rfl rfl rfl (by simp [taggedL, tagged, tagPoint]) fun B hB => ?_
  refine aw_lens (x := .ptr false [slPoint false s.Points]) 0 rfl (fun len_s => ?_)
  simp [LenOK, LenL, cPoint, fPoint, slPoint] at len_s
  refine aw_seq ?_
  refine aw_reg [] [0] [] [.ptr false [slPoint false s.Points]] [] [] (by kernel_rfl) hB trivial ?_
  refine ae_then ?_
  refine aw_seq ?_
  refine aw_reg [(0, .new 7)] [0, 3] [7] [.ptr false [slPoint false s.Points], .arr 7] [some (.arr 1 0 (litF [] 1))] [] (by kernel_rfl) hB trivial ?_
  refine ae_then ?_
  refine aw_seq ?_
  refine aw_seq ?_
  refine aw_reg [] [0, 3, 4] [7] [.ptr false [slPoint false s.Points], .arr 7, I 1] [some (.arr 1 0 (litF [] 1))] [] (by kernel_rfl) hB trivial ?_
  refine ae_then ?_
  refine aw_block ?_
  refine aw_weak hB [] (T := [(0, .ptr false [slPoint false s.Points]), (3, .arr 7), (4, I 1)]) (O := [(7, .arr 1 (([] : List Int).length) (fI ([] : List Int)))]) rfl (⟨.inl rfl, .inl rfl, .inl rfl, trivial⟩) (⟨.inr ⟨rfl, (by first | rfl | (simp; done) | (simp; omega) | omega), fun i hi => absurd hi (Nat.not_lt_zero _)⟩, trivial⟩) ?_
  refine aw_loop (fun gn gσ => ∃ (out : List Int) (i : Int), gn = ((s.Points.length : Int) - i).toNat ∧ (1 ≤ i ∧ (i ≤ (s.Points.length : Int) ∨ i = 1)) ∧ (out = dirsL s.Points i.toNat) ∧ gσ = mkS [(0, .ptr false [slPoint false s.Points]), (3, .arr 7), (4, I i)] [(7, .arr 1 out.length (fI out))]) (((s.Points.length : Int) - 1).toNat) ⟨([] : List Int), 1, rfl, (by omega), (by exact (dirsL_one _).symm), rfl⟩ (fun gn gσ hI => ?_)
  obtain ⟨out, i, rfl, hi0, hd0, rfl⟩ := hI
  refine aw_seq ?_
  refine aw_seq ?_
  by_cases h1 : i < (s.Points.length : Int)
  · have hi : i.toNat < s.Points.length := by omega
    have hi2 : (i - 1).toNat < s.Points.length := by omega
    have hp1 := okP_iff.1 (okS_at ok hi2)
    have hp2 := okP_iff.1 (okS_at ok hi)
    have hbd := dirI_bd ((at_ s.Points i.toNat).X - (at_ s.Points (i - 1).toNat).X) ((at_ s.Points i.toNat).Y - (at_ s.Points (i - 1).toNat).Y)
    have hdl : out.length ≤ i.toNat := by rw [hd0]; exact dirsL_len _ _
    refine aw_reg [(6, .dec true)] [0, 3, 4, 14] [7] [.ptr false [slPoint false s.Points], .arr 7, I i, Bv true] [some (.arr 1 out.length (fI out))] [i < (s.Points.length : Int)] (by kernel_rfl) hB ⟨h1, trivial⟩ ?_
    refine ae_then ?_
    refine aw_true rfl ?_
    refine aw_skip ?_
    refine ae_then ?_
    refine aw_seq ?_
    refine aw_block ?_
    refine aw_seq ?_
    refine aw_reg [] [0, 3, 4, 5] [7] [.ptr false [slPoint false s.Points], .arr 7, I i, I (((at_ s.Points i.toNat).X) - ((at_ s.Points ((i - 1).toNat)).X))] [some (.arr 1 out.length (fI out))] [(0 : Int) ≤ i ∧ i < (s.Points.length : Int), inR .i64 (i - 1), (0 : Int) ≤ (i - 1) ∧ (i - 1) < (s.Points.length : Int), inR .i64 (((at_ s.Points i.toNat).X) - ((at_ s.Points ((i - 1).toNat)).X))] (by kernel_rfl) hB ⟨⟨(by omega), (by omega)⟩, (inR_i64 (by omega) (by omega)), ⟨(by omega), (by omega)⟩, (inR_i64 (by omega) (by omega)), trivial⟩ ?_
    refine ae_then ?_
    refine aw_seq ?_
    refine aw_reg [] [0, 3, 4, 5, 6] [7] [.ptr false [slPoint false s.Points], .arr 7, I i, I (((at_ s.Points i.toNat).X) - ((at_ s.Points ((i - 1).toNat)).X)), I (((at_ s.Points i.toNat).Y) - ((at_ s.Points ((i - 1).toNat)).Y))] [some (.arr 1 out.length (fI out))] [(0 : Int) ≤ i ∧ i < (s.Points.length : Int), inR .i64 (i - 1), (0 : Int) ≤ (i - 1) ∧ (i - 1) < (s.Points.length : Int), inR .i64 (((at_ s.Points i.toNat).Y) - ((at_ s.Points ((i - 1).toNat)).Y))] (by kernel_rfl) hB ⟨⟨(by omega), (by omega)⟩, (inR_i64 (by omega) (by omega)), ⟨(by omega), (by omega)⟩, (inR_i64 (by omega) (by omega)), trivial⟩ ?_
    refine ae_then ?_
    refine aw_seq ?_
    by_cases h2 : (((at_ s.Points i.toNat).X) - ((at_ s.Points ((i - 1).toNat)).X)) = 0
    · by_cases h3 : (((at_ s.Points i.toNat).Y) - ((at_ s.Points ((i - 1).toNat)).Y)) = 0
      · refine aw_reg [(1, .dec false), (4, .dec false)] [0, 3, 4, 5, 6, 58] [7] [.ptr false [slPoint false s.Points], .arr 7, I i, I (((at_ s.Points i.toNat).X) - ((at_ s.Points ((i - 1).toNat)).X)), I (((at_ s.Points i.toNat).Y) - ((at_ s.Points ((i - 1).toNat)).Y)), Bv false] [some (.arr 1 out.length (fI out))] [¬ ((((at_ s.Points i.toNat).X) - ((at_ s.Points ((i - 1).toNat)).X)) ≠ 0), ¬ ((((at_ s.Points i.toNat).Y) - ((at_ s.Points ((i - 1).toNat)).Y)) ≠ 0)] (by kernel_rfl) hB ⟨(fun hq => hq h2), (fun hq => hq h3), trivial⟩ ?_
        refine ae_then ?_
        refine aw_false rfl ?_
        refine aw_skip ?_
        refine ae_block 1 ?_
        refine ae_then ?_
        refine aw_reg [] [0, 3, 4] [7] [.ptr false [slPoint false s.Points], .arr 7, I (i + 1)] [some (.arr 1 out.length (fI out))] [inR .i64 (i + 1)] (by kernel_rfl) hB ⟨(inR_i64 (by omega) (by omega)), trivial⟩ ?_
        exact ae_again _ (by omega) ⟨out, (i + 1), rfl, (by omega), (by rw [hd0]; first | (exact (dirsL_same hi0.1 (by omega) (by omega)).symm) | (exact (dirsL_more hi0.1 (by omega)).symm)), rfl⟩
      · refine aw_reg [(1, .dec false), (4, .dec true)] [0, 3, 4, 5, 6, 58] [7] [.ptr false [slPoint false s.Points], .arr 7, I i, I (((at_ s.Points i.toNat).X) - ((at_ s.Points ((i - 1).toNat)).X)), I (((at_ s.Points i.toNat).Y) - ((at_ s.Points ((i - 1).toNat)).Y)), Bv true] [some (.arr 1 out.length (fI out))] [¬ ((((at_ s.Points i.toNat).X) - ((at_ s.Points ((i - 1).toNat)).X)) ≠ 0), (((at_ s.Points i.toNat).Y) - ((at_ s.Points ((i - 1).toNat)).Y)) ≠ 0] (by kernel_rfl) hB ⟨(fun hq => hq h2), h3, trivial⟩ ?_
        refine ae_then ?_
        refine aw_true rfl ?_
        refine aw_reg [(3, .call [(true, I (((at_ s.Points i.toNat).X) - ((at_ s.Points ((i - 1).toNat)).X))), (true, I (((at_ s.Points i.toNat).Y) - ((at_ s.Points ((i - 1).toNat)).Y)))] true (I (dirI (((at_ s.Points i.toNat).X) - ((at_ s.Points ((i - 1).toNat)).X)) (((at_ s.Points i.toNat).Y) - ((at_ s.Points ((i - 1).toNat)).Y))))), (4, .new 63), (5, .new 64)] [0, 3, 4] [64] [.ptr false [slPoint false s.Points], .arr 64, I i] [some (.arr 1 (out.length + 1) (catF out.length (fI out) (litF [I (dirI (((at_ s.Points i.toNat).X) - ((at_ s.Points ((i - 1).toNat)).X)) (((at_ s.Points i.toNat).Y) - ((at_ s.Points ((i - 1).toNat)).Y)))] 1)))] [Con Tryd.prog 96 [I (((at_ s.Points i.toNat).X) - ((at_ s.Points ((i - 1).toNat)).X)), I (((at_ s.Points i.toNat).Y) - ((at_ s.Points ((i - 1).toNat)).Y))] true (I (dirI (((at_ s.Points i.toNat).X) - ((at_ s.Points ((i - 1).toNat)).X)) (((at_ s.Points i.toNat).Y) - ((at_ s.Points ((i - 1).toNat)).Y)))) ∧ ((I (((at_ s.Points i.toNat).X) - ((at_ s.Points ((i - 1).toNat)).X)) : AV) = I (((at_ s.Points i.toNat).X) - ((at_ s.Points ((i - 1).toNat)).X))) ∧ ((I (((at_ s.Points i.toNat).Y) - ((at_ s.Points ((i - 1).toNat)).Y)) : AV) = I (((at_ s.Points i.toNat).Y) - ((at_ s.Points ((i - 1).toNat)).Y))) ∧ True, (out.length + 1) * 8 ≤ 140737488355328] (by kernel_rfl) hB ⟨⟨(l05Sector_ok (((at_ s.Points i.toNat).X) - ((at_ s.Points ((i - 1).toNat)).X)) (((at_ s.Points i.toNat).Y) - ((at_ s.Points ((i - 1).toNat)).Y)) (by omega)), rfl, rfl, trivial⟩, (by omega), trivial⟩ ?_
        refine ae_block 1 ?_
        refine ae_then ?_
        refine aw_reg [] [0, 3, 4] [64] [.ptr false [slPoint false s.Points], .arr 64, I (i + 1)] [some (.arr 1 (out.length + 1) (catF out.length (fI out) (litF [I (dirI (((at_ s.Points i.toNat).X) - ((at_ s.Points ((i - 1).toNat)).X)) (((at_ s.Points i.toNat).Y) - ((at_ s.Points ((i - 1).toNat)).Y)))] 1)))] [inR .i64 (i + 1)] (by kernel_rfl) hB ⟨(inR_i64 (by omega) (by omega)), trivial⟩ ?_
        refine ae_weak hB [(7, 64)] (T := [(0, .ptr false [slPoint false s.Points]), (3, .arr 7), (4, I (i + 1))]) (O := [(7, .arr 1 ((out ++ [(dirI (((at_ s.Points i.toNat).X) - ((at_ s.Points ((i - 1).toNat)).X)) (((at_ s.Points i.toNat).Y) - ((at_ s.Points ((i - 1).toNat)).Y)))]).length) (fI (out ++ [(dirI (((at_ s.Points i.toNat).X) - ((at_ s.Points ((i - 1).toNat)).X)) (((at_ s.Points i.toNat).Y) - ((at_ s.Points ((i - 1).toNat)).Y)))])))]) rfl (⟨.inl rfl, .inl rfl, .inl rfl, trivial⟩) (⟨.inr ⟨rfl, (by first | rfl | (simp; done) | (simp; omega) | omega), fun i hi => .inl (cat_snoc (enc := cI) (xs := out) rfl i hi)⟩, trivial⟩) (ae_again _ (by omega) ⟨(out ++ [(dirI (((at_ s.Points i.toNat).X) - ((at_ s.Points ((i - 1).toNat)).X)) (((at_ s.Points i.toNat).Y) - ((at_ s.Points ((i - 1).toNat)).Y)))]), (i + 1), rfl, (by omega), (by rw [hd0]; first | (exact (dirsL_same hi0.1 (by omega) (by omega)).symm) | (exact (dirsL_more hi0.1 (by omega)).symm)), rfl⟩)
    · refine aw_reg [(1, .dec true)] [0, 3, 4, 5, 6, 58] [7] [.ptr false [slPoint false s.Points], .arr 7, I i, I (((at_ s.Points i.toNat).X) - ((at_ s.Points ((i - 1).toNat)).X)), I (((at_ s.Points i.toNat).Y) - ((at_ s.Points ((i - 1).toNat)).Y)), Bv true] [some (.arr 1 out.length (fI out))] [(((at_ s.Points i.toNat).X) - ((at_ s.Points ((i - 1).toNat)).X)) ≠ 0] (by kernel_rfl) hB ⟨h2, trivial⟩ ?_
      refine ae_then ?_
      refine aw_true rfl ?_
      refine aw_reg [(3, .call [(true, I (((at_ s.Points i.toNat).X) - ((at_ s.Points ((i - 1).toNat)).X))), (true, I (((at_ s.Points i.toNat).Y) - ((at_ s.Points ((i - 1).toNat)).Y)))] true (I (dirI (((at_ s.Points i.toNat).X) - ((at_ s.Points ((i - 1).toNat)).X)) (((at_ s.Points i.toNat).Y) - ((at_ s.Points ((i - 1).toNat)).Y))))), (4, .new 63), (5, .new 64)] [0, 3, 4] [64] [.ptr false [slPoint false s.Points], .arr 64, I i] [some (.arr 1 (out.length + 1) (catF out.length (fI out) (litF [I (dirI (((at_ s.Points i.toNat).X) - ((at_ s.Points ((i - 1).toNat)).X)) (((at_ s.Points i.toNat).Y) - ((at_ s.Points ((i - 1).toNat)).Y)))] 1)))] [Con Tryd.prog 96 [I (((at_ s.Points i.toNat).X) - ((at_ s.Points ((i - 1).toNat)).X)), I (((at_ s.Points i.toNat).Y) - ((at_ s.Points ((i - 1).toNat)).Y))] true (I (dirI (((at_ s.Points i.toNat).X) - ((at_ s.Points ((i - 1).toNat)).X)) (((at_ s.Points i.toNat).Y) - ((at_ s.Points ((i - 1).toNat)).Y)))) ∧ ((I (((at_ s.Points i.toNat).X) - ((at_ s.Points ((i - 1).toNat)).X)) : AV) = I (((at_ s.Points i.toNat).X) - ((at_ s.Points ((i - 1).toNat)).X))) ∧ ((I (((at_ s.Points i.toNat).Y) - ((at_ s.Points ((i - 1).toNat)).Y)) : AV) = I (((at_ s.Points i.toNat).Y) - ((at_ s.Points ((i - 1).toNat)).Y))) ∧ True, (out.length + 1) * 8 ≤ 140737488355328] (by kernel_rfl) hB ⟨⟨(l05Sector_ok (((at_ s.Points i.toNat).X) - ((at_ s.Points ((i - 1).toNat)).X)) (((at_ s.Points i.toNat).Y) - ((at_ s.Points ((i - 1).toNat)).Y)) (by omega)), rfl, rfl, trivial⟩, (by omega), trivial⟩ ?_
      refine ae_block 1 ?_
      refine ae_then ?_
      refine aw_reg [] [0, 3, 4] [64] [.ptr false [slPoint false s.Points], .arr 64, I (i + 1)] [some (.arr 1 (out.length + 1) (catF out.length (fI out) (litF [I (dirI (((at_ s.Points i.toNat).X) - ((at_ s.Points ((i - 1).toNat)).X)) (((at_ s.Points i.toNat).Y) - ((at_ s.Points ((i - 1).toNat)).Y)))] 1)))] [inR .i64 (i + 1)] (by kernel_rfl) hB ⟨(inR_i64 (by omega) (by omega)), trivial⟩ ?_
      refine ae_weak hB [(7, 64)] (T := [(0, .ptr false [slPoint false s.Points]), (3, .arr 7), (4, I (i + 1))]) (O := [(7, .arr 1 ((out ++ [(dirI (((at_ s.Points i.toNat).X) - ((at_ s.Points ((i - 1).toNat)).X)) (((at_ s.Points i.toNat).Y) - ((at_ s.Points ((i - 1).toNat)).Y)))]).length) (fI (out ++ [(dirI (((at_ s.Points i.toNat).X) - ((at_ s.Points ((i - 1).toNat)).X)) (((at_ s.Points i.toNat).Y) - ((at_ s.Points ((i - 1).toNat)).Y)))])))]) rfl (⟨.inl rfl, .inl rfl, .inl rfl, trivial⟩) (⟨.inr ⟨rfl, (by first | rfl | (simp; done) | (simp; omega) | omega), fun i hi => .inl (cat_snoc (enc := cI) (xs := out) rfl i hi)⟩, trivial⟩) (ae_again _ (by omega) ⟨(out ++ [(dirI (((at_ s.Points i.toNat).X) - ((at_ s.Points ((i - 1).toNat)).X)) (((at_ s.Points i.toNat).Y) - ((at_ s.Points ((i - 1).toNat)).Y)))]), (i + 1), rfl, (by omega), (by rw [hd0]; first | (exact (dirsL_same hi0.1 (by omega) (by omega)).symm) | (exact (dirsL_more hi0.1 (by omega)).symm)), rfl⟩)
  · have hie : i.toNat = s.Points.length := by omega
    rw [hie] at hd0
    subst hd0
    refine aw_reg [(6, .dec false)] [0, 3, 4, 14] [7] [.ptr false [slPoint false s.Points], .arr 7, I i, Bv false] [some (.arr 1 ((dirsL s.Points s.Points.length).length) (fI (dirsL s.Points s.Points.length)))] [¬ (i < (s.Points.length : Int))] (by kernel_rfl) hB ⟨h1, trivial⟩ ?_
    refine ae_then ?_
    refine aw_false rfl ?_
    refine aw_exit ?_
    refine ae_exit_then ?_
    refine ae_exit_then ?_
    refine ae_exit_same ?_
    refine ae_then ?_
    refine aw_seq ?_
    refine aw_reg [] [2] [7] [.arr 7] [some (.arr 1 ((dirsL s.Points s.Points.length).length) (fI (dirsL s.Points s.Points.length)))] [] (by kernel_rfl) hB trivial ?_
    refine ae_then ?_
    refine aw_ret ?_
    refine ae_ret hB (.arr 7) (by kernel_rfl) (.inr ⟨(fun _ => rfl), rfl, rfl, fun i _ => .inl rfl⟩) rfl (fun _ => (tagI true _))


/-- f 0 + .. + f (n - 1). -/
def sumN : Nat → (Nat → Int) → Int
  | 0, _ => 0
  | n + 1, f => sumN n f + f n
theorem sumN_succ {n : Int} (h : 0 ≤ n) (f : Nat → Int) : sumN (n + 1).toNat f = sumN n.toNat f + f n.toNat := by
  have : (n + 1).toNat = n.toNat + 1 := by omega
  rw [this]; rfl

def bendI (a b : Int) : Int := (b - a + 11) % 8 - 3
theorem bendI_bd (a b : Int) : -3 ≤ bendI a b ∧ bendI a b ≤ 4 := by unfold bendI; omega
def bendS (l : List Int) (k : Nat) : Int := sumN k fun j => if j = 0 then 0 else bendI (at_ l (j - 1)) (at_ l j)
theorem bendS_succ {l : List Int} {i : Int} (h : 1 ≤ i) : bendS l (i + 1).toNat = bendS l i.toNat + bendI (at_ l (i - 1).toNat) (at_ l i.toNat) := by
  unfold bendS
  rw [sumN_succ (by omega), if_neg (by omega)]
  have e2 : (i - 1).toNat = i.toNat - 1 := by omega
  rw [e2]
theorem bendS_one (l : List Int) (k : Nat) (h : k ≤ 1) : bendS l k = 0 := by
  have : k = 0 ∨ k = 1 := by omega
  rcases this with rfl | rfl <;> simp [bendS, sumN]
theorem bendS_bd (l : List Int) (k : Nat) : -3 * (k : Int) ≤ bendS l k ∧ bendS l k ≤ 4 * (k : Int) := by
  induction k with
  | zero => simp [bendS, sumN]
  | succ k ih =>
    have := bendI_bd (at_ l (k - 1)) (at_ l k)
    unfold bendS at ih ⊢
    simp only [sumN]
    split <;> omega
theorem dirsL_bd (xs : List Point) : ∀ (k j : Nat), j < (dirsL xs k).length → 0 ≤ at_ (dirsL xs k) j ∧ at_ (dirsL xs k) j ≤ 7 := by
  intro k
  induction k with
  | zero => intro j h; simp [dirsL] at h
  | succ k ih =>
    unfold dirsL
    split
    · exact ih
    · intro j h
      simp only [List.length_append, List.length_singleton] at h
      by_cases e : j < (dirsL xs k).length
      · have := ih j e
        simp only [at_, List.getD_eq_getElem?_getD, List.getElem?_append_left e] at this ⊢
        exact this
      · have e2 : j = (dirsL xs k).length := by omega
        subst e2
        simp [at_]
        exact dirI_bd _ _
/-- The sum of a stroke's turns. -/
def bendT (s : Stroke) : Int := bendS (dirsL s.Points s.Points.length) (dirsL s.Points s.Points.length).length
theorem bendT_bd {s : Stroke} (ok : okStroke' s = true) : -180 ≤ bendT s ∧ bendT s ≤ 240 := by
  have h := okS_len ok
  have h1 := dirsL_len s.Points s.Points.length
  have h2 := bendS_bd (dirsL s.Points s.Points.length) (dirsL s.Points s.Points.length).length
  unfold bendT; omega

-- spec.l05Bend
theorem l05Bend_ok (a : Int) (b : Int) (ha : 0 ≤ a ∧ a ≤ 7) (hb : 0 ≤ b ∧ b ≤ 7) : Con Tryd.prog 82 [I a, I b] true (I (bendI a b)) := by
  refine fn_ok (fn := Tryd.f82) (nt := 16) Tryd.func82 rfl rfl rfl rfl (by simp [taggedL, tagged]) fun B hB => ?_
  refine aw_seq ?_
  refine aw_reg [] [0, 1] [] [I a, I b] [] [] (by kernel_rfl) hB trivial ?_
  refine ae_then ?_
  refine aw_seq ?_
  refine aw_reg [(4, .nn)] [5] [] [I (((b - a) + 8) % 8)] [] [inR .i64 (b - a), inR .i64 ((b - a) + 8), (0 : Int) ≤ ((b - a) + 8) ∧ (0 : Int) < 8] (by kernel_rfl) hB ⟨(inR_i64 (by omega) (by omega)), (inR_i64 (by omega) (by omega)), ⟨(by omega), (by omega)⟩, trivial⟩ ?_
  refine ae_then ?_
  refine aw_seq ?_
  refine aw_seq ?_
  by_cases h1 : 4 < (((b - a) + 8) % 8)
  · refine aw_reg [(1, .dec true)] [5, 12] [] [I (((b - a) + 8) % 8), Bv true] [] [4 < (((b - a) + 8) % 8)] (by kernel_rfl) hB ⟨h1, trivial⟩ ?_
    refine ae_then ?_
    refine aw_true rfl ?_
    refine aw_reg [] [5] [] [I ((((b - a) + 8) % 8) - 8)] [] [inR .i64 ((((b - a) + 8) % 8) - 8)] (by kernel_rfl) hB ⟨(inR_i64 (by omega) (by omega)), trivial⟩ ?_
    refine ae_then ?_
    refine aw_seq ?_
    refine aw_reg [] [4] [] [I ((((b - a) + 8) % 8) - 8)] [] [] (by kernel_rfl) hB trivial ?_
    refine ae_then ?_
    refine aw_ret ?_
    refine ae_ret hB (I ((((b - a) + 8) % 8) - 8)) (by kernel_rfl) (.inl (by refine congrArg I ?_; unfold bendI; omega)) rfl (fun _ => trivial)
  · refine aw_reg [(1, .dec false)] [5, 12] [] [I (((b - a) + 8) % 8), Bv false] [] [¬ (4 < (((b - a) + 8) % 8))] (by kernel_rfl) hB ⟨h1, trivial⟩ ?_
    refine ae_then ?_
    refine aw_false rfl ?_
    refine aw_skip ?_
    refine ae_then ?_
    refine aw_seq ?_
    refine aw_reg [] [4] [] [I (((b - a) + 8) % 8)] [] [] (by kernel_rfl) hB trivial ?_
    refine ae_then ?_
    refine aw_ret ?_
    refine ae_ret hB (I (((b - a) + 8) % 8)) (by kernel_rfl) (.inl (by refine congrArg I ?_; unfold bendI; omega)) rfl (fun _ => trivial)


-- spec.l00Min
theorem l00Min_ok (a : Int) (b : Int) : Con Tryd.prog 99 [I a, I b] true (I (min a b)) := by
  refine fn_ok (fn := Tryd.f99) (nt := 10) Tryd.func99 rfl rfl rfl rfl (by simp [taggedL, tagged]) fun B hB => ?_
  refine aw_seq ?_
  refine aw_reg [] [0, 1] [] [I a, I b] [] [] (by kernel_rfl) hB trivial ?_
  refine ae_then ?_
  refine aw_seq ?_
  refine aw_seq ?_
  by_cases h1 : a < b
  · refine aw_reg [(2, .dec true)] [0, 1, 7] [] [I a, I b, Bv true] [] [a < b] (by kernel_rfl) hB ⟨h1, trivial⟩ ?_
    refine ae_then ?_
    refine aw_true rfl ?_
    refine aw_seq ?_
    refine aw_reg [] [4] [] [I a] [] [] (by kernel_rfl) hB trivial ?_
    refine ae_then ?_
    refine aw_ret ?_
    refine ae_ret_then ?_
    refine ae_ret hB (I a) (by kernel_rfl) (.inl (by refine congrArg I ?_; omega)) rfl (fun _ => trivial)
  · refine aw_reg [(2, .dec false)] [0, 1, 7] [] [I a, I b, Bv false] [] [¬ (a < b)] (by kernel_rfl) hB ⟨h1, trivial⟩ ?_
    refine ae_then ?_
    refine aw_false rfl ?_
    refine aw_skip ?_
    refine ae_then ?_
    refine aw_seq ?_
    refine aw_reg [] [4] [] [I b] [] [] (by kernel_rfl) hB trivial ?_
    refine ae_then ?_
    refine aw_ret ?_
    refine ae_ret hB (I b) (by kernel_rfl) (.inl (by refine congrArg I ?_; omega)) rfl (fun _ => trivial)


-- spec.l00Max
theorem l00Max_ok (a : Int) (b : Int) : Con Tryd.prog 100 [I a, I b] true (I (max a b)) := by
  refine fn_ok (fn := Tryd.f100) (nt := 10) Tryd.func100 rfl rfl rfl rfl (by simp [taggedL, tagged]) fun B hB => ?_
  refine aw_seq ?_
  refine aw_reg [] [0, 1] [] [I a, I b] [] [] (by kernel_rfl) hB trivial ?_
  refine ae_then ?_
  refine aw_seq ?_
  refine aw_seq ?_
  by_cases h1 : b < a
  · refine aw_reg [(2, .dec true)] [0, 1, 7] [] [I a, I b, Bv true] [] [b < a] (by kernel_rfl) hB ⟨h1, trivial⟩ ?_
    refine ae_then ?_
    refine aw_true rfl ?_
    refine aw_seq ?_
    refine aw_reg [] [4] [] [I a] [] [] (by kernel_rfl) hB trivial ?_
    refine ae_then ?_
    refine aw_ret ?_
    refine ae_ret_then ?_
    refine ae_ret hB (I a) (by kernel_rfl) (.inl (by refine congrArg I ?_; omega)) rfl (fun _ => trivial)
  · refine aw_reg [(2, .dec false)] [0, 1, 7] [] [I a, I b, Bv false] [] [¬ (b < a)] (by kernel_rfl) hB ⟨h1, trivial⟩ ?_
    refine ae_then ?_
    refine aw_false rfl ?_
    refine aw_skip ?_
    refine ae_then ?_
    refine aw_seq ?_
    refine aw_reg [] [4] [] [I b] [] [] (by kernel_rfl) hB trivial ?_
    refine ae_then ?_
    refine aw_ret ?_
    refine ae_ret hB (I b) (by kernel_rfl) (.inl (by refine congrArg I ?_; omega)) rfl (fun _ => trivial)


def joinB (a b : Box) : Box := ⟨min a.X1 b.X1, min a.Y1 b.Y1, max a.X2 b.X2, max a.Y2 b.Y2⟩
def ptB (p : Point) : Box := ⟨p.X, p.Y, p.X, p.Y⟩
/-- The box of the first point and the first k points. -/
def boxS (xs : List Point) : Nat → Box
  | 0 => ptB (at_ xs 0)
  | k + 1 => joinB (boxS xs k) (ptB (at_ xs k))
theorem boxS_succ {xs : List Point} {i : Int} (h : 0 ≤ i) : boxS xs (i + 1).toNat = joinB (boxS xs i.toNat) (ptB (at_ xs i.toNat)) := by
  have : (i + 1).toNat = i.toNat + 1 := by omega
  rw [this]; rfl
theorem boxS_one (xs : List Point) : boxS xs 1 = ptB (at_ xs 0) := by simp [boxS, joinB, ptB]
/-- A box that is one. -/
def okBox (b : Box) : Prop := (0 ≤ b.X1 ∧ b.X1 ≤ b.X2 ∧ b.X2 ≤ 4095) ∧ 0 ≤ b.Y1 ∧ b.Y1 ≤ b.Y2 ∧ b.Y2 ≤ 4095
theorem joinB_ok {a b : Box} (ha : okBox a) (hb : okBox b) : okBox (joinB a b) := by unfold okBox joinB at *; simp only; omega
theorem ptB_ok {p : Point} (h : okP p = true) : okBox (ptB p) := by have := okP_iff.1 h; unfold okBox ptB; simp only; omega
theorem boxS_ok {s : Stroke} (ok : okStroke' s = true) : ∀ k : Nat, k ≤ s.Points.length → okBox (boxS s.Points k)
  | 0, _ => ptB_ok (okS_at ok (by have := okS_len ok; omega))
  | k + 1, h => joinB_ok (boxS_ok ok k (by omega)) (ptB_ok (okS_at ok (by omega)))
theorem boxS_all {s : Stroke} (ok : okStroke' s = true) : okBox (boxS s.Points s.Points.length) := boxS_ok ok _ (Nat.le_refl _)

-- spec.l02Join
theorem l02Join_ok (a : Box) (b : Box) : Con Tryd.prog 87 [.agg [I a.X1, I a.Y1, I a.X2, I a.Y2], .agg [I b.X1, I b.Y1, I b.X2, I b.Y2]] true (.agg [I ((joinB a b).X1), I ((joinB a b).Y1), I ((joinB a b).X2), I ((joinB a b).Y2)]) := by
  refine fn_ok (fn := Tryd.f87) (nt := 26) Tryd.func87 rfl rfl rfl rfl (by simp [taggedL, tagged]) fun B hB => ?_
  refine aw_seq ?_
  refine aw_reg [(0, .new 2), (1, .new 3), (2, .new 4)] [2, 3, 4] [2, 3, 4] [.ref 2 0, .ref 3 0, .ref 4 0] [some (.box [I a.X1, I a.Y1, I a.X2, I a.Y2]), some (.box [I b.X1, I b.Y1, I b.X2, I b.Y2]), some (.box [I 0, I 0, I 0, I 0])] [] (by kernel_rfl) hB trivial ?_
  refine ae_then ?_
  refine aw_seq ?_
  refine aw_reg [(4, .call [(true, I a.X1), (true, I b.X1)] true (I (min a.X1 b.X1))), (9, .call [(true, I a.Y1), (true, I b.Y1)] true (I (min a.Y1 b.Y1))), (14, .call [(true, I a.X2), (true, I b.X2)] true (I (max a.X2 b.X2))), (19, .call [(true, I a.Y2), (true, I b.Y2)] true (I (max a.Y2 b.Y2)))] [4] [4] [.ref 4 0] [some (.box [I (min a.X1 b.X1), I (min a.Y1 b.Y1), I (max a.X2 b.X2), I (max a.Y2 b.Y2)])] [Con Tryd.prog 99 [I a.X1, I b.X1] true (I (min a.X1 b.X1)) ∧ ((I a.X1 : AV) = I a.X1) ∧ ((I b.X1 : AV) = I b.X1) ∧ True, Con Tryd.prog 99 [I a.Y1, I b.Y1] true (I (min a.Y1 b.Y1)) ∧ ((I a.Y1 : AV) = I a.Y1) ∧ ((I b.Y1 : AV) = I b.Y1) ∧ True, Con Tryd.prog 100 [I a.X2, I b.X2] true (I (max a.X2 b.X2)) ∧ ((I a.X2 : AV) = I a.X2) ∧ ((I b.X2 : AV) = I b.X2) ∧ True, Con Tryd.prog 100 [I a.Y2, I b.Y2] true (I (max a.Y2 b.Y2)) ∧ ((I a.Y2 : AV) = I a.Y2) ∧ ((I b.Y2 : AV) = I b.Y2) ∧ True] (by kernel_rfl) hB ⟨⟨(l00Min_ok a.X1 b.X1), rfl, rfl, trivial⟩, ⟨(l00Min_ok a.Y1 b.Y1), rfl, rfl, trivial⟩, ⟨(l00Max_ok a.X2 b.X2), rfl, rfl, trivial⟩, ⟨(l00Max_ok a.Y2 b.Y2), rfl, rfl, trivial⟩, trivial⟩ ?_
  refine ae_then ?_
  refine aw_ret ?_
  refine ae_ret hB (.agg [I (min a.X1 b.X1), I (min a.Y1 b.Y1), I (max a.X2 b.X2), I (max a.Y2 b.Y2)]) (by kernel_rfl) (.inl (by first | rfl | (refine congrArg Bv ?_; simp [*]; done) | (refine congrArg Bv ?_; simp [*]; omega) | (refine congrArg Bv ?_; simp_all []; done) | (refine congrArg Bv ?_; simp_all []; omega))) rfl (fun _ => (by simp [tagged, taggedL]))


-- spec.l02BoxOf
theorem l02BoxOf_ok (s : Stroke) (ok : okStroke' s = true) : Con Tryd.prog 54 [.ptr false [slPoint false s.Points]] true (.agg [I ((boxS s.Points s.Points.length).X1), I ((boxS s.Points s.Points.length).Y1), I ((boxS s.Points s.Points.length).X2), I ((boxS s.Points s.Points.length).Y2)]) := by
  have hln := okS_len ok
  refine fn_ok (fn := Tryd.f54) (nt := 50) Tryd.func54 rfl rfl rfl rfl (by simp [taggedL, tagged, tagPoint]) fun B hB => ?_
  refine aw_lens (x := .ptr false [slPoint false s.Points]) 0 rfl (fun len_s => ?_)
  simp [LenOK, LenL, cPoint, fPoint, slPoint] at len_s
  refine aw_seq ?_
  refine aw_reg [(0, .new 2)] [0, 2] [2] [.ptr false [slPoint false s.Points], .ref 2 0] [some (.box [I 0, I 0, I 0, I 0])] [] (by kernel_rfl) hB trivial ?_
  refine ae_then ?_
  refine aw_seq ?_
  refine aw_reg [(6, .new 3)] [0, 2, 3] [2, 3] [.ptr false [slPoint false s.Points], .ref 2 0, .ref 3 0] [some (.box [I 0, I 0, I 0, I 0]), some (.box [I ((at_ s.Points 0).X), I ((at_ s.Points 0).Y), I ((at_ s.Points 0).T)])] [(0 : Int) ≤ 0 ∧ 0 < (s.Points.length : Int)] (by kernel_rfl) hB ⟨⟨(by omega), (by omega)⟩, trivial⟩ ?_
  refine ae_then ?_
  refine aw_seq ?_
  refine aw_reg [(9, .new 4)] [0, 2, 4] [2, 4] [.ptr false [slPoint false s.Points], .ref 2 0, .ref 4 0] [some (.box [I 0, I 0, I 0, I 0]), some (.box [I ((at_ s.Points 0).X), I ((at_ s.Points 0).Y), I ((at_ s.Points 0).X), I ((at_ s.Points 0).Y)])] [] (by kernel_rfl) hB trivial ?_
  refine ae_then ?_
  refine aw_seq ?_
  refine aw_seq ?_
  refine aw_reg [] [0, 2, 4, 5] [2, 4] [.ptr false [slPoint false s.Points], .ref 2 0, .ref 4 0, I 1] [some (.box [I 0, I 0, I 0, I 0]), some (.box [I ((at_ s.Points 0).X), I ((at_ s.Points 0).Y), I ((at_ s.Points 0).X), I ((at_ s.Points 0).Y)])] [] (by kernel_rfl) hB trivial ?_
  refine ae_then ?_
  refine aw_block ?_
  refine aw_loop (fun gn gσ => ∃ (i : Int) (x1 : Int) (y1 : Int) (x2 : Int) (y2 : Int), gn = ((s.Points.length : Int) - i).toNat ∧ (1 ≤ i ∧ i ≤ (s.Points.length : Int)) ∧ (Box.mk x1 y1 x2 y2 = boxS s.Points i.toNat) ∧ gσ = mkS [(0, .ptr false [slPoint false s.Points]), (2, .ref 2 0), (4, .ref 4 0), (5, I i)] [(2, .box [I 0, I 0, I 0, I 0]), (4, .box [I x1, I y1, I x2, I y2])]) (((s.Points.length : Int) - 1).toNat) ⟨1, (at_ s.Points 0).X, (at_ s.Points 0).Y, (at_ s.Points 0).X, (at_ s.Points 0).Y, rfl, (by omega), (by first | rfl | exact (boxS_one _).symm), rfl⟩ (fun gn gσ hI => ?_)
  obtain ⟨i, x1, y1, x2, y2, rfl, hi0, hb1, rfl⟩ := hI
  refine aw_seq ?_
  refine aw_seq ?_
  by_cases h1 : i < (s.Points.length : Int)
  · have hi : i.toNat < s.Points.length := by omega
    refine aw_reg [(6, .dec true)] [0, 2, 4, 5, 28] [2, 4] [.ptr false [slPoint false s.Points], .ref 2 0, .ref 4 0, I i, Bv true] [some (.box [I 0, I 0, I 0, I 0]), some (.box [I x1, I y1, I x2, I y2])] [i < (s.Points.length : Int)] (by kernel_rfl) hB ⟨h1, trivial⟩ ?_
    refine ae_then ?_
    refine aw_true rfl ?_
    refine aw_skip ?_
    refine ae_then ?_
    refine aw_seq ?_
    refine aw_block ?_
    refine aw_seq ?_
    refine aw_reg [(7, .new 6)] [0, 2, 4, 5, 6] [2, 4, 6] [.ptr false [slPoint false s.Points], .ref 2 0, .ref 4 0, I i, .ref 6 0] [some (.box [I 0, I 0, I 0, I 0]), some (.box [I x1, I y1, I x2, I y2]), some (.box [I ((at_ s.Points i.toNat).X), I ((at_ s.Points i.toNat).Y), I ((at_ s.Points i.toNat).T)])] [(0 : Int) ≤ i ∧ i < (s.Points.length : Int)] (by kernel_rfl) hB ⟨⟨(by omega), (by omega)⟩, trivial⟩ ?_
    refine ae_then ?_
    refine aw_reg [(10, .call [(true, .agg [I x1, I y1, I x2, I y2]), (true, .agg [I ((at_ s.Points i.toNat).X), I ((at_ s.Points i.toNat).Y), I ((at_ s.Points i.toNat).X), I ((at_ s.Points i.toNat).Y)])] true (.agg [I ((joinB (Box.mk x1 y1 x2 y2) (Box.mk ((at_ s.Points i.toNat).X) ((at_ s.Points i.toNat).Y) ((at_ s.Points i.toNat).X) ((at_ s.Points i.toNat).Y))).X1), I ((joinB (Box.mk x1 y1 x2 y2) (Box.mk ((at_ s.Points i.toNat).X) ((at_ s.Points i.toNat).Y) ((at_ s.Points i.toNat).X) ((at_ s.Points i.toNat).Y))).Y1), I ((joinB (Box.mk x1 y1 x2 y2) (Box.mk ((at_ s.Points i.toNat).X) ((at_ s.Points i.toNat).Y) ((at_ s.Points i.toNat).X) ((at_ s.Points i.toNat).Y))).X2), I ((joinB (Box.mk x1 y1 x2 y2) (Box.mk ((at_ s.Points i.toNat).X) ((at_ s.Points i.toNat).Y) ((at_ s.Points i.toNat).X) ((at_ s.Points i.toNat).Y))).Y2)]))] [0, 2, 4, 5] [2, 4] [.ptr false [slPoint false s.Points], .ref 2 0, .ref 4 0, I i] [some (.box [I 0, I 0, I 0, I 0]), some (.box [I ((joinB (Box.mk x1 y1 x2 y2) (Box.mk ((at_ s.Points i.toNat).X) ((at_ s.Points i.toNat).Y) ((at_ s.Points i.toNat).X) ((at_ s.Points i.toNat).Y))).X1), I ((joinB (Box.mk x1 y1 x2 y2) (Box.mk ((at_ s.Points i.toNat).X) ((at_ s.Points i.toNat).Y) ((at_ s.Points i.toNat).X) ((at_ s.Points i.toNat).Y))).Y1), I ((joinB (Box.mk x1 y1 x2 y2) (Box.mk ((at_ s.Points i.toNat).X) ((at_ s.Points i.toNat).Y) ((at_ s.Points i.toNat).X) ((at_ s.Points i.toNat).Y))).X2), I ((joinB (Box.mk x1 y1 x2 y2) (Box.mk ((at_ s.Points i.toNat).X) ((at_ s.Points i.toNat).Y) ((at_ s.Points i.toNat).X) ((at_ s.Points i.toNat).Y))).Y2)])] [Con Tryd.prog 87 [.agg [I x1, I y1, I x2, I y2], .agg [I ((at_ s.Points i.toNat).X), I ((at_ s.Points i.toNat).Y), I ((at_ s.Points i.toNat).X), I ((at_ s.Points i.toNat).Y)]] true (.agg [I ((joinB (Box.mk x1 y1 x2 y2) (Box.mk ((at_ s.Points i.toNat).X) ((at_ s.Points i.toNat).Y) ((at_ s.Points i.toNat).X) ((at_ s.Points i.toNat).Y))).X1), I ((joinB (Box.mk x1 y1 x2 y2) (Box.mk ((at_ s.Points i.toNat).X) ((at_ s.Points i.toNat).Y) ((at_ s.Points i.toNat).X) ((at_ s.Points i.toNat).Y))).Y1), I ((joinB (Box.mk x1 y1 x2 y2) (Box.mk ((at_ s.Points i.toNat).X) ((at_ s.Points i.toNat).Y) ((at_ s.Points i.toNat).X) ((at_ s.Points i.toNat).Y))).X2), I ((joinB (Box.mk x1 y1 x2 y2) (Box.mk ((at_ s.Points i.toNat).X) ((at_ s.Points i.toNat).Y) ((at_ s.Points i.toNat).X) ((at_ s.Points i.toNat).Y))).Y2)]) ∧ ((.agg [I x1, I y1, I x2, I y2] : AV) = .agg [I x1, I y1, I x2, I y2]) ∧ ((.agg [I ((at_ s.Points i.toNat).X), I ((at_ s.Points i.toNat).Y), I ((at_ s.Points i.toNat).X), I ((at_ s.Points i.toNat).Y)] : AV) = .agg [I ((at_ s.Points i.toNat).X), I ((at_ s.Points i.toNat).Y), I ((at_ s.Points i.toNat).X), I ((at_ s.Points i.toNat).Y)]) ∧ True] (by kernel_rfl) hB ⟨⟨(l02Join_ok (Box.mk x1 y1 x2 y2) (Box.mk ((at_ s.Points i.toNat).X) ((at_ s.Points i.toNat).Y) ((at_ s.Points i.toNat).X) ((at_ s.Points i.toNat).Y))), rfl, rfl, trivial⟩, trivial⟩ ?_
    refine ae_block 1 ?_
    refine ae_then ?_
    refine aw_reg [] [0, 2, 4, 5] [2, 4] [.ptr false [slPoint false s.Points], .ref 2 0, .ref 4 0, I (i + 1)] [some (.box [I 0, I 0, I 0, I 0]), some (.box [I ((joinB (Box.mk x1 y1 x2 y2) (Box.mk ((at_ s.Points i.toNat).X) ((at_ s.Points i.toNat).Y) ((at_ s.Points i.toNat).X) ((at_ s.Points i.toNat).Y))).X1), I ((joinB (Box.mk x1 y1 x2 y2) (Box.mk ((at_ s.Points i.toNat).X) ((at_ s.Points i.toNat).Y) ((at_ s.Points i.toNat).X) ((at_ s.Points i.toNat).Y))).Y1), I ((joinB (Box.mk x1 y1 x2 y2) (Box.mk ((at_ s.Points i.toNat).X) ((at_ s.Points i.toNat).Y) ((at_ s.Points i.toNat).X) ((at_ s.Points i.toNat).Y))).X2), I ((joinB (Box.mk x1 y1 x2 y2) (Box.mk ((at_ s.Points i.toNat).X) ((at_ s.Points i.toNat).Y) ((at_ s.Points i.toNat).X) ((at_ s.Points i.toNat).Y))).Y2)])] [inR .i64 (i + 1)] (by kernel_rfl) hB ⟨(inR_i64 (by omega) (by omega)), trivial⟩ ?_
    exact ae_again _ (by omega) ⟨(i + 1), (joinB (Box.mk x1 y1 x2 y2) (Box.mk ((at_ s.Points i.toNat).X) ((at_ s.Points i.toNat).Y) ((at_ s.Points i.toNat).X) ((at_ s.Points i.toNat).Y))).X1, (joinB (Box.mk x1 y1 x2 y2) (Box.mk ((at_ s.Points i.toNat).X) ((at_ s.Points i.toNat).Y) ((at_ s.Points i.toNat).X) ((at_ s.Points i.toNat).Y))).Y1, (joinB (Box.mk x1 y1 x2 y2) (Box.mk ((at_ s.Points i.toNat).X) ((at_ s.Points i.toNat).Y) ((at_ s.Points i.toNat).X) ((at_ s.Points i.toNat).Y))).X2, (joinB (Box.mk x1 y1 x2 y2) (Box.mk ((at_ s.Points i.toNat).X) ((at_ s.Points i.toNat).Y) ((at_ s.Points i.toNat).X) ((at_ s.Points i.toNat).Y))).Y2, rfl, (by omega), (by rw [boxS_succ (by omega), ← hb1]; rfl), rfl⟩
  · have hie : i.toNat = s.Points.length := by omega
    rw [hie] at hb1
    refine aw_reg [(6, .dec false)] [0, 2, 4, 5, 28] [2, 4] [.ptr false [slPoint false s.Points], .ref 2 0, .ref 4 0, I i, Bv false] [some (.box [I 0, I 0, I 0, I 0]), some (.box [I x1, I y1, I x2, I y2])] [¬ (i < (s.Points.length : Int))] (by kernel_rfl) hB ⟨h1, trivial⟩ ?_
    refine ae_then ?_
    refine aw_false rfl ?_
    refine aw_exit ?_
    refine ae_exit_then ?_
    refine ae_exit_then ?_
    refine ae_exit_same ?_
    refine ae_then ?_
    refine aw_seq ?_
    refine aw_reg [] [2] [2] [.ref 2 0] [some (.box [I x1, I y1, I x2, I y2])] [] (by kernel_rfl) hB trivial ?_
    refine ae_then ?_
    refine aw_ret ?_
    refine ae_ret hB (.agg [I x1, I y1, I x2, I y2]) (by kernel_rfl) (.inl (by rw [← hb1])) rfl (fun _ => (by simp [tagged, taggedL]))


/-- The lengths up to the first k points. -/
def arcsL (xs : List Point) (k : Nat) : List Int := (List.range k).map fun j => sumS xs (j + 1)
theorem arcsL_len (xs : List Point) (k : Nat) : (arcsL xs k).length = k := by simp [arcsL]
theorem arcsL_at {xs : List Point} {k j : Nat} (h : j < k) : at_ (arcsL xs k) j = sumS xs (j + 1) := by simp [at_, arcsL, h]
theorem arcsL_succ (xs : List Point) (k : Nat) : arcsL xs (k + 1) = arcsL xs k ++ [sumS xs (k + 1)] := by simp [arcsL, List.range_succ]
theorem sumS_bd {s : Stroke} (ok : okStroke' s = true) : ∀ k : Nat, k ≤ s.Points.length → 0 ≤ sumS s.Points k ∧ sumS s.Points k ≤ 92659 * k
  | 0, _ => by simp [sumS]
  | k + 1, h => by
    have ih := sumS_bd ok k (by omega)
    unfold sumS
    split
    · omega
    · have := segI_bd (okS_at ok (j := k - 1) (by omega)) (okS_at ok (j := k) (by omega))
      omega

def caretB (s : Stroke) : Bool :=
  let b := boxS s.Points s.Points.length
  decide (0 < b.Y2 - b.Y1) && (decide (b.Y2 - b.Y1 ≤ 2 * ((at_ s.Points 0).Y - b.Y1)) && (decide (b.Y2 - b.Y1 ≤ 2 * ((at_ s.Points (s.Points.length - 1)).Y - b.Y1)) && decide ((revS s.Points s.Points.length).1 = 0)))
/-- The segment from a stroke's first point to its last one. -/
def endsI (s : Stroke) : Int := segI (at_ s.Points 0) (at_ s.Points (s.Points.length - 1))
def strI (s : Stroke) : Int := if sumS s.Points s.Points.length = 0 then 1000 else min 1000 (1000 * endsI s / sumS s.Points s.Points.length)
/-- The gesture of a stroke. -/
def gestI (s : Stroke) : Int :=
  if sumS s.Points s.Points.length ≤ 160 then 1 else if 3 ≤ (revS s.Points s.Points.length).1 then 2
  else if 6 ≤ ((bendT s).natAbs : Int) ∧ 4 * endsI s ≤ sumS s.Points s.Points.length then 3 else if caretB s = true then 4 else if 900 ≤ strI s then 5 else 0
def gestR (s : Stroke) : Int × Int := if okStroke' s then (gestI s, 0) else (0, 1)
theorem ends_bd {s : Stroke} (ok : okStroke' s = true) : 0 ≤ endsI s ∧ endsI s ≤ 92659 := by
  have := okS_len ok
  exact (segI_bd (okS_at ok (by omega)) (okS_at ok (by omega))).2

-- spec.l23Caret
theorem l23Caret_ok (s : Stroke) (ok : okStroke' s = true) : Con Tryd.prog 85 [.ptr false [slPoint false s.Points]] true (Bv (caretB s)) := by
  have hln := okS_len ok
  have hpf := okS_at ok (j := 0) (by omega)
  have hpl := okS_at ok (j := s.Points.length - 1) (by omega)
  have hpf' := okP_iff.1 hpf
  have hpl' := okP_iff.1 hpl
  have hbx := boxS_all ok
  unfold okBox at hbx
  have hsb := sumS_bd ok s.Points.length (Nat.le_refl _)
  have heb := ends_bd ok
  have hle : ((s.Points.length : Int) - 1).toNat = s.Points.length - 1 := by omega
  have hplz : okP (at_ s.Points ((s.Points.length : Int) - 1).toNat) = true := by rw [hle]; exact hpl
  have hplz' := okP_iff.1 hplz
  refine fn_ok (fn := Tryd.f85) (nt := 59) Tryd.func85 rfl rfl rfl rfl (by simp [taggedL, tagged, tagPoint]) fun B hB => ?_
  refine aw_lens (x := .ptr false [slPoint false s.Points]) 0 rfl (fun len_s => ?_)
  simp [LenOK, LenL, cPoint, fPoint, slPoint] at len_s
  refine aw_seq ?_
  refine aw_reg [] [0] [] [.ptr false [slPoint false s.Points]] [] [] (by kernel_rfl) hB trivial ?_
  refine ae_then ?_
  refine aw_seq ?_
  refine aw_reg [(1, .call [(true, .ptr false [slPoint false s.Points])] true (.agg [I ((boxS s.Points s.Points.length).X1), I ((boxS s.Points s.Points.length).Y1), I ((boxS s.Points s.Points.length).X2), I ((boxS s.Points s.Points.length).Y2)])), (2, .new 3)] [0, 3] [3] [.ptr false [slPoint false s.Points], .ref 3 0] [some (.box [I ((boxS s.Points s.Points.length).X1), I ((boxS s.Points s.Points.length).Y1), I ((boxS s.Points s.Points.length).X2), I ((boxS s.Points s.Points.length).Y2)])] [Con Tryd.prog 54 [.ptr false [slPoint false s.Points]] true (.agg [I ((boxS s.Points s.Points.length).X1), I ((boxS s.Points s.Points.length).Y1), I ((boxS s.Points s.Points.length).X2), I ((boxS s.Points s.Points.length).Y2)]) ∧ ((.ptr false [slPoint false s.Points] : AV) = .ptr false [slPoint false s.Points]) ∧ True] (by kernel_rfl) hB ⟨⟨(l02BoxOf_ok s ok), rfl, trivial⟩, trivial⟩ ?_
  refine ae_then ?_
  refine aw_seq ?_
  refine aw_reg [] [0, 3, 4] [3] [.ptr false [slPoint false s.Points], .ref 3 0, I (((boxS s.Points s.Points.length).Y2) - ((boxS s.Points s.Points.length).Y1))] [some (.box [I ((boxS s.Points s.Points.length).X1), I ((boxS s.Points s.Points.length).Y1), I ((boxS s.Points s.Points.length).X2), I ((boxS s.Points s.Points.length).Y2)])] [inR .i64 (((boxS s.Points s.Points.length).Y2) - ((boxS s.Points s.Points.length).Y1))] (by kernel_rfl) hB ⟨(inR_i64 (by omega) (by omega)), trivial⟩ ?_
  refine ae_then ?_
  refine aw_seq ?_
  refine aw_reg [] [0, 3, 4, 5] [3] [.ptr false [slPoint false s.Points], .ref 3 0, I (((boxS s.Points s.Points.length).Y2) - ((boxS s.Points s.Points.length).Y1)), I (((at_ s.Points 0).Y) - ((boxS s.Points s.Points.length).Y1))] [some (.box [I ((boxS s.Points s.Points.length).X1), I ((boxS s.Points s.Points.length).Y1), I ((boxS s.Points s.Points.length).X2), I ((boxS s.Points s.Points.length).Y2)])] [(0 : Int) ≤ 0 ∧ 0 < (s.Points.length : Int), inR .i64 (((at_ s.Points 0).Y) - ((boxS s.Points s.Points.length).Y1))] (by kernel_rfl) hB ⟨⟨(by omega), (by omega)⟩, (inR_i64 (by omega) (by omega)), trivial⟩ ?_
  refine ae_then ?_
  refine aw_seq ?_
  refine aw_reg [] [0, 4, 5, 6] [] [.ptr false [slPoint false s.Points], I (((boxS s.Points s.Points.length).Y2) - ((boxS s.Points s.Points.length).Y1)), I (((at_ s.Points 0).Y) - ((boxS s.Points s.Points.length).Y1)), I (((at_ s.Points (((s.Points.length : Int) - 1).toNat)).Y) - ((boxS s.Points s.Points.length).Y1))] [] [inR .i64 ((s.Points.length : Int) - 1), (0 : Int) ≤ ((s.Points.length : Int) - 1) ∧ ((s.Points.length : Int) - 1) < (s.Points.length : Int), inR .i64 (((at_ s.Points (((s.Points.length : Int) - 1).toNat)).Y) - ((boxS s.Points s.Points.length).Y1))] (by kernel_rfl) hB ⟨(inR_i64 (by omega) (by omega)), ⟨(by omega), (by omega)⟩, (inR_i64 (by omega) (by omega)), trivial⟩ ?_
  refine ae_then ?_
  refine aw_seq ?_
  by_cases h1 : 0 < (((boxS s.Points s.Points.length).Y2) - ((boxS s.Points s.Points.length).Y1))
  · by_cases h2 : (((boxS s.Points s.Points.length).Y2) - ((boxS s.Points s.Points.length).Y1)) ≤ (2 * (((at_ s.Points 0).Y) - ((boxS s.Points s.Points.length).Y1)))
    · by_cases h3 : (((boxS s.Points s.Points.length).Y2) - ((boxS s.Points s.Points.length).Y1)) ≤ (2 * (((at_ s.Points (((s.Points.length : Int) - 1).toNat)).Y) - ((boxS s.Points s.Points.length).Y1)))
      · refine aw_reg [(1, .dec true), (6, .dec true), (12, .dec true), (16, .call [(true, .ptr false [slPoint false s.Points])] true (I ((revS s.Points s.Points.length).1)))] [2] [] [Bv (decide (((revS s.Points s.Points.length).1) = 0))] [] [0 < (((boxS s.Points s.Points.length).Y2) - ((boxS s.Points s.Points.length).Y1)), inR .i64 (2 * (((at_ s.Points 0).Y) - ((boxS s.Points s.Points.length).Y1))), (((boxS s.Points s.Points.length).Y2) - ((boxS s.Points s.Points.length).Y1)) ≤ (2 * (((at_ s.Points 0).Y) - ((boxS s.Points s.Points.length).Y1))), inR .i64 (2 * (((at_ s.Points (((s.Points.length : Int) - 1).toNat)).Y) - ((boxS s.Points s.Points.length).Y1))), (((boxS s.Points s.Points.length).Y2) - ((boxS s.Points s.Points.length).Y1)) ≤ (2 * (((at_ s.Points (((s.Points.length : Int) - 1).toNat)).Y) - ((boxS s.Points s.Points.length).Y1))), Con Tryd.prog 80 [.ptr false [slPoint false s.Points]] true (I ((revS s.Points s.Points.length).1)) ∧ ((.ptr false [slPoint false s.Points] : AV) = .ptr false [slPoint false s.Points]) ∧ True] (by kernel_rfl) hB ⟨h1, (inR_i64 (by omega) (by omega)), h2, (inR_i64 (by omega) (by omega)), h3, ⟨(l23Reversals_ok s ok), rfl, trivial⟩, trivial⟩ ?_
        refine ae_then ?_
        refine aw_ret ?_
        refine ae_ret hB (Bv (decide (((revS s.Points s.Points.length).1) = 0))) (by kernel_rfl) (.inl (by refine congrArg Bv ?_; unfold caretB; simp only [hle] at *; rw [Bool.eq_iff_iff]; simp_all; try omega)) rfl (fun _ => trivial)
      · refine aw_reg [(1, .dec true), (6, .dec true), (12, .dec false)] [2] [] [Bv false] [] [0 < (((boxS s.Points s.Points.length).Y2) - ((boxS s.Points s.Points.length).Y1)), inR .i64 (2 * (((at_ s.Points 0).Y) - ((boxS s.Points s.Points.length).Y1))), (((boxS s.Points s.Points.length).Y2) - ((boxS s.Points s.Points.length).Y1)) ≤ (2 * (((at_ s.Points 0).Y) - ((boxS s.Points s.Points.length).Y1))), inR .i64 (2 * (((at_ s.Points (((s.Points.length : Int) - 1).toNat)).Y) - ((boxS s.Points s.Points.length).Y1))), ¬ ((((boxS s.Points s.Points.length).Y2) - ((boxS s.Points s.Points.length).Y1)) ≤ (2 * (((at_ s.Points (((s.Points.length : Int) - 1).toNat)).Y) - ((boxS s.Points s.Points.length).Y1))))] (by kernel_rfl) hB ⟨h1, (inR_i64 (by omega) (by omega)), h2, (inR_i64 (by omega) (by omega)), h3, trivial⟩ ?_
        refine ae_then ?_
        refine aw_ret ?_
        refine ae_ret hB (Bv false) (by kernel_rfl) (.inl (by refine congrArg Bv ?_; unfold caretB; simp only [hle] at *; rw [Bool.eq_iff_iff]; simp_all; try omega)) rfl (fun _ => trivial)
    · refine aw_reg [(1, .dec true), (6, .dec false)] [2] [] [Bv false] [] [0 < (((boxS s.Points s.Points.length).Y2) - ((boxS s.Points s.Points.length).Y1)), inR .i64 (2 * (((at_ s.Points 0).Y) - ((boxS s.Points s.Points.length).Y1))), ¬ ((((boxS s.Points s.Points.length).Y2) - ((boxS s.Points s.Points.length).Y1)) ≤ (2 * (((at_ s.Points 0).Y) - ((boxS s.Points s.Points.length).Y1))))] (by kernel_rfl) hB ⟨h1, (inR_i64 (by omega) (by omega)), h2, trivial⟩ ?_
      refine ae_then ?_
      refine aw_ret ?_
      refine ae_ret hB (Bv false) (by kernel_rfl) (.inl (by refine congrArg Bv ?_; unfold caretB; simp only [hle] at *; rw [Bool.eq_iff_iff]; simp_all; try omega)) rfl (fun _ => trivial)
  · refine aw_reg [(1, .dec false)] [2] [] [Bv false] [] [¬ (0 < (((boxS s.Points s.Points.length).Y2) - ((boxS s.Points s.Points.length).Y1)))] (by kernel_rfl) hB ⟨h1, trivial⟩ ?_
    refine ae_then ?_
    refine aw_ret ?_
    refine ae_ret hB (Bv false) (by kernel_rfl) (.inl (by refine congrArg Bv ?_; unfold caretB; simp only [hle] at *; rw [Bool.eq_iff_iff]; simp_all; try omega)) rfl (fun _ => trivial)


-- spec.l05Straight
theorem l05Straight_ok (s : Stroke) (ok : okStroke' s = true) : Con Tryd.prog 86 [.ptr false [slPoint false s.Points]] true (I (strI s)) := by
  have hln := okS_len ok
  have hpf := okS_at ok (j := 0) (by omega)
  have hpl := okS_at ok (j := s.Points.length - 1) (by omega)
  have hpf' := okP_iff.1 hpf
  have hpl' := okP_iff.1 hpl
  have hbx := boxS_all ok
  unfold okBox at hbx
  have hsb := sumS_bd ok s.Points.length (Nat.le_refl _)
  have heb := ends_bd ok
  have hle : ((s.Points.length : Int) - 1).toNat = s.Points.length - 1 := by omega
  have hplz : okP (at_ s.Points ((s.Points.length : Int) - 1).toNat) = true := by rw [hle]; exact hpl
  have hplz' := okP_iff.1 hplz
  have heb2 := segI_bd hpf hplz
  have heb3 := segI_bd hpf hpl
  refine fn_ok (fn := Tryd.f86) (nt := 31) Tryd.func86 rfl rfl rfl rfl (by simp [taggedL, tagged, tagPoint]) fun B hB => ?_
  refine aw_lens (x := .ptr false [slPoint false s.Points]) 0 rfl (fun len_s => ?_)
  simp [LenOK, LenL, cPoint, fPoint, slPoint] at len_s
  refine aw_seq ?_
  refine aw_reg [] [0] [] [.ptr false [slPoint false s.Points]] [] [] (by kernel_rfl) hB trivial ?_
  refine ae_then ?_
  refine aw_seq ?_
  refine aw_reg [(1, .call [(true, .ptr false [slPoint false s.Points])] true (I (sumS s.Points s.Points.length)))] [0, 3] [] [.ptr false [slPoint false s.Points], I (sumS s.Points s.Points.length)] [] [Con Tryd.prog 79 [.ptr false [slPoint false s.Points]] true (I (sumS s.Points s.Points.length)) ∧ ((.ptr false [slPoint false s.Points] : AV) = .ptr false [slPoint false s.Points]) ∧ True] (by kernel_rfl) hB ⟨⟨(l05Sum_ok s ok), rfl, trivial⟩, trivial⟩ ?_
  refine ae_then ?_
  refine aw_seq ?_
  refine aw_seq ?_
  by_cases h1 : (sumS s.Points s.Points.length) = 0
  · refine aw_reg [(1, .dec true)] [0, 3, 7] [] [.ptr false [slPoint false s.Points], I (sumS s.Points s.Points.length), Bv true] [] [(sumS s.Points s.Points.length) = 0] (by kernel_rfl) hB ⟨h1, trivial⟩ ?_
    refine ae_then ?_
    refine aw_true rfl ?_
    refine aw_seq ?_
    refine aw_reg [] [2] [] [I 1000] [] [] (by kernel_rfl) hB trivial ?_
    refine ae_then ?_
    refine aw_ret ?_
    refine ae_ret_then ?_
    refine ae_ret hB (I 1000) (by kernel_rfl) (.inl (by refine congrArg I ?_; unfold strI endsI; simp_all [hle])) rfl (fun _ => trivial)
  · refine aw_reg [(1, .dec false)] [0, 3, 7] [] [.ptr false [slPoint false s.Points], I (sumS s.Points s.Points.length), Bv false] [] [¬ ((sumS s.Points s.Points.length) = 0)] (by kernel_rfl) hB ⟨h1, trivial⟩ ?_
    refine ae_then ?_
    refine aw_false rfl ?_
    refine aw_skip ?_
    refine ae_then ?_
    refine aw_seq ?_
    refine aw_reg [(18, .call [(true, .agg [I ((at_ s.Points 0).X), I ((at_ s.Points 0).Y), I ((at_ s.Points 0).T)]), (true, .agg [I ((at_ s.Points (((s.Points.length : Int) - 1).toNat)).X), I ((at_ s.Points (((s.Points.length : Int) - 1).toNat)).Y), I ((at_ s.Points (((s.Points.length : Int) - 1).toNat)).T)])] true (I (segI (at_ s.Points 0) (at_ s.Points (((s.Points.length : Int) - 1).toNat))))), (21, .nn), (22, .call [(true, I 1000), (true, I ((1000 * (segI (at_ s.Points 0) (at_ s.Points (((s.Points.length : Int) - 1).toNat)))) / (sumS s.Points s.Points.length)))] true (I (min 1000 ((1000 * (segI (at_ s.Points 0) (at_ s.Points (((s.Points.length : Int) - 1).toNat)))) / (sumS s.Points s.Points.length)))))] [2] [] [I (min 1000 ((1000 * (segI (at_ s.Points 0) (at_ s.Points (((s.Points.length : Int) - 1).toNat)))) / (sumS s.Points s.Points.length)))] [] [(0 : Int) ≤ 0 ∧ 0 < (s.Points.length : Int), inR .i64 ((s.Points.length : Int) - 1), (0 : Int) ≤ ((s.Points.length : Int) - 1) ∧ ((s.Points.length : Int) - 1) < (s.Points.length : Int), Con Tryd.prog 84 [.agg [I ((at_ s.Points 0).X), I ((at_ s.Points 0).Y), I ((at_ s.Points 0).T)], .agg [I ((at_ s.Points (((s.Points.length : Int) - 1).toNat)).X), I ((at_ s.Points (((s.Points.length : Int) - 1).toNat)).Y), I ((at_ s.Points (((s.Points.length : Int) - 1).toNat)).T)]] true (I (segI (at_ s.Points 0) (at_ s.Points (((s.Points.length : Int) - 1).toNat)))) ∧ ((.agg [I ((at_ s.Points 0).X), I ((at_ s.Points 0).Y), I ((at_ s.Points 0).T)] : AV) = .agg [I ((at_ s.Points 0).X), I ((at_ s.Points 0).Y), I ((at_ s.Points 0).T)]) ∧ ((.agg [I ((at_ s.Points (((s.Points.length : Int) - 1).toNat)).X), I ((at_ s.Points (((s.Points.length : Int) - 1).toNat)).Y), I ((at_ s.Points (((s.Points.length : Int) - 1).toNat)).T)] : AV) = .agg [I ((at_ s.Points (((s.Points.length : Int) - 1).toNat)).X), I ((at_ s.Points (((s.Points.length : Int) - 1).toNat)).Y), I ((at_ s.Points (((s.Points.length : Int) - 1).toNat)).T)]) ∧ True, inR .i64 (1000 * (segI (at_ s.Points 0) (at_ s.Points (((s.Points.length : Int) - 1).toNat)))), (0 : Int) ≤ (1000 * (segI (at_ s.Points 0) (at_ s.Points (((s.Points.length : Int) - 1).toNat)))) ∧ (0 : Int) < (sumS s.Points s.Points.length) ∧ inR .i64 (1000 * (segI (at_ s.Points 0) (at_ s.Points (((s.Points.length : Int) - 1).toNat)))), Con Tryd.prog 99 [I 1000, I ((1000 * (segI (at_ s.Points 0) (at_ s.Points (((s.Points.length : Int) - 1).toNat)))) / (sumS s.Points s.Points.length))] true (I (min 1000 ((1000 * (segI (at_ s.Points 0) (at_ s.Points (((s.Points.length : Int) - 1).toNat)))) / (sumS s.Points s.Points.length)))) ∧ ((I 1000 : AV) = I 1000) ∧ ((I ((1000 * (segI (at_ s.Points 0) (at_ s.Points (((s.Points.length : Int) - 1).toNat)))) / (sumS s.Points s.Points.length)) : AV) = I ((1000 * (segI (at_ s.Points 0) (at_ s.Points (((s.Points.length : Int) - 1).toNat)))) / (sumS s.Points s.Points.length))) ∧ True] (by kernel_rfl) hB ⟨⟨(by omega), (by omega)⟩, (inR_i64 (by omega) (by omega)), ⟨(by omega), (by omega)⟩, ⟨(l05Length_ok (at_ s.Points 0) (at_ s.Points (((s.Points.length : Int) - 1).toNat)) (by assumption) (by assumption)), rfl, rfl, trivial⟩, (inR_i64 (by omega) (by omega)), ⟨(by omega), (by omega), (inR_i64 (by omega) (by omega))⟩, ⟨(l00Min_ok 1000 ((1000 * (segI (at_ s.Points 0) (at_ s.Points (((s.Points.length : Int) - 1).toNat)))) / (sumS s.Points s.Points.length))), rfl, rfl, trivial⟩, trivial⟩ ?_
    refine ae_then ?_
    refine aw_ret ?_
    refine ae_ret hB (I (min 1000 ((1000 * (segI (at_ s.Points 0) (at_ s.Points (((s.Points.length : Int) - 1).toNat)))) / (sumS s.Points s.Points.length)))) (by kernel_rfl) (.inl (by refine congrArg I ?_; unfold strI endsI; simp_all [hle])) rfl (fun _ => trivial)


-- spec.l23Gesture
theorem l23Gesture_ok (s : Stroke) (ok : okStroke' s = true) : Con Tryd.prog 53 [.ptr false [slPoint false s.Points]] true (I (gestI s)) := by
  have hln := okS_len ok
  have hpf := okS_at ok (j := 0) (by omega)
  have hpl := okS_at ok (j := s.Points.length - 1) (by omega)
  have hpf' := okP_iff.1 hpf
  have hpl' := okP_iff.1 hpl
  have hbx := boxS_all ok
  unfold okBox at hbx
  have hsb := sumS_bd ok s.Points.length (Nat.le_refl _)
  have heb := ends_bd ok
  have hle : ((s.Points.length : Int) - 1).toNat = s.Points.length - 1 := by omega
  have hplz : okP (at_ s.Points ((s.Points.length : Int) - 1).toNat) = true := by rw [hle]; exact hpl
  have hplz' := okP_iff.1 hplz
  have heb2 := segI_bd hpf hplz
  have heb3 := segI_bd hpf hpl
  have hdl := dirsL_len s.Points s.Points.length
  have hbtb := bendT_bd ok
  refine fn_ok (fn := Tryd.f53) (nt := 66) Tryd.func53 rfl rfl rfl rfl (by simp [taggedL, tagged, tagPoint]) fun B hB => ?_
  refine aw_lens (x := .ptr false [slPoint false s.Points]) 0 rfl (fun len_s => ?_)
  simp [LenOK, LenL, cPoint, fPoint, slPoint] at len_s
  refine aw_seq ?_
  refine aw_reg [] [0] [] [.ptr false [slPoint false s.Points]] [] [] (by kernel_rfl) hB trivial ?_
  refine ae_then ?_
  refine aw_seq ?_
  refine aw_reg [(1, .call [(true, .ptr false [slPoint false s.Points])] true (I (sumS s.Points s.Points.length)))] [0, 3] [] [.ptr false [slPoint false s.Points], I (sumS s.Points s.Points.length)] [] [Con Tryd.prog 79 [.ptr false [slPoint false s.Points]] true (I (sumS s.Points s.Points.length)) ∧ ((.ptr false [slPoint false s.Points] : AV) = .ptr false [slPoint false s.Points]) ∧ True] (by kernel_rfl) hB ⟨⟨(l05Sum_ok s ok), rfl, trivial⟩, trivial⟩ ?_
  refine ae_then ?_
  refine aw_seq ?_
  refine aw_seq ?_
  by_cases h1 : (sumS s.Points s.Points.length) ≤ 160
  · refine aw_reg [(1, .dec true)] [0, 3, 10] [] [.ptr false [slPoint false s.Points], I (sumS s.Points s.Points.length), Bv true] [] [(sumS s.Points s.Points.length) ≤ 160] (by kernel_rfl) hB ⟨h1, trivial⟩ ?_
    refine ae_then ?_
    refine aw_true rfl ?_
    refine aw_seq ?_
    refine aw_reg [] [2] [] [I 1] [] [] (by kernel_rfl) hB trivial ?_
    refine ae_then ?_
    refine aw_ret ?_
    refine ae_ret_then ?_
    refine ae_ret hB (I 1) (by kernel_rfl) (.inl (by refine congrArg I ?_; unfold gestI endsI; simp_all [hle]; try omega)) rfl (fun _ => trivial)
  · refine aw_reg [(1, .dec false)] [0, 3, 10] [] [.ptr false [slPoint false s.Points], I (sumS s.Points s.Points.length), Bv false] [] [¬ ((sumS s.Points s.Points.length) ≤ 160)] (by kernel_rfl) hB ⟨h1, trivial⟩ ?_
    refine ae_then ?_
    refine aw_false rfl ?_
    refine aw_skip ?_
    refine ae_then ?_
    refine aw_seq ?_
    refine aw_seq ?_
    by_cases h2 : 3 ≤ ((revS s.Points s.Points.length).1)
    · refine aw_reg [(1, .call [(true, .ptr false [slPoint false s.Points])] true (I ((revS s.Points s.Points.length).1))), (2, .dec true)] [0, 3, 13] [] [.ptr false [slPoint false s.Points], I (sumS s.Points s.Points.length), Bv true] [] [Con Tryd.prog 80 [.ptr false [slPoint false s.Points]] true (I ((revS s.Points s.Points.length).1)) ∧ ((.ptr false [slPoint false s.Points] : AV) = .ptr false [slPoint false s.Points]) ∧ True, 3 ≤ ((revS s.Points s.Points.length).1)] (by kernel_rfl) hB ⟨⟨(l23Reversals_ok s ok), rfl, trivial⟩, h2, trivial⟩ ?_
      refine ae_then ?_
      refine aw_true rfl ?_
      refine aw_seq ?_
      refine aw_reg [] [2] [] [I 2] [] [] (by kernel_rfl) hB trivial ?_
      refine ae_then ?_
      refine aw_ret ?_
      refine ae_ret_then ?_
      refine ae_ret hB (I 2) (by kernel_rfl) (.inl (by refine congrArg I ?_; unfold gestI endsI; simp_all [hle]; try omega)) rfl (fun _ => trivial)
    · refine aw_reg [(1, .call [(true, .ptr false [slPoint false s.Points])] true (I ((revS s.Points s.Points.length).1))), (2, .dec false)] [0, 3, 13] [] [.ptr false [slPoint false s.Points], I (sumS s.Points s.Points.length), Bv false] [] [Con Tryd.prog 80 [.ptr false [slPoint false s.Points]] true (I ((revS s.Points s.Points.length).1)) ∧ ((.ptr false [slPoint false s.Points] : AV) = .ptr false [slPoint false s.Points]) ∧ True, ¬ (3 ≤ ((revS s.Points s.Points.length).1))] (by kernel_rfl) hB ⟨⟨(l23Reversals_ok s ok), rfl, trivial⟩, h2, trivial⟩ ?_
      refine ae_then ?_
      refine aw_false rfl ?_
      refine aw_skip ?_
      refine ae_then ?_
      refine aw_seq ?_
      refine aw_reg [(1, .call [(true, .ptr false [slPoint false s.Points])] true (slI true (dirsL s.Points s.Points.length)))] [0, 3, 4] [] [.ptr false [slPoint false s.Points], I (sumS s.Points s.Points.length), slI true (dirsL s.Points s.Points.length)] [] [Con Tryd.prog 81 [.ptr false [slPoint false s.Points]] true (slI true (dirsL s.Points s.Points.length)) ∧ ((.ptr false [slPoint false s.Points] : AV) = .ptr false [slPoint false s.Points]) ∧ True] (by kernel_rfl) hB ⟨⟨(l05Directions_ok s ok), rfl, trivial⟩, trivial⟩ ?_
      refine ae_then ?_
      refine aw_seq ?_
      refine aw_reg [] [0, 3, 4, 5] [] [.ptr false [slPoint false s.Points], I (sumS s.Points s.Points.length), slI true (dirsL s.Points s.Points.length), I 0] [] [] (by kernel_rfl) hB trivial ?_
      refine ae_then ?_
      refine aw_seq ?_
      refine aw_seq ?_
      refine aw_reg [] [0, 3, 4, 5, 6] [] [.ptr false [slPoint false s.Points], I (sumS s.Points s.Points.length), slI true (dirsL s.Points s.Points.length), I 0, I 1] [] [] (by kernel_rfl) hB trivial ?_
      refine ae_then ?_
      refine aw_block ?_
      refine aw_loop (fun gn gσ => ∃ (bend : Int) (i : Int), gn = (((dirsL s.Points s.Points.length).length : Int) - i).toNat ∧ (1 ≤ i ∧ (i ≤ ((dirsL s.Points s.Points.length).length : Int) ∨ i = 1)) ∧ (bend = bendS (dirsL s.Points s.Points.length) i.toNat) ∧ (-3 * i ≤ bend ∧ bend ≤ 4 * i) ∧ gσ = mkS [(0, .ptr false [slPoint false s.Points]), (3, I (sumS s.Points s.Points.length)), (4, slI true (dirsL s.Points s.Points.length)), (5, I bend), (6, I i)] []) ((((dirsL s.Points s.Points.length).length : Int) - 1).toNat) ⟨0, 1, rfl, (by omega), (by exact (bendS_one _ _ (by decide)).symm), (by omega), rfl⟩ (fun gn gσ hI => ?_)
      obtain ⟨bend, i, rfl, hb0, hb1, hb2, rfl⟩ := hI
      refine aw_seq ?_
      refine aw_seq ?_
      by_cases h3 : i < (((dirsL s.Points s.Points.length).length) : Int)
      · have hi : i.toNat < (dirsL s.Points s.Points.length).length := by omega
        have hi2 : (i - 1).toNat < (dirsL s.Points s.Points.length).length := by omega
        have hd1 := dirsL_bd _ _ _ hi
        have hd2 := dirsL_bd _ _ _ hi2
        have hbb := bendI_bd (at_ (dirsL s.Points s.Points.length) (i - 1).toNat) (at_ (dirsL s.Points s.Points.length) i.toNat)
        refine aw_reg [(3, .dec true)] [0, 3, 4, 5, 6, 19] [] [.ptr false [slPoint false s.Points], I (sumS s.Points s.Points.length), slI true (dirsL s.Points s.Points.length), I bend, I i, Bv true] [] [i < (((dirsL s.Points s.Points.length).length) : Int)] (by kernel_rfl) hB ⟨h3, trivial⟩ ?_
        refine ae_then ?_
        refine aw_true rfl ?_
        refine aw_skip ?_
        refine ae_then ?_
        refine aw_seq ?_
        refine aw_block ?_
        refine aw_reg [(10, .call [(true, I (at_ (dirsL s.Points s.Points.length) ((i - 1).toNat))), (true, I (at_ (dirsL s.Points s.Points.length) i.toNat))] true (I (bendI (at_ (dirsL s.Points s.Points.length) ((i - 1).toNat)) (at_ (dirsL s.Points s.Points.length) i.toNat))))] [0, 3, 4, 5, 6] [] [.ptr false [slPoint false s.Points], I (sumS s.Points s.Points.length), slI true (dirsL s.Points s.Points.length), I (bend + (bendI (at_ (dirsL s.Points s.Points.length) ((i - 1).toNat)) (at_ (dirsL s.Points s.Points.length) i.toNat))), I i] [] [inR .i64 (i - 1), (0 : Int) ≤ (i - 1) ∧ (i - 1) < (((dirsL s.Points s.Points.length).length) : Int), (0 : Int) ≤ i ∧ i < (((dirsL s.Points s.Points.length).length) : Int), Con Tryd.prog 82 [I (at_ (dirsL s.Points s.Points.length) ((i - 1).toNat)), I (at_ (dirsL s.Points s.Points.length) i.toNat)] true (I (bendI (at_ (dirsL s.Points s.Points.length) ((i - 1).toNat)) (at_ (dirsL s.Points s.Points.length) i.toNat))) ∧ ((I (at_ (dirsL s.Points s.Points.length) ((i - 1).toNat)) : AV) = I (at_ (dirsL s.Points s.Points.length) ((i - 1).toNat))) ∧ ((I (at_ (dirsL s.Points s.Points.length) i.toNat) : AV) = I (at_ (dirsL s.Points s.Points.length) i.toNat)) ∧ True, inR .i64 (bend + (bendI (at_ (dirsL s.Points s.Points.length) ((i - 1).toNat)) (at_ (dirsL s.Points s.Points.length) i.toNat)))] (by kernel_rfl) hB ⟨(inR_i64 (by omega) (by omega)), ⟨(by omega), (by omega)⟩, ⟨(by omega), (by omega)⟩, ⟨(l05Bend_ok (at_ (dirsL s.Points s.Points.length) ((i - 1).toNat)) (at_ (dirsL s.Points s.Points.length) i.toNat) (by omega) (by omega)), rfl, rfl, trivial⟩, (inR_i64 (by omega) (by omega)), trivial⟩ ?_
        refine ae_block 1 ?_
        refine ae_then ?_
        refine aw_reg [] [0, 3, 4, 5, 6] [] [.ptr false [slPoint false s.Points], I (sumS s.Points s.Points.length), slI true (dirsL s.Points s.Points.length), I (bend + (bendI (at_ (dirsL s.Points s.Points.length) ((i - 1).toNat)) (at_ (dirsL s.Points s.Points.length) i.toNat))), I (i + 1)] [] [inR .i64 (i + 1)] (by kernel_rfl) hB ⟨(inR_i64 (by omega) (by omega)), trivial⟩ ?_
        exact ae_again _ (by omega) ⟨(bend + (bendI (at_ (dirsL s.Points s.Points.length) ((i - 1).toNat)) (at_ (dirsL s.Points s.Points.length) i.toNat))), (i + 1), rfl, (by omega), (by rw [bendS_succ hb0.1, ← hb1] <;> first | rfl | (unfold bendI; omega)), (by first | omega | (unfold bendI at *; omega)), rfl⟩
      · have hbt : bend = bendT s := by rw [hb1]; unfold bendT; by_cases e : i = 1; (subst e; rw [bendS_one _ _ (by omega), bendS_one _ _ (by omega)]); (congr 1; omega)
        refine aw_reg [(3, .dec false)] [0, 3, 4, 5, 6, 19] [] [.ptr false [slPoint false s.Points], I (sumS s.Points s.Points.length), slI true (dirsL s.Points s.Points.length), I bend, I i, Bv false] [] [¬ (i < (((dirsL s.Points s.Points.length).length) : Int))] (by kernel_rfl) hB ⟨h3, trivial⟩ ?_
        refine ae_then ?_
        refine aw_false rfl ?_
        refine aw_exit ?_
        refine ae_exit_then ?_
        refine ae_exit_then ?_
        refine ae_exit_same ?_
        refine ae_then ?_
        refine aw_seq ?_
        refine aw_seq ?_
        by_cases h4 : 6 ≤ (bend.natAbs : Int)
        · by_cases h5 : (4 * (segI (at_ s.Points 0) (at_ s.Points (((s.Points.length : Int) - 1).toNat)))) ≤ (sumS s.Points s.Points.length)
          · refine aw_reg [(1, .call [(true, I bend)] true (I (bend.natAbs : Int))), (2, .dec true), (22, .call [(true, .agg [I ((at_ s.Points 0).X), I ((at_ s.Points 0).Y), I ((at_ s.Points 0).T)]), (true, .agg [I ((at_ s.Points (((s.Points.length : Int) - 1).toNat)).X), I ((at_ s.Points (((s.Points.length : Int) - 1).toNat)).Y), I ((at_ s.Points (((s.Points.length : Int) - 1).toNat)).T)])] true (I (segI (at_ s.Points 0) (at_ s.Points (((s.Points.length : Int) - 1).toNat))))), (25, .dec true)] [0, 60] [] [.ptr false [slPoint false s.Points], Bv true] [] [Con Tryd.prog 83 [I bend] true (I (bend.natAbs : Int)) ∧ ((I bend : AV) = I bend) ∧ True, 6 ≤ (bend.natAbs : Int), (0 : Int) ≤ 0 ∧ 0 < (s.Points.length : Int), inR .i64 ((s.Points.length : Int) - 1), (0 : Int) ≤ ((s.Points.length : Int) - 1) ∧ ((s.Points.length : Int) - 1) < (s.Points.length : Int), Con Tryd.prog 84 [.agg [I ((at_ s.Points 0).X), I ((at_ s.Points 0).Y), I ((at_ s.Points 0).T)], .agg [I ((at_ s.Points (((s.Points.length : Int) - 1).toNat)).X), I ((at_ s.Points (((s.Points.length : Int) - 1).toNat)).Y), I ((at_ s.Points (((s.Points.length : Int) - 1).toNat)).T)]] true (I (segI (at_ s.Points 0) (at_ s.Points (((s.Points.length : Int) - 1).toNat)))) ∧ ((.agg [I ((at_ s.Points 0).X), I ((at_ s.Points 0).Y), I ((at_ s.Points 0).T)] : AV) = .agg [I ((at_ s.Points 0).X), I ((at_ s.Points 0).Y), I ((at_ s.Points 0).T)]) ∧ ((.agg [I ((at_ s.Points (((s.Points.length : Int) - 1).toNat)).X), I ((at_ s.Points (((s.Points.length : Int) - 1).toNat)).Y), I ((at_ s.Points (((s.Points.length : Int) - 1).toNat)).T)] : AV) = .agg [I ((at_ s.Points (((s.Points.length : Int) - 1).toNat)).X), I ((at_ s.Points (((s.Points.length : Int) - 1).toNat)).Y), I ((at_ s.Points (((s.Points.length : Int) - 1).toNat)).T)]) ∧ True, inR .i64 (4 * (segI (at_ s.Points 0) (at_ s.Points (((s.Points.length : Int) - 1).toNat)))), (4 * (segI (at_ s.Points 0) (at_ s.Points (((s.Points.length : Int) - 1).toNat)))) ≤ (sumS s.Points s.Points.length)] (by kernel_rfl) hB ⟨⟨(l05Size_ok bend (by omega)), rfl, trivial⟩, h4, ⟨(by omega), (by omega)⟩, (inR_i64 (by omega) (by omega)), ⟨(by omega), (by omega)⟩, ⟨(l05Length_ok (at_ s.Points 0) (at_ s.Points (((s.Points.length : Int) - 1).toNat)) (by assumption) (by assumption)), rfl, rfl, trivial⟩, (inR_i64 (by omega) (by omega)), h5, trivial⟩ ?_
            refine ae_then ?_
            refine aw_true rfl ?_
            refine aw_seq ?_
            refine aw_reg [] [2] [] [I 3] [] [] (by kernel_rfl) hB trivial ?_
            refine ae_then ?_
            refine aw_ret ?_
            refine ae_ret_then ?_
            refine ae_ret hB (I 3) (by kernel_rfl) (.inl (by refine congrArg I ?_; unfold gestI endsI; simp_all [hle]; try omega)) rfl (fun _ => trivial)
          · refine aw_reg [(1, .call [(true, I bend)] true (I (bend.natAbs : Int))), (2, .dec true), (22, .call [(true, .agg [I ((at_ s.Points 0).X), I ((at_ s.Points 0).Y), I ((at_ s.Points 0).T)]), (true, .agg [I ((at_ s.Points (((s.Points.length : Int) - 1).toNat)).X), I ((at_ s.Points (((s.Points.length : Int) - 1).toNat)).Y), I ((at_ s.Points (((s.Points.length : Int) - 1).toNat)).T)])] true (I (segI (at_ s.Points 0) (at_ s.Points (((s.Points.length : Int) - 1).toNat))))), (25, .dec false)] [0, 60] [] [.ptr false [slPoint false s.Points], Bv false] [] [Con Tryd.prog 83 [I bend] true (I (bend.natAbs : Int)) ∧ ((I bend : AV) = I bend) ∧ True, 6 ≤ (bend.natAbs : Int), (0 : Int) ≤ 0 ∧ 0 < (s.Points.length : Int), inR .i64 ((s.Points.length : Int) - 1), (0 : Int) ≤ ((s.Points.length : Int) - 1) ∧ ((s.Points.length : Int) - 1) < (s.Points.length : Int), Con Tryd.prog 84 [.agg [I ((at_ s.Points 0).X), I ((at_ s.Points 0).Y), I ((at_ s.Points 0).T)], .agg [I ((at_ s.Points (((s.Points.length : Int) - 1).toNat)).X), I ((at_ s.Points (((s.Points.length : Int) - 1).toNat)).Y), I ((at_ s.Points (((s.Points.length : Int) - 1).toNat)).T)]] true (I (segI (at_ s.Points 0) (at_ s.Points (((s.Points.length : Int) - 1).toNat)))) ∧ ((.agg [I ((at_ s.Points 0).X), I ((at_ s.Points 0).Y), I ((at_ s.Points 0).T)] : AV) = .agg [I ((at_ s.Points 0).X), I ((at_ s.Points 0).Y), I ((at_ s.Points 0).T)]) ∧ ((.agg [I ((at_ s.Points (((s.Points.length : Int) - 1).toNat)).X), I ((at_ s.Points (((s.Points.length : Int) - 1).toNat)).Y), I ((at_ s.Points (((s.Points.length : Int) - 1).toNat)).T)] : AV) = .agg [I ((at_ s.Points (((s.Points.length : Int) - 1).toNat)).X), I ((at_ s.Points (((s.Points.length : Int) - 1).toNat)).Y), I ((at_ s.Points (((s.Points.length : Int) - 1).toNat)).T)]) ∧ True, inR .i64 (4 * (segI (at_ s.Points 0) (at_ s.Points (((s.Points.length : Int) - 1).toNat)))), ¬ ((4 * (segI (at_ s.Points 0) (at_ s.Points (((s.Points.length : Int) - 1).toNat)))) ≤ (sumS s.Points s.Points.length))] (by kernel_rfl) hB ⟨⟨(l05Size_ok bend (by omega)), rfl, trivial⟩, h4, ⟨(by omega), (by omega)⟩, (inR_i64 (by omega) (by omega)), ⟨(by omega), (by omega)⟩, ⟨(l05Length_ok (at_ s.Points 0) (at_ s.Points (((s.Points.length : Int) - 1).toNat)) (by assumption) (by assumption)), rfl, rfl, trivial⟩, (inR_i64 (by omega) (by omega)), h5, trivial⟩ ?_
            refine ae_then ?_
            refine aw_false rfl ?_
            refine aw_skip ?_
            refine ae_then ?_
            refine aw_seq ?_
            refine aw_seq ?_
            rcases Bool.eq_false_or_eq_true (caretB s) with h6 | h6
            · refine aw_reg [(1, .call [(true, .ptr false [slPoint false s.Points])] true (Bv true))] [0, 62] [] [.ptr false [slPoint false s.Points], Bv true] [] [Con Tryd.prog 85 [.ptr false [slPoint false s.Points]] true (Bv true) ∧ ((.ptr false [slPoint false s.Points] : AV) = .ptr false [slPoint false s.Points]) ∧ True] (by kernel_rfl) hB ⟨⟨(con_bool h6 (l23Caret_ok s ok)), rfl, trivial⟩, trivial⟩ ?_
              refine ae_then ?_
              refine aw_true rfl ?_
              refine aw_seq ?_
              refine aw_reg [] [2] [] [I 4] [] [] (by kernel_rfl) hB trivial ?_
              refine ae_then ?_
              refine aw_ret ?_
              refine ae_ret_then ?_
              refine ae_ret hB (I 4) (by kernel_rfl) (.inl (by refine congrArg I ?_; unfold gestI endsI; simp_all [hle]; try omega)) rfl (fun _ => trivial)
            · refine aw_reg [(1, .call [(true, .ptr false [slPoint false s.Points])] true (Bv false))] [0, 62] [] [.ptr false [slPoint false s.Points], Bv false] [] [Con Tryd.prog 85 [.ptr false [slPoint false s.Points]] true (Bv false) ∧ ((.ptr false [slPoint false s.Points] : AV) = .ptr false [slPoint false s.Points]) ∧ True] (by kernel_rfl) hB ⟨⟨(con_bool h6 (l23Caret_ok s ok)), rfl, trivial⟩, trivial⟩ ?_
              refine ae_then ?_
              refine aw_false rfl ?_
              refine aw_skip ?_
              refine ae_then ?_
              refine aw_seq ?_
              refine aw_seq ?_
              by_cases h7 : 900 ≤ (strI s)
              · refine aw_reg [(1, .call [(true, .ptr false [slPoint false s.Points])] true (I (strI s))), (2, .dec true)] [65] [] [Bv true] [] [Con Tryd.prog 86 [.ptr false [slPoint false s.Points]] true (I (strI s)) ∧ ((.ptr false [slPoint false s.Points] : AV) = .ptr false [slPoint false s.Points]) ∧ True, 900 ≤ (strI s)] (by kernel_rfl) hB ⟨⟨(l05Straight_ok s ok), rfl, trivial⟩, h7, trivial⟩ ?_
                refine ae_then ?_
                refine aw_true rfl ?_
                refine aw_seq ?_
                refine aw_reg [] [2] [] [I 5] [] [] (by kernel_rfl) hB trivial ?_
                refine ae_then ?_
                refine aw_ret ?_
                refine ae_ret_then ?_
                refine ae_ret hB (I 5) (by kernel_rfl) (.inl (by refine congrArg I ?_; unfold gestI endsI; simp_all [hle]; try omega)) rfl (fun _ => trivial)
              · refine aw_reg [(1, .call [(true, .ptr false [slPoint false s.Points])] true (I (strI s))), (2, .dec false)] [65] [] [Bv false] [] [Con Tryd.prog 86 [.ptr false [slPoint false s.Points]] true (I (strI s)) ∧ ((.ptr false [slPoint false s.Points] : AV) = .ptr false [slPoint false s.Points]) ∧ True, ¬ (900 ≤ (strI s))] (by kernel_rfl) hB ⟨⟨(l05Straight_ok s ok), rfl, trivial⟩, h7, trivial⟩ ?_
                refine ae_then ?_
                refine aw_false rfl ?_
                refine aw_skip ?_
                refine ae_then ?_
                refine aw_seq ?_
                refine aw_reg [] [2] [] [I 0] [] [] (by kernel_rfl) hB trivial ?_
                refine ae_then ?_
                refine aw_ret ?_
                refine ae_ret hB (I 0) (by kernel_rfl) (.inl (by refine congrArg I ?_; unfold gestI endsI; simp_all [hle]; try omega)) rfl (fun _ => trivial)
        · refine aw_reg [(1, .call [(true, I bend)] true (I (bend.natAbs : Int))), (2, .dec false)] [0, 60] [] [.ptr false [slPoint false s.Points], Bv false] [] [Con Tryd.prog 83 [I bend] true (I (bend.natAbs : Int)) ∧ ((I bend : AV) = I bend) ∧ True, ¬ (6 ≤ (bend.natAbs : Int))] (by kernel_rfl) hB ⟨⟨(l05Size_ok bend (by omega)), rfl, trivial⟩, h4, trivial⟩ ?_
          refine ae_then ?_
          refine aw_false rfl ?_
          refine aw_skip ?_
          refine ae_then ?_
          refine aw_seq ?_
          refine aw_seq ?_
          rcases Bool.eq_false_or_eq_true (caretB s) with h8 | h8
          · refine aw_reg [(1, .call [(true, .ptr false [slPoint false s.Points])] true (Bv true))] [0, 62] [] [.ptr false [slPoint false s.Points], Bv true] [] [Con Tryd.prog 85 [.ptr false [slPoint false s.Points]] true (Bv true) ∧ ((.ptr false [slPoint false s.Points] : AV) = .ptr false [slPoint false s.Points]) ∧ True] (by kernel_rfl) hB ⟨⟨(con_bool h8 (l23Caret_ok s ok)), rfl, trivial⟩, trivial⟩ ?_
            refine ae_then ?_
            refine aw_true rfl ?_
            refine aw_seq ?_
            refine aw_reg [] [2] [] [I 4] [] [] (by kernel_rfl) hB trivial ?_
            refine ae_then ?_
            refine aw_ret ?_
            refine ae_ret_then ?_
            refine ae_ret hB (I 4) (by kernel_rfl) (.inl (by refine congrArg I ?_; unfold gestI endsI; simp_all [hle]; try omega)) rfl (fun _ => trivial)
          · refine aw_reg [(1, .call [(true, .ptr false [slPoint false s.Points])] true (Bv false))] [0, 62] [] [.ptr false [slPoint false s.Points], Bv false] [] [Con Tryd.prog 85 [.ptr false [slPoint false s.Points]] true (Bv false) ∧ ((.ptr false [slPoint false s.Points] : AV) = .ptr false [slPoint false s.Points]) ∧ True] (by kernel_rfl) hB ⟨⟨(con_bool h8 (l23Caret_ok s ok)), rfl, trivial⟩, trivial⟩ ?_
            refine ae_then ?_
            refine aw_false rfl ?_
            refine aw_skip ?_
            refine ae_then ?_
            refine aw_seq ?_
            refine aw_seq ?_
            by_cases h9 : 900 ≤ (strI s)
            · refine aw_reg [(1, .call [(true, .ptr false [slPoint false s.Points])] true (I (strI s))), (2, .dec true)] [65] [] [Bv true] [] [Con Tryd.prog 86 [.ptr false [slPoint false s.Points]] true (I (strI s)) ∧ ((.ptr false [slPoint false s.Points] : AV) = .ptr false [slPoint false s.Points]) ∧ True, 900 ≤ (strI s)] (by kernel_rfl) hB ⟨⟨(l05Straight_ok s ok), rfl, trivial⟩, h9, trivial⟩ ?_
              refine ae_then ?_
              refine aw_true rfl ?_
              refine aw_seq ?_
              refine aw_reg [] [2] [] [I 5] [] [] (by kernel_rfl) hB trivial ?_
              refine ae_then ?_
              refine aw_ret ?_
              refine ae_ret_then ?_
              refine ae_ret hB (I 5) (by kernel_rfl) (.inl (by refine congrArg I ?_; unfold gestI endsI; simp_all [hle]; try omega)) rfl (fun _ => trivial)
            · refine aw_reg [(1, .call [(true, .ptr false [slPoint false s.Points])] true (I (strI s))), (2, .dec false)] [65] [] [Bv false] [] [Con Tryd.prog 86 [.ptr false [slPoint false s.Points]] true (I (strI s)) ∧ ((.ptr false [slPoint false s.Points] : AV) = .ptr false [slPoint false s.Points]) ∧ True, ¬ (900 ≤ (strI s))] (by kernel_rfl) hB ⟨⟨(l05Straight_ok s ok), rfl, trivial⟩, h9, trivial⟩ ?_
              refine ae_then ?_
              refine aw_false rfl ?_
              refine aw_skip ?_
              refine ae_then ?_
              refine aw_seq ?_
              refine aw_reg [] [2] [] [I 0] [] [] (by kernel_rfl) hB trivial ?_
              refine ae_then ?_
              refine aw_ret ?_
              refine ae_ret hB (I 0) (by kernel_rfl) (.inl (by refine congrArg I ?_; unfold gestI endsI; simp_all [hle]; try omega)) rfl (fun _ => trivial)


theorem ba_ext (s : ByteArray) (a b : Nat) : (s.extract a b).size = min b s.size - a := by simp [ByteArray.size_extract]
theorem ba_nil : (⟨#[]⟩ : ByteArray).size = 0 := rfl
/-- The code of an edit of a line. -/
def chkI (l : CellRow) (e : Edit) (ins : ByteArray) : Int :=
  if okRow l = true ∧ lettersB ins = true ∧ inB e.Kind 1 3 = true then
    (if (0 ≤ e.From ∧ e.From ≤ e.To) ∧ e.To ≤ (l.Text.size : Int) ∧ (e.Kind = 3 → e.From = e.To) then
      (if e.Kind ≠ 1 ∧ 60 < (l.Text.size : Int) + (ins.size : Int) - (e.To - e.From) then 5 else 0) else 2) else 1
section
variable {l : CellRow} {e : Edit} {ins : ByteArray}
theorem chk_1 (h : ¬ (okRow l = true ∧ lettersB ins = true ∧ inB e.Kind 1 3 = true)) : chkI l e ins = 1 := by rw [chkI, if_neg h]
theorem chk_2 (h1 : okRow l = true) (h2 : lettersB ins = true) (h3 : inB e.Kind 1 3 = true) (h : ¬ ((0 ≤ e.From ∧ e.From ≤ e.To) ∧ e.To ≤ (l.Text.size : Int) ∧ (e.Kind = 3 → e.From = e.To))) : chkI l e ins = 2 := by rw [chkI, if_pos ⟨h1, h2, h3⟩, if_neg h]
theorem chk_5 (h1 : okRow l = true) (h2 : lettersB ins = true) (h3 : inB e.Kind 1 3 = true) (h : (0 ≤ e.From ∧ e.From ≤ e.To) ∧ e.To ≤ (l.Text.size : Int) ∧ (e.Kind = 3 → e.From = e.To)) (h4 : e.Kind ≠ 1 ∧ 60 < (l.Text.size : Int) + (ins.size : Int) - (e.To - e.From)) : chkI l e ins = 5 := by rw [chkI, if_pos ⟨h1, h2, h3⟩, if_pos h, if_pos h4]
theorem chk_0 (h1 : okRow l = true) (h2 : lettersB ins = true) (h3 : inB e.Kind 1 3 = true) (h : (0 ≤ e.From ∧ e.From ≤ e.To) ∧ e.To ≤ (l.Text.size : Int) ∧ (e.Kind = 3 → e.From = e.To)) (h4 : ¬ (e.Kind ≠ 1 ∧ 60 < (l.Text.size : Int) + (ins.size : Int) - (e.To - e.From))) : chkI l e ins = 0 := by rw [chkI, if_pos ⟨h1, h2, h3⟩, if_pos h, if_neg h4]
theorem chk_ok (h : chkI l e ins = 0) : okRow l = true ∧ lettersB ins = true ∧ (1 ≤ e.Kind ∧ e.Kind ≤ 3) ∧ (0 ≤ e.From ∧ e.From ≤ e.To) ∧ e.To ≤ (l.Text.size : Int) ∧ (e.Kind = 3 → e.From = e.To) ∧ (e.Kind = 1 ∨ (l.Text.size : Int) + (ins.size : Int) - (e.To - e.From) ≤ 60) := by
  unfold chkI at h
  split at h
  · rename_i h1
    split at h
    · rename_i h2
      split at h
      · cases h
      · rename_i h3
        exact ⟨h1.1, h1.2.1, inB_iff.1 h1.2.2, h2.1, h2.2.1, h2.2.2, by omega⟩
    · cases h
  · cases h
def applyT (l : CellRow) (e : Edit) (ins : ByteArray) : ByteArray := l.Text.extract 0 e.From.toNat ++ (if e.Kind = 1 then ⟨#[]⟩ else ins) ++ l.Text.extract e.To.toNat l.Text.size
/-- A line after an edit. -/
def applyL (l : CellRow) (e : Edit) (ins : ByteArray) : CellRow := ⟨applyT l e ins, l.X, l.Y, l.Cell⟩
def applyRow (l : CellRow) (e : Edit) (ins : ByteArray) : CellRow := if chkI l e ins = 0 then applyL l e ins else ⟨⟨#[]⟩, 0, 0, 0⟩
theorem applyRow_eq (h : chkI l e ins = 0) : applyRow l e ins = applyL l e ins := if_pos h
theorem applyRow_ne {k : Int} (h : chkI l e ins = k) (hk : k ≠ 0) : applyRow l e ins = ⟨⟨#[]⟩, 0, 0, 0⟩ := if_neg (by rw [h]; exact hk)
def invE (l : CellRow) (e : Edit) (ins : ByteArray) : Edit := if chkI l e ins = 0 then (if e.Kind = 1 then ⟨3, e.From, e.From⟩ else if e.Kind = 3 then ⟨1, e.From, e.From + (ins.size : Int)⟩ else ⟨2, e.From, e.From + (ins.size : Int)⟩) else ⟨0, 0, 0⟩
def invT (l : CellRow) (e : Edit) (ins : ByteArray) : ByteArray := if chkI l e ins = 0 then (if e.Kind = 3 then ⟨#[]⟩ else l.Text.extract e.From.toNat e.To.toNat) else ⟨#[]⟩
end

theorem mul60 {a c : Int} (h1 : 0 ≤ a ∧ a ≤ 60) (h2 : 0 ≤ c ∧ c ≤ 60) : 0 ≤ a * c ∧ a * c ≤ 3600 :=
  ⟨Int.mul_nonneg h1.1 h2.1, Int.le_trans (Int.mul_le_mul h1.2 h2.2 h2.1 (by omega)) (by decide)⟩
theorem mid_eq (k c : Int) : (2 * k + 1) * c = 2 * (k * c) + c := by rw [Int.add_mul, Int.one_mul, Int.mul_assoc]
def spanS (l : CellRow) (b : Box) : Nat → Int × Int
  | 0 => (0, 0)
  | k + 1 => if inB (2 * l.X + (2 * (k : Int) + 1) * l.Cell) (2 * b.X1) (2 * b.X2) = true then (if (spanS l b k).2 = 0 then (k : Int) else (spanS l b k).1, (k : Int) + 1) else spanS l b k
theorem spanS_yes {l : CellRow} {b : Box} {k : Int} (h0 : 0 ≤ k) (h : inB (2 * l.X + (2 * k + 1) * l.Cell) (2 * b.X1) (2 * b.X2) = true) : spanS l b (k + 1).toNat = (if (spanS l b k.toNat).2 = 0 then k else (spanS l b k.toNat).1, k + 1) := by
  have e : (k + 1).toNat = k.toNat + 1 := by omega
  have e2 : ((k.toNat : Nat) : Int) = k := by omega
  rw [e, spanS, e2, if_pos h]
theorem spanS_no {l : CellRow} {b : Box} {k : Int} (h0 : 0 ≤ k) (h : inB (2 * l.X + (2 * k + 1) * l.Cell) (2 * b.X1) (2 * b.X2) = false) : spanS l b (k + 1).toNat = spanS l b k.toNat := by
  have e : (k + 1).toNat = k.toNat + 1 := by omega
  have e2 : ((k.toNat : Nat) : Int) = k := by omega
  rw [e, spanS, e2, if_neg (by rw [h]; decide)]
theorem spanS_bd (l : CellRow) (b : Box) : ∀ k : Nat, ((spanS l b k).1 = 0 ∧ (spanS l b k).2 = 0) ∨ (0 ≤ (spanS l b k).1 ∧ (spanS l b k).1 < (spanS l b k).2 ∧ (spanS l b k).2 ≤ (k : Int))
  | 0 => .inl ⟨rfl, rfl⟩
  | k + 1 => by
    have := spanS_bd l b k
    unfold spanS
    split
    · simp only; split <;> omega
    · omega
def placeS (l : CellRow) (x : Int) : Nat → Int
  | 0 => 0
  | k + 1 => if ((x - l.X - ((k : Int) + 1) * l.Cell).natAbs : Int) < ((x - l.X - placeS l x k * l.Cell).natAbs : Int) then (k : Int) + 1 else placeS l x k
theorem placeS_succ {l : CellRow} {x k : Int} (h : 1 ≤ k) : placeS l x (k + 1 - 1).toNat = if ((x - l.X - k * l.Cell).natAbs : Int) < ((x - l.X - placeS l x (k - 1).toNat * l.Cell).natAbs : Int) then k else placeS l x (k - 1).toNat := by
  have e : (k + 1 - 1).toNat = (k - 1).toNat + 1 := by omega
  have e2 : (((k - 1).toNat : Nat) : Int) + 1 = k := by omega
  rw [e, placeS, e2]
def tipS (xs : List Point) : Nat → Nat
  | 0 => 0
  | k + 1 => if (at_ xs k).Y < (at_ xs (tipS xs k)).Y then k else tipS xs k
theorem tip_1 {xs : List Point} {i b : Int} (h : 0 ≤ i) (hb : b = (tipS xs i.toNat : Int)) : ((tipS xs (i + 1).toNat : Nat) : Int) = if (at_ xs i.toNat).Y < (at_ xs b.toNat).Y then i else b := by
  have e : (i + 1).toNat = i.toNat + 1 := by omega
  have e2 : b.toNat = tipS xs i.toNat := by omega
  rw [e, tipS, e2]; split <;> omega
theorem tip_at {xs : List Point} {i : Int} (h : 0 ≤ i) : at_ xs (tipS xs (i + 1).toNat) = if (at_ xs i.toNat).Y < (at_ xs (tipS xs i.toNat)).Y then at_ xs i.toNat else at_ xs (tipS xs i.toNat) := by
  have e : (i + 1).toNat = i.toNat + 1 := by omega
  rw [e, tipS]; split <;> rfl
theorem tip_one (xs : List Point) : tipS xs 1 = 0 := by simp [tipS]
def kindI (s : Stroke) : Int := if gestI s = 2 then 1 else if gestI s = 3 then 2 else if gestI s = 4 then 3 else 0
/-- The edit that a stroke means, and a code. -/
def editR (l : CellRow) (s : Stroke) : Edit × Int :=
  if kindI s = 0 then (⟨0, 0, 0⟩, 6) else
  if (boxS s.Points s.Points.length).Y2 < l.Y ∨ l.Y + 2 * l.Cell < (boxS s.Points s.Points.length).Y1 then (⟨0, 0, 0⟩, 3) else
  if kindI s = 3 then (⟨3, placeS l (at_ s.Points (tipS s.Points s.Points.length)).X l.Text.size, placeS l (at_ s.Points (tipS s.Points s.Points.length)).X l.Text.size⟩, 0) else
  if (spanS l (boxS s.Points s.Points.length) l.Text.size).2 = 0 then (⟨0, 0, 0⟩, 3) else
  (⟨kindI s, (spanS l (boxS s.Points s.Points.length) l.Text.size).1, (spanS l (boxS s.Points s.Points.length) l.Text.size).2⟩, 0)
def editOfR (l : CellRow) (s : Stroke) : Edit × Int := if okRow l = true ∧ okStroke' s = true then editR l s else (⟨0, 0, 0⟩, 1)
theorem editOf_eq {l : CellRow} {s : Stroke} (h1 : okRow l = true) (h2 : okStroke' s = true) : editOfR l s = editR l s := if_pos ⟨h1, h2⟩

-- spec.l23Tip
theorem l23Tip_ok (s : Stroke) (ok : okStroke' s = true) : Con Tryd.prog 56 [.ptr false [slPoint false s.Points]] true (I (tipS s.Points s.Points.length : Int)) := by
  have hln := okS_len ok
  refine fn_ok (fn := Tryd.f56) (nt := 33) Tryd.func56 rfl rfl rfl rfl (by simp [taggedL, tagged, tagPoint]) fun B hB => ?_
  refine aw_lens (x := .ptr false [slPoint false s.Points]) 0 rfl (fun len_s => ?_)
  simp [LenOK, LenL, cPoint, fPoint, slPoint] at len_s
  refine aw_seq ?_
  refine aw_reg [] [0] [] [.ptr false [slPoint false s.Points]] [] [] (by kernel_rfl) hB trivial ?_
  refine ae_then ?_
  refine aw_seq ?_
  refine aw_reg [] [0, 3] [] [.ptr false [slPoint false s.Points], I 0] [] [] (by kernel_rfl) hB trivial ?_
  refine ae_then ?_
  refine aw_seq ?_
  refine aw_seq ?_
  refine aw_reg [] [0, 3, 4] [] [.ptr false [slPoint false s.Points], I 0, I 1] [] [] (by kernel_rfl) hB trivial ?_
  refine ae_then ?_
  refine aw_block ?_
  refine aw_loop (fun gn gσ => ∃ (best : Int) (i : Int), gn = ((s.Points.length : Int) - i).toNat ∧ (1 ≤ i ∧ i ≤ (s.Points.length : Int)) ∧ (best = (tipS s.Points i.toNat : Int)) ∧ (0 ≤ best ∧ best < (s.Points.length : Int)) ∧ gσ = mkS [(0, .ptr false [slPoint false s.Points]), (3, I best), (4, I i)] []) (((s.Points.length : Int) - 1).toNat) ⟨0, 1, rfl, (by omega), (by rw [show (1 : Int).toNat = 1 from rfl, tip_one]; rfl), (by omega), rfl⟩ (fun gn gσ hI => ?_)
  obtain ⟨best, i, rfl, hi0, ht1, ht2, rfl⟩ := hI
  refine aw_seq ?_
  refine aw_seq ?_
  by_cases h1 : i < (s.Points.length : Int)
  · have hi : i.toNat < s.Points.length := by omega
    have hi2 : best.toNat < s.Points.length := by omega
    refine aw_reg [(6, .dec true)] [0, 3, 4, 11] [] [.ptr false [slPoint false s.Points], I best, I i, Bv true] [] [i < (s.Points.length : Int)] (by kernel_rfl) hB ⟨h1, trivial⟩ ?_
    refine ae_then ?_
    refine aw_true rfl ?_
    refine aw_skip ?_
    refine ae_then ?_
    refine aw_seq ?_
    refine aw_block ?_
    refine aw_seq ?_
    by_cases h2 : ((at_ s.Points i.toNat).Y) < ((at_ s.Points best.toNat).Y)
    · refine aw_reg [(16, .dec true)] [0, 3, 4, 30] [] [.ptr false [slPoint false s.Points], I best, I i, Bv true] [] [(0 : Int) ≤ i ∧ i < (s.Points.length : Int), (0 : Int) ≤ best ∧ best < (s.Points.length : Int), ((at_ s.Points i.toNat).Y) < ((at_ s.Points best.toNat).Y)] (by kernel_rfl) hB ⟨⟨(by omega), (by omega)⟩, ⟨(by omega), (by omega)⟩, h2, trivial⟩ ?_
      refine ae_then ?_
      refine aw_true rfl ?_
      refine aw_reg [] [0, 3, 4] [] [.ptr false [slPoint false s.Points], I i, I i] [] [] (by kernel_rfl) hB trivial ?_
      refine ae_block 1 ?_
      refine ae_then ?_
      refine aw_reg [] [0, 3, 4] [] [.ptr false [slPoint false s.Points], I i, I (i + 1)] [] [inR .i64 (i + 1)] (by kernel_rfl) hB ⟨(inR_i64 (by omega) (by omega)), trivial⟩ ?_
      exact ae_again _ (by omega) ⟨i, (i + 1), rfl, (by omega), (by rw [tip_1 (by omega) ht1]; first | (rw [if_pos (by assumption)]; done) | (rw [if_neg (by assumption)]; done)), (by omega), rfl⟩
    · refine aw_reg [(16, .dec false)] [0, 3, 4, 30] [] [.ptr false [slPoint false s.Points], I best, I i, Bv false] [] [(0 : Int) ≤ i ∧ i < (s.Points.length : Int), (0 : Int) ≤ best ∧ best < (s.Points.length : Int), ¬ (((at_ s.Points i.toNat).Y) < ((at_ s.Points best.toNat).Y))] (by kernel_rfl) hB ⟨⟨(by omega), (by omega)⟩, ⟨(by omega), (by omega)⟩, h2, trivial⟩ ?_
      refine ae_then ?_
      refine aw_false rfl ?_
      refine aw_skip ?_
      refine ae_block 1 ?_
      refine ae_then ?_
      refine aw_reg [] [0, 3, 4] [] [.ptr false [slPoint false s.Points], I best, I (i + 1)] [] [inR .i64 (i + 1)] (by kernel_rfl) hB ⟨(inR_i64 (by omega) (by omega)), trivial⟩ ?_
      exact ae_again _ (by omega) ⟨best, (i + 1), rfl, (by omega), (by rw [tip_1 (by omega) ht1]; first | (rw [if_pos (by assumption)]; done) | (rw [if_neg (by assumption)]; done)), (by omega), rfl⟩
  · have hie : i.toNat = s.Points.length := by omega
    rw [hie] at ht1
    refine aw_reg [(6, .dec false)] [0, 3, 4, 11] [] [.ptr false [slPoint false s.Points], I best, I i, Bv false] [] [¬ (i < (s.Points.length : Int))] (by kernel_rfl) hB ⟨h1, trivial⟩ ?_
    refine ae_then ?_
    refine aw_false rfl ?_
    refine aw_exit ?_
    refine ae_exit_then ?_
    refine ae_exit_then ?_
    refine ae_exit_same ?_
    refine ae_then ?_
    refine aw_seq ?_
    refine aw_reg [] [2] [] [I best] [] [] (by kernel_rfl) hB trivial ?_
    refine ae_then ?_
    refine aw_ret ?_
    refine ae_ret hB (I best) (by kernel_rfl) (.inl (by rw [ht1])) rfl (fun _ => trivial)


-- spec.l23Place
theorem l23Place_ok (l : CellRow) (x : Int) (hr0 : okRow l = true) (hx : 0 ≤ x ∧ x ≤ 4095) : Con Tryd.prog 55 [.ptr false [Sv l.Text, I l.X, I l.Y, I l.Cell], I x] true (I (placeS l x l.Text.size)) := by
  have hr := okRow_iff.1 hr0
  refine fn_ok (fn := Tryd.f55) (nt := 47) Tryd.func55 rfl rfl rfl rfl (by simp [taggedL, tagged]) fun B hB => ?_
  refine aw_seq ?_
  refine aw_reg [] [0, 1] [] [.ptr false [Sv l.Text, I l.X, I l.Y, I l.Cell], I x] [] [] (by kernel_rfl) hB trivial ?_
  refine ae_then ?_
  refine aw_seq ?_
  refine aw_reg [] [0, 1, 5] [] [.ptr false [Sv l.Text, I l.X, I l.Y, I l.Cell], I x, I 0] [] [] (by kernel_rfl) hB trivial ?_
  refine ae_then ?_
  refine aw_seq ?_
  refine aw_seq ?_
  refine aw_reg [] [0, 1, 5, 6] [] [.ptr false [Sv l.Text, I l.X, I l.Y, I l.Cell], I x, I 0, I 1] [] [] (by kernel_rfl) hB trivial ?_
  refine ae_then ?_
  refine aw_block ?_
  refine aw_loop (fun gn gσ => ∃ (best : Int) (k : Int), gn = ((l.Text.size : Int) + 1 - k).toNat ∧ (1 ≤ k ∧ k ≤ (l.Text.size : Int) + 1) ∧ (best = placeS l x (k - 1).toNat) ∧ (0 ≤ best ∧ best ≤ k - 1) ∧ gσ = mkS [(0, .ptr false [Sv l.Text, I l.X, I l.Y, I l.Cell]), (1, I x), (5, I best), (6, I k)] []) (((l.Text.size : Int) + 1 - 1).toNat) ⟨0, 1, rfl, (by omega), (by rfl), (by omega), rfl⟩ (fun gn gσ hI => ?_)
  obtain ⟨best, k, rfl, hq0, hp1, hp2, rfl⟩ := hI
  refine aw_seq ?_
  refine aw_seq ?_
  by_cases h1 : k ≤ (l.Text.size : Int)
  · have hkb := mul60 (a := k) (c := l.Cell) (by omega) (by omega)
    have hbb := mul60 (a := best) (c := l.Cell) (by omega) (by omega)
    refine aw_reg [(6, .dec true)] [0, 1, 5, 6, 13] [] [.ptr false [Sv l.Text, I l.X, I l.Y, I l.Cell], I x, I best, I k, Bv true] [] [k ≤ (l.Text.size : Int)] (by kernel_rfl) hB ⟨h1, trivial⟩ ?_
    refine ae_then ?_
    refine aw_true rfl ?_
    refine aw_skip ?_
    refine ae_then ?_
    refine aw_seq ?_
    refine aw_block ?_
    refine aw_seq ?_
    by_cases h2 : (((x - l.X) - (k * l.Cell)).natAbs : Int) < (((x - l.X) - (best * l.Cell)).natAbs : Int)
    · refine aw_reg [(13, .call [(true, I ((x - l.X) - (k * l.Cell)))] true (I (((x - l.X) - (k * l.Cell)).natAbs : Int))), (27, .call [(true, I ((x - l.X) - (best * l.Cell)))] true (I (((x - l.X) - (best * l.Cell)).natAbs : Int))), (28, .dec true)] [0, 1, 5, 6, 44] [] [.ptr false [Sv l.Text, I l.X, I l.Y, I l.Cell], I x, I best, I k, Bv true] [] [inR .i64 (x - l.X), inR .i64 (k * l.Cell), inR .i64 ((x - l.X) - (k * l.Cell)), Con Tryd.prog 83 [I ((x - l.X) - (k * l.Cell))] true (I (((x - l.X) - (k * l.Cell)).natAbs : Int)) ∧ ((I ((x - l.X) - (k * l.Cell)) : AV) = I ((x - l.X) - (k * l.Cell))) ∧ True, inR .i64 (x - l.X), inR .i64 (best * l.Cell), inR .i64 ((x - l.X) - (best * l.Cell)), Con Tryd.prog 83 [I ((x - l.X) - (best * l.Cell))] true (I (((x - l.X) - (best * l.Cell)).natAbs : Int)) ∧ ((I ((x - l.X) - (best * l.Cell)) : AV) = I ((x - l.X) - (best * l.Cell))) ∧ True, (((x - l.X) - (k * l.Cell)).natAbs : Int) < (((x - l.X) - (best * l.Cell)).natAbs : Int)] (by kernel_rfl) hB ⟨(inR_i64 (by omega) (by omega)), (inR_i64 (by omega) (by omega)), (inR_i64 (by omega) (by omega)), ⟨(l05Size_ok ((x - l.X) - (k * l.Cell)) (by omega)), rfl, trivial⟩, (inR_i64 (by omega) (by omega)), (inR_i64 (by omega) (by omega)), (inR_i64 (by omega) (by omega)), ⟨(l05Size_ok ((x - l.X) - (best * l.Cell)) (by omega)), rfl, trivial⟩, h2, trivial⟩ ?_
      refine ae_then ?_
      refine aw_true rfl ?_
      refine aw_reg [] [0, 1, 5, 6] [] [.ptr false [Sv l.Text, I l.X, I l.Y, I l.Cell], I x, I k, I k] [] [] (by kernel_rfl) hB trivial ?_
      refine ae_block 1 ?_
      refine ae_then ?_
      refine aw_reg [] [0, 1, 5, 6] [] [.ptr false [Sv l.Text, I l.X, I l.Y, I l.Cell], I x, I k, I (k + 1)] [] [inR .i64 (k + 1)] (by kernel_rfl) hB ⟨(inR_i64 (by omega) (by omega)), trivial⟩ ?_
      exact ae_again _ (by omega) ⟨k, (k + 1), rfl, (by omega), (by rw [placeS_succ hq0.1, ← hp1]; first | rfl | (rw [if_pos (by omega)]; done) | (rw [if_neg (by omega)]; done)), (by omega), rfl⟩
    · refine aw_reg [(13, .call [(true, I ((x - l.X) - (k * l.Cell)))] true (I (((x - l.X) - (k * l.Cell)).natAbs : Int))), (27, .call [(true, I ((x - l.X) - (best * l.Cell)))] true (I (((x - l.X) - (best * l.Cell)).natAbs : Int))), (28, .dec false)] [0, 1, 5, 6, 44] [] [.ptr false [Sv l.Text, I l.X, I l.Y, I l.Cell], I x, I best, I k, Bv false] [] [inR .i64 (x - l.X), inR .i64 (k * l.Cell), inR .i64 ((x - l.X) - (k * l.Cell)), Con Tryd.prog 83 [I ((x - l.X) - (k * l.Cell))] true (I (((x - l.X) - (k * l.Cell)).natAbs : Int)) ∧ ((I ((x - l.X) - (k * l.Cell)) : AV) = I ((x - l.X) - (k * l.Cell))) ∧ True, inR .i64 (x - l.X), inR .i64 (best * l.Cell), inR .i64 ((x - l.X) - (best * l.Cell)), Con Tryd.prog 83 [I ((x - l.X) - (best * l.Cell))] true (I (((x - l.X) - (best * l.Cell)).natAbs : Int)) ∧ ((I ((x - l.X) - (best * l.Cell)) : AV) = I ((x - l.X) - (best * l.Cell))) ∧ True, ¬ ((((x - l.X) - (k * l.Cell)).natAbs : Int) < (((x - l.X) - (best * l.Cell)).natAbs : Int))] (by kernel_rfl) hB ⟨(inR_i64 (by omega) (by omega)), (inR_i64 (by omega) (by omega)), (inR_i64 (by omega) (by omega)), ⟨(l05Size_ok ((x - l.X) - (k * l.Cell)) (by omega)), rfl, trivial⟩, (inR_i64 (by omega) (by omega)), (inR_i64 (by omega) (by omega)), (inR_i64 (by omega) (by omega)), ⟨(l05Size_ok ((x - l.X) - (best * l.Cell)) (by omega)), rfl, trivial⟩, h2, trivial⟩ ?_
      refine ae_then ?_
      refine aw_false rfl ?_
      refine aw_skip ?_
      refine ae_block 1 ?_
      refine ae_then ?_
      refine aw_reg [] [0, 1, 5, 6] [] [.ptr false [Sv l.Text, I l.X, I l.Y, I l.Cell], I x, I best, I (k + 1)] [] [inR .i64 (k + 1)] (by kernel_rfl) hB ⟨(inR_i64 (by omega) (by omega)), trivial⟩ ?_
      exact ae_again _ (by omega) ⟨best, (k + 1), rfl, (by omega), (by rw [placeS_succ hq0.1, ← hp1]; first | rfl | (rw [if_pos (by omega)]; done) | (rw [if_neg (by omega)]; done)), (by omega), rfl⟩
  · have hie : (k - 1).toNat = l.Text.size := by omega
    rw [hie] at hp1
    refine aw_reg [(6, .dec false)] [0, 1, 5, 6, 13] [] [.ptr false [Sv l.Text, I l.X, I l.Y, I l.Cell], I x, I best, I k, Bv false] [] [¬ (k ≤ (l.Text.size : Int))] (by kernel_rfl) hB ⟨h1, trivial⟩ ?_
    refine ae_then ?_
    refine aw_false rfl ?_
    refine aw_exit ?_
    refine ae_exit_then ?_
    refine ae_exit_then ?_
    refine ae_exit_same ?_
    refine ae_then ?_
    refine aw_seq ?_
    refine aw_reg [] [4] [] [I best] [] [] (by kernel_rfl) hB trivial ?_
    refine ae_then ?_
    refine aw_ret ?_
    refine ae_ret hB (I best) (by kernel_rfl) (.inl (by rw [hp1])) rfl (fun _ => trivial)

end Go.Proofs.YtmchblafmhpegaaDoor.Ax
