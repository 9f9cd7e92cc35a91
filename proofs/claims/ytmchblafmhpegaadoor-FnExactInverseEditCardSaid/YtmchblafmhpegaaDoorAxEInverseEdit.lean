/- The statement FnExactInverseEdit: contracts of what it reaches, and its proof. No conditions. -/
import Derived.Test.YtmchblafmhpegaaDoorAxO
import Derived.Test.YtmchblafmhpegaaDoorShelf
import Derived.Test.YtmchblafmhpegaaDoorTie
import Derived.Test.YtmchblafmhpegaaDoorCards
import Derived.LaidMore
import Derived.Lay
import Derived.OpenShut
import Derived.SevenTiedAt
import Derived.Shelf.Strings.SlTrimAscii
import Derived.Stop.Joined
namespace Go.Proofs.YtmchblafmhpegaaDoor.Ax
open Go.RowKit Go.ChangeShapes Go.WideShapes
set_option linter.unusedVariables false
set_option linter.unusedSimpArgs false


def cS (x : ByteArray) : List AV := [Sv x]
def fS (xs : List ByteArray) (i : Nat) : List AV := cS (at_ xs i)
def slS (fr : Bool) (xs : List ByteArray) : AV := .sl fr 1 xs.length (fS xs)
theorem tagcS (t : Bool) (x : ByteArray) : taggedL t (cS x) := by simp [cS, taggedL, tagged]
theorem tagS (t : Bool) (xs : List ByteArray) : tagged t (slS t xs) := by simp only [slS, tagged]; exact ⟨trivial, fun i _ => tagcS t _⟩
theorem lenS (fr : Bool) (xs : List ByteArray) : lenA noOb (slS fr xs) = some xs.length := rfl
def cI (x : Int) : List AV := [I x]
def fI (xs : List Int) (i : Nat) : List AV := cI (at_ xs i)
def slI (fr : Bool) (xs : List Int) : AV := .sl fr 1 xs.length (fI xs)
theorem tagcI (t : Bool) (x : Int) : taggedL t (cI x) := by simp [cI, taggedL, tagged]
theorem tagI (t : Bool) (xs : List Int) : tagged t (slI t xs) := by simp only [slI, tagged]; exact ⟨trivial, fun i _ => tagcI t _⟩
theorem lenI (fr : Bool) (xs : List Int) : lenA noOb (slI fr xs) = some xs.length := rfl
structure CellRow where
  Text : ByteArray
  X : Int
  Y : Int
  Cell : Int
deriving DecidableEq, Inhabited
def cCellRow (x : CellRow) : List AV := [Sv x.Text, I x.X, I x.Y, I x.Cell]
def fCellRow (xs : List CellRow) (i : Nat) : List AV := cCellRow (at_ xs i)
def slCellRow (fr : Bool) (xs : List CellRow) : AV := .sl fr 4 xs.length (fCellRow xs)
theorem tagcCellRow (t : Bool) (x : CellRow) : taggedL t (cCellRow x) := by simp [cCellRow, taggedL, tagged]
theorem tagCellRow (t : Bool) (xs : List CellRow) : tagged t (slCellRow t xs) := by simp only [slCellRow, tagged]; exact ⟨trivial, fun i _ => tagcCellRow t _⟩
theorem lenCellRow (fr : Bool) (xs : List CellRow) : lenA noOb (slCellRow fr xs) = some xs.length := rfl
structure Edit where
  Kind : Int
  From : Int
  To : Int
deriving DecidableEq, Inhabited
def cEdit (x : Edit) : List AV := [I x.Kind, I x.From, I x.To]
def fEdit (xs : List Edit) (i : Nat) : List AV := cEdit (at_ xs i)
def slEdit (fr : Bool) (xs : List Edit) : AV := .sl fr 3 xs.length (fEdit xs)
theorem tagcEdit (t : Bool) (x : Edit) : taggedL t (cEdit x) := by simp [cEdit, taggedL, tagged]
theorem tagEdit (t : Bool) (xs : List Edit) : tagged t (slEdit t xs) := by simp only [slEdit, tagged]; exact ⟨trivial, fun i _ => tagcEdit t _⟩
theorem lenEdit (fr : Bool) (xs : List Edit) : lenA noOb (slEdit fr xs) = some xs.length := rfl

/-- What is left of l behind b. -/
def szTake (l : Int) (b : Nat) : Int := if l < b then -1 else l - b
theorem szTake_nn {l : Int} {b : Nat} (h : ¬ szTake l b < 0) : szTake l b = l - b ∧ (b : Int) ≤ l := by
  unfold szTake at *; split at h <;> simp_all <;> omega
theorem szTake_ng {l : Int} {b : Nat} (h : szTake l b < 0) (h0 : 0 ≤ l) : szTake l b = -1 ∧ l < b := by
  unfold szTake at *; split at h <;> simp_all <;> omega
theorem szTake_of {l : Int} {b : Nat} (h : (b : Int) ≤ l) : szTake l b = l - b := by unfold szTake; rw [if_neg (by omega)]
theorem szTake_neg {l : Int} {b : Nat} (h : l < b) : szTake l b = -1 := by unfold szTake; rw [if_pos h]
theorem take_snoc' {α : Type} [Inhabited α] {l : List α} {k : Nat} (h : k < l.length) : l.take (k + 1) = l.take k ++ [at_ l k] := by
  rw [List.take_succ_eq_append_getElem h, at_eq h]

def okCellRow (x : CellRow) : Prop := (x.Text.size ≤ 9223372036854775807)

def bulkCellRow (x : CellRow) : Nat := x.Text.size
def bulkCellRowS : List CellRow → Nat
  | [] => 0
  | x :: r => 1 + (bulkCellRow x) + bulkCellRowS r
theorem bulkCellRowS_app (xs ys : List CellRow) : bulkCellRowS (xs ++ ys) = bulkCellRowS xs + bulkCellRowS ys := by
  induction xs with
  | nil => simp [bulkCellRowS]
  | cons x r ih => simp [bulkCellRowS, ih]; omega
theorem bulkCellRowS_len (xs : List CellRow) : xs.length ≤ bulkCellRowS xs := by
  induction xs with
  | nil => simp
  | cons x r ih => simp [bulkCellRowS]; omega
theorem bulkCellRowS_take {xs : List CellRow} {i : Nat} (h : i < xs.length) : bulkCellRowS (xs.take (i + 1)) = bulkCellRowS (xs.take i) + 1 + (bulkCellRow (at_ xs i)) := by
  rw [take_snoc' h, bulkCellRowS_app]; simp [bulkCellRowS]; omega
theorem bulkCellRowS_le (xs : List CellRow) (i : Nat) : bulkCellRowS (xs.take i) + (xs.length - i) ≤ bulkCellRowS xs := by
  have e := bulkCellRowS_app (xs.take i) (xs.drop i)
  rw [List.take_append_drop] at e
  have := bulkCellRowS_len (xs.drop i)
  simp at this
  omega
theorem bulkCellRowS_at {xs : List CellRow} {i : Nat} (h : i < xs.length) : 1 + (bulkCellRow (at_ xs i)) ≤ bulkCellRowS xs := by
  have h1 := bulkCellRowS_take h
  have h2 := bulkCellRowS_le xs (i + 1)
  omega

-- laws.szCellRow
theorem szCellRow_ok (a : CellRow) (left : Int) (h0 : 0 ≤ left ∧ left ≤ 1048576) (ok0 : okCellRow a) : Con Tryd.prog 9 [.agg [Sv a.Text, I a.X, I a.Y, I a.Cell], I left] true (I (szTake left (bulkCellRow a))) := by
  have ok := ok0
  unfold okCellRow at ok
  have ok_Text := ok
  refine fn_ok (fn := Tryd.f9) (nt := 13) Tryd.func9 rfl rfl rfl rfl (by simp [taggedL, tagged]) fun B hB => ?_
  refine aw_seq ?_
  refine aw_reg [(0, .new 2)] [1, 2] [2] [I left, .ref 2 0] [some (.box [Sv a.Text, I a.X, I a.Y, I a.Cell])] [] (by kernel_rfl) hB trivial ?_
  refine ae_then ?_
  refine aw_seq ?_
  refine aw_reg [] [1] [] [I (left - (a.Text.size : Int))] [] [inR .i64 (left - (a.Text.size : Int))] (by kernel_rfl) hB ⟨(inR_i64 (by omega) (by omega)), trivial⟩ ?_
  refine ae_then ?_
  refine aw_seq ?_
  refine aw_seq ?_
  by_cases h1 : (left - (a.Text.size : Int)) < 0
  · refine aw_reg [(1, .dec true)] [1, 11] [] [I (left - (a.Text.size : Int)), Bv true] [] [(left - (a.Text.size : Int)) < 0] (by kernel_rfl) hB ⟨h1, trivial⟩ ?_
    refine ae_then ?_
    refine aw_true rfl ?_
    refine aw_seq ?_
    refine aw_reg [] [4] [] [I (-1)] [] [] (by kernel_rfl) hB trivial ?_
    refine ae_then ?_
    refine aw_ret ?_
    refine ae_ret_then ?_
    refine ae_ret hB (I (-1)) (by kernel_rfl) (.inl (by refine congrArg I ?_; unfold szTake bulkCellRow; split <;> omega)) rfl (fun _ => trivial)
  · refine aw_reg [(1, .dec false)] [1, 11] [] [I (left - (a.Text.size : Int)), Bv false] [] [¬ ((left - (a.Text.size : Int)) < 0)] (by kernel_rfl) hB ⟨h1, trivial⟩ ?_
    refine ae_then ?_
    refine aw_false rfl ?_
    refine aw_skip ?_
    refine ae_then ?_
    refine aw_seq ?_
    refine aw_reg [] [4] [] [I (left - (a.Text.size : Int))] [] [] (by kernel_rfl) hB trivial ?_
    refine ae_then ?_
    refine aw_ret ?_
    refine ae_ret hB (I (left - (a.Text.size : Int))) (by kernel_rfl) (.inl (by refine congrArg I ?_; unfold szTake bulkCellRow; split <;> omega)) rfl (fun _ => trivial)


-- laws.toCellRow
theorem toCellRow_ok (a : CellRow) (hb : bulkCellRow a ≤ 1048576) : Con Tryd.prog 11 [.agg [Sv a.Text, I a.X, I a.Y, I a.Cell]] true (.agg [Sv a.Text, I a.X, I a.Y, I a.Cell]) := by
  refine fn_ok (fn := Tryd.f11) (nt := 17) Tryd.func11 rfl rfl rfl rfl (by simp [taggedL, tagged]) fun B hB => ?_
  refine aw_seq ?_
  refine aw_reg [(0, .new 1), (1, .new 2)] [1, 2] [1, 2] [.ref 1 0, .ref 2 0] [some (.box [Sv a.Text, I a.X, I a.Y, I a.Cell]), some (.box [Sv (⟨#[]⟩ : ByteArray), I 0, I 0, I 0])] [] (by kernel_rfl) hB trivial ?_
  refine ae_then ?_
  refine aw_seq ?_
  refine aw_reg [(0, .new 3)] [1, 2, 3] [1, 2, 3] [.ref 1 0, .ref 2 0, .ref 3 0] [some (.box [Sv a.Text, I a.X, I a.Y, I a.Cell]), some (.box [Sv (⟨#[]⟩ : ByteArray), I 0, I 0, I 0]), some (.box [Sv (⟨#[]⟩ : ByteArray), I 0, I 0, I 0])] [] (by kernel_rfl) hB trivial ?_
  refine ae_then ?_
  refine aw_seq ?_
  refine aw_reg [] [1, 2, 3] [1, 2, 3] [.ref 1 0, .ref 2 0, .ref 3 0] [some (.box [Sv a.Text, I a.X, I a.Y, I a.Cell]), some (.box [Sv (⟨#[]⟩ : ByteArray), I 0, I 0, I 0]), some (.box [Sv a.Text, I 0, I 0, I 0])] [] (by kernel_rfl) hB trivial ?_
  refine ae_then ?_
  refine aw_seq ?_
  refine aw_reg [] [1, 2, 3] [1, 2, 3] [.ref 1 0, .ref 2 0, .ref 3 0] [some (.box [Sv a.Text, I a.X, I a.Y, I a.Cell]), some (.box [Sv (⟨#[]⟩ : ByteArray), I 0, I 0, I 0]), some (.box [Sv a.Text, I a.X, I 0, I 0])] [] (by kernel_rfl) hB trivial ?_
  refine ae_then ?_
  refine aw_seq ?_
  refine aw_reg [] [1, 2, 3] [1, 2, 3] [.ref 1 0, .ref 2 0, .ref 3 0] [some (.box [Sv a.Text, I a.X, I a.Y, I a.Cell]), some (.box [Sv (⟨#[]⟩ : ByteArray), I 0, I 0, I 0]), some (.box [Sv a.Text, I a.X, I a.Y, I 0])] [] (by kernel_rfl) hB trivial ?_
  refine ae_then ?_
  refine aw_seq ?_
  refine aw_reg [] [2, 3] [2, 3] [.ref 2 0, .ref 3 0] [some (.box [Sv (⟨#[]⟩ : ByteArray), I 0, I 0, I 0]), some (.box [Sv a.Text, I a.X, I a.Y, I a.Cell])] [] (by kernel_rfl) hB trivial ?_
  refine ae_then ?_
  refine aw_seq ?_
  refine aw_reg [] [2] [2] [.ref 2 0] [some (.box [Sv a.Text, I a.X, I a.Y, I a.Cell])] [] (by kernel_rfl) hB trivial ?_
  refine ae_then ?_
  refine aw_ret ?_
  refine ae_ret hB (.agg [Sv a.Text, I a.X, I a.Y, I a.Cell]) (by kernel_rfl) (.inl rfl) rfl (fun _ => (by simp [tagged, taggedL]))


-- laws.toEdit
theorem toEdit_ok (a : Edit) : Con Tryd.prog 16 [.agg [I a.Kind, I a.From, I a.To]] true (.agg [I a.Kind, I a.From, I a.To]) := by
  refine fn_ok (fn := Tryd.f16) (nt := 14) Tryd.func16 rfl rfl rfl rfl (by simp [taggedL, tagged]) fun B hB => ?_
  refine aw_seq ?_
  refine aw_reg [(0, .new 1), (1, .new 2)] [1, 2] [1, 2] [.ref 1 0, .ref 2 0] [some (.box [I a.Kind, I a.From, I a.To]), some (.box [I 0, I 0, I 0])] [] (by kernel_rfl) hB trivial ?_
  refine ae_then ?_
  refine aw_seq ?_
  refine aw_reg [(0, .new 3)] [1, 2, 3] [1, 2, 3] [.ref 1 0, .ref 2 0, .ref 3 0] [some (.box [I a.Kind, I a.From, I a.To]), some (.box [I 0, I 0, I 0]), some (.box [I 0, I 0, I 0])] [] (by kernel_rfl) hB trivial ?_
  refine ae_then ?_
  refine aw_seq ?_
  refine aw_reg [] [1, 2, 3] [1, 2, 3] [.ref 1 0, .ref 2 0, .ref 3 0] [some (.box [I a.Kind, I a.From, I a.To]), some (.box [I 0, I 0, I 0]), some (.box [I a.Kind, I 0, I 0])] [] (by kernel_rfl) hB trivial ?_
  refine ae_then ?_
  refine aw_seq ?_
  refine aw_reg [] [1, 2, 3] [1, 2, 3] [.ref 1 0, .ref 2 0, .ref 3 0] [some (.box [I a.Kind, I a.From, I a.To]), some (.box [I 0, I 0, I 0]), some (.box [I a.Kind, I a.From, I 0])] [] (by kernel_rfl) hB trivial ?_
  refine ae_then ?_
  refine aw_seq ?_
  refine aw_reg [] [2, 3] [2, 3] [.ref 2 0, .ref 3 0] [some (.box [I 0, I 0, I 0]), some (.box [I a.Kind, I a.From, I a.To])] [] (by kernel_rfl) hB trivial ?_
  refine ae_then ?_
  refine aw_seq ?_
  refine aw_reg [] [2] [2] [.ref 2 0] [some (.box [I a.Kind, I a.From, I a.To])] [] (by kernel_rfl) hB trivial ?_
  refine ae_then ?_
  refine aw_ret ?_
  refine ae_ret hB (.agg [I a.Kind, I a.From, I a.To]) (by kernel_rfl) (.inl rfl) rfl (fun _ => (by simp [tagged, taggedL]))


theorem set_at {α : Type} [Inhabited α] {ys xs : List α} {i : Int} (hl : ys.length = xs.length) (hi : i.toNat < xs.length) (h : ∀ j : Nat, (j : Int) < i → at_ ys j = at_ xs j) (j : Nat) (hj : j ≤ i.toNat) : at_ (ys.set i.toNat (at_ xs i.toNat)) j = at_ xs j := by
  by_cases e : i.toNat = j
  · subst e; simp [at_, hl, hi]
  · have := h j (by omega)
    simp only [at_] at this ⊢
    rw [← this]
    simp [e]
/-- Whether two things are the same. -/
def same {α : Type} [DecidableEq α] (x y : α) : Bool := decide (x = y)
theorem same_iff {α : Type} [DecidableEq α] {x y : α} : same x y = true ↔ x = y := by simp [same]
theorem ext_at {α : Type} [Inhabited α] {xs ys : List α} (hl : xs.length = ys.length) (h : ∀ j : Nat, j < xs.length → at_ xs j = at_ ys j) : xs = ys := by
  apply List.ext_getElem hl
  intro i h1 h2
  rw [← at_eq h1, ← at_eq h2]
  exact h i h1

theorem at_mem {α : Type} [Inhabited α] {xs : List α} {i : Nat} (h : i < xs.length) : at_ xs i ∈ xs := by rw [at_eq h]; exact List.getElem_mem h

/-- Whether p holds of all numbers below n. -/
def allN (n : Nat) (p : Nat → Bool) : Bool := (List.range n).all p
def anyN (n : Nat) (p : Nat → Bool) : Bool := !(allN n fun j => !(p j))
theorem allN_iff {n : Nat} {p : Nat → Bool} : allN n p = true ↔ ∀ j, j < n → p j = true := by simp [allN, List.all_eq_true]
theorem allN_at {n : Nat} {p : Nat → Bool} (h : ∀ j, j < n → p j = true) : allN n p = true := allN_iff.2 h
theorem allN_get {n : Nat} {p : Nat → Bool} (h : allN n p = true) {k : Nat} (hk : k < n) : p k = true := allN_iff.1 h k hk
theorem allN_not {n : Nat} {p : Nat → Bool} {k : Nat} (hk : k < n) (h : p k = false) : allN n p = false := by
  rw [← Bool.not_eq_true, allN_iff]; intro h'; rw [h' k hk] at h; cases h
theorem anyN_not (n : Nat) (p : Nat → Bool) : anyN n (fun j => !(p j)) = !(allN n p) := by simp [anyN]
theorem anyN_at {n : Nat} {p : Nat → Bool} {k : Nat} (hk : k < n) (h : p k = true) : anyN n p = true := by
  unfold anyN; rw [allN_not hk (by simp [h])]; rfl
theorem anyN_none {n : Nat} {p : Nat → Bool} (h : ∀ j, j < n → p j = false) : anyN n p = false := by
  unfold anyN; rw [allN_at (fun j hj => by simp [h j hj])]; rfl
theorem anyN_iff {n : Nat} {p : Nat → Bool} : anyN n p = true ↔ ∃ j, j < n ∧ p j = true := by
  constructor
  · intro h
    apply Classical.byContradiction
    intro hn
    rw [anyN_none (fun j hj => by rw [← Bool.not_eq_true]; exact fun hp => hn ⟨j, hj, hp⟩)] at h
    cases h
  · rintro ⟨j, hj, hp⟩; exact anyN_at hj hp
theorem up_to {n : Int} {p : Nat → Prop} {i : Int} (hi : 0 ≤ i) (h : ∀ j : Nat, (j : Int) < i → p j) (hp : p i.toNat) : ∀ j : Nat, (j : Int) < i + 1 → p j := fun j hj => by
  by_cases e : j = i.toNat
  · subst e; exact hp
  · exact h j (by omega)

def inB (a l h : Int) : Bool := decide (l ≤ a ∧ a ≤ h)
theorem inB_iff {a l h : Int} : inB a l h = true ↔ l ≤ a ∧ a ≤ h := by simp [inB]
theorem bAt_bd (s : ByteArray) (i : Nat) : 0 ≤ bAt s i ∧ bAt s i ≤ 255 := by
  unfold bAt
  have := (s.data.toList.getD i 0).toNat_lt
  omega

-- spec.l01Small
theorem l01Small_ok (c : Int) : Con Tryd.prog 70 [.val (.int .u8 c)] true (Bv (inB c 97 122)) := by
  refine fn_ok (fn := Tryd.f70) (nt := 9) Tryd.func70 rfl rfl rfl rfl (by simp [taggedL, tagged]) fun B hB => ?_
  refine aw_seq ?_
  refine aw_reg [] [0] [] [.val (.int .u8 c)] [] [] (by kernel_rfl) hB trivial ?_
  refine ae_then ?_
  refine aw_seq ?_
  by_cases h1 : 97 ≤ c
  · refine aw_reg [(1, .dec true)] [2] [] [Bv (decide (c ≤ 122))] [] [97 ≤ c] (by kernel_rfl) hB ⟨h1, trivial⟩ ?_
    refine ae_then ?_
    refine aw_ret ?_
    refine ae_ret hB (Bv (decide (c ≤ 122))) (by kernel_rfl) (.inl (by first | rfl | (refine congrArg Bv ?_; simp [inB, *]; done) | (refine congrArg Bv ?_; simp [inB, *]; omega) | (refine congrArg Bv ?_; simp_all [inB]; done) | (refine congrArg Bv ?_; simp_all [inB]; omega))) rfl (fun _ => trivial)
  · refine aw_reg [(1, .dec false)] [2] [] [Bv false] [] [¬ (97 ≤ c)] (by kernel_rfl) hB ⟨h1, trivial⟩ ?_
    refine ae_then ?_
    refine aw_ret ?_
    refine ae_ret hB (Bv false) (by kernel_rfl) (.inl (by first | rfl | (refine congrArg Bv ?_; simp [inB, *]; done) | (refine congrArg Bv ?_; simp [inB, *]; omega) | (refine congrArg Bv ?_; simp_all [inB]; done) | (refine congrArg Bv ?_; simp_all [inB]; omega))) rfl (fun _ => trivial)


-- spec.l01Digit
theorem l01Digit_ok (c : Int) : Con Tryd.prog 71 [.val (.int .u8 c)] true (Bv (inB c 48 57)) := by
  refine fn_ok (fn := Tryd.f71) (nt := 9) Tryd.func71 rfl rfl rfl rfl (by simp [taggedL, tagged]) fun B hB => ?_
  refine aw_seq ?_
  refine aw_reg [] [0] [] [.val (.int .u8 c)] [] [] (by kernel_rfl) hB trivial ?_
  refine ae_then ?_
  refine aw_seq ?_
  by_cases h1 : 48 ≤ c
  · refine aw_reg [(1, .dec true)] [2] [] [Bv (decide (c ≤ 57))] [] [48 ≤ c] (by kernel_rfl) hB ⟨h1, trivial⟩ ?_
    refine ae_then ?_
    refine aw_ret ?_
    refine ae_ret hB (Bv (decide (c ≤ 57))) (by kernel_rfl) (.inl (by first | rfl | (refine congrArg Bv ?_; simp [inB, *]; done) | (refine congrArg Bv ?_; simp [inB, *]; omega) | (refine congrArg Bv ?_; simp_all [inB]; done) | (refine congrArg Bv ?_; simp_all [inB]; omega))) rfl (fun _ => trivial)
  · refine aw_reg [(1, .dec false)] [2] [] [Bv false] [] [¬ (48 ≤ c)] (by kernel_rfl) hB ⟨h1, trivial⟩ ?_
    refine ae_then ?_
    refine aw_ret ?_
    refine ae_ret hB (Bv false) (by kernel_rfl) (.inl (by first | rfl | (refine congrArg Bv ?_; simp [inB, *]; done) | (refine congrArg Bv ?_; simp [inB, *]; omega) | (refine congrArg Bv ?_; simp_all [inB]; done) | (refine congrArg Bv ?_; simp_all [inB]; omega))) rfl (fun _ => trivial)


def cellB (n : Int) : Bool := inB n 97 122 || (inB n 48 57 || decide (n = 32))
/-- Whether a text is made of small letters, digits and blanks. -/
def lettersB (s : ByteArray) : Bool := allN s.size (fun j => cellB (bAt s j))
def okRow (l : CellRow) : Bool := lettersB l.Text && (decide ((l.Text.size : Int) ≤ 60) && (inB l.X 0 4095 && (inB l.Y 0 4095 && inB l.Cell 2 60)))
theorem okRow_iff {l : CellRow} : okRow l = true ↔ lettersB l.Text = true ∧ (l.Text.size : Int) ≤ 60 ∧ (0 ≤ l.X ∧ l.X ≤ 4095) ∧ (0 ≤ l.Y ∧ l.Y ≤ 4095) ∧ (2 ≤ l.Cell ∧ l.Cell ≤ 60) := by simp [okRow, inB, and_assoc]
/-- A text without what t has at its ends. -/
def trimB (s t : ByteArray) : ByteArray := ⟨(Lib.trimS s.data.toList t.data.toList).toArray⟩
theorem dropWhile_nil {α : Type} {p : α → Bool} : ∀ {l : List α}, l.dropWhile p = [] ↔ ∀ x ∈ l, p x = true
  | [] => by simp
  | x :: l => by
    rw [List.dropWhile_cons]
    cases h : p x with
    | true => simp only [if_true]; rw [dropWhile_nil]; simp [h]
    | false => simp [h]
theorem dropWhile_head {α : Type} {p : α → Bool} : ∀ {l : List α} {x : α} {r : List α}, l.dropWhile p = x :: r → p x = false
  | [], _, _, h => by simp at h
  | y :: l, x, r, h => by
    rw [List.dropWhile_cons] at h
    cases hp : p y with
    | true => rw [hp] at h; exact dropWhile_head h
    | false => rw [hp] at h; simp at h; rw [← h.1]; exact hp
theorem trimS_nil {l cs : List UInt8} : Lib.trimS l cs = [] ↔ ∀ x ∈ l, cs.contains x = true := by
  unfold Lib.trimS Lib.trimLeftS Lib.trimRightS
  constructor
  · intro h
    rw [dropWhile_nil] at h
    cases e : l.reverse.dropWhile (cs.contains ·) with
    | nil => rw [dropWhile_nil] at e; intro x hx; exact e x (by simpa using hx)
    | cons x r =>
      have h1 := dropWhile_head e
      have h2 := h x (by rw [e]; simp)
      rw [h2] at h1; cases h1
  · intro h
    have e : l.reverse.dropWhile (cs.contains ·) = [] := dropWhile_nil.2 fun x hx => h x (by simpa using hx)
    rw [e]; rfl
theorem lettersB_iff {s : ByteArray} : lettersB s = true ↔ ∀ x ∈ s.data.toList, cellB x.toNat = true := by
  unfold lettersB
  rw [allN_iff]
  have hl : s.size = s.data.toList.length := by rw [Array.length_toList]; rfl
  constructor
  · intro h x hx
    obtain ⟨i, hi, rfl⟩ := List.getElem_of_mem hx
    have := h i (by omega)
    rw [bAt, List.getD_eq_getElem?_getD, List.getElem?_eq_getElem hi] at this
    exact this
  · intro h j hj
    rw [bAt, List.getD_eq_getElem?_getD, List.getElem?_eq_getElem (by omega)]
    exact h _ (List.getElem_mem _)
def cellsT : ByteArray := ⟨#[97, 98, 99, 100, 101, 102, 103, 104, 105, 106, 107, 108, 109, 110, 111, 112, 113, 114, 115, 116, 117, 118, 119, 120, 121, 122, 48, 49, 50, 51, 52, 53, 54, 55, 56, 57, 32]⟩
set_option maxRecDepth 100000 in
theorem cellsT_has (x : UInt8) : cellsT.data.toList.contains x = cellB x.toNat := by
  have h1 : cellsT.data.toList.contains x = (cellsT.data.toList.map fun y => y.toNat).contains x.toNat := by
    rw [Bool.eq_iff_iff]
    simp only [List.contains_iff_mem, List.mem_map]
    constructor
    · intro h; exact ⟨x, h, rfl⟩
    · rintro ⟨y, hy, e⟩; rw [← UInt8.toNat_inj.1 e]; exact hy
  rw [h1]
  generalize x.toNat = n
  have h2 : (cellsT.data.toList.map fun y => y.toNat) = [97, 98, 99, 100, 101, 102, 103, 104, 105, 106, 107, 108, 109, 110, 111, 112, 113, 114, 115, 116, 117, 118, 119, 120, 121, 122, 48, 49, 50, 51, 52, 53, 54, 55, 56, 57, 32] := by rfl
  rw [h2, Bool.eq_iff_iff]
  simp [cellB, inB]
  omega
theorem trim_cells (s : ByteArray) : trimB s cellsT = ⟨#[]⟩ ↔ lettersB s = true := by
  rw [lettersB_iff]
  constructor
  · intro h x hx
    have h' : Lib.trimS s.data.toList cellsT.data.toList = [] := by
      have := congrArg (fun b => b.data.toList) h
      simpa [trimB] using this
    rw [← cellsT_has]
    exact trimS_nil.1 h' x hx
  · intro h
    have : Lib.trimS s.data.toList cellsT.data.toList = [] := trimS_nil.2 fun x hx => by rw [cellsT_has]; exact h x hx
    unfold trimB
    rw [this]

-- spec.l23Letters
theorem l23Letters_ok (s : ByteArray) (ok : s.size ≤ 9223372036854775807) : Con Tryd.prog 50 [Sv s] true (Bv (lettersB s)) := by
  refine fn_ok (fn := Tryd.f50) (nt := 28) Tryd.func50 rfl rfl rfl rfl (by simp [taggedL, tagged]) fun B hB => ?_
  refine aw_seq ?_
  refine aw_reg [] [0] [] [Sv s] [] [] (by kernel_rfl) hB trivial ?_
  refine ae_then ?_
  refine aw_seq ?_
  refine aw_seq ?_
  refine aw_reg [] [0, 3] [] [Sv s, I 0] [] [] (by kernel_rfl) hB trivial ?_
  refine ae_then ?_
  refine aw_block ?_
  refine aw_loop (fun gn gσ => ∃ (i : Int), gn = ((s.size : Int) - i).toNat ∧ (0 ≤ i ∧ i ≤ (s.size : Int)) ∧ (∀ j : Nat, (j : Int) < i → cellB (bAt s j) = true) ∧ gσ = mkS [(0, Sv s), (3, I i)] []) (((s.size : Int) - 0).toNat) ⟨0, rfl, (by omega), (by intro j hj; omega), rfl⟩ (fun gn gσ hI => ?_)
  obtain ⟨i, rfl, hi0, hall0, rfl⟩ := hI
  refine aw_seq ?_
  refine aw_seq ?_
  by_cases h1 : i < (s.size : Int)
  · have hi : i.toNat < s.size := by omega
    refine aw_reg [(3, .dec true)] [0, 3, 7] [] [Sv s, I i, Bv true] [] [i < (s.size : Int)] (by kernel_rfl) hB ⟨h1, trivial⟩ ?_
    refine ae_then ?_
    refine aw_true rfl ?_
    refine aw_skip ?_
    refine ae_then ?_
    refine aw_seq ?_
    refine aw_block ?_
    refine aw_seq ?_
    rcases Bool.eq_false_or_eq_true (inB (bAt s i.toNat) 97 122) with h2 | h2
    · refine aw_reg [(3, .call [(true, .val (.int .u8 (bAt s i.toNat)))] true (Bv true))] [0, 3, 27] [] [Sv s, I i, Bv false] [] [(0 : Int) ≤ i ∧ i < (s.size : Int), Con Tryd.prog 70 [.val (.int .u8 (bAt s i.toNat))] true (Bv true) ∧ ((.val (.int .u8 (bAt s i.toNat)) : AV) = .val (.int .u8 (bAt s i.toNat))) ∧ True] (by kernel_rfl) hB ⟨⟨(by omega), (by omega)⟩, ⟨(con_bool h2 (l01Small_ok (bAt s i.toNat))), rfl, trivial⟩, trivial⟩ ?_
      refine ae_then ?_
      refine aw_false rfl ?_
      refine aw_skip ?_
      refine ae_block 1 ?_
      refine ae_then ?_
      refine aw_reg [] [0, 3] [] [Sv s, I (i + 1)] [] [inR .i64 (i + 1)] (by kernel_rfl) hB ⟨(inR_i64 (by omega) (by omega)), trivial⟩ ?_
      exact ae_again _ (by omega) ⟨(i + 1), rfl, (by omega), (by intro j hj; by_cases ej : j = i.toNat; (subst ej; simp_all [cellB]); exact hall0 j (by omega)), rfl⟩
    · rcases Bool.eq_false_or_eq_true (inB (bAt s i.toNat) 48 57) with h3 | h3
      · refine aw_reg [(3, .call [(true, .val (.int .u8 (bAt s i.toNat)))] true (Bv false)), (9, .call [(true, .val (.int .u8 (bAt s i.toNat)))] true (Bv true))] [0, 3, 27] [] [Sv s, I i, Bv false] [] [(0 : Int) ≤ i ∧ i < (s.size : Int), Con Tryd.prog 70 [.val (.int .u8 (bAt s i.toNat))] true (Bv false) ∧ ((.val (.int .u8 (bAt s i.toNat)) : AV) = .val (.int .u8 (bAt s i.toNat))) ∧ True, (0 : Int) ≤ i ∧ i < (s.size : Int), Con Tryd.prog 71 [.val (.int .u8 (bAt s i.toNat))] true (Bv true) ∧ ((.val (.int .u8 (bAt s i.toNat)) : AV) = .val (.int .u8 (bAt s i.toNat))) ∧ True] (by kernel_rfl) hB ⟨⟨(by omega), (by omega)⟩, ⟨(con_bool h2 (l01Small_ok (bAt s i.toNat))), rfl, trivial⟩, ⟨(by omega), (by omega)⟩, ⟨(con_bool h3 (l01Digit_ok (bAt s i.toNat))), rfl, trivial⟩, trivial⟩ ?_
        refine ae_then ?_
        refine aw_false rfl ?_
        refine aw_skip ?_
        refine ae_block 1 ?_
        refine ae_then ?_
        refine aw_reg [] [0, 3] [] [Sv s, I (i + 1)] [] [inR .i64 (i + 1)] (by kernel_rfl) hB ⟨(inR_i64 (by omega) (by omega)), trivial⟩ ?_
        exact ae_again _ (by omega) ⟨(i + 1), rfl, (by omega), (by intro j hj; by_cases ej : j = i.toNat; (subst ej; simp_all [cellB]); exact hall0 j (by omega)), rfl⟩
      · by_cases h4 : (bAt s i.toNat) = 32
        · refine aw_reg [(3, .call [(true, .val (.int .u8 (bAt s i.toNat)))] true (Bv false)), (9, .call [(true, .val (.int .u8 (bAt s i.toNat)))] true (Bv false)), (16, .dec false)] [0, 3, 27] [] [Sv s, I i, Bv false] [] [(0 : Int) ≤ i ∧ i < (s.size : Int), Con Tryd.prog 70 [.val (.int .u8 (bAt s i.toNat))] true (Bv false) ∧ ((.val (.int .u8 (bAt s i.toNat)) : AV) = .val (.int .u8 (bAt s i.toNat))) ∧ True, (0 : Int) ≤ i ∧ i < (s.size : Int), Con Tryd.prog 71 [.val (.int .u8 (bAt s i.toNat))] true (Bv false) ∧ ((.val (.int .u8 (bAt s i.toNat)) : AV) = .val (.int .u8 (bAt s i.toNat))) ∧ True, (0 : Int) ≤ i ∧ i < (s.size : Int), ¬ ((bAt s i.toNat) ≠ 32)] (by kernel_rfl) hB ⟨⟨(by omega), (by omega)⟩, ⟨(con_bool h2 (l01Small_ok (bAt s i.toNat))), rfl, trivial⟩, ⟨(by omega), (by omega)⟩, ⟨(con_bool h3 (l01Digit_ok (bAt s i.toNat))), rfl, trivial⟩, ⟨(by omega), (by omega)⟩, (fun hq => hq h4), trivial⟩ ?_
          refine ae_then ?_
          refine aw_false rfl ?_
          refine aw_skip ?_
          refine ae_block 1 ?_
          refine ae_then ?_
          refine aw_reg [] [0, 3] [] [Sv s, I (i + 1)] [] [inR .i64 (i + 1)] (by kernel_rfl) hB ⟨(inR_i64 (by omega) (by omega)), trivial⟩ ?_
          exact ae_again _ (by omega) ⟨(i + 1), rfl, (by omega), (by intro j hj; by_cases ej : j = i.toNat; (subst ej; simp_all [cellB]); exact hall0 j (by omega)), rfl⟩
        · refine aw_reg [(3, .call [(true, .val (.int .u8 (bAt s i.toNat)))] true (Bv false)), (9, .call [(true, .val (.int .u8 (bAt s i.toNat)))] true (Bv false)), (16, .dec true)] [0, 3, 27] [] [Sv s, I i, Bv true] [] [(0 : Int) ≤ i ∧ i < (s.size : Int), Con Tryd.prog 70 [.val (.int .u8 (bAt s i.toNat))] true (Bv false) ∧ ((.val (.int .u8 (bAt s i.toNat)) : AV) = .val (.int .u8 (bAt s i.toNat))) ∧ True, (0 : Int) ≤ i ∧ i < (s.size : Int), Con Tryd.prog 71 [.val (.int .u8 (bAt s i.toNat))] true (Bv false) ∧ ((.val (.int .u8 (bAt s i.toNat)) : AV) = .val (.int .u8 (bAt s i.toNat))) ∧ True, (0 : Int) ≤ i ∧ i < (s.size : Int), (bAt s i.toNat) ≠ 32] (by kernel_rfl) hB ⟨⟨(by omega), (by omega)⟩, ⟨(con_bool h2 (l01Small_ok (bAt s i.toNat))), rfl, trivial⟩, ⟨(by omega), (by omega)⟩, ⟨(con_bool h3 (l01Digit_ok (bAt s i.toNat))), rfl, trivial⟩, ⟨(by omega), (by omega)⟩, h4, trivial⟩ ?_
          refine ae_then ?_
          refine aw_true rfl ?_
          refine aw_seq ?_
          refine aw_reg [] [2] [] [Bv false] [] [] (by kernel_rfl) hB trivial ?_
          refine ae_then ?_
          refine aw_ret ?_
          refine ae_ret_block (ae_ret_then (ae_ret_then (ae_ret_block (ae_ret_then ?_))))
          refine ae_ret hB (Bv false) (by kernel_rfl) (.inl (by refine congrArg Bv ?_; first | exact hall.symm | (symm; exact allN_not hi (by simp_all [cellB, inB])))) rfl (fun _ => trivial)
  · have hall : allN s.size (fun j => cellB (bAt s j)) = true := allN_at (fun j hj => hall0 j (by omega))
    refine aw_reg [(3, .dec false)] [0, 3, 7] [] [Sv s, I i, Bv false] [] [¬ (i < (s.size : Int))] (by kernel_rfl) hB ⟨h1, trivial⟩ ?_
    refine ae_then ?_
    refine aw_false rfl ?_
    refine aw_exit ?_
    refine ae_exit_then ?_
    refine ae_exit_then ?_
    refine ae_exit_same ?_
    refine ae_then ?_
    refine aw_seq ?_
    refine aw_reg [] [2] [] [Bv true] [] [] (by kernel_rfl) hB trivial ?_
    refine ae_then ?_
    refine aw_ret ?_
    refine ae_ret hB (Bv true) (by kernel_rfl) (.inl (by refine congrArg Bv ?_; first | exact hall.symm | (symm; exact allN_not hi (by simp_all [cellB, inB])))) rfl (fun _ => trivial)


-- spec.l00In
theorem l00In_ok (n : Int) (low : Int) (high : Int) : Con Tryd.prog 36 [I n, I low, I high] true (Bv (inB n low high)) := by
  refine fn_ok (fn := Tryd.f36) (nt := 15) Tryd.func36 rfl rfl rfl rfl (by simp [taggedL, tagged]) fun B hB => ?_
  refine aw_seq ?_
  refine aw_reg [] [0, 1, 2] [] [I n, I low, I high] [] [] (by kernel_rfl) hB trivial ?_
  refine ae_then ?_
  refine aw_seq ?_
  by_cases h1 : low ≤ n
  · refine aw_reg [(2, .dec true)] [6] [] [Bv (decide (n ≤ high))] [] [low ≤ n] (by kernel_rfl) hB ⟨h1, trivial⟩ ?_
    refine ae_then ?_
    refine aw_ret ?_
    refine ae_ret hB (Bv (decide (n ≤ high))) (by kernel_rfl) (.inl (by first | rfl | (refine congrArg Bv ?_; simp [inB, *]; done) | (refine congrArg Bv ?_; simp [inB, *]; omega) | (refine congrArg Bv ?_; simp_all [inB]; done) | (refine congrArg Bv ?_; simp_all [inB]; omega))) rfl (fun _ => trivial)
  · refine aw_reg [(2, .dec false)] [6] [] [Bv false] [] [¬ (low ≤ n)] (by kernel_rfl) hB ⟨h1, trivial⟩ ?_
    refine ae_then ?_
    refine aw_ret ?_
    refine ae_ret hB (Bv false) (by kernel_rfl) (.inl (by first | rfl | (refine congrArg Bv ?_; simp [inB, *]; done) | (refine congrArg Bv ?_; simp [inB, *]; omega) | (refine congrArg Bv ?_; simp_all [inB]; done) | (refine congrArg Bv ?_; simp_all [inB]; omega))) rfl (fun _ => trivial)


-- spec.l23Ok
theorem l23Ok_ok (l : CellRow) (ok : l.Text.size ≤ 9223372036854775807) : Con Tryd.prog 32 [.ptr false [Sv l.Text, I l.X, I l.Y, I l.Cell]] true (Bv (okRow l)) := by
  refine fn_ok (fn := Tryd.f32) (nt := 37) Tryd.func32 rfl rfl rfl rfl (by simp [taggedL, tagged]) fun B hB => ?_
  refine aw_seq ?_
  refine aw_reg [] [0] [] [.ptr false [Sv l.Text, I l.X, I l.Y, I l.Cell]] [] [] (by kernel_rfl) hB trivial ?_
  refine ae_then ?_
  refine aw_seq ?_
  rcases Bool.eq_false_or_eq_true (lettersB l.Text) with h1 | h1
  · by_cases h2 : (l.Text.size : Int) ≤ 60
    · rcases Bool.eq_false_or_eq_true (inB l.X 0 4095) with h3 | h3
      · rcases Bool.eq_false_or_eq_true (inB l.Y 0 4095) with h4 | h4
        · refine aw_reg [(4, .call [(true, Sv l.Text)] true (Bv true)), (11, .dec true), (18, .call [(true, I l.X), (true, I 0), (true, I 4095)] true (Bv true)), (25, .call [(true, I l.Y), (true, I 0), (true, I 4095)] true (Bv true)), (32, .call [(true, I l.Cell), (true, I 2), (true, I 60)] true (Bv (inB l.Cell 2 60)))] [2] [] [Bv (inB l.Cell 2 60)] [] [Con Tryd.prog 50 [Sv l.Text] true (Bv true) ∧ ((Sv l.Text : AV) = Sv l.Text) ∧ True, (l.Text.size : Int) ≤ 60, Con Tryd.prog 36 [I l.X, I 0, I 4095] true (Bv true) ∧ ((I l.X : AV) = I l.X) ∧ ((I 0 : AV) = I 0) ∧ ((I 4095 : AV) = I 4095) ∧ True, Con Tryd.prog 36 [I l.Y, I 0, I 4095] true (Bv true) ∧ ((I l.Y : AV) = I l.Y) ∧ ((I 0 : AV) = I 0) ∧ ((I 4095 : AV) = I 4095) ∧ True, Con Tryd.prog 36 [I l.Cell, I 2, I 60] true (Bv (inB l.Cell 2 60)) ∧ ((I l.Cell : AV) = I l.Cell) ∧ ((I 2 : AV) = I 2) ∧ ((I 60 : AV) = I 60) ∧ True] (by kernel_rfl) hB ⟨⟨(con_bool h1 (l23Letters_ok l.Text ok)), rfl, trivial⟩, h2, ⟨(con_bool h3 (l00In_ok l.X 0 4095)), rfl, rfl, rfl, trivial⟩, ⟨(con_bool h4 (l00In_ok l.Y 0 4095)), rfl, rfl, rfl, trivial⟩, ⟨(l00In_ok l.Cell 2 60), rfl, rfl, rfl, trivial⟩, trivial⟩ ?_
          refine ae_then ?_
          refine aw_ret ?_
          refine ae_ret hB (Bv (inB l.Cell 2 60)) (by kernel_rfl) (.inl (by first | rfl | (refine congrArg Bv ?_; simp [okRow, inB, *]; done) | (refine congrArg Bv ?_; simp [okRow, inB, *]; omega) | (refine congrArg Bv ?_; simp_all [okRow, inB]; done) | (refine congrArg Bv ?_; simp_all [okRow, inB]; omega))) rfl (fun _ => trivial)
        · refine aw_reg [(4, .call [(true, Sv l.Text)] true (Bv true)), (11, .dec true), (18, .call [(true, I l.X), (true, I 0), (true, I 4095)] true (Bv true)), (25, .call [(true, I l.Y), (true, I 0), (true, I 4095)] true (Bv false))] [2] [] [Bv false] [] [Con Tryd.prog 50 [Sv l.Text] true (Bv true) ∧ ((Sv l.Text : AV) = Sv l.Text) ∧ True, (l.Text.size : Int) ≤ 60, Con Tryd.prog 36 [I l.X, I 0, I 4095] true (Bv true) ∧ ((I l.X : AV) = I l.X) ∧ ((I 0 : AV) = I 0) ∧ ((I 4095 : AV) = I 4095) ∧ True, Con Tryd.prog 36 [I l.Y, I 0, I 4095] true (Bv false) ∧ ((I l.Y : AV) = I l.Y) ∧ ((I 0 : AV) = I 0) ∧ ((I 4095 : AV) = I 4095) ∧ True] (by kernel_rfl) hB ⟨⟨(con_bool h1 (l23Letters_ok l.Text ok)), rfl, trivial⟩, h2, ⟨(con_bool h3 (l00In_ok l.X 0 4095)), rfl, rfl, rfl, trivial⟩, ⟨(con_bool h4 (l00In_ok l.Y 0 4095)), rfl, rfl, rfl, trivial⟩, trivial⟩ ?_
          refine ae_then ?_
          refine aw_ret ?_
          refine ae_ret hB (Bv false) (by kernel_rfl) (.inl (by first | rfl | (refine congrArg Bv ?_; simp [okRow, inB, *]; done) | (refine congrArg Bv ?_; simp [okRow, inB, *]; omega) | (refine congrArg Bv ?_; simp_all [okRow, inB]; done) | (refine congrArg Bv ?_; simp_all [okRow, inB]; omega))) rfl (fun _ => trivial)
      · refine aw_reg [(4, .call [(true, Sv l.Text)] true (Bv true)), (11, .dec true), (18, .call [(true, I l.X), (true, I 0), (true, I 4095)] true (Bv false))] [2] [] [Bv false] [] [Con Tryd.prog 50 [Sv l.Text] true (Bv true) ∧ ((Sv l.Text : AV) = Sv l.Text) ∧ True, (l.Text.size : Int) ≤ 60, Con Tryd.prog 36 [I l.X, I 0, I 4095] true (Bv false) ∧ ((I l.X : AV) = I l.X) ∧ ((I 0 : AV) = I 0) ∧ ((I 4095 : AV) = I 4095) ∧ True] (by kernel_rfl) hB ⟨⟨(con_bool h1 (l23Letters_ok l.Text ok)), rfl, trivial⟩, h2, ⟨(con_bool h3 (l00In_ok l.X 0 4095)), rfl, rfl, rfl, trivial⟩, trivial⟩ ?_
        refine ae_then ?_
        refine aw_ret ?_
        refine ae_ret hB (Bv false) (by kernel_rfl) (.inl (by first | rfl | (refine congrArg Bv ?_; simp [okRow, inB, *]; done) | (refine congrArg Bv ?_; simp [okRow, inB, *]; omega) | (refine congrArg Bv ?_; simp_all [okRow, inB]; done) | (refine congrArg Bv ?_; simp_all [okRow, inB]; omega))) rfl (fun _ => trivial)
    · refine aw_reg [(4, .call [(true, Sv l.Text)] true (Bv true)), (11, .dec false)] [2] [] [Bv false] [] [Con Tryd.prog 50 [Sv l.Text] true (Bv true) ∧ ((Sv l.Text : AV) = Sv l.Text) ∧ True, ¬ ((l.Text.size : Int) ≤ 60)] (by kernel_rfl) hB ⟨⟨(con_bool h1 (l23Letters_ok l.Text ok)), rfl, trivial⟩, h2, trivial⟩ ?_
      refine ae_then ?_
      refine aw_ret ?_
      refine ae_ret hB (Bv false) (by kernel_rfl) (.inl (by first | rfl | (refine congrArg Bv ?_; simp [okRow, inB, *]; done) | (refine congrArg Bv ?_; simp [okRow, inB, *]; omega) | (refine congrArg Bv ?_; simp_all [okRow, inB]; done) | (refine congrArg Bv ?_; simp_all [okRow, inB]; omega))) rfl (fun _ => trivial)
  · refine aw_reg [(4, .call [(true, Sv l.Text)] true (Bv false))] [2] [] [Bv false] [] [Con Tryd.prog 50 [Sv l.Text] true (Bv false) ∧ ((Sv l.Text : AV) = Sv l.Text) ∧ True] (by kernel_rfl) hB ⟨⟨(con_bool h1 (l23Letters_ok l.Text ok)), rfl, trivial⟩, trivial⟩ ?_
    refine ae_then ?_
    refine aw_ret ?_
    refine ae_ret hB (Bv false) (by kernel_rfl) (.inl (by first | rfl | (refine congrArg Bv ?_; simp [okRow, inB, *]; done) | (refine congrArg Bv ?_; simp [okRow, inB, *]; omega) | (refine congrArg Bv ?_; simp_all [okRow, inB]; done) | (refine congrArg Bv ?_; simp_all [okRow, inB]; omega))) rfl (fun _ => trivial)


theorem ba_ext (s : ByteArray) (a b : Nat) : (s.extract a b).size = min b s.size - a := by simp [ByteArray.size_extract]
theorem ba_nil : (⟨#[]⟩ : ByteArray).size = 0 := rfl
/-- The code of an edit of a line. -/
def chkI (l : CellRow) (e : Edit) (ins : ByteArray) : Int :=
  if okRow l = true ∧ lettersB ins = true ∧ inB e.Kind 1 3 = true then
    (if (0 ≤ e.From ∧ e.From ≤ e.To) ∧ e.To ≤ (l.Text.size : Int) ∧ (e.Kind = 3 → e.From = e.To) then
      (if e.Kind ≠ 1 ∧ 60 < (l.Text.size : Int) + (ins.size : Int) - (e.To - e.From) then 5 else 0) else 2) else 1
section
variable {l : CellRow} {e : Edit} {ins : ByteArray}
theorem chk_1 (h : ¬ (okRow l = true ∧ lettersB ins = true ∧ inB e.Kind 1 3 = true)) : chkI l e ins = 1 := by rw [chkI, if_neg h]
theorem chk_2 (h1 : okRow l = true) (h2 : lettersB ins = true) (h3 : inB e.Kind 1 3 = true) (h : ¬ ((0 ≤ e.From ∧ e.From ≤ e.To) ∧ e.To ≤ (l.Text.size : Int) ∧ (e.Kind = 3 → e.From = e.To))) : chkI l e ins = 2 := by rw [chkI, if_pos ⟨h1, h2, h3⟩, if_neg h]
theorem chk_5 (h1 : okRow l = true) (h2 : lettersB ins = true) (h3 : inB e.Kind 1 3 = true) (h : (0 ≤ e.From ∧ e.From ≤ e.To) ∧ e.To ≤ (l.Text.size : Int) ∧ (e.Kind = 3 → e.From = e.To)) (h4 : e.Kind ≠ 1 ∧ 60 < (l.Text.size : Int) + (ins.size : Int) - (e.To - e.From)) : chkI l e ins = 5 := by rw [chkI, if_pos ⟨h1, h2, h3⟩, if_pos h, if_pos h4]
theorem chk_0 (h1 : okRow l = true) (h2 : lettersB ins = true) (h3 : inB e.Kind 1 3 = true) (h : (0 ≤ e.From ∧ e.From ≤ e.To) ∧ e.To ≤ (l.Text.size : Int) ∧ (e.Kind = 3 → e.From = e.To)) (h4 : ¬ (e.Kind ≠ 1 ∧ 60 < (l.Text.size : Int) + (ins.size : Int) - (e.To - e.From))) : chkI l e ins = 0 := by rw [chkI, if_pos ⟨h1, h2, h3⟩, if_pos h, if_neg h4]
theorem chk_ok (h : chkI l e ins = 0) : okRow l = true ∧ lettersB ins = true ∧ (1 ≤ e.Kind ∧ e.Kind ≤ 3) ∧ (0 ≤ e.From ∧ e.From ≤ e.To) ∧ e.To ≤ (l.Text.size : Int) ∧ (e.Kind = 3 → e.From = e.To) ∧ (e.Kind = 1 ∨ (l.Text.size : Int) + (ins.size : Int) - (e.To - e.From) ≤ 60) := by
  unfold chkI at h
  split at h
  · rename_i h1
    split at h
    · rename_i h2
      split at h
      · cases h
      · rename_i h3
        exact ⟨h1.1, h1.2.1, inB_iff.1 h1.2.2, h2.1, h2.2.1, h2.2.2, by omega⟩
    · cases h
  · cases h
def applyT (l : CellRow) (e : Edit) (ins : ByteArray) : ByteArray := l.Text.extract 0 e.From.toNat ++ (if e.Kind = 1 then ⟨#[]⟩ else ins) ++ l.Text.extract e.To.toNat l.Text.size
/-- A line after an edit. -/
def applyL (l : CellRow) (e : Edit) (ins : ByteArray) : CellRow := ⟨applyT l e ins, l.X, l.Y, l.Cell⟩
def applyRow (l : CellRow) (e : Edit) (ins : ByteArray) : CellRow := if chkI l e ins = 0 then applyL l e ins else ⟨⟨#[]⟩, 0, 0, 0⟩
theorem applyRow_eq (h : chkI l e ins = 0) : applyRow l e ins = applyL l e ins := if_pos h
theorem applyRow_ne {k : Int} (h : chkI l e ins = k) (hk : k ≠ 0) : applyRow l e ins = ⟨⟨#[]⟩, 0, 0, 0⟩ := if_neg (by rw [h]; exact hk)
def invE (l : CellRow) (e : Edit) (ins : ByteArray) : Edit := if chkI l e ins = 0 then (if e.Kind = 1 then ⟨3, e.From, e.From⟩ else if e.Kind = 3 then ⟨1, e.From, e.From + (ins.size : Int)⟩ else ⟨2, e.From, e.From + (ins.size : Int)⟩) else ⟨0, 0, 0⟩
def invT (l : CellRow) (e : Edit) (ins : ByteArray) : ByteArray := if chkI l e ins = 0 then (if e.Kind = 3 then ⟨#[]⟩ else l.Text.extract e.From.toNat e.To.toNat) else ⟨#[]⟩
end

-- spec.l23Check
theorem l23Check_ok (l : CellRow) (e : Edit) (insert : ByteArray) (okl : l.Text.size ≤ 9223372036854775807) (oki : insert.size ≤ 1048576) : Con Tryd.prog 38 [.ptr false [Sv l.Text, I l.X, I l.Y, I l.Cell], .agg [I e.Kind, I e.From, I e.To], Sv insert] true (I (chkI l e insert)) := by
  refine fn_ok (fn := Tryd.f38) (nt := 69) Tryd.func38 rfl rfl rfl rfl (by simp [taggedL, tagged]) fun B hB => ?_
  refine aw_seq ?_
  refine aw_reg [(0, .new 4)] [0, 2, 4] [4] [.ptr false [Sv l.Text, I l.X, I l.Y, I l.Cell], Sv insert, .ref 4 0] [some (.box [I e.Kind, I e.From, I e.To])] [] (by kernel_rfl) hB trivial ?_
  refine ae_then ?_
  refine aw_seq ?_
  refine aw_seq ?_
  rcases Bool.eq_false_or_eq_true (okRow l) with h1 | h1
  · have hr := okRow_iff.1 h1
    rcases Bool.eq_false_or_eq_true (lettersB insert) with h2 | h2
    · rcases Bool.eq_false_or_eq_true (inB e.Kind 1 3) with h3 | h3
      · have hinh3 := inB_iff.1 h3
        refine aw_reg [(1, .call [(true, .ptr false [Sv l.Text, I l.X, I l.Y, I l.Cell])] true (Bv true)), (5, .call [(true, Sv insert)] true (Bv true)), (11, .call [(true, I e.Kind), (true, I 1), (true, I 3)] true (Bv true))] [0, 2, 4, 20] [4] [.ptr false [Sv l.Text, I l.X, I l.Y, I l.Cell], Sv insert, .ref 4 0, Bv false] [some (.box [I e.Kind, I e.From, I e.To])] [Con Tryd.prog 32 [.ptr false [Sv l.Text, I l.X, I l.Y, I l.Cell]] true (Bv true) ∧ ((.ptr false [Sv l.Text, I l.X, I l.Y, I l.Cell] : AV) = .ptr false [Sv l.Text, I l.X, I l.Y, I l.Cell]) ∧ True, Con Tryd.prog 50 [Sv insert] true (Bv true) ∧ ((Sv insert : AV) = Sv insert) ∧ True, Con Tryd.prog 36 [I e.Kind, I 1, I 3] true (Bv true) ∧ ((I e.Kind : AV) = I e.Kind) ∧ ((I 1 : AV) = I 1) ∧ ((I 3 : AV) = I 3) ∧ True] (by kernel_rfl) hB ⟨⟨(con_bool h1 (l23Ok_ok l okl)), rfl, trivial⟩, ⟨(con_bool h2 (l23Letters_ok insert (by omega))), rfl, trivial⟩, ⟨(con_bool h3 (l00In_ok e.Kind 1 3)), rfl, rfl, rfl, trivial⟩, trivial⟩ ?_
        refine ae_then ?_
        refine aw_false rfl ?_
        refine aw_skip ?_
        refine ae_then ?_
        refine aw_seq ?_
        refine aw_seq ?_
        rcases Bool.eq_false_or_eq_true (inB e.From 0 e.To) with h4 | h4
        · have hinh4 := inB_iff.1 h4
          by_cases h5 : (l.Text.size : Int) < e.To
          · refine aw_reg [(4, .call [(true, I e.From), (true, I 0), (true, I e.To)] true (Bv true)), (14, .dec true)] [0, 2, 4, 48] [4] [.ptr false [Sv l.Text, I l.X, I l.Y, I l.Cell], Sv insert, .ref 4 0, Bv true] [some (.box [I e.Kind, I e.From, I e.To])] [Con Tryd.prog 36 [I e.From, I 0, I e.To] true (Bv true) ∧ ((I e.From : AV) = I e.From) ∧ ((I 0 : AV) = I 0) ∧ ((I e.To : AV) = I e.To) ∧ True, (l.Text.size : Int) < e.To] (by kernel_rfl) hB ⟨⟨(con_bool h4 (l00In_ok e.From 0 e.To)), rfl, rfl, rfl, trivial⟩, h5, trivial⟩ ?_
            refine ae_then ?_
            refine aw_true rfl ?_
            refine aw_seq ?_
            refine aw_reg [] [6] [] [I 2] [] [] (by kernel_rfl) hB trivial ?_
            refine ae_then ?_
            refine aw_ret ?_
            refine ae_ret_then ?_
            refine ae_ret hB (I 2) (by kernel_rfl) (.inl (by refine congrArg I ?_; first | exact (chk_1 (by simp [*])).symm | exact (chk_2 (by assumption) (by assumption) (by assumption) (by omega)).symm | exact (chk_5 (by assumption) (by assumption) (by assumption) (by omega) (by omega)).symm | exact (chk_0 (by assumption) (by assumption) (by assumption) (by omega) (by omega)).symm)) rfl (fun _ => trivial)
          · by_cases h6 : e.Kind = 3
            · by_cases h7 : e.From = e.To
              · refine aw_reg [(4, .call [(true, I e.From), (true, I 0), (true, I e.To)] true (Bv true)), (14, .dec false), (19, .dec true), (25, .dec false)] [0, 2, 4, 48] [4] [.ptr false [Sv l.Text, I l.X, I l.Y, I l.Cell], Sv insert, .ref 4 0, Bv false] [some (.box [I e.Kind, I e.From, I e.To])] [Con Tryd.prog 36 [I e.From, I 0, I e.To] true (Bv true) ∧ ((I e.From : AV) = I e.From) ∧ ((I 0 : AV) = I 0) ∧ ((I e.To : AV) = I e.To) ∧ True, ¬ ((l.Text.size : Int) < e.To), e.Kind = 3, ¬ (e.From ≠ e.To)] (by kernel_rfl) hB ⟨⟨(con_bool h4 (l00In_ok e.From 0 e.To)), rfl, rfl, rfl, trivial⟩, h5, h6, (fun hq => hq h7), trivial⟩ ?_
                refine ae_then ?_
                refine aw_false rfl ?_
                refine aw_skip ?_
                refine ae_then ?_
                refine aw_seq ?_
                refine aw_seq ?_
                by_cases h8 : e.Kind = 1
                · refine aw_reg [(2, .dec false)] [68] [] [Bv false] [] [¬ (e.Kind ≠ 1)] (by kernel_rfl) hB ⟨(fun hq => hq h8), trivial⟩ ?_
                  refine ae_then ?_
                  refine aw_false rfl ?_
                  refine aw_skip ?_
                  refine ae_then ?_
                  refine aw_seq ?_
                  refine aw_reg [] [6] [] [I 0] [] [] (by kernel_rfl) hB trivial ?_
                  refine ae_then ?_
                  refine aw_ret ?_
                  refine ae_ret hB (I 0) (by kernel_rfl) (.inl (by refine congrArg I ?_; first | exact (chk_1 (by simp [*])).symm | exact (chk_2 (by assumption) (by assumption) (by assumption) (by omega)).symm | exact (chk_5 (by assumption) (by assumption) (by assumption) (by omega) (by omega)).symm | exact (chk_0 (by assumption) (by assumption) (by assumption) (by omega) (by omega)).symm)) rfl (fun _ => trivial)
                · by_cases h9 : 60 < (((l.Text.size : Int) + (insert.size : Int)) - (e.To - e.From))
                  · refine aw_reg [(2, .dec true), (18, .dec true)] [68] [] [Bv true] [] [e.Kind ≠ 1, inR .i64 ((l.Text.size : Int) + (insert.size : Int)), inR .i64 (e.To - e.From), inR .i64 (((l.Text.size : Int) + (insert.size : Int)) - (e.To - e.From)), 60 < (((l.Text.size : Int) + (insert.size : Int)) - (e.To - e.From))] (by kernel_rfl) hB ⟨h8, (inR_i64 (by omega) (by omega)), (inR_i64 (by omega) (by omega)), (inR_i64 (by omega) (by omega)), h9, trivial⟩ ?_
                    refine ae_then ?_
                    refine aw_true rfl ?_
                    refine aw_seq ?_
                    refine aw_reg [] [6] [] [I 5] [] [] (by kernel_rfl) hB trivial ?_
                    refine ae_then ?_
                    refine aw_ret ?_
                    refine ae_ret_then ?_
                    refine ae_ret hB (I 5) (by kernel_rfl) (.inl (by refine congrArg I ?_; first | exact (chk_1 (by simp [*])).symm | exact (chk_2 (by assumption) (by assumption) (by assumption) (by omega)).symm | exact (chk_5 (by assumption) (by assumption) (by assumption) (by omega) (by omega)).symm | exact (chk_0 (by assumption) (by assumption) (by assumption) (by omega) (by omega)).symm)) rfl (fun _ => trivial)
                  · refine aw_reg [(2, .dec true), (18, .dec false)] [68] [] [Bv false] [] [e.Kind ≠ 1, inR .i64 ((l.Text.size : Int) + (insert.size : Int)), inR .i64 (e.To - e.From), inR .i64 (((l.Text.size : Int) + (insert.size : Int)) - (e.To - e.From)), ¬ (60 < (((l.Text.size : Int) + (insert.size : Int)) - (e.To - e.From)))] (by kernel_rfl) hB ⟨h8, (inR_i64 (by omega) (by omega)), (inR_i64 (by omega) (by omega)), (inR_i64 (by omega) (by omega)), h9, trivial⟩ ?_
                    refine ae_then ?_
                    refine aw_false rfl ?_
                    refine aw_skip ?_
                    refine ae_then ?_
                    refine aw_seq ?_
                    refine aw_reg [] [6] [] [I 0] [] [] (by kernel_rfl) hB trivial ?_
                    refine ae_then ?_
                    refine aw_ret ?_
                    refine ae_ret hB (I 0) (by kernel_rfl) (.inl (by refine congrArg I ?_; first | exact (chk_1 (by simp [*])).symm | exact (chk_2 (by assumption) (by assumption) (by assumption) (by omega)).symm | exact (chk_5 (by assumption) (by assumption) (by assumption) (by omega) (by omega)).symm | exact (chk_0 (by assumption) (by assumption) (by assumption) (by omega) (by omega)).symm)) rfl (fun _ => trivial)
              · refine aw_reg [(4, .call [(true, I e.From), (true, I 0), (true, I e.To)] true (Bv true)), (14, .dec false), (19, .dec true), (25, .dec true)] [0, 2, 4, 48] [4] [.ptr false [Sv l.Text, I l.X, I l.Y, I l.Cell], Sv insert, .ref 4 0, Bv true] [some (.box [I e.Kind, I e.From, I e.To])] [Con Tryd.prog 36 [I e.From, I 0, I e.To] true (Bv true) ∧ ((I e.From : AV) = I e.From) ∧ ((I 0 : AV) = I 0) ∧ ((I e.To : AV) = I e.To) ∧ True, ¬ ((l.Text.size : Int) < e.To), e.Kind = 3, e.From ≠ e.To] (by kernel_rfl) hB ⟨⟨(con_bool h4 (l00In_ok e.From 0 e.To)), rfl, rfl, rfl, trivial⟩, h5, h6, h7, trivial⟩ ?_
                refine ae_then ?_
                refine aw_true rfl ?_
                refine aw_seq ?_
                refine aw_reg [] [6] [] [I 2] [] [] (by kernel_rfl) hB trivial ?_
                refine ae_then ?_
                refine aw_ret ?_
                refine ae_ret_then ?_
                refine ae_ret hB (I 2) (by kernel_rfl) (.inl (by refine congrArg I ?_; first | exact (chk_1 (by simp [*])).symm | exact (chk_2 (by assumption) (by assumption) (by assumption) (by omega)).symm | exact (chk_5 (by assumption) (by assumption) (by assumption) (by omega) (by omega)).symm | exact (chk_0 (by assumption) (by assumption) (by assumption) (by omega) (by omega)).symm)) rfl (fun _ => trivial)
            · refine aw_reg [(4, .call [(true, I e.From), (true, I 0), (true, I e.To)] true (Bv true)), (14, .dec false), (19, .dec false)] [0, 2, 4, 48] [4] [.ptr false [Sv l.Text, I l.X, I l.Y, I l.Cell], Sv insert, .ref 4 0, Bv false] [some (.box [I e.Kind, I e.From, I e.To])] [Con Tryd.prog 36 [I e.From, I 0, I e.To] true (Bv true) ∧ ((I e.From : AV) = I e.From) ∧ ((I 0 : AV) = I 0) ∧ ((I e.To : AV) = I e.To) ∧ True, ¬ ((l.Text.size : Int) < e.To), ¬ (e.Kind = 3)] (by kernel_rfl) hB ⟨⟨(con_bool h4 (l00In_ok e.From 0 e.To)), rfl, rfl, rfl, trivial⟩, h5, h6, trivial⟩ ?_
              refine ae_then ?_
              refine aw_false rfl ?_
              refine aw_skip ?_
              refine ae_then ?_
              refine aw_seq ?_
              refine aw_seq ?_
              by_cases h10 : e.Kind = 1
              · refine aw_reg [(2, .dec false)] [68] [] [Bv false] [] [¬ (e.Kind ≠ 1)] (by kernel_rfl) hB ⟨(fun hq => hq h10), trivial⟩ ?_
                refine ae_then ?_
                refine aw_false rfl ?_
                refine aw_skip ?_
                refine ae_then ?_
                refine aw_seq ?_
                refine aw_reg [] [6] [] [I 0] [] [] (by kernel_rfl) hB trivial ?_
                refine ae_then ?_
                refine aw_ret ?_
                refine ae_ret hB (I 0) (by kernel_rfl) (.inl (by refine congrArg I ?_; first | exact (chk_1 (by simp [*])).symm | exact (chk_2 (by assumption) (by assumption) (by assumption) (by omega)).symm | exact (chk_5 (by assumption) (by assumption) (by assumption) (by omega) (by omega)).symm | exact (chk_0 (by assumption) (by assumption) (by assumption) (by omega) (by omega)).symm)) rfl (fun _ => trivial)
              · by_cases h11 : 60 < (((l.Text.size : Int) + (insert.size : Int)) - (e.To - e.From))
                · refine aw_reg [(2, .dec true), (18, .dec true)] [68] [] [Bv true] [] [e.Kind ≠ 1, inR .i64 ((l.Text.size : Int) + (insert.size : Int)), inR .i64 (e.To - e.From), inR .i64 (((l.Text.size : Int) + (insert.size : Int)) - (e.To - e.From)), 60 < (((l.Text.size : Int) + (insert.size : Int)) - (e.To - e.From))] (by kernel_rfl) hB ⟨h10, (inR_i64 (by omega) (by omega)), (inR_i64 (by omega) (by omega)), (inR_i64 (by omega) (by omega)), h11, trivial⟩ ?_
                  refine ae_then ?_
                  refine aw_true rfl ?_
                  refine aw_seq ?_
                  refine aw_reg [] [6] [] [I 5] [] [] (by kernel_rfl) hB trivial ?_
                  refine ae_then ?_
                  refine aw_ret ?_
                  refine ae_ret_then ?_
                  refine ae_ret hB (I 5) (by kernel_rfl) (.inl (by refine congrArg I ?_; first | exact (chk_1 (by simp [*])).symm | exact (chk_2 (by assumption) (by assumption) (by assumption) (by omega)).symm | exact (chk_5 (by assumption) (by assumption) (by assumption) (by omega) (by omega)).symm | exact (chk_0 (by assumption) (by assumption) (by assumption) (by omega) (by omega)).symm)) rfl (fun _ => trivial)
                · refine aw_reg [(2, .dec true), (18, .dec false)] [68] [] [Bv false] [] [e.Kind ≠ 1, inR .i64 ((l.Text.size : Int) + (insert.size : Int)), inR .i64 (e.To - e.From), inR .i64 (((l.Text.size : Int) + (insert.size : Int)) - (e.To - e.From)), ¬ (60 < (((l.Text.size : Int) + (insert.size : Int)) - (e.To - e.From)))] (by kernel_rfl) hB ⟨h10, (inR_i64 (by omega) (by omega)), (inR_i64 (by omega) (by omega)), (inR_i64 (by omega) (by omega)), h11, trivial⟩ ?_
                  refine ae_then ?_
                  refine aw_false rfl ?_
                  refine aw_skip ?_
                  refine ae_then ?_
                  refine aw_seq ?_
                  refine aw_reg [] [6] [] [I 0] [] [] (by kernel_rfl) hB trivial ?_
                  refine ae_then ?_
                  refine aw_ret ?_
                  refine ae_ret hB (I 0) (by kernel_rfl) (.inl (by refine congrArg I ?_; first | exact (chk_1 (by simp [*])).symm | exact (chk_2 (by assumption) (by assumption) (by assumption) (by omega)).symm | exact (chk_5 (by assumption) (by assumption) (by assumption) (by omega) (by omega)).symm | exact (chk_0 (by assumption) (by assumption) (by assumption) (by omega) (by omega)).symm)) rfl (fun _ => trivial)
        · have hinh4 := (not_congr inB_iff).1 (Bool.eq_false_iff.1 h4)
          refine aw_reg [(4, .call [(true, I e.From), (true, I 0), (true, I e.To)] true (Bv false))] [0, 2, 4, 48] [4] [.ptr false [Sv l.Text, I l.X, I l.Y, I l.Cell], Sv insert, .ref 4 0, Bv true] [some (.box [I e.Kind, I e.From, I e.To])] [Con Tryd.prog 36 [I e.From, I 0, I e.To] true (Bv false) ∧ ((I e.From : AV) = I e.From) ∧ ((I 0 : AV) = I 0) ∧ ((I e.To : AV) = I e.To) ∧ True] (by kernel_rfl) hB ⟨⟨(con_bool h4 (l00In_ok e.From 0 e.To)), rfl, rfl, rfl, trivial⟩, trivial⟩ ?_
          refine ae_then ?_
          refine aw_true rfl ?_
          refine aw_seq ?_
          refine aw_reg [] [6] [] [I 2] [] [] (by kernel_rfl) hB trivial ?_
          refine ae_then ?_
          refine aw_ret ?_
          refine ae_ret_then ?_
          refine ae_ret hB (I 2) (by kernel_rfl) (.inl (by refine congrArg I ?_; first | exact (chk_1 (by simp [*])).symm | exact (chk_2 (by assumption) (by assumption) (by assumption) (by omega)).symm | exact (chk_5 (by assumption) (by assumption) (by assumption) (by omega) (by omega)).symm | exact (chk_0 (by assumption) (by assumption) (by assumption) (by omega) (by omega)).symm)) rfl (fun _ => trivial)
      · have hinh3 := (not_congr inB_iff).1 (Bool.eq_false_iff.1 h3)
        refine aw_reg [(1, .call [(true, .ptr false [Sv l.Text, I l.X, I l.Y, I l.Cell])] true (Bv true)), (5, .call [(true, Sv insert)] true (Bv true)), (11, .call [(true, I e.Kind), (true, I 1), (true, I 3)] true (Bv false))] [0, 2, 4, 20] [4] [.ptr false [Sv l.Text, I l.X, I l.Y, I l.Cell], Sv insert, .ref 4 0, Bv true] [some (.box [I e.Kind, I e.From, I e.To])] [Con Tryd.prog 32 [.ptr false [Sv l.Text, I l.X, I l.Y, I l.Cell]] true (Bv true) ∧ ((.ptr false [Sv l.Text, I l.X, I l.Y, I l.Cell] : AV) = .ptr false [Sv l.Text, I l.X, I l.Y, I l.Cell]) ∧ True, Con Tryd.prog 50 [Sv insert] true (Bv true) ∧ ((Sv insert : AV) = Sv insert) ∧ True, Con Tryd.prog 36 [I e.Kind, I 1, I 3] true (Bv false) ∧ ((I e.Kind : AV) = I e.Kind) ∧ ((I 1 : AV) = I 1) ∧ ((I 3 : AV) = I 3) ∧ True] (by kernel_rfl) hB ⟨⟨(con_bool h1 (l23Ok_ok l okl)), rfl, trivial⟩, ⟨(con_bool h2 (l23Letters_ok insert (by omega))), rfl, trivial⟩, ⟨(con_bool h3 (l00In_ok e.Kind 1 3)), rfl, rfl, rfl, trivial⟩, trivial⟩ ?_
        refine ae_then ?_
        refine aw_true rfl ?_
        refine aw_seq ?_
        refine aw_reg [] [6] [] [I 1] [] [] (by kernel_rfl) hB trivial ?_
        refine ae_then ?_
        refine aw_ret ?_
        refine ae_ret_then ?_
        refine ae_ret hB (I 1) (by kernel_rfl) (.inl (by refine congrArg I ?_; first | exact (chk_1 (by simp [*])).symm | exact (chk_2 (by assumption) (by assumption) (by assumption) (by omega)).symm | exact (chk_5 (by assumption) (by assumption) (by assumption) (by omega) (by omega)).symm | exact (chk_0 (by assumption) (by assumption) (by assumption) (by omega) (by omega)).symm)) rfl (fun _ => trivial)
    · refine aw_reg [(1, .call [(true, .ptr false [Sv l.Text, I l.X, I l.Y, I l.Cell])] true (Bv true)), (5, .call [(true, Sv insert)] true (Bv false))] [0, 2, 4, 20] [4] [.ptr false [Sv l.Text, I l.X, I l.Y, I l.Cell], Sv insert, .ref 4 0, Bv true] [some (.box [I e.Kind, I e.From, I e.To])] [Con Tryd.prog 32 [.ptr false [Sv l.Text, I l.X, I l.Y, I l.Cell]] true (Bv true) ∧ ((.ptr false [Sv l.Text, I l.X, I l.Y, I l.Cell] : AV) = .ptr false [Sv l.Text, I l.X, I l.Y, I l.Cell]) ∧ True, Con Tryd.prog 50 [Sv insert] true (Bv false) ∧ ((Sv insert : AV) = Sv insert) ∧ True] (by kernel_rfl) hB ⟨⟨(con_bool h1 (l23Ok_ok l okl)), rfl, trivial⟩, ⟨(con_bool h2 (l23Letters_ok insert (by omega))), rfl, trivial⟩, trivial⟩ ?_
      refine ae_then ?_
      refine aw_true rfl ?_
      refine aw_seq ?_
      refine aw_reg [] [6] [] [I 1] [] [] (by kernel_rfl) hB trivial ?_
      refine ae_then ?_
      refine aw_ret ?_
      refine ae_ret_then ?_
      refine ae_ret hB (I 1) (by kernel_rfl) (.inl (by refine congrArg I ?_; first | exact (chk_1 (by simp [*])).symm | exact (chk_2 (by assumption) (by assumption) (by assumption) (by omega)).symm | exact (chk_5 (by assumption) (by assumption) (by assumption) (by omega) (by omega)).symm | exact (chk_0 (by assumption) (by assumption) (by assumption) (by omega) (by omega)).symm)) rfl (fun _ => trivial)
  · refine aw_reg [(1, .call [(true, .ptr false [Sv l.Text, I l.X, I l.Y, I l.Cell])] true (Bv false))] [0, 2, 4, 20] [4] [.ptr false [Sv l.Text, I l.X, I l.Y, I l.Cell], Sv insert, .ref 4 0, Bv true] [some (.box [I e.Kind, I e.From, I e.To])] [Con Tryd.prog 32 [.ptr false [Sv l.Text, I l.X, I l.Y, I l.Cell]] true (Bv false) ∧ ((.ptr false [Sv l.Text, I l.X, I l.Y, I l.Cell] : AV) = .ptr false [Sv l.Text, I l.X, I l.Y, I l.Cell]) ∧ True] (by kernel_rfl) hB ⟨⟨(con_bool h1 (l23Ok_ok l okl)), rfl, trivial⟩, trivial⟩ ?_
    refine ae_then ?_
    refine aw_true rfl ?_
    refine aw_seq ?_
    refine aw_reg [] [6] [] [I 1] [] [] (by kernel_rfl) hB trivial ?_
    refine ae_then ?_
    refine aw_ret ?_
    refine ae_ret_then ?_
    refine ae_ret hB (I 1) (by kernel_rfl) (.inl (by refine congrArg I ?_; first | exact (chk_1 (by simp [*])).symm | exact (chk_2 (by assumption) (by assumption) (by assumption) (by omega)).symm | exact (chk_5 (by assumption) (by assumption) (by assumption) (by omega) (by omega)).symm | exact (chk_0 (by assumption) (by assumption) (by assumption) (by omega) (by omega)).symm)) rfl (fun _ => trivial)


-- spec.InverseEdit
theorem specInverseEdit_ok (l : CellRow) (e : Edit) (insert : ByteArray) (okl : l.Text.size ≤ 9223372036854775807) (oki : insert.size ≤ 1048576) : Con Tryd.prog 19 [.agg [Sv l.Text, I l.X, I l.Y, I l.Cell], .agg [I e.Kind, I e.From, I e.To], Sv insert] true (.tup [.agg [I ((invE l e insert).Kind), I ((invE l e insert).From), I ((invE l e insert).To)], Sv (invT l e insert), I (chkI l e insert)]) := by
  refine fn_ok (fn := Tryd.f19) (nt := 54) Tryd.func19 rfl rfl rfl rfl (by simp [taggedL, tagged]) fun B hB => ?_
  refine aw_seq ?_
  refine aw_reg [(0, .new 3), (1, .new 4), (2, .new 6)] [2, 3, 4, 6] [3, 4, 6] [Sv insert, .ref 3 0, .ref 4 0, .ref 6 0] [some (.box [Sv l.Text, I l.X, I l.Y, I l.Cell]), some (.box [I e.Kind, I e.From, I e.To]), some (.box [I 0, I 0, I 0])] [] (by kernel_rfl) hB trivial ?_
  refine ae_then ?_
  refine aw_seq ?_
  refine aw_reg [(2, .call [(false, .ptr false [Sv l.Text, I l.X, I l.Y, I l.Cell]), (true, .agg [I e.Kind, I e.From, I e.To]), (true, Sv insert)] true (I (chkI l e insert)))] [2, 3, 4, 6, 9] [3, 4, 6] [Sv insert, .ref 3 0, .ref 4 0, .ref 6 0, I (chkI l e insert)] [some (.box [Sv l.Text, I l.X, I l.Y, I l.Cell]), some (.box [I e.Kind, I e.From, I e.To]), some (.box [I 0, I 0, I 0])] [Con Tryd.prog 38 [.ptr false [Sv l.Text, I l.X, I l.Y, I l.Cell], .agg [I e.Kind, I e.From, I e.To], Sv insert] true (I (chkI l e insert)) ∧ ((false = true → true = true) ∧ AV.idsL [Sv l.Text, I l.X, I l.Y, I l.Cell] = [] ∧ (valOf (Sv l.Text) = valOf (Sv l.Text)) ∧ (valOf (I l.X) = valOf (I l.X)) ∧ (valOf (I l.Y) = valOf (I l.Y)) ∧ (valOf (I l.Cell) = valOf (I l.Cell)) ∧ ([] : List AV) = []) ∧ ((.agg [I e.Kind, I e.From, I e.To] : AV) = .agg [I e.Kind, I e.From, I e.To]) ∧ ((Sv insert : AV) = Sv insert) ∧ True] (by kernel_rfl) hB ⟨⟨(l23Check_ok l e insert okl oki), ⟨(fun h => by cases h), rfl, ⟨rfl, ⟨rfl, ⟨rfl, ⟨rfl, rfl⟩⟩⟩⟩⟩, rfl, rfl, trivial⟩, trivial⟩ ?_
  refine ae_then ?_
  refine aw_seq ?_
  refine aw_seq ?_
  by_cases h1 : (chkI l e insert) = 0
  · have hck := chk_ok h1
    have hr := okRow_iff.1 hck.1
    refine aw_reg [(1, .dec false)] [2, 3, 4, 6, 9, 15] [3, 4, 6] [Sv insert, .ref 3 0, .ref 4 0, .ref 6 0, I (chkI l e insert), Bv false] [some (.box [Sv l.Text, I l.X, I l.Y, I l.Cell]), some (.box [I e.Kind, I e.From, I e.To]), some (.box [I 0, I 0, I 0])] [¬ ((chkI l e insert) ≠ 0)] (by kernel_rfl) hB ⟨(fun hq => hq h1), trivial⟩ ?_
    refine ae_then ?_
    refine aw_false rfl ?_
    refine aw_skip ?_
    refine ae_then ?_
    refine aw_seq ?_
    refine aw_reg [] [2, 4, 6, 10] [4, 6] [Sv insert, .ref 4 0, .ref 6 0, Sv (l.Text.extract e.From.toNat e.To.toNat)] [some (.box [I e.Kind, I e.From, I e.To]), some (.box [I 0, I 0, I 0])] [(0 : Int) ≤ e.From ∧ e.From ≤ e.To ∧ e.To ≤ (l.Text.size : Int)] (by kernel_rfl) hB ⟨⟨(by omega), (by omega), (by omega)⟩, trivial⟩ ?_
    refine ae_then ?_
    refine aw_seq ?_
    refine aw_seq ?_
    refine aw_reg [] [2, 4, 6, 10, 26] [4, 6] [Sv insert, .ref 4 0, .ref 6 0, Sv (l.Text.extract e.From.toNat e.To.toNat), I e.Kind] [some (.box [I e.Kind, I e.From, I e.To]), some (.box [I 0, I 0, I 0])] [] (by kernel_rfl) hB trivial ?_
    refine ae_then ?_
    refine aw_block ?_
    refine aw_seq ?_
    by_cases h2 : e.Kind = 1
    · refine aw_reg [(0, .dec true)] [2, 4, 6, 10, 26, 27] [4, 6] [Sv insert, .ref 4 0, .ref 6 0, Sv (l.Text.extract e.From.toNat e.To.toNat), I e.Kind, Bv true] [some (.box [I e.Kind, I e.From, I e.To]), some (.box [I 0, I 0, I 0])] [e.Kind = 1] (by kernel_rfl) hB ⟨h2, trivial⟩ ?_
      refine ae_then ?_
      refine aw_true rfl ?_
      refine aw_seq ?_
      refine aw_reg [] [6, 7, 8] [6] [.ref 6 0, Sv (l.Text.extract e.From.toNat e.To.toNat), I 0] [some (.box [I 3, I e.From, I e.From])] [] (by kernel_rfl) hB trivial ?_
      refine ae_then ?_
      refine aw_ret ?_
      refine ae_ret_block (ae_ret_then ?_)
      refine ae_ret hB (.tup [.agg [I 3, I e.From, I e.From], Sv (l.Text.extract e.From.toNat e.To.toNat), I 0]) (by kernel_rfl) (.inl (by simp [invE, invT, *])) rfl (fun _ => (by simp [tagged, taggedL]))
    · refine aw_reg [(0, .dec false)] [2, 4, 6, 10, 26, 27] [4, 6] [Sv insert, .ref 4 0, .ref 6 0, Sv (l.Text.extract e.From.toNat e.To.toNat), I e.Kind, Bv false] [some (.box [I e.Kind, I e.From, I e.To]), some (.box [I 0, I 0, I 0])] [¬ (e.Kind = 1)] (by kernel_rfl) hB ⟨h2, trivial⟩ ?_
      refine ae_then ?_
      refine aw_false rfl ?_
      refine aw_seq ?_
      by_cases h3 : e.Kind = 3
      · refine aw_reg [(0, .dec true)] [2, 4, 6, 10, 35] [4, 6] [Sv insert, .ref 4 0, .ref 6 0, Sv (l.Text.extract e.From.toNat e.To.toNat), Bv true] [some (.box [I e.Kind, I e.From, I e.To]), some (.box [I 0, I 0, I 0])] [e.Kind = 3] (by kernel_rfl) hB ⟨h3, trivial⟩ ?_
        refine ae_then ?_
        refine aw_true rfl ?_
        refine aw_seq ?_
        refine aw_reg [] [6, 7, 8] [6] [.ref 6 0, Sv (⟨#[]⟩ : ByteArray), I 0] [some (.box [I 1, I e.From, I (e.From + (insert.size : Int))])] [inR .i64 (e.From + (insert.size : Int))] (by kernel_rfl) hB ⟨(inR_i64 (by omega) (by omega)), trivial⟩ ?_
        refine ae_then ?_
        refine aw_ret ?_
        refine ae_ret_block (ae_ret_then ?_)
        refine ae_ret hB (.tup [.agg [I 1, I e.From, I (e.From + (insert.size : Int))], Sv (⟨#[]⟩ : ByteArray), I 0]) (by kernel_rfl) (.inl (by simp [invE, invT, *])) rfl (fun _ => (by simp [tagged, taggedL]))
      · refine aw_reg [(0, .dec false)] [2, 4, 6, 10, 35] [4, 6] [Sv insert, .ref 4 0, .ref 6 0, Sv (l.Text.extract e.From.toNat e.To.toNat), Bv false] [some (.box [I e.Kind, I e.From, I e.To]), some (.box [I 0, I 0, I 0])] [¬ (e.Kind = 3)] (by kernel_rfl) hB ⟨h3, trivial⟩ ?_
        refine ae_then ?_
        refine aw_false rfl ?_
        refine aw_skip ?_
        refine ae_block 0 ?_
        refine ae_then ?_
        refine aw_seq ?_
        refine aw_reg [] [6, 7, 8] [6] [.ref 6 0, Sv (l.Text.extract e.From.toNat e.To.toNat), I 0] [some (.box [I 2, I e.From, I (e.From + (insert.size : Int))])] [inR .i64 (e.From + (insert.size : Int))] (by kernel_rfl) hB ⟨(inR_i64 (by omega) (by omega)), trivial⟩ ?_
        refine ae_then ?_
        refine aw_ret ?_
        refine ae_ret hB (.tup [.agg [I 2, I e.From, I (e.From + (insert.size : Int))], Sv (l.Text.extract e.From.toNat e.To.toNat), I 0]) (by kernel_rfl) (.inl (by simp [invE, invT, *])) rfl (fun _ => (by simp [tagged, taggedL]))
  · refine aw_reg [(1, .dec true)] [2, 3, 4, 6, 9, 15] [3, 4, 6] [Sv insert, .ref 3 0, .ref 4 0, .ref 6 0, I (chkI l e insert), Bv true] [some (.box [Sv l.Text, I l.X, I l.Y, I l.Cell]), some (.box [I e.Kind, I e.From, I e.To]), some (.box [I 0, I 0, I 0])] [(chkI l e insert) ≠ 0] (by kernel_rfl) hB ⟨h1, trivial⟩ ?_
    refine ae_then ?_
    refine aw_true rfl ?_
    refine aw_seq ?_
    refine aw_reg [] [6, 7, 8] [6] [.ref 6 0, Sv (⟨#[]⟩ : ByteArray), I (chkI l e insert)] [some (.box [I 0, I 0, I 0])] [] (by kernel_rfl) hB trivial ?_
    refine ae_then ?_
    refine aw_ret ?_
    refine ae_ret_then ?_
    refine ae_ret hB (.tup [.agg [I 0, I 0, I 0], Sv (⟨#[]⟩ : ByteArray), I (chkI l e insert)]) (by kernel_rfl) (.inl (by simp [invE, invT, *])) rfl (fun _ => (by simp [tagged, taggedL]))


-- strings.Trim
theorem trim_ok (s t : ByteArray) (hs : s.size ≤ 9223372036854775807) (hcs : t.size < 4294967281) (ha : t.data.toList.all (fun b => decide (b.toNat < 128)) = true) : Con Tryd.prog 51 [Sv s, Sv t] true (Sv (trimB s t)) := by
  refine con_of_calls (vals := [.string s, .string t]) fun w => ?_
  refine (Any.strings_Trim_laid Tryd.lays160 (by kernel_rfl) s t w hs hcs (ascii_of_all ha)).mono ?_
  rintro e w' ⟨rfl, hb⟩
  exact ⟨rfl, hb⟩


-- impl.areCells
theorem areCells_ok (text : ByteArray) (ok : text.size ≤ 9223372036854775807) : Con Tryd.prog 33 [Sv text] true (Bv (lettersB text)) := by
  refine fn_ok (fn := Tryd.f33) (nt := 6) Tryd.func33 rfl rfl rfl rfl (by simp [taggedL, tagged]) fun B hB => ?_
  refine aw_seq ?_
  refine aw_reg [] [0] [] [Sv text] [] [] (by kernel_rfl) hB trivial ?_
  refine ae_then ?_
  refine aw_seq ?_
  refine aw_reg [(1, .call [(true, Sv text), (true, Sv (⟨#[97, 98, 99, 100, 101, 102, 103, 104, 105, 106, 107, 108, 109, 110, 111, 112, 113, 114, 115, 116, 117, 118, 119, 120, 121, 122, 48, 49, 50, 51, 52, 53, 54, 55, 56, 57, 32]⟩ : ByteArray))] true (Sv (trimB text (⟨#[97, 98, 99, 100, 101, 102, 103, 104, 105, 106, 107, 108, 109, 110, 111, 112, 113, 114, 115, 116, 117, 118, 119, 120, 121, 122, 48, 49, 50, 51, 52, 53, 54, 55, 56, 57, 32]⟩ : ByteArray))))] [2] [] [Bv (decide ((trimB text (⟨#[97, 98, 99, 100, 101, 102, 103, 104, 105, 106, 107, 108, 109, 110, 111, 112, 113, 114, 115, 116, 117, 118, 119, 120, 121, 122, 48, 49, 50, 51, 52, 53, 54, 55, 56, 57, 32]⟩ : ByteArray)) = (⟨#[]⟩ : ByteArray)))] [] [Con Tryd.prog 51 [Sv text, Sv (⟨#[97, 98, 99, 100, 101, 102, 103, 104, 105, 106, 107, 108, 109, 110, 111, 112, 113, 114, 115, 116, 117, 118, 119, 120, 121, 122, 48, 49, 50, 51, 52, 53, 54, 55, 56, 57, 32]⟩ : ByteArray)] true (Sv (trimB text (⟨#[97, 98, 99, 100, 101, 102, 103, 104, 105, 106, 107, 108, 109, 110, 111, 112, 113, 114, 115, 116, 117, 118, 119, 120, 121, 122, 48, 49, 50, 51, 52, 53, 54, 55, 56, 57, 32]⟩ : ByteArray))) ∧ ((Sv text : AV) = Sv text) ∧ ((Sv (⟨#[97, 98, 99, 100, 101, 102, 103, 104, 105, 106, 107, 108, 109, 110, 111, 112, 113, 114, 115, 116, 117, 118, 119, 120, 121, 122, 48, 49, 50, 51, 52, 53, 54, 55, 56, 57, 32]⟩ : ByteArray) : AV) = Sv (⟨#[97, 98, 99, 100, 101, 102, 103, 104, 105, 106, 107, 108, 109, 110, 111, 112, 113, 114, 115, 116, 117, 118, 119, 120, 121, 122, 48, 49, 50, 51, 52, 53, 54, 55, 56, 57, 32]⟩ : ByteArray)) ∧ True] (by kernel_rfl) hB ⟨⟨(trim_ok text (⟨#[97, 98, 99, 100, 101, 102, 103, 104, 105, 106, 107, 108, 109, 110, 111, 112, 113, 114, 115, 116, 117, 118, 119, 120, 121, 122, 48, 49, 50, 51, 52, 53, 54, 55, 56, 57, 32]⟩ : ByteArray) ok (by decide) (by decide)), rfl, rfl, trivial⟩, trivial⟩ ?_
  refine ae_then ?_
  refine aw_ret ?_
  refine ae_ret hB (Bv (decide ((trimB text (⟨#[97, 98, 99, 100, 101, 102, 103, 104, 105, 106, 107, 108, 109, 110, 111, 112, 113, 114, 115, 116, 117, 118, 119, 120, 121, 122, 48, 49, 50, 51, 52, 53, 54, 55, 56, 57, 32]⟩ : ByteArray)) = (⟨#[]⟩ : ByteArray)))) (by kernel_rfl) (.inl (by refine congrArg Bv ?_; rw [Bool.eq_iff_iff, decide_eq_true_iff]; exact trim_cells text)) rfl (fun _ => trivial)


-- impl.within
theorem within_ok (n : Int) (low : Int) (high : Int) : Con Tryd.prog 35 [I n, I low, I high] true (Bv (inB n low high)) := by
  refine fn_ok (fn := Tryd.f35) (nt := 15) Tryd.func35 rfl rfl rfl rfl (by simp [taggedL, tagged]) fun B hB => ?_
  refine aw_seq ?_
  refine aw_reg [] [0, 1, 2] [] [I n, I low, I high] [] [] (by kernel_rfl) hB trivial ?_
  refine ae_then ?_
  refine aw_seq ?_
  by_cases h1 : low ≤ n
  · refine aw_reg [(2, .dec true)] [6] [] [Bv (decide (n ≤ high))] [] [low ≤ n] (by kernel_rfl) hB ⟨h1, trivial⟩ ?_
    refine ae_then ?_
    refine aw_ret ?_
    refine ae_ret hB (Bv (decide (n ≤ high))) (by kernel_rfl) (.inl (by first | rfl | (refine congrArg Bv ?_; simp [inB, *]; done) | (refine congrArg Bv ?_; simp [inB, *]; omega) | (refine congrArg Bv ?_; simp_all [inB]; done) | (refine congrArg Bv ?_; simp_all [inB]; omega))) rfl (fun _ => trivial)
  · refine aw_reg [(2, .dec false)] [6] [] [Bv false] [] [¬ (low ≤ n)] (by kernel_rfl) hB ⟨h1, trivial⟩ ?_
    refine ae_then ?_
    refine aw_ret ?_
    refine ae_ret hB (Bv false) (by kernel_rfl) (.inl (by first | rfl | (refine congrArg Bv ?_; simp [inB, *]; done) | (refine congrArg Bv ?_; simp [inB, *]; omega) | (refine congrArg Bv ?_; simp_all [inB]; done) | (refine congrArg Bv ?_; simp_all [inB]; omega))) rfl (fun _ => trivial)


-- impl.isCoord
theorem isCoord_ok (n : Int) : Con Tryd.prog 34 [I n] true (Bv (inB n 0 4095)) := by
  refine fn_ok (fn := Tryd.f34) (nt := 5) Tryd.func34 rfl rfl rfl rfl (by simp [taggedL, tagged]) fun B hB => ?_
  refine aw_seq ?_
  refine aw_reg [] [0] [] [I n] [] [] (by kernel_rfl) hB trivial ?_
  refine ae_then ?_
  refine aw_seq ?_
  refine aw_reg [(1, .call [(true, I n), (true, I 0), (true, I 4095)] true (Bv (inB n 0 4095)))] [2] [] [Bv (inB n 0 4095)] [] [Con Tryd.prog 35 [I n, I 0, I 4095] true (Bv (inB n 0 4095)) ∧ ((I n : AV) = I n) ∧ ((I 0 : AV) = I 0) ∧ ((I 4095 : AV) = I 4095) ∧ True] (by kernel_rfl) hB ⟨⟨(within_ok n 0 4095), rfl, rfl, rfl, trivial⟩, trivial⟩ ?_
  refine ae_then ?_
  refine aw_ret ?_
  refine ae_ret hB (Bv (inB n 0 4095)) (by kernel_rfl) (.inl rfl) rfl (fun _ => trivial)


-- impl.ValidCellRow
theorem ValidCellRow_ok (l : CellRow) (ok : l.Text.size ≤ 9223372036854775807) : Con Tryd.prog 12 [.agg [Sv l.Text, I l.X, I l.Y, I l.Cell]] true (Bv (okRow l)) := by
  refine fn_ok (fn := Tryd.f12) (nt := 27) Tryd.func12 rfl rfl rfl rfl (by simp [taggedL, tagged]) fun B hB => ?_
  refine aw_seq ?_
  refine aw_reg [(0, .new 1)] [1] [1] [.ref 1 0] [some (.box [Sv l.Text, I l.X, I l.Y, I l.Cell])] [] (by kernel_rfl) hB trivial ?_
  refine ae_then ?_
  refine aw_seq ?_
  by_cases h1 : (l.Text.size : Int) ≤ 60
  · rcases Bool.eq_false_or_eq_true (lettersB l.Text) with h2 | h2
    · rcases Bool.eq_false_or_eq_true (inB l.X 0 4095) with h3 | h3
      · rcases Bool.eq_false_or_eq_true (inB l.Y 0 4095) with h4 | h4
        · refine aw_reg [(3, .dec true), (7, .call [(true, Sv l.Text)] true (Bv true)), (12, .call [(true, I l.X)] true (Bv true)), (17, .call [(true, I l.Y)] true (Bv true)), (22, .call [(true, I l.Cell), (true, I 2), (true, I 60)] true (Bv (inB l.Cell 2 60)))] [2] [] [Bv (inB l.Cell 2 60)] [] [(l.Text.size : Int) ≤ 60, Con Tryd.prog 33 [Sv l.Text] true (Bv true) ∧ ((Sv l.Text : AV) = Sv l.Text) ∧ True, Con Tryd.prog 34 [I l.X] true (Bv true) ∧ ((I l.X : AV) = I l.X) ∧ True, Con Tryd.prog 34 [I l.Y] true (Bv true) ∧ ((I l.Y : AV) = I l.Y) ∧ True, Con Tryd.prog 35 [I l.Cell, I 2, I 60] true (Bv (inB l.Cell 2 60)) ∧ ((I l.Cell : AV) = I l.Cell) ∧ ((I 2 : AV) = I 2) ∧ ((I 60 : AV) = I 60) ∧ True] (by kernel_rfl) hB ⟨h1, ⟨(con_bool h2 (areCells_ok l.Text ok)), rfl, trivial⟩, ⟨(con_bool h3 (isCoord_ok l.X)), rfl, trivial⟩, ⟨(con_bool h4 (isCoord_ok l.Y)), rfl, trivial⟩, ⟨(within_ok l.Cell 2 60), rfl, rfl, rfl, trivial⟩, trivial⟩ ?_
          refine ae_then ?_
          refine aw_ret ?_
          refine ae_ret hB (Bv (inB l.Cell 2 60)) (by kernel_rfl) (.inl (by first | rfl | (refine congrArg Bv ?_; simp [okRow, inB, *]; done) | (refine congrArg Bv ?_; simp [okRow, inB, *]; omega) | (refine congrArg Bv ?_; simp_all [okRow, inB]; done) | (refine congrArg Bv ?_; simp_all [okRow, inB]; omega))) rfl (fun _ => trivial)
        · refine aw_reg [(3, .dec true), (7, .call [(true, Sv l.Text)] true (Bv true)), (12, .call [(true, I l.X)] true (Bv true)), (17, .call [(true, I l.Y)] true (Bv false))] [2] [] [Bv false] [] [(l.Text.size : Int) ≤ 60, Con Tryd.prog 33 [Sv l.Text] true (Bv true) ∧ ((Sv l.Text : AV) = Sv l.Text) ∧ True, Con Tryd.prog 34 [I l.X] true (Bv true) ∧ ((I l.X : AV) = I l.X) ∧ True, Con Tryd.prog 34 [I l.Y] true (Bv false) ∧ ((I l.Y : AV) = I l.Y) ∧ True] (by kernel_rfl) hB ⟨h1, ⟨(con_bool h2 (areCells_ok l.Text ok)), rfl, trivial⟩, ⟨(con_bool h3 (isCoord_ok l.X)), rfl, trivial⟩, ⟨(con_bool h4 (isCoord_ok l.Y)), rfl, trivial⟩, trivial⟩ ?_
          refine ae_then ?_
          refine aw_ret ?_
          refine ae_ret hB (Bv false) (by kernel_rfl) (.inl (by first | rfl | (refine congrArg Bv ?_; simp [okRow, inB, *]; done) | (refine congrArg Bv ?_; simp [okRow, inB, *]; omega) | (refine congrArg Bv ?_; simp_all [okRow, inB]; done) | (refine congrArg Bv ?_; simp_all [okRow, inB]; omega))) rfl (fun _ => trivial)
      · refine aw_reg [(3, .dec true), (7, .call [(true, Sv l.Text)] true (Bv true)), (12, .call [(true, I l.X)] true (Bv false))] [2] [] [Bv false] [] [(l.Text.size : Int) ≤ 60, Con Tryd.prog 33 [Sv l.Text] true (Bv true) ∧ ((Sv l.Text : AV) = Sv l.Text) ∧ True, Con Tryd.prog 34 [I l.X] true (Bv false) ∧ ((I l.X : AV) = I l.X) ∧ True] (by kernel_rfl) hB ⟨h1, ⟨(con_bool h2 (areCells_ok l.Text ok)), rfl, trivial⟩, ⟨(con_bool h3 (isCoord_ok l.X)), rfl, trivial⟩, trivial⟩ ?_
        refine ae_then ?_
        refine aw_ret ?_
        refine ae_ret hB (Bv false) (by kernel_rfl) (.inl (by first | rfl | (refine congrArg Bv ?_; simp [okRow, inB, *]; done) | (refine congrArg Bv ?_; simp [okRow, inB, *]; omega) | (refine congrArg Bv ?_; simp_all [okRow, inB]; done) | (refine congrArg Bv ?_; simp_all [okRow, inB]; omega))) rfl (fun _ => trivial)
    · refine aw_reg [(3, .dec true), (7, .call [(true, Sv l.Text)] true (Bv false))] [2] [] [Bv false] [] [(l.Text.size : Int) ≤ 60, Con Tryd.prog 33 [Sv l.Text] true (Bv false) ∧ ((Sv l.Text : AV) = Sv l.Text) ∧ True] (by kernel_rfl) hB ⟨h1, ⟨(con_bool h2 (areCells_ok l.Text ok)), rfl, trivial⟩, trivial⟩ ?_
      refine ae_then ?_
      refine aw_ret ?_
      refine ae_ret hB (Bv false) (by kernel_rfl) (.inl (by first | rfl | (refine congrArg Bv ?_; simp [okRow, inB, *]; done) | (refine congrArg Bv ?_; simp [okRow, inB, *]; omega) | (refine congrArg Bv ?_; simp_all [okRow, inB]; done) | (refine congrArg Bv ?_; simp_all [okRow, inB]; omega))) rfl (fun _ => trivial)
  · refine aw_reg [(3, .dec false)] [2] [] [Bv false] [] [¬ ((l.Text.size : Int) ≤ 60)] (by kernel_rfl) hB ⟨h1, trivial⟩ ?_
    refine ae_then ?_
    refine aw_ret ?_
    refine ae_ret hB (Bv false) (by kernel_rfl) (.inl (by first | rfl | (refine congrArg Bv ?_; simp [okRow, inB, *]; done) | (refine congrArg Bv ?_; simp [okRow, inB, *]; omega) | (refine congrArg Bv ?_; simp_all [okRow, inB]; done) | (refine congrArg Bv ?_; simp_all [okRow, inB]; omega))) rfl (fun _ => trivial)


-- impl.ApplyEdit
theorem implApplyEdit_ok (l : CellRow) (e : Edit) (insert : ByteArray) (okl : l.Text.size ≤ 9223372036854775807) (oki : insert.size ≤ 1048576) : Con Tryd.prog 17 [.agg [Sv l.Text, I l.X, I l.Y, I l.Cell], .agg [I e.Kind, I e.From, I e.To], Sv insert] true (.tup [.agg [Sv ((applyRow l e insert).Text), I ((applyRow l e insert).X), I ((applyRow l e insert).Y), I ((applyRow l e insert).Cell)], I (chkI l e insert)]) := by
  have hnil := ba_nil
  refine fn_ok (fn := Tryd.f17) (nt := 82) Tryd.func17 rfl rfl rfl rfl (by simp [taggedL, tagged]) fun B hB => ?_
  refine aw_seq ?_
  refine aw_reg [(0, .new 3), (1, .new 4), (2, .new 6)] [2, 3, 4, 6] [3, 4, 6] [Sv insert, .ref 3 0, .ref 4 0, .ref 6 0] [some (.box [Sv l.Text, I l.X, I l.Y, I l.Cell]), some (.box [I e.Kind, I e.From, I e.To]), some (.box [Sv (⟨#[]⟩ : ByteArray), I 0, I 0, I 0])] [] (by kernel_rfl) hB trivial ?_
  refine ae_then ?_
  refine aw_seq ?_
  refine aw_seq ?_
  rcases Bool.eq_false_or_eq_true (okRow l) with h1 | h1
  · have hr := okRow_iff.1 h1
    rcases Bool.eq_false_or_eq_true (lettersB insert) with h2 | h2
    · rcases Bool.eq_false_or_eq_true (inB e.Kind 1 3) with h3 | h3
      · have hinh3 := inB_iff.1 h3
        refine aw_reg [(1, .call [(true, .agg [Sv l.Text, I l.X, I l.Y, I l.Cell])] true (Bv true)), (5, .call [(true, Sv insert)] true (Bv true)), (11, .call [(true, I e.Kind), (true, I 1), (true, I 3)] true (Bv true))] [2, 3, 4, 6, 21] [3, 4, 6] [Sv insert, .ref 3 0, .ref 4 0, .ref 6 0, Bv false] [some (.box [Sv l.Text, I l.X, I l.Y, I l.Cell]), some (.box [I e.Kind, I e.From, I e.To]), some (.box [Sv (⟨#[]⟩ : ByteArray), I 0, I 0, I 0])] [Con Tryd.prog 12 [.agg [Sv l.Text, I l.X, I l.Y, I l.Cell]] true (Bv true) ∧ ((.agg [Sv l.Text, I l.X, I l.Y, I l.Cell] : AV) = .agg [Sv l.Text, I l.X, I l.Y, I l.Cell]) ∧ True, Con Tryd.prog 33 [Sv insert] true (Bv true) ∧ ((Sv insert : AV) = Sv insert) ∧ True, Con Tryd.prog 35 [I e.Kind, I 1, I 3] true (Bv true) ∧ ((I e.Kind : AV) = I e.Kind) ∧ ((I 1 : AV) = I 1) ∧ ((I 3 : AV) = I 3) ∧ True] (by kernel_rfl) hB ⟨⟨(con_bool h1 (ValidCellRow_ok l okl)), rfl, trivial⟩, ⟨(con_bool h2 (areCells_ok insert (by omega))), rfl, trivial⟩, ⟨(con_bool h3 (within_ok e.Kind 1 3)), rfl, rfl, rfl, trivial⟩, trivial⟩ ?_
        refine ae_then ?_
        refine aw_false rfl ?_
        refine aw_skip ?_
        refine ae_then ?_
        refine aw_seq ?_
        refine aw_seq ?_
        rcases Bool.eq_false_or_eq_true (inB e.From 0 e.To) with h4 | h4
        · have hinh4 := inB_iff.1 h4
          by_cases h5 : (l.Text.size : Int) < e.To
          · refine aw_reg [(4, .call [(true, I e.From), (true, I 0), (true, I e.To)] true (Bv true)), (12, .dec true)] [2, 3, 4, 6, 48] [3, 4, 6] [Sv insert, .ref 3 0, .ref 4 0, .ref 6 0, Bv true] [some (.box [Sv l.Text, I l.X, I l.Y, I l.Cell]), some (.box [I e.Kind, I e.From, I e.To]), some (.box [Sv (⟨#[]⟩ : ByteArray), I 0, I 0, I 0])] [Con Tryd.prog 35 [I e.From, I 0, I e.To] true (Bv true) ∧ ((I e.From : AV) = I e.From) ∧ ((I 0 : AV) = I 0) ∧ ((I e.To : AV) = I e.To) ∧ True, (l.Text.size : Int) < e.To] (by kernel_rfl) hB ⟨⟨(con_bool h4 (within_ok e.From 0 e.To)), rfl, rfl, rfl, trivial⟩, h5, trivial⟩ ?_
            refine ae_then ?_
            refine aw_true rfl ?_
            refine aw_seq ?_
            refine aw_reg [] [6, 7] [6] [.ref 6 0, I 2] [some (.box [Sv (⟨#[]⟩ : ByteArray), I 0, I 0, I 0])] [] (by kernel_rfl) hB trivial ?_
            refine ae_then ?_
            refine aw_ret ?_
            refine ae_ret_then ?_
            refine ae_ret hB (.tup [.agg [Sv (⟨#[]⟩ : ByteArray), I 0, I 0, I 0], I 2]) (by kernel_rfl) (.inl (by first | (have hk : chkI l e insert = 1 := chk_1 (by simp [*]); rw [applyRow_ne hk (by decide), hk]; done) | (have hk : chkI l e insert = 2 := chk_2 (by assumption) (by assumption) (by assumption) (by omega); rw [applyRow_ne hk (by decide), hk]; done) | (have hk : chkI l e insert = 5 := chk_5 (by assumption) (by assumption) (by assumption) (by omega) (by omega); rw [applyRow_ne hk (by decide), hk]; done) | (have hk : chkI l e insert = 0 := chk_0 (by assumption) (by assumption) (by assumption) (by omega) (by omega); rw [applyRow_eq hk, hk]; simp [applyL, applyT, *]; done) | (exfalso; omega))) rfl (fun _ => (by simp [tagged, taggedL]))
          · by_cases h6 : e.Kind = 3
            · by_cases h7 : e.From = e.To
              · refine aw_reg [(4, .call [(true, I e.From), (true, I 0), (true, I e.To)] true (Bv true)), (12, .dec false), (17, .dec true), (23, .dec false)] [2, 3, 4, 6, 48] [3, 4, 6] [Sv insert, .ref 3 0, .ref 4 0, .ref 6 0, Bv false] [some (.box [Sv l.Text, I l.X, I l.Y, I l.Cell]), some (.box [I e.Kind, I e.From, I e.To]), some (.box [Sv (⟨#[]⟩ : ByteArray), I 0, I 0, I 0])] [Con Tryd.prog 35 [I e.From, I 0, I e.To] true (Bv true) ∧ ((I e.From : AV) = I e.From) ∧ ((I 0 : AV) = I 0) ∧ ((I e.To : AV) = I e.To) ∧ True, ¬ ((l.Text.size : Int) < e.To), e.Kind = 3, ¬ (e.From ≠ e.To)] (by kernel_rfl) hB ⟨⟨(con_bool h4 (within_ok e.From 0 e.To)), rfl, rfl, rfl, trivial⟩, h5, h6, (fun hq => hq h7), trivial⟩ ?_
                refine ae_then ?_
                refine aw_false rfl ?_
                refine aw_skip ?_
                refine ae_then ?_
                refine aw_seq ?_
                refine aw_seq ?_
                by_cases h8 : e.Kind = 1
                · refine aw_reg [(2, .dec true)] [2, 3, 4, 6, 52] [3, 4, 6] [Sv insert, .ref 3 0, .ref 4 0, .ref 6 0, Bv true] [some (.box [Sv l.Text, I l.X, I l.Y, I l.Cell]), some (.box [I e.Kind, I e.From, I e.To]), some (.box [Sv (⟨#[]⟩ : ByteArray), I 0, I 0, I 0])] [e.Kind = 1] (by kernel_rfl) hB ⟨h8, trivial⟩ ?_
                  refine ae_then ?_
                  refine aw_true rfl ?_
                  refine aw_reg [] [2, 3, 4, 6] [3, 4, 6] [Sv (⟨#[]⟩ : ByteArray), .ref 3 0, .ref 4 0, .ref 6 0] [some (.box [Sv l.Text, I l.X, I l.Y, I l.Cell]), some (.box [I e.Kind, I e.From, I e.To]), some (.box [Sv (⟨#[]⟩ : ByteArray), I 0, I 0, I 0])] [] (by kernel_rfl) hB trivial ?_
                  refine ae_then ?_
                  refine aw_seq ?_
                  refine aw_seq ?_
                  by_cases h9 : 60 < (((l.Text.size : Int) + ((⟨#[]⟩ : ByteArray).size : Int)) - (e.To - e.From))
                  · refine aw_reg [(12, .dec true)] [2, 3, 4, 6, 65] [3, 4, 6] [Sv (⟨#[]⟩ : ByteArray), .ref 3 0, .ref 4 0, .ref 6 0, Bv true] [some (.box [Sv l.Text, I l.X, I l.Y, I l.Cell]), some (.box [I e.Kind, I e.From, I e.To]), some (.box [Sv (⟨#[]⟩ : ByteArray), I 0, I 0, I 0])] [inR .i64 ((l.Text.size : Int) + ((⟨#[]⟩ : ByteArray).size : Int)), inR .i64 (e.To - e.From), inR .i64 (((l.Text.size : Int) + ((⟨#[]⟩ : ByteArray).size : Int)) - (e.To - e.From)), 60 < (((l.Text.size : Int) + ((⟨#[]⟩ : ByteArray).size : Int)) - (e.To - e.From))] (by kernel_rfl) hB ⟨(inR_i64 (by omega) (by omega)), (inR_i64 (by omega) (by omega)), (inR_i64 (by omega) (by omega)), h9, trivial⟩ ?_
                    refine ae_then ?_
                    refine aw_true rfl ?_
                    refine aw_seq ?_
                    refine aw_reg [] [6, 7] [6] [.ref 6 0, I 5] [some (.box [Sv (⟨#[]⟩ : ByteArray), I 0, I 0, I 0])] [] (by kernel_rfl) hB trivial ?_
                    refine ae_then ?_
                    refine aw_ret ?_
                    refine ae_ret_then ?_
                    refine ae_ret hB (.tup [.agg [Sv (⟨#[]⟩ : ByteArray), I 0, I 0, I 0], I 5]) (by kernel_rfl) (.inl (by first | (have hk : chkI l e insert = 1 := chk_1 (by simp [*]); rw [applyRow_ne hk (by decide), hk]; done) | (have hk : chkI l e insert = 2 := chk_2 (by assumption) (by assumption) (by assumption) (by omega); rw [applyRow_ne hk (by decide), hk]; done) | (have hk : chkI l e insert = 5 := chk_5 (by assumption) (by assumption) (by assumption) (by omega) (by omega); rw [applyRow_ne hk (by decide), hk]; done) | (have hk : chkI l e insert = 0 := chk_0 (by assumption) (by assumption) (by assumption) (by omega) (by omega); rw [applyRow_eq hk, hk]; simp [applyL, applyT, *]; done) | (exfalso; omega))) rfl (fun _ => (by simp [tagged, taggedL]))
                  · refine aw_reg [(12, .dec false)] [2, 3, 4, 6, 65] [3, 4, 6] [Sv (⟨#[]⟩ : ByteArray), .ref 3 0, .ref 4 0, .ref 6 0, Bv false] [some (.box [Sv l.Text, I l.X, I l.Y, I l.Cell]), some (.box [I e.Kind, I e.From, I e.To]), some (.box [Sv (⟨#[]⟩ : ByteArray), I 0, I 0, I 0])] [inR .i64 ((l.Text.size : Int) + ((⟨#[]⟩ : ByteArray).size : Int)), inR .i64 (e.To - e.From), inR .i64 (((l.Text.size : Int) + ((⟨#[]⟩ : ByteArray).size : Int)) - (e.To - e.From)), ¬ (60 < (((l.Text.size : Int) + ((⟨#[]⟩ : ByteArray).size : Int)) - (e.To - e.From)))] (by kernel_rfl) hB ⟨(inR_i64 (by omega) (by omega)), (inR_i64 (by omega) (by omega)), (inR_i64 (by omega) (by omega)), h9, trivial⟩ ?_
                    refine ae_then ?_
                    refine aw_false rfl ?_
                    refine aw_skip ?_
                    refine ae_then ?_
                    refine aw_seq ?_
                    refine aw_reg [] [3, 6] [3, 6] [.ref 3 0, .ref 6 0] [some (.box [Sv (((l.Text.extract 0 e.From.toNat) ++ (⟨#[]⟩ : ByteArray)) ++ (l.Text.extract e.To.toNat (l.Text.size : Int).toNat)), I l.X, I l.Y, I l.Cell]), some (.box [Sv (⟨#[]⟩ : ByteArray), I 0, I 0, I 0])] [(0 : Int) ≤ 0 ∧ (0 : Int) ≤ e.From ∧ e.From ≤ (l.Text.size : Int), (l.Text.extract 0 e.From.toNat).size + (⟨#[]⟩ : ByteArray).size ≤ 9223372036854775807, (0 : Int) ≤ e.To ∧ e.To ≤ (l.Text.size : Int) ∧ (l.Text.size : Int) ≤ (l.Text.size : Int), ((l.Text.extract 0 e.From.toNat) ++ (⟨#[]⟩ : ByteArray)).size + (l.Text.extract e.To.toNat (l.Text.size : Int).toNat).size ≤ 9223372036854775807] (by kernel_rfl) hB ⟨⟨(by omega), (by omega), (by omega)⟩, (by first | omega | (simp only [ByteArray.size_append, ba_ext, ba_nil]; omega)), ⟨(by omega), (by omega), (by omega)⟩, (by first | omega | (simp only [ByteArray.size_append, ba_ext, ba_nil]; omega)), trivial⟩ ?_
                    refine ae_then ?_
                    refine aw_seq ?_
                    refine aw_reg [] [6, 7] [6] [.ref 6 0, I 0] [some (.box [Sv (((l.Text.extract 0 e.From.toNat) ++ (⟨#[]⟩ : ByteArray)) ++ (l.Text.extract e.To.toNat (l.Text.size : Int).toNat)), I l.X, I l.Y, I l.Cell])] [] (by kernel_rfl) hB trivial ?_
                    refine ae_then ?_
                    refine aw_ret ?_
                    refine ae_ret hB (.tup [.agg [Sv (((l.Text.extract 0 e.From.toNat) ++ (⟨#[]⟩ : ByteArray)) ++ (l.Text.extract e.To.toNat (l.Text.size : Int).toNat)), I l.X, I l.Y, I l.Cell], I 0]) (by kernel_rfl) (.inl (by first | (have hk : chkI l e insert = 1 := chk_1 (by simp [*]); rw [applyRow_ne hk (by decide), hk]; done) | (have hk : chkI l e insert = 2 := chk_2 (by assumption) (by assumption) (by assumption) (by omega); rw [applyRow_ne hk (by decide), hk]; done) | (have hk : chkI l e insert = 5 := chk_5 (by assumption) (by assumption) (by assumption) (by omega) (by omega); rw [applyRow_ne hk (by decide), hk]; done) | (have hk : chkI l e insert = 0 := chk_0 (by assumption) (by assumption) (by assumption) (by omega) (by omega); rw [applyRow_eq hk, hk]; simp [applyL, applyT, *]; done) | (exfalso; omega))) rfl (fun _ => (by simp [tagged, taggedL]))
                · refine aw_reg [(2, .dec false)] [2, 3, 4, 6, 52] [3, 4, 6] [Sv insert, .ref 3 0, .ref 4 0, .ref 6 0, Bv false] [some (.box [Sv l.Text, I l.X, I l.Y, I l.Cell]), some (.box [I e.Kind, I e.From, I e.To]), some (.box [Sv (⟨#[]⟩ : ByteArray), I 0, I 0, I 0])] [¬ (e.Kind = 1)] (by kernel_rfl) hB ⟨h8, trivial⟩ ?_
                  refine ae_then ?_
                  refine aw_false rfl ?_
                  refine aw_skip ?_
                  refine ae_then ?_
                  refine aw_seq ?_
                  refine aw_seq ?_
                  by_cases h10 : 60 < (((l.Text.size : Int) + (insert.size : Int)) - (e.To - e.From))
                  · refine aw_reg [(12, .dec true)] [2, 3, 4, 6, 65] [3, 4, 6] [Sv insert, .ref 3 0, .ref 4 0, .ref 6 0, Bv true] [some (.box [Sv l.Text, I l.X, I l.Y, I l.Cell]), some (.box [I e.Kind, I e.From, I e.To]), some (.box [Sv (⟨#[]⟩ : ByteArray), I 0, I 0, I 0])] [inR .i64 ((l.Text.size : Int) + (insert.size : Int)), inR .i64 (e.To - e.From), inR .i64 (((l.Text.size : Int) + (insert.size : Int)) - (e.To - e.From)), 60 < (((l.Text.size : Int) + (insert.size : Int)) - (e.To - e.From))] (by kernel_rfl) hB ⟨(inR_i64 (by omega) (by omega)), (inR_i64 (by omega) (by omega)), (inR_i64 (by omega) (by omega)), h10, trivial⟩ ?_
                    refine ae_then ?_
                    refine aw_true rfl ?_
                    refine aw_seq ?_
                    refine aw_reg [] [6, 7] [6] [.ref 6 0, I 5] [some (.box [Sv (⟨#[]⟩ : ByteArray), I 0, I 0, I 0])] [] (by kernel_rfl) hB trivial ?_
                    refine ae_then ?_
                    refine aw_ret ?_
                    refine ae_ret_then ?_
                    refine ae_ret hB (.tup [.agg [Sv (⟨#[]⟩ : ByteArray), I 0, I 0, I 0], I 5]) (by kernel_rfl) (.inl (by first | (have hk : chkI l e insert = 1 := chk_1 (by simp [*]); rw [applyRow_ne hk (by decide), hk]; done) | (have hk : chkI l e insert = 2 := chk_2 (by assumption) (by assumption) (by assumption) (by omega); rw [applyRow_ne hk (by decide), hk]; done) | (have hk : chkI l e insert = 5 := chk_5 (by assumption) (by assumption) (by assumption) (by omega) (by omega); rw [applyRow_ne hk (by decide), hk]; done) | (have hk : chkI l e insert = 0 := chk_0 (by assumption) (by assumption) (by assumption) (by omega) (by omega); rw [applyRow_eq hk, hk]; simp [applyL, applyT, *]; done) | (exfalso; omega))) rfl (fun _ => (by simp [tagged, taggedL]))
                  · refine aw_reg [(12, .dec false)] [2, 3, 4, 6, 65] [3, 4, 6] [Sv insert, .ref 3 0, .ref 4 0, .ref 6 0, Bv false] [some (.box [Sv l.Text, I l.X, I l.Y, I l.Cell]), some (.box [I e.Kind, I e.From, I e.To]), some (.box [Sv (⟨#[]⟩ : ByteArray), I 0, I 0, I 0])] [inR .i64 ((l.Text.size : Int) + (insert.size : Int)), inR .i64 (e.To - e.From), inR .i64 (((l.Text.size : Int) + (insert.size : Int)) - (e.To - e.From)), ¬ (60 < (((l.Text.size : Int) + (insert.size : Int)) - (e.To - e.From)))] (by kernel_rfl) hB ⟨(inR_i64 (by omega) (by omega)), (inR_i64 (by omega) (by omega)), (inR_i64 (by omega) (by omega)), h10, trivial⟩ ?_
                    refine ae_then ?_
                    refine aw_false rfl ?_
                    refine aw_skip ?_
                    refine ae_then ?_
                    refine aw_seq ?_
                    refine aw_reg [] [3, 6] [3, 6] [.ref 3 0, .ref 6 0] [some (.box [Sv (((l.Text.extract 0 e.From.toNat) ++ insert) ++ (l.Text.extract e.To.toNat (l.Text.size : Int).toNat)), I l.X, I l.Y, I l.Cell]), some (.box [Sv (⟨#[]⟩ : ByteArray), I 0, I 0, I 0])] [(0 : Int) ≤ 0 ∧ (0 : Int) ≤ e.From ∧ e.From ≤ (l.Text.size : Int), (l.Text.extract 0 e.From.toNat).size + insert.size ≤ 9223372036854775807, (0 : Int) ≤ e.To ∧ e.To ≤ (l.Text.size : Int) ∧ (l.Text.size : Int) ≤ (l.Text.size : Int), ((l.Text.extract 0 e.From.toNat) ++ insert).size + (l.Text.extract e.To.toNat (l.Text.size : Int).toNat).size ≤ 9223372036854775807] (by kernel_rfl) hB ⟨⟨(by omega), (by omega), (by omega)⟩, (by first | omega | (simp only [ByteArray.size_append, ba_ext, ba_nil]; omega)), ⟨(by omega), (by omega), (by omega)⟩, (by first | omega | (simp only [ByteArray.size_append, ba_ext, ba_nil]; omega)), trivial⟩ ?_
                    refine ae_then ?_
                    refine aw_seq ?_
                    refine aw_reg [] [6, 7] [6] [.ref 6 0, I 0] [some (.box [Sv (((l.Text.extract 0 e.From.toNat) ++ insert) ++ (l.Text.extract e.To.toNat (l.Text.size : Int).toNat)), I l.X, I l.Y, I l.Cell])] [] (by kernel_rfl) hB trivial ?_
                    refine ae_then ?_
                    refine aw_ret ?_
                    refine ae_ret hB (.tup [.agg [Sv (((l.Text.extract 0 e.From.toNat) ++ insert) ++ (l.Text.extract e.To.toNat (l.Text.size : Int).toNat)), I l.X, I l.Y, I l.Cell], I 0]) (by kernel_rfl) (.inl (by first | (have hk : chkI l e insert = 1 := chk_1 (by simp [*]); rw [applyRow_ne hk (by decide), hk]; done) | (have hk : chkI l e insert = 2 := chk_2 (by assumption) (by assumption) (by assumption) (by omega); rw [applyRow_ne hk (by decide), hk]; done) | (have hk : chkI l e insert = 5 := chk_5 (by assumption) (by assumption) (by assumption) (by omega) (by omega); rw [applyRow_ne hk (by decide), hk]; done) | (have hk : chkI l e insert = 0 := chk_0 (by assumption) (by assumption) (by assumption) (by omega) (by omega); rw [applyRow_eq hk, hk]; simp [applyL, applyT, *]; done) | (exfalso; omega))) rfl (fun _ => (by simp [tagged, taggedL]))
              · refine aw_reg [(4, .call [(true, I e.From), (true, I 0), (true, I e.To)] true (Bv true)), (12, .dec false), (17, .dec true), (23, .dec true)] [2, 3, 4, 6, 48] [3, 4, 6] [Sv insert, .ref 3 0, .ref 4 0, .ref 6 0, Bv true] [some (.box [Sv l.Text, I l.X, I l.Y, I l.Cell]), some (.box [I e.Kind, I e.From, I e.To]), some (.box [Sv (⟨#[]⟩ : ByteArray), I 0, I 0, I 0])] [Con Tryd.prog 35 [I e.From, I 0, I e.To] true (Bv true) ∧ ((I e.From : AV) = I e.From) ∧ ((I 0 : AV) = I 0) ∧ ((I e.To : AV) = I e.To) ∧ True, ¬ ((l.Text.size : Int) < e.To), e.Kind = 3, e.From ≠ e.To] (by kernel_rfl) hB ⟨⟨(con_bool h4 (within_ok e.From 0 e.To)), rfl, rfl, rfl, trivial⟩, h5, h6, h7, trivial⟩ ?_
                refine ae_then ?_
                refine aw_true rfl ?_
                refine aw_seq ?_
                refine aw_reg [] [6, 7] [6] [.ref 6 0, I 2] [some (.box [Sv (⟨#[]⟩ : ByteArray), I 0, I 0, I 0])] [] (by kernel_rfl) hB trivial ?_
                refine ae_then ?_
                refine aw_ret ?_
                refine ae_ret_then ?_
                refine ae_ret hB (.tup [.agg [Sv (⟨#[]⟩ : ByteArray), I 0, I 0, I 0], I 2]) (by kernel_rfl) (.inl (by first | (have hk : chkI l e insert = 1 := chk_1 (by simp [*]); rw [applyRow_ne hk (by decide), hk]; done) | (have hk : chkI l e insert = 2 := chk_2 (by assumption) (by assumption) (by assumption) (by omega); rw [applyRow_ne hk (by decide), hk]; done) | (have hk : chkI l e insert = 5 := chk_5 (by assumption) (by assumption) (by assumption) (by omega) (by omega); rw [applyRow_ne hk (by decide), hk]; done) | (have hk : chkI l e insert = 0 := chk_0 (by assumption) (by assumption) (by assumption) (by omega) (by omega); rw [applyRow_eq hk, hk]; simp [applyL, applyT, *]; done) | (exfalso; omega))) rfl (fun _ => (by simp [tagged, taggedL]))
            · refine aw_reg [(4, .call [(true, I e.From), (true, I 0), (true, I e.To)] true (Bv true)), (12, .dec false), (17, .dec false)] [2, 3, 4, 6, 48] [3, 4, 6] [Sv insert, .ref 3 0, .ref 4 0, .ref 6 0, Bv false] [some (.box [Sv l.Text, I l.X, I l.Y, I l.Cell]), some (.box [I e.Kind, I e.From, I e.To]), some (.box [Sv (⟨#[]⟩ : ByteArray), I 0, I 0, I 0])] [Con Tryd.prog 35 [I e.From, I 0, I e.To] true (Bv true) ∧ ((I e.From : AV) = I e.From) ∧ ((I 0 : AV) = I 0) ∧ ((I e.To : AV) = I e.To) ∧ True, ¬ ((l.Text.size : Int) < e.To), ¬ (e.Kind = 3)] (by kernel_rfl) hB ⟨⟨(con_bool h4 (within_ok e.From 0 e.To)), rfl, rfl, rfl, trivial⟩, h5, h6, trivial⟩ ?_
              refine ae_then ?_
              refine aw_false rfl ?_
              refine aw_skip ?_
              refine ae_then ?_
              refine aw_seq ?_
              refine aw_seq ?_
              by_cases h11 : e.Kind = 1
              · refine aw_reg [(2, .dec true)] [2, 3, 4, 6, 52] [3, 4, 6] [Sv insert, .ref 3 0, .ref 4 0, .ref 6 0, Bv true] [some (.box [Sv l.Text, I l.X, I l.Y, I l.Cell]), some (.box [I e.Kind, I e.From, I e.To]), some (.box [Sv (⟨#[]⟩ : ByteArray), I 0, I 0, I 0])] [e.Kind = 1] (by kernel_rfl) hB ⟨h11, trivial⟩ ?_
                refine ae_then ?_
                refine aw_true rfl ?_
                refine aw_reg [] [2, 3, 4, 6] [3, 4, 6] [Sv (⟨#[]⟩ : ByteArray), .ref 3 0, .ref 4 0, .ref 6 0] [some (.box [Sv l.Text, I l.X, I l.Y, I l.Cell]), some (.box [I e.Kind, I e.From, I e.To]), some (.box [Sv (⟨#[]⟩ : ByteArray), I 0, I 0, I 0])] [] (by kernel_rfl) hB trivial ?_
                refine ae_then ?_
                refine aw_seq ?_
                refine aw_seq ?_
                by_cases h12 : 60 < (((l.Text.size : Int) + ((⟨#[]⟩ : ByteArray).size : Int)) - (e.To - e.From))
                · refine aw_reg [(12, .dec true)] [2, 3, 4, 6, 65] [3, 4, 6] [Sv (⟨#[]⟩ : ByteArray), .ref 3 0, .ref 4 0, .ref 6 0, Bv true] [some (.box [Sv l.Text, I l.X, I l.Y, I l.Cell]), some (.box [I e.Kind, I e.From, I e.To]), some (.box [Sv (⟨#[]⟩ : ByteArray), I 0, I 0, I 0])] [inR .i64 ((l.Text.size : Int) + ((⟨#[]⟩ : ByteArray).size : Int)), inR .i64 (e.To - e.From), inR .i64 (((l.Text.size : Int) + ((⟨#[]⟩ : ByteArray).size : Int)) - (e.To - e.From)), 60 < (((l.Text.size : Int) + ((⟨#[]⟩ : ByteArray).size : Int)) - (e.To - e.From))] (by kernel_rfl) hB ⟨(inR_i64 (by omega) (by omega)), (inR_i64 (by omega) (by omega)), (inR_i64 (by omega) (by omega)), h12, trivial⟩ ?_
                  refine ae_then ?_
                  refine aw_true rfl ?_
                  refine aw_seq ?_
                  refine aw_reg [] [6, 7] [6] [.ref 6 0, I 5] [some (.box [Sv (⟨#[]⟩ : ByteArray), I 0, I 0, I 0])] [] (by kernel_rfl) hB trivial ?_
                  refine ae_then ?_
                  refine aw_ret ?_
                  refine ae_ret_then ?_
                  refine ae_ret hB (.tup [.agg [Sv (⟨#[]⟩ : ByteArray), I 0, I 0, I 0], I 5]) (by kernel_rfl) (.inl (by first | (have hk : chkI l e insert = 1 := chk_1 (by simp [*]); rw [applyRow_ne hk (by decide), hk]; done) | (have hk : chkI l e insert = 2 := chk_2 (by assumption) (by assumption) (by assumption) (by omega); rw [applyRow_ne hk (by decide), hk]; done) | (have hk : chkI l e insert = 5 := chk_5 (by assumption) (by assumption) (by assumption) (by omega) (by omega); rw [applyRow_ne hk (by decide), hk]; done) | (have hk : chkI l e insert = 0 := chk_0 (by assumption) (by assumption) (by assumption) (by omega) (by omega); rw [applyRow_eq hk, hk]; simp [applyL, applyT, *]; done) | (exfalso; omega))) rfl (fun _ => (by simp [tagged, taggedL]))
                · refine aw_reg [(12, .dec false)] [2, 3, 4, 6, 65] [3, 4, 6] [Sv (⟨#[]⟩ : ByteArray), .ref 3 0, .ref 4 0, .ref 6 0, Bv false] [some (.box [Sv l.Text, I l.X, I l.Y, I l.Cell]), some (.box [I e.Kind, I e.From, I e.To]), some (.box [Sv (⟨#[]⟩ : ByteArray), I 0, I 0, I 0])] [inR .i64 ((l.Text.size : Int) + ((⟨#[]⟩ : ByteArray).size : Int)), inR .i64 (e.To - e.From), inR .i64 (((l.Text.size : Int) + ((⟨#[]⟩ : ByteArray).size : Int)) - (e.To - e.From)), ¬ (60 < (((l.Text.size : Int) + ((⟨#[]⟩ : ByteArray).size : Int)) - (e.To - e.From)))] (by kernel_rfl) hB ⟨(inR_i64 (by omega) (by omega)), (inR_i64 (by omega) (by omega)), (inR_i64 (by omega) (by omega)), h12, trivial⟩ ?_
                  refine ae_then ?_
                  refine aw_false rfl ?_
                  refine aw_skip ?_
                  refine ae_then ?_
                  refine aw_seq ?_
                  refine aw_reg [] [3, 6] [3, 6] [.ref 3 0, .ref 6 0] [some (.box [Sv (((l.Text.extract 0 e.From.toNat) ++ (⟨#[]⟩ : ByteArray)) ++ (l.Text.extract e.To.toNat (l.Text.size : Int).toNat)), I l.X, I l.Y, I l.Cell]), some (.box [Sv (⟨#[]⟩ : ByteArray), I 0, I 0, I 0])] [(0 : Int) ≤ 0 ∧ (0 : Int) ≤ e.From ∧ e.From ≤ (l.Text.size : Int), (l.Text.extract 0 e.From.toNat).size + (⟨#[]⟩ : ByteArray).size ≤ 9223372036854775807, (0 : Int) ≤ e.To ∧ e.To ≤ (l.Text.size : Int) ∧ (l.Text.size : Int) ≤ (l.Text.size : Int), ((l.Text.extract 0 e.From.toNat) ++ (⟨#[]⟩ : ByteArray)).size + (l.Text.extract e.To.toNat (l.Text.size : Int).toNat).size ≤ 9223372036854775807] (by kernel_rfl) hB ⟨⟨(by omega), (by omega), (by omega)⟩, (by first | omega | (simp only [ByteArray.size_append, ba_ext, ba_nil]; omega)), ⟨(by omega), (by omega), (by omega)⟩, (by first | omega | (simp only [ByteArray.size_append, ba_ext, ba_nil]; omega)), trivial⟩ ?_
                  refine ae_then ?_
                  refine aw_seq ?_
                  refine aw_reg [] [6, 7] [6] [.ref 6 0, I 0] [some (.box [Sv (((l.Text.extract 0 e.From.toNat) ++ (⟨#[]⟩ : ByteArray)) ++ (l.Text.extract e.To.toNat (l.Text.size : Int).toNat)), I l.X, I l.Y, I l.Cell])] [] (by kernel_rfl) hB trivial ?_
                  refine ae_then ?_
                  refine aw_ret ?_
                  refine ae_ret hB (.tup [.agg [Sv (((l.Text.extract 0 e.From.toNat) ++ (⟨#[]⟩ : ByteArray)) ++ (l.Text.extract e.To.toNat (l.Text.size : Int).toNat)), I l.X, I l.Y, I l.Cell], I 0]) (by kernel_rfl) (.inl (by first | (have hk : chkI l e insert = 1 := chk_1 (by simp [*]); rw [applyRow_ne hk (by decide), hk]; done) | (have hk : chkI l e insert = 2 := chk_2 (by assumption) (by assumption) (by assumption) (by omega); rw [applyRow_ne hk (by decide), hk]; done) | (have hk : chkI l e insert = 5 := chk_5 (by assumption) (by assumption) (by assumption) (by omega) (by omega); rw [applyRow_ne hk (by decide), hk]; done) | (have hk : chkI l e insert = 0 := chk_0 (by assumption) (by assumption) (by assumption) (by omega) (by omega); rw [applyRow_eq hk, hk]; simp [applyL, applyT, *]; done) | (exfalso; omega))) rfl (fun _ => (by simp [tagged, taggedL]))
              · refine aw_reg [(2, .dec false)] [2, 3, 4, 6, 52] [3, 4, 6] [Sv insert, .ref 3 0, .ref 4 0, .ref 6 0, Bv false] [some (.box [Sv l.Text, I l.X, I l.Y, I l.Cell]), some (.box [I e.Kind, I e.From, I e.To]), some (.box [Sv (⟨#[]⟩ : ByteArray), I 0, I 0, I 0])] [¬ (e.Kind = 1)] (by kernel_rfl) hB ⟨h11, trivial⟩ ?_
                refine ae_then ?_
                refine aw_false rfl ?_
                refine aw_skip ?_
                refine ae_then ?_
                refine aw_seq ?_
                refine aw_seq ?_
                by_cases h13 : 60 < (((l.Text.size : Int) + (insert.size : Int)) - (e.To - e.From))
                · refine aw_reg [(12, .dec true)] [2, 3, 4, 6, 65] [3, 4, 6] [Sv insert, .ref 3 0, .ref 4 0, .ref 6 0, Bv true] [some (.box [Sv l.Text, I l.X, I l.Y, I l.Cell]), some (.box [I e.Kind, I e.From, I e.To]), some (.box [Sv (⟨#[]⟩ : ByteArray), I 0, I 0, I 0])] [inR .i64 ((l.Text.size : Int) + (insert.size : Int)), inR .i64 (e.To - e.From), inR .i64 (((l.Text.size : Int) + (insert.size : Int)) - (e.To - e.From)), 60 < (((l.Text.size : Int) + (insert.size : Int)) - (e.To - e.From))] (by kernel_rfl) hB ⟨(inR_i64 (by omega) (by omega)), (inR_i64 (by omega) (by omega)), (inR_i64 (by omega) (by omega)), h13, trivial⟩ ?_
                  refine ae_then ?_
                  refine aw_true rfl ?_
                  refine aw_seq ?_
                  refine aw_reg [] [6, 7] [6] [.ref 6 0, I 5] [some (.box [Sv (⟨#[]⟩ : ByteArray), I 0, I 0, I 0])] [] (by kernel_rfl) hB trivial ?_
                  refine ae_then ?_
                  refine aw_ret ?_
                  refine ae_ret_then ?_
                  refine ae_ret hB (.tup [.agg [Sv (⟨#[]⟩ : ByteArray), I 0, I 0, I 0], I 5]) (by kernel_rfl) (.inl (by first | (have hk : chkI l e insert = 1 := chk_1 (by simp [*]); rw [applyRow_ne hk (by decide), hk]; done) | (have hk : chkI l e insert = 2 := chk_2 (by assumption) (by assumption) (by assumption) (by omega); rw [applyRow_ne hk (by decide), hk]; done) | (have hk : chkI l e insert = 5 := chk_5 (by assumption) (by assumption) (by assumption) (by omega) (by omega); rw [applyRow_ne hk (by decide), hk]; done) | (have hk : chkI l e insert = 0 := chk_0 (by assumption) (by assumption) (by assumption) (by omega) (by omega); rw [applyRow_eq hk, hk]; simp [applyL, applyT, *]; done) | (exfalso; omega))) rfl (fun _ => (by simp [tagged, taggedL]))
                · refine aw_reg [(12, .dec false)] [2, 3, 4, 6, 65] [3, 4, 6] [Sv insert, .ref 3 0, .ref 4 0, .ref 6 0, Bv false] [some (.box [Sv l.Text, I l.X, I l.Y, I l.Cell]), some (.box [I e.Kind, I e.From, I e.To]), some (.box [Sv (⟨#[]⟩ : ByteArray), I 0, I 0, I 0])] [inR .i64 ((l.Text.size : Int) + (insert.size : Int)), inR .i64 (e.To - e.From), inR .i64 (((l.Text.size : Int) + (insert.size : Int)) - (e.To - e.From)), ¬ (60 < (((l.Text.size : Int) + (insert.size : Int)) - (e.To - e.From)))] (by kernel_rfl) hB ⟨(inR_i64 (by omega) (by omega)), (inR_i64 (by omega) (by omega)), (inR_i64 (by omega) (by omega)), h13, trivial⟩ ?_
                  refine ae_then ?_
                  refine aw_false rfl ?_
                  refine aw_skip ?_
                  refine ae_then ?_
                  refine aw_seq ?_
                  refine aw_reg [] [3, 6] [3, 6] [.ref 3 0, .ref 6 0] [some (.box [Sv (((l.Text.extract 0 e.From.toNat) ++ insert) ++ (l.Text.extract e.To.toNat (l.Text.size : Int).toNat)), I l.X, I l.Y, I l.Cell]), some (.box [Sv (⟨#[]⟩ : ByteArray), I 0, I 0, I 0])] [(0 : Int) ≤ 0 ∧ (0 : Int) ≤ e.From ∧ e.From ≤ (l.Text.size : Int), (l.Text.extract 0 e.From.toNat).size + insert.size ≤ 9223372036854775807, (0 : Int) ≤ e.To ∧ e.To ≤ (l.Text.size : Int) ∧ (l.Text.size : Int) ≤ (l.Text.size : Int), ((l.Text.extract 0 e.From.toNat) ++ insert).size + (l.Text.extract e.To.toNat (l.Text.size : Int).toNat).size ≤ 9223372036854775807] (by kernel_rfl) hB ⟨⟨(by omega), (by omega), (by omega)⟩, (by first | omega | (simp only [ByteArray.size_append, ba_ext, ba_nil]; omega)), ⟨(by omega), (by omega), (by omega)⟩, (by first | omega | (simp only [ByteArray.size_append, ba_ext, ba_nil]; omega)), trivial⟩ ?_
                  refine ae_then ?_
                  refine aw_seq ?_
                  refine aw_reg [] [6, 7] [6] [.ref 6 0, I 0] [some (.box [Sv (((l.Text.extract 0 e.From.toNat) ++ insert) ++ (l.Text.extract e.To.toNat (l.Text.size : Int).toNat)), I l.X, I l.Y, I l.Cell])] [] (by kernel_rfl) hB trivial ?_
                  refine ae_then ?_
                  refine aw_ret ?_
                  refine ae_ret hB (.tup [.agg [Sv (((l.Text.extract 0 e.From.toNat) ++ insert) ++ (l.Text.extract e.To.toNat (l.Text.size : Int).toNat)), I l.X, I l.Y, I l.Cell], I 0]) (by kernel_rfl) (.inl (by first | (have hk : chkI l e insert = 1 := chk_1 (by simp [*]); rw [applyRow_ne hk (by decide), hk]; done) | (have hk : chkI l e insert = 2 := chk_2 (by assumption) (by assumption) (by assumption) (by omega); rw [applyRow_ne hk (by decide), hk]; done) | (have hk : chkI l e insert = 5 := chk_5 (by assumption) (by assumption) (by assumption) (by omega) (by omega); rw [applyRow_ne hk (by decide), hk]; done) | (have hk : chkI l e insert = 0 := chk_0 (by assumption) (by assumption) (by assumption) (by omega) (by omega); rw [applyRow_eq hk, hk]; simp [applyL, applyT, *]; done) | (exfalso; omega))) rfl (fun _ => (by simp [tagged, taggedL]))
        · have hinh4 := (not_congr inB_iff).1 (Bool.eq_false_iff.1 h4)
          refine aw_reg [(4, .call [(true, I e.From), (true, I 0), (true, I e.To)] true (Bv false))] [2, 3, 4, 6, 48] [3, 4, 6] [Sv insert, .ref 3 0, .ref 4 0, .ref 6 0, Bv true] [some (.box [Sv l.Text, I l.X, I l.Y, I l.Cell]), some (.box [I e.Kind, I e.From, I e.To]), some (.box [Sv (⟨#[]⟩ : ByteArray), I 0, I 0, I 0])] [Con Tryd.prog 35 [I e.From, I 0, I e.To] true (Bv false) ∧ ((I e.From : AV) = I e.From) ∧ ((I 0 : AV) = I 0) ∧ ((I e.To : AV) = I e.To) ∧ True] (by kernel_rfl) hB ⟨⟨(con_bool h4 (within_ok e.From 0 e.To)), rfl, rfl, rfl, trivial⟩, trivial⟩ ?_
          refine ae_then ?_
          refine aw_true rfl ?_
          refine aw_seq ?_
          refine aw_reg [] [6, 7] [6] [.ref 6 0, I 2] [some (.box [Sv (⟨#[]⟩ : ByteArray), I 0, I 0, I 0])] [] (by kernel_rfl) hB trivial ?_
          refine ae_then ?_
          refine aw_ret ?_
          refine ae_ret_then ?_
          refine ae_ret hB (.tup [.agg [Sv (⟨#[]⟩ : ByteArray), I 0, I 0, I 0], I 2]) (by kernel_rfl) (.inl (by first | (have hk : chkI l e insert = 1 := chk_1 (by simp [*]); rw [applyRow_ne hk (by decide), hk]; done) | (have hk : chkI l e insert = 2 := chk_2 (by assumption) (by assumption) (by assumption) (by omega); rw [applyRow_ne hk (by decide), hk]; done) | (have hk : chkI l e insert = 5 := chk_5 (by assumption) (by assumption) (by assumption) (by omega) (by omega); rw [applyRow_ne hk (by decide), hk]; done) | (have hk : chkI l e insert = 0 := chk_0 (by assumption) (by assumption) (by assumption) (by omega) (by omega); rw [applyRow_eq hk, hk]; simp [applyL, applyT, *]; done) | (exfalso; omega))) rfl (fun _ => (by simp [tagged, taggedL]))
      · have hinh3 := (not_congr inB_iff).1 (Bool.eq_false_iff.1 h3)
        refine aw_reg [(1, .call [(true, .agg [Sv l.Text, I l.X, I l.Y, I l.Cell])] true (Bv true)), (5, .call [(true, Sv insert)] true (Bv true)), (11, .call [(true, I e.Kind), (true, I 1), (true, I 3)] true (Bv false))] [2, 3, 4, 6, 21] [3, 4, 6] [Sv insert, .ref 3 0, .ref 4 0, .ref 6 0, Bv true] [some (.box [Sv l.Text, I l.X, I l.Y, I l.Cell]), some (.box [I e.Kind, I e.From, I e.To]), some (.box [Sv (⟨#[]⟩ : ByteArray), I 0, I 0, I 0])] [Con Tryd.prog 12 [.agg [Sv l.Text, I l.X, I l.Y, I l.Cell]] true (Bv true) ∧ ((.agg [Sv l.Text, I l.X, I l.Y, I l.Cell] : AV) = .agg [Sv l.Text, I l.X, I l.Y, I l.Cell]) ∧ True, Con Tryd.prog 33 [Sv insert] true (Bv true) ∧ ((Sv insert : AV) = Sv insert) ∧ True, Con Tryd.prog 35 [I e.Kind, I 1, I 3] true (Bv false) ∧ ((I e.Kind : AV) = I e.Kind) ∧ ((I 1 : AV) = I 1) ∧ ((I 3 : AV) = I 3) ∧ True] (by kernel_rfl) hB ⟨⟨(con_bool h1 (ValidCellRow_ok l okl)), rfl, trivial⟩, ⟨(con_bool h2 (areCells_ok insert (by omega))), rfl, trivial⟩, ⟨(con_bool h3 (within_ok e.Kind 1 3)), rfl, rfl, rfl, trivial⟩, trivial⟩ ?_
        refine ae_then ?_
        refine aw_true rfl ?_
        refine aw_seq ?_
        refine aw_reg [] [6, 7] [6] [.ref 6 0, I 1] [some (.box [Sv (⟨#[]⟩ : ByteArray), I 0, I 0, I 0])] [] (by kernel_rfl) hB trivial ?_
        refine ae_then ?_
        refine aw_ret ?_
        refine ae_ret_then ?_
        refine ae_ret hB (.tup [.agg [Sv (⟨#[]⟩ : ByteArray), I 0, I 0, I 0], I 1]) (by kernel_rfl) (.inl (by first | (have hk : chkI l e insert = 1 := chk_1 (by simp [*]); rw [applyRow_ne hk (by decide), hk]; done) | (have hk : chkI l e insert = 2 := chk_2 (by assumption) (by assumption) (by assumption) (by omega); rw [applyRow_ne hk (by decide), hk]; done) | (have hk : chkI l e insert = 5 := chk_5 (by assumption) (by assumption) (by assumption) (by omega) (by omega); rw [applyRow_ne hk (by decide), hk]; done) | (have hk : chkI l e insert = 0 := chk_0 (by assumption) (by assumption) (by assumption) (by omega) (by omega); rw [applyRow_eq hk, hk]; simp [applyL, applyT, *]; done) | (exfalso; omega))) rfl (fun _ => (by simp [tagged, taggedL]))
    · refine aw_reg [(1, .call [(true, .agg [Sv l.Text, I l.X, I l.Y, I l.Cell])] true (Bv true)), (5, .call [(true, Sv insert)] true (Bv false))] [2, 3, 4, 6, 21] [3, 4, 6] [Sv insert, .ref 3 0, .ref 4 0, .ref 6 0, Bv true] [some (.box [Sv l.Text, I l.X, I l.Y, I l.Cell]), some (.box [I e.Kind, I e.From, I e.To]), some (.box [Sv (⟨#[]⟩ : ByteArray), I 0, I 0, I 0])] [Con Tryd.prog 12 [.agg [Sv l.Text, I l.X, I l.Y, I l.Cell]] true (Bv true) ∧ ((.agg [Sv l.Text, I l.X, I l.Y, I l.Cell] : AV) = .agg [Sv l.Text, I l.X, I l.Y, I l.Cell]) ∧ True, Con Tryd.prog 33 [Sv insert] true (Bv false) ∧ ((Sv insert : AV) = Sv insert) ∧ True] (by kernel_rfl) hB ⟨⟨(con_bool h1 (ValidCellRow_ok l okl)), rfl, trivial⟩, ⟨(con_bool h2 (areCells_ok insert (by omega))), rfl, trivial⟩, trivial⟩ ?_
      refine ae_then ?_
      refine aw_true rfl ?_
      refine aw_seq ?_
      refine aw_reg [] [6, 7] [6] [.ref 6 0, I 1] [some (.box [Sv (⟨#[]⟩ : ByteArray), I 0, I 0, I 0])] [] (by kernel_rfl) hB trivial ?_
      refine ae_then ?_
      refine aw_ret ?_
      refine ae_ret_then ?_
      refine ae_ret hB (.tup [.agg [Sv (⟨#[]⟩ : ByteArray), I 0, I 0, I 0], I 1]) (by kernel_rfl) (.inl (by first | (have hk : chkI l e insert = 1 := chk_1 (by simp [*]); rw [applyRow_ne hk (by decide), hk]; done) | (have hk : chkI l e insert = 2 := chk_2 (by assumption) (by assumption) (by assumption) (by omega); rw [applyRow_ne hk (by decide), hk]; done) | (have hk : chkI l e insert = 5 := chk_5 (by assumption) (by assumption) (by assumption) (by omega) (by omega); rw [applyRow_ne hk (by decide), hk]; done) | (have hk : chkI l e insert = 0 := chk_0 (by assumption) (by assumption) (by assumption) (by omega) (by omega); rw [applyRow_eq hk, hk]; simp [applyL, applyT, *]; done) | (exfalso; omega))) rfl (fun _ => (by simp [tagged, taggedL]))
  · refine aw_reg [(1, .call [(true, .agg [Sv l.Text, I l.X, I l.Y, I l.Cell])] true (Bv false))] [2, 3, 4, 6, 21] [3, 4, 6] [Sv insert, .ref 3 0, .ref 4 0, .ref 6 0, Bv true] [some (.box [Sv l.Text, I l.X, I l.Y, I l.Cell]), some (.box [I e.Kind, I e.From, I e.To]), some (.box [Sv (⟨#[]⟩ : ByteArray), I 0, I 0, I 0])] [Con Tryd.prog 12 [.agg [Sv l.Text, I l.X, I l.Y, I l.Cell]] true (Bv false) ∧ ((.agg [Sv l.Text, I l.X, I l.Y, I l.Cell] : AV) = .agg [Sv l.Text, I l.X, I l.Y, I l.Cell]) ∧ True] (by kernel_rfl) hB ⟨⟨(con_bool h1 (ValidCellRow_ok l okl)), rfl, trivial⟩, trivial⟩ ?_
    refine ae_then ?_
    refine aw_true rfl ?_
    refine aw_seq ?_
    refine aw_reg [] [6, 7] [6] [.ref 6 0, I 1] [some (.box [Sv (⟨#[]⟩ : ByteArray), I 0, I 0, I 0])] [] (by kernel_rfl) hB trivial ?_
    refine ae_then ?_
    refine aw_ret ?_
    refine ae_ret_then ?_
    refine ae_ret hB (.tup [.agg [Sv (⟨#[]⟩ : ByteArray), I 0, I 0, I 0], I 1]) (by kernel_rfl) (.inl (by first | (have hk : chkI l e insert = 1 := chk_1 (by simp [*]); rw [applyRow_ne hk (by decide), hk]; done) | (have hk : chkI l e insert = 2 := chk_2 (by assumption) (by assumption) (by assumption) (by omega); rw [applyRow_ne hk (by decide), hk]; done) | (have hk : chkI l e insert = 5 := chk_5 (by assumption) (by assumption) (by assumption) (by omega) (by omega); rw [applyRow_ne hk (by decide), hk]; done) | (have hk : chkI l e insert = 0 := chk_0 (by assumption) (by assumption) (by assumption) (by omega) (by omega); rw [applyRow_eq hk, hk]; simp [applyL, applyT, *]; done) | (exfalso; omega))) rfl (fun _ => (by simp [tagged, taggedL]))


-- impl.InverseEdit
theorem implInverseEdit_ok (l : CellRow) (e : Edit) (insert : ByteArray) (okl : l.Text.size ≤ 9223372036854775807) (oki : insert.size ≤ 1048576) : Con Tryd.prog 20 [.agg [Sv l.Text, I l.X, I l.Y, I l.Cell], .agg [I e.Kind, I e.From, I e.To], Sv insert] true (.tup [.agg [I ((invE l e insert).Kind), I ((invE l e insert).From), I ((invE l e insert).To)], Sv (invT l e insert), I (chkI l e insert)]) := by
  refine fn_ok (fn := Tryd.f20) (nt := 57) Tryd.func20 rfl rfl rfl rfl (by simp [taggedL, tagged]) fun B hB => ?_
  refine aw_seq ?_
  refine aw_reg [(0, .new 3), (1, .new 4), (2, .new 6)] [2, 3, 4, 6] [3, 4, 6] [Sv insert, .ref 3 0, .ref 4 0, .ref 6 0] [some (.box [Sv l.Text, I l.X, I l.Y, I l.Cell]), some (.box [I e.Kind, I e.From, I e.To]), some (.box [I 0, I 0, I 0])] [] (by kernel_rfl) hB trivial ?_
  refine ae_then ?_
  refine aw_seq ?_
  refine aw_seq ?_
  refine aw_reg [(3, .call [(true, .agg [Sv l.Text, I l.X, I l.Y, I l.Cell]), (true, .agg [I e.Kind, I e.From, I e.To]), (true, Sv insert)] true (.tup [.agg [Sv ((applyRow l e insert).Text), I ((applyRow l e insert).X), I ((applyRow l e insert).Y), I ((applyRow l e insert).Cell)], I (chkI l e insert)])), (7, .new 9)] [2, 3, 4, 6, 10] [3, 4, 6] [Sv insert, .ref 3 0, .ref 4 0, .ref 6 0, I (chkI l e insert)] [some (.box [Sv l.Text, I l.X, I l.Y, I l.Cell]), some (.box [I e.Kind, I e.From, I e.To]), some (.box [I 0, I 0, I 0])] [Con Tryd.prog 17 [.agg [Sv l.Text, I l.X, I l.Y, I l.Cell], .agg [I e.Kind, I e.From, I e.To], Sv insert] true (.tup [.agg [Sv ((applyRow l e insert).Text), I ((applyRow l e insert).X), I ((applyRow l e insert).Y), I ((applyRow l e insert).Cell)], I (chkI l e insert)]) ∧ ((.agg [Sv l.Text, I l.X, I l.Y, I l.Cell] : AV) = .agg [Sv l.Text, I l.X, I l.Y, I l.Cell]) ∧ ((.agg [I e.Kind, I e.From, I e.To] : AV) = .agg [I e.Kind, I e.From, I e.To]) ∧ ((Sv insert : AV) = Sv insert) ∧ True] (by kernel_rfl) hB ⟨⟨(implApplyEdit_ok l e insert okl oki), rfl, rfl, rfl, trivial⟩, trivial⟩ ?_
  refine ae_then ?_
  refine aw_seq ?_
  by_cases h1 : (chkI l e insert) = 0
  · have hck := chk_ok h1
    have hr := okRow_iff.1 hck.1
    refine aw_reg [(1, .dec false)] [2, 3, 4, 6, 10, 21] [3, 4, 6] [Sv insert, .ref 3 0, .ref 4 0, .ref 6 0, I (chkI l e insert), Bv false] [some (.box [Sv l.Text, I l.X, I l.Y, I l.Cell]), some (.box [I e.Kind, I e.From, I e.To]), some (.box [I 0, I 0, I 0])] [¬ ((chkI l e insert) ≠ 0)] (by kernel_rfl) hB ⟨(fun hq => hq h1), trivial⟩ ?_
    refine ae_then ?_
    refine aw_false rfl ?_
    refine aw_skip ?_
    refine ae_then ?_
    refine aw_seq ?_
    refine aw_reg [] [4, 6, 11, 12] [4, 6] [.ref 4 0, .ref 6 0, Sv (l.Text.extract e.From.toNat e.To.toNat), I (e.From + (insert.size : Int))] [some (.box [I e.Kind, I e.From, I e.To]), some (.box [I 0, I 0, I 0])] [(0 : Int) ≤ e.From ∧ e.From ≤ e.To ∧ e.To ≤ (l.Text.size : Int), inR .i64 (e.From + (insert.size : Int))] (by kernel_rfl) hB ⟨⟨(by omega), (by omega), (by omega)⟩, (inR_i64 (by omega) (by omega)), trivial⟩ ?_
    refine ae_then ?_
    refine aw_seq ?_
    refine aw_seq ?_
    refine aw_reg [] [4, 6, 11, 12, 37] [4, 6] [.ref 4 0, .ref 6 0, Sv (l.Text.extract e.From.toNat e.To.toNat), I (e.From + (insert.size : Int)), I e.Kind] [some (.box [I e.Kind, I e.From, I e.To]), some (.box [I 0, I 0, I 0])] [] (by kernel_rfl) hB trivial ?_
    refine ae_then ?_
    refine aw_block ?_
    refine aw_seq ?_
    by_cases h2 : e.Kind = 1
    · refine aw_reg [(0, .dec true)] [4, 6, 11, 12, 37, 38] [4, 6] [.ref 4 0, .ref 6 0, Sv (l.Text.extract e.From.toNat e.To.toNat), I (e.From + (insert.size : Int)), I e.Kind, Bv true] [some (.box [I e.Kind, I e.From, I e.To]), some (.box [I 0, I 0, I 0])] [e.Kind = 1] (by kernel_rfl) hB ⟨h2, trivial⟩ ?_
      refine ae_then ?_
      refine aw_true rfl ?_
      refine aw_seq ?_
      refine aw_reg [] [6, 7, 8] [6] [.ref 6 0, Sv (l.Text.extract e.From.toNat e.To.toNat), I 0] [some (.box [I 3, I e.From, I e.From])] [] (by kernel_rfl) hB trivial ?_
      refine ae_then ?_
      refine aw_ret ?_
      refine ae_ret_block (ae_ret_then ?_)
      refine ae_ret hB (.tup [.agg [I 3, I e.From, I e.From], Sv (l.Text.extract e.From.toNat e.To.toNat), I 0]) (by kernel_rfl) (.inl (by simp [invE, invT, *])) rfl (fun _ => (by simp [tagged, taggedL]))
    · refine aw_reg [(0, .dec false)] [4, 6, 11, 12, 37, 38] [4, 6] [.ref 4 0, .ref 6 0, Sv (l.Text.extract e.From.toNat e.To.toNat), I (e.From + (insert.size : Int)), I e.Kind, Bv false] [some (.box [I e.Kind, I e.From, I e.To]), some (.box [I 0, I 0, I 0])] [¬ (e.Kind = 1)] (by kernel_rfl) hB ⟨h2, trivial⟩ ?_
      refine ae_then ?_
      refine aw_false rfl ?_
      refine aw_seq ?_
      by_cases h3 : e.Kind = 3
      · refine aw_reg [(0, .dec true)] [4, 6, 11, 12, 46] [4, 6] [.ref 4 0, .ref 6 0, Sv (l.Text.extract e.From.toNat e.To.toNat), I (e.From + (insert.size : Int)), Bv true] [some (.box [I e.Kind, I e.From, I e.To]), some (.box [I 0, I 0, I 0])] [e.Kind = 3] (by kernel_rfl) hB ⟨h3, trivial⟩ ?_
        refine ae_then ?_
        refine aw_true rfl ?_
        refine aw_seq ?_
        refine aw_reg [] [6, 7, 8] [6] [.ref 6 0, Sv (⟨#[]⟩ : ByteArray), I 0] [some (.box [I 1, I e.From, I (e.From + (insert.size : Int))])] [] (by kernel_rfl) hB trivial ?_
        refine ae_then ?_
        refine aw_ret ?_
        refine ae_ret_block (ae_ret_then ?_)
        refine ae_ret hB (.tup [.agg [I 1, I e.From, I (e.From + (insert.size : Int))], Sv (⟨#[]⟩ : ByteArray), I 0]) (by kernel_rfl) (.inl (by simp [invE, invT, *])) rfl (fun _ => (by simp [tagged, taggedL]))
      · refine aw_reg [(0, .dec false)] [4, 6, 11, 12, 46] [4, 6] [.ref 4 0, .ref 6 0, Sv (l.Text.extract e.From.toNat e.To.toNat), I (e.From + (insert.size : Int)), Bv false] [some (.box [I e.Kind, I e.From, I e.To]), some (.box [I 0, I 0, I 0])] [¬ (e.Kind = 3)] (by kernel_rfl) hB ⟨h3, trivial⟩ ?_
        refine ae_then ?_
        refine aw_false rfl ?_
        refine aw_skip ?_
        refine ae_block 0 ?_
        refine ae_then ?_
        refine aw_seq ?_
        refine aw_reg [] [6, 7, 8] [6] [.ref 6 0, Sv (l.Text.extract e.From.toNat e.To.toNat), I 0] [some (.box [I 2, I e.From, I (e.From + (insert.size : Int))])] [] (by kernel_rfl) hB trivial ?_
        refine ae_then ?_
        refine aw_ret ?_
        refine ae_ret hB (.tup [.agg [I 2, I e.From, I (e.From + (insert.size : Int))], Sv (l.Text.extract e.From.toNat e.To.toNat), I 0]) (by kernel_rfl) (.inl (by simp [invE, invT, *])) rfl (fun _ => (by simp [tagged, taggedL]))
  · refine aw_reg [(1, .dec true)] [2, 3, 4, 6, 10, 21] [3, 4, 6] [Sv insert, .ref 3 0, .ref 4 0, .ref 6 0, I (chkI l e insert), Bv true] [some (.box [Sv l.Text, I l.X, I l.Y, I l.Cell]), some (.box [I e.Kind, I e.From, I e.To]), some (.box [I 0, I 0, I 0])] [(chkI l e insert) ≠ 0] (by kernel_rfl) hB ⟨h1, trivial⟩ ?_
    refine ae_then ?_
    refine aw_true rfl ?_
    refine aw_seq ?_
    refine aw_reg [] [6, 7, 8] [6] [.ref 6 0, Sv (⟨#[]⟩ : ByteArray), I (chkI l e insert)] [some (.box [I 0, I 0, I 0])] [] (by kernel_rfl) hB trivial ?_
    refine ae_then ?_
    refine aw_ret ?_
    refine ae_ret_then ?_
    refine ae_ret hB (.tup [.agg [I 0, I 0, I 0], Sv (⟨#[]⟩ : ByteArray), I (chkI l e insert)]) (by kernel_rfl) (.inl (by simp [invE, invT, *])) rfl (fun _ => (by simp [tagged, taggedL]))


-- laws.eqEdit
theorem eqEdit_ok (a : Edit) (b : Edit) : Con Tryd.prog 21 [.agg [I a.Kind, I a.From, I a.To], .agg [I b.Kind, I b.From, I b.To]] true (Bv (same a b)) := by
  refine fn_ok (fn := Tryd.f21) (nt := 20) Tryd.func21 rfl rfl rfl rfl (by simp [taggedL, tagged]) fun B hB => ?_
  refine aw_seq ?_
  refine aw_reg [(0, .new 2), (1, .new 3)] [2, 3] [2, 3] [.ref 2 0, .ref 3 0] [some (.box [I a.Kind, I a.From, I a.To]), some (.box [I b.Kind, I b.From, I b.To])] [] (by kernel_rfl) hB trivial ?_
  refine ae_then ?_
  refine aw_seq ?_
  refine aw_seq ?_
  by_cases h1 : a.Kind = b.Kind
  · refine aw_reg [(4, .dec false)] [2, 3, 9] [2, 3] [.ref 2 0, .ref 3 0, Bv false] [some (.box [I a.Kind, I a.From, I a.To]), some (.box [I b.Kind, I b.From, I b.To])] [¬ (a.Kind ≠ b.Kind)] (by kernel_rfl) hB ⟨(fun hq => hq h1), trivial⟩ ?_
    refine ae_then ?_
    refine aw_false rfl ?_
    refine aw_skip ?_
    refine ae_then ?_
    refine aw_seq ?_
    refine aw_seq ?_
    by_cases h2 : a.From = b.From
    · refine aw_reg [(4, .dec false)] [2, 3, 14] [2, 3] [.ref 2 0, .ref 3 0, Bv false] [some (.box [I a.Kind, I a.From, I a.To]), some (.box [I b.Kind, I b.From, I b.To])] [¬ (a.From ≠ b.From)] (by kernel_rfl) hB ⟨(fun hq => hq h2), trivial⟩ ?_
      refine ae_then ?_
      refine aw_false rfl ?_
      refine aw_skip ?_
      refine ae_then ?_
      refine aw_seq ?_
      refine aw_seq ?_
      by_cases h3 : a.To = b.To
      · refine aw_reg [(4, .dec false)] [19] [] [Bv false] [] [¬ (a.To ≠ b.To)] (by kernel_rfl) hB ⟨(fun hq => hq h3), trivial⟩ ?_
        refine ae_then ?_
        refine aw_false rfl ?_
        refine aw_skip ?_
        refine ae_then ?_
        refine aw_seq ?_
        refine aw_reg [] [4] [] [Bv true] [] [] (by kernel_rfl) hB trivial ?_
        refine ae_then ?_
        refine aw_ret ?_
        refine ae_ret hB (Bv true) (by kernel_rfl) (.inl (by first | (cases a; cases b; simp_all [same]; done) | (cases a; cases b; simp_all [same]; omega))) rfl (fun _ => trivial)
      · refine aw_reg [(4, .dec true)] [19] [] [Bv true] [] [a.To ≠ b.To] (by kernel_rfl) hB ⟨h3, trivial⟩ ?_
        refine ae_then ?_
        refine aw_true rfl ?_
        refine aw_seq ?_
        refine aw_reg [] [4] [] [Bv false] [] [] (by kernel_rfl) hB trivial ?_
        refine ae_then ?_
        refine aw_ret ?_
        refine ae_ret_then ?_
        refine ae_ret hB (Bv false) (by kernel_rfl) (.inl (by first | (cases a; cases b; simp_all [same]; done) | (cases a; cases b; simp_all [same]; omega))) rfl (fun _ => trivial)
    · refine aw_reg [(4, .dec true)] [2, 3, 14] [2, 3] [.ref 2 0, .ref 3 0, Bv true] [some (.box [I a.Kind, I a.From, I a.To]), some (.box [I b.Kind, I b.From, I b.To])] [a.From ≠ b.From] (by kernel_rfl) hB ⟨h2, trivial⟩ ?_
      refine ae_then ?_
      refine aw_true rfl ?_
      refine aw_seq ?_
      refine aw_reg [] [4] [] [Bv false] [] [] (by kernel_rfl) hB trivial ?_
      refine ae_then ?_
      refine aw_ret ?_
      refine ae_ret_then ?_
      refine ae_ret hB (Bv false) (by kernel_rfl) (.inl (by first | (cases a; cases b; simp_all [same]; done) | (cases a; cases b; simp_all [same]; omega))) rfl (fun _ => trivial)
  · refine aw_reg [(4, .dec true)] [2, 3, 9] [2, 3] [.ref 2 0, .ref 3 0, Bv true] [some (.box [I a.Kind, I a.From, I a.To]), some (.box [I b.Kind, I b.From, I b.To])] [a.Kind ≠ b.Kind] (by kernel_rfl) hB ⟨h1, trivial⟩ ?_
    refine ae_then ?_
    refine aw_true rfl ?_
    refine aw_seq ?_
    refine aw_reg [] [4] [] [Bv false] [] [] (by kernel_rfl) hB trivial ?_
    refine ae_then ?_
    refine aw_ret ?_
    refine ae_ret_then ?_
    refine ae_ret hB (Bv false) (by kernel_rfl) (.inl (by first | (cases a; cases b; simp_all [same]; done) | (cases a; cases b; simp_all [same]; omega))) rfl (fun _ => trivial)


theorem same_self {α : Type} [DecidableEq α] (x : α) : same x x = true := by simp [same]

-- laws.FnExactInverseEdit
theorem fnExactInverseEdit_con (aL : CellRow) (aE : Edit) (aInsert : ByteArray) (ok_aL : okCellRow aL) (ok_aInsert : aInsert.size ≤ 9223372036854775807) : Con Tryd.prog 6 [.agg [Sv aL.Text, I aL.X, I aL.Y, I aL.Cell], .agg [I aE.Kind, I aE.From, I aE.To], Sv aInsert] true (Bv true) := by
  refine fn_ok (fn := Tryd.f6) (nt := 56) Tryd.func6 rfl rfl rfl rfl (by simp [taggedL, tagged]) fun B hB => ?_
  refine aw_seq ?_
  refine aw_reg [(0, .new 3), (1, .new 4)] [2, 3, 4] [3, 4] [Sv aInsert, .ref 3 0, .ref 4 0] [some (.box [Sv aL.Text, I aL.X, I aL.Y, I aL.Cell]), some (.box [I aE.Kind, I aE.From, I aE.To])] [] (by kernel_rfl) hB trivial ?_
  refine ae_then ?_
  refine aw_seq ?_
  refine aw_seq ?_
  by_cases h1 : 1048576 < (aInsert.size : Int)
  · refine aw_reg [(2, .dec true)] [2, 3, 4, 16] [3, 4] [Sv aInsert, .ref 3 0, .ref 4 0, Bv true] [some (.box [Sv aL.Text, I aL.X, I aL.Y, I aL.Cell]), some (.box [I aE.Kind, I aE.From, I aE.To])] [1048576 < (aInsert.size : Int)] (by kernel_rfl) hB ⟨h1, trivial⟩ ?_
    refine ae_then ?_
    refine aw_true rfl ?_
    refine aw_seq ?_
    refine aw_reg [] [6] [] [Bv true] [] [] (by kernel_rfl) hB trivial ?_
    refine ae_then ?_
    refine aw_ret ?_
    refine ae_ret_then ?_
    refine ae_ret hB (Bv true) (by kernel_rfl) (.inl rfl) rfl (fun _ => trivial)
  · refine aw_reg [(2, .dec false)] [2, 3, 4, 16] [3, 4] [Sv aInsert, .ref 3 0, .ref 4 0, Bv false] [some (.box [Sv aL.Text, I aL.X, I aL.Y, I aL.Cell]), some (.box [I aE.Kind, I aE.From, I aE.To])] [¬ (1048576 < (aInsert.size : Int))] (by kernel_rfl) hB ⟨h1, trivial⟩ ?_
    refine ae_then ?_
    refine aw_false rfl ?_
    refine aw_skip ?_
    refine ae_then ?_
    refine aw_seq ?_
    refine aw_reg [] [2, 3, 4, 7] [3, 4] [Sv aInsert, .ref 3 0, .ref 4 0, I 1048576] [some (.box [Sv aL.Text, I aL.X, I aL.Y, I aL.Cell]), some (.box [I aE.Kind, I aE.From, I aE.To])] [] (by kernel_rfl) hB trivial ?_
    refine ae_then ?_
    refine aw_seq ?_
    refine aw_reg [(2, .call [(true, .agg [Sv aL.Text, I aL.X, I aL.Y, I aL.Cell]), (true, I 1048576)] true (I (szTake 1048576 (bulkCellRow aL))))] [2, 3, 4, 7] [3, 4] [Sv aInsert, .ref 3 0, .ref 4 0, I (szTake 1048576 (bulkCellRow aL))] [some (.box [Sv aL.Text, I aL.X, I aL.Y, I aL.Cell]), some (.box [I aE.Kind, I aE.From, I aE.To])] [Con Tryd.prog 9 [.agg [Sv aL.Text, I aL.X, I aL.Y, I aL.Cell], I 1048576] true (I (szTake 1048576 (bulkCellRow aL))) ∧ ((.agg [Sv aL.Text, I aL.X, I aL.Y, I aL.Cell] : AV) = .agg [Sv aL.Text, I aL.X, I aL.Y, I aL.Cell]) ∧ ((I 1048576 : AV) = I 1048576) ∧ True] (by kernel_rfl) hB ⟨⟨(szCellRow_ok aL 1048576 (by omega) ok_aL), rfl, rfl, trivial⟩, trivial⟩ ?_
    refine ae_then ?_
    refine aw_seq ?_
    refine aw_seq ?_
    by_cases h2 : (szTake 1048576 (bulkCellRow aL)) < 0
    · refine aw_reg [(1, .dec true)] [2, 3, 4, 21] [3, 4] [Sv aInsert, .ref 3 0, .ref 4 0, Bv true] [some (.box [Sv aL.Text, I aL.X, I aL.Y, I aL.Cell]), some (.box [I aE.Kind, I aE.From, I aE.To])] [(szTake 1048576 (bulkCellRow aL)) < 0] (by kernel_rfl) hB ⟨h2, trivial⟩ ?_
      refine ae_then ?_
      refine aw_true rfl ?_
      refine aw_seq ?_
      refine aw_reg [] [6] [] [Bv true] [] [] (by kernel_rfl) hB trivial ?_
      refine ae_then ?_
      refine aw_ret ?_
      refine ae_ret_then ?_
      refine ae_ret hB (Bv true) (by kernel_rfl) (.inl rfl) rfl (fun _ => trivial)
    · have eh2 := szTake_nn h2
      refine aw_reg [(1, .dec false)] [2, 3, 4, 21] [3, 4] [Sv aInsert, .ref 3 0, .ref 4 0, Bv false] [some (.box [Sv aL.Text, I aL.X, I aL.Y, I aL.Cell]), some (.box [I aE.Kind, I aE.From, I aE.To])] [¬ ((szTake 1048576 (bulkCellRow aL)) < 0)] (by kernel_rfl) hB ⟨h2, trivial⟩ ?_
      refine ae_then ?_
      refine aw_false rfl ?_
      refine aw_skip ?_
      refine ae_then ?_
      refine aw_seq ?_
      refine aw_reg [(1, .call [(true, .agg [Sv aL.Text, I aL.X, I aL.Y, I aL.Cell])] true (.agg [Sv aL.Text, I aL.X, I aL.Y, I aL.Cell])), (3, .call [(true, .agg [I aE.Kind, I aE.From, I aE.To])] true (.agg [I aE.Kind, I aE.From, I aE.To])), (5, .call [(true, .agg [Sv aL.Text, I aL.X, I aL.Y, I aL.Cell]), (true, .agg [I aE.Kind, I aE.From, I aE.To]), (true, Sv aInsert)] true (.tup [.agg [I ((invE aL aE aInsert).Kind), I ((invE aL aE aInsert).From), I ((invE aL aE aInsert).To)], Sv (invT aL aE aInsert), I (chkI aL aE aInsert)])), (10, .new 8)] [2, 3, 4, 8, 9, 10] [3, 4, 8] [Sv aInsert, .ref 3 0, .ref 4 0, .ref 8 0, Sv (invT aL aE aInsert), I (chkI aL aE aInsert)] [some (.box [Sv aL.Text, I aL.X, I aL.Y, I aL.Cell]), some (.box [I aE.Kind, I aE.From, I aE.To]), some (.box [I ((invE aL aE aInsert).Kind), I ((invE aL aE aInsert).From), I ((invE aL aE aInsert).To)])] [Con Tryd.prog 11 [.agg [Sv aL.Text, I aL.X, I aL.Y, I aL.Cell]] true (.agg [Sv aL.Text, I aL.X, I aL.Y, I aL.Cell]) ∧ ((.agg [Sv aL.Text, I aL.X, I aL.Y, I aL.Cell] : AV) = .agg [Sv aL.Text, I aL.X, I aL.Y, I aL.Cell]) ∧ True, Con Tryd.prog 16 [.agg [I aE.Kind, I aE.From, I aE.To]] true (.agg [I aE.Kind, I aE.From, I aE.To]) ∧ ((.agg [I aE.Kind, I aE.From, I aE.To] : AV) = .agg [I aE.Kind, I aE.From, I aE.To]) ∧ True, Con Tryd.prog 19 [.agg [Sv aL.Text, I aL.X, I aL.Y, I aL.Cell], .agg [I aE.Kind, I aE.From, I aE.To], Sv aInsert] true (.tup [.agg [I ((invE aL aE aInsert).Kind), I ((invE aL aE aInsert).From), I ((invE aL aE aInsert).To)], Sv (invT aL aE aInsert), I (chkI aL aE aInsert)]) ∧ ((.agg [Sv aL.Text, I aL.X, I aL.Y, I aL.Cell] : AV) = .agg [Sv aL.Text, I aL.X, I aL.Y, I aL.Cell]) ∧ ((.agg [I aE.Kind, I aE.From, I aE.To] : AV) = .agg [I aE.Kind, I aE.From, I aE.To]) ∧ ((Sv aInsert : AV) = Sv aInsert) ∧ True] (by kernel_rfl) hB ⟨⟨(toCellRow_ok aL (by omega)), rfl, trivial⟩, ⟨(toEdit_ok aE), rfl, trivial⟩, ⟨(specInverseEdit_ok aL aE aInsert ok_aL (by omega)), rfl, rfl, rfl, trivial⟩, trivial⟩ ?_
      refine ae_then ?_
      refine aw_seq ?_
      refine aw_reg [(1, .call [(true, .agg [Sv aL.Text, I aL.X, I aL.Y, I aL.Cell])] true (.agg [Sv aL.Text, I aL.X, I aL.Y, I aL.Cell])), (3, .call [(true, .agg [I aE.Kind, I aE.From, I aE.To])] true (.agg [I aE.Kind, I aE.From, I aE.To])), (5, .call [(true, .agg [Sv aL.Text, I aL.X, I aL.Y, I aL.Cell]), (true, .agg [I aE.Kind, I aE.From, I aE.To]), (true, Sv aInsert)] true (.tup [.agg [I ((invE aL aE aInsert).Kind), I ((invE aL aE aInsert).From), I ((invE aL aE aInsert).To)], Sv (invT aL aE aInsert), I (chkI aL aE aInsert)])), (10, .new 11)] [8, 9, 10, 11, 12, 13] [8, 11] [.ref 8 0, Sv (invT aL aE aInsert), I (chkI aL aE aInsert), .ref 11 0, Sv (invT aL aE aInsert), I (chkI aL aE aInsert)] [some (.box [I ((invE aL aE aInsert).Kind), I ((invE aL aE aInsert).From), I ((invE aL aE aInsert).To)]), some (.box [I ((invE aL aE aInsert).Kind), I ((invE aL aE aInsert).From), I ((invE aL aE aInsert).To)])] [Con Tryd.prog 11 [.agg [Sv aL.Text, I aL.X, I aL.Y, I aL.Cell]] true (.agg [Sv aL.Text, I aL.X, I aL.Y, I aL.Cell]) ∧ ((.agg [Sv aL.Text, I aL.X, I aL.Y, I aL.Cell] : AV) = .agg [Sv aL.Text, I aL.X, I aL.Y, I aL.Cell]) ∧ True, Con Tryd.prog 16 [.agg [I aE.Kind, I aE.From, I aE.To]] true (.agg [I aE.Kind, I aE.From, I aE.To]) ∧ ((.agg [I aE.Kind, I aE.From, I aE.To] : AV) = .agg [I aE.Kind, I aE.From, I aE.To]) ∧ True, Con Tryd.prog 20 [.agg [Sv aL.Text, I aL.X, I aL.Y, I aL.Cell], .agg [I aE.Kind, I aE.From, I aE.To], Sv aInsert] true (.tup [.agg [I ((invE aL aE aInsert).Kind), I ((invE aL aE aInsert).From), I ((invE aL aE aInsert).To)], Sv (invT aL aE aInsert), I (chkI aL aE aInsert)]) ∧ ((.agg [Sv aL.Text, I aL.X, I aL.Y, I aL.Cell] : AV) = .agg [Sv aL.Text, I aL.X, I aL.Y, I aL.Cell]) ∧ ((.agg [I aE.Kind, I aE.From, I aE.To] : AV) = .agg [I aE.Kind, I aE.From, I aE.To]) ∧ ((Sv aInsert : AV) = Sv aInsert) ∧ True] (by kernel_rfl) hB ⟨⟨(toCellRow_ok aL (by omega)), rfl, trivial⟩, ⟨(toEdit_ok aE), rfl, trivial⟩, ⟨(implInverseEdit_ok aL aE aInsert ok_aL (by omega)), rfl, rfl, rfl, trivial⟩, trivial⟩ ?_
      refine ae_then ?_
      refine aw_seq ?_
      refine aw_seq ?_
      refine aw_reg [(2, .call [(true, .agg [I ((invE aL aE aInsert).Kind), I ((invE aL aE aInsert).From), I ((invE aL aE aInsert).To)]), (true, .agg [I ((invE aL aE aInsert).Kind), I ((invE aL aE aInsert).From), I ((invE aL aE aInsert).To)])] true (Bv true)), (7, .dec false), (12, .dec false)] [55] [] [Bv false] [] [Con Tryd.prog 21 [.agg [I ((invE aL aE aInsert).Kind), I ((invE aL aE aInsert).From), I ((invE aL aE aInsert).To)], .agg [I ((invE aL aE aInsert).Kind), I ((invE aL aE aInsert).From), I ((invE aL aE aInsert).To)]] true (Bv true) ∧ ((.agg [I ((invE aL aE aInsert).Kind), I ((invE aL aE aInsert).From), I ((invE aL aE aInsert).To)] : AV) = .agg [I ((invE aL aE aInsert).Kind), I ((invE aL aE aInsert).From), I ((invE aL aE aInsert).To)]) ∧ ((.agg [I ((invE aL aE aInsert).Kind), I ((invE aL aE aInsert).From), I ((invE aL aE aInsert).To)] : AV) = .agg [I ((invE aL aE aInsert).Kind), I ((invE aL aE aInsert).From), I ((invE aL aE aInsert).To)]) ∧ True, ¬ ((invT aL aE aInsert) ≠ (invT aL aE aInsert)), ¬ ((chkI aL aE aInsert) ≠ (chkI aL aE aInsert))] (by kernel_rfl) hB ⟨⟨(con_bool (same_self _) (eqEdit_ok (invE aL aE aInsert) (invE aL aE aInsert))), rfl, rfl, trivial⟩, (fun hq => hq rfl), (fun hq => hq rfl), trivial⟩ ?_
      refine ae_then ?_
      refine aw_false rfl ?_
      refine aw_skip ?_
      refine ae_then ?_
      refine aw_seq ?_
      refine aw_reg [] [6] [] [Bv true] [] [] (by kernel_rfl) hB trivial ?_
      refine ae_then ?_
      refine aw_ret ?_
      refine ae_ret hB (Bv true) (by kernel_rfl) (.inl rfl) rfl (fun _ => trivial)


/-! ### the row -/

def okOCellRow (x : CellRow) : Prop := (x.Text.size ≤ 9223372036854775807) ∧ (inR .i64 x.X) ∧ (inR .i64 x.Y) ∧ (inR .i64 x.Cell)

theorem opens_t23 : OpensA Tryd.prog 23 (cCellRow) okOCellRow := by
  intro H enc w base spare held fuel cs y h
  obtain ⟨ys, n, _, _, hlen, hyl, hf⟩ := DataW.trod_struct Tryd.underlying23 h
  obtain ⟨x0, r0, o0⟩ := (opensA_str Tryd.underlying9) enc w base spare held _ _ _ ((hf 0 _ rfl).trans (List.getElem?_eq_getElem (by rw [hyl]; decide)))
  obtain ⟨x1, r1, o1⟩ := (opensA_int Tryd.underlying2) enc w base spare held _ _ _ ((hf 1 _ rfl).trans (List.getElem?_eq_getElem (by rw [hyl]; decide)))
  obtain ⟨x2, r2, o2⟩ := (opensA_int Tryd.underlying2) enc w base spare held _ _ _ ((hf 2 _ rfl).trans (List.getElem?_eq_getElem (by rw [hyl]; decide)))
  obtain ⟨x3, r3, o3⟩ := (opensA_int Tryd.underlying2) enc w base spare held _ _ _ ((hf 3 _ rfl).trans (List.getElem?_eq_getElem (by rw [hyl]; decide)))
  have hlen : cs.length = 4 := hlen.trans (by kernel_rfl)
  exact ⟨⟨x0, x1, x2, x3⟩, RelTL.whole (n := 4) (RelTL.app (a := 3) (b := 1) (RelTL.app (a := 2) (b := 1) (RelTL.app (a := 1) (b := 1) r0 (by kernel_rfl) r1 (by kernel_rfl) (by kernel_rfl) (by omega)) rfl r2 (by kernel_rfl) (by kernel_rfl) (by omega)) rfl r3 (by kernel_rfl) (by kernel_rfl) (by omega)) hlen rfl, o0, o1, o2, o3⟩

def okOEdit (x : Edit) : Prop := (inR .i64 x.Kind) ∧ (inR .i64 x.From) ∧ (inR .i64 x.To)

theorem opens_t33 : OpensA Tryd.prog 33 (cEdit) okOEdit := by
  intro H enc w base spare held fuel cs y h
  obtain ⟨ys, n, _, _, hlen, hyl, hf⟩ := DataW.trod_struct Tryd.underlying33 h
  obtain ⟨x0, r0, o0⟩ := (opensA_int Tryd.underlying2) enc w base spare held _ _ _ ((hf 0 _ rfl).trans (List.getElem?_eq_getElem (by rw [hyl]; decide)))
  obtain ⟨x1, r1, o1⟩ := (opensA_int Tryd.underlying2) enc w base spare held _ _ _ ((hf 1 _ rfl).trans (List.getElem?_eq_getElem (by rw [hyl]; decide)))
  obtain ⟨x2, r2, o2⟩ := (opensA_int Tryd.underlying2) enc w base spare held _ _ _ ((hf 2 _ rfl).trans (List.getElem?_eq_getElem (by rw [hyl]; decide)))
  have hlen : cs.length = 3 := hlen.trans (by kernel_rfl)
  exact ⟨⟨x0, x1, x2⟩, RelTL.whole (n := 3) (RelTL.app (a := 2) (b := 1) (RelTL.app (a := 1) (b := 1) r0 (by kernel_rfl) r1 (by kernel_rfl) (by kernel_rfl) (by omega)) rfl r2 (by kernel_rfl) (by kernel_rfl) (by omega)) hlen rfl, o0, o1, o2⟩

namespace fnExactInverseEdit
set_option maxRecDepth 100000 in
theorem lifted (os : Os) (started : os.Started) (H : Type) (enc : TypeId × Value → H) :
    ReturnsInHanded {} Tryd.checked os 6 .any (fun w args => (Rows.fnExactInverseEditSpec.pre enc Tryd.prog Tryd.f6 Rows.fnExactInverseEditRow.domain false w args ∧ laidMetH Tryd.prog Rows.fnExactInverseEditRow.laid w) ∧ sizedMet enc Tryd.prog Tryd.f6 (OpenSpec.ofChange Rows.fnExactInverseEditSpec) false w args)
      (Rows.fnExactInverseEditSpec.post enc Tryd.prog Tryd.f6 false true false false) := by
  refine returnsInHanded_of_change_and (C := Tryd.checked) (X := fun w _ => laidMetH Tryd.prog Rows.fnExactInverseEditRow.laid w) (fun _ _ _ hh h => h.of_heap hh) Tryd.own started (by kernel_rfl) Tryd.func6
    (ChangeSpec.witness_shaped (enc := enc) (C := Tryd.checked) (os := os) (X := fun w _ => laidMetH Tryd.prog Rows.fnExactInverseEditRow.laid w) false (World.laidAll Tryd.prog os Rows.fnExactInverseEditRow.laid) #[.agg #[.string ⟨#[]⟩, .int .i64 0, .int .i64 0, .int .i64 0], .agg #[.int .i64 0, .int .i64 0, .int .i64 0], .string ⟨#[]⟩] 8 (World.laidAll_os _ _ _)
      (World.shaped_of_ZipB (by kernel_rfl) (by kernel_rfl)) (by kernel_rfl) (by kernel_rfl) (by kernel_rfl)
      (by rw [MakeChecks.laidMetH_plain _ _ _ (by kernel_rfl)]; exact laidMet_laidAll _ (by kernel_rfl) (by kernel_rfl))) ?_
  intro W base args ds gs before hval0 hW hcnd hsz hL _
  have hW' := hW
  obtain ⟨p, q, hA0, hV, rfl, hfz, hnd⟩ := hW
  have hval : ∀ (j : Nat) t v, Tryd.f6.params[j]? = some t → args[j]? = some v → Value.okWide Tryd.prog W .any base t v := hval0
  have hA : DataW.TrodAll enc Tryd.prog W 0 (fun _ => true) true Tryd.f6.params.toList args.toList ds p := hA0
  rw [Tryd.params6] at hA hval
  obtain ⟨v0, vs0, d0, ds0, p0, q0, hargs, rfl, rfl, h0, r0⟩ := trodAll_cons hA
  obtain ⟨v1, vs1, d1, ds1, p1, q1, rfl, rfl, rfl, h1, r1⟩ := trodAll_cons r0
  obtain ⟨v2, vs2, d2, ds2, p2, q2, rfl, rfl, rfl, h2, r2⟩ := trodAll_cons r1
  obtain ⟨rfl, rfl, rfl⟩ := trodAll_nil r2
  obtain rfl : args = #[v0, v1, v2] := args_eq hargs
  obtain ⟨rfl, rfl⟩ := trodVars_none hV
  obtain ⟨fuel0, hf0⟩ := h0
  obtain ⟨cs0, rfl⟩ : ∃ cs, v0 = .agg cs := by
    obtain ⟨cs, h, _⟩ := okWide_struct Tryd.underlying23 (hval 0 23 v0 rfl rfl)
    exact ⟨cs, h⟩
  obtain ⟨x0, rx0, ok0⟩ := (opens_t23) enc W 0 _ _ _ _ _ hf0
  obtain ⟨fuel1, hf1⟩ := h1
  obtain ⟨cs1, rfl⟩ : ∃ cs, v1 = .agg cs := by
    obtain ⟨cs, h, _⟩ := okWide_struct Tryd.underlying33 (hval 1 33 v1 rfl rfl)
    exact ⟨cs, h⟩
  obtain ⟨x1, rx1, ok1⟩ := (opens_t33) enc W 0 _ _ _ _ _ hf1
  obtain ⟨fuel2, hf2⟩ := h2
  obtain ⟨s2, rfl⟩ := okWide_string Tryd.underlying9 (hval 2 9 v2 rfl rfl)
  obtain ⟨x2, rx2, ok2⟩ := (opensA_str Tryd.underlying9) enc W 0 _ _ _ _ _ hf2
  refine (walk_of (fnExactInverseEdit_con x0 x1 x2 ok0.1 ok2) (RelTL.cons (relTL_agg rx0) (RelTL.cons (relTL_agg rx1) (RelTL.cons (relTL_one rx2) RelTL.nil)))).mono fun e W1 ⟨he, hb⟩ => ?_
  subst he
  exact ⟨_, rfl, law_post Tryd.laidOut rfl Tryd.underlying4 (of_decide_eq_true (by kernel_rfl)) rfl hW' hb rfl⟩

theorem over : Rows.fnExactInverseEditRow.holds Tryd.pinned (OpenSpec.ofChange Rows.fnExactInverseEditSpec) :=
  OpenClaim.holds_of_wide 6 Tryd.f6 rfl rfl rfl rfl rfl rfl rfl ⟨rfl, rfl, rfl, rfl, rfl⟩ rfl rfl rfl rfl rfl (by kernel_rfl) Tryd.func6 (by kernel_rfl)
    (of_decide_eq_true (by kernel_rfl)) (by unfold Func.isWrapper; first | (rw [if_pos (by decide +kernel)]; kernel_rfl) | (rw [if_neg (by decide +kernel)]; exact ⟨rfl, rfl⟩))
    (fun os started H enc _ => lifted os started H enc)

theorem proved : Rows.FnExactInverseEditCardSaid :=
  Claim7.holds_tied_plain_at .later [] [.data, .pinned] true (true, "3d85031d4e7652fe12aee05d9dc01959ff45425cfa39b8ff73c24344072cdb05") false over (fun _ h => by cases h) (by kernel_rfl) (fun _ h => by cases h) fnExactInverseEdit_row_tie rfl ⟨rfl, rfl⟩ (by kernel_rfl) rfl
    (fun f fn hf hfn => by
      obtain rfl : f = 6 := Option.some.inj ((show Tryd.prog.funcNamed "loop.example/g00918/laws.FnExactInverseEdit" = some 6 by kernel_rfl).symm.trans hf) |>.symm
      obtain rfl : fn = Tryd.f6 := (Option.some.inj (Tryd.func6.symm.trans hfn)).symm
      exact ⟨by kernel_rfl, fun j t ht => by
        rw [Tryd.params6] at ht
        have hm : t ∈ [23, 33, 9] := by simpa using Array.mem_of_getElem? ht
        have hall : ([23, 33, 9].all fun u => !Tryd.prog.wantsStandIn u) = true := by kernel_rfl
        exact (show Tryd.prog.wantsStandIn t = false by simpa using List.all_eq_true.1 hall t hm)⟩)
    (by kernel_rfl)
#print axioms proved
end fnExactInverseEdit
end Go.Proofs.YtmchblafmhpegaaDoor.Ax
