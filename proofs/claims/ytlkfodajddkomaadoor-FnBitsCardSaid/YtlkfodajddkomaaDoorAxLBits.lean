/- The statement FnBits: contracts of what it reaches, and its proof. No conditions. -/
import Derived.Test.YtlkfodajddkomaaDoorAxO
import Derived.Test.YtlkfodajddkomaaDoorShelf
import Derived.Test.YtlkfodajddkomaaDoorTie
import Derived.Test.YtlkfodajddkomaaDoorCards
import Derived.LaidMore
import Derived.Lay
import Derived.Lib.Repeat
import Derived.OpenShut
import Derived.SevenTiedAt
import Derived.Shelf.Strings.SlTrimAscii
import Derived.Stop.Joined
import Derived.Test.YtlkfodajddkomaaDoorAxBd
namespace Go.Proofs.YtlkfodajddkomaaDoor.Ax
open Go.RowKit Go.ChangeShapes Go.WideShapes
set_option linter.unusedVariables false
set_option linter.unusedSimpArgs false


def cU8 (x : Int) : List AV := [.val (.int .u8 x)]
def fU8 (xs : List Int) (i : Nat) : List AV := cU8 (at_ xs i)
def slU8 (fr : Bool) (xs : List Int) : AV := .sl fr 1 xs.length (fU8 xs)
theorem tagcU8 (t : Bool) (x : Int) : taggedL t (cU8 x) := by simp [cU8, taggedL, tagged]
theorem tagU8 (t : Bool) (xs : List Int) : tagged t (slU8 t xs) := by simp only [slU8, tagged]; exact ⟨trivial, fun i _ => tagcU8 t _⟩
theorem lenU8 (fr : Bool) (xs : List Int) : lenA noOb (slU8 fr xs) = some xs.length := rfl
abbrev tAU8 (xs : List Int) : Ob := .arr 1 xs.length (fU8 xs)
def cI (x : Int) : List AV := [I x]
def fI (xs : List Int) (i : Nat) : List AV := cI (at_ xs i)
def slI (fr : Bool) (xs : List Int) : AV := .sl fr 1 xs.length (fI xs)
theorem tagcI (t : Bool) (x : Int) : taggedL t (cI x) := by simp [cI, taggedL, tagged]
theorem tagI (t : Bool) (xs : List Int) : tagged t (slI t xs) := by simp only [slI, tagged]; exact ⟨trivial, fun i _ => tagcI t _⟩
theorem lenI (fr : Bool) (xs : List Int) : lenA noOb (slI fr xs) = some xs.length := rfl
abbrev tAI (xs : List Int) : Ob := .arr 1 xs.length (fI xs)
def cLU8 (fr : Bool) (x : List Int) : List AV := [slU8 fr x]
def fLU8 (fr : Bool) (xs : List (List Int)) (i : Nat) : List AV := cLU8 fr (at_ xs i)
def slLU8 (fr : Bool) (xs : List (List Int)) : AV := .sl fr 1 xs.length (fLU8 fr xs)
theorem tagcLU8 (t : Bool) (x : List Int) : taggedL t (cLU8 t x) := by simp [cLU8, taggedL, tagged, tagU8]
theorem tagLU8 (t : Bool) (xs : List (List Int)) : tagged t (slLU8 t xs) := by simp only [slLU8, tagged]; exact ⟨trivial, fun i _ => tagcLU8 t _⟩
theorem lenLU8 (fr : Bool) (xs : List (List Int)) : lenA noOb (slLU8 fr xs) = some xs.length := rfl
theorem idsLU8 (fr : Bool) (x : List Int) : AV.idsL (cLU8 fr x) = [] := rfl
theorem leLU8 (fr : Bool) (x : List Int) (ob : Nat → Option Ob) : leL ob false (cLU8 fr x) (cLU8 false x) := (And.intro (And.intro (fun h => by cases h) (And.intro rfl (And.intro rfl (fun i _ => .inl rfl)))) rfl)
abbrev tALU8 (fr : Bool) (xs : List (List Int)) : Ob := .arr 1 xs.length (fLU8 fr xs)
def cU64 (x : Int) : List AV := [.val (.int .u64 x)]
def fU64 (xs : List Int) (i : Nat) : List AV := cU64 (at_ xs i)
def slU64 (fr : Bool) (xs : List Int) : AV := .sl fr 1 xs.length (fU64 xs)
theorem tagcU64 (t : Bool) (x : Int) : taggedL t (cU64 x) := by simp [cU64, taggedL, tagged]
theorem tagU64 (t : Bool) (xs : List Int) : tagged t (slU64 t xs) := by simp only [slU64, tagged]; exact ⟨trivial, fun i _ => tagcU64 t _⟩
theorem lenU64 (fr : Bool) (xs : List Int) : lenA noOb (slU64 fr xs) = some xs.length := rfl
abbrev tAU64 (xs : List Int) : Ob := .arr 1 xs.length (fU64 xs)
structure l00Src where
  code : List Int
  atx : Int
  seed : Int
deriving DecidableEq, Inhabited
def cl00Src (fr : Bool) (x : l00Src) : List AV := [slU8 fr x.code, I x.atx, .val (.int .u64 x.seed)]
def fl00Src (fr : Bool) (xs : List l00Src) (i : Nat) : List AV := cl00Src fr (at_ xs i)
def sll00Src (fr : Bool) (xs : List l00Src) : AV := .sl fr 3 xs.length (fl00Src fr xs)
theorem tagcl00Src (t : Bool) (x : l00Src) : taggedL t (cl00Src t x) := by simp [cl00Src, taggedL, tagged, tagU8]
theorem tagl00Src (t : Bool) (xs : List l00Src) : tagged t (sll00Src t xs) := by simp only [sll00Src, tagged]; exact ⟨trivial, fun i _ => tagcl00Src t _⟩
theorem lenl00Src (fr : Bool) (xs : List l00Src) : lenA noOb (sll00Src fr xs) = some xs.length := rfl
theorem idsl00Src (fr : Bool) (x : l00Src) : AV.idsL (cl00Src fr x) = [] := rfl
theorem lel00Src (fr : Bool) (x : l00Src) (ob : Nat → Option Ob) : leL ob false (cl00Src fr x) (cl00Src false x) := (And.intro (And.intro (fun h => by cases h) (And.intro rfl (And.intro rfl (fun i _ => .inl rfl)))) (And.intro rfl (And.intro rfl rfl)))
abbrev bxl00Src (x : l00Src) : Ob := .box [slU8 false x.code, I x.atx, .val (.int .u64 x.seed)]
abbrev agl00Src (x : l00Src) : AV := .agg [slU8 false x.code, I x.atx, .val (.int .u64 x.seed)]
abbrev bxl00SrcT (x : l00Src) : Ob := .box [slU8 true x.code, I x.atx, .val (.int .u64 x.seed)]
abbrev agl00SrcT (x : l00Src) : AV := .agg [slU8 true x.code, I x.atx, .val (.int .u64 x.seed)]
abbrev tAl00Src (fr : Bool) (xs : List l00Src) : Ob := .arr 3 xs.length (fl00Src fr xs)

-- laws.a2Long
theorem a2Long_ok (code : List Int) (more : List Int) : Con Tryd.prog 5 [slU8 false code, slU8 false more] true (Bv (decide (3000 < (code.length : Int) ∨ 3000 < (more.length : Int)))) := by
  refine fn_ok (fn := Tryd.f5) (nt := 13) Tryd.func5 rfl rfl rfl rfl (by simp [taggedL, tagged, tagU8]) fun B hB => ?_
  refine aw_lens (x := slU8 false code) 0 rfl (fun len_code => ?_)
  simp [LenOK, LenL, cU8, fU8, slU8] at len_code
  refine aw_lens (x := slU8 false more) 1 rfl (fun len_more => ?_)
  simp [LenOK, LenL, cU8, fU8, slU8] at len_more
  refine aR [] [0, 1] [] [slU8 false code, slU8 false more] [] [] hB trivial ?_
  refine aw_seq ?_
  by_cases h1 : 3000 < (code.length : Int)
  ·refine aw_r [(2, .dec true)] [4] [] [Bv true] [] [3000 < (code.length : Int)] hB ⟨h1, trivial⟩ ?_
   refine ae_then ?_
   refine aw_ret ?_
   refine ae_ret hB (Bv true) (by kernel_rfl) (.inl (by refine congrArg Bv ?_; simp [*])) rfl (fun _ => trivial)
  refine aw_r [(2, .dec false)] [4] [] [Bv (decide (3000 < (more.length : Int)))] [] [¬ (3000 < (code.length : Int))] hB ⟨h1, trivial⟩ ?_
  refine ae_then ?_
  refine aw_ret ?_
  refine ae_ret hB (Bv (decide (3000 < (more.length : Int)))) (by kernel_rfl) (.inl (by refine congrArg Bv ?_; simp [*])) rfl (fun _ => trivial)


theorem at_mem {α : Type} [Inhabited α] {xs : List α} {i : Nat} (h : i < xs.length) : at_ xs i ∈ xs := by rw [at_eq h]; exact List.getElem_mem h

def a2AtI (code : List Int) (i n : Int) : Int := if (code.length : Int) ≤ i ∨ n < 1 then 0 else at_ code i.toNat % n
theorem a2At_bd (code : List Int) (i : Int) {n : Int} (hn : 1 ≤ n) : 0 ≤ a2AtI code i n ∧ a2AtI code i n < n := by
  unfold a2AtI
  split
  · omega
  · exact ⟨Int.emod_nonneg _ (by omega), Int.emod_lt_of_pos _ (by omega)⟩

-- laws.a2At
theorem a2At_ok (code : List Int) (i : Int) (n : Int) (hc : (∀ j, j < code.length → 0 ≤ at_ code j ∧ at_ code j ≤ 255)) (ha : 0 ≤ i) : Con Tryd.prog 6 [slU8 false code, I i, I n] true (I (a2AtI code i n)) := by
  refine fn_ok (fn := Tryd.f6) (nt := 22) Tryd.func6 rfl rfl rfl rfl (by simp [taggedL, tagged, tagU8]) fun B hB => ?_
  refine aw_lens (x := slU8 false code) 0 rfl (fun len_code => ?_)
  simp [LenOK, LenL, cU8, fU8, slU8] at len_code
  refine aR [] [0, 1, 2] [] [slU8 false code, I i, I n] [] [] hB trivial ?_
  refine aw_seq ?_
  refine aw_seq ?_
  by_cases h1 : (code.length : Int) ≤ i
  ·refine aw_r [(3, .dec true)] [0, 1, 2, 14] [] [slU8 false code, I i, I n, Bv true] [] [(code.length : Int) ≤ i] hB ⟨h1, trivial⟩ ?_
   refine ae_then ?_
   refine aw_true rfl ?_
   refine aR [] [6] [] [I 0] [] [] hB trivial ?_
   refine aw_ret ?_
   refine ae_ret_then ?_
   refine ae_ret hB (I 0) (by kernel_rfl) (.inl (by simp [a2AtI, *])) rfl (fun _ => trivial)
  have hq := hc i.toNat (by omega)
  by_cases h2 : n < 1
  ·refine aw_r [(3, .dec false), (6, .dec true)] [0, 1, 2, 14] [] [slU8 false code, I i, I n, Bv true] [] [¬ ((code.length : Int) ≤ i), n < 1] hB ⟨h1, h2, trivial⟩ ?_
   refine ae_then ?_
   refine aw_true rfl ?_
   refine aR [] [6] [] [I 0] [] [] hB trivial ?_
   refine aw_ret ?_
   refine ae_ret_then ?_
   refine ae_ret hB (I 0) (by kernel_rfl) (.inl (by simp [a2AtI, *])) rfl (fun _ => trivial)
  refine aw_r [(3, .dec false), (6, .dec false)] [0, 1, 2, 14] [] [slU8 false code, I i, I n, Bv false] [] [¬ ((code.length : Int) ≤ i), ¬ (n < 1)] hB ⟨h1, h2, trivial⟩ ?_
  refine ae_then ?_
  refine aw_false rfl ?_
  refine aw_skip ?_
  refine ae_then ?_
  refine aR [(6, .nn)] [6] [] [I ((at_ code i.toNat) % n)] [] [(0 : Int) ≤ i ∧ i < (code.length : Int), inR .i64 (at_ code i.toNat), (0 : Int) ≤ (at_ code i.toNat) ∧ (0 : Int) < n] hB ⟨⟨(by omega), (by omega)⟩, (inR_i64 (by omega) (by omega)), ⟨(by omega), (by omega)⟩, trivial⟩ ?_
  refine aw_ret ?_
  refine ae_ret hB (I ((at_ code i.toNat) % n)) (by kernel_rfl) (.inl (by simp [a2AtI, *])) rfl (fun _ => trivial)


theorem set_at {α : Type} [Inhabited α] {ys xs : List α} {i : Int} (hl : ys.length = xs.length) (hi : i.toNat < xs.length) (h : ∀ j : Nat, (j : Int) < i → at_ ys j = at_ xs j) (j : Nat) (hj : j ≤ i.toNat) : at_ (ys.set i.toNat (at_ xs i.toNat)) j = at_ xs j := by
  by_cases e : i.toNat = j
  · subst e; simp [at_, hl, hi]
  · have := h j (by omega)
    simp only [at_] at this ⊢
    rw [← this]
    simp [e]
/-- Whether two things are the same. -/
def same {α : Type} [DecidableEq α] (x y : α) : Bool := decide (x = y)
theorem same_iff {α : Type} [DecidableEq α] {x y : α} : same x y = true ↔ x = y := by simp [same]
theorem ext_at {α : Type} [Inhabited α] {xs ys : List α} (hl : xs.length = ys.length) (h : ∀ j : Nat, j < xs.length → at_ xs j = at_ ys j) : xs = ys := by
  apply List.ext_getElem hl
  intro i h1 h2
  rw [← at_eq h1, ← at_eq h2]
  exact h i h1

/-- Whether p holds of all numbers below n. -/
def allN (n : Nat) (p : Nat → Bool) : Bool := (List.range n).all p
def anyN (n : Nat) (p : Nat → Bool) : Bool := !(allN n fun j => !(p j))
theorem allN_iff {n : Nat} {p : Nat → Bool} : allN n p = true ↔ ∀ j, j < n → p j = true := by simp [allN, List.all_eq_true]
theorem allN_at {n : Nat} {p : Nat → Bool} (h : ∀ j, j < n → p j = true) : allN n p = true := allN_iff.2 h
theorem allN_get {n : Nat} {p : Nat → Bool} (h : allN n p = true) {k : Nat} (hk : k < n) : p k = true := allN_iff.1 h k hk
theorem allN_not {n : Nat} {p : Nat → Bool} {k : Nat} (hk : k < n) (h : p k = false) : allN n p = false := by
  rw [← Bool.not_eq_true, allN_iff]; intro h'; rw [h' k hk] at h; cases h
theorem anyN_not (n : Nat) (p : Nat → Bool) : anyN n (fun j => !(p j)) = !(allN n p) := by simp [anyN]
theorem anyN_at {n : Nat} {p : Nat → Bool} {k : Nat} (hk : k < n) (h : p k = true) : anyN n p = true := by
  unfold anyN; rw [allN_not hk (by simp [h])]; rfl
theorem anyN_none {n : Nat} {p : Nat → Bool} (h : ∀ j, j < n → p j = false) : anyN n p = false := by
  unfold anyN; rw [allN_at (fun j hj => by simp [h j hj])]; rfl
theorem anyN_iff {n : Nat} {p : Nat → Bool} : anyN n p = true ↔ ∃ j, j < n ∧ p j = true := by
  constructor
  · intro h
    apply Classical.byContradiction
    intro hn
    rw [anyN_none (fun j hj => by rw [← Bool.not_eq_true]; exact fun hp => hn ⟨j, hj, hp⟩)] at h
    cases h
  · rintro ⟨j, hj, hp⟩; exact anyN_at hj hp
theorem up_to {n : Int} {p : Nat → Prop} {i : Int} (hi : 0 ≤ i) (h : ∀ j : Nat, (j : Int) < i → p j) (hp : p i.toNat) : ∀ j : Nat, (j : Int) < i + 1 → p j := fun j hj => by
  by_cases e : j = i.toNat
  · subst e; exact hp
  · exact h j (by omega)

def inB (a l h : Int) : Bool := decide (l ≤ a ∧ a ≤ h)
theorem inB_iff {a l h : Int} : inB a l h = true ↔ l ≤ a ∧ a ≤ h := by simp [inB]
theorem bAt_bd (s : ByteArray) (i : Nat) : 0 ≤ bAt s i ∧ bAt s i ≤ 255 := by
  unfold bAt
  have := (s.data.toList.getD i 0).toNat_lt
  omega

-- impl.within
theorem within_ok (n : Int) (low : Int) (high : Int) : Con Tryd.prog 17 [I n, I low, I high] true (Bv (inB n low high)) := by
  refine fn_ok (fn := Tryd.f17) (nt := 15) Tryd.func17 rfl rfl rfl rfl (by simp [taggedL, tagged]) fun B hB => ?_
  refine aR [] [0, 1, 2] [] [I n, I low, I high] [] [] hB trivial ?_
  refine aw_seq ?_
  by_cases h1 : low ≤ n
  ·refine aw_r [(2, .dec true)] [6] [] [Bv (decide (n ≤ high))] [] [low ≤ n] hB ⟨h1, trivial⟩ ?_
   refine ae_then ?_
   refine aw_ret ?_
   refine ae_ret hB (Bv (decide (n ≤ high))) (by kernel_rfl) (.inl (by first | rfl | (refine congrArg Bv ?_; simp [inB, *]; done) | (refine congrArg Bv ?_; simp [inB, *]; omega) | (refine congrArg Bv ?_; simp_all [inB]; done) | (refine congrArg Bv ?_; simp_all [inB]; omega))) rfl (fun _ => trivial)
  refine aw_r [(2, .dec false)] [6] [] [Bv false] [] [¬ (low ≤ n)] hB ⟨h1, trivial⟩ ?_
  refine ae_then ?_
  refine aw_ret ?_
  refine ae_ret hB (Bv false) (by kernel_rfl) (.inl (by first | rfl | (refine congrArg Bv ?_; simp [inB, *]; done) | (refine congrArg Bv ?_; simp [inB, *]; omega) | (refine congrArg Bv ?_; simp_all [inB]; done) | (refine congrArg Bv ?_; simp_all [inB]; omega))) rfl (fun _ => trivial)


theorem cat_one {α : Type} [Inhabited α] {enc : α → List AV} {x : α} {xs : List α} {g : Nat → List AV} (hx : g 0 = enc x) (i : Nat) (hi : i < ([x] ++ xs).length) : catF 1 g (fun i => enc (at_ xs i)) i = enc (at_ ([x] ++ xs) i) := by
  cases i with
  | zero => rw [catF_lt (by decide), hx]; rfl
  | succ i => rw [catF_ge (by omega), at_right (by simp)]; simp

/-- The string with these bytes. -/
def strB (xs : List Int) : ByteArray := ⟨(xs.map fun n => UInt8.ofNat n.toNat).toArray⟩
theorem strB_size (xs : List Int) : (strB xs).size = xs.length := by simp [strB, ByteArray.size]
theorem strB_at {xs : List Int} {i : Nat} (h : i < xs.length) (hb : 0 ≤ at_ xs i ∧ at_ xs i ≤ 255) : bAt (strB xs) i = at_ xs i := by
  have e : (strB xs).data.toList[i]? = some (UInt8.ofNat (at_ xs i).toNat) := by simp [strB, at_, List.getElem?_eq_getElem h]
  rw [bAt, List.getD_eq_getElem?_getD, e]
  simp
  omega
theorem strB_ok' {xs : List Int} (h : ∀ x ∈ xs, 0 ≤ x ∧ x ≤ 255) {n : Nat} {f : Nat → List AV} (hn : n = xs.length) (hf : ∀ i, i < xs.length → f i = fU8 xs i ∨ False) : (strB xs).size = n ∧ ∀ i, i < n → f i = byteF (strB xs) i := by
  subst hn
  refine ⟨strB_size xs, fun i hi => ?_⟩
  rw [(hf i hi).resolve_right id]
  unfold byteF
  rw [strB_at hi (h _ (at_mem hi))]
  rfl
theorem strB_ok {xs : List Int} (h : ∀ x ∈ xs, 0 ≤ x ∧ x ≤ 255) : (strB xs).size = xs.length ∧ ∀ i, i < xs.length → fU8 xs i = byteF (strB xs) i := strB_ok' h rfl fun i _ => .inl rfl
/-- A string's bytes. -/
def bytesL (s : ByteArray) : List Int := s.data.toList.map fun b => (b.toNat : Int)
theorem bytesL_len (s : ByteArray) : (bytesL s).length = s.size := by unfold bytesL; rw [List.length_map, Array.length_toList]; rfl
theorem bytesL_at {s : ByteArray} (i : Nat) (h : i < (bytesL s).length) : byteF s i = fU8 (bytesL s) i := by
  unfold byteF fU8 cU8
  have h' : i < s.data.toList.length := by simpa [bytesL] using h
  congr 3
  simp only [bAt, at_, bytesL, List.getD_eq_getElem?_getD, List.getElem?_map, List.getElem?_eq_getElem h', Option.map_some, Option.getD_some]

/-- A text without what t has at its ends. -/
def trimB (s t : ByteArray) : ByteArray := ⟨(Lib.trimS s.data.toList t.data.toList).toArray⟩
theorem dropWhile_nil {α : Type} {p : α → Bool} : ∀ {l : List α}, l.dropWhile p = [] ↔ ∀ x ∈ l, p x = true
  | [] => by simp
  | x :: l => by
    rw [List.dropWhile_cons]
    cases h : p x with
    | true => simp only [if_true]; rw [dropWhile_nil]; simp [h]
    | false => simp [h]
theorem dropWhile_head {α : Type} {p : α → Bool} : ∀ {l : List α} {x : α} {r : List α}, l.dropWhile p = x :: r → p x = false
  | [], _, _, h => by simp at h
  | y :: l, x, r, h => by
    rw [List.dropWhile_cons] at h
    cases hp : p y with
    | true => rw [hp] at h; exact dropWhile_head h
    | false => rw [hp] at h; simp at h; rw [← h.1]; exact hp
theorem trimS_nil {l cs : List UInt8} : Lib.trimS l cs = [] ↔ ∀ x ∈ l, cs.contains x = true := by
  unfold Lib.trimS Lib.trimLeftS Lib.trimRightS
  constructor
  · intro h
    rw [dropWhile_nil] at h
    cases e : l.reverse.dropWhile (cs.contains ·) with
    | nil => rw [dropWhile_nil] at e; intro x hx; exact e x (by simpa using hx)
    | cons x r =>
      have h1 := dropWhile_head e
      have h2 := h x (by rw [e]; simp)
      rw [h2] at h1; cases h1
  · intro h
    have e : l.reverse.dropWhile (cs.contains ·) = [] := dropWhile_nil.2 fun x hx => h x (by simpa using hx)
    rw [e]; rfl
theorem allB_iff {s : ByteArray} {p : Int → Bool} : allN s.size (fun j => p (bAt s j)) = true ↔ ∀ x ∈ s.data.toList, p x.toNat = true := by
  rw [allN_iff]
  have hl : s.size = s.data.toList.length := by rw [Array.length_toList]; rfl
  constructor
  · intro h x hx
    obtain ⟨i, hi, rfl⟩ := List.getElem_of_mem hx
    have := h i (by omega)
    rw [bAt, List.getD_eq_getElem?_getD, List.getElem?_eq_getElem hi] at this
    exact this
  · intro h j hj
    rw [bAt, List.getD_eq_getElem?_getD, List.getElem?_eq_getElem (by omega)]
    exact h _ (List.getElem_mem _)
theorem trim_all {T : ByteArray} {p : Int → Bool} (hT : ∀ x : UInt8, T.data.toList.contains x = p x.toNat) (s : ByteArray) : trimB s T = ⟨#[]⟩ ↔ allN s.size (fun j => p (bAt s j)) = true := by
  rw [allB_iff]
  constructor
  · intro h x hx
    have h' : Lib.trimS s.data.toList T.data.toList = [] := by
      have := congrArg (fun b => b.data.toList) h
      simpa [trimB] using this
    rw [← hT]
    exact trimS_nil.1 h' x hx
  · intro h
    have : Lib.trimS s.data.toList T.data.toList = [] := trimS_nil.2 fun x hx => by rw [hT]; exact h x hx
    unfold trimB
    rw [this]

theorem down_spec (n : Int) {d : Int} (hd : 0 < d) : (Int.tmod n d < 0 → Int.tdiv n d - 1 = n / d) ∧ (¬ Int.tmod n d < 0 → Int.tdiv n d = n / d) := by
  have h1 := Int.mul_tdiv_add_tmod n d
  have h2 := Int.tmod_lt_of_pos n hd
  have h3 := Int.lt_tmod_of_pos n hd
  generalize Int.tdiv n d = q at *
  generalize Int.tmod n d = r at *
  subst h1
  constructor
  · intro h
    have e : d * q + r = (r + d) + d * (q - 1) := by rw [Int.mul_sub, Int.mul_one]; omega
    rw [e, Int.add_mul_ediv_left _ _ (by omega), Int.ediv_eq_zero_of_lt (by omega) (by omega)]; omega
  · intro h
    rw [Int.add_comm, Int.add_mul_ediv_left _ _ (by omega), Int.ediv_eq_zero_of_lt (by omega) (by omega)]; omega
theorem quo_bd {n r : Int} (h : 0 ≤ n) (hr : 0 < r) : 0 ≤ n / r ∧ n / r ≤ n := ⟨Int.ediv_nonneg h (by omega), Int.ediv_le_self _ h⟩
theorem tdiv_bd (n d : Int) : ((Int.tdiv n d).natAbs : Int) ≤ (n.natAbs : Int) := by
  rw [Int.natAbs_tdiv]
  exact Int.ofNat_le.2 (Nat.div_le_self _ _)

theorem bAt_get {s : ByteArray} {i : Nat} (h : i < s.size) : bAt s i = (s.data.toList[i]'(by rw [Array.length_toList]; exact h)).toNat := by
  unfold bAt
  rw [List.getD_eq_getElem?_getD, List.getElem?_eq_getElem (by rw [Array.length_toList]; exact h)]
  rfl
theorem bAt_left {a b : ByteArray} {i : Nat} (h : i < a.size) : bAt (a ++ b) i = bAt a i := by
  unfold bAt
  have e : (a ++ b).data.toList = a.data.toList ++ b.data.toList := by simp [ByteArray.data_append]
  rw [e, List.getD_eq_getElem?_getD, List.getD_eq_getElem?_getD, List.getElem?_append_left (by rw [Array.length_toList]; exact h)]
theorem bAt_right {a b : ByteArray} {i : Nat} (h : a.size ≤ i) : bAt (a ++ b) i = bAt b (i - a.size) := by
  unfold bAt
  have e : (a ++ b).data.toList = a.data.toList ++ b.data.toList := by simp [ByteArray.data_append]
  have hl : a.data.toList.length = a.size := by rw [Array.length_toList]; rfl
  rw [e, List.getD_eq_getElem?_getD, List.getD_eq_getElem?_getD, List.getElem?_append_right (by omega), hl]
theorem bAt_ext {s : ByteArray} {a i : Nat} (h : a + i < s.size) : bAt (s.extract a s.size) i = bAt s (a + i) := by
  unfold bAt
  have hl : s.data.toList.length = s.size := by rw [Array.length_toList]; rfl
  have e : (s.extract a s.size).data.toList = s.data.toList.drop a := by
    rw [ByteArray.data_extract, Array.toList_extract]
    simp only [List.extract_eq_take_drop]
    rw [List.take_of_length_le (by simp)]
  rw [e, List.getD_eq_getElem?_getD, List.getD_eq_getElem?_getD, List.getElem?_drop]
theorem bAt_bd' (s : ByteArray) (i : Nat) : 0 ≤ bAt s i ∧ bAt s i ≤ 255 := by
  unfold bAt
  have := (s.data.toList.getD i 0).toNat_lt
  omega
/-- A number's bits. -/
def nbL (n : Int) (w : Nat) : List Int := (List.range w).map fun j => 48 + (n / ((2 ^ (w - 1 - j) : Nat) : Int)) % 2
theorem nbL_len (n : Int) (w : Nat) : (nbL n w).length = w := by simp [nbL]
theorem nbL_at {n : Int} {w j : Nat} (h : j < w) : at_ (nbL n w) j = 48 + (n / ((2 ^ (w - 1 - j) : Nat) : Int)) % 2 := by simp [at_, nbL, h]
theorem nbL_bd {n x : Int} {w : Nat} (h : x ∈ nbL n w) : 48 ≤ x ∧ x ≤ 49 := by
  simp only [nbL, List.mem_map] at h
  obtain ⟨j, _, rfl⟩ := h
  omega
def numB (n w : Int) : ByteArray := strB (nbL n w.toNat)
theorem numB_size (n w : Int) : (numB n w).size = w.toNat := by unfold numB; rw [strB_size, nbL_len]
theorem numB_at {n w : Int} {j : Nat} (h : j < w.toNat) : bAt (numB n w) j = 48 + (n / ((2 ^ (w.toNat - 1 - j) : Nat) : Int)) % 2 := by
  unfold numB
  have hl : j < (nbL n w.toNat).length := by rw [nbL_len]; exact h
  rw [strB_at hl (by have := nbL_bd (at_mem hl); omega), nbL_at h]
/-- The number in the first bits. -/
def rdN (s : ByteArray) : Nat → Int
  | 0 => 0
  | k + 1 => 2 * rdN s k + (bAt s k - 48)
termination_by k => k
theorem rdN_bd {s : ByteArray} : ∀ {k : Nat}, (∀ j, j < k → bAt s j = 48 ∨ bAt s j = 49) → 0 ≤ rdN s k ∧ rdN s k < ((2 ^ k : Nat) : Int)
  | 0, _ => by simp [rdN]
  | k + 1, h => by
    have ih := rdN_bd (k := k) fun j hj => h j (by omega)
    have := h k (by omega)
    rw [rdN, Nat.pow_succ]
    omega
theorem p2 (m : Nat) : 0 < ((2 ^ m : Nat) : Int) := Int.ofNat_lt.2 (Nat.two_pow_pos m)
theorem div_half (n : Int) (m : Nat) : n / ((2 ^ (m + 1) : Nat) : Int) = (n / ((2 ^ m : Nat) : Int)) / 2 := by
  rw [Nat.pow_succ, Int.natCast_mul, Int.ediv_ediv_of_nonneg (Int.le_of_lt (p2 m))]
  rfl
theorem rdN_num {s : ByteArray} {n : Int} {w : Nat} (h : ∀ j, j < w → bAt s j = 48 + (n / ((2 ^ (w - 1 - j) : Nat) : Int)) % 2) (h0 : 0 ≤ n) (h1 : n < ((2 ^ w : Nat) : Int)) : rdN s w = n := by
  have key : ∀ k, k ≤ w → rdN s k = n / ((2 ^ (w - k) : Nat) : Int) := by
    intro k
    induction k with
    | zero => intro _; rw [rdN, Nat.sub_zero, Int.ediv_eq_zero_of_lt h0 h1]
    | succ k ih =>
      intro hk
      rw [rdN, ih (by omega), h k (by omega)]
      have e1 : w - k = (w - 1 - k) + 1 := by omega
      have e2 : w - (k + 1) = w - 1 - k := by omega
      rw [e1, e2, div_half]
      omega
  have := key w (Nat.le_refl _)
  rw [this]; simp
def foldI (n : Int) : Int := if n < 0 then -2 * n - 1 else 2 * n
def unfoldI (u : Int) : Int := if u % 2 = 1 then Int.tdiv (-(u + 1)) 2 else u / 2
theorem unfold_fold (n : Int) : unfoldI (foldI n) = n := by
  unfold unfoldI foldI
  split
  · rename_i h
    rw [if_pos (by omega)]
    have e : -(-2 * n - 1 + 1) = 2 * n := by omega
    rw [e]; exact Int.mul_tdiv_cancel_left _ (by decide)
  · rw [if_neg (by omega)]; omega
theorem fold_bd {n B : Int} (h : -B ≤ n ∧ n ≤ B) : 0 ≤ foldI n ∧ foldI n ≤ 2 * B := by unfold foldI; split <;> omega
/-- q ones. -/
def repB (q : Int) : ByteArray := strB (List.replicate q.toNat 49)
theorem repB_size (q : Int) : (repB q).size = q.toNat := by unfold repB; rw [strB_size]; simp
theorem repB_at {q : Int} {j : Nat} (h : j < q.toNat) : bAt (repB q) j = 49 := by
  unfold repB
  have e : at_ (List.replicate q.toNat (49 : Int)) j = 49 := by simp [at_, List.getElem?_replicate, h]
  rw [strB_at (by simpa using h) (by rw [e]; decide), e]
/-- A number's Rice code. -/
def riceB (n k : Int) : ByteArray :=
  if foldI n / ((2 ^ k.toNat : Nat) : Int) < 20 then repB (foldI n / ((2 ^ k.toNat : Nat) : Int)) ++ ⟨#[48]⟩ ++ numB (foldI n % ((2 ^ k.toNat : Nat) : Int)) k else repB 20 ++ numB (foldI n) 32
def onesF (s : ByteArray) : Nat → Nat → Nat
  | _, 0 => 0
  | p, f + 1 => if p < s.size ∧ bAt s p = 49 then 1 + onesF s (p + 1) f else 0
termination_by _ f => f
theorem onesF_le (s : ByteArray) : ∀ (f p : Nat), onesF s p f ≤ f
  | 0, p => by rw [onesF]; exact Nat.le_refl _
  | f + 1, p => by
    have := onesF_le s f (p + 1)
    unfold onesF; split <;> omega
theorem onesF_eq {s : ByteArray} : ∀ {f q p : Nat}, (∀ j, j < q → p + j < s.size ∧ bAt s (p + j) = 49) → (q < f → p + q < s.size → bAt s (p + q) ≠ 49) → q ≤ f → onesF s p f = q
  | 0, q, p, _, _, hq => by have : q = 0 := by omega
                            subst this; rw [onesF]
  | f + 1, 0, p, _, h2, _ => by
    unfold onesF
    rw [if_neg]
    rintro ⟨a, b⟩
    exact h2 (by omega) (by simpa using a) (by simpa using b)
  | f + 1, q + 1, p, h1, h2, hq => by
    unfold onesF
    have := h1 0 (by omega)
    rw [if_pos (by simpa using this), onesF_eq (f := f) (q := q) (p := p + 1) (fun j hj => by
      have := h1 (j + 1) (by omega)
      rw [show p + 1 + j = p + (j + 1) by omega]; exact this) (fun h3 h4 => by
      have := h2 (by omega) (by omega)
      rw [show p + 1 + q = p + (q + 1) by omega]; exact this) (by omega)]
    omega
def resid (n : Int) : Bool := decide (-1000000000 ≤ n ∧ n ≤ 1000000000)
/-- What is read at p: a number, the place behind it, and a code. -/
def rdRice (s : ByteArray) (p k : Int) : Int × Int × Int :=
  if onesF s p.toNat 20 = 20 then
    (if (s.size : Int) - (p + 20) < 32 then (0, 0, 9) else
      if resid (unfoldI (rdN (s.extract (p + 20).toNat s.size) 32)) = true ∧ ¬ rdN (s.extract (p + 20).toNat s.size) 32 / ((2 ^ k.toNat : Nat) : Int) < 20 then (unfoldI (rdN (s.extract (p + 20).toNat s.size) 32), p + 20 + 32, 0) else (0, 0, 8))
  else if (s.size : Int) - (p + (onesF s p.toNat 20 : Int)) < 1 + k then (0, 0, 9) else
    (unfoldI ((onesF s p.toNat 20 : Int) * ((2 ^ k.toNat : Nat) : Int) + rdN (s.extract (p + (onesF s p.toNat 20 : Int) + 1).toNat s.size) k.toNat), p + (onesF s p.toNat 20 : Int) + 1 + k, 0)
theorem riceB_size {n k : Int} (hn : -1000000000 ≤ n ∧ n ≤ 1000000000) (hk : 0 ≤ k) : ((riceB n k).size : Int) = if foldI n / ((2 ^ k.toNat : Nat) : Int) < 20 then foldI n / ((2 ^ k.toNat : Nat) : Int) + 1 + k else 52 := by
  have hf := fold_bd hn
  have hq : 0 ≤ foldI n / ((2 ^ k.toNat : Nat) : Int) := Int.ediv_nonneg hf.1 (Int.le_of_lt (p2 _))
  have h1 : (⟨#[48]⟩ : ByteArray).size = 1 := rfl
  unfold riceB
  split
  · rw [ByteArray.size_append, ByteArray.size_append, repB_size, numB_size, h1]; omega
  · rw [ByteArray.size_append, repB_size, numB_size]; decide
theorem rice_read {s : ByteArray} {p k n : Int} (hp : 0 ≤ p) (hk : 0 ≤ k) (hn : -1000000000 ≤ n ∧ n ≤ 1000000000) (hs : p + ((riceB n k).size : Int) ≤ (s.size : Int))
    (hb : ∀ j, j < (riceB n k).size → bAt s (p.toNat + j) = bAt (riceB n k) j) : rdRice s p k = (n, p + ((riceB n k).size : Int), 0) := by
  have hf := fold_bd hn
  have hsz := riceB_size hn hk
  have h2k : 0 < ((2 ^ k.toNat : Nat) : Int) := p2 _
  have hq0 : 0 ≤ foldI n / ((2 ^ k.toNat : Nat) : Int) := Int.ediv_nonneg hf.1 (Int.le_of_lt (p2 _))
  have hdm := Int.mul_ediv_add_emod (foldI n) ((2 ^ k.toNat : Nat) : Int)
  have hm0 := Int.emod_nonneg (foldI n) (b := ((2 ^ k.toNat : Nat) : Int)) (Int.ne_of_gt (p2 _))
  have hm1 := Int.emod_lt_of_pos (foldI n) h2k
  have h1 : (⟨#[48]⟩ : ByteArray).size = 1 := rfl
  by_cases hc : foldI n / ((2 ^ k.toNat : Nat) : Int) < 20
  · rw [if_pos hc] at hsz
    have hR : riceB n k = repB (foldI n / ((2 ^ k.toNat : Nat) : Int)) ++ ⟨#[48]⟩ ++ numB (foldI n % ((2 ^ k.toNat : Nat) : Int)) k := if_pos hc
    generalize hq : foldI n / ((2 ^ k.toNat : Nat) : Int) = q at *
    generalize hr : foldI n % ((2 ^ k.toNat : Nat) : Int) = r at *
    have hb1 : ∀ j, j < q.toNat → bAt (riceB n k) j = 49 := fun j hj => by
      rw [hR, bAt_left (by rw [ByteArray.size_append, repB_size]; omega), bAt_left (by rw [repB_size]; exact hj), repB_at hj]
    have hb2 : bAt (riceB n k) q.toNat = 48 := by
      rw [hR, bAt_left (by rw [ByteArray.size_append, repB_size, h1]; omega), bAt_right (by rw [repB_size]; omega), repB_size, Nat.sub_self]; rfl
    have hb3 : ∀ j, j < k.toNat → bAt (riceB n k) (q.toNat + 1 + j) = 48 + (r / ((2 ^ (k.toNat - 1 - j) : Nat) : Int)) % 2 := fun j hj => by
      rw [hR, bAt_right (by rw [ByteArray.size_append, repB_size, h1]; omega), ByteArray.size_append, repB_size, h1, show q.toNat + 1 + j - (q.toNat + 1) = j by omega, numB_at hj]
    have ho : onesF s p.toNat 20 = q.toNat := onesF_eq (fun j hj => ⟨by omega, by rw [hb j (by omega), hb1 j hj]⟩) (fun _ _ => by rw [hb q.toNat (by omega), hb2]; decide) (by omega)
    unfold rdRice
    rw [ho, if_neg (by omega), if_neg (by omega)]
    have hrd : rdN (s.extract (p + (q.toNat : Int) + 1).toNat s.size) k.toNat = r := rdN_num (fun j hj => by
      rw [bAt_ext (by omega), show (p + (q.toNat : Int) + 1).toNat + j = p.toNat + (q.toNat + 1 + j) by omega, hb _ (by omega), hb3 j hj]) hm0 hm1
    rw [hrd]
    have e : (q.toNat : Int) * ((2 ^ k.toNat : Nat) : Int) + r = foldI n := by
      rw [show (q.toNat : Int) = q by omega, Int.mul_comm]; exact hdm
    rw [e, unfold_fold]
    refine Prod.ext rfl (Prod.ext ?_ rfl)
    simp only; omega
  · rw [if_neg hc] at hsz
    have hR : riceB n k = repB 20 ++ numB (foldI n) 32 := if_neg hc
    have hb1 : ∀ j, j < 20 → bAt (riceB n k) j = 49 := fun j hj => by
      rw [hR, bAt_left (by rw [repB_size]; exact hj), repB_at hj]
    have hb3 : ∀ j, j < 32 → bAt (riceB n k) (20 + j) = 48 + (foldI n / ((2 ^ (32 - 1 - j) : Nat) : Int)) % 2 := fun j hj => by
      rw [hR, bAt_right (by rw [repB_size]; show 20 ≤ _; omega), repB_size, show 20 + j - (20 : Int).toNat = j by show 20 + j - 20 = j; omega, numB_at (by exact hj)]; rfl
    have ho : onesF s p.toNat 20 = 20 := onesF_eq (fun j hj => ⟨by omega, by rw [hb j (by omega), hb1 j hj]⟩) (fun h _ => by omega) (by omega)
    unfold rdRice
    rw [ho, if_pos rfl, if_neg (by omega)]
    have hrd : rdN (s.extract (p + 20).toNat s.size) 32 = foldI n := rdN_num (fun j hj => by
      rw [bAt_ext (by omega), show (p + 20).toNat + j = p.toNat + (20 + j) by omega, hb _ (by omega), hb3 j hj]) hf.1 (by show foldI n < 4294967296; omega)
    rw [hrd, unfold_fold, if_pos ⟨by simp [resid]; omega, hc⟩]
    refine Prod.ext rfl (Prod.ext ?_ rfl)
    simp only; omega
theorem rice_end {s : ByteArray} {k : Int} (hk : 0 ≤ k) : rdRice s (s.size : Int) k = (0, 0, 9) := by
  have ho : onesF s (s.size : Int).toNat 20 = 0 := onesF_eq (fun j hj => by omega) (fun _ h => by simp at h) (by omega)
  unfold rdRice
  rw [ho, if_neg (by omega), if_pos (by omega)]
/-- The codes of the first i numbers, one behind the other. -/
def catB (l : List Int) (k : Int) : Nat → ByteArray
  | 0 => ⟨#[]⟩
  | i + 1 => catB l k i ++ riceB (at_ l i - 2000) k
theorem catB_succ {l : List Int} {k i : Int} (h : 0 ≤ i) : catB l k (i + 1).toNat = catB l k i.toNat ++ riceB (at_ l i.toNat - 2000) k := by
  have : (i + 1).toNat = i.toNat + 1 := by omega
  rw [this]; rfl
theorem catB_up {l : List Int} {k : Int} {i : Nat} : ∀ {m : Nat}, i ≤ m → (catB l k i).size ≤ (catB l k m).size ∧ ∀ j, j < (catB l k i).size → bAt (catB l k m) j = bAt (catB l k i) j := by
  intro m hm
  induction m with
  | zero => have : i = 0 := by omega
            subst this; exact ⟨Nat.le_refl _, fun _ _ => rfl⟩
  | succ m ih =>
    by_cases e : i = m + 1
    · subst e; exact ⟨Nat.le_refl _, fun _ _ => rfl⟩
    · obtain ⟨h1, h2⟩ := ih (by omega)
      refine ⟨by rw [catB, ByteArray.size_append]; omega, fun j hj => ?_⟩
      rw [catB, bAt_left (by omega)]; exact h2 j hj
theorem catB_read {l : List Int} {k : Int} {i m : Nat} (hi : i < m) (hk : 0 ≤ k) (hn : -1000000000 ≤ at_ l i - 2000 ∧ at_ l i - 2000 ≤ 1000000000) :
    rdRice (catB l k m) ((catB l k i).size : Int) k = (at_ l i - 2000, ((catB l k (i + 1)).size : Int), 0) := by
  obtain ⟨h1, h2⟩ := catB_up (l := l) (k := k) (show i + 1 ≤ m by omega)
  have hs : (catB l k (i + 1)).size = (catB l k i).size + (riceB (at_ l i - 2000) k).size := by rw [catB, ByteArray.size_append]
  rw [rice_read (n := at_ l i - 2000) (by omega) hk hn (by omega) (fun j hj => ?_)]
  · refine Prod.ext rfl (Prod.ext ?_ rfl)
    simp only; omega
  · rw [show ((catB l k i).size : Int).toNat + j = (catB l k i).size + j by omega, h2 _ (by omega), catB, bAt_right (by omega), show (catB l k i).size + j - (catB l k i).size = j by omega]
def bitB (n : Int) : Bool := decide (n = 48 ∨ n = 49)
theorem riceB_bits {n k : Int} {j : Nat} (h : j < (riceB n k).size) : bAt (riceB n k) j = 48 ∨ bAt (riceB n k) j = 49 := by
  have h1 : (⟨#[48]⟩ : ByteArray).size = 1 := rfl
  have hnum : ∀ {a w : Int} {i : Nat}, i < (numB a w).size → bAt (numB a w) i = 48 ∨ bAt (numB a w) i = 49 := fun {a w i} hi => by
    rw [numB_at (by rw [numB_size] at hi; exact hi)]; omega
  unfold riceB at *
  split at h
  · rename_i hc
    rw [if_pos hc]
    rw [ByteArray.size_append, ByteArray.size_append, h1] at h
    by_cases e : j < (repB (foldI n / ((2 ^ k.toNat : Nat) : Int))).size
    · rw [bAt_left (by rw [ByteArray.size_append]; omega), bAt_left e, repB_at (by rw [repB_size] at e; exact e)]; exact .inr rfl
    · by_cases e2 : j = (repB (foldI n / ((2 ^ k.toNat : Nat) : Int))).size
      · rw [bAt_left (by rw [ByteArray.size_append, h1]; omega), bAt_right (by omega), e2, Nat.sub_self]; exact .inl rfl
      · rw [bAt_right (by rw [ByteArray.size_append, h1]; omega), ByteArray.size_append, h1]; exact hnum (by omega)
  · rename_i hc
    rw [if_neg hc]
    rw [ByteArray.size_append] at h
    by_cases e : j < (repB 20).size
    · rw [bAt_left e, repB_at (by rw [repB_size] at e; exact e)]; exact .inr rfl
    · rw [bAt_right (by omega)]; exact hnum (by omega)
theorem catB_bits {l : List Int} {k : Int} : ∀ {m j : Nat}, j < (catB l k m).size → bAt (catB l k m) j = 48 ∨ bAt (catB l k m) j = 49
  | 0, j, h => by simp [catB, ByteArray.size] at h
  | m + 1, j, h => by
    rw [catB, ByteArray.size_append] at h
    rw [catB]
    by_cases e : j < (catB l k m).size
    · rw [bAt_left e]; exact catB_bits e
    · rw [bAt_right (by omega)]; exact riceB_bits (by omega)
theorem riceB_le {n k : Int} (hn : -8000 ≤ n ∧ n ≤ 8000) (hk : 0 ≤ k ∧ k ≤ 12) : 1 ≤ (riceB n k).size ∧ (riceB n k).size ≤ 52 := by
  have h := riceB_size (n := n) (k := k) (by omega) hk.1
  have hf := fold_bd (n := n) (B := 8000) hn
  have hq : 0 ≤ foldI n / ((2 ^ k.toNat : Nat) : Int) := Int.ediv_nonneg hf.1 (Int.le_of_lt (p2 _))
  split at h <;> omega
theorem catB_size {l : List Int} {k : Int} (hk : 0 ≤ k ∧ k ≤ 12) (hl : ∀ x ∈ l, -6000 ≤ x ∧ x ≤ 10000) : ∀ {m : Nat}, m ≤ l.length → (catB l k m).size ≤ 52 * m
  | 0, _ => Nat.le_refl _
  | m + 1, h => by
    have ih := catB_size hk hl (m := m) (by omega)
    have hx := hl _ (at_mem (xs := l) (i := m) (by omega))
    have := riceB_le (n := at_ l m - 2000) (k := k) (by omega) hk
    rw [catB, ByteArray.size_append]; omega
theorem and_mask {u : Int} {k : Nat} (h0 : 0 ≤ u) (h1 : u < 9223372036854775808) (hk : k ≤ 40) : bitsI .and .i64 u (1 * ((2 ^ k : Nat) : Int) - 1) = u % ((2 ^ k : Nat) : Int) := by
  have hp := p2 k
  have hle : 2 ^ k ≤ 2 ^ 40 := Nat.pow_le_pow_right (by decide) hk
  have hle' : ((2 ^ k : Nat) : Int) ≤ 1099511627776 := Int.ofNat_le.2 hle
  have e1 : (BitVec.ofInt 64 u).toNat = u.toNat := by rw [BitVec.toNat_ofInt]; omega
  have e2 : (BitVec.ofInt 64 (1 * ((2 ^ k : Nat) : Int) - 1)).toNat = 2 ^ k - 1 := by
    rw [BitVec.toNat_ofInt, Int.one_mul, Int.emod_eq_of_lt (by omega) (by show _ < (18446744073709551616 : Int); omega)]
    omega
  have e : bitsI .and .i64 u (1 * ((2 ^ k : Nat) : Int) - 1) = IntKind.i64.wrap (((BitVec.ofInt 64 u &&& BitVec.ofInt 64 (1 * ((2 ^ k : Nat) : Int) - 1)).toNat : Nat) : Int) := rfl
  rw [e, BitVec.toNat_and, e1, e2, Nat.and_two_pow_sub_one_eq_mod]
  have hm : ((u.toNat % 2 ^ k : Nat) : Int) = u % ((2 ^ k : Nat) : Int) := by
    rw [Int.natCast_emod]
    congr 1
    omega
  rw [hm]
  have a1 := Int.emod_nonneg u (b := ((2 ^ k : Nat) : Int)) (by omega)
  have a2 := Int.emod_lt_of_pos u hp
  exact wrap_in (inR_i64 (by omega) (by omega))
theorem and_one {u : Int} (h0 : 0 ≤ u) (h1 : u < 9223372036854775808) : bitsI .and .i64 u 1 = u % 2 := and_mask (k := 1) h0 h1 (by decide)

theorem resid_iff {n : Int} : resid n = true ↔ -1000000000 ≤ n ∧ n ≤ 1000000000 := by simp [resid]
theorem unfold_bd {u : Int} (h : 0 ≤ u ∧ u ≤ 4294967296000) : -4294967296000 ≤ unfoldI u ∧ unfoldI u ≤ 4294967296000 := by
  unfold unfoldI
  split
  · have := tdiv_bd (-(u + 1)) 2
    omega
  · omega
def okBits (s : ByteArray) : Bool := decide ((s.size : Int) ≤ 100000) && allN s.size (fun j => bitB (bAt s j))
theorem okBits_iff {s : ByteArray} : okBits s = true ↔ (s.size : Int) ≤ 100000 ∧ ∀ j, j < s.size → bAt s j = 48 ∨ bAt s j = 49 := by
  simp only [okBits, Bool.and_eq_true, decide_eq_true_eq, allN_iff, bitB]
theorem bits_has (x : UInt8) : (⟨#[48, 49]⟩ : ByteArray).data.toList.contains x = bitB x.toNat := by
  rw [Bool.eq_iff_iff]
  simp only [bitB, decide_eq_true_eq]
  simp
  constructor
  · rintro (h | h) <;> subst h <;> decide
  · intro h
    have h' : x.toNat = 48 ∨ x.toNat = 49 := by omega
    rcases h' with h | h
    · exact .inl (UInt8.toNat_inj.1 h)
    · exact .inr (UInt8.toNat_inj.1 h)
theorem rep_repeat (c : Nat) : (⟨(Lib.repeatL (⟨#[49]⟩ : ByteArray).data.toList c).toArray⟩ : ByteArray) = repB (c : Int) := by
  unfold repB strB
  have : Lib.repeatL [49] c = (List.replicate c (49 : Int)).map fun n => UInt8.ofNat n.toNat := by
    induction c with
    | zero => rfl
    | succ c ih => rw [Lib.repeatL, ih, List.replicate_succ]; rfl
  show (⟨(Lib.repeatL [49] c).toArray⟩ : ByteArray) = _
  rw [this]; simp
def rdRiceR (s : ByteArray) (p k : Int) : Int × Int × Int := if okBits s = true then (if inB k 0 12 = true ∧ inB p 0 (s.size : Int) = true then rdRice s p k else (0, 0, 2)) else (0, 0, 7)
theorem rdRiceR_eq {s : ByteArray} {p k : Int} (h : okBits s = true) (hk : 0 ≤ k ∧ k ≤ 12) (hp : 0 ≤ p ∧ p ≤ (s.size : Int)) : rdRiceR s p k = rdRice s p k := by
  unfold rdRiceR; rw [if_pos h, if_pos ⟨inB_iff.2 hk, inB_iff.2 hp⟩]

-- impl.numberBits
theorem numberBits_ok (n : Int) (width : Int) (hn : 0 ≤ n ∧ n ≤ 1099511627776) (hw : 0 ≤ width ∧ width ≤ 40) : Con Tryd.prog 18 [I n, I width] true (Sv (numB n width)) := by
  refine fn_ok (fn := Tryd.f18) (nt := 29) Tryd.func18 rfl rfl rfl rfl (by simp [taggedL, tagged]) fun B hB => ?_
  refine aR [] [0, 1] [] [I n, I width] [] [] hB trivial ?_
  refine aR [(1, .new 8)] [0, 1, 5] [8] [I n, I width, .arr 8] [some (.arr 1 width.toNat (fun _ => [.val (.int .u8 0)]))] [(0 : Int) ≤ width ∧ (width : Int) ≤ width ∧ (1 : Int) * width ≤ 281474976710656 ∧ width ≤ 9223372036854775807] hB ⟨⟨(by omega), (by omega), (by omega), (by omega)⟩, trivial⟩ ?_
  refine aw_seq ?_
  refine aR [] [0, 1, 5, 10, 11] [8] [I n, I width, .arr 8, I (width.toNat : Int), I 0] [some (.arr 1 width.toNat (fun _ => [.val (.int .u8 0)]))] [] hB trivial ?_
  refine aw_block ?_
  refine aw_weak hB [] (T := [(0, I n), (1, I width), (5, .arr 8), (10, I (width.toNat : Int)), (11, I 0)]) (O := [(8, tAU8 (List.replicate width.toNat 0))]) rfl (⟨.inl rfl, .inl rfl, .inl rfl, .inl rfl, .inl rfl, trivial⟩) (⟨.inr ⟨rfl, (by first | rfl | (simp; done) | (simp; omega) | omega), fun i_ hi_ => .inl (const_enc (enc := cU8) rfl i_ hi_)⟩, trivial⟩) ?_
  refine aw_loop (fun gn gσ => ∃ (t11 : Int) (ys : List Int), gn = (width - t11).toNat ∧ (0 ≤ t11 ∧ t11 ≤ width) ∧ (ys.length = width.toNat) ∧ (∀ j : Nat, (j : Int) < t11 → at_ ys j = at_ (nbL n width.toNat) j) ∧ gσ = mkS [(0, I n), (1, I width), (5, .arr 8), (10, I (width.toNat : Int)), (11, I t11)] [(8, tAU8 ys)]) ((width - 0).toNat) ⟨0, (List.replicate width.toNat 0), rfl, (by omega), (by simp), (by intro j hj; omega), rfl⟩ (fun gn gσ hI => ?_)
  obtain ⟨t11, ys, rfl, hi0, hy0, hy1, rfl⟩ := hI
  refine aw_seq ?_
  by_cases h1 : t11 < (width.toNat : Int)
  ·have hi : t11.toNat < ys.length := by omega
   have hdv := quo_bd (n := n) (r := ((2 ^ ((width - 1) - t11).toNat : Nat) : Int)) hn.1 (p2 _)
   have hbi := and_one (u := n / ((2 ^ ((width - 1) - t11).toNat : Nat) : Int)) hdv.1 (by omega)
   have hv : 48 + bitsI .and .i64 (n / ((2 ^ ((width - 1) - t11).toNat : Nat) : Int)) 1 = at_ (nbL n width.toNat) t11.toNat := by rw [nbL_at (by omega), hbi, show ((width - 1) - t11).toNat = width.toNat - 1 - t11.toNat by omega]
   refine aw_r [(0, .dec true)] [0, 1, 5, 10, 11, 12] [8] [I n, I width, .arr 8, I (width.toNat : Int), I t11, Bv true] [some (tAU8 ys)] [t11 < (width.toNat : Int)] hB ⟨h1, trivial⟩ ?_
   refine ae_then ?_
   refine aw_seq ?_
   refine aw_true rfl ?_
   refine aw_skip ?_
   refine ae_then ?_
   refine aw_seq ?_
   refine aw_block ?_
   refine aR [] [0, 1, 5, 6, 10, 11] [8] [I n, I width, .arr 8, I t11, I (width.toNat : Int), I t11] [some (tAU8 ys)] [] hB trivial ?_
   refine aw_r [] [0, 1, 5, 10, 11] [8] [I n, I width, .arr 8, I (width.toNat : Int), I t11] [some (.arr 1 ys.length (fun q => bif Nat.beq q t11.toNat then [.val (.int .u8 (48 + (bitsI .and .i64 (n / ((2 ^ ((width - 1) - t11).toNat : Nat) : Int)) 1)))] else (fU8 ys) q))] [inR .i64 (width - 1), inR .i64 ((width - 1) - t11), (0 : Int) ≤ ((width - 1) - t11) ∧ ((width - 1) - t11) ≤ ((IntKind.bits .i64 : Nat) : Int), inR .i64 (48 + (bitsI .and .i64 (n / ((2 ^ ((width - 1) - t11).toNat : Nat) : Int)) 1)), inR .u8 (48 + (bitsI .and .i64 (n / ((2 ^ ((width - 1) - t11).toNat : Nat) : Int)) 1)), (0 : Int) ≤ t11 ∧ t11 < (ys.length : Int), t11.toNat < ys.length] hB ⟨(inR_i64 (by omega) (by omega)), (inR_i64 (by omega) (by omega)), ⟨(by omega), (show ((width - 1) - t11) ≤ (64 : Int) from by omega)⟩, (inR_i64 (by omega) (by omega)), (inR_u8 (by omega) (by omega)), ⟨(by omega), (by omega)⟩, (by omega), trivial⟩ ?_
   refine ae_block 1 ?_
   refine ae_then ?_
   refine aw_r [] [0, 1, 5, 10, 11] [8] [I n, I width, .arr 8, I (width.toNat : Int), I (t11 + 1)] [some (.arr 1 ys.length (fun q => bif Nat.beq q t11.toNat then [.val (.int .u8 (48 + (bitsI .and .i64 (n / ((2 ^ ((width - 1) - t11).toNat : Nat) : Int)) 1)))] else (fU8 ys) q))] [inR .i64 (t11 + 1)] hB ⟨(inR_i64 (by omega) (by omega)), trivial⟩ ?_
   refine ae_weak hB [] (T := [(0, I n), (1, I width), (5, .arr 8), (10, I (width.toNat : Int)), (11, I (t11 + 1))]) (O := [(8, tAU8 (ys.set t11.toNat (48 + (bitsI .and .i64 (n / ((2 ^ ((width - 1) - t11).toNat : Nat) : Int)) 1))))]) rfl (⟨.inl rfl, .inl rfl, .inl rfl, .inl rfl, .inl rfl, trivial⟩) (⟨.inr ⟨rfl, (by first | rfl | (simp; done) | (simp; omega) | omega), fun i_ hi_ => .inl (upd_enc (enc := cU8) rfl i_ hi_)⟩, trivial⟩) (ae_again _ (by omega) ⟨(t11 + 1), (ys.set t11.toNat (48 + (bitsI .and .i64 (n / ((2 ^ ((width - 1) - t11).toNat : Nat) : Int)) 1))), rfl, (by omega), (by simp [hy0]), (by intro j hj; rw [hv]; exact set_at (by rw [hy0, nbL_len]) (by rw [nbL_len]; omega) hy1 j (by omega)), rfl⟩)
  obtain rfl : ys = nbL n width.toNat := ext_at (by rw [hy0, nbL_len]) (fun j hj => hy1 j (by omega))
  refine aw_r [(0, .dec false)] [0, 1, 5, 10, 11, 12] [8] [I n, I width, .arr 8, I (width.toNat : Int), I t11, Bv false] [some (tAU8 (nbL n width.toNat))] [¬ (t11 < (width.toNat : Int))] hB ⟨h1, trivial⟩ ?_
  refine ae_then ?_
  refine aw_seq ?_
  refine aw_false rfl ?_
  refine aw_exit ?_
  refine ae_exit_then ?_
  refine ae_exit_then ?_
  refine ae_exit_same ?_
  refine ae_then ?_
  refine aR [(1, .as (Sv (strB (nbL n width.toNat))))] [4] [] [Sv (strB (nbL n width.toNat))] [] [(strB (nbL n width.toNat)).size = (nbL n width.toNat).length ∧ ∀ i_, i_ < (nbL n width.toNat).length → (fU8 (nbL n width.toNat)) i_ = byteF (strB (nbL n width.toNat)) i_] hB ⟨(strB_ok (fun x hx => by have := nbL_bd hx; omega)), trivial⟩ ?_
  refine aw_ret ?_
  refine ae_ret hB (Sv (strB (nbL n width.toNat))) (by kernel_rfl) (.inl (by first | rfl | (refine congrArg Bv ?_; simp [*]; done) | (refine congrArg Bv ?_; simp [*]; omega) | (refine congrArg Bv ?_; simp_all []; done) | (refine congrArg Bv ?_; simp_all []; omega))) rfl (fun _ => trivial)


theorem bext_size (s : ByteArray) (a b : Nat) : (s.extract a b).size = min b s.size - a := by simp [ByteArray.size_extract]
theorem onesF_step {s : ByteArray} {p f : Nat} (h : p < s.size) (h2 : bAt s p = 49) : onesF s p (f + 1) = 1 + onesF s (p + 1) f := by rw [onesF, if_pos ⟨h, h2⟩]
theorem onesF_stop {s : ByteArray} {p f : Nat} (h : ¬ (p < s.size ∧ bAt s p = 49)) : onesF s p f = 0 := by
  cases f with
  | zero => rw [onesF]
  | succ f => rw [onesF, if_neg h]
theorem bits_ext {s : ByteArray} (h : okBits s = true) {a w : Nat} (haw : a + w ≤ s.size) (j : Nat) (hj : j < w) : bAt (s.extract a s.size) j = 48 ∨ bAt (s.extract a s.size) j = 49 := by
  rw [bAt_ext (by omega)]
  exact (okBits_iff.1 h).2 _ (by omega)
theorem ones_shl {o k : Int} (h : 0 ≤ o ∧ o ≤ 20) (hk : 0 ≤ k ∧ k ≤ 12) : 0 ≤ o * ((2 ^ k.toNat : Nat) : Int) ∧ o * ((2 ^ k.toNat : Nat) : Int) ≤ 81920 := by
  have hp12 : ((2 ^ k.toNat : Nat) : Int) ≤ 4096 := Int.ofNat_le.2 (Nat.pow_le_pow_right (by decide) (by omega : k.toNat ≤ 12))
  have hp := p2 k.toNat
  exact ⟨Int.mul_nonneg h.1 (by omega), Int.le_trans (Int.mul_le_mul h.2 hp12 (by omega) (by omega)) (by decide)⟩
section
variable {s : ByteArray} {p k o : Int}
theorem rd_t (ho : onesF s p.toNat 20 = o.toNat) (h0 : 0 ≤ o ∧ o ≤ 20) (h1 : ¬ o = 20) (h : (s.size : Int) - (p + o) < 1 + k) : rdRice s p k = (0, 0, 9) := by
  unfold rdRice; rw [ho, show (o.toNat : Int) = o by omega, if_neg (by omega), if_pos h]
theorem rd_v (ho : onesF s p.toNat 20 = o.toNat) (h0 : 0 ≤ o ∧ o ≤ 20) (h1 : ¬ o = 20) (h : ¬ (s.size : Int) - (p + o) < 1 + k) : rdRice s p k = (unfoldI (o * ((2 ^ k.toNat : Nat) : Int) + rdN (s.extract (p + o + 1).toNat s.size) k.toNat), p + o + 1 + k, 0) := by
  unfold rdRice; rw [ho, show (o.toNat : Int) = o by omega, if_neg (by omega), if_neg h]
theorem rd_20t (ho : onesF s p.toNat 20 = 20) (h : (s.size : Int) - (p + 20) < 32) : rdRice s p k = (0, 0, 9) := by
  unfold rdRice; rw [ho, if_pos rfl, if_pos h]
theorem rd_20f (ho : onesF s p.toNat 20 = 20) (h : ¬ (s.size : Int) - (p + 20) < 32) (h2 : ¬ (resid (unfoldI (rdN (s.extract (p + 20).toNat s.size) 32)) = true ∧ ¬ rdN (s.extract (p + 20).toNat s.size) 32 / ((2 ^ k.toNat : Nat) : Int) < 20)) : rdRice s p k = (0, 0, 8) := by
  unfold rdRice; rw [ho, if_pos rfl, if_neg h, if_neg h2]
theorem rd_20v (ho : onesF s p.toNat 20 = 20) (h : ¬ (s.size : Int) - (p + 20) < 32) (h2 : resid (unfoldI (rdN (s.extract (p + 20).toNat s.size) 32)) = true) (h3 : ¬ rdN (s.extract (p + 20).toNat s.size) 32 / ((2 ^ k.toNat : Nat) : Int) < 20) : rdRice s p k = (unfoldI (rdN (s.extract (p + 20).toNat s.size) 32), p + 20 + 32, 0) := by
  unfold rdRice; rw [ho, if_pos rfl, if_neg h, if_pos ⟨h2, h3⟩]
end
def riceR (n k : Int) : ByteArray × Int := if resid n = true ∧ inB k 0 12 = true then (riceB n k, 0) else (⟨#[]⟩, 2)
theorem riceR_eq {n k : Int} (h : -1000000000 ≤ n ∧ n ≤ 1000000000) (hk : 0 ≤ k ∧ k ≤ 12) : riceR n k = (riceB n k, 0) := if_pos ⟨resid_iff.2 h, inB_iff.2 hk⟩

theorem or_bit_all : ∀ x : Fin 256, ∀ r : Fin 8, ((x.val / 2 ^ (7 - r.val)) % 2 = 0 → bitsI .or .u8 (x.val : Int) ((128 : Int) / ((2 ^ r.val : Nat) : Int)) = (x.val : Int) + ((2 ^ (7 - r.val) : Nat) : Int)) := by decide +kernel
theorem or_bit {x : Int} (hx : 0 ≤ x ∧ x ≤ 255) {r : Nat} (hr : r < 8) (h : (x / ((2 ^ (7 - r) : Nat) : Int)) % 2 = 0) : bitsI .or .u8 x ((128 : Int) / ((2 ^ r : Nat) : Int)) = x + ((2 ^ (7 - r) : Nat) : Int) := by
  obtain ⟨n, rfl⟩ : ∃ n : Nat, x = (n : Int) := ⟨x.toNat, by omega⟩
  have h2 : (n / 2 ^ (7 - r)) % 2 = 0 := by
    have : (((n / 2 ^ (7 - r)) % 2 : Nat) : Int) = 0 := by rw [Int.natCast_emod, Int.natCast_ediv]; exact h
    omega
  exact or_bit_all ⟨n, by omega⟩ ⟨r, hr⟩ h2
/-- Bit i (from the left) of a byte. -/
def bitI (x : Int) (i : Nat) : Int := (x / ((2 ^ (7 - i) : Nat) : Int)) % 2
theorem bit_add_all : ∀ x : Fin 256, ∀ r i : Fin 8, (x.val / 2 ^ (7 - r.val)) % 2 = 0 → x.val + 2 ^ (7 - r.val) < 256 ∧ ((x.val + 2 ^ (7 - r.val)) / 2 ^ (7 - i.val)) % 2 = if i.val = r.val then 1 else (x.val / 2 ^ (7 - i.val)) % 2 := by decide +kernel
theorem bitI_nat (n i : Nat) : bitI (n : Int) i = (((n / 2 ^ (7 - i)) % 2 : Nat) : Int) := by unfold bitI; rw [Int.natCast_emod, Int.natCast_ediv]; rfl
theorem bit_add {x : Int} (hx : 0 ≤ x ∧ x ≤ 255) {r : Nat} (hr : r < 8) (h : bitI x r = 0) : (0 ≤ x + ((2 ^ (7 - r) : Nat) : Int) ∧ x + ((2 ^ (7 - r) : Nat) : Int) ≤ 255) ∧ ∀ i, i < 8 → bitI (x + ((2 ^ (7 - r) : Nat) : Int)) i = if i = r then 1 else bitI x i := by
  obtain ⟨n, rfl⟩ : ∃ n : Nat, x = (n : Int) := ⟨x.toNat, by omega⟩
  have h2 : (n / 2 ^ (7 - r)) % 2 = 0 := by rw [bitI_nat] at h; omega
  have q := bit_add_all ⟨n, by omega⟩ ⟨r, hr⟩
  have q0 := (q ⟨0, by omega⟩ h2).1
  simp only at q0
  have e3 : ((n + 2 ^ (7 - r) : Nat) : Int) = (n : Int) + ((2 ^ (7 - r) : Nat) : Int) := Int.natCast_add _ _
  refine ⟨by rw [← e3]; exact ⟨Int.natCast_nonneg _, Int.ofNat_le.2 (show n + 2 ^ (7 - r) ≤ 255 by omega)⟩, fun i hi => ?_⟩
  have q1 := (q ⟨i, hi⟩ h2).2
  simp only at q1
  rw [← e3, bitI_nat, bitI_nat, q1]
  split <;> rfl
/-- The bytes ys hold the first k bits of a string. -/
def pkOk (bits : ByteArray) (k : Nat) (ys : List Int) : Prop := ys.length = (bits.size + 7) / 8 ∧ ∀ j, j < ys.length → (0 ≤ at_ ys j ∧ at_ ys j ≤ 255) ∧ ∀ i, i < 8 → bitI (at_ ys j) i = if 8 * j + i < k ∧ bAt bits (8 * j + i) = 49 then 1 else 0
theorem pk_start {bits : ByteArray} {n : Nat} (hn : n = (bits.size + 7) / 8) : pkOk bits 0 (List.replicate n 0) := by
  refine ⟨by simp [hn], fun j hj => ?_⟩
  have e : at_ (List.replicate n (0 : Int)) j = 0 := by simp at hj; simp [at_, hj]
  rw [e]
  refine ⟨by omega, fun i hi => ?_⟩
  rw [if_neg (by omega)]
  unfold bitI; simp
theorem pk_no {bits : ByteArray} {k : Nat} {ys : List Int} (h : pkOk bits k ys) (hb : ¬ bAt bits k = 49) : pkOk bits (k + 1) ys := by
  refine ⟨h.1, fun j hj => ⟨(h.2 j hj).1, fun i hi => ?_⟩⟩
  rw [(h.2 j hj).2 i hi]
  by_cases e : 8 * j + i = k
  · rw [e, if_neg (fun q => hb q.2), if_neg (fun q => hb q.2)]
  · by_cases e2 : 8 * j + i < k
    · simp [e2, show 8 * j + i < k + 1 from by omega]
    · rw [if_neg (fun q => e2 q.1), if_neg (fun q => by omega)]
theorem pk_at {bits : ByteArray} {k : Nat} {ys : List Int} (h : pkOk bits k ys) (hk : k < bits.size) : k / 8 < ys.length ∧ (0 ≤ at_ ys (k / 8) ∧ at_ ys (k / 8) ≤ 255) ∧ bitI (at_ ys (k / 8)) (k % 8) = 0 := by
  have h1 : k / 8 < ys.length := by rw [h.1]; omega
  refine ⟨h1, (h.2 _ h1).1, ?_⟩
  rw [(h.2 _ h1).2 _ (by omega), if_neg (by omega)]
theorem pk_yes {bits : ByteArray} {k : Nat} {ys : List Int} {c : Int} (h : pkOk bits k ys) (hk : k < bits.size) (hb : bAt bits k = 49) (hc : c = at_ ys (k / 8) + ((2 ^ (7 - k % 8) : Nat) : Int)) : pkOk bits (k + 1) (ys.set (k / 8) c) := by
  have q := pk_at h hk
  have a := bit_add q.2.1 (by omega : k % 8 < 8) q.2.2
  rw [← hc] at a
  refine ⟨by rw [List.length_set]; exact h.1, fun j hj => ?_⟩
  rw [List.length_set] at hj
  by_cases e : j = k / 8
  · subst e
    have e1 : at_ (ys.set (k / 8) c) (k / 8) = c := by simp [at_, q.1]
    rw [e1]
    refine ⟨a.1, fun i hi => ?_⟩
    rw [a.2 i hi]
    by_cases e2 : i = k % 8
    · rw [if_pos e2, if_pos ⟨by omega, by rw [show 8 * (k / 8) + i = k from by omega]; exact hb⟩]
    · rw [if_neg e2, (h.2 _ hj).2 i hi]
      by_cases e3 : 8 * (k / 8) + i < k
      · simp [e3, show 8 * (k / 8) + i < k + 1 from by omega]
      · rw [if_neg (fun z => e3 z.1), if_neg (fun z => by omega)]
  · have e1 : at_ (ys.set (k / 8) c) j = at_ ys j := by simp [at_, List.getElem?_set, Ne.symm e]
    rw [e1]
    refine ⟨(h.2 j hj).1, fun i hi => ?_⟩
    rw [(h.2 j hj).2 i hi]
    by_cases e3 : 8 * j + i < k
    · simp [e3, show 8 * j + i < k + 1 from by omega]
    · rw [if_neg (fun z => e3 z.1), if_neg (fun z => by omega)]
/-- A string of bytes holds the bits. -/
def pkS_ (bits s : ByteArray) : Prop := s.size = (bits.size + 7) / 8 ∧ ∀ j, j < s.size → ∀ i, i < 8 → bitI (bAt s j) i = if 8 * j + i < bits.size ∧ bAt bits (8 * j + i) = 49 then 1 else 0
theorem pk_done {bits : ByteArray} {ys : List Int} (h : pkOk bits bits.size ys) : pkS_ bits (strB ys) := by
  refine ⟨by rw [strB_size]; exact h.1, fun j hj i hi => ?_⟩
  rw [strB_size] at hj
  rw [strB_at hj (h.2 j hj).1]
  exact (h.2 j hj).2 i hi
theorem at_memI {xs : List Int} {x : Int} (h : x ∈ xs) : ∃ i, i < xs.length ∧ at_ xs i = x := by
  obtain ⟨i, hi, e⟩ := List.getElem_of_mem h
  exact ⟨i, hi, by rw [at_eq hi]; exact e⟩
theorem pk_bytes {bits : ByteArray} {k : Nat} {ys : List Int} (h : pkOk bits k ys) : ∀ x ∈ ys, 0 ≤ x ∧ x ≤ 255 := fun x hx => by
  obtain ⟨j, hj, rfl⟩ := at_memI hx
  exact (h.2 j hj).1
/-- The bits of the first bytes. -/
def unpB (s : ByteArray) : Nat → ByteArray
  | 0 => ⟨#[]⟩
  | k + 1 => unpB s k ++ numB (bAt s k) 8
theorem unpB_size (s : ByteArray) : ∀ k, (unpB s k).size = 8 * k
  | 0 => rfl
  | k + 1 => by rw [unpB, ByteArray.size_append, unpB_size s k, numB_size]; omega
theorem unpB_at {s : ByteArray} : ∀ {k j i : Nat}, j < k → i < 8 → bAt (unpB s k) (8 * j + i) = 48 + bitI (bAt s j) i
  | 0, j, i, h, _ => absurd h (Nat.not_lt_zero _)
  | k + 1, j, i, h, hi => by
    rw [unpB]
    by_cases e : j < k
    · rw [bAt_left (by rw [unpB_size]; omega)]; exact unpB_at e hi
    · have : j = k := by omega
      subst this
      rw [bAt_right (by rw [unpB_size]; omega), unpB_size, show 8 * j + i - 8 * j = i from by omega, numB_at (by show i < 8; exact hi)]
      rfl
theorem unp_pack {bits s : ByteArray} (hb : okBits bits = true) (h : pkS_ bits s) : (unpB s s.size).size = 8 * ((bits.size + 7) / 8) ∧ ∀ j, j < bits.size → bAt (unpB s s.size) j = bAt bits j := by
  refine ⟨by rw [unpB_size, h.1], fun j hj => ?_⟩
  have h1 := unpB_at (s := s) (k := s.size) (j := j / 8) (i := j % 8) (by rw [h.1]; omega) (by omega)
  have h2 := h.2 (j / 8) (by rw [h.1]; omega) (j % 8) (by omega)
  rw [show 8 * (j / 8) + j % 8 = j from by omega] at h1 h2
  rw [h1, h2]
  rcases (okBits_iff.1 hb).2 j hj with e | e
  · rw [if_neg (by omega), e]; rfl
  · rw [if_pos ⟨hj, e⟩, e]; rfl
theorem bytes_eq {a b : ByteArray} (hs : a.size = b.size) (h : ∀ j, j < b.size → bAt a j = bAt b j) : a = b := by
  apply ByteArray.ext
  apply Array.ext
  · exact hs
  · intro i h1 h2
    have hi : i < b.size := h2
    have q := h i hi
    rw [bAt_get (by omega), bAt_get hi] at q
    have q2 : a.data.toList[i].toNat = b.data.toList[i].toNat := by omega
    simpa using UInt8.toNat_inj.1 q2
theorem bAt_ext0 {s : ByteArray} {n i : Nat} (h : i < n) (hn : n ≤ s.size) : bAt (s.extract 0 n) i = bAt s i := by
  rw [bAt_get (by rw [ByteArray.size_extract]; omega), bAt_get (by omega)]
  simp
theorem pre_eq {a b : ByteArray} (hs : b.size ≤ a.size) (h : ∀ j, j < b.size → bAt a j = bAt b j) : a.extract 0 b.size = b :=
  bytes_eq (by rw [ByteArray.size_extract]; omega) fun j hj => by rw [bAt_ext0 hj hs]; exact h j hj

/-- The bits of a Rice code. -/
def lenR (n k : Int) : Int := if foldI n / ((2 ^ k.toNat : Nat) : Int) < 20 then foldI n / ((2 ^ k.toNat : Nat) : Int) + 1 + k else 52
theorem lenR_bd {n k : Int} (hn : -1000000000 ≤ n ∧ n ≤ 1000000000) (hk : 0 ≤ k ∧ k ≤ 12) : 1 ≤ lenR n k ∧ lenR n k ≤ 52 := by
  have hf := fold_bd hn
  have hq : 0 ≤ foldI n / ((2 ^ k.toNat : Nat) : Int) := Int.ediv_nonneg hf.1 (Int.le_of_lt (p2 _))
  unfold lenR
  split <;> omega
def sumR (l : List Int) (k : Int) : Nat → Int
  | 0 => 0
  | m + 1 => sumR l k m + lenR (at_ l m) k
theorem sumR_bd {l : List Int} {k : Int} (hl : ∀ x ∈ l, -1000000000 ≤ x ∧ x ≤ 1000000000) (hk : 0 ≤ k ∧ k ≤ 12) : ∀ {m : Nat}, m ≤ l.length → (m : Int) ≤ sumR l k m ∧ sumR l k m ≤ 52 * (m : Int)
  | 0, _ => by simp [sumR]
  | m + 1, h => by
    have ih := sumR_bd hl hk (m := m) (by omega)
    have := lenR_bd (k := k) (hl _ (at_mem (xs := l) (i := m) (by omega))) hk
    rw [sumR]
    omega
/-- The best parameter below k, and its bits. -/
def brS (l : List Int) : Nat → Int × Int
  | 0 => (0, -1)
  | k + 1 => if (brS l k).2 < 0 ∨ sumR l k l.length < (brS l k).2 then ((k : Int), sumR l k l.length) else brS l k
theorem brS_first {l : List Int} (hl : ∀ x ∈ l, -1000000000 ≤ x ∧ x ≤ 1000000000) : ∀ {K : Nat}, K ≤ 12 → (0 ≤ (brS l (K + 1)).1 ∧ (brS l (K + 1)).1 ≤ (K : Int)) ∧ (brS l (K + 1)).2 = sumR l (brS l (K + 1)).1 l.length ∧ ∀ p : Int, 0 ≤ p → p ≤ (K : Int) → (brS l (K + 1)).2 ≤ sumR l p l.length ∧ (p < (brS l (K + 1)).1 → (brS l (K + 1)).2 < sumR l p l.length)
  | 0, _ => by
    have e : brS l (0 + 1) = (0, sumR l 0 l.length) := by rw [brS, brS]; rfl
    rw [e]
    refine ⟨by simp, rfl, fun p h1 h2 => ?_⟩
    have : p = 0 := by omega
    subst this
    exact ⟨Int.le_refl _, fun h => absurd h (by simp)⟩
  | K + 1, h => by
    have ih := brS_first hl (K := K) (by omega)
    have hs := sumR_bd (k := (brS l (K + 1)).1) hl (by omega) (Nat.le_refl _)
    have hn : ¬ (brS l (K + 1)).2 < 0 := by rw [ih.2.1]; omega
    by_cases c : sumR l ((K + 1 : Nat) : Int) l.length < (brS l (K + 1)).2
    · have e : brS l (K + 1 + 1) = (((K + 1 : Nat) : Int), sumR l ((K + 1 : Nat) : Int) l.length) := by rw [brS, if_pos (.inr c)]
      rw [e]
      refine ⟨by simp only; omega, rfl, fun p h1 h2 => ?_⟩
      by_cases q : p = ((K + 1 : Nat) : Int)
      · subst q; exact ⟨Int.le_refl _, fun h => absurd h (by simp)⟩
      · have := (ih.2.2 p h1 (by omega)).1
        exact ⟨by simp only; omega, fun _ => by simp only; omega⟩
    · have e : brS l (K + 1 + 1) = brS l (K + 1) := by rw [brS, if_neg (fun z => z.elim hn c)]
      rw [e]
      refine ⟨by omega, ih.2.1, fun p h1 h2 => ?_⟩
      by_cases q : p = ((K + 1 : Nat) : Int)
      · subst q; exact ⟨by omega, fun h => by omega⟩
      · exact ih.2.2 p h1 (by omega)
/-- What is expected behind the first numbers of a list. -/
def gsI (l : List Int) : Nat → Int
  | 0 => 0
  | 1 => at_ l 0
  | n + 2 => 2 * at_ l (n + 1) - at_ l n
def rsdL (l : List Int) : List Int := (List.range l.length).map fun i => at_ l i - gsI l i
theorem rsdL_len (l : List Int) : (rsdL l).length = l.length := by simp [rsdL]
theorem rsdL_at {l : List Int} {i : Nat} (h : i < l.length) : at_ (rsdL l) i = at_ l i - gsI l i := by simp [at_, rsdL, h]
def rsdN (l : List Int) (n : Nat) : List Int := (List.range n).map fun i => at_ l i - gsI l i
theorem rsdN_succ (l : List Int) (n : Nat) : rsdN l (n + 1) = rsdN l n ++ [at_ l n - gsI l n] := by simp [rsdN, List.range_succ]
theorem gsI_bd {l : List Int} {B : Int} (hB : 0 ≤ B) (hl : ∀ x ∈ l, -B ≤ x ∧ x ≤ B) : ∀ {i : Nat}, i ≤ l.length → -(3 * B) ≤ gsI l i ∧ gsI l i ≤ 3 * B
  | 0, _ => by simp only [gsI]; omega
  | 1, h => by
    have := hl _ (at_mem (xs := l) (i := 0) (by omega))
    simp only [gsI]; omega
  | n + 2, h => by
    have h1 := hl _ (at_mem (xs := l) (i := n) (by omega))
    have h2 := hl _ (at_mem (xs := l) (i := n + 1) (by omega))
    simp only [gsI]; omega
theorem rsdL_bd {l : List Int} {B : Int} (hB : 0 ≤ B) (hl : ∀ x ∈ l, -B ≤ x ∧ x ≤ B) : ∀ x ∈ rsdL l, -(4 * B) ≤ x ∧ x ≤ 4 * B := fun x hx => by
  obtain ⟨i, hi, e⟩ := List.getElem_of_mem hx
  have hi' : i < l.length := by rw [rsdL_len] at hi; exact hi
  have e2 : at_ (rsdL l) i = x := by rw [at_eq hi]; exact e
  rw [← e2, rsdL_at hi']
  have h1 := hl _ (at_mem hi')
  have h2 := gsI_bd hB hl (i := i) (by omega)
  omega

theorem numB_ok {n w : Int} (hw : w ≤ 40) : okBits (numB n w) = true := okBits_iff.2 ⟨by rw [numB_size]; omega, fun j hj => by rw [numB_at (by rw [numB_size] at hj; exact hj)]; omega⟩
theorem pow16 {w : Int} (h : 16 ≤ w ∧ w ≤ 40) : 65536 ≤ ((2 ^ w.toNat : Nat) : Int) ∧ ((2 ^ w.toNat : Nat) : Int) ≤ 1099511627776 :=
  ⟨Int.ofNat_le.2 (Nat.pow_le_pow_right (n := 2) (by decide) (by omega : 16 ≤ w.toNat)), Int.ofNat_le.2 (Nat.pow_le_pow_right (n := 2) (by decide) (by omega : w.toNat ≤ 40))⟩

-- impl.NumberBits
theorem NumberBits_ok (n : Int) (width : Int) (hn : 0 ≤ n ∧ n < 65536) (hw : 16 ≤ width ∧ width ≤ 40) : Con Tryd.prog 7 [I n, I width] true (.tup [Sv (numB n width), I 0]) := by
  have hpw := pow16 hw
  refine fn_ok (fn := Tryd.f7) (nt := 20) Tryd.func7 rfl rfl rfl rfl (by simp [taggedL, tagged]) fun B hB => ?_
  refine aR [] [0, 1] [] [I n, I width] [] [] hB trivial ?_
  refine aw_seq ?_
  refine aR [(1, .call [(true, .any), (true, .any), (true, .any)] true (Bv true)), (8, .call [(true, .any), (true, .any), (true, .any)] true (Bv true))] [0, 1, 16] [] [I n, I width, Bv false] [] [Con Tryd.prog 17 [I width, I 1, I 40] true (Bv true) ∧ True, (0 : Int) ≤ width ∧ width ≤ ((IntKind.bits .i64 : Nat) : Int) ∧ inR .i64 (1 * ((2 ^ width.toNat : Nat) : Int)), inR .i64 ((1 * ((2 ^ width.toNat : Nat) : Int)) - 1), Con Tryd.prog 17 [I n, I 0, I ((1 * ((2 ^ width.toNat : Nat) : Int)) - 1)] true (Bv true) ∧ True] hB ⟨⟨(con_bool (inB_iff.2 (by omega)) (within_ok width 1 40)), trivial⟩, ⟨(by omega), (show width ≤ (64 : Int) from by omega), (inR_i64 (by omega) (by omega))⟩, (inR_i64 (by omega) (by omega)), ⟨(con_bool (inB_iff.2 (by omega)) (within_ok n 0 ((1 * ((2 ^ width.toNat : Nat) : Int)) - 1))), trivial⟩, trivial⟩ ?_
  refine aw_false rfl ?_
  refine aw_skip ?_
  refine ae_then ?_
  refine aR [(2, .call [(true, .any), (true, .any)] true (Sv (numB n width)))] [4, 5] [] [Sv (numB n width), I 0] [] [Con Tryd.prog 18 [I n, I width] true (Sv (numB n width)) ∧ True] hB ⟨⟨(numberBits_ok n width (by omega) (by omega)), trivial⟩, trivial⟩ ?_
  refine aw_ret ?_
  refine ae_ret hB (.tup [Sv (numB n width), I 0]) (by kernel_rfl) (.inl rfl) rfl (fun _ => (by simp [tagged, taggedL]))


-- strings.Trim
theorem trim_ok (s t : ByteArray) (hs : s.size ≤ 9223372036854775807) (hcs : t.size < 4294967281) (ha : t.data.toList.all (fun b => decide (b.toNat < 128)) = true) : Con Tryd.prog 38 [Sv s, Sv t] true (Sv (trimB s t)) := by
  refine con_of_calls (vals := [.string s, .string t]) fun w _ => ?_
  refine (Any.strings_Trim_laid Tryd.lays160 (by kernel_rfl) s t w hs hcs (ascii_of_all ha)).mono ?_
  rintro e w' ⟨rfl, hb⟩
  exact ⟨rfl, hb⟩


-- impl.areBits
theorem areBits_ok (bits : ByteArray) (ok : bits.size ≤ 9223372036854775807) : Con Tryd.prog 19 [Sv bits] true (Bv (okBits bits)) := by
  refine fn_ok (fn := Tryd.f19) (nt := 11) Tryd.func19 rfl rfl rfl rfl (by simp [taggedL, tagged]) fun B hB => ?_
  refine aR [] [0] [] [Sv bits] [] [] hB trivial ?_
  refine aw_seq ?_
  by_cases h1 : (bits.size : Int) ≤ 100000
  ·refine aw_r [(2, .dec true), (5, .call [(true, .any), (true, .any)] true (Sv (trimB bits (⟨#[48, 49]⟩ : ByteArray))))] [2] [] [Bv (decide ((trimB bits (⟨#[48, 49]⟩ : ByteArray)) = (⟨#[]⟩ : ByteArray)))] [] [(bits.size : Int) ≤ 100000, Con Tryd.prog 38 [Sv bits, Sv (⟨#[48, 49]⟩ : ByteArray)] true (Sv (trimB bits (⟨#[48, 49]⟩ : ByteArray))) ∧ True] hB ⟨h1, ⟨(trim_ok bits (⟨#[48, 49]⟩ : ByteArray) ok (by decide) (by decide)), trivial⟩, trivial⟩ ?_
   refine ae_then ?_
   refine aw_ret ?_
   refine ae_ret hB (Bv (decide ((trimB bits (⟨#[48, 49]⟩ : ByteArray)) = (⟨#[]⟩ : ByteArray)))) (by kernel_rfl) (.inl (by refine congrArg Bv ?_; have ht := trim_all bits_has bits; rw [Bool.eq_iff_iff]; simp [okBits, ht, *]; try omega)) rfl (fun _ => trivial)
  refine aw_r [(2, .dec false)] [2] [] [Bv false] [] [¬ ((bits.size : Int) ≤ 100000)] hB ⟨h1, trivial⟩ ?_
  refine ae_then ?_
  refine aw_ret ?_
  refine ae_ret hB (Bv false) (by kernel_rfl) (.inl (by refine congrArg Bv ?_; have ht := trim_all bits_has bits; rw [Bool.eq_iff_iff]; simp [okBits, ht, *]; try omega)) rfl (fun _ => trivial)


-- impl.PackBits
theorem PackBits_ok (bits : ByteArray) (ok : okBits bits = true) : ∃ (v : ByteArray) (c : Int), (pkS_ bits v) ∧ (c = 0) ∧ Con Tryd.prog 8 [Sv bits] true (.tup [Sv v, I c]) := by
  have hsz := okBits_iff.1 ok
  have hh : ∃ r : ByteArray × Int, ((pkS_ bits r.1) ∧ (r.2 = 0) ∧ (True)) ∧ CallOK Tryd.prog 8 [Sv bits] (lookO []) true (.tup [Sv r.1, I r.2]) (lookO []) := by
    refine fn_okX (Φ := fun r : ByteArray × Int => (pkS_ bits r.1) ∧ (r.2 = 0) ∧ (True)) [] (fun r => []) (fn := Tryd.f8) (nt := 35) Tryd.func8 rfl rfl (args := [Sv bits]) rfl (allcons (.inl ⟨rfl, trivial⟩) allnil) (res := fun r => .tup [Sv r.1, I r.2]) ?_
    refine xR [] [0] [] [Sv bits] [] [] trivial ?_
    refine x_seq ?_
    refine xR [(1, .call [(true, .any)] true (Bv true))] [0, 8] [] [Sv bits, Bv false] [] [Con Tryd.prog 19 [Sv bits] true (Bv true) ∧ True] ⟨⟨(con_bool ok (areBits_ok bits (by omega))), trivial⟩, trivial⟩ ?_
    refine x_false rfl ?_
    refine x_skip ?_
    refine xe_then ?_
    refine xR [(3, .nn), (4, .new 13)] [0, 4] [13] [Sv bits, .arr 13] [some (.arr 1 ((((bits.size : Int) + 7) / 8).toNat) (fun _ => [.val (.int .u8 0)]))] [inR .i64 ((bits.size : Int) + 7), (0 : Int) ≤ ((bits.size : Int) + 7) ∧ (0 : Int) < 8 ∧ inR .i64 ((bits.size : Int) + 7), (0 : Int) ≤ (((bits.size : Int) + 7) / 8) ∧ ((((bits.size : Int) + 7) / 8) : Int) ≤ (((bits.size : Int) + 7) / 8) ∧ (1 : Int) * (((bits.size : Int) + 7) / 8) ≤ 281474976710656 ∧ (((bits.size : Int) + 7) / 8) ≤ 9223372036854775807] ⟨(inR_i64 (by omega) (by omega)), ⟨(by omega), (by omega), (inR_i64 (by omega) (by omega))⟩, ⟨(by omega), (by omega), (by omega), (by omega)⟩, trivial⟩ ?_
    refine x_seq ?_
    refine xR [(1, .new 15)] [0, 4, 15] [13, 15] [Sv bits, .arr 13, .ref 15 0] [some (.arr 1 ((((bits.size : Int) + 7) / 8).toNat) (fun _ => [.val (.int .u8 0)])), some (.sit bits (0 : Nat))] [] trivial ?_
    refine x_block ?_
    refine x_weak [] (T := [(0, Sv bits), (4, .arr 13), (15, .ref 15 0)]) (O := [(13, tAU8 (List.replicate ((((bits.size : Int) + 7) / 8).toNat) 0)), (15, .sit bits (0 : Nat))]) rfl (⟨.inl rfl, .inl rfl, .inl rfl, trivial⟩) (⟨.inr ⟨rfl, (by first | rfl | (simp; done) | (simp; omega) | omega), fun i_ hi_ => .inl (const_enc (enc := cU8) rfl i_ hi_)⟩, .inl rfl, trivial⟩) ?_
    refine x_loop (X := Nat × (List Int)) (fun x => mkS [(0, Sv bits), (4, .arr 13), (15, .ref 15 0)] [(13, tAU8 x.2), (15, .sit bits x.1)]) (fun x => (x.1 ≤ bits.size) ∧ (pkOk bits x.1 x.2) ∧ True) (fun x => bits.size - x.1) ((0 : Nat), (List.replicate ((((bits.size : Int) + 7) / 8).toNat) 0)) rfl (show ((0 : Nat) ≤ bits.size) ∧ (pkOk bits (0 : Nat) (List.replicate ((((bits.size : Int) + 7) / 8).toNat) 0)) ∧ True from ⟨(by omega), (by exact pk_start (by omega)), trivial⟩) (fun x hI => ?_)
    obtain ⟨kk, ys⟩ := x
    obtain ⟨hq0, hpk, _⟩ : (kk ≤ bits.size) ∧ (pkOk bits kk ys) ∧ True := hI
    show XW _ _ _ _ (mkS [(0, Sv bits), (4, .arr 13), (15, .ref 15 0)] [(13, tAU8 ys), (15, .sit bits kk)]) _ _
    refine x_seq ?_
    by_cases h1 : kk < bits.size
    ·have hi : kk < bits.size := h1
     have hpa := pk_at hpk hi
     have hbq := hsz.2 kk hi
     refine x_r [(0, .dec true)] [0, 4, 15, 16, 17] [13, 15] [Sv bits, .arr 13, .ref 15 0, .tup [Bv true, I ((kk : Nat) : Int), .val (.int .i32 (bAt bits kk))], Bv true] [some (tAU8 ys), some (.sit bits (kk + 1))] [kk < bits.size ∧ bAt bits kk < 128] ⟨⟨h1, (by omega)⟩, trivial⟩ ?_
     refine xe_then ?_
     refine x_seq ?_
     refine x_true rfl ?_
     refine x_skip ?_
     refine xe_then ?_
     refine x_block ?_
     refine xR [] [0, 4, 5, 15] [13, 15] [Sv bits, .arr 13, I ((kk : Nat) : Int), .ref 15 0] [some (tAU8 ys), some (.sit bits (kk + 1))] [] trivial ?_
     refine x_seq ?_
     by_cases h2 : (bAt bits ((kk : Nat) : Int).toNat) = 49
     ·have hq8 : (((kk : Nat) : Int) / 8).toNat = kk / 8 := by omega
      have hq9 : (((kk : Nat) : Int) % 8).toNat = kk % 8 := by omega
      have hor := or_bit hpa.2.1 (by omega : kk % 8 < 8) hpa.2.2
      have hlen := hpk.1
      have hp8 : 0 ≤ (128 : Int) / ((2 ^ (kk % 8) : Nat) : Int) ∧ (128 : Int) / ((2 ^ (kk % 8) : Nat) : Int) ≤ 128 := quo_bd (by decide) (p2 _)
      refine x_r [(3, .dec true)] [0, 4, 5, 15, 22] [13, 15] [Sv bits, .arr 13, I ((kk : Nat) : Int), .ref 15 0, Bv true] [some (tAU8 ys), some (.sit bits (kk + 1))] [(0 : Int) ≤ ((kk : Nat) : Int) ∧ ((kk : Nat) : Int) < (bits.size : Int), (bAt bits ((kk : Nat) : Int).toNat) = 49] ⟨⟨(by omega), (by omega)⟩, h2, trivial⟩ ?_
      refine xe_then ?_
      refine x_true rfl ?_
      refine x_r [(2, .nn), (6, .nn)] [0, 4, 15] [13, 15] [Sv bits, .arr 13, .ref 15 0] [some (.arr 1 ys.length (fun q => bif Nat.beq q ((((kk : Nat) : Int) / 8).toNat) then [.val (.int .u8 (bitsI .or .u8 (at_ ys ((((kk : Nat) : Int) / 8).toNat)) (128 / ((2 ^ (((kk : Nat) : Int) % 8).toNat : Nat) : Int))))] else (fU8 ys) q)), some (.sit bits (kk + 1))] [(0 : Int) ≤ ((kk : Nat) : Int) ∧ (0 : Int) < 8 ∧ inR .i64 ((kk : Nat) : Int), (0 : Int) ≤ (((kk : Nat) : Int) / 8) ∧ (((kk : Nat) : Int) / 8) < (ys.length : Int), (((kk : Nat) : Int) / 8).toNat < ys.length, (0 : Int) ≤ ((kk : Nat) : Int) ∧ (0 : Int) < 8, (0 : Int) ≤ (((kk : Nat) : Int) % 8) ∧ (((kk : Nat) : Int) % 8) ≤ ((IntKind.bits .u8 : Nat) : Int), (0 : Int) ≤ (((kk : Nat) : Int) / 8) ∧ (((kk : Nat) : Int) / 8) < (ys.length : Int), (((kk : Nat) : Int) / 8).toNat < ys.length] ⟨⟨(by omega), (by omega), (inR_i64 (by omega) (by omega))⟩, ⟨(by omega), (by omega)⟩, (by omega), ⟨(by omega), (by omega)⟩, ⟨(by omega), (show (((kk : Nat) : Int) % 8) ≤ (8 : Int) from by omega)⟩, ⟨(by omega), (by omega)⟩, (by omega), trivial⟩ ?_
      refine xe_block 1 ?_
      refine xe_weak [] (T := [(0, Sv bits), (4, .arr 13), (15, .ref 15 0)]) (O := [(13, tAU8 (ys.set ((((kk : Nat) : Int) / 8).toNat) (bitsI .or .u8 (at_ ys ((((kk : Nat) : Int) / 8).toNat)) (128 / ((2 ^ (((kk : Nat) : Int) % 8).toNat : Nat) : Int))))), (15, .sit bits (kk + 1))]) rfl (⟨.inl rfl, .inl rfl, .inl rfl, trivial⟩) (⟨.inr ⟨rfl, (by first | rfl | (simp; done) | (simp; omega) | omega), fun i_ hi_ => .inl (upd_enc (enc := cU8) rfl i_ hi_)⟩, .inl rfl, trivial⟩) (xe_again ((kk + 1), (ys.set ((((kk : Nat) : Int) / 8).toNat) (bitsI .or .u8 (at_ ys ((((kk : Nat) : Int) / 8).toNat)) (128 / ((2 ^ (((kk : Nat) : Int) % 8).toNat : Nat) : Int))))) rfl (show ((kk + 1) ≤ bits.size) ∧ (pkOk bits (kk + 1) (ys.set ((((kk : Nat) : Int) / 8).toNat) (bitsI .or .u8 (at_ ys ((((kk : Nat) : Int) / 8).toNat)) (128 / ((2 ^ (((kk : Nat) : Int) % 8).toNat : Nat) : Int))))) ∧ True from ⟨(by omega), (by first | exact pk_no hpk (by assumption) | (rw [hq8, hq9, hor]; exact pk_yes hpk hi (by assumption) rfl)), trivial⟩) (by first | (show (bits.size - (kk + 1) : Nat) < bits.size - kk; omega) | (dsimp only; omega)))
     refine x_r [(3, .dec false)] [0, 4, 5, 15, 22] [13, 15] [Sv bits, .arr 13, I ((kk : Nat) : Int), .ref 15 0, Bv false] [some (tAU8 ys), some (.sit bits (kk + 1))] [(0 : Int) ≤ ((kk : Nat) : Int) ∧ ((kk : Nat) : Int) < (bits.size : Int), ¬ ((bAt bits ((kk : Nat) : Int).toNat) = 49)] ⟨⟨(by omega), (by omega)⟩, h2, trivial⟩ ?_
     refine xe_then ?_
     refine x_false rfl ?_
     refine x_skip ?_
     refine xe_block 1 ?_
     refine xe_weak [] (T := [(0, Sv bits), (4, .arr 13), (15, .ref 15 0)]) (O := [(13, tAU8 ys), (15, .sit bits (kk + 1))]) rfl (⟨.inl rfl, .inl rfl, .inl rfl, trivial⟩) (⟨.inl rfl, .inl rfl, trivial⟩) (xe_again ((kk + 1), ys) rfl (show ((kk + 1) ≤ bits.size) ∧ (pkOk bits (kk + 1) ys) ∧ True from ⟨(by omega), (by first | exact pk_no hpk (by assumption) | (rw [hq8, hq9, hor]; exact pk_yes hpk hi (by assumption) rfl)), trivial⟩) (by first | (show (bits.size - (kk + 1) : Nat) < bits.size - kk; omega) | (dsimp only; omega)))
    have hqe : kk = bits.size := by omega
    rw [hqe] at hpk
    refine x_r [(0, .dec false)] [0, 4, 15, 16, 17] [13, 15] [Sv bits, .arr 13, .ref 15 0, .tup [Bv false], Bv false] [some (tAU8 ys), some (.sit bits kk)] [¬ (kk < bits.size)] ⟨h1, trivial⟩ ?_
    refine xe_then ?_
    refine x_seq ?_
    refine x_false rfl ?_
    refine x_exit ?_
    refine xe_exit_then ?_
    refine xe_loop_exit ?_
    refine xe_exit_same ?_
    refine xe_then ?_
    refine xR [(1, .as (Sv (strB ys)))] [2, 3] [] [Sv (strB ys), I 0] [] [(strB ys).size = ys.length ∧ ∀ i_, i_ < ys.length → (fU8 ys) i_ = byteF (strB ys) i_] ⟨(strB_ok (pk_bytes hpk)), trivial⟩ ?_
    refine x_ret ?_
    refine xe_end ((strB ys), 0) (show (pkS_ bits (strB ys)) ∧ (0 = 0) ∧ (True) from ⟨(by first | exact pk_done hpk | rfl), (by first | exact pk_done hpk | rfl), trivial⟩) (trivial) (.tup [Sv (strB ys), I 0]) (by kernel_rfl) (.inl rfl) (fun _ => rfl) (fun _ => (by simp [tagged, taggedL]))
  obtain ⟨⟨v, c⟩, ⟨hh0, hh1, _⟩, hc⟩ := hh
  exact ⟨v, c, hh0, hh1, hc⟩


-- impl.UnpackBits
theorem UnpackBits_ok (s : ByteArray) (hs : s.size ≤ 12500) : ∃ (v : ByteArray) (c : Int), (v = unpB s s.size) ∧ (c = 0) ∧ Con Tryd.prog 9 [Sv s] true (.tup [Sv v, I c]) := by
  have hh : ∃ r : ByteArray × Int, ((r.1 = unpB s s.size) ∧ (r.2 = 0) ∧ (True)) ∧ CallOK Tryd.prog 9 [Sv s] (lookO []) true (.tup [Sv r.1, I r.2]) (lookO []) := by
    refine fn_okX (Φ := fun r : ByteArray × Int => (r.1 = unpB s s.size) ∧ (r.2 = 0) ∧ (True)) [] (fun r => []) (fn := Tryd.f9) (nt := 23) Tryd.func9 rfl rfl (args := [Sv s]) rfl (allcons (.inl ⟨rfl, trivial⟩) allnil) (res := fun r => .tup [Sv r.1, I r.2]) ?_
    refine xR [] [0] [] [Sv s] [] [] trivial ?_
    refine x_seq ?_
    refine xR [(2, .dec false)] [0, 9] [] [Sv s, Bv false] [] [¬ (12500 < (s.size : Int))] ⟨(by omega), trivial⟩ ?_
    refine x_false rfl ?_
    refine x_skip ?_
    refine xe_then ?_
    refine xR [(0, .newb 4 60008 5)] [0, 4] [4, 60008] [Sv s, .ref 4 0] [some (.bld 46 60008), some (.buf 5 (⟨#[]⟩ : ByteArray))] [] trivial ?_
    refine x_seq ?_
    refine xR [] [4, 11, 12, 13] [4, 60008] [.ref 4 0, .sl true 1 s.size (byteF s), I (s.size : Int), I 0] [some (.bld 46 60008), some (.buf 5 (⟨#[]⟩ : ByteArray))] [s.size ≤ 140737488355328] ⟨(by omega), trivial⟩ ?_
    refine x_block ?_
    refine x_loop (X := Int × ByteArray) (fun x => mkS [(4, .ref 4 0), (11, .sl true 1 s.size (byteF s)), (12, I (s.size : Int)), (13, I x.1)] [(4, .bld 46 60008), (60008, .buf 5 x.2)]) (fun x => (0 ≤ x.1 ∧ x.1 ≤ (s.size : Int)) ∧ (x.2 = unpB s x.1.toNat) ∧ True) (fun x => ((s.size : Int) - x.1).toNat) (0, (⟨#[]⟩ : ByteArray)) rfl (show (0 ≤ (0 : Int) ∧ (0 : Int) ≤ (s.size : Int)) ∧ ((⟨#[]⟩ : ByteArray) = unpB s (0 : Int).toNat) ∧ True from ⟨(by omega), (by rfl), trivial⟩) (fun x hI => ?_)
    obtain ⟨k, tx⟩ := x
    obtain ⟨hi0, htx, _⟩ : (0 ≤ k ∧ k ≤ (s.size : Int)) ∧ (tx = unpB s k.toNat) ∧ True := hI
    show XW _ _ _ _ (mkS [(4, .ref 4 0), (11, .sl true 1 s.size (byteF s)), (12, I (s.size : Int)), (13, I k)] [(4, .bld 46 60008), (60008, .buf 5 tx)]) _ _
    refine x_seq ?_
    by_cases h1 : k < (s.size : Int)
    ·have hi : k.toNat < s.size := by omega
     have hbb := bAt_bd s k.toNat
     have hus := unpB_size s k.toNat
     have hns := numB_size (bAt s k.toNat) 8
     rw [← htx] at hus
     refine x_r [(0, .dec true)] [4, 11, 12, 13, 14] [4, 60008] [.ref 4 0, .sl true 1 s.size (byteF s), I (s.size : Int), I k, Bv true] [some (.bld 46 60008), some (.buf 5 tx)] [k < (s.size : Int)] ⟨h1, trivial⟩ ?_
     refine xe_then ?_
     refine x_seq ?_
     refine x_true rfl ?_
     refine x_skip ?_
     refine xe_then ?_
     refine x_seq ?_
     refine x_block ?_
     refine xR [] [4, 6, 11, 12, 13] [4, 60008] [.ref 4 0, .val (.int .u8 (bAt s k.toNat)), .sl true 1 s.size (byteF s), I (s.size : Int), I k] [some (.bld 46 60008), some (.buf 5 tx)] [(0 : Int) ≤ k ∧ k < (s.size : Int)] ⟨⟨(by omega), (by omega)⟩, trivial⟩ ?_
     refine x_r [(2, .call [(true, .any), (true, .any)] true (Sv (numB (bAt s k.toNat) 8))), (3, .bw 4 60008 60009 (numB (bAt s k.toNat) 8))] [4, 11, 12, 13] [4, 60009] [.ref 4 0, .sl true 1 s.size (byteF s), I (s.size : Int), I k] [some (.bld 46 60009), some (.buf 5 (tx ++ (numB (bAt s k.toNat) 8)))] [inR .i64 (bAt s k.toNat), Con Tryd.prog 18 [I (bAt s k.toNat), I 8] true (Sv (numB (bAt s k.toNat) 8)) ∧ True, ([.ref 4 0, Sv (numB (bAt s k.toNat) 8)] : List AV) = [.ref 4 0, Sv (numB (bAt s k.toNat) 8)] ∧ BwOK Tryd.prog 20 46 5 ∧ tx.size + (numB (bAt s k.toNat) 8).size ≤ 140737488355328] ⟨(inR_i64 (by omega) (by omega)), ⟨(numberBits_ok (bAt s k.toNat) 8 (by omega) (by omega)), trivial⟩, ⟨rfl, bw_ok, (by omega)⟩, trivial⟩ ?_
     refine xe_block 1 ?_
     refine xe_then ?_
     refine x_r [] [4, 11, 12, 13] [4, 60009] [.ref 4 0, .sl true 1 s.size (byteF s), I (s.size : Int), I (k + 1)] [some (.bld 46 60009), some (.buf 5 (tx ++ (numB (bAt s k.toNat) 8)))] [inR .i64 (k + 1)] ⟨(inR_i64 (by omega) (by omega)), trivial⟩ ?_
     refine xe_weak [(60008, 60009)] (T := [(4, .ref 4 0), (11, .sl true 1 s.size (byteF s)), (12, I (s.size : Int)), (13, I (k + 1))]) (O := [(4, .bld 46 60008), (60008, .buf 5 (tx ++ (numB (bAt s k.toNat) 8)))]) rfl (⟨.inl rfl, .inl rfl, .inl rfl, .inl rfl, trivial⟩) (⟨.inl rfl, .inl rfl, trivial⟩) (xe_again ((k + 1), (tx ++ (numB (bAt s k.toNat) 8))) rfl (show (0 ≤ (k + 1) ∧ (k + 1) ≤ (s.size : Int)) ∧ ((tx ++ (numB (bAt s k.toNat) 8)) = unpB s (k + 1).toNat) ∧ True from ⟨(by omega), (by rw [show (k + 1).toNat = k.toNat + 1 from by omega, unpB, ← htx]), trivial⟩) (by first | (show (((s.size : Int) - (k + 1)).toNat : Nat) < ((s.size : Int) - k).toNat; omega) | (dsimp only; omega)))
    have hie : k.toNat = s.size := by omega
    rw [hie] at htx
    refine x_r [(0, .dec false)] [4, 11, 12, 13, 14] [4, 60008] [.ref 4 0, .sl true 1 s.size (byteF s), I (s.size : Int), I k, Bv false] [some (.bld 46 60008), some (.buf 5 tx)] [¬ (k < (s.size : Int))] ⟨h1, trivial⟩ ?_
    refine xe_then ?_
    refine x_seq ?_
    refine x_false rfl ?_
    refine x_exit ?_
    refine xe_exit_then ?_
    refine xe_loop_exit ?_
    refine xe_exit_same ?_
    refine xe_then ?_
    refine xR [(0, .bs 4 60008)] [2, 3] [] [Sv tx, I 0] [] [([.ref 4 0] : List AV) = [.ref 4 0] ∧ BsOK Tryd.prog 21 46 5] ⟨⟨rfl, bs_ok⟩, trivial⟩ ?_
    refine x_ret ?_
    refine xe_end (tx, 0) (show (tx = unpB s s.size) ∧ (0 = 0) ∧ (True) from ⟨(by first | exact htx | rfl), (by first | exact htx | rfl), trivial⟩) (trivial) (.tup [Sv tx, I 0]) (by kernel_rfl) (.inl rfl) (fun _ => rfl) (fun _ => (by simp [tagged, taggedL]))
  obtain ⟨⟨v, c⟩, ⟨hh0, hh1, _⟩, hc⟩ := hh
  exact ⟨v, c, hh0, hh1, hc⟩


/-- The source of choices is in order: its bytes are bytes, and its place is a number. -/
def okSrc (s : l00Src) : Prop := (∀ j, j < s.code.length → 0 ≤ at_ s.code j ∧ at_ s.code j ≤ 255) ∧ 0 ≤ s.atx ∧ s.code.length ≤ 4611686018427387904
theorem u64_wrap (n : Int) : 0 ≤ IntKind.u64.wrap n ∧ IntKind.u64.wrap n ≤ 18446744073709551615 := by
  simp only [IntKind.wrap, IntKind.signed, IntKind.bits]
  simp
  omega
theorem and_255 (a : Int) : 0 ≤ bitsI .and .u64 a 255 ∧ bitsI .and .u64 a 255 ≤ 255 := by
  obtain ⟨n, hn⟩ : ∃ n : Nat, n = (BitVec.ofInt 64 a &&& BitVec.ofInt 64 255).toNat := ⟨_, rfl⟩
  have h : n ≤ 255 := by rw [hn, BitVec.toNat_and]; exact Nat.and_le_right
  have e : bitsI .and .u64 a 255 = IntKind.u64.wrap (n : Int) := by rw [hn]; rfl
  have w : IntKind.u64.wrap (n : Int) = n := wrap_in (inR_u64 (by omega) (by omega))
  rw [e, w]; omega

-- spec.l00From
theorem l00From_ok (code : List Int) : ∃ (s' : l00Src), (s'.code = code ∧ s'.atx = 0) ∧ CallOK Tryd.prog 24 [slU8 false code] (lookO []) false (.ref 7001 0) (lookO [(7001, bxl00Src s')]) := by
  have hh : ∃ r : l00Src, ((r.code = code ∧ r.atx = 0) ∧ (True)) ∧ CallOK Tryd.prog 24 [slU8 false code] (lookO []) false (.ref 7001 0) (lookO [(7001, bxl00Src r)]) := by
    refine fn_okX (Φ := fun r : l00Src => (r.code = code ∧ r.atx = 0) ∧ (True)) [] (fun r => [(7001, bxl00Src r)]) (fn := Tryd.f24) (nt := 6) Tryd.func24 rfl rfl (args := [slU8 false code]) rfl (allcons (.inl ⟨rfl, tagU8 false _⟩) allnil) (res := fun r => .ref 7001 0) ?_
    refine xR [] [0] [] [slU8 false code] [] [] trivial ?_
    refine xR [(2, .new 7001)] [2] [7001] [.ref 7001 0] [some (.box [slU8 false code, I 0, .val (.int .u64 0)])] [] trivial ?_
    refine x_ret ?_
    refine xe_end (l00Src.mk code 0 0) (show ((l00Src.mk code 0 0).code = code ∧ (l00Src.mk code 0 0).atx = 0) ∧ (True) from ⟨(by first | rfl | (exact ⟨rfl, rfl⟩)), trivial⟩) (⟨.inl rfl, trivial⟩) (.ref 7001 0) (by kernel_rfl) (.inl rfl) (fun h => by cases h) (fun h => by cases h)
  obtain ⟨s', ⟨hh0, _⟩, hc⟩ := hh
  exact ⟨s', hh0, hc⟩


-- spec.l00Src).next
theorem next_ok (s : l00Src) (hs : okSrc s) (ha : s.atx ≤ 4000000000000000000) : ∃ (v : Int) (s' : l00Src), (0 ≤ v ∧ v ≤ 255) ∧ (okSrc s') ∧ (s'.code = s.code) ∧ (s.atx + 1 ≤ s'.atx ∧ s'.atx ≤ s.atx + 1) ∧ CallOK Tryd.prog 42 [.ref 7001 0] (lookO [(7001, bxl00Src s)]) true (I v) (lookO [(7001, bxl00Src s')]) := by
  have hs0 := hs.2.1
  have hs1 := hs.2.2
  have hh : ∃ r : Int × l00Src, ((0 ≤ r.1 ∧ r.1 ≤ 255) ∧ (okSrc r.2) ∧ (r.2.code = s.code) ∧ (s.atx + 1 ≤ r.2.atx ∧ r.2.atx ≤ s.atx + 1) ∧ (True)) ∧ CallOK Tryd.prog 42 [.ref 7001 0] (lookO [(7001, bxl00Src s)]) true (I r.1) (lookO [(7001, bxl00Src r.2)]) := by
    refine fn_okX (Φ := fun r : Int × l00Src => (0 ≤ r.1 ∧ r.1 ≤ 255) ∧ (okSrc r.2) ∧ (r.2.code = s.code) ∧ (s.atx + 1 ≤ r.2.atx ∧ r.2.atx ≤ s.atx + 1) ∧ (True)) [(7001, bxl00Src s)] (fun r => [(7001, bxl00Src r.2)]) (fn := Tryd.f42) (nt := 62) Tryd.func42 rfl rfl (args := [.ref 7001 0]) rfl (allcons (.inr trivial) allnil) (res := fun r => I r.1) ?_
    refine xR [] [0] [7001] [.ref 7001 0] [some (bxl00Src s)] [] trivial ?_
    refine xR [] [0, 3] [7001] [.ref 7001 0, I 0] [some (bxl00Src s)] [] trivial ?_
    refine x_seq ?_
    refine x_seq ?_
    by_cases h1 : s.atx < (s.code.length : Int)
    ·have hbt := hs.1 s.atx.toNat (by omega)
     refine x_r [(9, .dec true)] [0, 3, 13] [7001] [.ref 7001 0, I 0, Bv true] [some (bxl00Src s)] [s.atx < (s.code.length : Int)] ⟨h1, trivial⟩ ?_
     refine xe_then ?_
     refine x_true rfl ?_
     refine x_r [] [0, 3] [7001] [.ref 7001 0, I (at_ s.code s.atx.toNat)] [some (bxl00Src s)] [(0 : Int) ≤ s.atx ∧ s.atx < (s.code.length : Int), inR .i64 (at_ s.code s.atx.toNat)] ⟨⟨(by omega), (by omega)⟩, (inR_i64 (by omega) (by omega)), trivial⟩ ?_
     refine xe_then ?_
     refine xR [] [0, 3] [7001] [.ref 7001 0, I (at_ s.code s.atx.toNat)] [some (.box [slU8 false s.code, I (s.atx + 1), .val (.int .u64 s.seed)])] [inR .i64 (s.atx + 1)] ⟨(inR_i64 (by omega) (by omega)), trivial⟩ ?_
     refine xR [(5, .wrap), (8, .wrap), (9, .wrap)] [0, 3] [7001] [.ref 7001 0, I (at_ s.code s.atx.toNat)] [some (.box [slU8 false s.code, I (s.atx + 1), .val (.int .u64 (IntKind.u64.wrap ((IntKind.u64.wrap ((IntKind.u64.wrap (s.seed * 6364136223846793005)) + (at_ s.code s.atx.toNat))) + 1442695040888963407)))])] [inR .u64 (at_ s.code s.atx.toNat)] ⟨(inR_u64 (by omega) (by omega)), trivial⟩ ?_
     refine x_seq ?_
     refine x_seq ?_
     by_cases h2 : (s.atx + 1) ≤ (s.code.length : Int)
     ·refine x_r [(9, .dec true)] [0, 3, 53] [7001] [.ref 7001 0, I (at_ s.code s.atx.toNat), Bv true] [some (.box [slU8 false s.code, I (s.atx + 1), .val (.int .u64 (IntKind.u64.wrap ((IntKind.u64.wrap ((IntKind.u64.wrap (s.seed * 6364136223846793005)) + (at_ s.code s.atx.toNat))) + 1442695040888963407)))])] [(s.atx + 1) ≤ (s.code.length : Int)] ⟨h2, trivial⟩ ?_
      refine xe_then ?_
      refine x_true rfl ?_
      refine xR [] [2] [7001] [I (at_ s.code s.atx.toNat)] [some (.box [slU8 false s.code, I (s.atx + 1), .val (.int .u64 (IntKind.u64.wrap ((IntKind.u64.wrap ((IntKind.u64.wrap (s.seed * 6364136223846793005)) + (at_ s.code s.atx.toNat))) + 1442695040888963407)))])] [] trivial ?_
      refine x_ret ?_
      refine xe_ret_then ?_
      refine xe_end ((at_ s.code s.atx.toNat), (l00Src.mk s.code (s.atx + 1) (IntKind.u64.wrap ((IntKind.u64.wrap ((IntKind.u64.wrap (s.seed * 6364136223846793005)) + (at_ s.code s.atx.toNat))) + 1442695040888963407)))) (show (0 ≤ (at_ s.code s.atx.toNat) ∧ (at_ s.code s.atx.toNat) ≤ 255) ∧ (okSrc (l00Src.mk s.code (s.atx + 1) (IntKind.u64.wrap ((IntKind.u64.wrap ((IntKind.u64.wrap (s.seed * 6364136223846793005)) + (at_ s.code s.atx.toNat))) + 1442695040888963407)))) ∧ ((l00Src.mk s.code (s.atx + 1) (IntKind.u64.wrap ((IntKind.u64.wrap ((IntKind.u64.wrap (s.seed * 6364136223846793005)) + (at_ s.code s.atx.toNat))) + 1442695040888963407))).code = s.code) ∧ (s.atx + 1 ≤ (l00Src.mk s.code (s.atx + 1) (IntKind.u64.wrap ((IntKind.u64.wrap ((IntKind.u64.wrap (s.seed * 6364136223846793005)) + (at_ s.code s.atx.toNat))) + 1442695040888963407))).atx ∧ (l00Src.mk s.code (s.atx + 1) (IntKind.u64.wrap ((IntKind.u64.wrap ((IntKind.u64.wrap (s.seed * 6364136223846793005)) + (at_ s.code s.atx.toNat))) + 1442695040888963407))).atx ≤ s.atx + 1) ∧ (True) from ⟨(by first | omega | rfl | assumption | (dsimp only; first | omega | rfl | assumption) | (simp only [*]; done) | exact ⟨hs.1, (by dsimp only; omega), hs1⟩), (by first | omega | rfl | assumption | (dsimp only; first | omega | rfl | assumption) | (simp only [*]; done) | exact ⟨hs.1, (by dsimp only; omega), hs1⟩), (by first | omega | rfl | assumption | (dsimp only; first | omega | rfl | assumption) | (simp only [*]; done) | exact ⟨hs.1, (by dsimp only; omega), hs1⟩), (by first | omega | rfl | assumption | (dsimp only; first | omega | rfl | assumption) | (simp only [*]; done) | exact ⟨hs.1, (by dsimp only; omega), hs1⟩), trivial⟩) (⟨.inl rfl, trivial⟩) (I (at_ s.code s.atx.toNat)) (by kernel_rfl) (.inl rfl) (fun _ => rfl) (fun _ => trivial)
     refine x_r [(9, .dec false)] [0, 3, 53] [7001] [.ref 7001 0, I (at_ s.code s.atx.toNat), Bv false] [some (.box [slU8 false s.code, I (s.atx + 1), .val (.int .u64 (IntKind.u64.wrap ((IntKind.u64.wrap ((IntKind.u64.wrap (s.seed * 6364136223846793005)) + (at_ s.code s.atx.toNat))) + 1442695040888963407)))])] [¬ ((s.atx + 1) ≤ (s.code.length : Int))] ⟨h2, trivial⟩ ?_
     refine xe_then ?_
     refine x_false rfl ?_
     refine x_skip ?_
     refine xe_then ?_
     refine x_seq ?_
     have hb1 := and_255 ((IntKind.u64.wrap ((IntKind.u64.wrap ((IntKind.u64.wrap (s.seed * 6364136223846793005)) + (at_ s.code s.atx.toNat))) + 1442695040888963407)) / 1099511627776)
     refine x_r [] [2] [7001] [I (bitsI .and .u64 ((IntKind.u64.wrap ((IntKind.u64.wrap ((IntKind.u64.wrap (s.seed * 6364136223846793005)) + (at_ s.code s.atx.toNat))) + 1442695040888963407)) / 1099511627776) 255)] [some (.box [slU8 false s.code, I (s.atx + 1), .val (.int .u64 (IntKind.u64.wrap ((IntKind.u64.wrap ((IntKind.u64.wrap (s.seed * 6364136223846793005)) + (at_ s.code s.atx.toNat))) + 1442695040888963407)))])] [(0 : Int) ≤ 40 ∧ (40 : Int) ≤ ((IntKind.bits .u64 : Nat) : Int), inR .i64 (bitsI .and .u64 ((IntKind.u64.wrap ((IntKind.u64.wrap ((IntKind.u64.wrap (s.seed * 6364136223846793005)) + (at_ s.code s.atx.toNat))) + 1442695040888963407)) / 1099511627776) 255)] ⟨⟨(by decide), (by decide)⟩, (inR_i64 (by omega) (by omega)), trivial⟩ ?_
     refine xe_then ?_
     refine x_ret ?_
     refine xe_end ((bitsI .and .u64 ((IntKind.u64.wrap ((IntKind.u64.wrap ((IntKind.u64.wrap (s.seed * 6364136223846793005)) + (at_ s.code s.atx.toNat))) + 1442695040888963407)) / 1099511627776) 255), (l00Src.mk s.code (s.atx + 1) (IntKind.u64.wrap ((IntKind.u64.wrap ((IntKind.u64.wrap (s.seed * 6364136223846793005)) + (at_ s.code s.atx.toNat))) + 1442695040888963407)))) (show (0 ≤ (bitsI .and .u64 ((IntKind.u64.wrap ((IntKind.u64.wrap ((IntKind.u64.wrap (s.seed * 6364136223846793005)) + (at_ s.code s.atx.toNat))) + 1442695040888963407)) / 1099511627776) 255) ∧ (bitsI .and .u64 ((IntKind.u64.wrap ((IntKind.u64.wrap ((IntKind.u64.wrap (s.seed * 6364136223846793005)) + (at_ s.code s.atx.toNat))) + 1442695040888963407)) / 1099511627776) 255) ≤ 255) ∧ (okSrc (l00Src.mk s.code (s.atx + 1) (IntKind.u64.wrap ((IntKind.u64.wrap ((IntKind.u64.wrap (s.seed * 6364136223846793005)) + (at_ s.code s.atx.toNat))) + 1442695040888963407)))) ∧ ((l00Src.mk s.code (s.atx + 1) (IntKind.u64.wrap ((IntKind.u64.wrap ((IntKind.u64.wrap (s.seed * 6364136223846793005)) + (at_ s.code s.atx.toNat))) + 1442695040888963407))).code = s.code) ∧ (s.atx + 1 ≤ (l00Src.mk s.code (s.atx + 1) (IntKind.u64.wrap ((IntKind.u64.wrap ((IntKind.u64.wrap (s.seed * 6364136223846793005)) + (at_ s.code s.atx.toNat))) + 1442695040888963407))).atx ∧ (l00Src.mk s.code (s.atx + 1) (IntKind.u64.wrap ((IntKind.u64.wrap ((IntKind.u64.wrap (s.seed * 6364136223846793005)) + (at_ s.code s.atx.toNat))) + 1442695040888963407))).atx ≤ s.atx + 1) ∧ (True) from ⟨(by first | omega | rfl | assumption | (dsimp only; first | omega | rfl | assumption) | (simp only [*]; done) | exact ⟨hs.1, (by dsimp only; omega), hs1⟩), (by first | omega | rfl | assumption | (dsimp only; first | omega | rfl | assumption) | (simp only [*]; done) | exact ⟨hs.1, (by dsimp only; omega), hs1⟩), (by first | omega | rfl | assumption | (dsimp only; first | omega | rfl | assumption) | (simp only [*]; done) | exact ⟨hs.1, (by dsimp only; omega), hs1⟩), (by first | omega | rfl | assumption | (dsimp only; first | omega | rfl | assumption) | (simp only [*]; done) | exact ⟨hs.1, (by dsimp only; omega), hs1⟩), trivial⟩) (⟨.inl rfl, trivial⟩) (I (bitsI .and .u64 ((IntKind.u64.wrap ((IntKind.u64.wrap ((IntKind.u64.wrap (s.seed * 6364136223846793005)) + (at_ s.code s.atx.toNat))) + 1442695040888963407)) / 1099511627776) 255)) (by kernel_rfl) (.inl rfl) (fun _ => rfl) (fun _ => trivial)
    refine x_r [(9, .dec false)] [0, 3, 13] [7001] [.ref 7001 0, I 0, Bv false] [some (bxl00Src s)] [¬ (s.atx < (s.code.length : Int))] ⟨h1, trivial⟩ ?_
    refine xe_then ?_
    refine x_false rfl ?_
    refine x_skip ?_
    refine xe_then ?_
    refine xR [] [0, 3] [7001] [.ref 7001 0, I 0] [some (.box [slU8 false s.code, I (s.atx + 1), .val (.int .u64 s.seed)])] [inR .i64 (s.atx + 1)] ⟨(inR_i64 (by omega) (by omega)), trivial⟩ ?_
    refine xR [(5, .wrap), (8, .wrap), (9, .wrap)] [0, 3] [7001] [.ref 7001 0, I 0] [some (.box [slU8 false s.code, I (s.atx + 1), .val (.int .u64 (IntKind.u64.wrap ((IntKind.u64.wrap ((IntKind.u64.wrap (s.seed * 6364136223846793005)) + 0)) + 1442695040888963407)))])] [inR .u64 0] ⟨(inR_u64 (by omega) (by omega)), trivial⟩ ?_
    refine x_seq ?_
    refine x_seq ?_
    by_cases h3 : (s.atx + 1) ≤ (s.code.length : Int)
    ·refine x_r [(9, .dec true)] [0, 3, 53] [7001] [.ref 7001 0, I 0, Bv true] [some (.box [slU8 false s.code, I (s.atx + 1), .val (.int .u64 (IntKind.u64.wrap ((IntKind.u64.wrap ((IntKind.u64.wrap (s.seed * 6364136223846793005)) + 0)) + 1442695040888963407)))])] [(s.atx + 1) ≤ (s.code.length : Int)] ⟨h3, trivial⟩ ?_
     refine xe_then ?_
     refine x_true rfl ?_
     refine xR [] [2] [7001] [I 0] [some (.box [slU8 false s.code, I (s.atx + 1), .val (.int .u64 (IntKind.u64.wrap ((IntKind.u64.wrap ((IntKind.u64.wrap (s.seed * 6364136223846793005)) + 0)) + 1442695040888963407)))])] [] trivial ?_
     refine x_ret ?_
     refine xe_ret_then ?_
     refine xe_end (0, (l00Src.mk s.code (s.atx + 1) (IntKind.u64.wrap ((IntKind.u64.wrap ((IntKind.u64.wrap (s.seed * 6364136223846793005)) + 0)) + 1442695040888963407)))) (show (0 ≤ 0 ∧ 0 ≤ 255) ∧ (okSrc (l00Src.mk s.code (s.atx + 1) (IntKind.u64.wrap ((IntKind.u64.wrap ((IntKind.u64.wrap (s.seed * 6364136223846793005)) + 0)) + 1442695040888963407)))) ∧ ((l00Src.mk s.code (s.atx + 1) (IntKind.u64.wrap ((IntKind.u64.wrap ((IntKind.u64.wrap (s.seed * 6364136223846793005)) + 0)) + 1442695040888963407))).code = s.code) ∧ (s.atx + 1 ≤ (l00Src.mk s.code (s.atx + 1) (IntKind.u64.wrap ((IntKind.u64.wrap ((IntKind.u64.wrap (s.seed * 6364136223846793005)) + 0)) + 1442695040888963407))).atx ∧ (l00Src.mk s.code (s.atx + 1) (IntKind.u64.wrap ((IntKind.u64.wrap ((IntKind.u64.wrap (s.seed * 6364136223846793005)) + 0)) + 1442695040888963407))).atx ≤ s.atx + 1) ∧ (True) from ⟨(by first | omega | rfl | assumption | (dsimp only; first | omega | rfl | assumption) | (simp only [*]; done) | exact ⟨hs.1, (by dsimp only; omega), hs1⟩), (by first | omega | rfl | assumption | (dsimp only; first | omega | rfl | assumption) | (simp only [*]; done) | exact ⟨hs.1, (by dsimp only; omega), hs1⟩), (by first | omega | rfl | assumption | (dsimp only; first | omega | rfl | assumption) | (simp only [*]; done) | exact ⟨hs.1, (by dsimp only; omega), hs1⟩), (by first | omega | rfl | assumption | (dsimp only; first | omega | rfl | assumption) | (simp only [*]; done) | exact ⟨hs.1, (by dsimp only; omega), hs1⟩), trivial⟩) (⟨.inl rfl, trivial⟩) (I 0) (by kernel_rfl) (.inl rfl) (fun _ => rfl) (fun _ => trivial)
    refine x_r [(9, .dec false)] [0, 3, 53] [7001] [.ref 7001 0, I 0, Bv false] [some (.box [slU8 false s.code, I (s.atx + 1), .val (.int .u64 (IntKind.u64.wrap ((IntKind.u64.wrap ((IntKind.u64.wrap (s.seed * 6364136223846793005)) + 0)) + 1442695040888963407)))])] [¬ ((s.atx + 1) ≤ (s.code.length : Int))] ⟨h3, trivial⟩ ?_
    refine xe_then ?_
    refine x_false rfl ?_
    refine x_skip ?_
    refine xe_then ?_
    refine x_seq ?_
    have hb2 := and_255 ((IntKind.u64.wrap ((IntKind.u64.wrap ((IntKind.u64.wrap (s.seed * 6364136223846793005)) + 0)) + 1442695040888963407)) / 1099511627776)
    refine x_r [] [2] [7001] [I (bitsI .and .u64 ((IntKind.u64.wrap ((IntKind.u64.wrap ((IntKind.u64.wrap (s.seed * 6364136223846793005)) + 0)) + 1442695040888963407)) / 1099511627776) 255)] [some (.box [slU8 false s.code, I (s.atx + 1), .val (.int .u64 (IntKind.u64.wrap ((IntKind.u64.wrap ((IntKind.u64.wrap (s.seed * 6364136223846793005)) + 0)) + 1442695040888963407)))])] [(0 : Int) ≤ 40 ∧ (40 : Int) ≤ ((IntKind.bits .u64 : Nat) : Int), inR .i64 (bitsI .and .u64 ((IntKind.u64.wrap ((IntKind.u64.wrap ((IntKind.u64.wrap (s.seed * 6364136223846793005)) + 0)) + 1442695040888963407)) / 1099511627776) 255)] ⟨⟨(by decide), (by decide)⟩, (inR_i64 (by omega) (by omega)), trivial⟩ ?_
    refine xe_then ?_
    refine x_ret ?_
    refine xe_end ((bitsI .and .u64 ((IntKind.u64.wrap ((IntKind.u64.wrap ((IntKind.u64.wrap (s.seed * 6364136223846793005)) + 0)) + 1442695040888963407)) / 1099511627776) 255), (l00Src.mk s.code (s.atx + 1) (IntKind.u64.wrap ((IntKind.u64.wrap ((IntKind.u64.wrap (s.seed * 6364136223846793005)) + 0)) + 1442695040888963407)))) (show (0 ≤ (bitsI .and .u64 ((IntKind.u64.wrap ((IntKind.u64.wrap ((IntKind.u64.wrap (s.seed * 6364136223846793005)) + 0)) + 1442695040888963407)) / 1099511627776) 255) ∧ (bitsI .and .u64 ((IntKind.u64.wrap ((IntKind.u64.wrap ((IntKind.u64.wrap (s.seed * 6364136223846793005)) + 0)) + 1442695040888963407)) / 1099511627776) 255) ≤ 255) ∧ (okSrc (l00Src.mk s.code (s.atx + 1) (IntKind.u64.wrap ((IntKind.u64.wrap ((IntKind.u64.wrap (s.seed * 6364136223846793005)) + 0)) + 1442695040888963407)))) ∧ ((l00Src.mk s.code (s.atx + 1) (IntKind.u64.wrap ((IntKind.u64.wrap ((IntKind.u64.wrap (s.seed * 6364136223846793005)) + 0)) + 1442695040888963407))).code = s.code) ∧ (s.atx + 1 ≤ (l00Src.mk s.code (s.atx + 1) (IntKind.u64.wrap ((IntKind.u64.wrap ((IntKind.u64.wrap (s.seed * 6364136223846793005)) + 0)) + 1442695040888963407))).atx ∧ (l00Src.mk s.code (s.atx + 1) (IntKind.u64.wrap ((IntKind.u64.wrap ((IntKind.u64.wrap (s.seed * 6364136223846793005)) + 0)) + 1442695040888963407))).atx ≤ s.atx + 1) ∧ (True) from ⟨(by first | omega | rfl | assumption | (dsimp only; first | omega | rfl | assumption) | (simp only [*]; done) | exact ⟨hs.1, (by dsimp only; omega), hs1⟩), (by first | omega | rfl | assumption | (dsimp only; first | omega | rfl | assumption) | (simp only [*]; done) | exact ⟨hs.1, (by dsimp only; omega), hs1⟩), (by first | omega | rfl | assumption | (dsimp only; first | omega | rfl | assumption) | (simp only [*]; done) | exact ⟨hs.1, (by dsimp only; omega), hs1⟩), (by first | omega | rfl | assumption | (dsimp only; first | omega | rfl | assumption) | (simp only [*]; done) | exact ⟨hs.1, (by dsimp only; omega), hs1⟩), trivial⟩) (⟨.inl rfl, trivial⟩) (I (bitsI .and .u64 ((IntKind.u64.wrap ((IntKind.u64.wrap ((IntKind.u64.wrap (s.seed * 6364136223846793005)) + 0)) + 1442695040888963407)) / 1099511627776) 255)) (by kernel_rfl) (.inl rfl) (fun _ => rfl) (fun _ => trivial)
  obtain ⟨⟨v, s'⟩, ⟨hh0, hh1, hh2, hh3, _⟩, hc⟩ := hh
  exact ⟨v, s', hh0, hh1, hh2, hh3, hc⟩


-- spec.l00Src).pick
theorem pick_ok (s : l00Src) (n : Int) (hs : okSrc s) (ha : s.atx ≤ 3999999999999999990) : ∃ (v : Int) (s' : l00Src), (0 ≤ v ∧ (v < n ∨ v = 0)) ∧ (okSrc s') ∧ (s'.code = s.code) ∧ (s.atx + 0 ≤ s'.atx ∧ s'.atx ≤ s.atx + 2) ∧ CallOK Tryd.prog 25 [.ref 7001 0, I n] (lookO [(7001, bxl00Src s)]) true (I v) (lookO [(7001, bxl00Src s')]) := by
  have hs0 := hs.2.1
  have hs1 := hs.2.2
  have hh : ∃ r : Int × l00Src, ((0 ≤ r.1 ∧ (r.1 < n ∨ r.1 = 0)) ∧ (okSrc r.2) ∧ (r.2.code = s.code) ∧ (s.atx + 0 ≤ r.2.atx ∧ r.2.atx ≤ s.atx + 2) ∧ (True)) ∧ CallOK Tryd.prog 25 [.ref 7001 0, I n] (lookO [(7001, bxl00Src s)]) true (I r.1) (lookO [(7001, bxl00Src r.2)]) := by
    refine fn_okX (Φ := fun r : Int × l00Src => (0 ≤ r.1 ∧ (r.1 < n ∨ r.1 = 0)) ∧ (okSrc r.2) ∧ (r.2.code = s.code) ∧ (s.atx + 0 ≤ r.2.atx ∧ r.2.atx ≤ s.atx + 2) ∧ (True)) [(7001, bxl00Src s)] (fun r => [(7001, bxl00Src r.2)]) (fn := Tryd.f25) (nt := 20) Tryd.func25 rfl rfl (args := [.ref 7001 0, I n]) rfl (allcons (.inr trivial) (allcons (.inl ⟨rfl, trivial⟩) allnil)) (res := fun r => I r.1) ?_
    refine xR [] [0, 1] [7001] [.ref 7001 0, I n] [some (bxl00Src s)] [] trivial ?_
    refine x_seq ?_
    refine x_seq ?_
    by_cases h1 : n ≤ 1
    ·refine x_r [(1, .dec true)] [0, 1, 7] [7001] [.ref 7001 0, I n, Bv true] [some (bxl00Src s)] [n ≤ 1] ⟨h1, trivial⟩ ?_
     refine xe_then ?_
     refine x_true rfl ?_
     refine xR [] [4] [7001] [I 0] [some (bxl00Src s)] [] trivial ?_
     refine x_ret ?_
     refine xe_ret_then ?_
     refine xe_end (0, s) (show (0 ≤ 0 ∧ (0 < n ∨ 0 = 0)) ∧ (okSrc s) ∧ (s.code = s.code) ∧ (s.atx + 0 ≤ s.atx ∧ s.atx ≤ s.atx + 2) ∧ (True) from ⟨(by first | omega | rfl | assumption | (dsimp only; first | omega | rfl | assumption) | (simp only [*]; done) | exact ⟨Int.emod_nonneg _ (by omega), .inl (Int.emod_lt_of_pos _ (by omega))⟩), (by first | omega | rfl | assumption | (dsimp only; first | omega | rfl | assumption) | (simp only [*]; done) | exact ⟨Int.emod_nonneg _ (by omega), .inl (Int.emod_lt_of_pos _ (by omega))⟩), (by first | omega | rfl | assumption | (dsimp only; first | omega | rfl | assumption) | (simp only [*]; done) | exact ⟨Int.emod_nonneg _ (by omega), .inl (Int.emod_lt_of_pos _ (by omega))⟩), (by first | omega | rfl | assumption | (dsimp only; first | omega | rfl | assumption) | (simp only [*]; done) | exact ⟨Int.emod_nonneg _ (by omega), .inl (Int.emod_lt_of_pos _ (by omega))⟩), trivial⟩) (⟨.inl rfl, trivial⟩) (I 0) (by kernel_rfl) (.inl rfl) (fun _ => rfl) (fun _ => trivial)
    refine x_r [(1, .dec false)] [0, 1, 7] [7001] [.ref 7001 0, I n, Bv false] [some (bxl00Src s)] [¬ (n ≤ 1)] ⟨h1, trivial⟩ ?_
    refine xe_then ?_
    refine x_false rfl ?_
    refine x_skip ?_
    refine xe_then ?_
    refine x_seq ?_
    obtain ⟨v_1, s'_1, hx1_0, hx1_1, hx1_2, hx1_3, hc1⟩ := next_ok s (by first | assumption | (simp only [okSrc] at *; simp_all; done)) (by omega)
    refine x_r [(1, .lend [(7001, bxl00Src s, bxl00Src s'_1)] [] [(true, .any)] true (I v_1))] [0, 1, 5] [7001] [.ref 7001 0, I n, I v_1] [some (bxl00Src s'_1)] [CallOK Tryd.prog 42 [.ref 7001 0] (lookO [(7001, bxl00Src s)]) true (I v_1) (lookO [(7001, bxl00Src s'_1)]) ∧ (((bxl00Src s : Ob) = bxl00Src s ∨ obLe noOb true (bxl00Src s) (bxl00Src s)) ∧ taggedO false (bxl00Src s)) ∧ True] ⟨⟨hc1, ⟨.inl rfl, (by simp [taggedO, taggedL, tagged, tagU8])⟩, trivial⟩, trivial⟩ ?_
    refine xe_then ?_
    refine x_seq ?_
    refine x_seq ?_
    by_cases h2 : 200 < n
    ·refine x_r [(1, .dec true)] [0, 1, 5, 11] [7001] [.ref 7001 0, I n, I v_1, Bv true] [some (bxl00Src s'_1)] [200 < n] ⟨h2, trivial⟩ ?_
     refine xe_then ?_
     refine x_true rfl ?_
     obtain ⟨v_2, s'_2, hx2_0, hx2_1, hx2_2, hx2_3, hc2⟩ := next_ok s'_1 (by first | assumption | (simp only [okSrc] at *; simp_all; done)) (by omega)
     refine x_r [(3, .lend [(7001, bxl00Src s'_1, bxl00Src s'_2)] [] [(true, .any)] true (I v_2))] [1, 5] [7001] [I n, I ((v_1 * 256) + v_2)] [some (bxl00Src s'_2)] [inR .i64 (v_1 * 256), CallOK Tryd.prog 42 [.ref 7001 0] (lookO [(7001, bxl00Src s'_1)]) true (I v_2) (lookO [(7001, bxl00Src s'_2)]) ∧ (((bxl00Src s'_1 : Ob) = bxl00Src s'_1 ∨ obLe noOb true (bxl00Src s'_1) (bxl00Src s'_1)) ∧ taggedO false (bxl00Src s'_1)) ∧ True, inR .i64 ((v_1 * 256) + v_2)] ⟨(inR_i64 (by omega) (by omega)), ⟨hc2, ⟨.inl rfl, (by simp [taggedO, taggedL, tagged, tagU8])⟩, trivial⟩, (inR_i64 (by omega) (by omega)), trivial⟩ ?_
     refine xe_then ?_
     refine xR [(2, .nn)] [4] [7001] [I (((v_1 * 256) + v_2) % n)] [some (bxl00Src s'_2)] [(0 : Int) ≤ ((v_1 * 256) + v_2) ∧ (0 : Int) < n] ⟨⟨(by omega), (by omega)⟩, trivial⟩ ?_
     refine x_ret ?_
     refine xe_end ((((v_1 * 256) + v_2) % n), s'_2) (show (0 ≤ (((v_1 * 256) + v_2) % n) ∧ ((((v_1 * 256) + v_2) % n) < n ∨ (((v_1 * 256) + v_2) % n) = 0)) ∧ (okSrc s'_2) ∧ (s'_2.code = s.code) ∧ (s.atx + 0 ≤ s'_2.atx ∧ s'_2.atx ≤ s.atx + 2) ∧ (True) from ⟨(by first | omega | rfl | assumption | (dsimp only; first | omega | rfl | assumption) | (simp only [*]; done) | exact ⟨Int.emod_nonneg _ (by omega), .inl (Int.emod_lt_of_pos _ (by omega))⟩), (by first | omega | rfl | assumption | (dsimp only; first | omega | rfl | assumption) | (simp only [*]; done) | exact ⟨Int.emod_nonneg _ (by omega), .inl (Int.emod_lt_of_pos _ (by omega))⟩), (by first | omega | rfl | assumption | (dsimp only; first | omega | rfl | assumption) | (simp only [*]; done) | exact ⟨Int.emod_nonneg _ (by omega), .inl (Int.emod_lt_of_pos _ (by omega))⟩), (by first | omega | rfl | assumption | (dsimp only; first | omega | rfl | assumption) | (simp only [*]; done) | exact ⟨Int.emod_nonneg _ (by omega), .inl (Int.emod_lt_of_pos _ (by omega))⟩), trivial⟩) (⟨.inl rfl, trivial⟩) (I (((v_1 * 256) + v_2) % n)) (by kernel_rfl) (.inl rfl) (fun _ => rfl) (fun _ => trivial)
    refine x_r [(1, .dec false)] [0, 1, 5, 11] [7001] [.ref 7001 0, I n, I v_1, Bv false] [some (bxl00Src s'_1)] [¬ (200 < n)] ⟨h2, trivial⟩ ?_
    refine xe_then ?_
    refine x_false rfl ?_
    refine x_skip ?_
    refine xe_then ?_
    refine xR [(2, .nn)] [4] [7001] [I (v_1 % n)] [some (bxl00Src s'_1)] [(0 : Int) ≤ v_1 ∧ (0 : Int) < n] ⟨⟨(by omega), (by omega)⟩, trivial⟩ ?_
    refine x_ret ?_
    refine xe_end ((v_1 % n), s'_1) (show (0 ≤ (v_1 % n) ∧ ((v_1 % n) < n ∨ (v_1 % n) = 0)) ∧ (okSrc s'_1) ∧ (s'_1.code = s.code) ∧ (s.atx + 0 ≤ s'_1.atx ∧ s'_1.atx ≤ s.atx + 2) ∧ (True) from ⟨(by first | omega | rfl | assumption | (dsimp only; first | omega | rfl | assumption) | (simp only [*]; done) | exact ⟨Int.emod_nonneg _ (by omega), .inl (Int.emod_lt_of_pos _ (by omega))⟩), (by first | omega | rfl | assumption | (dsimp only; first | omega | rfl | assumption) | (simp only [*]; done) | exact ⟨Int.emod_nonneg _ (by omega), .inl (Int.emod_lt_of_pos _ (by omega))⟩), (by first | omega | rfl | assumption | (dsimp only; first | omega | rfl | assumption) | (simp only [*]; done) | exact ⟨Int.emod_nonneg _ (by omega), .inl (Int.emod_lt_of_pos _ (by omega))⟩), (by first | omega | rfl | assumption | (dsimp only; first | omega | rfl | assumption) | (simp only [*]; done) | exact ⟨Int.emod_nonneg _ (by omega), .inl (Int.emod_lt_of_pos _ (by omega))⟩), trivial⟩) (⟨.inl rfl, trivial⟩) (I (v_1 % n)) (by kernel_rfl) (.inl rfl) (fun _ => rfl) (fun _ => trivial)
  obtain ⟨⟨v, s'⟩, ⟨hh0, hh1, hh2, hh3, _⟩, hc⟩ := hh
  exact ⟨v, s', hh0, hh1, hh2, hh3, hc⟩


-- spec.A2Numbers
theorem A2Numbers_ok (code : List Int) (hc : (∀ j, j < code.length → 0 ≤ at_ code j ∧ at_ code j ≤ 255) ∧ code.length ≤ 4611686018427387904) : ∃ (v : List Int), (v.length ≤ 20) ∧ (∀ x ∈ v, -6000 ≤ x ∧ x ≤ 10000) ∧ Con Tryd.prog 11 [slU8 false code] true (slI true v) := by
  have hh : ∃ r : (List Int), ((r.length ≤ 20) ∧ (∀ x ∈ r, -6000 ≤ x ∧ x ≤ 10000) ∧ (True)) ∧ CallOK Tryd.prog 11 [slU8 false code] (lookO []) true (slI true r) (lookO []) := by
    refine fn_okX (Φ := fun r : (List Int) => (r.length ≤ 20) ∧ (∀ x ∈ r, -6000 ≤ x ∧ x ≤ 10000) ∧ (True)) [] (fun r => []) (fn := Tryd.f11) (nt := 28) Tryd.func11 rfl rfl (args := [slU8 false code]) rfl (allcons (.inl ⟨rfl, tagU8 false _⟩) allnil) (res := fun r => slI true r) ?_
    refine xR [] [0] [] [slU8 false code] [] [] trivial ?_
    refine x_seq ?_
    obtain ⟨s'_1, hx1_0, hc1⟩ := l00From_ok code
    have hsrc : okSrc s'_1 := ⟨by rw [hx1_0.1]; exact hc.1, by rw [hx1_0.2]; decide, by rw [hx1_0.1]; exact hc.2⟩
    have hat0 := hx1_0.2
    refine x_r [(1, .lend [] [(7001, bxl00Src s'_1)] [(true, .any)] false (.ref 7001 0))] [3] [7001] [.ref 7001 0] [some (bxl00Src s'_1)] [CallOK Tryd.prog 24 [slU8 false code] (lookO []) false (.ref 7001 0) (lookO [(7001, bxl00Src s'_1)]) ∧ True] ⟨⟨hc1, trivial⟩, trivial⟩ ?_
    refine xe_then ?_
    refine xR [(0, .new 9)] [3, 4] [9, 7001] [.ref 7001 0, .arr 9] [some (.arr 1 0 (litF [] 1)), some (bxl00Src s'_1)] [] trivial ?_
    refine x_seq ?_
    obtain ⟨v_2, s'_2, hx2_0, hx2_1, hx2_2, hx2_3, hc2⟩ := pick_ok s'_1 4000 (by first | assumption | (simp only [okSrc] at *; simp_all; done)) (by omega)
    refine x_r [(1, .lend [(7001, bxl00Src s'_1, bxl00Src s'_2)] [] [(true, .any), (true, .any)] true (I v_2))] [3, 4, 5] [9, 7001] [.ref 7001 0, .arr 9, I v_2] [some (.arr 1 0 (litF [] 1)), some (bxl00Src s'_2)] [CallOK Tryd.prog 25 [.ref 7001 0, I 4000] (lookO [(7001, bxl00Src s'_1)]) true (I v_2) (lookO [(7001, bxl00Src s'_2)]) ∧ (((bxl00Src s'_1 : Ob) = bxl00Src s'_1 ∨ obLe noOb true (bxl00Src s'_1) (bxl00Src s'_1)) ∧ taggedO false (bxl00Src s'_1)) ∧ True] ⟨⟨hc2, ⟨.inl rfl, (by simp [taggedO, taggedL, tagged, tagU8])⟩, trivial⟩, trivial⟩ ?_
    refine xe_then ?_
    refine x_seq ?_
    refine x_seq ?_
    obtain ⟨v_3, s'_3, hx3_0, hx3_1, hx3_2, hx3_3, hc3⟩ := pick_ok s'_2 20 (by first | assumption | (simp only [okSrc] at *; simp_all; done)) (by omega)
    refine x_r [(1, .lend [(7001, bxl00Src s'_2, bxl00Src s'_3)] [] [(true, .any), (true, .any)] true (I v_3))] [3, 4, 5, 6] [9, 7001] [.ref 7001 0, .arr 9, I v_2, I v_3] [some (.arr 1 0 (litF [] 1)), some (bxl00Src s'_3)] [CallOK Tryd.prog 25 [.ref 7001 0, I 20] (lookO [(7001, bxl00Src s'_2)]) true (I v_3) (lookO [(7001, bxl00Src s'_3)]) ∧ (((bxl00Src s'_2 : Ob) = bxl00Src s'_2 ∨ obLe noOb true (bxl00Src s'_2) (bxl00Src s'_2)) ∧ taggedO false (bxl00Src s'_2)) ∧ True] ⟨⟨hc3, ⟨.inl rfl, (by simp [taggedO, taggedL, tagged, tagU8])⟩, trivial⟩, trivial⟩ ?_
    refine xe_then ?_
    refine x_block ?_
    refine x_weak [] (T := [(3, .ref 7001 0), (4, .arr 9), (5, I v_2), (6, I v_3)]) (O := [(9, tAI ([] : List Int)), (7001, bxl00Src s'_3)]) rfl (⟨.inl rfl, .inl rfl, .inl rfl, .inl rfl, trivial⟩) (⟨.inr ⟨rfl, (by first | rfl | (simp; done) | (simp; omega) | omega), fun i_ hi_ => absurd hi_ (Nat.not_lt_zero _)⟩, .inl rfl, trivial⟩) ?_
    refine x_loop (X := (List Int) × Int × Int × l00Src) (fun x => mkS [(3, .ref 7001 0), (4, .arr 9), (5, I x.2.1), (6, I x.2.2.1)] [(9, tAI x.1), (7001, bxl00Src x.2.2.2)]) (fun x => (okSrc x.2.2.2 ∧ x.2.2.2.atx ≤ 100 + 3 * (20 - x.2.2.1)) ∧ (0 ≤ x.2.2.1 ∧ x.2.2.1 ≤ 20) ∧ (x.1.length + x.2.2.1 ≤ 20) ∧ (-100 * (20 - x.2.2.1) ≤ x.2.1 ∧ x.2.1 ≤ 4000 + 100 * (20 - x.2.2.1)) ∧ (∀ z ∈ x.1, -6000 ≤ z ∧ z ≤ 10000) ∧ True) (fun x => x.2.2.1.toNat) (([] : List Int), v_2, v_3, s'_3) rfl (show (okSrc s'_3 ∧ s'_3.atx ≤ 100 + 3 * (20 - v_3)) ∧ (0 ≤ v_3 ∧ v_3 ≤ 20) ∧ (([] : List Int).length + v_3 ≤ 20) ∧ (-100 * (20 - v_3) ≤ v_2 ∧ v_2 ≤ 4000 + 100 * (20 - v_3)) ∧ (∀ z ∈ ([] : List Int), -6000 ≤ z ∧ z ≤ 10000) ∧ True from ⟨(by first | assumption | (constructor <;> first | assumption | omega)), (by omega), (by simp; omega), (by omega), (by simp), trivial⟩) (fun x hI => ?_)
    obtain ⟨out, a_, k, src⟩ := x
    obtain ⟨hs0, hk0, hl0, ha0, hx0, _⟩ : (okSrc src ∧ src.atx ≤ 100 + 3 * (20 - k)) ∧ (0 ≤ k ∧ k ≤ 20) ∧ (out.length + k ≤ 20) ∧ (-100 * (20 - k) ≤ a_ ∧ a_ ≤ 4000 + 100 * (20 - k)) ∧ (∀ z ∈ out, -6000 ≤ z ∧ z ≤ 10000) ∧ True := hI
    show XW _ _ _ _ (mkS [(3, .ref 7001 0), (4, .arr 9), (5, I a_), (6, I k)] [(9, tAI out), (7001, bxl00Src src)]) _ _
    refine x_seq ?_
    refine x_seq ?_
    by_cases h1 : 0 < k
    ·refine x_r [(1, .dec true)] [3, 4, 5, 6, 15] [9, 7001] [.ref 7001 0, .arr 9, I a_, I k, Bv true] [some (tAI out), some (bxl00Src src)] [0 < k] ⟨h1, trivial⟩ ?_
     refine xe_then ?_
     refine x_true rfl ?_
     refine x_skip ?_
     refine xe_then ?_
     refine x_seq ?_
     refine x_block ?_
     refine xR [(2, .new 20), (3, .new 21)] [3, 4, 5, 6] [21, 7001] [.ref 7001 0, .arr 21, I a_, I k] [some (.arr 1 (out.length + 1) (catF out.length (fI out) (litF [I a_] 1))), some (bxl00Src src)] [(out.length + 1) * 8 ≤ 140737488355328] ⟨(by omega), trivial⟩ ?_
     obtain ⟨v_4, s'_4, hx4_0, hx4_1, hx4_2, hx4_3, hc4⟩ := pick_ok src 201 (by first | assumption | (simp only [okSrc] at *; simp_all; done)) (by omega)
     refine x_r [(2, .lend [(7001, bxl00Src src, bxl00Src s'_4)] [] [(true, .any), (true, .any)] true (I v_4))] [3, 4, 5, 6] [21, 7001] [.ref 7001 0, .arr 21, I (a_ + (v_4 - 100)), I k] [some (.arr 1 (out.length + 1) (catF out.length (fI out) (litF [I a_] 1))), some (bxl00Src s'_4)] [CallOK Tryd.prog 25 [.ref 7001 0, I 201] (lookO [(7001, bxl00Src src)]) true (I v_4) (lookO [(7001, bxl00Src s'_4)]) ∧ (((bxl00Src src : Ob) = bxl00Src src ∨ obLe noOb true (bxl00Src src) (bxl00Src src)) ∧ taggedO false (bxl00Src src)) ∧ True, inR .i64 (v_4 - 100), inR .i64 (a_ + (v_4 - 100))] ⟨⟨hc4, ⟨.inl rfl, (by simp [taggedO, taggedL, tagged, tagU8])⟩, trivial⟩, (inR_i64 (by omega) (by omega)), (inR_i64 (by omega) (by omega)), trivial⟩ ?_
     refine xe_block 1 ?_
     refine xe_then ?_
     refine x_r [] [3, 4, 5, 6] [21, 7001] [.ref 7001 0, .arr 21, I (a_ + (v_4 - 100)), I (k - 1)] [some (.arr 1 (out.length + 1) (catF out.length (fI out) (litF [I a_] 1))), some (bxl00Src s'_4)] [inR .i64 (k - 1)] ⟨(inR_i64 (by omega) (by omega)), trivial⟩ ?_
     refine xe_weak [(9, 21)] (T := [(3, .ref 7001 0), (4, .arr 9), (5, I (a_ + (v_4 - 100))), (6, I (k - 1))]) (O := [(9, tAI (out ++ [a_])), (7001, bxl00Src s'_4)]) rfl (⟨.inl rfl, .inl rfl, .inl rfl, .inl rfl, trivial⟩) (⟨.inr ⟨rfl, (by first | rfl | (simp; done) | (simp; omega) | omega), fun i_ hi_ => .inl (cat_snoc (enc := cI) (xs := out) rfl i_ hi_)⟩, .inl rfl, trivial⟩) (xe_again ((out ++ [a_]), (a_ + (v_4 - 100)), (k - 1), s'_4) rfl (show (okSrc s'_4 ∧ s'_4.atx ≤ 100 + 3 * (20 - (k - 1))) ∧ (0 ≤ (k - 1) ∧ (k - 1) ≤ 20) ∧ ((out ++ [a_]).length + (k - 1) ≤ 20) ∧ (-100 * (20 - (k - 1)) ≤ (a_ + (v_4 - 100)) ∧ (a_ + (v_4 - 100)) ≤ 4000 + 100 * (20 - (k - 1))) ∧ (∀ z ∈ (out ++ [a_]), -6000 ≤ z ∧ z ≤ 10000) ∧ True from ⟨(by constructor <;> first | assumption | omega), (by omega), (by simp; omega), (by omega), (by intro x hx; rcases List.mem_append.1 hx with hx | hx; (exact hx0 x hx); (simp at hx; omega)), trivial⟩) (by first | (show ((k - 1).toNat : Nat) < k.toNat; omega) | (dsimp only; omega)))
    refine x_r [(1, .dec false)] [3, 4, 5, 6, 15] [9, 7001] [.ref 7001 0, .arr 9, I a_, I k, Bv false] [some (tAI out), some (bxl00Src src)] [¬ (0 < k)] ⟨h1, trivial⟩ ?_
    refine xe_then ?_
    refine x_false rfl ?_
    refine x_exit ?_
    refine xe_exit_then ?_
    refine xe_loop_exit ?_
    refine xe_exit_same ?_
    refine xe_then ?_
    refine xR [] [2] [9] [.arr 9] [some (tAI out)] [] trivial ?_
    refine x_ret ?_
    refine xe_end out (show (out.length ≤ 20) ∧ (∀ x ∈ out, -6000 ≤ x ∧ x ≤ 10000) ∧ (True) from ⟨(by first | omega | assumption), (by first | omega | assumption), trivial⟩) (trivial) (.arr 9) (by kernel_rfl) (.inr ⟨(fun _ => rfl), rfl, rfl, fun i _ => .inl rfl⟩) (fun _ => rfl) (fun _ => (tagI true _))
  obtain ⟨v, ⟨hh0, hh1, _⟩, hc⟩ := hh
  exact ⟨v, hh0, hh1, hc⟩


-- spec.l00In
theorem l00In_ok (n : Int) (low : Int) (high : Int) : Con Tryd.prog 40 [I n, I low, I high] true (Bv (inB n low high)) := by
  refine fn_ok (fn := Tryd.f40) (nt := 15) Tryd.func40 rfl rfl rfl rfl (by simp [taggedL, tagged]) fun B hB => ?_
  refine aR [] [0, 1, 2] [] [I n, I low, I high] [] [] hB trivial ?_
  refine aw_seq ?_
  by_cases h1 : low ≤ n
  ·refine aw_r [(2, .dec true)] [6] [] [Bv (decide (n ≤ high))] [] [low ≤ n] hB ⟨h1, trivial⟩ ?_
   refine ae_then ?_
   refine aw_ret ?_
   refine ae_ret hB (Bv (decide (n ≤ high))) (by kernel_rfl) (.inl (by first | rfl | (refine congrArg Bv ?_; simp [inB, *]; done) | (refine congrArg Bv ?_; simp [inB, *]; omega) | (refine congrArg Bv ?_; simp_all [inB]; done) | (refine congrArg Bv ?_; simp_all [inB]; omega))) rfl (fun _ => trivial)
  refine aw_r [(2, .dec false)] [6] [] [Bv false] [] [¬ (low ≤ n)] hB ⟨h1, trivial⟩ ?_
  refine ae_then ?_
  refine aw_ret ?_
  refine ae_ret hB (Bv false) (by kernel_rfl) (.inl (by first | rfl | (refine congrArg Bv ?_; simp [inB, *]; done) | (refine congrArg Bv ?_; simp [inB, *]; omega) | (refine congrArg Bv ?_; simp_all [inB]; done) | (refine congrArg Bv ?_; simp_all [inB]; omega))) rfl (fun _ => trivial)


-- spec.l04Small
theorem l04Small_ok (list : List Int) (hl : list.length ≤ 60) (hx : ∀ x ∈ list, -125000000 ≤ x ∧ x ≤ 125000000) : Con Tryd.prog 22 [slI false list] true (Bv true) := by
  refine fn_ok (fn := Tryd.f22) (nt := 19) Tryd.func22 rfl rfl rfl rfl (by simp [taggedL, tagged, tagI]) fun B hB => ?_
  refine aw_lens (x := slI false list) 0 rfl (fun len_list => ?_)
  simp [LenOK, LenL, cI, fI, slI] at len_list
  refine aR [] [0] [] [slI false list] [] [] hB trivial ?_
  refine aw_seq ?_
  refine aR [] [0, 3] [] [slI false list, I 0] [] [] hB trivial ?_
  refine aw_block ?_
  refine aw_loop (fun gn gσ => ∃ (i : Int), gn = ((list.length : Int) - i).toNat ∧ (0 ≤ i ∧ i ≤ (list.length : Int)) ∧ gσ = mkS [(0, slI false list), (3, I i)] []) (((list.length : Int) - 0).toNat) ⟨0, rfl, (by omega), rfl⟩ (fun gn gσ hI => ?_)
  obtain ⟨i, rfl, hi0, rfl⟩ := hI
  refine aw_seq ?_
  refine aw_seq ?_
  by_cases h1 : i < (list.length : Int)
  ·have hi : i.toNat < list.length := by omega
   have hxi := hx _ (at_mem hi)
   refine aw_r [(3, .dec true)] [0, 3, 7] [] [slI false list, I i, Bv true] [] [i < (list.length : Int)] hB ⟨h1, trivial⟩ ?_
   refine ae_then ?_
   refine aw_true rfl ?_
   refine aw_skip ?_
   refine ae_then ?_
   refine aw_seq ?_
   refine aw_block ?_
   refine aR [(4, .call [(true, .any), (true, .any), (true, .any)] true (Bv true))] [0, 3, 15] [] [slI false list, I i, Bv false] [] [(0 : Int) ≤ i ∧ i < (list.length : Int), Con Tryd.prog 40 [I (at_ list i.toNat), I (-125000000), I 125000000] true (Bv true) ∧ True] hB ⟨⟨(by omega), (by omega)⟩, ⟨(con_bool (inB_iff.2 hxi) (l00In_ok (at_ list i.toNat) (-125000000) 125000000)), trivial⟩, trivial⟩ ?_
   refine aw_false rfl ?_
   refine aw_skip ?_
   refine ae_block 1 ?_
   refine ae_then ?_
   refine aw_r [] [0, 3] [] [slI false list, I (i + 1)] [] [inR .i64 (i + 1)] hB ⟨(inR_i64 (by omega) (by omega)), trivial⟩ ?_
   exact ae_again _ (by omega) ⟨(i + 1), rfl, (by omega), rfl⟩
  refine aw_r [(3, .dec false)] [0, 3, 7] [] [slI false list, I i, Bv false] [] [¬ (i < (list.length : Int))] hB ⟨h1, trivial⟩ ?_
  refine ae_then ?_
  refine aw_false rfl ?_
  refine aw_exit ?_
  refine ae_exit_then ?_
  refine ae_exit_then ?_
  refine ae_exit_same ?_
  refine ae_then ?_
  refine aR [(2, .dec true)] [2] [] [Bv true] [] [(list.length : Int) ≤ 60] hB ⟨(by omega), trivial⟩ ?_
  refine aw_ret ?_
  refine ae_ret hB (Bv true) (by kernel_rfl) (.inl rfl) rfl (fun _ => trivial)


-- spec.l04Guess
theorem l04Guess_ok (list : List Int) (i : Int) (hi : 0 ≤ i ∧ i ≤ (list.length : Int)) (hx : ∀ x ∈ list, -125000000 ≤ x ∧ x ≤ 125000000) : Con Tryd.prog 41 [slI false list, I i] true (I (gsI list i.toNat)) := by
  refine fn_ok (fn := Tryd.f41) (nt := 25) Tryd.func41 rfl rfl rfl rfl (by simp [taggedL, tagged, tagI]) fun B hB => ?_
  refine aw_lens (x := slI false list) 0 rfl (fun len_list => ?_)
  simp [LenOK, LenL, cI, fI, slI] at len_list
  refine aR [] [0, 1] [] [slI false list, I i] [] [] hB trivial ?_
  refine aw_seq ?_
  refine aR [] [0, 1, 5] [] [slI false list, I i, I i] [] [] hB trivial ?_
  refine aw_block ?_
  refine aw_seq ?_
  by_cases h1 : i = 0
  ·subst h1
   refine aw_r [(0, .dec true)] [0, 1, 5, 6] [] [slI false list, I 0, I 0, Bv true] [] [(0 : Int) = 0] hB ⟨(by decide), trivial⟩ ?_
   refine ae_then ?_
   refine aw_true rfl ?_
   refine aR [] [4] [] [I 0] [] [] hB trivial ?_
   refine aw_ret ?_
   refine ae_ret_block (ae_ret_then ?_)
   refine ae_ret hB (I 0) (by kernel_rfl) (.inl (by first | rfl | (rw [e1, e2]; rfl) | (exfalso; omega))) rfl (fun _ => trivial)
  refine aw_r [(0, .dec false)] [0, 1, 5, 6] [] [slI false list, I i, I i, Bv false] [] [¬ (i = 0)] hB ⟨h1, trivial⟩ ?_
  refine ae_then ?_
  refine aw_false rfl ?_
  refine aw_seq ?_
  by_cases h2 : i = 1
  ·subst h2
   refine aw_r [(0, .dec true)] [0, 1, 8] [] [slI false list, I 1, Bv true] [] [(1 : Int) = 1] hB ⟨(by decide), trivial⟩ ?_
   refine ae_then ?_
   refine aw_true rfl ?_
   refine aR [] [4] [] [I (at_ list 0)] [] [(0 : Int) ≤ 0 ∧ 0 < (list.length : Int)] hB ⟨⟨(by omega), (by omega)⟩, trivial⟩ ?_
   refine aw_ret ?_
   refine ae_ret_block (ae_ret_then ?_)
   refine ae_ret hB (I (at_ list 0)) (by kernel_rfl) (.inl (by first | rfl | (rw [e1, e2]; rfl) | (exfalso; omega))) rfl (fun _ => trivial)
  obtain ⟨m, rfl⟩ : ∃ m : Nat, i = ((m + 2 : Nat) : Int) := ⟨i.toNat - 2, by omega⟩
  have h1 := hx _ (at_mem (xs := list) (i := m) (by omega))
  have h2 := hx _ (at_mem (xs := list) (i := m + 1) (by omega))
  have e1 : (((m + 2 : Nat) : Int) - 1).toNat = m + 1 := by omega
  have e2 : (((m + 2 : Nat) : Int) - 2).toNat = m := by omega
  rw [← e1] at h2
  rw [← e2] at h1
  by_cases h3 : ((m + 2 : Nat) : Int) = 1
  ·refine aw_r [(0, .dec true)] [0, 1, 8] [] [slI false list, I ((m + 2 : Nat) : Int), Bv true] [] [((m + 2 : Nat) : Int) = 1] hB ⟨h3, trivial⟩ ?_
   refine ae_then ?_
   refine aw_true rfl ?_
   refine aR [] [4] [] [I (at_ list 0)] [] [(0 : Int) ≤ 0 ∧ 0 < (list.length : Int)] hB ⟨⟨(by omega), (by omega)⟩, trivial⟩ ?_
   refine aw_ret ?_
   refine ae_ret_block (ae_ret_then ?_)
   refine ae_ret hB (I (at_ list 0)) (by kernel_rfl) (.inl (by first | rfl | (rw [e1, e2]; rfl) | (exfalso; omega))) rfl (fun _ => trivial)
  refine aw_r [(0, .dec false)] [0, 1, 8] [] [slI false list, I ((m + 2 : Nat) : Int), Bv false] [] [¬ (((m + 2 : Nat) : Int) = 1)] hB ⟨h3, trivial⟩ ?_
  refine ae_then ?_
  refine aw_false rfl ?_
  refine aw_skip ?_
  refine ae_block 0 ?_
  refine ae_then ?_
  refine aR [] [4] [] [I ((2 * (at_ list ((((m + 2 : Nat) : Int) - 1).toNat))) - (at_ list ((((m + 2 : Nat) : Int) - 2).toNat)))] [] [inR .i64 (((m + 2 : Nat) : Int) - 1), (0 : Int) ≤ (((m + 2 : Nat) : Int) - 1) ∧ (((m + 2 : Nat) : Int) - 1) < (list.length : Int), inR .i64 (2 * (at_ list ((((m + 2 : Nat) : Int) - 1).toNat))), inR .i64 (((m + 2 : Nat) : Int) - 2), (0 : Int) ≤ (((m + 2 : Nat) : Int) - 2) ∧ (((m + 2 : Nat) : Int) - 2) < (list.length : Int), inR .i64 ((2 * (at_ list ((((m + 2 : Nat) : Int) - 1).toNat))) - (at_ list ((((m + 2 : Nat) : Int) - 2).toNat)))] hB ⟨(inR_i64 (by omega) (by omega)), ⟨(by omega), (by omega)⟩, (inR_i64 (by omega) (by omega)), (inR_i64 (by omega) (by omega)), ⟨(by omega), (by omega)⟩, (inR_i64 (by omega) (by omega)), trivial⟩ ?_
  refine aw_ret ?_
  refine ae_ret hB (I ((2 * (at_ list ((((m + 2 : Nat) : Int) - 1).toNat))) - (at_ list ((((m + 2 : Nat) : Int) - 2).toNat)))) (by kernel_rfl) (.inl (by first | rfl | (rw [e1, e2]; rfl) | (exfalso; omega))) rfl (fun _ => trivial)


-- spec.l04Residuals
theorem l04Residuals_ok (list : List Int) (hl : list.length ≤ 60) (hx : ∀ x ∈ list, -125000000 ≤ x ∧ x ≤ 125000000) : ∃ (v : List Int), (v = rsdL list) ∧ Con Tryd.prog 23 [slI false list] true (slI true v) := by
  have hh : ∃ r : (List Int), ((r = rsdL list) ∧ (True)) ∧ CallOK Tryd.prog 23 [slI false list] (lookO []) true (slI true r) (lookO []) := by
    refine fn_okX (Φ := fun r : (List Int) => (r = rsdL list) ∧ (True)) [] (fun r => []) (fn := Tryd.f23) (nt := 24) Tryd.func23 rfl rfl (args := [slI false list]) rfl (allcons (.inl ⟨rfl, tagI false _⟩) allnil) (res := fun r => slI true r) ?_
    refine xR [] [0] [] [slI false list] [] [] trivial ?_
    refine xR [(0, .new 5)] [0, 3] [5] [slI false list, .arr 5] [some (.arr 1 0 (litF [] 1))] [] trivial ?_
    refine x_seq ?_
    refine xR [] [0, 3, 4] [5] [slI false list, .arr 5, I 0] [some (.arr 1 0 (litF [] 1))] [] trivial ?_
    refine x_block ?_
    refine x_weak [] (T := [(0, slI false list), (3, .arr 5), (4, I 0)]) (O := [(5, tAI ([] : List Int))]) rfl (⟨.inl rfl, .inl rfl, .inl rfl, trivial⟩) (⟨.inr ⟨rfl, (by first | rfl | (simp; done) | (simp; omega) | omega), fun i_ hi_ => absurd hi_ (Nat.not_lt_zero _)⟩, trivial⟩) ?_
    refine x_loop (X := (List Int) × Int) (fun x => mkS [(0, slI false list), (3, .arr 5), (4, I x.2)] [(5, tAI x.1)]) (fun x => (0 ≤ x.2 ∧ x.2 ≤ (list.length : Int)) ∧ (x.1 = rsdN list x.2.toNat) ∧ (x.1.length = x.2.toNat) ∧ True) (fun x => ((list.length : Int) - x.2).toNat) (([] : List Int), 0) rfl (show (0 ≤ (0 : Int) ∧ (0 : Int) ≤ (list.length : Int)) ∧ (([] : List Int) = rsdN list (0 : Int).toNat) ∧ (([] : List Int).length = (0 : Int).toNat) ∧ True from ⟨(by omega), (by rfl), (by rfl), trivial⟩) (fun x hI => ?_)
    obtain ⟨ys, i⟩ := x
    obtain ⟨hi0, hy0, hy1, _⟩ : (0 ≤ i ∧ i ≤ (list.length : Int)) ∧ (ys = rsdN list i.toNat) ∧ (ys.length = i.toNat) ∧ True := hI
    show XW _ _ _ _ (mkS [(0, slI false list), (3, .arr 5), (4, I i)] [(5, tAI ys)]) _ _
    refine x_seq ?_
    refine x_seq ?_
    by_cases h1 : i < (list.length : Int)
    ·have hi : i.toNat < list.length := by omega
     have hxi := hx _ (at_mem hi)
     have hgi := gsI_bd (B := 125000000) (by decide) hx (i := i.toNat) (by omega)
     refine x_r [(3, .dec true)] [0, 3, 4, 9] [5] [slI false list, .arr 5, I i, Bv true] [some (tAI ys)] [i < (list.length : Int)] ⟨h1, trivial⟩ ?_
     refine xe_then ?_
     refine x_true rfl ?_
     refine x_skip ?_
     refine xe_then ?_
     refine x_seq ?_
     refine x_block ?_
     refine x_r [(7, .call [(true, .any), (true, .any)] true (I (gsI list i.toNat))), (9, .new 21), (10, .new 22)] [0, 3, 4] [22] [slI false list, .arr 22, I i] [some (.arr 1 (ys.length + 1) (catF ys.length (fI ys) (litF [I ((at_ list i.toNat) - (gsI list i.toNat))] 1)))] [(0 : Int) ≤ i ∧ i < (list.length : Int), Con Tryd.prog 41 [slI false list, I i] true (I (gsI list i.toNat)) ∧ True, inR .i64 ((at_ list i.toNat) - (gsI list i.toNat)), (ys.length + 1) * 8 ≤ 140737488355328] ⟨⟨(by omega), (by omega)⟩, ⟨(l04Guess_ok list i (by omega) hx), trivial⟩, (inR_i64 (by omega) (by omega)), (by omega), trivial⟩ ?_
     refine xe_block 1 ?_
     refine xe_then ?_
     refine x_r [] [0, 3, 4] [22] [slI false list, .arr 22, I (i + 1)] [some (.arr 1 (ys.length + 1) (catF ys.length (fI ys) (litF [I ((at_ list i.toNat) - (gsI list i.toNat))] 1)))] [inR .i64 (i + 1)] ⟨(inR_i64 (by omega) (by omega)), trivial⟩ ?_
     refine xe_weak [(5, 22)] (T := [(0, slI false list), (3, .arr 5), (4, I (i + 1))]) (O := [(5, tAI (ys ++ [((at_ list i.toNat) - (gsI list i.toNat))]))]) rfl (⟨.inl rfl, .inl rfl, .inl rfl, trivial⟩) (⟨.inr ⟨rfl, (by first | rfl | (simp; done) | (simp; omega) | omega), fun i_ hi_ => .inl (cat_snoc (enc := cI) (xs := ys) rfl i_ hi_)⟩, trivial⟩) (xe_again ((ys ++ [((at_ list i.toNat) - (gsI list i.toNat))]), (i + 1)) rfl (show (0 ≤ (i + 1) ∧ (i + 1) ≤ (list.length : Int)) ∧ ((ys ++ [((at_ list i.toNat) - (gsI list i.toNat))]) = rsdN list (i + 1).toNat) ∧ ((ys ++ [((at_ list i.toNat) - (gsI list i.toNat))]).length = (i + 1).toNat) ∧ True from ⟨(by omega), (by rw [show (i + 1).toNat = i.toNat + 1 from by omega, rsdN_succ, ← hy0]), (by simp; omega), trivial⟩) (by first | (show (((list.length : Int) - (i + 1)).toNat : Nat) < ((list.length : Int) - i).toNat; omega) | (dsimp only; omega)))
    have hie : i.toNat = list.length := by omega
    rw [hie] at hy0
    refine x_r [(3, .dec false)] [0, 3, 4, 9] [5] [slI false list, .arr 5, I i, Bv false] [some (tAI ys)] [¬ (i < (list.length : Int))] ⟨h1, trivial⟩ ?_
    refine xe_then ?_
    refine x_false rfl ?_
    refine x_exit ?_
    refine xe_exit_then ?_
    refine xe_loop_exit ?_
    refine xe_exit_same ?_
    refine xe_then ?_
    refine xR [] [2] [5] [.arr 5] [some (tAI ys)] [] trivial ?_
    refine x_ret ?_
    refine xe_end ys (show (ys = rsdL list) ∧ (True) from ⟨(by exact hy0), trivial⟩) (trivial) (.arr 5) (by kernel_rfl) (.inr ⟨(fun _ => rfl), rfl, rfl, fun i _ => .inl rfl⟩) (fun _ => rfl) (fun _ => (tagI true _))
  obtain ⟨v, ⟨hh0, _⟩, hc⟩ := hh
  exact ⟨v, hh0, hc⟩


-- spec.ResidualsOf
theorem specResidualsOf_ok (list : List Int) (hl : list.length ≤ 60) (hx : ∀ x ∈ list, -125000000 ≤ x ∧ x ≤ 125000000) : ∃ (v : List Int) (c : Int), (v = rsdL list) ∧ (c = 0) ∧ Con Tryd.prog 10 [slI false list] true (.tup [slI true v, I c]) := by
  have hh : ∃ r : (List Int) × Int, ((r.1 = rsdL list) ∧ (r.2 = 0) ∧ (True)) ∧ CallOK Tryd.prog 10 [slI false list] (lookO []) true (.tup [slI true r.1, I r.2]) (lookO []) := by
    refine fn_okX (Φ := fun r : (List Int) × Int => (r.1 = rsdL list) ∧ (r.2 = 0) ∧ (True)) [] (fun r => []) (fn := Tryd.f10) (nt := 9) Tryd.func10 rfl rfl (args := [slI false list]) rfl (allcons (.inl ⟨rfl, tagI false _⟩) allnil) (res := fun r => .tup [slI true r.1, I r.2]) ?_
    refine xR [] [0] [] [slI false list] [] [] trivial ?_
    refine x_seq ?_
    refine xR [(1, .call [(true, .any)] true (Bv true))] [0, 6] [] [slI false list, Bv false] [] [Con Tryd.prog 22 [slI false list] true (Bv true) ∧ True] ⟨⟨(l04Small_ok list hl hx), trivial⟩, trivial⟩ ?_
    refine x_false rfl ?_
    refine x_skip ?_
    refine xe_then ?_
    refine x_seq ?_
    obtain ⟨v_1, hx1_0, hc1⟩ := l04Residuals_ok list hl hx
    refine x_r [(1, .call [(true, .any)] true (slI true v_1))] [2, 3] [] [slI true v_1, I 0] [] [Con Tryd.prog 23 [slI false list] true (slI true v_1) ∧ True] ⟨⟨hc1, trivial⟩, trivial⟩ ?_
    refine xe_then ?_
    refine x_ret ?_
    refine xe_end (v_1, 0) (show (v_1 = rsdL list) ∧ (0 = 0) ∧ (True) from ⟨(by first | assumption | rfl), (by first | assumption | rfl), trivial⟩) (trivial) (.tup [slI true v_1, I 0]) (by kernel_rfl) (.inl rfl) (fun _ => rfl) (fun _ => (by simp [tagged, taggedL, tagI]))
  obtain ⟨⟨v, c⟩, ⟨hh0, hh1, _⟩, hc⟩ := hh
  exact ⟨v, c, hh0, hh1, hc⟩


-- impl.isResidual
theorem isResidual_ok (n : Int) : Con Tryd.prog 26 [I n] true (Bv (resid n)) := by
  refine fn_ok (fn := Tryd.f26) (nt := 5) Tryd.func26 rfl rfl rfl rfl (by simp [taggedL, tagged]) fun B hB => ?_
  refine aR [] [0] [] [I n] [] [] hB trivial ?_
  refine aR [(1, .call [(true, .any), (true, .any), (true, .any)] true (Bv (inB n (-1000000000) 1000000000)))] [2] [] [Bv (inB n (-1000000000) 1000000000)] [] [Con Tryd.prog 17 [I n, I (-1000000000), I 1000000000] true (Bv (inB n (-1000000000) 1000000000)) ∧ True] hB ⟨⟨(within_ok n (-1000000000) 1000000000), trivial⟩, trivial⟩ ?_
  refine aw_ret ?_
  refine ae_ret hB (Bv (inB n (-1000000000) 1000000000)) (by kernel_rfl) (.inl (by refine congrArg Bv ?_; simp [resid, inB])) rfl (fun _ => trivial)


-- impl.foldedOf
theorem foldedOf_ok (n : Int) (hn : -1000000000 ≤ n ∧ n ≤ 1000000000) : Con Tryd.prog 44 [I n] true (I (foldI n)) := by
  refine fn_ok (fn := Tryd.f44) (nt := 10) Tryd.func44 rfl rfl rfl rfl (by simp [taggedL, tagged]) fun B hB => ?_
  refine aR [] [0] [] [I n] [] [] hB trivial ?_
  refine aw_seq ?_
  refine aw_seq ?_
  by_cases h1 : n < 0
  ·refine aw_r [(1, .dec true)] [0, 4] [] [I n, Bv true] [] [n < 0] hB ⟨h1, trivial⟩ ?_
   refine ae_then ?_
   refine aw_true rfl ?_
   refine aR [] [2] [] [I (((-2) * n) - 1)] [] [inR .i64 ((-2) * n), inR .i64 (((-2) * n) - 1)] hB ⟨(inR_i64 (by omega) (by omega)), (inR_i64 (by omega) (by omega)), trivial⟩ ?_
   refine aw_ret ?_
   refine ae_ret_then ?_
   refine ae_ret hB (I (((-2) * n) - 1)) (by kernel_rfl) (.inl (by refine congrArg I ?_; unfold foldI; split <;> omega)) rfl (fun _ => trivial)
  refine aw_r [(1, .dec false)] [0, 4] [] [I n, Bv false] [] [¬ (n < 0)] hB ⟨h1, trivial⟩ ?_
  refine ae_then ?_
  refine aw_false rfl ?_
  refine aw_skip ?_
  refine ae_then ?_
  refine aR [] [2] [] [I (2 * n)] [] [inR .i64 (2 * n)] hB ⟨(inR_i64 (by omega) (by omega)), trivial⟩ ?_
  refine aw_ret ?_
  refine ae_ret hB (I (2 * n)) (by kernel_rfl) (.inl (by refine congrArg I ?_; unfold foldI; split <;> omega)) rfl (fun _ => trivial)


-- impl.riceLength
theorem riceLength_ok (n : Int) (k : Int) (hn : -1000000000 ≤ n ∧ n ≤ 1000000000) (hk : 0 ≤ k ∧ k ≤ 12) : Con Tryd.prog 43 [I n, I k] true (I (lenR n k)) := by
  have hf := fold_bd hn
  have hdv := quo_bd (n := foldI n) (r := ((2 ^ k.toNat : Nat) : Int)) hf.1 (p2 _)
  refine fn_ok (fn := Tryd.f43) (nt := 16) Tryd.func43 rfl rfl rfl rfl (by simp [taggedL, tagged]) fun B hB => ?_
  refine aR [] [0, 1] [] [I n, I k] [] [] hB trivial ?_
  refine aw_seq ?_
  refine aR [(1, .call [(true, .any)] true (I (foldI n)))] [1, 5] [] [I k, I ((foldI n) / ((2 ^ k.toNat : Nat) : Int))] [] [Con Tryd.prog 44 [I n] true (I (foldI n)) ∧ True, (0 : Int) ≤ k ∧ k ≤ ((IntKind.bits .i64 : Nat) : Int)] hB ⟨⟨(foldedOf_ok n (by omega)), trivial⟩, ⟨(by omega), (show k ≤ (64 : Int) from by omega)⟩, trivial⟩ ?_
  refine aw_seq ?_
  by_cases h1 : ((foldI n) / ((2 ^ k.toNat : Nat) : Int)) < 20
  ·refine aw_r [(1, .dec true)] [1, 5, 11] [] [I k, I ((foldI n) / ((2 ^ k.toNat : Nat) : Int)), Bv true] [] [((foldI n) / ((2 ^ k.toNat : Nat) : Int)) < 20] hB ⟨h1, trivial⟩ ?_
   refine ae_then ?_
   refine aw_true rfl ?_
   refine aR [] [4] [] [I ((((foldI n) / ((2 ^ k.toNat : Nat) : Int)) + 1) + k)] [] [inR .i64 (((foldI n) / ((2 ^ k.toNat : Nat) : Int)) + 1), inR .i64 ((((foldI n) / ((2 ^ k.toNat : Nat) : Int)) + 1) + k)] hB ⟨(inR_i64 (by omega) (by omega)), (inR_i64 (by omega) (by omega)), trivial⟩ ?_
   refine aw_ret ?_
   refine ae_ret_then ?_
   refine ae_ret hB (I ((((foldI n) / ((2 ^ k.toNat : Nat) : Int)) + 1) + k)) (by kernel_rfl) (.inl (by refine congrArg I ?_; unfold lenR; first | (rw [if_pos (by assumption)]; done) | (rw [if_neg (by assumption)]; done))) rfl (fun _ => trivial)
  refine aw_r [(1, .dec false)] [1, 5, 11] [] [I k, I ((foldI n) / ((2 ^ k.toNat : Nat) : Int)), Bv false] [] [¬ (((foldI n) / ((2 ^ k.toNat : Nat) : Int)) < 20)] hB ⟨h1, trivial⟩ ?_
  refine ae_then ?_
  refine aw_false rfl ?_
  refine aw_skip ?_
  refine ae_then ?_
  refine aR [] [4] [] [I 52] [] [] hB trivial ?_
  refine aw_ret ?_
  refine ae_ret hB (I 52) (by kernel_rfl) (.inl (by refine congrArg I ?_; unfold lenR; first | (rw [if_pos (by assumption)]; done) | (rw [if_neg (by assumption)]; done))) rfl (fun _ => trivial)


-- impl.bestRice
theorem bestRice_ok (list : List Int) (hl : list.length ≤ 1000) (hx : ∀ x ∈ list, -1000000000 ≤ x ∧ x ≤ 1000000000) : ∃ (b : Int) (s : Int), (b = (brS list 13).1) ∧ (s = (brS list 13).2) ∧ Con Tryd.prog 27 [slI false list] true (.tup [I b, I s]) := by
  have hh : ∃ r : Int × Int, ((r.1 = (brS list 13).1) ∧ (r.2 = (brS list 13).2) ∧ (True)) ∧ CallOK Tryd.prog 27 [slI false list] (lookO []) true (.tup [I r.1, I r.2]) (lookO []) := by
    refine fn_okX (Φ := fun r : Int × Int => (r.1 = (brS list 13).1) ∧ (r.2 = (brS list 13).2) ∧ (True)) [] (fun r => []) (fn := Tryd.f27) (nt := 37) Tryd.func27 rfl rfl (args := [slI false list]) rfl (allcons (.inl ⟨rfl, tagI false _⟩) allnil) (res := fun r => .tup [I r.1, I r.2]) ?_
    refine xR [] [0] [] [slI false list] [] [] trivial ?_
    refine xR [] [0, 4, 5] [] [slI false list, I 0, I (-1)] [] [] trivial ?_
    refine x_seq ?_
    refine xR [] [0, 4, 5, 6] [] [slI false list, I 0, I (-1), I 0] [] [] trivial ?_
    refine x_block ?_
    refine x_loop (X := Int × Int × Int) (fun x => mkS [(0, slI false list), (4, I x.1), (5, I x.2.1), (6, I x.2.2)] []) (fun x => (0 ≤ x.2.2 ∧ x.2.2 ≤ 13) ∧ (brS list x.2.2.toNat = (x.1, x.2.1)) ∧ (-1 ≤ x.2.1 ∧ x.2.1 ≤ 52000) ∧ True) (fun x => ((13 : Int) - x.2.2).toNat) (0, (-1), 0) rfl (show (0 ≤ (0 : Int) ∧ (0 : Int) ≤ 13) ∧ (brS list (0 : Int).toNat = ((0 : Int), (-1))) ∧ (-1 ≤ (-1) ∧ (-1) ≤ 52000) ∧ True from ⟨(by omega), (by rfl), (by omega), trivial⟩) (fun x hI => ?_)
    obtain ⟨best, least, k⟩ := x
    obtain ⟨hk0, hbr, hls, _⟩ : (0 ≤ k ∧ k ≤ 13) ∧ (brS list k.toNat = (best, least)) ∧ (-1 ≤ least ∧ least ≤ 52000) ∧ True := hI
    show XW _ _ _ _ (mkS [(0, slI false list), (4, I best), (5, I least), (6, I k)] []) _ _
    refine x_seq ?_
    refine x_seq ?_
    by_cases h1 : k ≤ 12
    ·have hkx : ((k.toNat : Nat) : Int) = k := by omega
     have hsb := sumR_bd (k := k) hx (by omega) (Nat.le_refl list.length)
     have hbs := sumR_bd (k := k) hx (by omega) (Nat.zero_le list.length)
     refine x_r [(1, .dec true)] [0, 4, 5, 6, 11] [] [slI false list, I best, I least, I k, Bv true] [] [k ≤ 12] ⟨h1, trivial⟩ ?_
     refine xe_then ?_
     refine x_true rfl ?_
     refine x_skip ?_
     refine xe_then ?_
     refine x_seq ?_
     refine x_block ?_
     refine xR [] [0, 4, 5, 6, 7] [] [slI false list, I best, I least, I k, I 0] [] [] trivial ?_
     refine x_seq ?_
     refine xR [] [0, 4, 5, 6, 7, 14, 15, 16] [] [slI false list, I best, I least, I k, I 0, slI false list, I (list.length : Int), I 0] [] [] trivial ?_
     refine x_block ?_
     refine x_loop (X := Int × Int) (fun x => mkS [(0, slI false list), (4, I best), (5, I least), (6, I k), (7, I x.1), (14, slI false list), (15, I (list.length : Int)), (16, I x.2)] []) (fun x => (0 ≤ x.2 ∧ x.2 ≤ (list.length : Int)) ∧ (x.1 = sumR list k x.2.toNat) ∧ True) (fun x => ((list.length : Int) - x.2).toNat) (0, 0) rfl (show (0 ≤ (0 : Int) ∧ (0 : Int) ≤ (list.length : Int)) ∧ ((0 : Int) = sumR list k (0 : Int).toNat) ∧ True from ⟨(by omega), (by rfl), trivial⟩) (fun x hI => ?_)
     obtain ⟨bs, t16⟩ := x
     obtain ⟨hi0, hbt, _⟩ : (0 ≤ t16 ∧ t16 ≤ (list.length : Int)) ∧ (bs = sumR list k t16.toNat) ∧ True := hI
     show XW _ _ _ _ (mkS [(0, slI false list), (4, I best), (5, I least), (6, I k), (7, I bs), (14, slI false list), (15, I (list.length : Int)), (16, I t16)] []) _ _
     refine x_seq ?_
     by_cases h2 : t16 < (list.length : Int)
     ·have hi : t16.toNat < list.length := by omega
      have hxi := hx _ (at_mem hi)
      have hlr := lenR_bd (k := k) hxi (by omega)
      have hsm := sumR_bd (k := k) hx (by omega) (m := t16.toNat) (by omega)
      refine x_r [(0, .dec true)] [0, 4, 5, 6, 7, 14, 15, 16, 17] [] [slI false list, I best, I least, I k, I bs, slI false list, I (list.length : Int), I t16, Bv true] [] [t16 < (list.length : Int)] ⟨h2, trivial⟩ ?_
      refine xe_then ?_
      refine x_seq ?_
      refine x_true rfl ?_
      refine x_skip ?_
      refine xe_then ?_
      refine x_seq ?_
      refine x_block ?_
      refine xR [] [0, 4, 5, 6, 7, 9, 14, 15, 16] [] [slI false list, I best, I least, I k, I bs, I (at_ list t16.toNat), slI false list, I (list.length : Int), I t16] [] [(0 : Int) ≤ t16 ∧ t16 < (list.length : Int)] ⟨⟨(by omega), (by omega)⟩, trivial⟩ ?_
      refine x_r [(3, .call [(true, .any), (true, .any)] true (I (lenR (at_ list t16.toNat) k)))] [0, 4, 5, 6, 7, 14, 15, 16] [] [slI false list, I best, I least, I k, I (bs + (lenR (at_ list t16.toNat) k)), slI false list, I (list.length : Int), I t16] [] [Con Tryd.prog 43 [I (at_ list t16.toNat), I k] true (I (lenR (at_ list t16.toNat) k)) ∧ True, inR .i64 (bs + (lenR (at_ list t16.toNat) k))] ⟨⟨(riceLength_ok (at_ list t16.toNat) k (by omega) (by omega)), trivial⟩, (inR_i64 (by omega) (by omega)), trivial⟩ ?_
      refine xe_block 3 ?_
      refine xe_then ?_
      refine x_r [] [0, 4, 5, 6, 7, 14, 15, 16] [] [slI false list, I best, I least, I k, I (bs + (lenR (at_ list t16.toNat) k)), slI false list, I (list.length : Int), I (t16 + 1)] [] [inR .i64 (t16 + 1)] ⟨(inR_i64 (by omega) (by omega)), trivial⟩ ?_
      exact xe_again ((bs + (lenR (at_ list t16.toNat) k)), (t16 + 1)) rfl (show (0 ≤ (t16 + 1) ∧ (t16 + 1) ≤ (list.length : Int)) ∧ ((bs + (lenR (at_ list t16.toNat) k)) = sumR list k (t16 + 1).toNat) ∧ True from ⟨(by omega), (by rw [show (t16 + 1).toNat = t16.toNat + 1 from by omega, sumR, ← hbt]), trivial⟩) (by first | (show (((list.length : Int) - (t16 + 1)).toNat : Nat) < ((list.length : Int) - t16).toNat; omega) | (dsimp only; omega))
     have hie : t16.toNat = list.length := by omega
     rw [hie] at hbt
     refine x_r [(0, .dec false)] [0, 4, 5, 6, 7, 14, 15, 16, 17] [] [slI false list, I best, I least, I k, I bs, slI false list, I (list.length : Int), I t16, Bv false] [] [¬ (t16 < (list.length : Int))] ⟨h2, trivial⟩ ?_
     refine xe_then ?_
     refine x_seq ?_
     refine x_false rfl ?_
     refine x_exit ?_
     refine xe_exit_then ?_
     refine xe_loop_exit ?_
     refine xe_exit_same ?_
     refine xe_then ?_
     refine x_seq ?_
     by_cases h3 : least < 0
     ·refine x_r [(1, .dec true)] [0, 4, 5, 6, 7, 32] [] [slI false list, I best, I least, I k, I bs, Bv true] [] [least < 0] ⟨h3, trivial⟩ ?_
      refine xe_then ?_
      refine x_true rfl ?_
      refine x_r [] [0, 4, 5, 6] [] [slI false list, I k, I bs, I k] [] [] trivial ?_
      refine xe_block 1 ?_
      refine xe_then ?_
      refine x_r [] [0, 4, 5, 6] [] [slI false list, I k, I bs, I (k + 1)] [] [inR .i64 (k + 1)] ⟨(inR_i64 (by omega) (by omega)), trivial⟩ ?_
      exact xe_again (k, bs, (k + 1)) rfl (show (0 ≤ (k + 1) ∧ (k + 1) ≤ 13) ∧ (brS list (k + 1).toNat = (k, bs)) ∧ (-1 ≤ bs ∧ bs ≤ 52000) ∧ True from ⟨(by omega), (by rw [show (k + 1).toNat = k.toNat + 1 from by omega, brS, hbr, hkx, ← hbt]; first | (rw [if_pos (by first | exact .inl (by assumption) | exact .inr (by assumption))]; done) | (rw [if_neg (fun z => by rcases z with z | z <;> simp only at z <;> omega)]; done)), (by omega), trivial⟩) (by first | (show (((13 : Int) - (k + 1)).toNat : Nat) < ((13 : Int) - k).toNat; omega) | (dsimp only; omega))
     by_cases h4 : bs < least
     ·refine x_r [(1, .dec false), (5, .dec true)] [0, 4, 5, 6, 7, 32] [] [slI false list, I best, I least, I k, I bs, Bv true] [] [¬ (least < 0), bs < least] ⟨h3, h4, trivial⟩ ?_
      refine xe_then ?_
      refine x_true rfl ?_
      refine x_r [] [0, 4, 5, 6] [] [slI false list, I k, I bs, I k] [] [] trivial ?_
      refine xe_block 1 ?_
      refine xe_then ?_
      refine x_r [] [0, 4, 5, 6] [] [slI false list, I k, I bs, I (k + 1)] [] [inR .i64 (k + 1)] ⟨(inR_i64 (by omega) (by omega)), trivial⟩ ?_
      exact xe_again (k, bs, (k + 1)) rfl (show (0 ≤ (k + 1) ∧ (k + 1) ≤ 13) ∧ (brS list (k + 1).toNat = (k, bs)) ∧ (-1 ≤ bs ∧ bs ≤ 52000) ∧ True from ⟨(by omega), (by rw [show (k + 1).toNat = k.toNat + 1 from by omega, brS, hbr, hkx, ← hbt]; first | (rw [if_pos (by first | exact .inl (by assumption) | exact .inr (by assumption))]; done) | (rw [if_neg (fun z => by rcases z with z | z <;> simp only at z <;> omega)]; done)), (by omega), trivial⟩) (by first | (show (((13 : Int) - (k + 1)).toNat : Nat) < ((13 : Int) - k).toNat; omega) | (dsimp only; omega))
     refine x_r [(1, .dec false), (5, .dec false)] [0, 4, 5, 6, 7, 32] [] [slI false list, I best, I least, I k, I bs, Bv false] [] [¬ (least < 0), ¬ (bs < least)] ⟨h3, h4, trivial⟩ ?_
     refine xe_then ?_
     refine x_false rfl ?_
     refine x_skip ?_
     refine xe_block 1 ?_
     refine xe_then ?_
     refine x_r [] [0, 4, 5, 6] [] [slI false list, I best, I least, I (k + 1)] [] [inR .i64 (k + 1)] ⟨(inR_i64 (by omega) (by omega)), trivial⟩ ?_
     exact xe_again (best, least, (k + 1)) rfl (show (0 ≤ (k + 1) ∧ (k + 1) ≤ 13) ∧ (brS list (k + 1).toNat = (best, least)) ∧ (-1 ≤ least ∧ least ≤ 52000) ∧ True from ⟨(by omega), (by rw [show (k + 1).toNat = k.toNat + 1 from by omega, brS, hbr, hkx, ← hbt]; first | (rw [if_pos (by first | exact .inl (by assumption) | exact .inr (by assumption))]; done) | (rw [if_neg (fun z => by rcases z with z | z <;> simp only at z <;> omega)]; done)), (by omega), trivial⟩) (by first | (show (((13 : Int) - (k + 1)).toNat : Nat) < ((13 : Int) - k).toNat; omega) | (dsimp only; omega))
    have hke : k.toNat = 13 := by omega
    rw [hke] at hbr
    refine x_r [(1, .dec false)] [0, 4, 5, 6, 11] [] [slI false list, I best, I least, I k, Bv false] [] [¬ (k ≤ 12)] ⟨h1, trivial⟩ ?_
    refine xe_then ?_
    refine x_false rfl ?_
    refine x_exit ?_
    refine xe_exit_then ?_
    refine xe_loop_exit ?_
    refine xe_exit_same ?_
    refine xe_then ?_
    refine xR [] [2, 3] [] [I best, I least] [] [] trivial ?_
    refine x_ret ?_
    refine xe_end (best, least) (show (best = (brS list 13).1) ∧ (least = (brS list 13).2) ∧ (True) from ⟨(by (rw [hbr])), (by (rw [hbr])), trivial⟩) (trivial) (.tup [I best, I least]) (by kernel_rfl) (.inl rfl) (fun _ => rfl) (fun _ => (by simp [tagged, taggedL]))
  obtain ⟨⟨b, s⟩, ⟨hh0, hh1, _⟩, hc⟩ := hh
  exact ⟨b, s, hh0, hh1, hc⟩


-- impl.BestRice
theorem BestRice_ok (list : List Int) (hl : list.length ≤ 60) (hx : ∀ x ∈ list, -1000000000 ≤ x ∧ x ≤ 1000000000) : ∃ (b : Int) (s : Int) (c : Int), (b = (brS list 13).1) ∧ (s = (brS list 13).2) ∧ (c = 0) ∧ Con Tryd.prog 12 [slI false list] true (.tup [I b, I s, I c]) := by
  have hh : ∃ r : Int × Int × Int, ((r.1 = (brS list 13).1) ∧ (r.2.1 = (brS list 13).2) ∧ (r.2.2 = 0) ∧ (True)) ∧ CallOK Tryd.prog 12 [slI false list] (lookO []) true (.tup [I r.1, I r.2.1, I r.2.2]) (lookO []) := by
    refine fn_okX (Φ := fun r : Int × Int × Int => (r.1 = (brS list 13).1) ∧ (r.2.1 = (brS list 13).2) ∧ (r.2.2 = 0) ∧ (True)) [] (fun r => []) (fn := Tryd.f12) (nt := 29) Tryd.func12 rfl rfl (args := [slI false list]) rfl (allcons (.inl ⟨rfl, tagI false _⟩) allnil) (res := fun r => .tup [I r.1, I r.2.1, I r.2.2]) ?_
    refine xR [] [0] [] [slI false list] [] [] trivial ?_
    refine x_seq ?_
    refine xR [(2, .dec false)] [0, 11] [] [slI false list, Bv false] [] [¬ (60 < (list.length : Int))] ⟨(by omega), trivial⟩ ?_
    refine x_false rfl ?_
    refine x_skip ?_
    refine xe_then ?_
    refine x_seq ?_
    refine xR [] [0, 12, 13, 14] [] [slI false list, slI false list, I (list.length : Int), I 0] [] [] trivial ?_
    refine x_block ?_
    refine x_loop (X := Int) (fun x => mkS [(0, slI false list), (12, slI false list), (13, I (list.length : Int)), (14, I x)] []) (fun x => (0 ≤ x ∧ x ≤ (list.length : Int)) ∧ True) (fun x => ((list.length : Int) - x).toNat) 0 rfl (show (0 ≤ (0 : Int) ∧ (0 : Int) ≤ (list.length : Int)) ∧ True from ⟨(by omega), trivial⟩) (fun x hI => ?_)
    obtain ⟨r, hxx⟩ : ∃ r : Int, r = x := ⟨x, rfl⟩
    subst hxx
    obtain ⟨hi0, _⟩ : (0 ≤ r ∧ r ≤ (list.length : Int)) ∧ True := hI
    show XW _ _ _ _ (mkS [(0, slI false list), (12, slI false list), (13, I (list.length : Int)), (14, I r)] []) _ _
    refine x_seq ?_
    by_cases h1 : r < (list.length : Int)
    ·have hi : r.toNat < list.length := by omega
     have hxi := hx _ (at_mem hi)
     refine x_r [(0, .dec true)] [0, 12, 13, 14, 15] [] [slI false list, slI false list, I (list.length : Int), I r, Bv true] [] [r < (list.length : Int)] ⟨h1, trivial⟩ ?_
     refine xe_then ?_
     refine x_seq ?_
     refine x_true rfl ?_
     refine x_skip ?_
     refine xe_then ?_
     refine x_seq ?_
     refine x_block ?_
     refine xR [] [0, 6, 12, 13, 14] [] [slI false list, I (at_ list r.toNat), slI false list, I (list.length : Int), I r] [] [(0 : Int) ≤ r ∧ r < (list.length : Int)] ⟨⟨(by omega), (by omega)⟩, trivial⟩ ?_
     refine xR [(1, .call [(true, .any)] true (Bv true))] [0, 12, 13, 14, 20] [] [slI false list, slI false list, I (list.length : Int), I r, Bv false] [] [Con Tryd.prog 26 [I (at_ list r.toNat)] true (Bv true) ∧ True] ⟨⟨(con_bool (resid_iff.2 hxi) (isResidual_ok (at_ list r.toNat))), trivial⟩, trivial⟩ ?_
     refine x_false rfl ?_
     refine x_skip ?_
     refine xe_block 1 ?_
     refine xe_then ?_
     refine x_r [] [0, 12, 13, 14] [] [slI false list, slI false list, I (list.length : Int), I (r + 1)] [] [inR .i64 (r + 1)] ⟨(inR_i64 (by omega) (by omega)), trivial⟩ ?_
     exact xe_again (r + 1) rfl (show (0 ≤ (r + 1) ∧ (r + 1) ≤ (list.length : Int)) ∧ True from ⟨(by omega), trivial⟩) (by first | (show (((list.length : Int) - (r + 1)).toNat : Nat) < ((list.length : Int) - r).toNat; omega) | (dsimp only; omega))
    refine x_r [(0, .dec false)] [0, 12, 13, 14, 15] [] [slI false list, slI false list, I (list.length : Int), I r, Bv false] [] [¬ (r < (list.length : Int))] ⟨h1, trivial⟩ ?_
    refine xe_then ?_
    refine x_seq ?_
    refine x_false rfl ?_
    refine x_exit ?_
    refine xe_exit_then ?_
    refine xe_loop_exit ?_
    refine xe_exit_same ?_
    refine xe_then ?_
    refine x_seq ?_
    obtain ⟨b_1, s_1, hx1_0, hx1_1, hc1⟩ := bestRice_ok list (by omega) hx
    refine x_r [(1, .call [(true, .any)] true (.tup [I b_1, I s_1]))] [7, 8] [] [I b_1, I s_1] [] [Con Tryd.prog 27 [slI false list] true (.tup [I b_1, I s_1]) ∧ True] ⟨⟨hc1, trivial⟩, trivial⟩ ?_
    refine xe_then ?_
    refine xR [] [2, 3, 4] [] [I b_1, I s_1, I 0] [] [] trivial ?_
    refine x_ret ?_
    refine xe_end (b_1, s_1, 0) (show (b_1 = (brS list 13).1) ∧ (s_1 = (brS list 13).2) ∧ (0 = 0) ∧ (True) from ⟨(by first | assumption | rfl), (by first | assumption | rfl), (by first | assumption | rfl), trivial⟩) (trivial) (.tup [I b_1, I s_1, I 0]) (by kernel_rfl) (.inl rfl) (fun _ => rfl) (fun _ => (by simp [tagged, taggedL]))
  obtain ⟨⟨b, s, c⟩, ⟨hh0, hh1, hh2, _⟩, hc⟩ := hh
  exact ⟨b, s, c, hh0, hh1, hh2, hc⟩


-- strings.Repeat
theorem repeat1_ok (s : ByteArray) (q : Int) (hs : s = ⟨#[49]⟩) (hq : 0 ≤ q ∧ q ≤ 100000) : Con Tryd.prog 45 [Sv s, I q] true (Sv (repB q)) := by
  subst hs
  obtain ⟨c, rfl⟩ : ∃ c : Nat, q = c := ⟨q.toNat, by omega⟩
  refine con_of_calls (vals := [.string ⟨#[49]⟩, .int .i64 c]) fun w _ => ?_
  by_cases h0 : c = 0
  · subst h0
    refine (Tryd.strings_Repeat_zero ⟨#[49]⟩ w).mono ?_
    rintro e w' ⟨rfl, rfl⟩
    exact ⟨rfl, Below.refl _ _⟩
  by_cases h1 : c = 1
  · subst h1
    refine (Tryd.strings_Repeat_one ⟨#[49]⟩ w).mono ?_
    rintro e w' ⟨rfl, rfl⟩
    exact ⟨rfl, Below.refl _ _⟩
  refine (Tryd.strings_Repeat_main ⟨#[49]⟩ c w (by omega) (by omega) (by show 1 * c ≤ _; omega) (by decide)).mono ?_
  rintro e w' ⟨rfl, hb⟩
  exact ⟨by rw [rep_repeat], hb⟩


-- impl.riceBits
theorem riceBits_ok (n : Int) (k : Int) (hn : -1000000000 ≤ n ∧ n ≤ 1000000000) (hk : 0 ≤ k ∧ k ≤ 12) : Con Tryd.prog 28 [I n, I k] true (Sv (riceB n k)) := by
  have hf := fold_bd hn
  have hdv := quo_bd (n := foldI n) (r := ((2 ^ k.toNat : Nat) : Int)) hf.1 (p2 _)
  have hmk := and_mask (u := foldI n) (k := k.toNat) hf.1 (by omega) (by omega)
  have hp := p2 k.toNat
  have hp12 : ((2 ^ k.toNat : Nat) : Int) ≤ 4096 := Int.ofNat_le.2 (Nat.pow_le_pow_right (by decide) (by omega : k.toNat ≤ 12))
  have hm1 := Int.emod_nonneg (foldI n) (b := ((2 ^ k.toNat : Nat) : Int)) (by omega)
  have hm2 := Int.emod_lt_of_pos (foldI n) hp
  refine fn_ok (fn := Tryd.f28) (nt := 29) Tryd.func28 rfl rfl rfl rfl (by simp [taggedL, tagged]) fun B hB => ?_
  refine aR [] [0, 1] [] [I n, I k] [] [] hB trivial ?_
  refine aR [(1, .call [(true, .any)] true (I (foldI n)))] [1, 5] [] [I k, I (foldI n)] [] [Con Tryd.prog 44 [I n] true (I (foldI n)) ∧ True] hB ⟨⟨(foldedOf_ok n (by omega)), trivial⟩, trivial⟩ ?_
  refine aw_seq ?_
  refine aR [] [1, 5, 6] [] [I k, I (foldI n), I ((foldI n) / ((2 ^ k.toNat : Nat) : Int))] [] [(0 : Int) ≤ k ∧ k ≤ ((IntKind.bits .i64 : Nat) : Int)] hB ⟨⟨(by omega), (show k ≤ (64 : Int) from by omega)⟩, trivial⟩ ?_
  refine aw_seq ?_
  by_cases h1 : ((foldI n) / ((2 ^ k.toNat : Nat) : Int)) < 20
  ·refine aw_r [(1, .dec true)] [1, 5, 6, 13] [] [I k, I (foldI n), I ((foldI n) / ((2 ^ k.toNat : Nat) : Int)), Bv true] [] [((foldI n) / ((2 ^ k.toNat : Nat) : Int)) < 20] hB ⟨h1, trivial⟩ ?_
   refine ae_then ?_
   refine aw_true rfl ?_
   refine aR [(1, .call [(true, .any), (true, .any)] true (Sv (repB ((foldI n) / ((2 ^ k.toNat : Nat) : Int))))), (9, .call [(true, .any), (true, .any)] true (Sv (numB (bitsI .and .i64 (foldI n) ((1 * ((2 ^ k.toNat : Nat) : Int)) - 1)) k)))] [4] [] [Sv (((repB ((foldI n) / ((2 ^ k.toNat : Nat) : Int))) ++ (⟨#[48]⟩ : ByteArray)) ++ (numB (bitsI .and .i64 (foldI n) ((1 * ((2 ^ k.toNat : Nat) : Int)) - 1)) k))] [] [Con Tryd.prog 45 [Sv (⟨#[49]⟩ : ByteArray), I ((foldI n) / ((2 ^ k.toNat : Nat) : Int))] true (Sv (repB ((foldI n) / ((2 ^ k.toNat : Nat) : Int)))) ∧ True, (repB ((foldI n) / ((2 ^ k.toNat : Nat) : Int))).size + (⟨#[48]⟩ : ByteArray).size ≤ 9223372036854775807, (0 : Int) ≤ k ∧ k ≤ ((IntKind.bits .i64 : Nat) : Int) ∧ inR .i64 (1 * ((2 ^ k.toNat : Nat) : Int)), inR .i64 ((1 * ((2 ^ k.toNat : Nat) : Int)) - 1), Con Tryd.prog 18 [I (bitsI .and .i64 (foldI n) ((1 * ((2 ^ k.toNat : Nat) : Int)) - 1)), I k] true (Sv (numB (bitsI .and .i64 (foldI n) ((1 * ((2 ^ k.toNat : Nat) : Int)) - 1)) k)) ∧ True, ((repB ((foldI n) / ((2 ^ k.toNat : Nat) : Int))) ++ (⟨#[48]⟩ : ByteArray)).size + (numB (bitsI .and .i64 (foldI n) ((1 * ((2 ^ k.toNat : Nat) : Int)) - 1)) k).size ≤ 9223372036854775807] hB ⟨⟨(repeat1_ok (⟨#[49]⟩ : ByteArray) ((foldI n) / ((2 ^ k.toNat : Nat) : Int)) rfl (by omega)), trivial⟩, (by (try simp only [ByteArray.size_append]); have h1 := repB_size (foldI n / ((2 ^ k.toNat : Nat) : Int)); have h2 : (⟨#[48]⟩ : ByteArray).size = 1 := rfl; have h3 := numB_size (foldI n % ((2 ^ k.toNat : Nat) : Int)) k; have h4 := repB_size 20; have h5 := numB_size (foldI n) 32; have h6 := numB_size (bitsI .and .i64 (foldI n) (1 * ((2 ^ k.toNat : Nat) : Int) - 1)) k; omega), ⟨(by omega), (show k ≤ (64 : Int) from by omega), (inR_i64 (by omega) (by omega))⟩, (inR_i64 (by omega) (by omega)), ⟨(numberBits_ok (bitsI .and .i64 (foldI n) ((1 * ((2 ^ k.toNat : Nat) : Int)) - 1)) k (by omega) (by omega)), trivial⟩, (by (try simp only [ByteArray.size_append]); have h1 := repB_size (foldI n / ((2 ^ k.toNat : Nat) : Int)); have h2 : (⟨#[48]⟩ : ByteArray).size = 1 := rfl; have h3 := numB_size (foldI n % ((2 ^ k.toNat : Nat) : Int)) k; have h4 := repB_size 20; have h5 := numB_size (foldI n) 32; have h6 := numB_size (bitsI .and .i64 (foldI n) (1 * ((2 ^ k.toNat : Nat) : Int) - 1)) k; omega), trivial⟩ ?_
   refine aw_ret ?_
   refine ae_ret_then ?_
   refine ae_ret hB (Sv (((repB ((foldI n) / ((2 ^ k.toNat : Nat) : Int))) ++ (⟨#[48]⟩ : ByteArray)) ++ (numB (bitsI .and .i64 (foldI n) ((1 * ((2 ^ k.toNat : Nat) : Int)) - 1)) k))) (by kernel_rfl) (.inl (by refine congrArg Sv ?_; unfold riceB; first | (rw [if_pos (by assumption), hmk]; done) | (rw [if_neg (by assumption)]; done))) rfl (fun _ => trivial)
  refine aw_r [(1, .dec false)] [1, 5, 6, 13] [] [I k, I (foldI n), I ((foldI n) / ((2 ^ k.toNat : Nat) : Int)), Bv false] [] [¬ (((foldI n) / ((2 ^ k.toNat : Nat) : Int)) < 20)] hB ⟨h1, trivial⟩ ?_
  refine ae_then ?_
  refine aw_false rfl ?_
  refine aw_skip ?_
  refine ae_then ?_
  refine aR [(0, .call [(true, .any), (true, .any)] true (Sv (repB 20))), (2, .call [(true, .any), (true, .any)] true (Sv (numB (foldI n) 32)))] [4] [] [Sv ((repB 20) ++ (numB (foldI n) 32))] [] [Con Tryd.prog 45 [Sv (⟨#[49]⟩ : ByteArray), I 20] true (Sv (repB 20)) ∧ True, Con Tryd.prog 18 [I (foldI n), I 32] true (Sv (numB (foldI n) 32)) ∧ True, (repB 20).size + (numB (foldI n) 32).size ≤ 9223372036854775807] hB ⟨⟨(repeat1_ok (⟨#[49]⟩ : ByteArray) 20 rfl (by omega)), trivial⟩, ⟨(numberBits_ok (foldI n) 32 (by omega) (by omega)), trivial⟩, (by (try simp only [ByteArray.size_append]); have h1 := repB_size (foldI n / ((2 ^ k.toNat : Nat) : Int)); have h2 : (⟨#[48]⟩ : ByteArray).size = 1 := rfl; have h3 := numB_size (foldI n % ((2 ^ k.toNat : Nat) : Int)) k; have h4 := repB_size 20; have h5 := numB_size (foldI n) 32; have h6 := numB_size (bitsI .and .i64 (foldI n) (1 * ((2 ^ k.toNat : Nat) : Int) - 1)) k; omega), trivial⟩ ?_
  refine aw_ret ?_
  refine ae_ret hB (Sv ((repB 20) ++ (numB (foldI n) 32))) (by kernel_rfl) (.inl (by refine congrArg Sv ?_; unfold riceB; first | (rw [if_pos (by assumption), hmk]; done) | (rw [if_neg (by assumption)]; done))) rfl (fun _ => trivial)


-- impl.RiceBits
theorem RiceBits_ok (n : Int) (k : Int) : Con Tryd.prog 13 [I n, I k] true (.tup [Sv ((riceR n k).1), I ((riceR n k).2)]) := by
  refine fn_ok (fn := Tryd.f13) (nt := 17) Tryd.func13 rfl rfl rfl rfl (by simp [taggedL, tagged]) fun B hB => ?_
  refine aR [] [0, 1] [] [I n, I k] [] [] hB trivial ?_
  refine aw_seq ?_
  refine aw_seq ?_
  rcases Bool.eq_false_or_eq_true (resid n) with h1 | h1
  ·have hrn := resid_iff.1 h1
   rcases Bool.eq_false_or_eq_true (inB k 0 12) with h2 | h2
   ·have hinh2 := inB_iff.1 h2
    refine aw_r [(1, .call [(true, .any)] true (Bv true)), (5, .call [(true, .any), (true, .any), (true, .any)] true (Bv true))] [0, 1, 13] [] [I n, I k, Bv false] [] [Con Tryd.prog 26 [I n] true (Bv true) ∧ True, Con Tryd.prog 17 [I k, I 0, I 12] true (Bv true) ∧ True] hB ⟨⟨(con_bool h1 (isResidual_ok n)), trivial⟩, ⟨(con_bool h2 (within_ok k 0 12)), trivial⟩, trivial⟩ ?_
    refine ae_then ?_
    refine aw_false rfl ?_
    refine aw_skip ?_
    refine ae_then ?_
    refine aR [(2, .call [(true, .any), (true, .any)] true (Sv (riceB n k)))] [4, 5] [] [Sv (riceB n k), I 0] [] [Con Tryd.prog 28 [I n, I k] true (Sv (riceB n k)) ∧ True] hB ⟨⟨(riceBits_ok n k (by omega) (by omega)), trivial⟩, trivial⟩ ?_
    refine aw_ret ?_
    refine ae_ret hB (.tup [Sv (riceB n k), I 0]) (by kernel_rfl) (.inl (by simp [riceR, *])) rfl (fun _ => (by simp [tagged, taggedL]))
   have hinh2 := (not_congr inB_iff).1 (Bool.eq_false_iff.1 h2)
   refine aw_r [(1, .call [(true, .any)] true (Bv true)), (5, .call [(true, .any), (true, .any), (true, .any)] true (Bv false))] [0, 1, 13] [] [I n, I k, Bv true] [] [Con Tryd.prog 26 [I n] true (Bv true) ∧ True, Con Tryd.prog 17 [I k, I 0, I 12] true (Bv false) ∧ True] hB ⟨⟨(con_bool h1 (isResidual_ok n)), trivial⟩, ⟨(con_bool h2 (within_ok k 0 12)), trivial⟩, trivial⟩ ?_
   refine ae_then ?_
   refine aw_true rfl ?_
   refine aR [] [4, 5] [] [Sv (⟨#[]⟩ : ByteArray), I 2] [] [] hB trivial ?_
   refine aw_ret ?_
   refine ae_ret_then ?_
   refine ae_ret hB (.tup [Sv (⟨#[]⟩ : ByteArray), I 2]) (by kernel_rfl) (.inl (by simp [riceR, *])) rfl (fun _ => (by simp [tagged, taggedL]))
  refine aw_r [(1, .call [(true, .any)] true (Bv false))] [0, 1, 13] [] [I n, I k, Bv true] [] [Con Tryd.prog 26 [I n] true (Bv false) ∧ True] hB ⟨⟨(con_bool h1 (isResidual_ok n)), trivial⟩, trivial⟩ ?_
  refine ae_then ?_
  refine aw_true rfl ?_
  refine aR [] [4, 5] [] [Sv (⟨#[]⟩ : ByteArray), I 2] [] [] hB trivial ?_
  refine aw_ret ?_
  refine ae_ret_then ?_
  refine ae_ret hB (.tup [Sv (⟨#[]⟩ : ByteArray), I 2]) (by kernel_rfl) (.inl (by simp [riceR, *])) rfl (fun _ => (by simp [tagged, taggedL]))


theorem sumR_rice {l : List Int} {k : Int} {i : Nat} (hl : ∀ x ∈ l, -1000000000 ≤ x ∧ x ≤ 1000000000) (hk : 0 ≤ k ∧ k ≤ 12) (hi : i < l.length) : ((riceR (at_ l i) k).1.size : Int) = lenR (at_ l i) k ∧ (riceR (at_ l i) k).2 = 0 := by
  have hx := hl _ (at_mem hi)
  rw [riceR_eq hx hk]
  exact ⟨riceB_size hx hk.1, rfl⟩

-- laws.FnBits
theorem fnBits_con (code : List Int) (more : List Int) (ok_code : ∀ y ∈ code, inR .u8 y) (ok_more : ∀ y ∈ more, inR .u8 y) : Con Tryd.prog 3 [slU8 false code, slU8 false more] true (Bv true) := by
  have hk0 := a2At_bd code 0 (n := 256) (by decide)
  have hk1 := a2At_bd code 1 (n := 256) (by decide)
  have hk2 := a2At_bd code 2 (n := 9) (by decide)
  refine fn_ok (fn := Tryd.f3) (nt := 157) Tryd.func3 rfl rfl rfl rfl (by simp [taggedL, tagged, tagU8]) fun B hB => ?_
  refine aw_lens (x := slU8 false code) 0 rfl (fun len_code => ?_)
  simp [LenOK, LenL, cU8, fU8, slU8] at len_code
  refine aw_lens (x := slU8 false more) 1 rfl (fun len_more => ?_)
  simp [LenOK, LenL, cU8, fU8, slU8] at len_more
  refine aR [] [0, 1] [] [slU8 false code, slU8 false more] [] [] hB trivial ?_
  refine aw_seq ?_
  refine aw_seq ?_
  rcases Bool.eq_false_or_eq_true (decide (3000 < (code.length : Int) ∨ 3000 < (more.length : Int))) with h1 | h1
  ·refine aw_r [(2, .call [(true, .any), (true, .any)] true (Bv true))] [0, 1, 24] [] [slU8 false code, slU8 false more, Bv true] [] [Con Tryd.prog 5 [slU8 false code, slU8 false more] true (Bv true) ∧ True] hB ⟨⟨(con_bool h1 (a2Long_ok code more)), trivial⟩, trivial⟩ ?_
   refine ae_then ?_
   refine aw_true rfl ?_
   refine aR [] [4] [] [Bv true] [] [] hB trivial ?_
   refine aw_ret ?_
   refine ae_ret_then ?_
   refine ae_ret hB (Bv true) (by kernel_rfl) (.inl rfl) rfl (fun _ => trivial)
  have hc : (∀ j, j < code.length → 0 ≤ at_ code j ∧ at_ code j ≤ 255) ∧ code.length ≤ 4611686018427387904 := ⟨fun j hj => ok_code _ (at_mem hj), by first | omega | (simp at h1; omega)⟩
  have hmore : (∀ j, j < more.length → 0 ≤ at_ more j ∧ at_ more j ≤ 255) ∧ more.length ≤ 4611686018427387904 := ⟨fun j hj => ok_more _ (at_mem hj), by first | omega | (simp at h1; omega)⟩
  refine aw_r [(2, .call [(true, .any), (true, .any)] true (Bv false))] [0, 1, 24] [] [slU8 false code, slU8 false more, Bv false] [] [Con Tryd.prog 5 [slU8 false code, slU8 false more] true (Bv false) ∧ True] hB ⟨⟨(con_bool h1 (a2Long_ok code more)), trivial⟩, trivial⟩ ?_
  refine ae_then ?_
  refine aw_false rfl ?_
  refine aw_skip ?_
  refine ae_then ?_
  refine aR [(1, .call [(true, .any), (true, .any), (true, .any)] true (I (a2AtI code 0 256))), (3, .call [(true, .any), (true, .any), (true, .any)] true (I (a2AtI code 1 256)))] [0, 1, 5] [] [slU8 false code, slU8 false more, I ((a2AtI code 0 256) + (256 * (a2AtI code 1 256)))] [] [Con Tryd.prog 6 [slU8 false code, I 0, I 256] true (I (a2AtI code 0 256)) ∧ True, Con Tryd.prog 6 [slU8 false code, I 1, I 256] true (I (a2AtI code 1 256)) ∧ True, inR .i64 (256 * (a2AtI code 1 256)), inR .i64 ((a2AtI code 0 256) + (256 * (a2AtI code 1 256)))] hB ⟨⟨(a2At_ok code 0 256 hc.1 (by omega)), trivial⟩, ⟨(a2At_ok code 1 256 hc.1 (by omega)), trivial⟩, (inR_i64 (by omega) (by omega)), (inR_i64 (by omega) (by omega)), trivial⟩ ?_
  refine aR [(2, .call [(true, .any), (true, .any), (true, .any)] true (I (a2AtI code 2 9))), (4, .call [(true, .any), (true, .any)] true (.tup [Sv (numB ((a2AtI code 0 256) + (256 * (a2AtI code 1 256))) (16 + (a2AtI code 2 9))), I 0]))] [1, 6, 7] [] [slU8 false more, Sv (numB ((a2AtI code 0 256) + (256 * (a2AtI code 1 256))) (16 + (a2AtI code 2 9))), I 0] [] [Con Tryd.prog 6 [slU8 false code, I 2, I 9] true (I (a2AtI code 2 9)) ∧ True, inR .i64 (16 + (a2AtI code 2 9)), Con Tryd.prog 7 [I ((a2AtI code 0 256) + (256 * (a2AtI code 1 256))), I (16 + (a2AtI code 2 9))] true (.tup [Sv (numB ((a2AtI code 0 256) + (256 * (a2AtI code 1 256))) (16 + (a2AtI code 2 9))), I 0]) ∧ True] hB ⟨⟨(a2At_ok code 2 9 hc.1 (by omega)), trivial⟩, (inR_i64 (by omega) (by omega)), ⟨(NumberBits_ok ((a2AtI code 0 256) + (256 * (a2AtI code 1 256))) (16 + (a2AtI code 2 9)) (by omega) (by omega)), trivial⟩, trivial⟩ ?_
  refine aw_seq ?_
  obtain ⟨v_1, c_1, hx1_0, hx1_1, hc1⟩ := PackBits_ok (numB ((a2AtI code 0 256) + (256 * (a2AtI code 1 256))) (16 + (a2AtI code 2 9))) (numB_ok (by omega))
  have hps := numB_size ((a2AtI code 0 256) + (256 * (a2AtI code 1 256))) (16 + (a2AtI code 2 9))
  have hpk := hx1_0
  have hus := unp_pack (numB_ok (by omega)) hpk
  have hpz := hpk.1
  refine aw_r [(1, .call [(true, .any)] true (.tup [Sv v_1, I c_1]))] [1, 6, 7, 8, 9] [] [slU8 false more, Sv (numB ((a2AtI code 0 256) + (256 * (a2AtI code 1 256))) (16 + (a2AtI code 2 9))), I 0, Sv v_1, I c_1] [] [Con Tryd.prog 8 [Sv (numB ((a2AtI code 0 256) + (256 * (a2AtI code 1 256))) (16 + (a2AtI code 2 9)))] true (.tup [Sv v_1, I c_1]) ∧ True] hB ⟨⟨hc1, trivial⟩, trivial⟩ ?_
  refine ae_then ?_
  refine aw_seq ?_
  obtain ⟨v_2, c_2, hx2_0, hx2_1, hc2⟩ := UnpackBits_ok v_1 (by omega)
  rw [← hx2_0] at hus
  have hpre := pre_eq (by omega) hus.2
  refine aw_r [(1, .call [(true, .any)] true (.tup [Sv v_2, I c_2]))] [1, 6, 7, 9, 10, 11] [] [slU8 false more, Sv (numB ((a2AtI code 0 256) + (256 * (a2AtI code 1 256))) (16 + (a2AtI code 2 9))), I 0, I c_1, Sv v_2, I c_2] [] [Con Tryd.prog 9 [Sv v_1] true (.tup [Sv v_2, I c_2]) ∧ True] hB ⟨⟨hc2, trivial⟩, trivial⟩ ?_
  refine ae_then ?_
  refine aw_seq ?_
  refine aR [(1, .dec false), (4, .dec false), (8, .dec false), (13, .dec false), (20, .dec false), (28, .dec false), (36, .dec false)] [1, 86] [] [slU8 false more, Bv false] [] [¬ ((0 : Int) ≠ 0), ¬ (c_1 ≠ 0), ¬ (c_2 ≠ 0), ¬ (((numB ((a2AtI code 0 256) + (256 * (a2AtI code 1 256))) (16 + (a2AtI code 2 9))).size : Int) < 16), ¬ ((v_2.size : Int) < ((numB ((a2AtI code 0 256) + (256 * (a2AtI code 1 256))) (16 + (a2AtI code 2 9))).size : Int)), inR .i64 (((numB ((a2AtI code 0 256) + (256 * (a2AtI code 1 256))) (16 + (a2AtI code 2 9))).size : Int) + 7), ¬ ((((numB ((a2AtI code 0 256) + (256 * (a2AtI code 1 256))) (16 + (a2AtI code 2 9))).size : Int) + 7) < (v_2.size : Int)), (0 : Int) ≤ 0 ∧ (0 : Int) ≤ ((numB ((a2AtI code 0 256) + (256 * (a2AtI code 1 256))) (16 + (a2AtI code 2 9))).size : Int) ∧ ((numB ((a2AtI code 0 256) + (256 * (a2AtI code 1 256))) (16 + (a2AtI code 2 9))).size : Int) ≤ (v_2.size : Int), ¬ ((v_2.extract 0 ((numB ((a2AtI code 0 256) + (256 * (a2AtI code 1 256))) (16 + (a2AtI code 2 9))).size : Int).toNat) ≠ (numB ((a2AtI code 0 256) + (256 * (a2AtI code 1 256))) (16 + (a2AtI code 2 9))))] hB ⟨(fun hq => hq (by decide)), (fun hq => hq (by assumption)), (fun hq => hq (by assumption)), (by omega), (by omega), (inR_i64 (by omega) (by omega)), (by omega), ⟨(by omega), (by omega), (by omega)⟩, (fun hq => hq hpre), trivial⟩ ?_
  refine aw_false rfl ?_
  refine aw_skip ?_
  refine ae_then ?_
  refine aw_seq ?_
  obtain ⟨v_3, hx3_0, hx3_1, hc3⟩ := A2Numbers_ok more (by assumption)
  have hax := hx3_1
  have hal := hx3_0
  obtain ⟨v_4, c_4, hx4_0, hx4_1, hc4⟩ := specResidualsOf_ok v_3 (by omega) (fun x hx => by have := hax x hx; omega)
  have hvl : v_4.length ≤ 20 := by rw [hx4_0, rsdL_len]; omega
  have hvx : ∀ x ∈ v_4, -1000000000 ≤ x ∧ x ≤ 1000000000 := by rw [hx4_0]; exact fun x hx => by have := rsdL_bd (B := 10000) (by decide) (fun x hx => by have := hax x hx; omega) x hx; omega
  refine aw_r [(1, .call [(true, .any)] true (slI true v_3)), (2, .call [(false, slI false v_3)] true (.tup [slI true v_4, I c_4]))] [12] [] [slI true v_4] [] [Con Tryd.prog 11 [slU8 false more] true (slI true v_3) ∧ True, Con Tryd.prog 10 [slI false v_3] true (.tup [slI true v_4, I c_4]) ∧ ((false = true → true = true) ∧ 1 = 1 ∧ v_3.length = v_3.length ∧ ∀ i_, i_ < v_3.length → (fI v_3) i_ = (fI v_3) i_ ∨ (AV.idsL ((fI v_3) i_) = [] ∧ leL (fun _ => none) false ((fI v_3) i_) ((fI v_3) i_))) ∧ True] hB ⟨⟨hc3, trivial⟩, ⟨hc4, ⟨(fun h => by cases h), rfl, rfl, fun i _ => .inl rfl⟩, trivial⟩, trivial⟩ ?_
  refine ae_then ?_
  refine aw_seq ?_
  obtain ⟨b_5, s_5, c_5, hx5_0, hx5_1, hx5_2, hc5⟩ := BestRice_ok v_4 (by omega) hvx
  have hbf := brS_first hvx (K := 12) (by decide)
  rw [← hx5_0, ← hx5_1] at hbf
  have hbz := sumR_bd (k := b_5) hvx (by omega) (Nat.le_refl v_4.length)
  refine aw_r [(1, .call [(false, slI false v_4)] true (.tup [I b_5, I s_5, I c_5]))] [12, 14, 15, 16] [] [slI true v_4, I b_5, I s_5, I c_5] [] [Con Tryd.prog 12 [slI false v_4] true (.tup [I b_5, I s_5, I c_5]) ∧ ((false = true → true = true) ∧ 1 = 1 ∧ v_4.length = v_4.length ∧ ∀ i_, i_ < v_4.length → (fI v_4) i_ = (fI v_4) i_ ∨ (AV.idsL ((fI v_4) i_) = [] ∧ leL (fun _ => none) false ((fI v_4) i_) ((fI v_4) i_))) ∧ True] hB ⟨⟨hc5, ⟨(fun h => by cases h), rfl, rfl, fun i _ => .inl rfl⟩, trivial⟩, trivial⟩ ?_
  refine ae_then ?_
  refine aw_seq ?_
  refine aR [(1, .dec false), (4, .dec false), (8, .dec false)] [12, 14, 15, 108] [] [slI true v_4, I b_5, I s_5, Bv false] [] [¬ (c_5 ≠ 0), ¬ (b_5 < 0), ¬ (12 < b_5)] hB ⟨(fun hq => hq (by assumption)), (by omega), (by omega), trivial⟩ ?_
  refine aw_false rfl ?_
  refine aw_skip ?_
  refine ae_then ?_
  refine aw_seq ?_
  refine aR [] [12, 14, 15, 17] [] [slI true v_4, I b_5, I s_5, I 0] [] [] hB trivial ?_
  refine aw_block ?_
  refine aw_loop (fun gn gσ => ∃ (p : Int), gn = ((13 : Int) - p).toNat ∧ (0 ≤ p ∧ p ≤ 13) ∧ gσ = mkS [(12, slI true v_4), (14, I b_5), (15, I s_5), (17, I p)] []) (((13 : Int) - 0).toNat) ⟨0, rfl, (by omega), rfl⟩ (fun gn gσ hI => ?_)
  obtain ⟨p, rfl, hp0, rfl⟩ := hI
  refine aw_seq ?_
  refine aw_seq ?_
  by_cases h2 : p ≤ 12
  ·have hpf := hbf.2.2 p (by omega) (by omega)
   refine aw_r [(1, .dec true)] [12, 14, 15, 17, 110] [] [slI true v_4, I b_5, I s_5, I p, Bv true] [] [p ≤ 12] hB ⟨h2, trivial⟩ ?_
   refine ae_then ?_
   refine aw_true rfl ?_
   refine aw_skip ?_
   refine ae_then ?_
   refine aw_seq ?_
   refine aw_block ?_
   refine aR [] [12, 14, 15, 17, 18] [] [slI true v_4, I b_5, I s_5, I p, I 0] [] [] hB trivial ?_
   refine aw_seq ?_
   refine aR [] [12, 14, 15, 17, 18, 19] [] [slI true v_4, I b_5, I s_5, I p, I 0, I 0] [] [] hB trivial ?_
   refine aw_block ?_
   refine aw_loop (fun gn gσ => ∃ (sum : Int) (i : Int), gn = ((v_4.length : Int) - i).toNat ∧ (0 ≤ i ∧ i ≤ (v_4.length : Int)) ∧ (sum = sumR v_4 p i.toNat) ∧ gσ = mkS [(12, slI true v_4), (14, I b_5), (15, I s_5), (17, I p), (18, I sum), (19, I i)] []) (((v_4.length : Int) - 0).toNat) ⟨0, 0, rfl, (by omega), (by rfl), rfl⟩ (fun gn gσ hI => ?_)
   obtain ⟨sum, i, rfl, hi0, hsu, rfl⟩ := hI
   refine aw_seq ?_
   refine aw_seq ?_
   by_cases h3 : i < (v_4.length : Int)
   ·have hi : i.toNat < v_4.length := by omega
    have hrr := sumR_rice hvx (k := p) (by omega) hi
    have hsm := sumR_bd (k := p) hvx (by omega) (m := i.toNat) (by omega)
    have hlr := lenR_bd (k := p) (hvx _ (at_mem hi)) (by omega)
    refine aw_r [(3, .dec true)] [12, 14, 15, 17, 18, 19, 116] [] [slI true v_4, I b_5, I s_5, I p, I sum, I i, Bv true] [] [i < (v_4.length : Int)] hB ⟨h3, trivial⟩ ?_
    refine ae_then ?_
    refine aw_true rfl ?_
    refine aw_skip ?_
    refine ae_then ?_
    refine aw_seq ?_
    refine aw_block ?_
    refine aR [(5, .call [(true, .any), (true, .any)] true (.tup [Sv ((riceR (at_ v_4 i.toNat) p).1), I ((riceR (at_ v_4 i.toNat) p).2)]))] [12, 14, 15, 17, 18, 19, 20, 21] [] [slI true v_4, I b_5, I s_5, I p, I sum, I i, Sv ((riceR (at_ v_4 i.toNat) p).1), I ((riceR (at_ v_4 i.toNat) p).2)] [] [(0 : Int) ≤ i ∧ i < (v_4.length : Int), Con Tryd.prog 13 [I (at_ v_4 i.toNat), I p] true (.tup [Sv ((riceR (at_ v_4 i.toNat) p).1), I ((riceR (at_ v_4 i.toNat) p).2)]) ∧ True] hB ⟨⟨(by omega), (by omega)⟩, ⟨(RiceBits_ok (at_ v_4 i.toNat) p), trivial⟩, trivial⟩ ?_
    refine aw_seq ?_
    refine aR [(1, .dec false)] [12, 14, 15, 17, 18, 19, 20, 129] [] [slI true v_4, I b_5, I s_5, I p, I sum, I i, Sv ((riceR (at_ v_4 i.toNat) p).1), Bv false] [] [¬ (((riceR (at_ v_4 i.toNat) p).2) ≠ 0)] hB ⟨(fun hq => hq hrr.2), trivial⟩ ?_
    refine aw_false rfl ?_
    refine aw_skip ?_
    refine ae_then ?_
    refine aw_r [] [12, 14, 15, 17, 18, 19] [] [slI true v_4, I b_5, I s_5, I p, I (sum + (((riceR (at_ v_4 i.toNat) p).1).size : Int)), I i] [] [inR .i64 (sum + (((riceR (at_ v_4 i.toNat) p).1).size : Int))] hB ⟨(inR_i64 (by omega) (by omega)), trivial⟩ ?_
    refine ae_block 3 ?_
    refine ae_then ?_
    refine aw_r [] [12, 14, 15, 17, 18, 19] [] [slI true v_4, I b_5, I s_5, I p, I (sum + (((riceR (at_ v_4 i.toNat) p).1).size : Int)), I (i + 1)] [] [inR .i64 (i + 1)] hB ⟨(inR_i64 (by omega) (by omega)), trivial⟩ ?_
    exact ae_again _ (by omega) ⟨(sum + (((riceR (at_ v_4 i.toNat) p).1).size : Int)), (i + 1), rfl, (by omega), (by rw [show (i + 1).toNat = i.toNat + 1 from by omega, sumR, hrr.1, ← hsu]), rfl⟩
   have hie : i.toNat = v_4.length := by omega
   rw [hie] at hsu
   refine aw_r [(3, .dec false)] [12, 14, 15, 17, 18, 19, 116] [] [slI true v_4, I b_5, I s_5, I p, I sum, I i, Bv false] [] [¬ (i < (v_4.length : Int))] hB ⟨h3, trivial⟩ ?_
   refine ae_then ?_
   refine aw_false rfl ?_
   refine aw_exit ?_
   refine ae_exit_then ?_
   refine ae_exit_then ?_
   refine ae_exit_same ?_
   refine ae_then ?_
   refine aw_seq ?_
   by_cases h4 : p < b_5
   ·by_cases h5 : sum = s_5
    ·refine aw_r [(2, .dec false), (6, .dec true), (10, .dec true)] [12, 14, 15, 17, 156] [] [slI true v_4, I b_5, I s_5, I p, Bv true] [] [¬ (sum < s_5), p < b_5, sum = s_5] hB ⟨(by rw [hsu]; omega), h4, h5, trivial⟩ ?_
     refine ae_then ?_
     refine aw_true rfl ?_
     refine aR [] [4] [] [Bv false] [] [] hB trivial ?_
     refine aw_ret ?_
     refine ae_ret_block (ae_ret_then (ae_ret_then (ae_ret_block (ae_ret_then ?_))))
     refine ae_ret hB (Bv false) (by kernel_rfl) (.inl (by first | rfl | (exfalso; omega))) rfl (fun _ => trivial)
    by_cases h6 : p = b_5
    ·have hpe := hbf.2.1
     rw [← h6] at hpe
     refine aw_r [(2, .dec false), (6, .dec true), (10, .dec false), (16, .dec true), (20, .dec true)] [12, 14, 15, 17, 156] [] [slI true v_4, I b_5, I s_5, I p, Bv true] [] [¬ (sum < s_5), p < b_5, ¬ (sum = s_5), p = b_5, sum ≠ s_5] hB ⟨(by rw [hsu]; omega), h4, h5, h6, h5, trivial⟩ ?_
     refine ae_then ?_
     refine aw_true rfl ?_
     refine aR [] [4] [] [Bv false] [] [] hB trivial ?_
     refine aw_ret ?_
     refine ae_ret_block (ae_ret_then (ae_ret_then (ae_ret_block (ae_ret_then ?_))))
     refine ae_ret hB (Bv false) (by kernel_rfl) (.inl (by first | rfl | (exfalso; omega))) rfl (fun _ => trivial)
    refine aw_r [(2, .dec false), (6, .dec true), (10, .dec false), (16, .dec false)] [12, 14, 15, 17, 156] [] [slI true v_4, I b_5, I s_5, I p, Bv false] [] [¬ (sum < s_5), p < b_5, ¬ (sum = s_5), ¬ (p = b_5)] hB ⟨(by rw [hsu]; omega), h4, h5, h6, trivial⟩ ?_
    refine ae_then ?_
    refine aw_false rfl ?_
    refine aw_skip ?_
    refine ae_block 1 ?_
    refine ae_then ?_
    refine aw_r [] [12, 14, 15, 17] [] [slI true v_4, I b_5, I s_5, I (p + 1)] [] [inR .i64 (p + 1)] hB ⟨(inR_i64 (by omega) (by omega)), trivial⟩ ?_
    exact ae_again _ (by omega) ⟨(p + 1), rfl, (by omega), rfl⟩
   by_cases h7 : p = b_5
   ·have hpe := hbf.2.1
    rw [← h7] at hpe
    by_cases h8 : sum = s_5
    ·refine aw_r [(2, .dec false), (6, .dec false), (16, .dec true), (20, .dec false)] [12, 14, 15, 17, 156] [] [slI true v_4, I b_5, I s_5, I p, Bv false] [] [¬ (sum < s_5), ¬ (p < b_5), p = b_5, ¬ (sum ≠ s_5)] hB ⟨(by rw [hsu]; omega), h4, h7, (fun hq => hq h8), trivial⟩ ?_
     refine ae_then ?_
     refine aw_false rfl ?_
     refine aw_skip ?_
     refine ae_block 1 ?_
     refine ae_then ?_
     refine aw_r [] [12, 14, 15, 17] [] [slI true v_4, I b_5, I s_5, I (p + 1)] [] [inR .i64 (p + 1)] hB ⟨(inR_i64 (by omega) (by omega)), trivial⟩ ?_
     exact ae_again _ (by omega) ⟨(p + 1), rfl, (by omega), rfl⟩
    refine aw_r [(2, .dec false), (6, .dec false), (16, .dec true), (20, .dec true)] [12, 14, 15, 17, 156] [] [slI true v_4, I b_5, I s_5, I p, Bv true] [] [¬ (sum < s_5), ¬ (p < b_5), p = b_5, sum ≠ s_5] hB ⟨(by rw [hsu]; omega), h4, h7, h8, trivial⟩ ?_
    refine ae_then ?_
    refine aw_true rfl ?_
    refine aR [] [4] [] [Bv false] [] [] hB trivial ?_
    refine aw_ret ?_
    refine ae_ret_block (ae_ret_then (ae_ret_then (ae_ret_block (ae_ret_then ?_))))
    refine ae_ret hB (Bv false) (by kernel_rfl) (.inl (by first | rfl | (exfalso; omega))) rfl (fun _ => trivial)
   refine aw_r [(2, .dec false), (6, .dec false), (16, .dec false)] [12, 14, 15, 17, 156] [] [slI true v_4, I b_5, I s_5, I p, Bv false] [] [¬ (sum < s_5), ¬ (p < b_5), ¬ (p = b_5)] hB ⟨(by rw [hsu]; omega), h4, h7, trivial⟩ ?_
   refine ae_then ?_
   refine aw_false rfl ?_
   refine aw_skip ?_
   refine ae_block 1 ?_
   refine ae_then ?_
   refine aw_r [] [12, 14, 15, 17] [] [slI true v_4, I b_5, I s_5, I (p + 1)] [] [inR .i64 (p + 1)] hB ⟨(inR_i64 (by omega) (by omega)), trivial⟩ ?_
   exact ae_again _ (by omega) ⟨(p + 1), rfl, (by omega), rfl⟩
  refine aw_r [(1, .dec false)] [12, 14, 15, 17, 110] [] [slI true v_4, I b_5, I s_5, I p, Bv false] [] [¬ (p ≤ 12)] hB ⟨h2, trivial⟩ ?_
  refine ae_then ?_
  refine aw_false rfl ?_
  refine aw_exit ?_
  refine ae_exit_then ?_
  refine ae_exit_then ?_
  refine ae_exit_same ?_
  refine ae_then ?_
  refine aR [] [4] [] [Bv true] [] [] hB trivial ?_
  refine aw_ret ?_
  refine ae_ret hB (Bv true) (by kernel_rfl) (.inl rfl) rfl (fun _ => trivial)


/-! ### the row -/

theorem opens_t22 : OpensA Tryd.prog 22 (cLU8 false) (fun xs => ∀ y ∈ xs, inR .u8 y) :=
  opensA_slice (c := cU8) (sz := 1) Tryd.underlying22 (by kernel_rfl) (by decide) (fun x => ⟨rfl, by simp [oneA, cU8]⟩) (opensA_int Tryd.underlying5)

namespace fnBits
set_option maxRecDepth 100000 in
theorem lifted (os : Os) (started : os.Started) (H : Type) (enc : TypeId × Value → H) :
    ReturnsInHanded {} Tryd.checked os 3 .any (fun w args => (Rows.fnBitsSpec.pre enc Tryd.prog Tryd.f3 Rows.fnBitsRow.domain false w args ∧ laidMetH Tryd.prog Rows.fnBitsRow.laid w) ∧ sizedMet enc Tryd.prog Tryd.f3 (OpenSpec.ofChange Rows.fnBitsSpec) false w args)
      (Rows.fnBitsSpec.post enc Tryd.prog Tryd.f3 false true false false) := by
  refine returnsInHanded_of_change_and (C := Tryd.checked) (X := fun w _ => laidMetH Tryd.prog Rows.fnBitsRow.laid w) (fun _ _ _ hh h => h.of_heap hh) Tryd.own started (by kernel_rfl) Tryd.func3
    (ChangeSpec.witness_shaped (enc := enc) (C := Tryd.checked) (os := os) (X := fun w _ => laidMetH Tryd.prog Rows.fnBitsRow.laid w) false (World.laidAll Tryd.prog os Rows.fnBitsRow.laid) #[.slice none 0 0, .slice none 0 0] 8 (World.laidAll_os _ _ _)
      (World.shaped_of_ZipB (by kernel_rfl) (by kernel_rfl)) (by kernel_rfl) (by kernel_rfl) (by kernel_rfl)
      (by rw [MakeChecks.laidMetH_plain _ _ _ (by kernel_rfl)]; exact laidMet_laidAll _ (by kernel_rfl) (by kernel_rfl))) ?_
  intro W base args ds gs before hval0 hW hcnd hsz hL _
  have hW' := hW
  obtain ⟨p, q, hA0, hV, rfl, hfz, hnd⟩ := hW
  have hval : ∀ (j : Nat) t v, Tryd.f3.params[j]? = some t → args[j]? = some v → Value.okWide Tryd.prog W .any base t v := hval0
  have hA : DataW.TrodAll enc Tryd.prog W 0 (fun _ => true) true Tryd.f3.params.toList args.toList ds p := hA0
  rw [Tryd.params3] at hA hval
  obtain ⟨v0, vs0, d0, ds0, p0, q0, hargs, rfl, rfl, h0, r0⟩ := trodAll_cons hA
  obtain ⟨v1, vs1, d1, ds1, p1, q1, rfl, rfl, rfl, h1, r1⟩ := trodAll_cons r0
  obtain ⟨rfl, rfl, rfl⟩ := trodAll_nil r1
  obtain rfl : args = #[v0, v1] := args_eq hargs
  obtain ⟨rfl, rfl⟩ := trodVars_none hV
  obtain ⟨fuel0, hf0⟩ := h0
  obtain ⟨A0, l0, c0, rfl⟩ := okWide_slice Tryd.underlying22 (hval 0 22 v0 rfl rfl)
  obtain ⟨x0, rx0, ok0⟩ := (opens_t22) enc W 0 _ _ _ _ _ hf0
  obtain ⟨fuel1, hf1⟩ := h1
  obtain ⟨A1, l1, c1, rfl⟩ := okWide_slice Tryd.underlying22 (hval 1 22 v1 rfl rfl)
  obtain ⟨x1, rx1, ok1⟩ := (opens_t22) enc W 0 _ _ _ _ _ hf1
  refine (walk_of0 (fnBits_con x0 x1 ok0 ok1) (fun w _ => WX_free w) (RelTL.cons (relTL_one rx0) (RelTL.cons (relTL_one rx1) RelTL.nil))).mono fun e W1 ⟨he, hb⟩ => ?_
  subst he
  exact ⟨_, rfl, law_post Tryd.laidOut rfl Tryd.underlying4 (of_decide_eq_true (by kernel_rfl)) rfl hW' hb rfl⟩

theorem over : Rows.fnBitsRow.holds Tryd.pinned (OpenSpec.ofChange Rows.fnBitsSpec) :=
  OpenClaim.holds_of_wide 3 Tryd.f3 rfl rfl rfl rfl rfl rfl rfl ⟨rfl, rfl, rfl, rfl, rfl⟩ rfl rfl rfl rfl rfl (by kernel_rfl) Tryd.func3 (by kernel_rfl)
    (of_decide_eq_true (by kernel_rfl)) (by unfold Func.isWrapper; first | (rw [if_pos (by decide +kernel)]; kernel_rfl) | (rw [if_neg (by decide +kernel)]; exact ⟨rfl, rfl⟩))
    (fun os started H enc _ => lifted os started H enc)

theorem proved : Rows.FnBitsCardSaid :=
  Claim7.holds_tied_plain_at .later [] [.data, .pinned] true (true, "1141e4948b3285b7d628d68456ea16e46f05d8ff5becc476f850241e21664656") false over (fun _ h => by cases h) (by kernel_rfl) (fun _ h => by cases h) fnBits_row_tie rfl ⟨rfl, rfl⟩ (by kernel_rfl) rfl
    (fun f fn hf hfn => by
      obtain rfl : f = 3 := Option.some.inj ((show Tryd.prog.funcNamed "loop.example/g00918/laws.FnBits" = some 3 by kernel_rfl).symm.trans hf) |>.symm
      obtain rfl : fn = Tryd.f3 := (Option.some.inj (Tryd.func3.symm.trans hfn)).symm
      exact ⟨by kernel_rfl, fun j t ht => by
        rw [Tryd.params3] at ht
        have hm : t ∈ [22, 22] := by simpa using Array.mem_of_getElem? ht
        have hall : ([22, 22].all fun u => !Tryd.prog.wantsStandIn u) = true := by kernel_rfl
        exact (show Tryd.prog.wantsStandIn t = false by simpa using List.all_eq_true.1 hall t hm)⟩)
    (by kernel_rfl)
#print axioms proved
end fnBits
end Go.Proofs.YtlkfodajddkomaaDoor.Ax
