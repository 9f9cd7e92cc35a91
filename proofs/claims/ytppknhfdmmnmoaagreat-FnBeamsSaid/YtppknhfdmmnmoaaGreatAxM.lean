/- The abstract run: short names, and lists as slices. Plain lemmas. No conditions. -/
import Derived.Test.YtppknhfdmmnmoaaGreatAxL
namespace Go.Proofs.YtppknhfdmmnmoaaGreat.Ax
open Go.RowKit
set_option linter.unusedVariables false
set_option linter.unusedSimpArgs false

abbrev I (n : Int) : AV := .val (.int .i64 n)
abbrev Bv (b : Bool) : AV := .val (.bool b)
abbrev Sv (s : ByteArray) : AV := .val (.string s)
abbrev nilA : AV := .val (.slice none 0 0)
def valOf : AV → Value
  | .val v => v
  | _ => undef
def at_ {α : Type} [Inhabited α] (xs : List α) (i : Nat) : α := xs.getD i default
def litF (cells : List AV) (sz : Nat) (q : Nat) : List AV := (cells.drop (q * sz)).take sz
theorem inR_i64 {n : Int} (h1 : -9223372036854775808 ≤ n) (h2 : n ≤ 9223372036854775807) : inR .i64 n := ⟨h1, h2⟩
theorem inR_u8 {n : Int} (h1 : 0 ≤ n) (h2 : n ≤ 255) : inR .u8 n := ⟨h1, h2⟩
theorem inR_u64 {n : Int} (h1 : 0 ≤ n) (h2 : n ≤ 18446744073709551615) : inR .u64 n := ⟨h1, h2⟩
theorem inR_u32 {n : Int} (h1 : 0 ≤ n) (h2 : n ≤ 4294967295) : inR .u32 n := ⟨h1, h2⟩
theorem inR_i8 {n : Int} (h1 : -128 ≤ n) (h2 : n ≤ 127) : inR .i8 n := ⟨h1, h2⟩
theorem inR_i16 {n : Int} (h1 : -32768 ≤ n) (h2 : n ≤ 32767) : inR .i16 n := ⟨h1, h2⟩
theorem inR_u16 {n : Int} (h1 : 0 ≤ n) (h2 : n ≤ 65535) : inR .u16 n := ⟨h1, h2⟩
theorem inR_i32 {n : Int} (h1 : -2147483648 ≤ n) (h2 : n ≤ 2147483647) : inR .i32 n := ⟨h1, h2⟩
theorem con_bool {P : Program} {f : FuncId} {a : List AV} {fr : Bool} {e b : Bool} (h : e = b) (c : Con P f a fr (Bv e)) : Con P f a fr (Bv b) := by subst h; exact c
theorem con_eq {P : Program} {f : FuncId} {a : List AV} {fr : Bool} {x y : AV} (h : x = y) (c : Con P f a fr x) : Con P f a fr y := by subst h; exact c
theorem aw_len {P : Program} {B : Base} {nt : Nat} {c : Code} {σ : St} {Q : Exit → Act → World → Prop} (t : Nat) {fr : Bool} {sz n : Nat} {f : Nat → List AV} (h : σ.tm t = .sl fr sz n f) (k : n ≤ 9223372036854775807 → AW P B nt c σ Q) : AW P B nt c σ Q := fun a w hs => by
  obtain ⟨κ, hm, hr⟩ := hs.ex
  have h0 := hr t
  rw [h] at h0
  have hn : n ≤ 9223372036854775807 := by
    have h1 := h0.toT rfl
    generalize a.tmps.getD t undef = v at h1
    cases h1 with
    | sl _ _ _ _ b o c g _ a1 a2 => unfold maxLen at a2; omega
    | sl0 => omega
  exact k hn a w hs
mutual
/-- All lengths in a tree are numbers. -/
def LenOK : AV → Prop
  | .sl _ _ n f => n ≤ 9223372036854775807 ∧ ∀ i, i < n → LenL (f i)
  | .ptr _ cs => LenL cs
  | .agg cs => LenL cs
  | .tup cs => LenL cs
  | .fn _ cs => LenL cs
  | _ => True
def LenL : List AV → Prop
  | [] => True
  | a :: r => LenOK a ∧ LenL r
end
theorem LenL_of : ∀ {cs : List AV}, (∀ (j : Nat) (u : AV), cs[j]? = some u → LenOK u) → LenL cs
  | [], _ => trivial
  | a :: r, h => ⟨h 0 a rfl, LenL_of fun j u hj => h (j + 1) u (by simpa using hj)⟩
theorem RelT.lens {w : World} {S : Bool → Nat → Prop} {a : AV} {v : Value} (h : RelT w S a v) : LenOK a := by
  have hex : ∀ {cs : List AV} {vs : Array Value} {j : Nat} {u : AV}, cs.length = vs.size → cs[j]? = some u → vs[j]? = some (vs.getD j undef) := fun {cs vs j u} hl hj => by
    have := (List.getElem?_eq_some_iff.1 hj).1
    rw [hl] at this
    simp [Array.getElem?_eq_getElem this]
  induction h with
  | any v => trivial
  | val v => trivial
  | agg cs vs h1 _ ih => exact LenL_of fun j u hj => ih j u _ hj (hex h1 hj)
  | tup cs vs h1 _ ih => exact LenL_of fun j u hj => ih j u _ hj (hex h1 hj)
  | fn f cs vs h1 _ ih => exact LenL_of fun j u hj => ih j u _ hj (hex h1 hj)
  | sl fr sz n f b o c g hb h1 h2 h3 h4 _ ih => exact ⟨by unfold maxLen at h2; omega, fun i hi => LenL_of fun j u hj => ih i j u hi hj⟩
  | sl0 fr sz f A c h => exact ⟨by omega, fun i hi => by omega⟩
  | e0 A => trivial
  | nilq n b h => trivial
  | ptr fr cs b o g hb h1 _ ih => exact LenL_of fun j u hj => ih j u hj
theorem Rel.lens {κ : Nat → Value} {w : World} {S : Bool → Nat → Prop} {a : AV} {v : Value} (h : Rel κ w S a v) : LenOK a := by
  have hex : ∀ {cs : List AV} {vs : Array Value} {j : Nat} {u : AV}, cs.length = vs.size → cs[j]? = some u → vs[j]? = some (vs.getD j undef) := fun {cs vs j u} hl hj => by
    have := (List.getElem?_eq_some_iff.1 hj).1
    rw [hl] at this
    simp [Array.getElem?_eq_getElem this]
  induction h with
  | tree a v h => exact h.lens
  | agg cs vs h1 _ ih => exact LenL_of fun j u hj => ih j u _ hj (hex h1 hj)
  | tup cs vs h1 _ ih => exact LenL_of fun j u hj => ih j u _ hj (hex h1 hj)
  | fn f cs vs h1 _ ih => exact LenL_of fun j u hj => ih j u _ hj (hex h1 hj)
  | ref => trivial
  | elt => trivial
  | arr => trivial
  | row => trivial
  | relt => trivial
  | mapr => trivial
  | win => trivial
theorem aw_lens {P : Program} {B : Base} {nt : Nat} {c : Code} {σ : St} {Q : Exit → Act → World → Prop} {x : AV} (t : Nat) (h : σ.tm t = x) (k : LenOK x → AW P B nt c σ Q) : AW P B nt c σ Q := fun a w hs => by
  obtain ⟨κ, hm, hr⟩ := hs.ex
  have h0 := hr t
  rw [h] at h0
  exact k h0.lens a w hs
section
variable {α : Type} [Inhabited α]
theorem at_get {xs : List α} {i : Nat} {x : α} (h : xs[i]? = some x) : at_ xs i = x := by simp [at_, h]
theorem get_at {xs : List α} {i : Nat} (h : i < xs.length) : xs[i]? = some (at_ xs i) := by simp [at_, List.getElem?_eq_getElem h]
theorem at_eq {xs : List α} {i : Nat} (h : i < xs.length) : at_ xs i = xs[i] := by simp [at_, List.getElem?_eq_getElem h]
theorem at_left {xs ys : List α} {i : Nat} (h : i < xs.length) : at_ (xs ++ ys) i = at_ xs i := by simp [at_, List.getElem?_append_left h]
theorem at_right {xs ys : List α} {i : Nat} (h : xs.length ≤ i) : at_ (xs ++ ys) i = at_ ys (i - xs.length) := by simp [at_, List.getElem?_append_right h]
theorem cut_take {enc : α → List AV} {xs : List α} {k i : Nat} (h : i < (xs.take k).length) : cutF 0 (fun i => enc (at_ xs i)) i = enc (at_ (xs.take k) i) := by
  have : i < k := by simp at h; omega
  simp [cutF, at_, List.getElem?_take, this]
theorem cut_drop {enc : α → List AV} {xs : List α} {l i : Nat} (h : i < (xs.drop l).length) : cutF l (fun i => enc (at_ xs i)) i = enc (at_ (xs.drop l) i) := by
  simp [cutF, at_]
theorem cut_both {enc : α → List AV} {xs : List α} {l k i : Nat} (h : i < ((xs.take k).drop l).length) : cutF l (fun i => enc (at_ xs i)) i = enc (at_ ((xs.take k).drop l) i) := by
  have : l + i < k := by simp at h; omega
  simp [cutF, at_, List.getElem?_take, this]
theorem cat_snoc {enc : α → List AV} {xs : List α} {x : α} {g : Nat → List AV} (hx : g 0 = enc x) (i : Nat) (hi : i < (xs ++ [x]).length) : catF xs.length (fun i => enc (at_ xs i)) g i = enc (at_ (xs ++ [x]) i) := by
  by_cases h : i < xs.length
  · rw [catF_lt h, at_left h]
  · have e : i = xs.length := by simp at hi; omega
    subst e
    rw [catF_ge (Nat.le_refl _), Nat.sub_self, hx, at_right (Nat.le_refl _)]
    simp [at_]
theorem cat_app {enc : α → List AV} {xs ys : List α} (i : Nat) (hi : i < (xs ++ ys).length) : catF xs.length (fun i => enc (at_ xs i)) (fun i => enc (at_ ys i)) i = enc (at_ (xs ++ ys) i) := by
  by_cases h : i < xs.length
  · rw [catF_lt h, at_left h]
  · rw [catF_ge (by omega), at_right (by omega)]
theorem cat_nil {f g : Nat → List AV} (i : Nat) : catF 0 f g i = g i := by rw [catF_ge (Nat.zero_le _), Nat.sub_zero]
theorem upd_enc {enc : α → List AV} {xs : List α} {k : Nat} {x : α} {cs : List AV} (hx : cs = enc x) (i : Nat) (hi : i < (xs.set k x).length) : (fun q => bif Nat.beq q k then cs else enc (at_ xs q)) i = enc (at_ (xs.set k x) i) := by
  have hi' : i < xs.length := by simpa using hi
  by_cases h : i = k
  · subst h
    simp [hx, at_, hi']
  · have : Nat.beq i k = false := Bool.eq_false_iff.2 fun e => h (Nat.eq_of_beq_eq_true e)
    have h' : ¬ k = i := fun e => h e.symm
    simp [this, at_, List.getElem?_set, h']
theorem rep_enc {enc : α → List AV} {n : Nat} {x : α} (i : Nat) (hi : i < (List.replicate n x).length) : enc (at_ (List.replicate n x) i) = enc x := by
  have hi' : i < n := by simpa using hi
  simp [at_, List.getElem?_replicate, hi']
theorem const_enc {enc : α → List AV} {n : Nat} {x : α} {cs : List AV} (hx : cs = enc x) (i : Nat) (hi : i < (List.replicate n x).length) : (fun _ : Nat => cs) i = enc (at_ (List.replicate n x) i) := by
  have hi' : i < n := by simpa using hi
  simp [hx, at_, List.getElem?_replicate, hi']
end
end Go.Proofs.YtppknhfdmmnmoaaGreat.Ax
