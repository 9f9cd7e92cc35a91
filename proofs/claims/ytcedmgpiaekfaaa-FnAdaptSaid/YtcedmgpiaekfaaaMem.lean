/- How data lie in memory: a value of a type is told by a relation between the cells that hold it, the world, and the blocks that its inner slices reach. Plain lemmas; no function of the program. No conditions. -/
import Derived.Test.YtcedmgpiaekfaaaRows
import Derived.WalkKit
import Derived.WalkSpells
import Derived.WalkLawsBesides
import Derived.ProofKit
import Derived.Lib.Hide
import Derived.Deep.Slices
import Derived.Deep.Fields
namespace Go.Proofs.Ytcedmgpiaekfaaa
open Go.RowKit Go.ChangeShapes Go.WideShapes Go.Deep
set_option linter.unusedVariables false

/-- How values of a type lie in cells: 'rel w S cs x': the cells cs hold x in the world w; S: the blocks that inner slices reach. -/
structure Rep (α : Type) where
  sz : Nat
  rel : World → (Nat → Prop) → List Value → α → Prop
  len : ∀ {w : World} {S : Nat → Prop} {cs : List Value} {x : α}, rel w S cs x → cs.length = sz
  keep : ∀ {w w' : World} {S S' : Nat → Prop} {cs : List Value} {x : α}, rel w S cs x → (∀ b, S b → w'.heap[b]? = w.heap[b]? ∧ S' b) → rel w' S' cs x

def intR : Rep Int := { sz := 1, rel := fun _ _ cs n => cs = [.int .i64 n], len := fun h => by rw [h]; rfl, keep := fun h _ => h }
def byteR : Rep UInt8 := { sz := 1, rel := fun _ _ cs n => cs = [.int .u8 n.toNat], len := fun h => by rw [h]; rfl, keep := fun h _ => h }
def boolR : Rep Bool := { sz := 1, rel := fun _ _ cs n => cs = [.bool n], len := fun h => by rw [h]; rfl, keep := fun h _ => h }
def strR : Rep ByteArray := { sz := 1, rel := fun _ _ cs n => cs = [.string n], len := fun h => by rw [h]; rfl, keep := fun h _ => h }

section
variable {α : Type}
/-- The elements xs stand at the address A. -/
def Cells (R : Rep α) (w : World) (S : Nat → Prop) (A : Option Addr) (xs : List α) : Prop :=
  xs ≠ [] → ∃ b o, A = some ⟨b, o, none⟩ ∧ S b ∧ b < w.heap.size ∧ ∀ i x, xs[i]? = some x → ∃ cs, R.rel w S cs x ∧ ∀ j u, cs[j]? = some u → w.cell? ⟨b, o + i * R.sz + j, none⟩ = some u
/-- The slice value v holds the elements xs. -/
def Sl (R : Rep α) (w : World) (S : Nat → Prop) (v : Value) (xs : List α) : Prop :=
  ∃ A c, v = .slice A xs.length c ∧ xs.length ≤ c ∧ c ≤ maxLen ∧ Cells R w S A xs

theorem Cells.keep {R : Rep α} {w w' : World} {S S' : Nat → Prop} {A : Option Addr} {xs : List α} (h : Cells R w S A xs) (hk : ∀ b, S b → w'.heap[b]? = w.heap[b]? ∧ S' b) : Cells R w' S' A xs := by
  intro hx
  obtain ⟨b, o, hA, hS, hlt, hcell⟩ := h hx
  have hb := hk b hS
  refine ⟨b, o, hA, hb.2, ?_, fun i x hi => ?_⟩
  · have h1 : w.heap[b]? = some w.heap[b] := Array.getElem?_eq_getElem hlt
    rw [h1] at hb
    exact (Array.getElem?_eq_some_iff.1 hb.1).1
  · obtain ⟨cs, hr, hcs⟩ := hcell i x hi
    refine ⟨cs, R.keep hr hk, fun j u hj => ?_⟩
    rw [← hcs j u hj]
    exact World.cell?_of_block (w := w) hb.1
theorem Cells.at_ {R : Rep α} {w : World} {S : Nat → Prop} {A : Option Addr} {xs : List α} (h : Cells R w S A xs) {i : Nat} {x : α} (hi : xs[i]? = some x) :
    ∃ b o cs, A = some ⟨b, o, none⟩ ∧ S b ∧ b < w.heap.size ∧ R.rel w S cs x ∧ ∀ j u, cs[j]? = some u → w.cell? ⟨b, o + i * R.sz + j, none⟩ = some u := by
  obtain ⟨b, o, hA, hS, hlt, hc⟩ := h (by rintro rfl; simp at hi)
  obtain ⟨cs, hr, hcs⟩ := hc i x hi
  exact ⟨b, o, cs, hA, hS, hlt, hr, hcs⟩

theorem Sl.keep {R : Rep α} {w w' : World} {S S' : Nat → Prop} {v : Value} {xs : List α} (h : Sl R w S v xs) (hk : ∀ b, S b → w'.heap[b]? = w.heap[b]? ∧ S' b) : Sl R w' S' v xs := by
  obtain ⟨A, c, hv, hc, hm, hne⟩ := h
  exact ⟨A, c, hv, hc, hm, hne.keep hk⟩

theorem Sl.below {R : Rep α} {w w' : World} {S : Nat → Prop} {v : Value} {xs : List α} {B : Nat} (h : Sl R w S v xs) (hb : Below B w w') (hS : ∀ b, S b → b < B) : Sl R w' S v xs :=
  h.keep fun b hs => ⟨hb.block b (hS b hs), hs⟩

theorem Sl.mono {R : Rep α} {w : World} {S S' : Nat → Prop} {v : Value} {xs : List α} (h : Sl R w S v xs) (hS : ∀ b, S b → S' b) : Sl R w S' v xs :=
  h.keep fun b hs => ⟨rfl, hS b hs⟩

theorem Sl.nil_ (R : Rep α) (w : World) (S : Nat → Prop) : Sl R w S (.slice none 0 0) [] := ⟨none, 0, rfl, Nat.le_refl _, Nat.zero_le _, fun h => absurd rfl h⟩

def slR (R : Rep α) : Rep (List α) :=
  { sz := 1, rel := fun w S cs xs => ∃ v, cs = [v] ∧ Sl R w S v xs, len := fun h => by obtain ⟨v, rfl, _⟩ := h; rfl, keep := fun h hk => by obtain ⟨v, rfl, h⟩ := h; exact ⟨v, rfl, h.keep hk⟩ }

/-- Everything below the heap's end. -/
def Old (w : World) (b : Nat) : Prop := b < w.heap.size
/-- Everything from block B on. -/
def New (B : Nat) (w : World) (b : Nat) : Prop := B ≤ b ∧ b < w.heap.size

theorem Old.up {B : Nat} {w w' : World} (hb : Below B w w') (hB : w.heap.size ≤ B) : ∀ b, Old w b → w'.heap[b]? = w.heap[b]? ∧ Old w' b :=
  fun b h => ⟨hb.block b (Nat.lt_of_lt_of_le h hB), Nat.lt_of_lt_of_le h hb.size⟩
theorem Cells.up {R : Rep α} {w w' : World} {A : Option Addr} {xs : List α} (h : Cells R w (Old w) A xs) (hb : Below w.heap.size w w') : Cells R w' (Old w') A xs := h.keep (Old.up hb (Nat.le_refl _))
theorem Sl.up {R : Rep α} {w w' : World} {v : Value} {xs : List α} (h : Sl R w (Old w) v xs) (hb : Below w.heap.size w w') : Sl R w' (Old w') v xs := h.keep (Old.up hb (Nat.le_refl _))
theorem Rep.up (R : Rep α) {w w' : World} {cs : List Value} {x : α} (h : R.rel w (Old w) cs x) (hb : Below w.heap.size w w') : R.rel w' (Old w') cs x := R.keep h (Old.up hb (Nat.le_refl _))
theorem Sl.drew_ {R : Rep α} {w : World} {v : Value} {xs : List α} (h : Sl R w (Old w) v xs) : Sl R w.drew (Old w.drew) v xs := h.keep fun b hb => ⟨rfl, hb⟩
theorem Sl.drewN_ {R : Rep α} {w : World} {v : Value} {xs : List α} (h : Sl R w (Old w) v xs) (n : Nat) : Sl R (w.drewN n) (Old (w.drewN n)) v xs := h.keep fun b hb => ⟨rfl, hb⟩
/-- The value x stands from ⟨b, o⟩ on. -/
def At (R : Rep α) (w : World) (S : Nat → Prop) (b o : Nat) (cs : List Value) (x : α) : Prop := b < w.heap.size ∧ R.rel w S cs x ∧ ∀ j u, cs[j]? = some u → w.cell? ⟨b, o + j, none⟩ = some u
theorem At.up {R : Rep α} {w w' : World} {b o : Nat} {cs : List Value} {x : α} (h : At R w (Old w) b o cs x) (hb : Below w.heap.size w w') : At R w' (Old w') b o cs x :=
  ⟨Nat.lt_of_lt_of_le h.1 hb.size, R.up h.2.1 hb, fun j u hj => (hb.cell (p := ⟨b, o + j, none⟩) h.1).trans (h.2.2 j u hj)⟩
theorem At.drewN_ {R : Rep α} {w : World} {b o : Nat} {cs : List Value} {x : α} (h : At R w (Old w) b o cs x) (n : Nat) : At R (w.drewN n) (Old (w.drewN n)) b o cs x :=
  ⟨h.1, R.keep h.2.1 fun b hb => ⟨rfl, hb⟩, h.2.2⟩
theorem At.box (R : Rep α) {w : World} {cs : List Value} {x : α} (h : R.rel w (Old w) cs x) (e : TypeId) : At R (w.alloc (.cells cs.toArray e)) (Old (w.alloc (.cells cs.toArray e))) w.heap.size 0 cs x :=
  ⟨by simp, R.up h ((Below.refl _ _).alloc (Nat.le_refl _) _), fun j u hj => by
    rw [cell_of_row _ w.heap.size _ cs.toArray e (0, 0) (heap_alloc_new w _), Nat.zero_add]
    simpa using hj⟩
theorem Cells.atElem {R : Rep α} {w : World} {A : Option Addr} {xs : List α} (h : Cells R w (Old w) A xs) {i : Nat} {x : α} (hi : xs[i]? = some x) : ∃ b o cs, A = some ⟨b, o, none⟩ ∧ At R w (Old w) b (o + i * R.sz) cs x := by
  obtain ⟨b, o, cs, hA, hS, hlt, hr, hc⟩ := h.at_ hi
  exact ⟨b, o, cs, hA, hlt, hr, hc⟩
theorem Sl.old {R : Rep α} {w : World} {S : Nat → Prop} {v : Value} {xs : List α} (h : Sl R w S v xs) (hS : ∀ b, S b → b < w.heap.size) : Sl R w (Old w) v xs := h.mono hS
theorem Rep.below (R : Rep α) {w w' : World} {S : Nat → Prop} {cs : List Value} {x : α} {B : Nat} (h : R.rel w S cs x) (hb : Below B w w') (hS : ∀ b, S b → b < B) : R.rel w' S cs x :=
  R.keep h fun b hs => ⟨hb.block b (hS b hs), hs⟩
theorem Rep.mono (R : Rep α) {w : World} {S S' : Nat → Prop} {cs : List Value} {x : α} (h : R.rel w S cs x) (hS : ∀ b, S b → S' b) : R.rel w S' cs x :=
  R.keep h fun b hs => ⟨rfl, hS b hs⟩
end

/-- The blocks that are new since B and not frozen. -/
def Fresh (B : Nat) (w : World) (b : Nat) : Prop := B ≤ b ∧ b < w.heap.size ∧ ∀ o, w.frozen? ⟨b, o, none⟩ = false
theorem Fresh.below {B B' : Nat} {w w' : World} (hb : Below B' w w') (hB : w.heap.size ≤ B') : ∀ b, Fresh B w b → w'.heap[b]? = w.heap[b]? ∧ Fresh B w' b :=
  fun b ⟨h1, h2, h3⟩ => ⟨hb.block b (by omega), h1, by have := hb.size; omega, fun o => (hb.frozen (p := ⟨b, o, none⟩) (by show b < B'; omega)).trans (h3 o)⟩
theorem Fresh.more {B B' : Nat} {w : World} (h : B' ≤ B) : ∀ b, Fresh B w b → Fresh B' w b := fun b ⟨h1, h2, h3⟩ => ⟨by omega, h2, h3⟩
theorem Fresh.lt {B : Nat} {w : World} : ∀ b, Fresh B w b → b < w.heap.size := fun _ h => h.2.1
/-- From block B on, what was there is as it was. -/
structure Kp (B : Nat) (w w' : World) : Prop where
  size : w.heap.size ≤ w'.heap.size
  block : ∀ b, B ≤ b → b < w.heap.size → w'.heap[b]? = w.heap[b]?
theorem Kp.refl (B : Nat) (w : World) : Kp B w w := ⟨Nat.le_refl _, fun _ _ _ => rfl⟩
theorem Kp.drewN {B : Nat} {a w : World} (h : Kp B a w) (n : Nat) : Kp B a (w.drewN n) := ⟨h.size, h.block⟩
theorem Kp.drew {B : Nat} {a w : World} (h : Kp B a w) : Kp B a w.drew := ⟨h.size, h.block⟩
theorem Kp.alloc {B : Nat} {a w : World} (h : Kp B a w) (o : Obj) : Kp B a (w.alloc o) :=
  ⟨Nat.le_trans h.size (by simp), fun b h1 h2 => (Below.heap_alloc w o b (Nat.lt_of_lt_of_le h2 h.size)).trans (h.block b h1 h2)⟩
theorem Kp.setCell {B : Nat} {a w : World} (h : Kp B a w) {p : Addr} (hp : p.block < B) (u : Value) : Kp B a (w.setCell p u) :=
  ⟨by simpa [World.setCell] using h.size, fun b h1 h2 => (Below.heap_setCell w p u b (by omega)).trans (h.block b h1 h2)⟩
theorem Kp.newCell {B : Nat} {a w : World} (h : Kp B a w) {p : Addr} (hp : a.heap.size ≤ p.block) (u : Value) : Kp B a (w.setCell p u) :=
  ⟨by simpa [World.setCell] using h.size, fun b h1 h2 => (Below.heap_setCell w p u b (by omega)).trans (h.block b h1 h2)⟩
theorem Kp.below {B B' : Nat} {a w w' : World} (h : Kp B a w) (hb : Below B' w w') (hB : a.heap.size ≤ B') : Kp B a w' :=
  ⟨Nat.le_trans h.size hb.size, fun b h1 h2 => (hb.block b (by omega)).trans (h.block b h1 h2)⟩
theorem Kp.keep {B B0 : Nat} {w w' : World} (h : Kp B w w') (hB : B0 ≤ B) : ∀ b, Fresh B w b → w'.heap[b]? = w.heap[b]? ∧ Fresh B0 w' b :=
  fun b ⟨h1, h2, h3⟩ => ⟨h.block b h1 h2, by omega, by have := h.size; omega, fun o => (World.frozen?_of_block (w := w) (h.block b h1 h2)).trans (h3 o)⟩
section
variable {α : Type}
theorem Sl.kp {R : Rep α} {B B0 : Nat} {w w' : World} {v : Value} {xs : List α} (h : Sl R w (Fresh B w) v xs) (hk : Kp B w w') (hB : B0 ≤ B) : Sl R w' (Fresh B0 w') v xs := h.keep (hk.keep hB)
theorem Rep.kp (R : Rep α) {B B0 : Nat} {w w' : World} {cs : List Value} {x : α} (h : R.rel w (Fresh B w) cs x) (hk : Kp B w w') (hB : B0 ≤ B) : R.rel w' (Fresh B0 w') cs x := R.keep h (hk.keep hB)
theorem Sl.fresh_old {R : Rep α} {B : Nat} {w : World} {v : Value} {xs : List α} (h : Sl R w (Fresh B w) v xs) : Sl R w (Old w) v xs := h.mono Fresh.lt
theorem Rep.fresh_old (R : Rep α) {B : Nat} {w : World} {cs : List Value} {x : α} (h : R.rel w (Fresh B w) cs x) : R.rel w (Old w) cs x := R.mono h Fresh.lt
/-- The call returns a slice of new memory that holds xs. -/
def MadeS (R : Rep α) (w : World) (xs : List α) (e : Ending) (w' : World) : Prop := ∃ v, e = .returned v ∧ Sl R w' (Fresh w.heap.size w') v xs ∧ Below w.heap.size w w'
/-- The call returns a struct whose slices lie in new memory and that holds x. -/
def Made (R : Rep α) (w : World) (x : α) (e : Ending) (w' : World) : Prop := ∃ cs, e = .returned (.agg cs.toArray) ∧ R.rel w' (Fresh w.heap.size w') cs x ∧ Below w.heap.size w w'
end

/-- 'make' of n elements. -/
theorem make_n {P : Program} (t e : TypeId) (z : Value) (sz by_ : Nat) (ht : P.underlying t = some (.slice e)) (hi : (P.info? e).map (fun i => (i.zero, i.size, i.bytes)) = some (some z, sz, by_)) (hby : by_ ≤ 65536)
    (n : Nat) (hn : n ≤ 1048576) (w : World) : (Instr.makeSlice t (.int .i64 (n : Int)) (.int .i64 (n : Int))).run P w = .ok (.slice (some ⟨w.heap.size, 0, none⟩) n n) (w.alloc (.cells (madeCells z.cells (n * sz)) e)) := by
  obtain ⟨i, h1, h2, rfl, rfl⟩ := info_parts hi
  have hb : (i.bytes : Int) * (n : Int) ≤ 281474976710656 := by
    have h : i.bytes * n ≤ 65536 * 1048576 := Nat.mul_le_mul hby hn
    have h' : ((i.bytes * n : Nat) : Int) ≤ 281474976710656 := by omega
    rwa [Int.natCast_mul] at h'
  have hr := run_make (P := P) w t e i z ht h1 h2 .i64 .i64 n n (by omega) (Int.le_refl _) hb (by omega)
  simp only [Int.toNat_natCast] at hr
  exact hr

section
variable {α : Type}
/-- Block g, made for n elements, holds the first k of xs. -/
def Filled (R : Rep α) (w : World) (g : Nat) (e : TypeId) (n : Nat) (xs : List α) (k : Nat) : Prop :=
  ∃ cur : Array Value, w.heap[g]? = some (.cells cur e (0, 0)) ∧ cur.size = n * R.sz ∧
    ∀ i x, i < k → xs[i]? = some x → ∃ cs, R.rel w (Fresh (g + 1) w) cs x ∧ ∀ j u, cs[j]? = some u → cur[i * R.sz + j]? = some u
theorem Filled.start (R : Rep α) (w : World) (e : TypeId) (n : Nat) (xs : List α) (cur : Array Value) (h : cur.size = n * R.sz) : Filled R (w.alloc (.cells cur e)) w.heap.size e n xs 0 :=
  ⟨cur, heap_alloc_new w _, h, fun i x hi => absurd hi (Nat.not_lt_zero _)⟩
theorem Filled.lt {R : Rep α} {w : World} {g : Nat} {e : TypeId} {n : Nat} {xs : List α} {k : Nat} (h : Filled R w g e n xs k) : g < w.heap.size := by
  obtain ⟨cur, h1, _⟩ := h
  exact (Array.getElem?_eq_some_iff.1 h1).1
theorem Filled.sl {R : Rep α} {w : World} {g : Nat} {e : TypeId} {xs : List α} (h : Filled R w g e xs.length xs xs.length) (hm : xs.length ≤ maxLen) {B : Nat} (hB : B ≤ g) :
    Sl R w (Fresh B w) (.slice (some ⟨g, 0, none⟩) xs.length xs.length) xs := by
  have hlt := h.lt
  obtain ⟨cur, h1, h2, h3⟩ := h
  refine ⟨_, _, rfl, Nat.le_refl _, hm, fun _ => ⟨g, 0, rfl, ⟨hB, hlt, fun o => by simp [World.frozen?, h1]⟩, hlt, fun i x hi => ?_⟩⟩
  obtain ⟨cs, hr, hc⟩ := h3 i x (List.getElem?_eq_some_iff.1 hi).1 hi
  refine ⟨cs, R.mono hr (Fresh.more (by omega)), fun j u hj => ?_⟩
  rw [cell_of_row w g _ cur e (0, 0) h1, Nat.zero_add]
  exact hc j u hj
theorem Filled.cell {R : Rep α} {w : World} {g : Nat} {e : TypeId} {n : Nat} {xs : List α} {k : Nat} (h : Filled R w g e n xs k) (hk : k < n) (j : Nat) (hj : j < R.sz) : ∃ u, w.cell? ⟨g, k * R.sz + j, none⟩ = some u := by
  obtain ⟨cur, h1, h2, _⟩ := h
  have : k * R.sz + j < cur.size := by rw [h2]; exact Nat.lt_of_lt_of_le (by omega : k * R.sz + j < k * R.sz + R.sz) (by rw [← Nat.succ_mul]; exact Nat.mul_le_mul_right _ hk)
  exact ⟨cur[k * R.sz + j], by rw [cell_of_row w g _ cur e (0, 0) h1]; exact Array.getElem?_eq_getElem this⟩
theorem Filled.free {R : Rep α} {w : World} {g : Nat} {e : TypeId} {n : Nat} {xs : List α} {k : Nat} (h : Filled R w g e n xs k) (o : Nat) : w.frozen? ⟨g, o, none⟩ = false := by
  obtain ⟨cur, h1, _⟩ := h
  simp [World.frozen?, h1]
theorem Filled.below {R : Rep α} {w w' : World} {g : Nat} {e : TypeId} {n : Nat} {xs : List α} {k : Nat} (h : Filled R w g e n xs k) (hb : Below w.heap.size w w') : Filled R w' g e n xs k := by
  have hlt := h.lt
  obtain ⟨cur, h1, h2, h3⟩ := h
  refine ⟨cur, (hb.block g hlt).trans h1, h2, fun i x hi hx => ?_⟩
  obtain ⟨cs, hr, hc⟩ := h3 i x hi hx
  exact ⟨cs, R.keep hr (Fresh.below hb (Nat.le_refl _)), hc⟩
/-- The stores of an element's cells. -/
def storeAll (w : World) (g o : Nat) : List Value → World
  | [] => w
  | u :: us => storeAll (w.setCell ⟨g, o, none⟩ u) g (o + 1) us
theorem storeAll_block (g : Nat) (us : List Value) : ∀ (w : World) (o k : Nat), k ≠ g → (storeAll w g o us).heap[k]? = w.heap[k]? := by
  induction us with
  | nil => intro w o k _; rfl
  | cons u us ih => intro w o k hk; exact (ih _ _ k hk).trans (Below.heap_setCell _ _ _ _ hk)
theorem storeAll_size (g : Nat) (us : List Value) : ∀ (w : World) (o : Nat), (storeAll w g o us).heap.size = w.heap.size := by
  induction us with
  | nil => intro w o; rfl
  | cons u us ih => intro w o; exact (ih _ _).trans (by simp [World.setCell])
theorem storeAll_row (g : Nat) (e : TypeId) (us : List Value) : ∀ (w : World) (o : Nat) (cur : Array Value), w.heap[g]? = some (.cells cur e (0, 0)) → o + us.length ≤ cur.size →
    ∃ cur' : Array Value, (storeAll w g o us).heap[g]? = some (.cells cur' e (0, 0)) ∧ cur'.size = cur.size ∧ (∀ i, i < o → cur'[i]? = cur[i]?) ∧ (∀ j u, us[j]? = some u → cur'[o + j]? = some u) := by
  induction us with
  | nil => intro w o cur h _; exact ⟨cur, h, rfl, fun _ _ => rfl, fun j u hj => by simp at hj⟩
  | cons u us ih =>
    intro w o cur h hl
    simp only [List.length_cons] at hl
    obtain ⟨cur', h1, h2, h3, h4⟩ := ih (w.setCell ⟨g, o, none⟩ u) (o + 1) (cur.setIfInBounds o u) (heap_setCell_same w g o cur e u h) (by simp; omega)
    refine ⟨cur', h1, by simpa using h2, fun i hi => ?_, fun j v hj => ?_⟩
    · rw [h3 i (by omega), Array.getElem?_setIfInBounds, if_neg (by omega)]
    · cases j with
      | zero =>
        simp at hj
        subst hj
        rw [Nat.add_zero, h3 o (by omega), Array.getElem?_setIfInBounds, if_pos rfl, if_pos (by omega)]
      | succ j =>
        have := h4 j v (by simpa using hj)
        rw [← this]
        congr 1
        omega
theorem storeAll_below {B : Nat} {a : World} (g : Nat) (hg : B ≤ g) (us : List Value) : ∀ (w : World) (o : Nat), Below B a w → Below B a (storeAll w g o us) := by
  induction us with
  | nil => intro w o h; exact h
  | cons u us ih => intro w o h; exact ih _ _ (h.setCell hg u)
/-- One element more. w1: the world behind the callee that made the element. -/
theorem Filled.step {R : Rep α} {w w1 : World} {g : Nat} {e : TypeId} {n : Nat} {xs : List α} {k : Nat} (h : Filled R w g e n xs k) (hb : Below w.heap.size w w1) (hk : k < n)
    {x : α} (hx : xs[k]? = some x) {cs : List Value} (hr : R.rel w1 (Fresh w.heap.size w1) cs x) : Filled R (storeAll w1 g (k * R.sz) cs) g e n xs (k + 1) := by
  have hlt := h.lt
  obtain ⟨cur, h1, h2, h3⟩ := h.below hb
  have hlen := R.len hr
  have hfit : k * R.sz + cs.length ≤ cur.size := by rw [h2, hlen, ← Nat.succ_mul]; exact Nat.mul_le_mul_right _ hk
  obtain ⟨cur', r1, r2, r3, r4⟩ := storeAll_row g e cs w1 (k * R.sz) cur h1 hfit
  have kp : ∀ b, Fresh (g + 1) w1 b → (storeAll w1 g (k * R.sz) cs).heap[b]? = w1.heap[b]? ∧ Fresh (g + 1) (storeAll w1 g (k * R.sz) cs) b := by
    intro b ⟨f1, f2, f3⟩
    have hb' := storeAll_block g cs w1 (k * R.sz) b (by omega)
    exact ⟨hb', f1, by rw [storeAll_size]; exact f2, fun o => (World.frozen?_of_block (w := w1) hb').trans (f3 o)⟩
  refine ⟨cur', r1, by omega, fun i y hi hy => ?_⟩
  by_cases hik : i = k
  · subst hik
    rw [hx] at hy
    cases hy
    exact ⟨cs, R.keep (R.mono hr (Fresh.more (by omega))) kp, r4⟩
  · obtain ⟨cs', hr', hc'⟩ := h3 i y (by omega) hy
    refine ⟨cs', R.keep hr' kp, fun j u hj => ?_⟩
    have hj' : j < R.sz := by rw [← R.len hr']; exact (List.getElem?_eq_some_iff.1 hj).1
    have : i * R.sz + R.sz ≤ k * R.sz := by rw [← Nat.succ_mul]; exact Nat.mul_le_mul_right _ (by omega)
    rw [r3 _ (by omega)]
    exact hc' j u hj
end

/-- What is left of l behind b. -/
def szTake (l : Int) (b : Nat) : Int := if l < b then -1 else l - b
theorem szTake_of {l : Int} {b : Nat} (h : (b : Int) ≤ l) : szTake l b = l - b := by unfold szTake; rw [if_neg (by omega)]
theorem szTake_neg {l : Int} {b : Nat} (h : l < b) : szTake l b = -1 := by unfold szTake; rw [if_pos h]
theorem szTake_lt {l : Int} {b : Nat} (h0 : 0 ≤ l) : szTake l b < 0 ↔ l < b := by unfold szTake; split <;> omega

/-- Whether two things are the same. -/
def same {α : Type} [DecidableEq α] (x y : α) : Bool := decide (x = y)
theorem same_iff {α : Type} [DecidableEq α] {x y : α} : same x y = true ↔ x = y := by simp [same]
theorem same_self {α : Type} [DecidableEq α] (x : α) : same x x = true := by simp [same]
theorem same_not {α : Type} [DecidableEq α] {x y : α} (h : x ≠ y) : same x y = false := by simp [same, h]
theorem same_len {α : Type} [DecidableEq α] {x y : List α} (h : x.length ≠ y.length) : same x y = false := same_not (fun e => h (by rw [e]))
theorem take_snoc {α : Type} {l : List α} {k : Nat} {x : α} (h : l[k]? = some x) : l.take (k + 1) = l.take k ++ [x] := by
  obtain ⟨hk, rfl⟩ := List.getElem?_eq_some_iff.1 h
  exact List.take_succ_eq_append_getElem hk
theorem take_same_step {α : Type} {xs ys : List α} {k : Nat} {x : α} (h : xs.take k = ys.take k) (hx : xs[k]? = some x) (hy : ys[k]? = some x) : xs.take (k + 1) = ys.take (k + 1) := by
  rw [take_snoc hx, take_snoc hy, h]
theorem not_same_at {α : Type} [DecidableEq α] {xs ys : List α} {k : Nat} {x y : α} (hx : xs[k]? = some x) (hy : ys[k]? = some y) (h : x ≠ y) : same xs ys = false :=
  same_not (fun e => h (by subst e; rw [hx] at hy; exact Option.some.inj hy))
theorem str_ne {s t : ByteArray} (h : s ≠ t) : (s.toList == t.toList) = false := by
  rw [beq_eq_false_iff_ne]
  intro e
  apply h
  have e1 : s.data.toList = t.data.toList := by rw [← ByteArray.toList_eq, ← ByteArray.toList_eq]; exact e
  cases s; cases t
  simp at e1
  rw [e1]
theorem len_1 {α : Type} {cs : List α} (h : cs.length = 1) : ∃ c0, cs = [c0] := by
  cases cs with | nil => simp at h | cons c0 cs =>
  cases cs with | cons _ _ => simp at h | nil =>
  exact ⟨c0, rfl⟩
theorem len_2 {α : Type} {cs : List α} (h : cs.length = 2) : ∃ c0 c1, cs = [c0, c1] := by
  cases cs with | nil => simp at h | cons c0 cs =>
  cases cs with | nil => simp at h | cons c1 cs =>
  cases cs with | cons _ _ => simp at h | nil =>
  exact ⟨c0, c1, rfl⟩
theorem len_3 {α : Type} {cs : List α} (h : cs.length = 3) : ∃ c0 c1 c2, cs = [c0, c1, c2] := by
  cases cs with | nil => simp at h | cons c0 cs =>
  cases cs with | nil => simp at h | cons c1 cs =>
  cases cs with | nil => simp at h | cons c2 cs =>
  cases cs with | cons _ _ => simp at h | nil =>
  exact ⟨c0, c1, c2, rfl⟩
theorem len_4 {α : Type} {cs : List α} (h : cs.length = 4) : ∃ c0 c1 c2 c3, cs = [c0, c1, c2, c3] := by
  cases cs with | nil => simp at h | cons c0 cs =>
  cases cs with | nil => simp at h | cons c1 cs =>
  cases cs with | nil => simp at h | cons c2 cs =>
  cases cs with | nil => simp at h | cons c3 cs =>
  cases cs with | cons _ _ => simp at h | nil =>
  exact ⟨c0, c1, c2, c3, rfl⟩
theorem len_5 {α : Type} {cs : List α} (h : cs.length = 5) : ∃ c0 c1 c2 c3 c4, cs = [c0, c1, c2, c3, c4] := by
  cases cs with | nil => simp at h | cons c0 cs =>
  cases cs with | nil => simp at h | cons c1 cs =>
  cases cs with | nil => simp at h | cons c2 cs =>
  cases cs with | nil => simp at h | cons c3 cs =>
  cases cs with | nil => simp at h | cons c4 cs =>
  cases cs with | cons _ _ => simp at h | nil =>
  exact ⟨c0, c1, c2, c3, c4, rfl⟩
theorem len_6 {α : Type} {cs : List α} (h : cs.length = 6) : ∃ c0 c1 c2 c3 c4 c5, cs = [c0, c1, c2, c3, c4, c5] := by
  cases cs with | nil => simp at h | cons c0 cs =>
  cases cs with | nil => simp at h | cons c1 cs =>
  cases cs with | nil => simp at h | cons c2 cs =>
  cases cs with | nil => simp at h | cons c3 cs =>
  cases cs with | nil => simp at h | cons c4 cs =>
  cases cs with | nil => simp at h | cons c5 cs =>
  cases cs with | cons _ _ => simp at h | nil =>
  exact ⟨c0, c1, c2, c3, c4, c5, rfl⟩
theorem len_7 {α : Type} {cs : List α} (h : cs.length = 7) : ∃ c0 c1 c2 c3 c4 c5 c6, cs = [c0, c1, c2, c3, c4, c5, c6] := by
  cases cs with | nil => simp at h | cons c0 cs =>
  cases cs with | nil => simp at h | cons c1 cs =>
  cases cs with | nil => simp at h | cons c2 cs =>
  cases cs with | nil => simp at h | cons c3 cs =>
  cases cs with | nil => simp at h | cons c4 cs =>
  cases cs with | nil => simp at h | cons c5 cs =>
  cases cs with | nil => simp at h | cons c6 cs =>
  cases cs with | cons _ _ => simp at h | nil =>
  exact ⟨c0, c1, c2, c3, c4, c5, c6, rfl⟩
theorem len_8 {α : Type} {cs : List α} (h : cs.length = 8) : ∃ c0 c1 c2 c3 c4 c5 c6 c7, cs = [c0, c1, c2, c3, c4, c5, c6, c7] := by
  cases cs with | nil => simp at h | cons c0 cs =>
  cases cs with | nil => simp at h | cons c1 cs =>
  cases cs with | nil => simp at h | cons c2 cs =>
  cases cs with | nil => simp at h | cons c3 cs =>
  cases cs with | nil => simp at h | cons c4 cs =>
  cases cs with | nil => simp at h | cons c5 cs =>
  cases cs with | nil => simp at h | cons c6 cs =>
  cases cs with | nil => simp at h | cons c7 cs =>
  cases cs with | cons _ _ => simp at h | nil =>
  exact ⟨c0, c1, c2, c3, c4, c5, c6, c7, rfl⟩
theorem get_lt {α : Type} {l : List α} {k : Nat} (h : k < l.length) : ∃ x, l[k]? = some x := ⟨_, List.getElem?_eq_getElem h⟩

theorem bcell {W w1 : World} {B : Nat} (hb : Below B W w1) : (∀ b o, b < B → w1.cell? ⟨b, o, none⟩ = W.cell? ⟨b, o, none⟩) ∧ (∀ b o, b < B → w1.frozen? ⟨b, o, none⟩ = W.frozen? ⟨b, o, none⟩) :=
  ⟨fun b o h => hb.cell (p := ⟨b, o, none⟩) h, fun b o h => hb.frozen (p := ⟨b, o, none⟩) h⟩
theorem below_drewN {B : Nat} {a w : World} (h : Below B a w) (n : Nat) : Below B a (w.drewN n) := ⟨h.os, h.tape, h.output, h.size, h.block⟩
theorem ret_int {k : IntKind} {a b : Int} (h : a = b) : Ending.returned (.int k a) = .returned (.int k b) := by rw [h]
theorem ret_bool {a b : Bool} (h : a = b) : Ending.returned (.bool a) = .returned (.bool b) := by rw [h]

/-! ### opening an argument -/
section
variable {H : Type} {enc : TypeId × Value → H} {P : Program} {w : World} {base : Nat} {spare : Nat → Bool} {held : Bool}
/-- Whatever reads as data at type t is held by cells in R's sense, and meets 'ok'. -/
def Opens (P : Program) (t : TypeId) {α : Type} (R : Rep α) (ok : α → Prop) : Prop :=
  ∀ {H : Type} (enc : TypeId × Value → H) (w : World) (base : Nat) (spare : Nat → Bool) (held : Bool) (fuel : Nat) (cs : List Value) (y : DataW H × List MemPlace),
    DataW.trod enc P w base spare held fuel t cs = some y → ∃ x, R.rel w (Old w) cs x ∧ ok x

def okInt (n : Int) : Prop := -9223372036854775808 ≤ n ∧ n ≤ 9223372036854775807
def okStr (s : ByteArray) : Prop := s.size ≤ maxLen
theorem opens_int {t : TypeId} (ht : P.underlying t = some (.int .i64)) : Opens P t intR okInt := by
  intro H enc w base spare held fuel cs y h
  obtain ⟨n, rfl, _, hw⟩ := DataW.trod_int ht h
  simp [Lit.wf, IntKind.min, IntKind.max, IntKind.signed, IntKind.bits] at hw
  exact ⟨n, rfl, by unfold okInt; omega⟩
theorem opens_bool {t : TypeId} (ht : P.underlying t = some .bool) : Opens P t boolR (fun _ => True) := by
  intro H enc w base spare held fuel cs y h
  obtain ⟨n, rfl, _⟩ := DataW.trod_bool ht h
  exact ⟨n, rfl, trivial⟩
theorem opens_str {t : TypeId} (ht : P.underlying t = some .string) : Opens P t strR okStr := by
  intro H enc w base spare held fuel cs y h
  obtain ⟨s, rfl, _, hw⟩ := DataW.trod_string ht h
  exact ⟨s, rfl, hw⟩

theorem list_of_fn {α : Type} {n : Nat} {p : Nat → α → Prop} (h : ∀ i, i < n → ∃ x, p i x) : ∃ xs : List α, xs.length = n ∧ ∀ i x, xs[i]? = some x → p i x := by
  induction n with
  | zero => exact ⟨[], rfl, fun i x hi => by simp at hi⟩
  | succ n ih =>
    obtain ⟨xs, hl, hx⟩ := ih (fun i hi => h i (by omega))
    obtain ⟨x, hp⟩ := h n (by omega)
    refine ⟨xs ++ [x], by simp [hl], fun i y hi => ?_⟩
    rcases Nat.lt_trichotomy i n with hlt | rfl | hgt
    · rw [List.getElem?_append_left (by omega)] at hi
      exact hx i y hi
    · rw [List.getElem?_append_right (by omega), hl] at hi
      simp at hi
      subst hi
      exact hp
    · rw [List.getElem?_eq_none (by simp; omega)] at hi
      cases hi

theorem opens_slice {α : Type} {t e : TypeId} {R : Rep α} {ok : α → Prop} (ht : P.underlying t = some (.slice e)) (hC : P.cellsOf e = R.sz) (hpos : 0 < R.sz) (he : Opens P e R ok) :
    Opens P t (slR R) (fun xs => xs.length ≤ maxLen ∧ ∀ x ∈ xs, ok x) := by
  intro H enc w base spare held fuel cs y h
  rcases open_slice ht h with ⟨rfl, _⟩ | ⟨a, len, cap, m, n, D, Pl, rfl, hb, hl, hm, hmm, hx, hi⟩
  · exact ⟨[], ⟨_, rfl, Sl.nil_ _ _ _⟩, by simp⟩
  · have hle : len ≤ m := by rw [hmm]; split <;> omega
    obtain ⟨xs, hxl, hxs⟩ := list_of_fn (n := len) (p := fun i (x : α) => (∃ cs, R.rel w (Old w) cs x ∧ ∀ j u, cs[j]? = some u → w.cell? ((a.add (i * P.cellsOf e)).add j) = some u) ∧ ok x) (fun i hil => by
      obtain ⟨cs', hc, ht'⟩ := hi i (by omega)
      obtain ⟨x, hr, hok⟩ := he enc w base spare held _ _ _ ht'
      obtain ⟨_, hcl, hat⟩ := World.cells?_some hc
      refine ⟨x, ⟨cs', hr, fun j u hj => ?_⟩, hok⟩
      have hjl : j < cs'.length := (List.getElem?_eq_some_iff.1 hj).1
      rw [hat j (by omega), hj])
    refine ⟨xs, ⟨_, rfl, some a, cap, by rw [hxl], by omega, hm, fun hne => ?_⟩, by omega, fun x hx' => ?_⟩
    · have hpos' : 0 < len := by rw [← hxl]; exact List.length_pos_iff.2 hne
      obtain ⟨b, o, s⟩ := a
      have hs : s = none := by
        obtain ⟨⟨cs', hr, hcell⟩, _⟩ := hxs 0 xs[0] (List.getElem?_eq_getElem (by omega))
        have hlen := R.len hr
        have := hcell 0 cs'[0] (List.getElem?_eq_getElem (by omega))
        simp [Addr.add, World.cell?] at this
        split at this
        · split at this
          · cases this
          · simp_all
        · cases this
      subst hs
      have hadd : ∀ o k : Nat, (⟨b, o, none⟩ : Addr).add k = ⟨b, o + k, none⟩ := fun o k => by unfold Addr.add; split <;> simp_all
      have hlt : b < w.heap.size := by
        obtain ⟨⟨cs', hr, hcell⟩, _⟩ := hxs 0 xs[0] (List.getElem?_eq_getElem (by omega))
        have hlen := R.len hr
        have h0 := hcell 0 cs'[0] (List.getElem?_eq_getElem (by omega))
        simp only [hadd] at h0
        exact World.block_lt_of_cell? w _ h0
      refine ⟨b, o, rfl, hlt, hlt, fun i x hi => ?_⟩
      obtain ⟨⟨cs', hr, hcell⟩, _⟩ := hxs i x hi
      refine ⟨cs', hr, fun j u hj => ?_⟩
      have := hcell j u hj
      simp only [hadd, hC] at this
      exact this
    · obtain ⟨i, hil, rfl⟩ := List.getElem_of_mem hx'
      exact (hxs i _ (List.getElem?_eq_getElem hil)).2
end

/-! ### the law's last step -/
section
variable {H : Type} {enc : TypeId × Value → H} {P : Program}
theorem trodAll_below (hl : laidOutB P = true) {W W' : World} (hb : Below W.heap.size W W') :
    ∀ (ts : List TypeId) (vs : List Value) (ds : List (DataW H)) (ps : List MemPlace), (∀ t ∈ ts, P.readableRec t = true ∧ t < P.types.size) → (∀ x ∈ ps, x.block < W.heap.size) →
      DataW.TrodAll enc P W 0 (fun _ => true) true ts vs ds ps → DataW.TrodAll enc P W' 0 (fun b => decide (b < W.heap.size)) true ts vs ds ps
  | [], [], [], _, _, _, h => h
  | t :: ts, v :: vs, d :: ds, ps, ht, hp, ⟨p, q, h1, h2, e⟩ => by
    subst e
    exact ⟨p, q, Below.trod hl (ht t (by simp)).1 (ht t (by simp)).2 h1 hb (fun x hx => hp x (by simp [hx])),
      trodAll_below hl hb ts vs ds q (fun t' h' => ht t' (by simp [h'])) (fun x hx => hp x (by simp [hx])) h2, rfl⟩
end
end Go.Proofs.Ytcedmgpiaekfaaa
