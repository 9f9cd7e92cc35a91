/- Sorting an array of the call's own: the shelf's contract of the sort as a contract over trees. Plain lemmas on the model. No conditions. -/
import Derived.Test.YtppknhfdmmnmoaaGreatAxP
import Derived.Sort.Row
import Derived.Sort.Grow
namespace Go.Proofs.YtppknhfdmmnmoaaGreat.Ax
open Go.RowKit
set_option linter.unusedVariables false
set_option linter.unusedSimpArgs false
/-- The numbers in their order. -/
def sortL (xs : List Int) : List Int := xs.mergeSort fun x y => decide (x ≤ y)
theorem sortL_len (xs : List Int) : (sortL xs).length = xs.length := by simp [sortL]
theorem sortL_mem {xs : List Int} {x : Int} : x ∈ sortL xs ↔ x ∈ xs := by simp [sortL]
theorem cat_two {α : Type} [Inhabited α] {enc : α → List AV} {xs ys : List α} {n : Nat} {f g : Nat → List AV} (hn : n = xs.length) (hf : ∀ i, i < xs.length → f i = enc (at_ xs i)) (hg : ∀ i, i < ys.length → g i = enc (at_ ys i)) (i : Nat) (hi : i < (xs ++ ys).length) :
    catF n f g i = enc (at_ (xs ++ ys) i) := by
  subst hn
  rw [List.length_append] at hi
  by_cases h : i < xs.length
  · rw [catF_lt h, at_left h]; exact hf i h
  · rw [catF_ge (by omega), at_right (by omega)]; exact hg _ (by omega)
theorem upd_any {α : Type} [Inhabited α] {enc : α → List AV} {zs : List α} {k : Nat} {y : α} {cs : List AV} {f : Nat → List AV} (hf : ∀ i, i < zs.length → f i = enc (at_ zs i)) (hx : cs = enc y) (i : Nat) (hi : i < (zs.set k y).length) : (fun q => bif Nat.beq q k then cs else f q) i = enc (at_ (zs.set k y) i) := by
  have hi' : i < zs.length := by simpa using hi
  by_cases h : i = k
  · subst h
    simp [hx, at_, hi']
  · have : Nat.beq i k = false := Bool.eq_false_iff.2 fun e => h (Nat.eq_of_beq_eq_true e)
    have h' : ¬ k = i := fun e => h e.symm
    have e2 : at_ (zs.set k y) i = at_ zs i := by simp [at_, List.getElem?_set, h']
    rw [e2]
    simp only [this, cond_false]
    exact hf i hi'
def intF (xs : List Int) (i : Nat) : List AV := [.val (.int .i64 (at_ xs i))]
theorem upd_spl {α : Type} [Inhabited α] {enc : α → List AV} {zs : List α} {k j : Nat} {y : α} {us : List AV} {f : Nat → List AV} (hf : ∀ i, i < zs.length → f i = enc (at_ zs i)) (hk : k < zs.length) (hx : spl (enc (at_ zs k)) j us = enc y) (i : Nat) (hi : i < (zs.set k y).length) :
    (fun q => bif Nat.beq q k then spl (f k) j us else f q) i = enc (at_ (zs.set k y) i) := by
  rw [List.length_set] at hi
  show (bif Nat.beq i k then spl (f k) j us else f i) = _
  by_cases h : i = k
  · subst h
    rw [Nat.beq_refl, cond_true, hf i hk, hx]
    simp [at_, hk]
  · have b : Nat.beq i k = false := Bool.eq_false_iff.2 fun e => h (Nat.eq_of_beq_eq_true e)
    have h' : ¬ k = i := fun e => h e.symm
    rw [b, cond_false, hf i hi]
    simp [at_, List.getElem?_set, h']
theorem RelT.val_of {w : World} {S : Bool → Nat → Prop} {v x : Value} (h : RelT w S (.val v) x) : x = v := by cases h; rfl
theorem sort_callOK {P : Program} {f : FuncId}
    (hs : ∀ (blk off cap : Nat) (zs : List Int) (w : World), Go.Sort.Holds (Value.int .i64) w blk off zs.toArray → blk < w.heap.size → zs.length < 4611686018427387904 → Calls P f #[.slice (some ⟨blk, off, none⟩) zs.length cap] w fun e w' =>
      e = .returned (.tuple #[]) ∧ ∃ n os, w' = Go.Sort.grow (Go.Sort.putRow (Value.int .i64) (Go.Sort.ahead w n) blk off (zs.mergeSort fun x y => decide (x ≤ y)).toArray) os)
    (hn : ∀ (p : Option Addr) (cap : Nat) (w : World), Calls P f #[.slice p 0 cap] w fun e w' => e = .returned (.tuple #[]) ∧ w' = w)
    (i : Nat) (xs : List Int) (hlen : xs.length < 4611686018427387904) : CallOK P f [.arr i] (lookO [(i, .arr 1 xs.length (intF xs))]) false (.tup []) (lookO [(i, .arr 1 (sortL xs).length (intF (sortL xs)))]) := by
  intro B vals hbo hm hr
  obtain ⟨v, rfl⟩ : ∃ v, vals = [v] := by
    have := hr.1
    match vals, this with
    | [v], _ => exact ⟨v, rfl⟩
  have hv := (hr.2 0 _ _ rfl rfl).arr_of
  subst hv
  have hl : lookO [(i, Ob.arr 1 xs.length (intF xs))] i = some (.arr 1 xs.length (intF xs)) := by simp [lookO]
  have hl' : lookO [(i, Ob.arr 1 (sortL xs).length (intF (sortL xs)))] i = some (.arr 1 (sortL xs).length (intF (sortL xs))) := by simp [lookO]
  have hbi : B.bo i = true := by rw [hbo, hl]; rfl
  have hone : ∀ {j : Nat} {o : Ob}, lookO [(i, Ob.arr 1 (sortL xs).length (intF (sortL xs)))] j = some o → j = i ∧ o = .arr 1 (sortL xs).length (intF (sortL xs)) := fun h => by
    have := lookO_mem h
    simpa using this
  have hsome : ∀ {j : Nat}, lookO [(i, Ob.arr 1 (sortL xs).length (intF (sortL xs)))] j ≠ none → lookO [(i, Ob.arr 1 xs.length (intF xs))] j ≠ none := fun {j} h => by
    obtain ⟨o, ho⟩ := Option.ne_none_iff_exists'.1 h
    obtain ⟨rfl, _⟩ := hone ho
    rw [hl]; exact fun h => by cases h
  have ho : ArrRel B.w0 (SS B B.κ0 (lookO [(i, Ob.arr 1 xs.length (intF xs))]) B.w0) 1 xs.length (intF xs) (B.κ0 i) := hm.obj i _ hl
  rcases ho with ⟨h0, A, e⟩ | ⟨b, cur, e, c, hv, h0, h1, h2, h3, h4, h5⟩
  · have hx : xs = [] := List.eq_nil_of_length_eq_zero h0
    subst hx
    rw [e]
    refine (hn A 0 B.w0).mono ?_
    rintro e w' ⟨rfl, rfl⟩
    exact ⟨_, B.κ0, rfl, by simpa [sortL] using hm, .tup _ _ rfl (fun i a v h => by simp at h)⟩
  · have hcell : ∀ j, j < xs.length → cur[j]? = some (.int .i64 (at_ xs j)) := fun j hj => by
      obtain ⟨x, hx, _, hr⟩ := (h5 j hj).2 0 _ rfl
      rw [Nat.mul_one, Nat.add_zero] at hx
      rw [hx, hr.val_of]
    have hb : b < B.w0.heap.size := by
      have := (hm.ownb i b (by rw [hl]; exact fun h => by cases h) (by rw [hv]; exact .inl (by simp [blk]; omega))).1
      exact this
    have hHolds : Go.Sort.Holds (Value.int .i64) B.w0 b 0 xs.toArray := fun j hj => by
      have hj' : j < xs.length := by simpa using hj
      refine ⟨?_, by simp [World.frozen?, h1]⟩
      have := hcell j hj'
      simp [World.cell?, h1, this, at_eq hj', hj']
    rw [hv]
    refine (hs b 0 c xs B.w0 hHolds hb hlen).mono ?_
    rintro e' w' ⟨rfl, n, os, rfl⟩
    have hsz : (Go.Sort.grow (Go.Sort.putRow (Value.int .i64) (Go.Sort.ahead B.w0 n) b 0 (sortL xs).toArray) os).heap.size = B.w0.heap.size + os.size := by
      simp [Go.Sort.grow, Go.Sort.putRow, Go.Sort.mapBlock, Go.Sort.ahead]
    have hblock : ∀ k, k < B.w0.heap.size → k ≠ b → (Go.Sort.grow (Go.Sort.putRow (Value.int .i64) (Go.Sort.ahead B.w0 n) b 0 (sortL xs).toArray) os).heap[k]? = B.w0.heap[k]? := fun k hk hkb => by
      simp [Go.Sort.grow, Go.Sort.putRow, Go.Sort.mapBlock, Go.Sort.ahead, Array.getElem?_append, Array.getElem?_modify, Array.getElem_modify, hk, Ne.symm hkb]
    have hthis : (Go.Sort.grow (Go.Sort.putRow (Value.int .i64) (Go.Sort.ahead B.w0 n) b 0 (sortL xs).toArray) os).heap[b]? = some (.cells (Go.Sort.putCells (Value.int .i64) 0 (sortL xs).toArray cur) e (0, 0)) := by
      have hb' := hb
      rw [Array.getElem?_eq_getElem hb] at h1
      simp only [Option.some.injEq] at h1
      simp [Go.Sort.grow, Go.Sort.putRow, Go.Sort.mapBlock, Go.Sort.ahead, Array.getElem?_append, Array.getElem?_modify, Array.getElem_modify, hb, h1, Go.Sort.onCells]
    have hBi : Blk (B.κ0 i) b := by rw [hv]; exact .inl (by simp [blk]; omega)
    refine ⟨_, B.κ0, rfl, ⟨⟨rfl, rfl, rfl, by show _ ≤ (Go.Sort.grow (Go.Sort.putRow (Value.int .i64) (Go.Sort.ahead B.w0 n) b 0 (sortL xs).toArray) os).heap.size; omega, fun k hk hM => hblock k hk (fun e => hM (.inl ⟨i, hbi, by rw [e]; exact hBi⟩))⟩, ?_, ?_, ?_, fun _ _ => rfl, fun w'' hk => hm.glob w'' hk⟩, .tup _ _ rfl (fun i a v h => by simp at h)⟩
    · intro j o hj
      obtain ⟨rfl, rfl⟩ := hone hj
      refine .inr ⟨b, _, e, c, by rw [hv, sortL_len], h0, hthis, by rw [sortL_len]; exact h2, by simpa [Go.Sort.putCells] using h3, h4, fun p hp => ⟨rfl, fun q u hq => ?_⟩⟩
      have hp' : p < xs.length := by rw [sortL_len] at hp; exact hp
      have hq0 : q = 0 := by
        cases q with
        | zero => rfl
        | succ q => simp [intF] at hq
      subst hq0
      have hu : u = .val (.int .i64 (at_ (sortL xs) p)) := by simpa [intF] using hq.symm
      subst hu
      refine ⟨.int .i64 (at_ (sortL xs) p), ?_, rfl, .val _⟩
      have hc := hcell p hp'
      have hpc : p < cur.size := (Array.getElem?_eq_some_iff.1 hc).1
      simp [Go.Sort.putCells, Array.getElem?_mapIdx, hpc, at_eq hp, hp]
    · intro j b' hj hB
      have := hm.ownb j b' (hsome hj) hB
      exact ⟨by show b' < (Go.Sort.grow (Go.Sort.putRow (Value.int .i64) (Go.Sort.ahead B.w0 n) b 0 (sortL xs).toArray) os).heap.size; omega, this.2⟩
    · intro j k b' hj hk h1 h2
      exact hm.inj j k b' (hsome hj) (hsome hk) h1 h2
end Go.Proofs.YtppknhfdmmnmoaaGreat.Ax
