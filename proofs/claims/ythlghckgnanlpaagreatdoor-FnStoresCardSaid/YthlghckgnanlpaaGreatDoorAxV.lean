/- Strings of the call's own: sorted, and cut to those that differ from the one ahead; elements of several cells: the last one is taken out. Plain lemmas on the model. No conditions. -/
import Derived.Test.YthlghckgnanlpaaGreatDoorAxS
import Derived.Sort.EncStr
import Derived.Lib.SlicesCompact
import Derived.Lib.RowBridge
import Derived.Lib.SliceRun
namespace Go.Proofs.YthlghckgnanlpaaGreatDoor.Ax
open Go.RowKit
set_option linter.unusedVariables false
set_option linter.unusedSimpArgs false
def toL (s : ByteArray) : List UInt8 := s.data.toList
def ofL (l : List UInt8) : ByteArray := ⟨l.toArray⟩
theorem ofL_toL (s : ByteArray) : ofL (toL s) = s := rfl
/-- The strings in their order. -/
def sortR (xs : List ByteArray) : List (List UInt8) := (xs.map toL).mergeSort fun x y => decide (x ≤ y)
def sortB (xs : List ByteArray) : List ByteArray := (sortR xs).map ofL
theorem sortR_len (xs : List ByteArray) : (sortR xs).length = xs.length := by simp [sortR]
theorem sortB_len (xs : List ByteArray) : (sortB xs).length = xs.length := by simp [sortB, sortR]
def strF (xs : List ByteArray) (i : Nat) : List AV := [.val (.string (at_ xs i))]
theorem at_ofL {l : List (List UInt8)} {p : Nat} (h : p < l.length) : at_ (l.map ofL) p = ofL l[p] := by
  rw [at_eq (by simpa using h)]; simp
theorem sortB_at {xs : List ByteArray} {p : Nat} (h : p < (sortR xs).length) : at_ (sortB xs) p = ofL (sortR xs)[p] := at_ofL h
/-- The strings that differ from the one ahead. -/
def cmpR (xs : List ByteArray) : List (List UInt8) := Lib.compact (xs.map toL)
def cmpB (xs : List ByteArray) : List ByteArray := (cmpR xs).map ofL
theorem cmpR_len (xs : List ByteArray) : (cmpR xs).length ≤ xs.length := by
  have := Lib.compact_length_le (xs.map toL)
  rw [List.length_map] at this
  exact this
theorem sortS_callOK {P : Program} {f : FuncId}
    (hs : ∀ (blk off cap : Nat) (zs : List (List UInt8)) (w : World), Go.Sort.Holds (encStr) w blk off zs.toArray → blk < w.heap.size → zs.length < 4611686018427387904 → Calls P f #[.slice (some ⟨blk, off, none⟩) zs.length cap] w fun e w' =>
      e = .returned (.tuple #[]) ∧ ∃ n os, w' = Go.Sort.grow (Go.Sort.putRow (encStr) (Go.Sort.ahead w n) blk off (zs.mergeSort fun x y => decide (x ≤ y)).toArray) os)
    (hn : ∀ (p : Option Addr) (cap : Nat) (w : World), Calls P f #[.slice p 0 cap] w fun e w' => e = .returned (.tuple #[]) ∧ w' = w)
    (i : Nat) (xs : List ByteArray) (hlen : xs.length < 4611686018427387904) : CallOK P f [.arr i] (lookO [(i, .arr 1 xs.length (strF xs))]) false (.tup []) (lookO [(i, .arr 1 (sortB xs).length (strF (sortB xs)))]) := by
  intro B vals hbo hm hr
  obtain ⟨v, rfl⟩ : ∃ v, vals = [v] := by
    have := hr.1
    match vals, this with
    | [v], _ => exact ⟨v, rfl⟩
  have hv := (hr.2 0 _ _ rfl rfl).arr_of
  subst hv
  have hl : lookO [(i, Ob.arr 1 xs.length (strF xs))] i = some (.arr 1 xs.length (strF xs)) := by simp [lookO]
  have hl' : lookO [(i, Ob.arr 1 (sortB xs).length (strF (sortB xs)))] i = some (.arr 1 (sortB xs).length (strF (sortB xs))) := by simp [lookO]
  have hbi : B.bo i = true := by rw [hbo, hl]; rfl
  have hone : ∀ {j : Nat} {o : Ob}, lookO [(i, Ob.arr 1 (sortB xs).length (strF (sortB xs)))] j = some o → j = i ∧ o = .arr 1 (sortB xs).length (strF (sortB xs)) := fun h => by
    have := lookO_mem h
    simpa using this
  have hsome : ∀ {j : Nat}, lookO [(i, Ob.arr 1 (sortB xs).length (strF (sortB xs)))] j ≠ none → lookO [(i, Ob.arr 1 xs.length (strF xs))] j ≠ none := fun {j} h => by
    obtain ⟨o, ho⟩ := Option.ne_none_iff_exists'.1 h
    obtain ⟨rfl, _⟩ := hone ho
    rw [hl]; exact fun h => by cases h
  have ho : ArrRel B.w0 (SS B B.κ0 (lookO [(i, Ob.arr 1 xs.length (strF xs))]) B.w0) 1 xs.length (strF xs) (B.κ0 i) := hm.obj i _ hl
  rcases ho with ⟨h0, A, e⟩ | ⟨b, cur, e, c, hv, h0, h1, h2, h3, h4, h5⟩
  · have hx : xs = [] := List.eq_nil_of_length_eq_zero h0
    subst hx
    rw [e]
    refine (hn A 0 B.w0).mono ?_
    rintro e w' ⟨rfl, rfl⟩
    exact ⟨_, B.κ0, rfl, by have e0 : sortB [] = [] := (by simp [sortB, sortR]); rw [e0]; exact hm, .tup _ _ rfl (fun i a v h => by simp at h)⟩
  · have hcell : ∀ j, j < xs.length → cur[j]? = some (.string (at_ xs j)) := fun j hj => by
      obtain ⟨x, hx, _, hr⟩ := (h5 j hj).2 0 _ rfl
      rw [Nat.mul_one, Nat.add_zero] at hx
      rw [hx, hr.val_of]
    have hb : b < B.w0.heap.size := by
      have := (hm.ownb i b (by rw [hl]; exact fun h => by cases h) (by rw [hv]; exact .inl (by simp [blk]; omega))).1
      exact this
    have hHolds : Go.Sort.Holds (encStr) B.w0 b 0 (xs.map toL).toArray := fun j hj => by
      have hj' : j < xs.length := by simpa using hj
      refine ⟨?_, by simp [World.frozen?, h1]⟩
      have := hcell j hj'
      simp [World.cell?, h1, this, at_eq hj', hj', encStr, toL]
    rw [hv]
    have hcall := hs b 0 c (xs.map toL) B.w0 hHolds hb (by rw [List.length_map]; exact hlen)
    rw [List.length_map] at hcall
    refine hcall.mono ?_
    rintro e' w' ⟨rfl, n, os, rfl⟩
    have hsz : (Go.Sort.grow (Go.Sort.putRow (encStr) (Go.Sort.ahead B.w0 n) b 0 (sortR xs).toArray) os).heap.size = B.w0.heap.size + os.size := by
      simp [Go.Sort.grow, Go.Sort.putRow, Go.Sort.mapBlock, Go.Sort.ahead]
    have hblock : ∀ k, k < B.w0.heap.size → k ≠ b → (Go.Sort.grow (Go.Sort.putRow (encStr) (Go.Sort.ahead B.w0 n) b 0 (sortR xs).toArray) os).heap[k]? = B.w0.heap[k]? := fun k hk hkb => by
      simp [Go.Sort.grow, Go.Sort.putRow, Go.Sort.mapBlock, Go.Sort.ahead, Array.getElem?_append, Array.getElem?_modify, Array.getElem_modify, hk, Ne.symm hkb]
    have hthis : (Go.Sort.grow (Go.Sort.putRow (encStr) (Go.Sort.ahead B.w0 n) b 0 (sortR xs).toArray) os).heap[b]? = some (.cells (Go.Sort.putCells (encStr) 0 (sortR xs).toArray cur) e (0, 0)) := by
      have hb' := hb
      rw [Array.getElem?_eq_getElem hb] at h1
      simp only [Option.some.injEq] at h1
      simp [Go.Sort.grow, Go.Sort.putRow, Go.Sort.mapBlock, Go.Sort.ahead, Array.getElem?_append, Array.getElem?_modify, Array.getElem_modify, hb, h1, Go.Sort.onCells]
    have hBi : Blk (B.κ0 i) b := by rw [hv]; exact .inl (by simp [blk]; omega)
    refine ⟨_, B.κ0, rfl, ⟨⟨rfl, rfl, rfl, by show _ ≤ (Go.Sort.grow (Go.Sort.putRow (encStr) (Go.Sort.ahead B.w0 n) b 0 (sortR xs).toArray) os).heap.size; omega, fun k hk hM => hblock k hk (fun e => hM ⟨i, hbi, by rw [e]; exact hBi⟩)⟩, ?_, ?_, ?_, fun _ _ => rfl, fun w'' hk => hm.glob w'' hk⟩, .tup _ _ rfl (fun i a v h => by simp at h)⟩
    · intro j o hj
      obtain ⟨rfl, rfl⟩ := hone hj
      refine .inr ⟨b, _, e, c, by rw [hv, sortB_len], h0, hthis, by rw [sortB_len]; exact h2, by simpa [Go.Sort.putCells] using h3, h4, fun p hp => ⟨rfl, fun q u hq => ?_⟩⟩
      have hp' : p < xs.length := by rw [sortB_len] at hp; exact hp
      have hq0 : q = 0 := by
        cases q with
        | zero => rfl
        | succ q => simp [strF] at hq
      subst hq0
      have hu : u = .val (.string (at_ (sortB xs) p)) := by simpa [strF] using hq.symm
      subst hu
      refine ⟨.string (at_ (sortB xs) p), ?_, rfl, .val _⟩
      have hc := hcell p hp'
      have hpc : p < cur.size := (Array.getElem?_eq_some_iff.1 hc).1
      have hpr : p < (sortR xs).length := by rw [sortR_len]; exact hp'
      rw [sortB_at hpr]
      simp [Go.Sort.putCells, Array.getElem?_mapIdx, hpc, hpr, ofL]
    · intro j b' hj hB
      have := hm.ownb j b' (hsome hj) hB
      exact ⟨by show b' < (Go.Sort.grow (Go.Sort.putRow (encStr) (Go.Sort.ahead B.w0 n) b 0 (sortR xs).toArray) os).heap.size; omega, this.2⟩
    · intro j k b' hj hk h1 h2
      exact hm.inj j k b' (hsome hj) (hsome hk) h1 h2
theorem comp_mvc {P : Program} {f : FuncId}
    (hs : ∀ (blk off cap : Nat) (zs : List (List UInt8)) (w : World), Go.Sort.Holds encStr w blk off zs.toArray → zs.length ≤ 9223372036854775807 → zs.length ≤ cap →
      Calls P f #[.slice (some ⟨blk, off, none⟩) zs.length cap] w fun e w' => e = .returned (.slice (some ⟨blk, off, none⟩) (Lib.compact zs).length cap) ∧ ∃ q, w' = Go.Sort.putRow encStr (Go.Sort.ahead w q) blk off (Lib.compact zs ++ List.replicate (zs.length - (Lib.compact zs).length) []).toArray)
    {xs : List ByteArray} (h1 : 1 ≤ xs.length) : MvcOK P f 1 xs.length (cmpB xs).length (strF xs) (strF (cmpB xs)) [] := by
  have hcl : (cmpB xs).length = (cmpR xs).length := by simp [cmpB]
  refine ⟨h1, fun i _ => rfl, fun R hR1 hR2 k c cur e w hw hnc hcc hcm hcell => ?_⟩
  have hcell' : ∀ j, j < xs.length → cur[j]? = some (.string (at_ xs j)) := fun j hj => by
    obtain ⟨z, hz, _, hc⟩ := (hcell j hj).2 0 _ rfl
    rw [Nat.mul_one, Nat.add_zero] at hz
    rw [hz, hR2 _ _ hc]
  have hHolds : Go.Sort.Holds encStr w k 0 (xs.map toL).toArray := fun j hj => by
    have hj' : j < xs.length := by simpa using hj
    refine ⟨?_, by simp [World.frozen?, hw]⟩
    have := hcell' j hj'
    simp [World.cell?, hw, this, at_eq hj', hj', encStr, toL]
  have hk : k < w.heap.size := (Array.getElem?_eq_some_iff.1 hw).1
  have hcall := hs k 0 c (xs.map toL) w hHolds (by rw [List.length_map]; unfold maxLen at hcm; omega) (by rw [List.length_map]; exact hnc)
  rw [List.length_map] at hcall
  refine hcall.mono ?_
  rintro q w' ⟨rfl, d, rfl⟩
  have hle := cmpR_len xs
  change (cmpR xs).length ≤ _ at hle
  have hthis : (Go.Sort.putRow encStr (Go.Sort.ahead w d) k 0 (cmpR xs ++ List.replicate (xs.length - (cmpR xs).length) []).toArray).heap[k]? = some (.cells (Go.Sort.putCells encStr 0 (cmpR xs ++ List.replicate (xs.length - (cmpR xs).length) []).toArray cur) e (0, 0)) := by
    rw [Array.getElem?_eq_getElem hk] at hw
    simp only [Option.some.injEq] at hw
    simp [Go.Sort.putRow, Go.Sort.mapBlock, Go.Sort.ahead, Array.getElem?_modify, Array.getElem_modify, hk, hw, Go.Sort.onCells]
  refine ⟨k, c, _, by rw [hcl]; rfl, rfl, rfl, rfl, by simp [Go.Sort.putRow, Go.Sort.mapBlock, Go.Sort.ahead], .inl rfl, by simpa [Go.Sort.putRow, Go.Sort.mapBlock, Go.Sort.ahead] using hk, fun b' _ hb' => ?_, hthis, by omega, by omega, by simpa [Go.Sort.putCells] using hcc, hcm, fun i hi j u hj => ?_⟩
  · simp [Go.Sort.putRow, Go.Sort.mapBlock, Go.Sort.ahead, Array.getElem?_modify, Ne.symm hb']
  · have hj0 : j = 0 := by
      cases j with
      | zero => rfl
      | succ j => simp [strF] at hj
    subst hj0
    have hu : u = .val (.string (at_ (cmpB xs) i)) := by simpa [strF] using hj.symm
    subst hu
    have hi' : i < (cmpR xs).length := by omega
    have hic : i < cur.size := by omega
    refine ⟨.string (at_ (cmpB xs) i), ?_, rfl, hR1 _⟩
    have e1 : at_ (cmpB xs) i = ofL (cmpR xs)[i] := at_ofL hi'
    rw [e1, Nat.mul_one, Nat.add_zero]
    generalize cmpR xs = L at hi' hle
    have hsz : i < (L ++ List.replicate (xs.length - L.length) []).length := by rw [List.length_append]; omega
    have hl2 : (L ++ List.replicate (xs.length - L.length) [])[i] = L[i] := List.getElem_append_left hi'
    simp only [Go.Sort.putCells]
    rw [Array.getElem?_mapIdx, Array.getElem?_eq_getElem hic]
    rw [← hl2]
    have hd : ((L ++ List.replicate (xs.length - L.length) [])[i]?.getD default) = (L ++ List.replicate (xs.length - L.length) [])[i] := by rw [List.getElem?_eq_getElem hsz]; rfl
    rw [List.length_append, List.length_replicate] at hsz
    simp [hsz, hd, ofL, encStr]
/-- One element of several cells is cleared. -/
theorem run_clear_one {P : Program} (w : World) (t e ty : TypeId) (z : Value) (ht : P.underlying t = some (.slice e)) (hv : ∀ w, (zeroValue e).run P w = .ok z w) (h1 : ∀ v ∈ z.cells.toList, v.oneCell' = true) (b o c : Nat)
    (hc : ∀ j, j < z.cells.size → (w.cell? ⟨b, o + j, none⟩).isSome = true) (hf : ∀ j, j < z.cells.size → w.frozen? ⟨b, o + j, none⟩ = false) :
    (Builtin.clear_ #[t] ty #[.slice (some ⟨b, o, none⟩) 1 c]).run P w = .ok (.tuple #[]) (w.setCells b o z.cells.toList) := by
  have hzc : (Builtin.zeroCells z.cells 1).toList = z.cells.toList := by
    simp [Builtin.zeroCells]
    apply List.ext_getElem
    · simp
    · intro i h1 h2
      have h2' : i < z.cells.size := by simpa using h2
      simp [Nat.mod_eq_of_lt h2', getElem!_pos, h2']
  have hst := run_storeCells_cells (P := P) b o z.cells.toList 0 w (by simpa using hc) (by simpa using hf) h1
  simp only [Nat.add_zero] at hst
  simp [Builtin.clear_, run_underlying ht, hv, hzc, hst]
/-- The last one of an array is taken out. -/
theorem cut_mvc {P : Program} {f : FuncId} {kc : Nat} {zs : List Value} (hz : zs.length = kc) (n : Nat) (h1 : 1 ≤ n)
    (hs : ∀ (k c : Nat) (cur : Array Value) (e : TypeId) (w : World), w.heap[k]? = some (.cells cur e (0, 0)) → n ≤ c → c * kc ≤ cur.size → c ≤ maxLen →
      Calls P f #[.slice (some ⟨k, 0, none⟩) n c, .int .i64 ((n : Int) - 1), .int .i64 (n : Int)] w fun e w' => e = .returned (.slice (some ⟨k, 0, none⟩) (n - 1) c) ∧ ∃ q, w' = (w.drewN q).setCells k ((n - 1) * kc) zs)
    {g h : Nat → List AV} {a b : Int} (ha : a = (n : Int) - 1) (hb : b = n) (hg : ∀ i, i < n - 1 → (g i).length = kc) (hgh : ∀ i, i < n - 1 → h i = g i) : MvcOK P f kc n (n - 1) g h [.int .i64 a, .int .i64 b] := by
  subst ha; subst hb
  refine ⟨h1, fun i hi => by rw [hgh i hi]; exact hg i hi, fun R hR1 hR2 k c cur e w hw hnc hcc hcm hcell => ?_⟩
  have hk : k < w.heap.size := (Array.getElem?_eq_some_iff.1 hw).1
  refine (hs k c cur e w hw hnc hcc hcm).mono ?_
  rintro q w' ⟨rfl, d, rfl⟩
  have hh : ∀ (vs : List Value) (o : Nat) (cur : Array Value) (w : World), w.heap[k]? = some (.cells cur e (0, 0)) → o + vs.length ≤ cur.size → (w.setCells k o vs).os = w.os ∧ (w.setCells k o vs).tape = w.tape ∧ (w.setCells k o vs).output = w.output ∧ (w.setCells k o vs).heap.size = w.heap.size ∧
      (∀ b', b' ≠ k → (w.setCells k o vs).heap[b']? = w.heap[b']?) ∧ ∃ cur', (w.setCells k o vs).heap[k]? = some (.cells cur' e (0, 0)) ∧ cur'.size = cur.size ∧ ∀ i, i < o → cur'[i]? = cur[i]? := by
    intro vs
    induction vs with
    | nil => intro o cur w hw _; exact ⟨rfl, rfl, rfl, rfl, fun _ _ => rfl, cur, hw, rfl, fun _ _ => rfl⟩
    | cons v vs ih =>
      intro o cur w hw ho
      have hk' : k < w.heap.size := (Array.getElem?_eq_some_iff.1 hw).1
      have hkh : (w.setCell ⟨k, o, none⟩ v).heap[k]? = some (.cells (cur.setIfInBounds o v) e (0, 0)) := by
        simp [World.setCell, Array.getElem?_modify, hw]
      obtain ⟨r1, r2, r3, r4, r5, cur', r6, r7, r8⟩ := ih (o + 1) _ (w.setCell ⟨k, o, none⟩ v) hkh (by simp at ho ⊢; omega)
      refine ⟨r1, r2, r3, by rw [World.setCells, r4]; simp [World.setCell], fun b' hb' => by rw [World.setCells, r5 b' hb']; simp [World.setCell, Array.getElem?_modify, Ne.symm hb'], cur', r6, by rw [r7]; simp, fun i hi => ?_⟩
      rw [r8 i (by omega)]
      simp [Array.getElem?_setIfInBounds]
      omega
  have hsz : (n - 1) * kc + zs.length ≤ cur.size := by
    have : n * kc ≤ c * kc := Nat.mul_le_mul_right _ hnc
    have e2 : n * kc = (n - 1) * kc + kc := by
      obtain ⟨m, rfl⟩ : ∃ m, n = m + 1 := ⟨n - 1, by omega⟩
      rw [Nat.add_sub_cancel, Nat.succ_mul]
    omega
  obtain ⟨r1, r2, r3, r4, r5, cur', r6, r7, r8⟩ := hh zs ((n - 1) * kc) cur (w.drewN d) hw hsz
  refine ⟨k, c, cur', rfl, r1, r2, r3, by rw [r4]; exact Nat.le_refl _, .inl rfl, by rw [r4]; exact hk, fun b' _ hb' => r5 b' hb', r6, by omega, by omega, by rw [r7]; exact hcc, hcm, fun i hi j u hj => ?_⟩
  rw [hgh i hi] at hj
  obtain ⟨x, hx, hx2, hx3⟩ := (hcell i (by omega)).2 j u hj
  refine ⟨x, ?_, hx2, hx3⟩
  have hjk : j < kc := by rw [← hg i hi]; exact (List.getElem?_eq_some_iff.1 hj).1
  have : i * kc + kc ≤ (n - 1) * kc := by
    have := Nat.mul_le_mul_right kc (show i + 1 ≤ n - 1 by omega)
    rw [Nat.succ_mul] at this; exact this
  rw [r8 _ (by omega)]; exact hx
end Go.Proofs.YthlghckgnanlpaaGreatDoor.Ax
