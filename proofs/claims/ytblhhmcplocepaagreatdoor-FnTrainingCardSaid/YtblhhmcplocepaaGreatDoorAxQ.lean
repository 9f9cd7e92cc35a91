/- Numbers that are taken out of an array of the call's own: the shelf's contract as one that takes the array for good. Plain lemmas on the model. No conditions. -/
import Derived.Test.YtblhhmcplocepaaGreatDoorAxS
namespace Go.Proofs.YtblhhmcplocepaaGreatDoor.Ax
open Go.RowKit
set_option linter.unusedVariables false
set_option linter.unusedSimpArgs false
theorem del_mov {P : Program} {f : FuncId}
    (hs : ∀ (blk off cap i j : Nat) (zs : List Int) (w : World), Go.Sort.Holds (Value.int .i64) w blk off zs.toArray → zs.length ≤ cap → cap ≤ 9223372036854775807 → i ≤ j → j ≤ zs.length →
      Calls P f #[.slice (some ⟨blk, off, none⟩) zs.length cap, .int .i64 i, .int .i64 j] w fun e w' => e = .returned (.slice (some ⟨blk, off, none⟩) (zs.length - (j - i)) cap) ∧ ∃ q, w' = Go.Sort.putRow (Value.int .i64) (Go.Sort.ahead w q) blk off (zs.take i ++ zs.drop j ++ List.replicate (j - i) 0).toArray)
    {xs : List Int} {a b : Int} (h0 : 0 ≤ a) (hab : a ≤ b) (hb : b ≤ (xs.length : Int)) (h1 : 1 ≤ xs.length) : Ybj P f xs.length (xs.take a.toNat ++ xs.drop b.toNat).length (intF xs) (intF (xs.take a.toNat ++ xs.drop b.toNat)) a b := by
  have hlen : (xs.take a.toNat ++ xs.drop b.toNat).length = xs.length - (b.toNat - a.toNat) := by simp; omega
  refine ⟨h1, by omega, fun i _ => ⟨_, rfl⟩, fun i _ => rfl, fun k c cur e w hw hnc hcc hcm hcell => ?_⟩
  have hcell' : ∀ j, j < xs.length → cur[j]? = some (.int .i64 (at_ xs j)) := fun j hj => by
    obtain ⟨z, hz, hc⟩ := hcell j hj
    simp only [intF, List.cons.injEq, AV.val.injEq, and_true] at hz
    rw [hc, ← hz]
  have hHolds : Go.Sort.Holds (Value.int .i64) w k 0 xs.toArray := fun j hj => by
    have hj' : j < xs.length := by simpa using hj
    refine ⟨?_, by simp [World.frozen?, hw]⟩
    have := hcell' j hj'
    simp [World.cell?, hw, this, Zez hj', hj']
  have ea : ((a.toNat : Nat) : Int) = a := by omega
  have eb : ((b.toNat : Nat) : Int) = b := by omega
  have hk : k < w.heap.size := (Array.getElem?_eq_some_iff.1 hw).1
  have hcall := hs k 0 c a.toNat b.toNat xs w hHolds hnc (by unfold maxLen at hcm; omega) (by omega) (by omega)
  rw [ea, eb] at hcall
  refine hcall.mono ?_
  rintro q w' ⟨rfl, d, rfl⟩
  have hthis : (Go.Sort.putRow (Value.int .i64) (Go.Sort.ahead w d) k 0 (xs.take a.toNat ++ xs.drop b.toNat ++ List.replicate (b.toNat - a.toNat) 0).toArray).heap[k]? = some (.cells (Go.Sort.putCells (Value.int .i64) 0 (xs.take a.toNat ++ xs.drop b.toNat ++ List.replicate (b.toNat - a.toNat) 0).toArray cur) e (0, 0)) := by
    rw [Array.getElem?_eq_getElem hk] at hw
    simp only [Option.some.injEq] at hw
    simp [Go.Sort.putRow, Go.Sort.mapBlock, Go.Sort.ahead, Array.getElem?_modify, Array.getElem_modify, hk, hw, Go.Sort.onCells]
  refine ⟨by rw [hlen], rfl, rfl, rfl, by simp [Go.Sort.putRow, Go.Sort.mapBlock, Go.Sort.ahead], fun b' hb' => ?_, _, hthis, by simp [Go.Sort.putCells], fun i hi => ⟨.int .i64 (at_ (xs.take a.toNat ++ xs.drop b.toNat) i), rfl, ?_, rfl⟩⟩
  · simp [Go.Sort.putRow, Go.Sort.mapBlock, Go.Sort.ahead, Array.getElem?_modify, Ne.symm hb']
  · have hic : i < cur.size := by omega
    have hsz : i < (xs.take a.toNat ++ xs.drop b.toNat ++ List.replicate (b.toNat - a.toNat) 0).length := by rw [List.length_append]; omega
    have e2 : at_ (xs.take a.toNat ++ xs.drop b.toNat ++ List.replicate (b.toNat - a.toNat) 0) i = at_ (xs.take a.toNat ++ xs.drop b.toNat) i := Zit hi
    rw [← e2]
    generalize xs.take a.toNat ++ xs.drop b.toNat ++ List.replicate (b.toNat - a.toNat) 0 = L at hsz
    rw [Zez hsz]
    simp [Go.Sort.putCells, hic, hsz]
end Go.Proofs.YtblhhmcplocepaaGreatDoor.Ax
