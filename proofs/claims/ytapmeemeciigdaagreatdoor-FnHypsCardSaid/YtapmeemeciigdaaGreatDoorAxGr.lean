/- Texts that grow: room that is made ahead ((*strings.Builder).Grow at a fresh one). No conditions. -/
import Derived.Test.YtapmeemeciigdaaGreatDoorAxBd
import Derived.Shelf.RegionOpenPlain
namespace Go.Proofs.YtapmeemeciigdaaGreatDoor.Ax
open Go.RowKit Go.Lib
set_option linter.unusedVariables false
set_option linter.unusedSimpArgs false

def GwPost (b : Nat) (w w' : World) : Prop := ∃ cs : Array Value, cs.size ≠ 0 ∧ cs.size ≤ maxLen ∧ w'.heap[b]? = some (.cells #[.pointer (some ⟨b, 0, none⟩), .slice (some ⟨w.heap.size, 0, none⟩) 0 cs.size] 80 (0, 0)) ∧ w'.heap[w.heap.size]? = some (.cells cs 5 (0, 0)) ∧
  w'.os = w.os ∧ w'.tape = w.tape ∧ w'.output = w.output ∧ w.heap.size < w'.heap.size ∧ ∀ k, k < w.heap.size → k ≠ b → w'.heap[k]? = w.heap[k]?
theorem gw_post {b : Nat} {w : World} {cs : Array Value} (hb : w.heap[b]? = some (.cells #[.pointer (some ⟨b, 0, none⟩), .slice none 0 0] 80 (0, 0))) (h0 : cs.size ≠ 0) (h1 : cs.size ≤ maxLen) (w0 : World) (e1 : w0.heap = w.heap) (e2 : w0.os = w.os) (e3 : w0.tape = w.tape) (e4 : w0.output = w.output) :
    GwPost b w ((w0.alloc (.cells cs 5)).setCell ⟨b, 1, none⟩ (.slice (some ⟨w.heap.size, 0, none⟩) 0 cs.size)) := by
  have hlt : b < w.heap.size := (Array.getElem?_eq_some_iff.1 hb).1
  have hne : w.heap.size ≠ b := by omega
  have a1 : (w0.alloc (.cells cs 5)).heap[w0.heap.size]? = some (.cells cs 5 (0, 0)) := heap_alloc_new w0 _
  have a2 : ∀ k, k < w.heap.size → (w0.alloc (.cells cs 5)).heap[k]? = w.heap[k]? := fun k hk => by rw [Go.heap_alloc_old w0 _ (by rw [e1]; exact hk), e1]
  have a3 : (w0.alloc (.cells cs 5)).heap.size = w.heap.size + 1 := by simp [e1]
  rw [e1] at a1
  refine ⟨cs, h0, h1, ?_, ?_, ?_, ?_, ?_, ?_, fun k hk hkb => ?_⟩
  · rw [heap_setCell_same _ b 1 #[.pointer (some ⟨b, 0, none⟩), .slice none 0 0] 80 _ (by rw [a2 b hlt]; exact hb)]
    rfl
  · rw [Below.heap_setCell _ _ _ _ hne]; exact a1
  · exact e2
  · exact e3
  · exact e4
  · have : ((w0.alloc (.cells cs 5)).setCell ⟨b, 1, none⟩ (.slice (some ⟨w.heap.size, 0, none⟩) 0 cs.size)).heap.size = w.heap.size + 1 := by
      unfold World.setCell
      rw [Array.size_modify]
      exact a3
    omega
  · rw [Below.heap_setCell _ _ _ _ hkb]
    exact a2 k hk
theorem gw_post2 {b : Nat} {w : World} {cs : Array Value} (hb : w.heap[b]? = some (.cells #[.pointer (some ⟨b, 0, none⟩), .slice none 0 0] 80 (0, 0))) (h0 : cs.size ≠ 0) (h1 : cs.size ≤ maxLen) (w' : World) (e1 : w'.heap = ((w.setCell ⟨b, 1, none⟩ (.slice (some ⟨w.heap.size, 0, none⟩) 0 cs.size)).alloc (.cells cs 5)).heap) (e2 : w'.os = w.os) (e3 : w'.tape = w.tape) (e4 : w'.output = w.output) :
    GwPost b w w' := by
  have hlt : b < w.heap.size := (Array.getElem?_eq_some_iff.1 hb).1
  have hs : (w.setCell ⟨b, 1, none⟩ (.slice (some ⟨w.heap.size, 0, none⟩) 0 cs.size)).heap.size = w.heap.size := by
    unfold World.setCell
    rw [Array.size_modify]
  have a1 := heap_alloc_new (w.setCell ⟨b, 1, none⟩ (.slice (some ⟨w.heap.size, 0, none⟩) 0 cs.size)) (.cells cs 5)
  have a2 : ∀ k, k < w.heap.size → w'.heap[k]? = (w.setCell ⟨b, 1, none⟩ (.slice (some ⟨w.heap.size, 0, none⟩) 0 cs.size)).heap[k]? := fun k hk => by rw [e1, Go.heap_alloc_old _ _ (by rw [hs]; exact hk)]
  rw [← e1, hs] at a1
  refine ⟨cs, h0, h1, ?_, a1, e2, e3, e4, ?_, fun k hk hkb => ?_⟩
  · rw [a2 b hlt, heap_setCell_same _ b 1 #[.pointer (some ⟨b, 0, none⟩), .slice none 0 0] 80 _ hb]
    rfl
  · exact (Array.getElem?_eq_some_iff.1 a1).1
  · rw [a2 k hk, Below.heap_setCell _ _ _ _ hkb]
set_option maxHeartbeats 2000000 in
set_option maxRecDepth 1000000 in
theorem gw_ok (b n : Nat) (h0 : 0 < n) (h1 : n ≤ 140737488355328) (w : World) (hb : w.heap[b]? = some (.cells #[.pointer (some ⟨b, 0, none⟩), .slice none 0 0] 80 (0, 0))) :
    Calls Tryz.prog 67 #[.pointer (some ⟨b, 0, none⟩), .int .i64 n] w fun q w' => q = .returned (.tuple #[]) ∧ GwPost b w w' := by
  obtain ⟨cs, hrun, hle, hmax⟩ := Lib.run_makeNoZero (P := Tryz.prog) w.drew #[3] 22 5 Tryz.underlying22 n (by omega)
  have hw : IntKind.i64.wrap (IntKind.i64.wrap 0 + (n : Int)) = n := by
    rw [IntKind.wrap_i64, IntKind.wrap_i64]
    omega
  have hcall : (callFunc 99 #[.int .i64 (IntKind.i64.wrap (IntKind.i64.wrap 0 + (n : Int)))]).run Tryz.prog w.drew = .ok (.value (.slice (some ⟨w.drew.heap.size, 0, none⟩) n cs.size)) (w.drew.drew.drew.alloc (.cells cs 5)) := by
    rw [hw, run_callFunc_extern Tryz.func99 (by kernel_rfl) (by kernel_rfl) (by kernel_rfl) (e := Extern.BytealgMakeNoZero.makeNoZero #[3] #[22]) (by kernel_rfl), hrun]
    rfl
  have hlt : b < w.heap.size := (Array.getElem?_eq_some_iff.1 hb).1
  have c1 : w.drew.cell? ⟨b, 1, none⟩ = some (.slice none 0 0) := by
    have : w.drew.heap[b]? = _ := hb
    rw [Lib.cell_of_heap this]; rfl
  have c2 : (w.alloc (.cells cs 5)).cell? ⟨b, 1, none⟩ = some (.slice none 0 0) := by
    have : (w.alloc (.cells cs 5)).heap[b]? = _ := (Lib.alloc_old w _ b hlt).trans hb
    rw [Lib.cell_of_heap this]; rfl
  have f2 : (w.alloc (.cells cs 5)).frozen? ⟨b, 1, none⟩ = false := Lib.frozen_of_heap ((Lib.alloc_old w _ b hlt).trans hb) 1
  have hsz : (Tryz.prog.info? 5).map (fun i => i.size) = some 1 := by kernel_rfl
  have hcopy : ∀ W : World, (Builtin.copy_ #[22, 22] 3 #[.slice (some ⟨w.heap.size, 0, none⟩) 0 cs.size, .slice none 0 0]).run Tryz.prog W = .ok (goInt 0) W :=
    fun W => run_copy_none W 22 22 3 5 _ _ 0 cs.size 0 0 Tryz.underlying22 hsz rfl
  clear hw
  have hfin := gw_post (cs := cs) hb (by omega) (hmax (by unfold maxLen; omega))
  have hfin2 := gw_post2 (cs := cs) hb (by omega) (hmax (by unfold maxLen; omega))
  have mixed : Tryz.prog.follows .mixedOrders = true := by kernel_rfl
  have t72 := Tryz.underlying80; have a72 := Tryz.isAgg80; have z72 := Tryz.sizeOf80; have v72 := Tryz.zeroValue80; have u72 := run_underlying (Tryz.underlying80)
  have t70 := Tryz.underlying78; have a70 := Tryz.isAgg78; have z70 := Tryz.sizeOf78; have v70 := Tryz.zeroValue78; have u70 := run_underlying (Tryz.underlying78)
  have t37 := Tryz.underlying22; have a37 := Tryz.isAgg22; have z37 := Tryz.sizeOf22; have v37 := Tryz.zeroValue22; have u37 := run_underlying (Tryz.underlying22)
  have t3 := Tryz.underlying3; have a3 := Tryz.isAgg3; have z3 := Tryz.sizeOf3; have v3 := Tryz.zeroValue3; have u3 := run_underlying (Tryz.underlying3)
  have t5 := Tryz.underlying5; have a5 := Tryz.isAgg5; have z5 := Tryz.sizeOf5; have v5 := Tryz.zeroValue5; have u5 := run_underlying (Tryz.underlying5)
  go_enter Tryz.func67, Tryz.ntmps67
  go_wp2
  go_region_o
  all_goals (go_wp2; go_end0; first | exact ⟨rfl, hfin2 _ rfl rfl rfl rfl⟩ | exact ⟨rfl, hfin _ rfl rfl rfl rfl⟩)
set_option maxHeartbeats 2000000 in
set_option maxRecDepth 1000000 in
/-- (*strings.Builder).Grow at a fresh text. -/
theorem bg_ok {n : Int} (h0 : 0 ≤ n) (h1 : n ≤ 140737488355328) : BwOK Tryz.prog 47 80 5 (.int .i64 n) false ⟨#[]⟩ true ⟨#[]⟩ := by
  intro b p v w hb hp hbuf hne
  have hv : v = .slice none 0 0 := hbuf.2.1 rfl rfl
  subst hv
  have htt : (⟨#[]⟩ : ByteArray) ++ ⟨#[]⟩ = ⟨#[]⟩ := by apply ByteArray.ext; simp
  rw [htt]
  obtain ⟨m, rfl⟩ : ∃ m : Nat, n = m := ⟨n.toNat, by omega⟩
  by_cases hm0 : m = 0
  · subst hm0
    go_enter Tryz.func47, Tryz.ntmps47
    go_wp2_with (go_at_call 66; refine (cc_any b p _ _ hb hp).mono ?_)
    rintro e w1 ⟨rfl, q1, q2, q3, q4, q5, q6⟩
    have c1 : w1.drew.cell? ⟨b, 1, none⟩ = some (.slice none 0 0) := by
      have : w1.drew.heap[b]? = _ := q1
      rw [Lib.cell_of_heap this]; rfl
    go_wp2
    go_region
    all_goals go_wp2
    all_goals go_end0
    all_goals exact ⟨_, .slice none 0 0, rfl, q1, BufAt.nil _ _ _, fun g hg => by simp [Value.ownBlock] at hg, q2, q3, q4, by show w.heap.size ≤ w1.heap.size; omega, fun k _ hkb _ => q6 k hkb⟩
  · have hmp : 0 < m := by omega
    have hml : m ≤ 140737488355328 := by omega
    go_enter Tryz.func47, Tryz.ntmps47
    go_wp2_with (go_at_call 66; refine (cc_any b p _ _ hb hp).mono ?_)
    rintro e w1 ⟨rfl, q1, q2, q3, q4, q5, q6⟩
    have c1 : w1.drew.cell? ⟨b, 1, none⟩ = some (.slice none 0 0) := by
      have : w1.drew.heap[b]? = _ := q1
      rw [Lib.cell_of_heap this]; rfl
    go_wp2
    go_region
    all_goals go_wp2_with (go_at_call 67; refine (gw_ok b m hmp hml w1.drew q1).mono ?_; rintro e2 w2 ⟨rfl, cs, g0, g1, g2, g3, g4, g5, g6, g7, g8⟩)
    all_goals go_end0
    all_goals
      have hlt : b < w1.heap.size := (Array.getElem?_eq_some_iff.1 q1).1
      have hd : w1.drew.heap.size = w1.heap.size := rfl
      refine ⟨_, .slice (some ⟨w1.heap.size, 0, none⟩) 0 cs.size, rfl, g2, ⟨⟨rfl, .inr ⟨w1.heap.size, cs.size, cs, rfl, Nat.zero_le _, g3, Nat.zero_le _, g1, by omega, rfl⟩⟩, fun h => absurd h (by decide), fun A q h => by simp only [Value.slice.injEq] at h; exact g0 h.2.2⟩, ?_, g4.trans q2, g5.trans q3, g6.trans q4, by omega, fun k hk hkb hkv => (g8 k (by omega) hkb).trans (q6 k hkb)⟩
      intro g hg
      have : w1.heap.size = g := by simpa [Value.ownBlock] using hg
      subst this
      exact ⟨by omega, by omega, .inr q5⟩
end Go.Proofs.YtapmeemeciigdaaGreatDoor.Ax
