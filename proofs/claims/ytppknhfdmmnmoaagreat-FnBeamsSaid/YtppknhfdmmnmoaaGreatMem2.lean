/- More plain lemmas on memory. No conditions. -/
import Derived.Test.YtppknhfdmmnmoaaGreatMem
import Derived.Lib.QuietBelow
namespace Go.Proofs.YtppknhfdmmnmoaaGreat
open Go.RowKit
set_option linter.unusedVariables false
theorem kc {B : Nat} {w w1 : World} {b o : Nat} {u : Value} (hb : Below B w w1) (hlt : b < B) (h : w.cell? ⟨b, o, none⟩ = some u) : w1.cell? ⟨b, o, none⟩ = some u := (hb.cell (p := ⟨b, o, none⟩) hlt).trans h
theorem kz {B k : Nat} {w w1 : World} {b o : Nat} {u : Value} (hb : Below B w w1) (hB : k ≤ B) (hlt : b < k) (h : w.cell? ⟨b, o, none⟩ = some u) : w1.cell? ⟨b, o, none⟩ = some u := kc hb (Nat.lt_of_lt_of_le hlt hB) h
theorem Rep.drew_ {α : Type} (R : Rep α) {w : World} {cs : List Value} {x : α} (h : R.rel w (Old w) cs x) : R.rel w.drew (Old w.drew) cs x := R.keep h fun b hb => ⟨rfl, hb⟩
theorem Rep.drewN_ {α : Type} (R : Rep α) {w : World} {cs : List Value} {x : α} (h : R.rel w (Old w) cs x) (n : Nat) : R.rel (w.drewN n) (Old (w.drewN n)) cs x := R.keep h fun b hb => ⟨rfl, hb⟩
theorem At.drew_ {α : Type} {R : Rep α} {w : World} {b o : Nat} {cs : List Value} {x : α} (h : At R w (Old w) b o cs x) : At R w.drew (Old w.drew) b o cs x :=
  ⟨h.1, R.keep h.2.1 fun b hb => ⟨rfl, hb⟩, h.2.2⟩
/-- The call answers b and leaves the world as it was, but for draws. -/
def Quiet (w : World) (v : Value) (e : Ending) (w' : World) : Prop := e = .returned v ∧ ∃ n, w' = w.drewN n
/-- A quiet call's contract, behind draws. -/
theorem quiet_add_q {P : Program} {f : FuncId} {args : Array Value} {w : World} {a n : Nat} {v : Value} (h : Calls P f args (w.drewN (a + n)) (Quiet (w.drewN (a + n)) v)) :
    Calls P f args (w.drewN (a + n)) fun e w'' => e = .returned v ∧ ∃ m, w'' = w.drewN (a + m) :=
  h.mono fun _ _ ⟨he, m, hm⟩ => ⟨he, n + m, by rw [hm, World.drewN_drewN, Nat.add_assoc]⟩
theorem Quiet.below {w w' : World} {v : Value} {e : Ending} (h : Quiet w v e w') : e = .returned v ∧ Below w.heap.size w w' := by
  obtain ⟨rfl, n, rfl⟩ := h
  exact ⟨rfl, below_drewN (Below.refl _ _) n⟩
theorem calls_same {P : Program} {f : FuncId} {args : Array Value} {w : World} {v : Value} (h : Calls P f args w fun e w' => e = .returned v ∧ w = w') : Calls P f args w fun e w' => e = .returned v ∧ Below w.heap.size w w' :=
  h.mono fun _ _ ⟨he, hw⟩ => ⟨he, hw ▸ Below.refl _ _⟩
theorem calls_quiet {P : Program} {f : FuncId} {args : Array Value} {w : World} {v : Value} (h : Calls P f args w (Quiet w v)) : Calls P f args w fun e w' => e = .returned v ∧ Below w.heap.size w w' :=
  h.mono fun _ _ h => h.below
theorem of_regrown {w w' : World} (h : ∃ p : Regrown, w' = Sort.grow (redrawn w p.d) p.os) : Below w.heap.size w w' := by
  obtain ⟨p, rfl⟩ := h
  exact below_regrown _ _ _
end Go.Proofs.YtppknhfdmmnmoaaGreat
