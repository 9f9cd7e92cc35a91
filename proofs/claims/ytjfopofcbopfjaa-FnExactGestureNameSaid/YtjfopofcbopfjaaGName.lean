/- The program's GestureName returns what the reference's returns, for all arguments. No conditions. -/
import Derived.Test.YtjfopofcbopfjaaIn
import Derived.ProofKit
import Derived.OpenShut
import Derived.Lib.Hide
namespace Go.Proofs.Ytjfopofcbopfjaa.fnExactGestureName
open Go.ChangeShapes Go.WideShapes Go.ChangeAt Go.RowKit
set_option linter.unusedVariables false

theorem own : ownKnob Try.prog.godebug = none := by kernel_rfl

def str (g : Int) : ByteArray := if g = 0 then ⟨#[110, 111, 110, 101]⟩ else if g = 1 then ⟨#[116, 97, 112]⟩ else if g = 2 then ⟨#[115, 116, 114, 105, 107, 101]⟩ else if g = 3 then ⟨#[99, 105, 114, 99, 108, 101]⟩
  else if g = 4 then ⟨#[99, 97, 114, 101, 116]⟩ else if g = 5 then ⟨#[108, 105, 110, 101]⟩ else ⟨#[]⟩

set_option maxHeartbeats 400000 in
theorem specName (g : Int) (w : World) :
    Calls Try.prog 8 #[.int .i64 g] w fun e w' => e = .returned (.string (str g)) ∧ Grown w w' := by
  by_cases h : inR g 0 5 = true
  · have hb := inR_iff.1 h
    have H : Hid _ := h
    rcases (show g = 0 ∨ g = 1 ∨ g = 2 ∨ g = 3 ∨ g = 4 ∨ g = 5 by omega) with rfl | rfl | rfl | rfl | rfl | rfl
    all_goals
      clear hb
      go_enter Try.func8, Try.ntmps8
      go_wp2_with (go_at_call 27; refine (l00In_any _ _ _ _).mono ?_; rintro e w' ⟨rfl, rfl⟩)
      go_ret
      exact ⟨by simp [str], by repeat (first | exact Grown.refl _ | apply Grown.drew | apply Grown.alloc)⟩
  · have hb : inR g 0 5 = false := by simpa using h
    have hz : str g = ⟨#[]⟩ := by
      have hn : ¬ (0 ≤ g ∧ g ≤ 5) := by rw [← inR_iff]; exact h
      unfold str
      rw [if_neg (by omega), if_neg (by omega), if_neg (by omega), if_neg (by omega), if_neg (by omega), if_neg (by omega)]
    have H := Lib.hid hz
    clear hz h
    go_enter Try.func8, Try.ntmps8
    go_wp2_with (go_at_call 27; refine (l00In_any _ _ _ _).mono ?_; rintro e w' ⟨rfl, rfl⟩)
    go_ret
    exact ⟨by rw [H.out]; rfl, by repeat (first | exact Grown.refl _ | apply Grown.drew | apply Grown.alloc)⟩

set_option maxHeartbeats 400000 in
theorem implName (g : Int) (w : World) :
    Calls Try.prog 9 #[.int .i64 g] w fun e w' => e = .returned (.string (str g)) ∧ Grown w w' := by
  by_cases h : inR g 0 5 = true
  · have hb := inR_iff.1 h
    have H : Hid _ := h
    rcases (show g = 0 ∨ g = 1 ∨ g = 2 ∨ g = 3 ∨ g = 4 ∨ g = 5 by omega) with rfl | rfl | rfl | rfl | rfl | rfl
    all_goals
      clear hb
      go_enter Try.func9, Try.ntmps9
      go_wp2_with (go_at_call 28; refine (within_any _ _ _ _).mono ?_; rintro e w' ⟨rfl, rfl⟩)
      go_ret
      exact ⟨by simp [str], by repeat (first | exact Grown.refl _ | apply Grown.drew | apply Grown.alloc)⟩
  · have hb : inR g 0 5 = false := by simpa using h
    have hz : str g = ⟨#[]⟩ := by
      have hn : ¬ (0 ≤ g ∧ g ≤ 5) := by rw [← inR_iff]; exact h
      unfold str
      rw [if_neg (by omega), if_neg (by omega), if_neg (by omega), if_neg (by omega), if_neg (by omega), if_neg (by omega)]
    have H := Lib.hid hz
    clear hz h
    go_enter Try.func9, Try.ntmps9
    go_wp2_with (go_at_call 28; refine (within_any _ _ _ _).mono ?_; rintro e w' ⟨rfl, rfl⟩)
    go_ret
    exact ⟨by rw [H.out]; rfl, by repeat (first | exact Grown.refl _ | apply Grown.drew | apply Grown.alloc)⟩

theorem walk (a0 : Int) (w0 : (Lit.int .i64 a0).wf = true) (w : World) :
    Calls Try.prog 3 #[.int .i64 a0] w fun e w' => e = .returned (.bool true) ∧ Grown w w' := by
  go_enter Try.func3, Try.ntmps3
  go_wp2_with (first
    | (go_at_call 8; refine (specName _ _).mono ?_; rintro e w1 ⟨rfl, hg1⟩)
    | (go_at_call 9; refine (implName _ _).mono ?_; rintro e w2 ⟨rfl, hg2⟩))
  go_ret
  exact ⟨rfl, World.keptBut_trans hg1.1 hg2.1, fun x => (hg2.2.1 x).trans (hg1.2.1 x), Nat.le_trans hg1.2.2 hg2.2.2⟩

set_option maxRecDepth 100000 in
theorem lifted (os : Os) (started : os.Started) (H : Type) (enc : TypeId × Value → H) :
    ReturnsInHanded {} Try.checked os 3 .any (Rows.fnExactGestureNameSpec.pre6 enc Try.prog Try.f3 Rows.fnExactGestureNameRow.domain false) (Rows.fnExactGestureNameSpec.post enc Try.prog Try.f3 false true false false) := by
  refine returnsInHanded_of_change (C := Try.checked) own started (by kernel_rfl) Try.func3
    (ChangeSpec.witness6 (enc := enc) (C := Try.checked) false ⟨#[], #[.int .i64 0], []⟩ 8 (by kernel_rfl) (by kernel_rfl) (by kernel_rfl) (by kernel_rfl)) ?_
  intro W base args ds gs before hval0 hW hcnd _
  have hval : ∀ (j : Nat) t v, Try.f3.params[j]? = some t → args[j]? = some v → Value.okWide Try.prog W .any base t v := hval0
  have hW' := hW
  obtain ⟨p, q, hA0, hV, rfl, hfz, hnd⟩ := hW
  have hA : DataW.TrodAll enc Try.prog W 0 (fun _ => true) true Try.f3.params.toList args.toList ds p := hA0
  rw [Try.params3] at hA hval
  obtain ⟨v0, vs0, d0, ds0, p0, q0, hargs, rfl, rfl, h0, r0⟩ := trodAll_cons hA
  obtain ⟨rfl, rfl, rfl⟩ := trodAll_nil r0
  obtain rfl : args = #[v0] := by cases args; simp_all
  obtain ⟨rfl, rfl⟩ := trodVars_none hV
  obtain ⟨a0, rfl, rfl, rfl, w0⟩ := open_int Try.underlying2 (hval 0 2 v0 rfl rfl) h0
  clear hA0 hval0
  simp only [List.append_nil] at hW'
  refine (walk a0 w0 W).mono fun e W' ⟨he, hg⟩ => ?_
  subst he
  exact ⟨_, rfl, post_of_same (pa := []) (pv := []) hW' (fun _ _ _ => (trodAll_cons_mk (shut_bool Try.underlying4 _) trodAll_mk0)) (fun sp _ => (trodAll_cons_mk (shut_int Try.underlying2 w0) trodAll_mk0)) (fun _ _ => rfl) rfl
    (hg.frame _) hg.2.1 (ok_one (by kernel_rfl) rfl (okWide_bool_mk Try.underlying4 _))⟩

theorem over : Rows.fnExactGestureNameRow.holds Try.pinned (OpenSpec.ofChange Rows.fnExactGestureNameSpec) :=
  OpenClaim.holds_of_wide 3 Try.f3 rfl rfl rfl rfl rfl rfl rfl ⟨rfl, rfl, rfl, rfl, rfl⟩ rfl rfl rfl rfl rfl (by kernel_rfl) Try.func3 (by kernel_rfl)
    (of_decide_eq_true (by kernel_rfl)) (by unfold Func.isWrapper; first | (rw [if_pos (by decide +kernel)]; kernel_rfl) | (rw [if_neg (by decide +kernel)]; exact ⟨rfl, rfl⟩))
    (fun os started H enc _ => lifted os started H enc)

theorem proved : Rows.FnExactGestureNameSaid :=
  over
#print axioms proved
end Go.Proofs.Ytjfopofcbopfjaa.fnExactGestureName
