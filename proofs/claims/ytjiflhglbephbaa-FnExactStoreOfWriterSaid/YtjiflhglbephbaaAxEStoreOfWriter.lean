/- The statement FnExactStoreOfWriter: contracts of what it reaches, and its proof. No conditions. -/
import Derived.Test.YtjiflhglbephbaaAxEStoreOfWriter2
import Derived.Test.YtjiflhglbephbaaAxR
import Derived.Test.YtjiflhglbephbaaAxS
namespace Go.Proofs.Ytjiflhglbephbaa.Ax
open Go.RowKit Go.ChangeShapes Go.WideShapes
set_option linter.unusedVariables false
set_option linter.unusedSimpArgs false


theorem opens_t42 : OpensA Try.prog 42 (cWriter false) okOWriter := by
  intro H enc w base spare held fuel cs y h
  obtain ⟨ys, n, _, _, hlen, hyl, hf⟩ := DataW.trod_struct Try.underlying42 h
  obtain ⟨x0, r0, o0⟩ := (opensA_int Try.underlying2) enc w base spare held _ _ _ ((hf 0 _ rfl).trans (List.getElem?_eq_getElem (by rw [hyl]; decide)))
  obtain ⟨x1, r1, o1⟩ := (opens_t40) enc w base spare held _ _ _ ((hf 1 _ rfl).trans (List.getElem?_eq_getElem (by rw [hyl]; decide)))
  have hlen : cs.length = 2 := hlen.trans (by kernel_rfl)
  exact ⟨⟨x0, x1⟩, RelTL.whole (n := 2) (RelTL.app (a := 1) (b := 1) r0 (by kernel_rfl) r1 (by kernel_rfl) (by kernel_rfl) (by omega)) hlen rfl, o0, o1⟩

namespace fnExactStoreOfWriter
set_option maxRecDepth 100000 in
theorem lifted (os : Os) (started : os.Started) (H : Type) (enc : TypeId × Value → H) :
    ReturnsInHanded {} Try.checked os 4 .any (Rows.fnExactStoreOfWriterSpec.pre6 enc Try.prog Try.f4 Rows.fnExactStoreOfWriterRow.domain false) (Rows.fnExactStoreOfWriterSpec.post enc Try.prog Try.f4 false true false false) := by
  refine returnsInHanded_of_change_shaped (C := Try.checked) Try.own started (by kernel_rfl) Try.func4
    (ChangeSpec.witness6 (enc := enc) (C := Try.checked) false ⟨#[], #[.agg #[.int .i64 0, .slice none 0 0]], []⟩ 8 (by kernel_rfl) (by kernel_rfl) (by kernel_rfl) (by kernel_rfl)) ?_
  intro W base args ds gs before hval0 hW hcnd hsz hshp _
  have hW' := hW
  obtain ⟨p, q, hA0, hV, rfl, hfz, hnd⟩ := hW
  have hval : ∀ (j : Nat) t v, Try.f4.params[j]? = some t → args[j]? = some v → Value.okWide Try.prog W .any base t v := hval0
  have hA : DataW.TrodAll enc Try.prog W 0 (fun _ => true) true Try.f4.params.toList args.toList ds p := hA0
  rw [Try.params4] at hA hval
  obtain ⟨v0, vs0, d0, ds0, p0, q0, hargs, rfl, rfl, h0, r0⟩ := trodAll_cons hA
  obtain ⟨rfl, rfl, rfl⟩ := trodAll_nil r0
  obtain rfl : args = #[v0] := args_eq hargs
  obtain ⟨rfl, rfl⟩ := trodVars_none hV
  obtain ⟨fuel0, hf0⟩ := h0
  obtain ⟨cs0, rfl⟩ : ∃ cs, v0 = .agg cs := by
    obtain ⟨cs, h, _⟩ := okWide_struct Try.underlying42 (hval 0 42 v0 rfl rfl)
    exact ⟨cs, h⟩
  obtain ⟨x0, rx0, ok0⟩ := (opens_t42) enc W 0 _ _ _ _ _ hf0
  refine (walk_of0 (fnExactStoreOfWriter_con x0 (fun y hy => (ok0.2 y hy).1)) (fun w _ => WX_free w) (RelTL.cons (relTL_agg rx0) RelTL.nil)).mono fun e W1 ⟨he, hb⟩ => ?_
  subst he
  exact ⟨_, rfl, law_post Try.laidOut rfl Try.underlying4 (of_decide_eq_true (by kernel_rfl)) rfl hW' hb rfl⟩

theorem over : Rows.fnExactStoreOfWriterRow.holds Try.pinned (OpenSpec.ofChange Rows.fnExactStoreOfWriterSpec) :=
  OpenClaim.holds_of_wide 4 Try.f4 rfl rfl rfl rfl rfl rfl rfl ⟨rfl, rfl, rfl, rfl, rfl⟩ rfl rfl rfl rfl rfl (by kernel_rfl) Try.func4 (by kernel_rfl)
    (of_decide_eq_true (by kernel_rfl)) (by unfold Func.isWrapper; first | (rw [if_pos (by decide +kernel)]; kernel_rfl) | (rw [if_neg (by decide +kernel)]; exact ⟨rfl, rfl⟩))
    (fun os started H enc _ => lifted os started H enc)

theorem proved : Rows.FnExactStoreOfWriterSaid :=
  over
#print axioms proved
end fnExactStoreOfWriter
end Go.Proofs.Ytjiflhglbephbaa.Ax
