/- The statement FnExactLearnSample: contracts of what it reaches, and its proof. No conditions. -/
import Derived.Test.YtjiflhglbephbaaGreatAxELearnSample4
import Derived.Test.YtjiflhglbephbaaGreatAxR
import Derived.Test.YtjiflhglbephbaaGreatAxS
import Derived.Test.YtjiflhglbephbaaGreatAxY
import Derived.Test.YtjiflhglbephbaaGreatSortShelf
namespace Go.Proofs.YtjiflhglbephbaaGreat.Ax
open Go.RowKit Go.ChangeShapes Go.WideShapes
set_option linter.unusedVariables false
set_option linter.unusedSimpArgs false


theorem opens_t49 : OpensA Tryz.prog 49 (cWriter false) okOWriter := by
  intro H enc w base spare held fuel cs y h
  obtain ⟨ys, n, _, _, hlen, hyl, hf⟩ := DataW.trod_struct Tryz.underlying49 h
  obtain ⟨x0, r0, o0⟩ := (opensA_int Tryz.underlying2) enc w base spare held _ _ _ ((hf 0 _ rfl).trans (List.getElem?_eq_getElem (by rw [hyl]; decide)))
  obtain ⟨x1, r1, o1⟩ := (opens_t47) enc w base spare held _ _ _ ((hf 1 _ rfl).trans (List.getElem?_eq_getElem (by rw [hyl]; decide)))
  have hlen : cs.length = 2 := hlen.trans (by kernel_rfl)
  exact ⟨⟨x0, x1⟩, RelTL.whole (n := 2) (RelTL.app (a := 1) (b := 1) r0 (by kernel_rfl) r1 (by kernel_rfl) (by kernel_rfl) (by omega)) hlen rfl, o0, o1⟩

namespace fnExactLearnSample
set_option maxRecDepth 100000 in
theorem lifted (os : Os) (started : os.Started) (H : Type) (enc : TypeId × Value → H) :
    ReturnsInHanded {} Tryz.checked os 4 .any (Rows.fnExactLearnSampleSpec.pre6 enc Tryz.prog Tryz.f4 Rows.fnExactLearnSampleRow.domain false) (Rows.fnExactLearnSampleSpec.post enc Tryz.prog Tryz.f4 false true false false) := by
  refine returnsInHanded_of_change_shaped (C := Tryz.checked) Tryz.own started (by kernel_rfl) Tryz.func4
    (ChangeSpec.witness6 (enc := enc) (C := Tryz.checked) false ⟨#[], #[.agg #[.int .i64 0, .slice none 0 0], .string ⟨#[]⟩, .slice none 0 0, .int .i64 0], []⟩ 8 (by kernel_rfl) (by kernel_rfl) (by kernel_rfl) (by kernel_rfl)) ?_
  intro W base args ds gs before hval0 hW hcnd hsz hshp _
  have hW' := hW
  obtain ⟨p, q, hA0, hV, rfl, hfz, hnd⟩ := hW
  have hval : ∀ (j : Nat) t v, Tryz.f4.params[j]? = some t → args[j]? = some v → Value.okWide Tryz.prog W .any base t v := hval0
  have hA : DataW.TrodAll enc Tryz.prog W 0 (fun _ => true) true Tryz.f4.params.toList args.toList ds p := hA0
  rw [Tryz.params4] at hA hval
  obtain ⟨v0, vs0, d0, ds0, p0, q0, hargs, rfl, rfl, h0, r0⟩ := trodAll_cons hA
  obtain ⟨v1, vs1, d1, ds1, p1, q1, rfl, rfl, rfl, h1, r1⟩ := trodAll_cons r0
  obtain ⟨v2, vs2, d2, ds2, p2, q2, rfl, rfl, rfl, h2, r2⟩ := trodAll_cons r1
  obtain ⟨v3, vs3, d3, ds3, p3, q3, rfl, rfl, rfl, h3, r3⟩ := trodAll_cons r2
  obtain ⟨rfl, rfl, rfl⟩ := trodAll_nil r3
  obtain rfl : args = #[v0, v1, v2, v3] := args_eq hargs
  obtain ⟨rfl, rfl⟩ := trodVars_none hV
  obtain ⟨fuel0, hf0⟩ := h0
  obtain ⟨cs0, rfl⟩ : ∃ cs, v0 = .agg cs := by
    obtain ⟨cs, h, _⟩ := okWide_struct Tryz.underlying49 (hval 0 49 v0 rfl rfl)
    exact ⟨cs, h⟩
  obtain ⟨x0, rx0, ok0⟩ := (opens_t49) enc W 0 _ _ _ _ _ hf0
  obtain ⟨fuel1, hf1⟩ := h1
  obtain ⟨s1, rfl⟩ := okWide_string Tryz.underlying9 (hval 1 9 v1 rfl rfl)
  obtain ⟨x1, rx1, ok1⟩ := (opensA_str Tryz.underlying9) enc W 0 _ _ _ _ _ hf1
  obtain ⟨fuel2, hf2⟩ := h2
  obtain ⟨A2, l2, c2, rfl⟩ := okWide_slice Tryz.underlying50 (hval 2 50 v2 rfl rfl)
  obtain ⟨x2, rx2, ok2⟩ := (opens_t50) enc W 0 _ _ _ _ _ hf2
  obtain ⟨fuel3, hf3⟩ := h3
  obtain ⟨s3, rfl⟩ := okWide_int Tryz.underlying2 (hval 3 2 v3 rfl rfl)
  obtain ⟨x3, rx3, ok3⟩ := (opensA_int Tryz.underlying2) enc W 0 _ _ _ _ _ hf3
  refine (walk_of0 (fnExactLearnSample_con x0 x1 x2 x3 (fun y hy => (ok0.2 y hy).1) ok1 ok3) (fun w _ => WX_free w) (RelTL.cons (relTL_agg rx0) (RelTL.cons (relTL_one rx1) (RelTL.cons (relTL_one rx2) (RelTL.cons (relTL_one rx3) RelTL.nil))))).mono fun e W1 ⟨he, hb⟩ => ?_
  subst he
  exact ⟨_, rfl, law_post Tryz.laidOut rfl Tryz.underlying4 (of_decide_eq_true (by kernel_rfl)) rfl hW' hb rfl⟩

theorem over : Rows.fnExactLearnSampleRow.holds Tryz.pinned (OpenSpec.ofChange Rows.fnExactLearnSampleSpec) :=
  OpenClaim.holds_of_wide 4 Tryz.f4 rfl rfl rfl rfl rfl rfl rfl ⟨rfl, rfl, rfl, rfl, rfl⟩ rfl rfl rfl rfl rfl (by kernel_rfl) Tryz.func4 (by kernel_rfl)
    (of_decide_eq_true (by kernel_rfl)) (by unfold Func.isWrapper; first | (rw [if_pos (by decide +kernel)]; kernel_rfl) | (rw [if_neg (by decide +kernel)]; exact ⟨rfl, rfl⟩))
    (fun os started H enc _ => lifted os started H enc)

theorem proved : Rows.FnExactLearnSampleSaid :=
  over
#print axioms proved
end fnExactLearnSample
end Go.Proofs.YtjiflhglbephbaaGreat.Ax
