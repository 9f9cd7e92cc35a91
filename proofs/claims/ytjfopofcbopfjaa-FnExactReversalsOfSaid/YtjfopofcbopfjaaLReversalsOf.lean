/- The program's ReversalsOf returns what the reference's returns, for all arguments. No conditions. -/
import Derived.Test.YtjfopofcbopfjaaRev
import Derived.Test.YtjfopofcbopfjaaLaw
import Derived.Test.YtjfopofcbopfjaaMem2
namespace Go.Proofs.Ytjfopofcbopfjaa.fnExactReversalsOf
open Go.RowKit Go.ChangeShapes Go.WideShapes
set_option linter.unusedVariables false

set_option maxHeartbeats 3200000 in
theorem walk (csx : List Value) (x : Stroke) (w : World) (hx : strokeR.rel w (Old w) csx x) :
    Calls Try.prog 5 #[.agg csx.toArray] w fun e w' => e = .returned (.bool true) ∧ Below w.heap.size w w' := by
  have hx0 := hx
  obtain ⟨vPointsx, rfl, qPointsx⟩ := hx0
  have ax := At.box strokeR hx 36
  have B := (Below.refl w.heap.size w).alloc (Nat.le_refl _) (.cells [vPointsx].toArray 36)
  by_cases g0 : (1048576 : Int) < (bulkStroke x : Nat)
  · have kx0 := ax.2.2 0 _ rfl
    simp only [Nat.zero_add] at kx0
    go_enter Try.func5, Try.ntmps5
    go_wp2_with fail
    have hh := szStroke_any x _ ((1048576 : Int)) _ ax.2.1 (by omega) (by omega)
    refine hh.mono ?_
    clear hh
    rintro e w1 ⟨rfl, hb1⟩
    rw [szTake_neg g0]
    have ax_1 := ax.up hb1
    have B1 := B.trans (hb1.mono B.size)
    clear kx0 ax
    have kx0_1 := ax_1.2.2 0 _ rfl
    simp only [Nat.zero_add] at kx0_1
    go_wp2_with fail
    go_ret
    exact ⟨rfl, B1⟩
  have g0 := Int.not_lt.1 g0
  have sPointsx : bulkPointS x.Points ≤ 1048576 := by unfold bulkStroke at g0; omega
  have kx0 := ax.2.2 0 _ rfl
  simp only [Nat.zero_add] at kx0
  go_enter Try.func5, Try.ntmps5
  go_wp2_with fail
  have hh := szStroke_any x _ ((1048576 : Int)) _ ax.2.1 (by omega) (by omega)
  refine hh.mono ?_
  clear hh
  rintro e w1 ⟨rfl, hb1⟩
  rw [szTake_of g0]
  have ax_1 := ax.up hb1
  have B1 := B.trans (hb1.mono B.size)
  clear kx0 ax
  have kx0_1 := ax_1.2.2 0 _ rfl
  simp only [Nat.zero_add] at kx0_1
  go_wp2_with fail
  have hh := toStroke_any x _ _ ax_1.2.1 sPointsx
  refine hh.mono ?_
  clear hh
  rintro e w2 ⟨cs2, rfl, r2, hb2⟩
  have ax_2 := ax_1.up hb2
  have B2 := B1.trans (hb2.mono B1.size)
  clear kx0_1 ax_1
  have kx0_2 := ax_2.2.2 0 _ rfl
  simp only [Nat.zero_add] at kx0_2
  go_wp2_with fail
  have hh := specReversalsOf_any cs2 x _ (strokeR.fresh_old r2)
  refine hh.mono ?_
  clear hh
  rintro e w3 ⟨rfl, hb3⟩
  have ax_3 := ax_2.up hb3
  have B3 := B2.trans (hb3.mono B2.size)
  clear kx0_2 ax_2 r2
  have kx0_3 := ax_3.2.2 0 _ rfl
  simp only [Nat.zero_add] at kx0_3
  go_wp2_with fail
  have hh := toStroke_any x _ _ ax_3.2.1 sPointsx
  refine hh.mono ?_
  clear hh
  rintro e w4 ⟨cs4, rfl, r4, hb4⟩
  have ax_4 := ax_3.up hb4
  have B4 := B3.trans (hb4.mono B3.size)
  clear kx0_3 ax_3
  have r4 := strokeR.fresh_old r4
  have r40 := r4
  obtain ⟨tPoints4, rfl, pPoints4⟩ := r40
  obtain ⟨BPoints4, dPoints4, rfl, _⟩ := pPoints4
  have hba := (Below.refl w4.heap.size w4).alloc (Nat.le_refl _) (.cells [.slice BPoints4 x.Points.length dPoints4].toArray 42)
  have xx := At.box strokeR r4 42
  have ax_4' := ax_4.up hba
  have B4' := B4.alloc B4.size (.cells [.slice BPoints4 x.Points.length dPoints4].toArray 42)
  clear hba r4 ax_4
  have kx0_4' := ax_4'.2.2 0 _ rfl
  have kxx0_4' := xx.2.2 0 _ rfl
  simp only [Nat.zero_add] at kx0_4' kxx0_4'
  go_wp2_with fail
  have hh := implReversalsOf_any _ x _ xx.2.1
  refine hh.mono ?_
  clear hh
  rintro e w5 ⟨rfl, hb5⟩
  have ax_5 := ax_4'.up hb5
  have xx_5 := xx.up hb5
  have B5 := B4'.trans (hb5.mono B4'.size)
  clear kx0_4' kxx0_4' ax_4' xx
  have kx0_5 := ax_5.2.2 0 _ rfl
  have kxx0_5 := xx_5.2.2 0 _ rfl
  simp only [Nat.zero_add] at kx0_5 kxx0_5
  go_wp2
  have lxx_5 := xx_5.1
  have lx_5 := ax_5.1
  go_region_held3 (fun w' => w'.cell? ⟨w4.heap.size, 0, none⟩ = some (.slice BPoints4 x.Points.length dPoints4) ∧ w'.cell? ⟨w.heap.size, 0, none⟩ = some (vPointsx))
    (first | exact ⟨kc hb7 (Nat.lt_of_lt_of_le lxx_5 z6) (kc hb6 lxx_5 (kxx0_5)), kc hb7 (Nat.lt_of_lt_of_le lx_5 z6) (kc hb6 lx_5 (kx0_5))⟩ | exact ⟨kc hb6 lxx_5 (kxx0_5), kc hb6 lx_5 (kx0_5)⟩ | go_keep)
    (first
      | (go_at_call 17; have hh := toStroke_any x _ _ ax_5.drew_.2.1 sPointsx; refine hh.mono ?_; clear hh; rintro e w6 ⟨cs6, rfl, r6, hb6⟩; have z6 := hb6.size)
      | (go_at_call 19; have hh := eqStroke_any x x _ _ _ ((xx_5.drew_.up hb6)).2.1 (strokeR.fresh_old r6); refine hh.mono ?_; clear hh; rintro e w7 ⟨rfl, hb7⟩; have z7 := Nat.le_trans z6 hb7.size; rw [same_self]))
  have ax_7 := ((ax_5.drew_.up hb6).up hb7)
  have xx_7 := ((xx_5.drew_.up hb6).up hb7)
  have B7 := ((B5.drew.trans (hb6.mono B5.size)).trans (hb7.mono (Nat.le_trans B5.size z6)))
  clear kx0_5 kxx0_5 ax_5 xx_5 hb6 hb7
  have kx0_7 := ax_7.2.2 0 _ rfl
  have kxx0_7 := xx_7.2.2 0 _ rfl
  simp only [Nat.zero_add] at kx0_7 kxx0_7
  go_wp2
  go_ret
  exact ⟨rfl, B7⟩

set_option maxRecDepth 100000 in
theorem lifted (os : Os) (started : os.Started) (H : Type) (enc : TypeId × Value → H) :
    ReturnsInHanded {} Try.checked os 5 .any (Rows.fnExactReversalsOfSpec.pre6 enc Try.prog Try.f5 Rows.fnExactReversalsOfRow.domain false) (Rows.fnExactReversalsOfSpec.post enc Try.prog Try.f5 false true false false) := by
  refine returnsInHanded_of_change_shaped (C := Try.checked) Try.own started (by kernel_rfl) Try.func5
    (ChangeSpec.witness6 (enc := enc) (C := Try.checked) false ⟨#[], #[.agg #[.slice none 0 0]], []⟩ 8 (by kernel_rfl) (by kernel_rfl) (by kernel_rfl) (by kernel_rfl)) ?_
  intro W base args ds gs before hval0 hW hcnd hsz hshp _
  have hW' := hW
  obtain ⟨p, q, hA0, hV, rfl, hfz, hnd⟩ := hW
  have hval : ∀ (j : Nat) t v, Try.f5.params[j]? = some t → args[j]? = some v → Value.okWide Try.prog W .any base t v := hval0
  have hA : DataW.TrodAll enc Try.prog W 0 (fun _ => true) true Try.f5.params.toList args.toList ds p := hA0
  rw [Try.params5] at hA hval
  obtain ⟨v0, vs0, d0, ds0, p0, q0, hargs, rfl, rfl, h0, r0⟩ := trodAll_cons hA
  obtain ⟨rfl, rfl, rfl⟩ := trodAll_nil r0
  obtain rfl : args = #[v0] := args_one hargs
  obtain ⟨rfl, rfl⟩ := trodVars_none hV
  obtain ⟨fuel0, hf0⟩ := h0
  obtain ⟨cs0, hcs0⟩ : ∃ cs, v0 = .agg cs := by
    obtain ⟨cs, h, _⟩ := okWide_struct Try.underlying36 (hval 0 36 v0 rfl rfl)
    exact ⟨cs, h⟩
  subst hcs0
  obtain ⟨x0, rx0, ok0⟩ := opens_stroke enc W 0 _ _ _ _ _ hf0
  refine (walk cs0.toList x0 W rx0).mono fun e W1 ⟨he, hb⟩ => ?_
  subst he
  exact ⟨_, rfl, law_post Try.laidOut rfl Try.underlying4 (of_decide_eq_true (by kernel_rfl)) rfl hW' hb rfl⟩

theorem over : Rows.fnExactReversalsOfRow.holds Try.pinned (OpenSpec.ofChange Rows.fnExactReversalsOfSpec) :=
  OpenClaim.holds_of_wide 5 Try.f5 rfl rfl rfl rfl rfl rfl rfl ⟨rfl, rfl, rfl, rfl, rfl⟩ rfl rfl rfl rfl rfl (by kernel_rfl) Try.func5 (by kernel_rfl)
    (of_decide_eq_true (by kernel_rfl)) (by unfold Func.isWrapper; first | (rw [if_pos (by decide +kernel)]; kernel_rfl) | (rw [if_neg (by decide +kernel)]; exact ⟨rfl, rfl⟩))
    (fun os started H enc _ => lifted os started H enc)

theorem proved : Rows.FnExactReversalsOfSaid :=
  over
#print axioms proved
end Go.Proofs.Ytjfopofcbopfjaa.fnExactReversalsOf
