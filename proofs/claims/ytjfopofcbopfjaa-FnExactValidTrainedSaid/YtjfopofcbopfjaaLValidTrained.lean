/- The program's ValidTrained returns what the reference's returns, for all arguments. No conditions. -/
import Derived.Test.YtjfopofcbopfjaaTrOk2
import Derived.Test.YtjfopofcbopfjaaLaw
import Derived.Test.YtjfopofcbopfjaaMem2
namespace Go.Proofs.Ytjfopofcbopfjaa.fnExactValidTrained
open Go.RowKit Go.ChangeShapes Go.WideShapes
set_option linter.unusedVariables false

set_option maxHeartbeats 3200000 in
theorem walk (csx : List Value) (x : Trained) (w : World) (hx : trainedR.rel w (Old w) csx x) :
    Calls Try.prog 7 #[.agg csx.toArray] w fun e w' => e = .returned (.bool true) ∧ Below w.heap.size w w' := by
  have hx0 := hx
  obtain ⟨vBasex, vFeatsx, rfl, bLabelx, qBasex, qFeatsx⟩ := hx0
  have ax := At.box trainedR hx 26
  have B := (Below.refl w.heap.size w).alloc (Nat.le_refl _) (.cells [.string x.Label, vBasex, vFeatsx, .int .i64 x.Count].toArray 26)
  by_cases g0 : (1048576 : Int) < (bulkTrained x : Nat)
  · have kx0 := ax.2.2 0 _ rfl
    have kx1 := ax.2.2 1 _ rfl
    have kx2 := ax.2.2 2 _ rfl
    have kx3 := ax.2.2 3 _ rfl
    simp only [Nat.zero_add] at kx0 kx1 kx2 kx3
    go_enter Try.func7, Try.ntmps7
    go_wp2_with fail
    have hh := szTrained_any x _ ((1048576 : Int)) _ ax.2.1 (by omega) (by omega)
    refine hh.mono ?_
    clear hh
    rintro e w1 ⟨rfl, hb1⟩
    rw [szTake_neg g0]
    have ax_1 := ax.up hb1
    have B1 := B.trans (hb1.mono B.size)
    clear kx0 kx1 kx2 kx3 ax
    have kx0_1 := ax_1.2.2 0 _ rfl
    have kx1_1 := ax_1.2.2 1 _ rfl
    have kx2_1 := ax_1.2.2 2 _ rfl
    have kx3_1 := ax_1.2.2 3 _ rfl
    simp only [Nat.zero_add] at kx0_1 kx1_1 kx2_1 kx3_1
    go_wp2_with fail
    go_ret
    exact ⟨rfl, B1⟩
  have g0 := Int.not_lt.1 g0
  have sBasex : bulkFeatS x.Base ≤ 1048576 := by unfold bulkTrained at g0; omega
  have sFeatsx : bulkFeatS x.Feats ≤ 1048576 := by unfold bulkTrained at g0; omega
  have kx0 := ax.2.2 0 _ rfl
  have kx1 := ax.2.2 1 _ rfl
  have kx2 := ax.2.2 2 _ rfl
  have kx3 := ax.2.2 3 _ rfl
  simp only [Nat.zero_add] at kx0 kx1 kx2 kx3
  go_enter Try.func7, Try.ntmps7
  go_wp2_with fail
  have hh := szTrained_any x _ ((1048576 : Int)) _ ax.2.1 (by omega) (by omega)
  refine hh.mono ?_
  clear hh
  rintro e w1 ⟨rfl, hb1⟩
  rw [szTake_of g0]
  have ax_1 := ax.up hb1
  have B1 := B.trans (hb1.mono B.size)
  clear kx0 kx1 kx2 kx3 ax
  have kx0_1 := ax_1.2.2 0 _ rfl
  have kx1_1 := ax_1.2.2 1 _ rfl
  have kx2_1 := ax_1.2.2 2 _ rfl
  have kx3_1 := ax_1.2.2 3 _ rfl
  simp only [Nat.zero_add] at kx0_1 kx1_1 kx2_1 kx3_1
  go_wp2_with fail
  have hh := toTrained_any x _ _ ax_1.2.1 sBasex sFeatsx
  refine hh.mono ?_
  clear hh
  rintro e w2 ⟨cs2, rfl, r2, hb2⟩
  have ax_2 := ax_1.up hb2
  have B2 := B1.trans (hb2.mono B1.size)
  clear kx0_1 kx1_1 kx2_1 kx3_1 ax_1
  have kx0_2 := ax_2.2.2 0 _ rfl
  have kx1_2 := ax_2.2.2 1 _ rfl
  have kx2_2 := ax_2.2.2 2 _ rfl
  have kx3_2 := ax_2.2.2 3 _ rfl
  simp only [Nat.zero_add] at kx0_2 kx1_2 kx2_2 kx3_2
  go_wp2_with fail
  have hh := specValidTrained_any cs2 x _ (trainedR.fresh_old r2)
  refine hh.mono ?_
  clear hh
  rintro e w3 ⟨rfl, hb3⟩
  have ax_3 := ax_2.up hb3
  have B3 := B2.trans (hb3.mono B2.size)
  clear kx0_2 kx1_2 kx2_2 kx3_2 ax_2 r2
  have kx0_3 := ax_3.2.2 0 _ rfl
  have kx1_3 := ax_3.2.2 1 _ rfl
  have kx2_3 := ax_3.2.2 2 _ rfl
  have kx3_3 := ax_3.2.2 3 _ rfl
  simp only [Nat.zero_add] at kx0_3 kx1_3 kx2_3 kx3_3
  go_wp2_with fail
  have hh := toTrained_any x _ _ ax_3.2.1 sBasex sFeatsx
  refine hh.mono ?_
  clear hh
  rintro e w4 ⟨cs4, rfl, r4, hb4⟩
  have ax_4 := ax_3.up hb4
  have B4 := B3.trans (hb4.mono B3.size)
  clear kx0_3 kx1_3 kx2_3 kx3_3 ax_3
  have r4 := trainedR.fresh_old r4
  have r40 := r4
  obtain ⟨tBase4, tFeats4, rfl, yLabel4, pBase4, pFeats4⟩ := r40
  obtain ⟨BBase4, dBase4, rfl, _⟩ := pBase4
  obtain ⟨BFeats4, dFeats4, rfl, _⟩ := pFeats4
  have hba := (Below.refl w4.heap.size w4).alloc (Nat.le_refl _) (.cells [.string x.Label, .slice BBase4 x.Base.length dBase4, .slice BFeats4 x.Feats.length dFeats4, .int .i64 x.Count].toArray 31)
  have xx := At.box trainedR r4 31
  have ax_4' := ax_4.up hba
  have B4' := B4.alloc B4.size (.cells [.string x.Label, .slice BBase4 x.Base.length dBase4, .slice BFeats4 x.Feats.length dFeats4, .int .i64 x.Count].toArray 31)
  clear hba r4 ax_4
  have kx0_4' := ax_4'.2.2 0 _ rfl
  have kx1_4' := ax_4'.2.2 1 _ rfl
  have kx2_4' := ax_4'.2.2 2 _ rfl
  have kx3_4' := ax_4'.2.2 3 _ rfl
  have kxx0_4' := xx.2.2 0 _ rfl
  have kxx1_4' := xx.2.2 1 _ rfl
  have kxx2_4' := xx.2.2 2 _ rfl
  have kxx3_4' := xx.2.2 3 _ rfl
  simp only [Nat.zero_add] at kx0_4' kx1_4' kx2_4' kx3_4' kxx0_4' kxx1_4' kxx2_4' kxx3_4'
  go_wp2_with fail
  have hh := implValidTrained_any _ x _ xx.2.1
  refine hh.mono ?_
  clear hh
  rintro e w5 ⟨rfl, hb5⟩
  have ax_5 := ax_4'.up hb5
  have xx_5 := xx.up hb5
  have B5 := B4'.trans (hb5.mono B4'.size)
  clear kx0_4' kx1_4' kx2_4' kx3_4' kxx0_4' kxx1_4' kxx2_4' kxx3_4' ax_4' xx
  have kx0_5 := ax_5.2.2 0 _ rfl
  have kx1_5 := ax_5.2.2 1 _ rfl
  have kx2_5 := ax_5.2.2 2 _ rfl
  have kx3_5 := ax_5.2.2 3 _ rfl
  have kxx0_5 := xx_5.2.2 0 _ rfl
  have kxx1_5 := xx_5.2.2 1 _ rfl
  have kxx2_5 := xx_5.2.2 2 _ rfl
  have kxx3_5 := xx_5.2.2 3 _ rfl
  simp only [Nat.zero_add] at kx0_5 kx1_5 kx2_5 kx3_5 kxx0_5 kxx1_5 kxx2_5 kxx3_5
  go_wp2
  have lxx_5 := xx_5.1
  have lx_5 := ax_5.1
  go_region_held3 (fun w' => w'.cell? ⟨w4.heap.size, 0, none⟩ = some (.string x.Label) ∧ w'.cell? ⟨w4.heap.size, 1, none⟩ = some (.slice BBase4 x.Base.length dBase4) ∧ w'.cell? ⟨w4.heap.size, 2, none⟩ = some (.slice BFeats4 x.Feats.length dFeats4) ∧ w'.cell? ⟨w4.heap.size, 3, none⟩ = some (.int .i64 x.Count) ∧ w'.cell? ⟨w.heap.size, 0, none⟩ = some (.string x.Label) ∧ w'.cell? ⟨w.heap.size, 1, none⟩ = some (vBasex) ∧ w'.cell? ⟨w.heap.size, 2, none⟩ = some (vFeatsx) ∧ w'.cell? ⟨w.heap.size, 3, none⟩ = some (.int .i64 x.Count))
    (first | exact ⟨kc hb7 (Nat.lt_of_lt_of_le lxx_5 z6) (kc hb6 lxx_5 (kxx0_5)), kc hb7 (Nat.lt_of_lt_of_le lxx_5 z6) (kc hb6 lxx_5 (kxx1_5)), kc hb7 (Nat.lt_of_lt_of_le lxx_5 z6) (kc hb6 lxx_5 (kxx2_5)), kc hb7 (Nat.lt_of_lt_of_le lxx_5 z6) (kc hb6 lxx_5 (kxx3_5)), kc hb7 (Nat.lt_of_lt_of_le lx_5 z6) (kc hb6 lx_5 (kx0_5)), kc hb7 (Nat.lt_of_lt_of_le lx_5 z6) (kc hb6 lx_5 (kx1_5)), kc hb7 (Nat.lt_of_lt_of_le lx_5 z6) (kc hb6 lx_5 (kx2_5)), kc hb7 (Nat.lt_of_lt_of_le lx_5 z6) (kc hb6 lx_5 (kx3_5))⟩ | exact ⟨kc hb6 lxx_5 (kxx0_5), kc hb6 lxx_5 (kxx1_5), kc hb6 lxx_5 (kxx2_5), kc hb6 lxx_5 (kxx3_5), kc hb6 lx_5 (kx0_5), kc hb6 lx_5 (kx1_5), kc hb6 lx_5 (kx2_5), kc hb6 lx_5 (kx3_5)⟩ | go_keep)
    (first
      | (go_at_call 12; have hh := toTrained_any x _ _ ax_5.drew_.2.1 sBasex sFeatsx; refine hh.mono ?_; clear hh; rintro e w6 ⟨cs6, rfl, r6, hb6⟩; have z6 := hb6.size)
      | (go_at_call 14; have hh := eqTrained_any x x _ _ _ ((xx_5.drew_.up hb6)).2.1 (trainedR.fresh_old r6); refine hh.mono ?_; clear hh; rintro e w7 ⟨rfl, hb7⟩; have z7 := Nat.le_trans z6 hb7.size; rw [same_self]))
  have ax_7 := ((ax_5.drew_.up hb6).up hb7)
  have xx_7 := ((xx_5.drew_.up hb6).up hb7)
  have B7 := ((B5.drew.trans (hb6.mono B5.size)).trans (hb7.mono (Nat.le_trans B5.size z6)))
  clear kx0_5 kx1_5 kx2_5 kx3_5 kxx0_5 kxx1_5 kxx2_5 kxx3_5 ax_5 xx_5 hb6 hb7
  have kx0_7 := ax_7.2.2 0 _ rfl
  have kx1_7 := ax_7.2.2 1 _ rfl
  have kx2_7 := ax_7.2.2 2 _ rfl
  have kx3_7 := ax_7.2.2 3 _ rfl
  have kxx0_7 := xx_7.2.2 0 _ rfl
  have kxx1_7 := xx_7.2.2 1 _ rfl
  have kxx2_7 := xx_7.2.2 2 _ rfl
  have kxx3_7 := xx_7.2.2 3 _ rfl
  simp only [Nat.zero_add] at kx0_7 kx1_7 kx2_7 kx3_7 kxx0_7 kxx1_7 kxx2_7 kxx3_7
  go_wp2
  go_ret
  exact ⟨rfl, B7⟩

set_option maxRecDepth 100000 in
theorem lifted (os : Os) (started : os.Started) (H : Type) (enc : TypeId × Value → H) :
    ReturnsInHanded {} Try.checked os 7 .any (Rows.fnExactValidTrainedSpec.pre6 enc Try.prog Try.f7 Rows.fnExactValidTrainedRow.domain false) (Rows.fnExactValidTrainedSpec.post enc Try.prog Try.f7 false true false false) := by
  refine returnsInHanded_of_change_shaped (C := Try.checked) Try.own started (by kernel_rfl) Try.func7
    (ChangeSpec.witness6 (enc := enc) (C := Try.checked) false ⟨#[], #[.agg #[.string ⟨#[]⟩, .slice none 0 0, .slice none 0 0, .int .i64 0]], []⟩ 8 (by kernel_rfl) (by kernel_rfl) (by kernel_rfl) (by kernel_rfl)) ?_
  intro W base args ds gs before hval0 hW hcnd hsz hshp _
  have hW' := hW
  obtain ⟨p, q, hA0, hV, rfl, hfz, hnd⟩ := hW
  have hval : ∀ (j : Nat) t v, Try.f7.params[j]? = some t → args[j]? = some v → Value.okWide Try.prog W .any base t v := hval0
  have hA : DataW.TrodAll enc Try.prog W 0 (fun _ => true) true Try.f7.params.toList args.toList ds p := hA0
  rw [Try.params7] at hA hval
  obtain ⟨v0, vs0, d0, ds0, p0, q0, hargs, rfl, rfl, h0, r0⟩ := trodAll_cons hA
  obtain ⟨rfl, rfl, rfl⟩ := trodAll_nil r0
  obtain rfl : args = #[v0] := args_one hargs
  obtain ⟨rfl, rfl⟩ := trodVars_none hV
  obtain ⟨fuel0, hf0⟩ := h0
  obtain ⟨cs0, hcs0⟩ : ∃ cs, v0 = .agg cs := by
    obtain ⟨cs, h, _⟩ := okWide_struct Try.underlying26 (hval 0 26 v0 rfl rfl)
    exact ⟨cs, h⟩
  subst hcs0
  obtain ⟨x0, rx0, ok0⟩ := opens_trained enc W 0 _ _ _ _ _ hf0
  refine (walk cs0.toList x0 W rx0).mono fun e W1 ⟨he, hb⟩ => ?_
  subst he
  exact ⟨_, rfl, law_post Try.laidOut rfl Try.underlying4 (of_decide_eq_true (by kernel_rfl)) rfl hW' hb rfl⟩

theorem over : Rows.fnExactValidTrainedRow.holds Try.pinned (OpenSpec.ofChange Rows.fnExactValidTrainedSpec) :=
  OpenClaim.holds_of_wide 7 Try.f7 rfl rfl rfl rfl rfl rfl rfl ⟨rfl, rfl, rfl, rfl, rfl⟩ rfl rfl rfl rfl rfl (by kernel_rfl) Try.func7 (by kernel_rfl)
    (of_decide_eq_true (by kernel_rfl)) (by unfold Func.isWrapper; first | (rw [if_pos (by decide +kernel)]; kernel_rfl) | (rw [if_neg (by decide +kernel)]; exact ⟨rfl, rfl⟩))
    (fun os started H enc _ => lifted os started H enc)

theorem proved : Rows.FnExactValidTrainedSaid :=
  over
#print axioms proved
end Go.Proofs.Ytjfopofcbopfjaa.fnExactValidTrained
