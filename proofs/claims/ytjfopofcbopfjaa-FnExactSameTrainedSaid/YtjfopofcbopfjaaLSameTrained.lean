/- The program's SameTrained returns what the reference's returns, for all arguments. No conditions. -/
import Derived.Test.YtjfopofcbopfjaaSameT
import Derived.Test.YtjfopofcbopfjaaLaw
import Derived.Test.YtjfopofcbopfjaaMem2
namespace Go.Proofs.Ytjfopofcbopfjaa.fnExactSameTrained
open Go.RowKit Go.ChangeShapes Go.WideShapes
set_option linter.unusedVariables false

set_option maxHeartbeats 3200000 in
theorem walk (csx : List Value) (csy : List Value) (x : Trained) (y : Trained) (w : World) (hx : trainedR.rel w (Old w) csx x) (hy : trainedR.rel w (Old w) csy y) :
    Calls Try.prog 4 #[.agg csx.toArray, .agg csy.toArray] w fun e w' => e = .returned (.bool true) ∧ Below w.heap.size w w' := by
  have hx0 := hx
  obtain ⟨vBasex, vFeatsx, rfl, bLabelx, qBasex, qFeatsx⟩ := hx0
  have hy0 := hy
  obtain ⟨vBasey, vFeatsy, rfl, bLabely, qBasey, qFeatsy⟩ := hy0
  have ax := (At.box trainedR hx 26).up ((Below.refl _ _).alloc (Nat.le_refl _) (.cells [.string y.Label, vBasey, vFeatsy, .int .i64 y.Count].toArray 26))
  have ay := At.box trainedR (trainedR.up hy ((Below.refl _ _).alloc (Nat.le_refl _) (.cells [.string x.Label, vBasex, vFeatsx, .int .i64 x.Count].toArray 26))) 26
  have B := ((Below.refl w.heap.size w).alloc (Nat.le_refl _) (.cells [.string x.Label, vBasex, vFeatsx, .int .i64 x.Count].toArray 26)).alloc (by simp) (.cells [.string y.Label, vBasey, vFeatsy, .int .i64 y.Count].toArray 26)
  simp only [World.size_alloc] at ax ay
  by_cases g0 : (1048576 : Int) < (bulkTrained x : Nat)
  · have kx0 := ax.2.2 0 _ rfl
    have kx1 := ax.2.2 1 _ rfl
    have kx2 := ax.2.2 2 _ rfl
    have kx3 := ax.2.2 3 _ rfl
    have ky0 := ay.2.2 0 _ rfl
    have ky1 := ay.2.2 1 _ rfl
    have ky2 := ay.2.2 2 _ rfl
    have ky3 := ay.2.2 3 _ rfl
    simp only [Nat.zero_add] at kx0 kx1 kx2 kx3 ky0 ky1 ky2 ky3
    go_enter Try.func4, Try.ntmps4
    go_wp2_with fail
    have hh := szTrained_any x _ ((1048576 : Int)) _ ax.2.1 (by omega) (by omega)
    refine hh.mono ?_
    clear hh
    rintro e w1 ⟨rfl, hb1⟩
    rw [szTake_neg g0]
    have ax_1 := ax.up hb1
    have ay_1 := ay.up hb1
    have B1 := B.trans (hb1.mono B.size)
    clear kx0 kx1 kx2 kx3 ky0 ky1 ky2 ky3 ax ay
    have kx0_1 := ax_1.2.2 0 _ rfl
    have kx1_1 := ax_1.2.2 1 _ rfl
    have kx2_1 := ax_1.2.2 2 _ rfl
    have kx3_1 := ax_1.2.2 3 _ rfl
    have ky0_1 := ay_1.2.2 0 _ rfl
    have ky1_1 := ay_1.2.2 1 _ rfl
    have ky2_1 := ay_1.2.2 2 _ rfl
    have ky3_1 := ay_1.2.2 3 _ rfl
    simp only [Nat.zero_add] at kx0_1 kx1_1 kx2_1 kx3_1 ky0_1 ky1_1 ky2_1 ky3_1
    go_wp2_with fail
    go_ret
    exact ⟨rfl, B1⟩
  have g0 := Int.not_lt.1 g0
  by_cases g1 : (1048576 : Int) - (bulkTrained x : Nat) < (bulkTrained y : Nat)
  · have kx0 := ax.2.2 0 _ rfl
    have kx1 := ax.2.2 1 _ rfl
    have kx2 := ax.2.2 2 _ rfl
    have kx3 := ax.2.2 3 _ rfl
    have ky0 := ay.2.2 0 _ rfl
    have ky1 := ay.2.2 1 _ rfl
    have ky2 := ay.2.2 2 _ rfl
    have ky3 := ay.2.2 3 _ rfl
    simp only [Nat.zero_add] at kx0 kx1 kx2 kx3 ky0 ky1 ky2 ky3
    go_enter Try.func4, Try.ntmps4
    go_wp2_with fail
    have hh := szTrained_any x _ ((1048576 : Int)) _ ax.2.1 (by omega) (by omega)
    refine hh.mono ?_
    clear hh
    rintro e w1 ⟨rfl, hb1⟩
    rw [szTake_of g0]
    have ax_1 := ax.up hb1
    have ay_1 := ay.up hb1
    have B1 := B.trans (hb1.mono B.size)
    clear kx0 kx1 kx2 kx3 ky0 ky1 ky2 ky3 ax ay
    have kx0_1 := ax_1.2.2 0 _ rfl
    have kx1_1 := ax_1.2.2 1 _ rfl
    have kx2_1 := ax_1.2.2 2 _ rfl
    have kx3_1 := ax_1.2.2 3 _ rfl
    have ky0_1 := ay_1.2.2 0 _ rfl
    have ky1_1 := ay_1.2.2 1 _ rfl
    have ky2_1 := ay_1.2.2 2 _ rfl
    have ky3_1 := ay_1.2.2 3 _ rfl
    simp only [Nat.zero_add] at kx0_1 kx1_1 kx2_1 kx3_1 ky0_1 ky1_1 ky2_1 ky3_1
    go_wp2_with fail
    have hh := szTrained_any y _ ((1048576 : Int) - (bulkTrained x : Nat)) _ ay_1.2.1 (by omega) (by omega)
    refine hh.mono ?_
    clear hh
    rintro e w2 ⟨rfl, hb2⟩
    rw [szTake_neg g1]
    have ax_2 := ax_1.up hb2
    have ay_2 := ay_1.up hb2
    have B2 := B1.trans (hb2.mono B1.size)
    clear kx0_1 kx1_1 kx2_1 kx3_1 ky0_1 ky1_1 ky2_1 ky3_1 ax_1 ay_1
    have kx0_2 := ax_2.2.2 0 _ rfl
    have kx1_2 := ax_2.2.2 1 _ rfl
    have kx2_2 := ax_2.2.2 2 _ rfl
    have kx3_2 := ax_2.2.2 3 _ rfl
    have ky0_2 := ay_2.2.2 0 _ rfl
    have ky1_2 := ay_2.2.2 1 _ rfl
    have ky2_2 := ay_2.2.2 2 _ rfl
    have ky3_2 := ay_2.2.2 3 _ rfl
    simp only [Nat.zero_add] at kx0_2 kx1_2 kx2_2 kx3_2 ky0_2 ky1_2 ky2_2 ky3_2
    go_wp2_with fail
    go_ret
    exact ⟨rfl, B2⟩
  have g1 := Int.not_lt.1 g1
  have sBasex : bulkFeatS x.Base ≤ 1048576 := by unfold bulkTrained at g0; omega
  have sFeatsx : bulkFeatS x.Feats ≤ 1048576 := by unfold bulkTrained at g0; omega
  have sBasey : bulkFeatS y.Base ≤ 1048576 := by unfold bulkTrained at g1; omega
  have sFeatsy : bulkFeatS y.Feats ≤ 1048576 := by unfold bulkTrained at g1; omega
  have kx0 := ax.2.2 0 _ rfl
  have kx1 := ax.2.2 1 _ rfl
  have kx2 := ax.2.2 2 _ rfl
  have kx3 := ax.2.2 3 _ rfl
  have ky0 := ay.2.2 0 _ rfl
  have ky1 := ay.2.2 1 _ rfl
  have ky2 := ay.2.2 2 _ rfl
  have ky3 := ay.2.2 3 _ rfl
  simp only [Nat.zero_add] at kx0 kx1 kx2 kx3 ky0 ky1 ky2 ky3
  go_enter Try.func4, Try.ntmps4
  go_wp2_with fail
  have hh := szTrained_any x _ ((1048576 : Int)) _ ax.2.1 (by omega) (by omega)
  refine hh.mono ?_
  clear hh
  rintro e w1 ⟨rfl, hb1⟩
  rw [szTake_of g0]
  have ax_1 := ax.up hb1
  have ay_1 := ay.up hb1
  have B1 := B.trans (hb1.mono B.size)
  clear kx0 kx1 kx2 kx3 ky0 ky1 ky2 ky3 ax ay
  have kx0_1 := ax_1.2.2 0 _ rfl
  have kx1_1 := ax_1.2.2 1 _ rfl
  have kx2_1 := ax_1.2.2 2 _ rfl
  have kx3_1 := ax_1.2.2 3 _ rfl
  have ky0_1 := ay_1.2.2 0 _ rfl
  have ky1_1 := ay_1.2.2 1 _ rfl
  have ky2_1 := ay_1.2.2 2 _ rfl
  have ky3_1 := ay_1.2.2 3 _ rfl
  simp only [Nat.zero_add] at kx0_1 kx1_1 kx2_1 kx3_1 ky0_1 ky1_1 ky2_1 ky3_1
  go_wp2_with fail
  have hh := szTrained_any y _ ((1048576 : Int) - (bulkTrained x : Nat)) _ ay_1.2.1 (by omega) (by omega)
  refine hh.mono ?_
  clear hh
  rintro e w2 ⟨rfl, hb2⟩
  rw [szTake_of g1]
  have ax_2 := ax_1.up hb2
  have ay_2 := ay_1.up hb2
  have B2 := B1.trans (hb2.mono B1.size)
  clear kx0_1 kx1_1 kx2_1 kx3_1 ky0_1 ky1_1 ky2_1 ky3_1 ax_1 ay_1
  have kx0_2 := ax_2.2.2 0 _ rfl
  have kx1_2 := ax_2.2.2 1 _ rfl
  have kx2_2 := ax_2.2.2 2 _ rfl
  have kx3_2 := ax_2.2.2 3 _ rfl
  have ky0_2 := ay_2.2.2 0 _ rfl
  have ky1_2 := ay_2.2.2 1 _ rfl
  have ky2_2 := ay_2.2.2 2 _ rfl
  have ky3_2 := ay_2.2.2 3 _ rfl
  simp only [Nat.zero_add] at kx0_2 kx1_2 kx2_2 kx3_2 ky0_2 ky1_2 ky2_2 ky3_2
  go_wp2_with fail
  have lx_2 := ax_2.1
  have ly_2 := ay_2.1
  go_region_held3 (fun w' => w'.cell? ⟨w.heap.size, 0, none⟩ = some (.string x.Label) ∧ w'.cell? ⟨w.heap.size, 1, none⟩ = some (vBasex) ∧ w'.cell? ⟨w.heap.size, 2, none⟩ = some (vFeatsx) ∧ w'.cell? ⟨w.heap.size, 3, none⟩ = some (.int .i64 x.Count) ∧ w'.cell? ⟨w.heap.size + 1, 0, none⟩ = some (.string y.Label) ∧ w'.cell? ⟨w.heap.size + 1, 1, none⟩ = some (vBasey) ∧ w'.cell? ⟨w.heap.size + 1, 2, none⟩ = some (vFeatsy) ∧ w'.cell? ⟨w.heap.size + 1, 3, none⟩ = some (.int .i64 y.Count))
    (first | exact ⟨kc hb5 (Nat.lt_of_lt_of_le lx_2 z4) (kc hb4 (Nat.lt_of_lt_of_le lx_2 z3) (kc hb3 lx_2 (kx0_2))), kc hb5 (Nat.lt_of_lt_of_le lx_2 z4) (kc hb4 (Nat.lt_of_lt_of_le lx_2 z3) (kc hb3 lx_2 (kx1_2))), kc hb5 (Nat.lt_of_lt_of_le lx_2 z4) (kc hb4 (Nat.lt_of_lt_of_le lx_2 z3) (kc hb3 lx_2 (kx2_2))), kc hb5 (Nat.lt_of_lt_of_le lx_2 z4) (kc hb4 (Nat.lt_of_lt_of_le lx_2 z3) (kc hb3 lx_2 (kx3_2))), kc hb5 (Nat.lt_of_lt_of_le ly_2 z4) (kc hb4 (Nat.lt_of_lt_of_le ly_2 z3) (kc hb3 ly_2 (ky0_2))), kc hb5 (Nat.lt_of_lt_of_le ly_2 z4) (kc hb4 (Nat.lt_of_lt_of_le ly_2 z3) (kc hb3 ly_2 (ky1_2))), kc hb5 (Nat.lt_of_lt_of_le ly_2 z4) (kc hb4 (Nat.lt_of_lt_of_le ly_2 z3) (kc hb3 ly_2 (ky2_2))), kc hb5 (Nat.lt_of_lt_of_le ly_2 z4) (kc hb4 (Nat.lt_of_lt_of_le ly_2 z3) (kc hb3 ly_2 (ky3_2)))⟩ | exact ⟨kc hb4 (Nat.lt_of_lt_of_le lx_2 z3) (kc hb3 lx_2 (kx0_2)), kc hb4 (Nat.lt_of_lt_of_le lx_2 z3) (kc hb3 lx_2 (kx1_2)), kc hb4 (Nat.lt_of_lt_of_le lx_2 z3) (kc hb3 lx_2 (kx2_2)), kc hb4 (Nat.lt_of_lt_of_le lx_2 z3) (kc hb3 lx_2 (kx3_2)), kc hb4 (Nat.lt_of_lt_of_le ly_2 z3) (kc hb3 ly_2 (ky0_2)), kc hb4 (Nat.lt_of_lt_of_le ly_2 z3) (kc hb3 ly_2 (ky1_2)), kc hb4 (Nat.lt_of_lt_of_le ly_2 z3) (kc hb3 ly_2 (ky2_2)), kc hb4 (Nat.lt_of_lt_of_le ly_2 z3) (kc hb3 ly_2 (ky3_2))⟩ | exact ⟨kc hb3 lx_2 (kx0_2), kc hb3 lx_2 (kx1_2), kc hb3 lx_2 (kx2_2), kc hb3 lx_2 (kx3_2), kc hb3 ly_2 (ky0_2), kc hb3 ly_2 (ky1_2), kc hb3 ly_2 (ky2_2), kc hb3 ly_2 (ky3_2)⟩ | go_keep)
    (first
      | (go_at_call_of 12 (Value.agg #[.string x.Label, vBasex, vFeatsx, .int .i64 x.Count]); have hh := toTrained_any x _ _ ax_2.drew_.2.1 sBasex sFeatsx; refine hh.mono ?_; clear hh; rintro e w3 ⟨cs3, rfl, r3, hb3⟩; have z3 := hb3.size)
      | (go_at_call_of 12 (Value.agg #[.string y.Label, vBasey, vFeatsy, .int .i64 y.Count]); have hh := toTrained_any y _ _ (ay_2.drew_.up hb3).2.1 sBasey sFeatsy; refine hh.mono ?_; clear hh; rintro e w4 ⟨cs4, rfl, r4, hb4⟩; have z4 := Nat.le_trans z3 hb4.size)
      | (go_at_call 11; have hh := specSameTrained_any cs3 cs4 x y _ (trainedR.up (trainedR.fresh_old r3) hb4) (trainedR.fresh_old r4); refine hh.mono ?_; clear hh; rintro e w5 ⟨rfl, hb5⟩; have z5 := Nat.le_trans z4 hb5.size))
  have ax_5 := (((ax_2.drew_.up hb3).up hb4).up hb5)
  have ay_5 := (((ay_2.drew_.up hb3).up hb4).up hb5)
  have B5 := (((B2.drew.trans (hb3.mono B2.size)).trans (hb4.mono (Nat.le_trans B2.size z3))).trans (hb5.mono (Nat.le_trans B2.size z4)))
  clear kx0_2 kx1_2 kx2_2 kx3_2 ky0_2 ky1_2 ky2_2 ky3_2 ax_2 ay_2 hb3 hb4 hb5
  have kx0_5 := ax_5.2.2 0 _ rfl
  have kx1_5 := ax_5.2.2 1 _ rfl
  have kx2_5 := ax_5.2.2 2 _ rfl
  have kx3_5 := ax_5.2.2 3 _ rfl
  have ky0_5 := ay_5.2.2 0 _ rfl
  have ky1_5 := ay_5.2.2 1 _ rfl
  have ky2_5 := ay_5.2.2 2 _ rfl
  have ky3_5 := ay_5.2.2 3 _ rfl
  simp only [Nat.zero_add] at kx0_5 kx1_5 kx2_5 kx3_5 ky0_5 ky1_5 ky2_5 ky3_5
  go_wp2_with fail
  have hh := toTrained_any x _ _ ax_5.2.1 sBasex sFeatsx
  refine hh.mono ?_
  clear hh
  rintro e w6 ⟨cs6, rfl, r6, hb6⟩
  have ax_6 := ax_5.up hb6
  have ay_6 := ay_5.up hb6
  have B6 := B5.trans (hb6.mono B5.size)
  clear kx0_5 kx1_5 kx2_5 kx3_5 ky0_5 ky1_5 ky2_5 ky3_5 ax_5 ay_5
  have r6 := trainedR.fresh_old r6
  have r60 := r6
  obtain ⟨tBase6, tFeats6, rfl, yLabel6, pBase6, pFeats6⟩ := r60
  obtain ⟨BBase6, dBase6, rfl, _⟩ := pBase6
  obtain ⟨BFeats6, dFeats6, rfl, _⟩ := pFeats6
  have hba := (Below.refl w6.heap.size w6).alloc (Nat.le_refl _) (.cells [.string x.Label, .slice BBase6 x.Base.length dBase6, .slice BFeats6 x.Feats.length dFeats6, .int .i64 x.Count].toArray 31)
  have xx := At.box trainedR r6 31
  have ax_6' := ax_6.up hba
  have ay_6' := ay_6.up hba
  have B6' := B6.alloc B6.size (.cells [.string x.Label, .slice BBase6 x.Base.length dBase6, .slice BFeats6 x.Feats.length dFeats6, .int .i64 x.Count].toArray 31)
  clear hba r6 ax_6 ay_6
  have kx0_6' := ax_6'.2.2 0 _ rfl
  have kx1_6' := ax_6'.2.2 1 _ rfl
  have kx2_6' := ax_6'.2.2 2 _ rfl
  have kx3_6' := ax_6'.2.2 3 _ rfl
  have ky0_6' := ay_6'.2.2 0 _ rfl
  have ky1_6' := ay_6'.2.2 1 _ rfl
  have ky2_6' := ay_6'.2.2 2 _ rfl
  have ky3_6' := ay_6'.2.2 3 _ rfl
  have kxx0_6' := xx.2.2 0 _ rfl
  have kxx1_6' := xx.2.2 1 _ rfl
  have kxx2_6' := xx.2.2 2 _ rfl
  have kxx3_6' := xx.2.2 3 _ rfl
  simp only [Nat.zero_add] at kx0_6' kx1_6' kx2_6' kx3_6' ky0_6' ky1_6' ky2_6' ky3_6' kxx0_6' kxx1_6' kxx2_6' kxx3_6'
  go_wp2_with fail
  have hh := toTrained_any y _ _ ay_6'.2.1 sBasey sFeatsy
  refine hh.mono ?_
  clear hh
  rintro e w7 ⟨cs7, rfl, r7, hb7⟩
  have ax_7 := ax_6'.up hb7
  have ay_7 := ay_6'.up hb7
  have xx_7 := xx.up hb7
  have B7 := B6'.trans (hb7.mono B6'.size)
  clear kx0_6' kx1_6' kx2_6' kx3_6' ky0_6' ky1_6' ky2_6' ky3_6' kxx0_6' kxx1_6' kxx2_6' kxx3_6' ax_6' ay_6' xx
  have r7 := trainedR.fresh_old r7
  have r70 := r7
  obtain ⟨tBase7, tFeats7, rfl, yLabel7, pBase7, pFeats7⟩ := r70
  obtain ⟨BBase7, dBase7, rfl, _⟩ := pBase7
  obtain ⟨BFeats7, dFeats7, rfl, _⟩ := pFeats7
  have hba := (Below.refl w7.heap.size w7).alloc (Nat.le_refl _) (.cells [.string y.Label, .slice BBase7 y.Base.length dBase7, .slice BFeats7 y.Feats.length dFeats7, .int .i64 y.Count].toArray 31)
  have xy := At.box trainedR r7 31
  have ax_7' := ax_7.up hba
  have ay_7' := ay_7.up hba
  have xx_7' := xx_7.up hba
  have B7' := B7.alloc B7.size (.cells [.string y.Label, .slice BBase7 y.Base.length dBase7, .slice BFeats7 y.Feats.length dFeats7, .int .i64 y.Count].toArray 31)
  clear hba r7 ax_7 ay_7 xx_7
  have kx0_7' := ax_7'.2.2 0 _ rfl
  have kx1_7' := ax_7'.2.2 1 _ rfl
  have kx2_7' := ax_7'.2.2 2 _ rfl
  have kx3_7' := ax_7'.2.2 3 _ rfl
  have ky0_7' := ay_7'.2.2 0 _ rfl
  have ky1_7' := ay_7'.2.2 1 _ rfl
  have ky2_7' := ay_7'.2.2 2 _ rfl
  have ky3_7' := ay_7'.2.2 3 _ rfl
  have kxx0_7' := xx_7'.2.2 0 _ rfl
  have kxx1_7' := xx_7'.2.2 1 _ rfl
  have kxx2_7' := xx_7'.2.2 2 _ rfl
  have kxx3_7' := xx_7'.2.2 3 _ rfl
  have kxy0_7' := xy.2.2 0 _ rfl
  have kxy1_7' := xy.2.2 1 _ rfl
  have kxy2_7' := xy.2.2 2 _ rfl
  have kxy3_7' := xy.2.2 3 _ rfl
  simp only [Nat.zero_add] at kx0_7' kx1_7' kx2_7' kx3_7' ky0_7' ky1_7' ky2_7' ky3_7' kxx0_7' kxx1_7' kxx2_7' kxx3_7' kxy0_7' kxy1_7' kxy2_7' kxy3_7'
  go_wp2_with fail
  have hh := implSameTrained_any _ _ x y _ xx_7'.2.1 xy.2.1
  refine hh.mono ?_
  clear hh
  rintro e w8 ⟨rfl, hb8⟩
  have ax_8 := ax_7'.up hb8
  have ay_8 := ay_7'.up hb8
  have xx_8 := xx_7'.up hb8
  have xy_8 := xy.up hb8
  have B8 := B7'.trans (hb8.mono B7'.size)
  clear kx0_7' kx1_7' kx2_7' kx3_7' ky0_7' ky1_7' ky2_7' ky3_7' kxx0_7' kxx1_7' kxx2_7' kxx3_7' kxy0_7' kxy1_7' kxy2_7' kxy3_7' ax_7' ay_7' xx_7' xy
  have kx0_8 := ax_8.2.2 0 _ rfl
  have kx1_8 := ax_8.2.2 1 _ rfl
  have kx2_8 := ax_8.2.2 2 _ rfl
  have kx3_8 := ax_8.2.2 3 _ rfl
  have ky0_8 := ay_8.2.2 0 _ rfl
  have ky1_8 := ay_8.2.2 1 _ rfl
  have ky2_8 := ay_8.2.2 2 _ rfl
  have ky3_8 := ay_8.2.2 3 _ rfl
  have kxx0_8 := xx_8.2.2 0 _ rfl
  have kxx1_8 := xx_8.2.2 1 _ rfl
  have kxx2_8 := xx_8.2.2 2 _ rfl
  have kxx3_8 := xx_8.2.2 3 _ rfl
  have kxy0_8 := xy_8.2.2 0 _ rfl
  have kxy1_8 := xy_8.2.2 1 _ rfl
  have kxy2_8 := xy_8.2.2 2 _ rfl
  have kxy3_8 := xy_8.2.2 3 _ rfl
  simp only [Nat.zero_add] at kx0_8 kx1_8 kx2_8 kx3_8 ky0_8 ky1_8 ky2_8 ky3_8 kxx0_8 kxx1_8 kxx2_8 kxx3_8 kxy0_8 kxy1_8 kxy2_8 kxy3_8
  go_wp2
  have lxx_8 := xx_8.1
  have lx_8 := ax_8.1
  go_region_held3 (fun w' => w'.cell? ⟨w6.heap.size, 0, none⟩ = some (.string x.Label) ∧ w'.cell? ⟨w6.heap.size, 1, none⟩ = some (.slice BBase6 x.Base.length dBase6) ∧ w'.cell? ⟨w6.heap.size, 2, none⟩ = some (.slice BFeats6 x.Feats.length dFeats6) ∧ w'.cell? ⟨w6.heap.size, 3, none⟩ = some (.int .i64 x.Count) ∧ w'.cell? ⟨w.heap.size, 0, none⟩ = some (.string x.Label) ∧ w'.cell? ⟨w.heap.size, 1, none⟩ = some (vBasex) ∧ w'.cell? ⟨w.heap.size, 2, none⟩ = some (vFeatsx) ∧ w'.cell? ⟨w.heap.size, 3, none⟩ = some (.int .i64 x.Count))
    (first | exact ⟨kc hb10 (Nat.lt_of_lt_of_le lxx_8 z9) (kc hb9 lxx_8 (kxx0_8)), kc hb10 (Nat.lt_of_lt_of_le lxx_8 z9) (kc hb9 lxx_8 (kxx1_8)), kc hb10 (Nat.lt_of_lt_of_le lxx_8 z9) (kc hb9 lxx_8 (kxx2_8)), kc hb10 (Nat.lt_of_lt_of_le lxx_8 z9) (kc hb9 lxx_8 (kxx3_8)), kc hb10 (Nat.lt_of_lt_of_le lx_8 z9) (kc hb9 lx_8 (kx0_8)), kc hb10 (Nat.lt_of_lt_of_le lx_8 z9) (kc hb9 lx_8 (kx1_8)), kc hb10 (Nat.lt_of_lt_of_le lx_8 z9) (kc hb9 lx_8 (kx2_8)), kc hb10 (Nat.lt_of_lt_of_le lx_8 z9) (kc hb9 lx_8 (kx3_8))⟩ | exact ⟨kc hb9 lxx_8 (kxx0_8), kc hb9 lxx_8 (kxx1_8), kc hb9 lxx_8 (kxx2_8), kc hb9 lxx_8 (kxx3_8), kc hb9 lx_8 (kx0_8), kc hb9 lx_8 (kx1_8), kc hb9 lx_8 (kx2_8), kc hb9 lx_8 (kx3_8)⟩ | go_keep)
    (first
      | (go_at_call 12; have hh := toTrained_any x _ _ ax_8.drew_.2.1 sBasex sFeatsx; refine hh.mono ?_; clear hh; rintro e w9 ⟨cs9, rfl, r9, hb9⟩; have z9 := hb9.size)
      | (go_at_call 14; have hh := eqTrained_any x x _ _ _ ((xx_8.drew_.up hb9)).2.1 (trainedR.fresh_old r9); refine hh.mono ?_; clear hh; rintro e w10 ⟨rfl, hb10⟩; have z10 := Nat.le_trans z9 hb10.size; rw [same_self]))
  have ax_10 := ((ax_8.drew_.up hb9).up hb10)
  have ay_10 := ((ay_8.drew_.up hb9).up hb10)
  have xx_10 := ((xx_8.drew_.up hb9).up hb10)
  have xy_10 := ((xy_8.drew_.up hb9).up hb10)
  have B10 := ((B8.drew.trans (hb9.mono B8.size)).trans (hb10.mono (Nat.le_trans B8.size z9)))
  clear kx0_8 kx1_8 kx2_8 kx3_8 ky0_8 ky1_8 ky2_8 ky3_8 kxx0_8 kxx1_8 kxx2_8 kxx3_8 kxy0_8 kxy1_8 kxy2_8 kxy3_8 ax_8 ay_8 xx_8 xy_8 hb9 hb10
  have kx0_10 := ax_10.2.2 0 _ rfl
  have kx1_10 := ax_10.2.2 1 _ rfl
  have kx2_10 := ax_10.2.2 2 _ rfl
  have kx3_10 := ax_10.2.2 3 _ rfl
  have ky0_10 := ay_10.2.2 0 _ rfl
  have ky1_10 := ay_10.2.2 1 _ rfl
  have ky2_10 := ay_10.2.2 2 _ rfl
  have ky3_10 := ay_10.2.2 3 _ rfl
  have kxx0_10 := xx_10.2.2 0 _ rfl
  have kxx1_10 := xx_10.2.2 1 _ rfl
  have kxx2_10 := xx_10.2.2 2 _ rfl
  have kxx3_10 := xx_10.2.2 3 _ rfl
  have kxy0_10 := xy_10.2.2 0 _ rfl
  have kxy1_10 := xy_10.2.2 1 _ rfl
  have kxy2_10 := xy_10.2.2 2 _ rfl
  have kxy3_10 := xy_10.2.2 3 _ rfl
  simp only [Nat.zero_add] at kx0_10 kx1_10 kx2_10 kx3_10 ky0_10 ky1_10 ky2_10 ky3_10 kxx0_10 kxx1_10 kxx2_10 kxx3_10 kxy0_10 kxy1_10 kxy2_10 kxy3_10
  go_wp2
  have lxy_10 := xy_10.1
  have ly_10 := ay_10.1
  go_region_held3 (fun w' => w'.cell? ⟨w7.heap.size, 0, none⟩ = some (.string y.Label) ∧ w'.cell? ⟨w7.heap.size, 1, none⟩ = some (.slice BBase7 y.Base.length dBase7) ∧ w'.cell? ⟨w7.heap.size, 2, none⟩ = some (.slice BFeats7 y.Feats.length dFeats7) ∧ w'.cell? ⟨w7.heap.size, 3, none⟩ = some (.int .i64 y.Count) ∧ w'.cell? ⟨w.heap.size + 1, 0, none⟩ = some (.string y.Label) ∧ w'.cell? ⟨w.heap.size + 1, 1, none⟩ = some (vBasey) ∧ w'.cell? ⟨w.heap.size + 1, 2, none⟩ = some (vFeatsy) ∧ w'.cell? ⟨w.heap.size + 1, 3, none⟩ = some (.int .i64 y.Count))
    (first | exact ⟨kc hb12 (Nat.lt_of_lt_of_le lxy_10 z11) (kc hb11 lxy_10 (kxy0_10)), kc hb12 (Nat.lt_of_lt_of_le lxy_10 z11) (kc hb11 lxy_10 (kxy1_10)), kc hb12 (Nat.lt_of_lt_of_le lxy_10 z11) (kc hb11 lxy_10 (kxy2_10)), kc hb12 (Nat.lt_of_lt_of_le lxy_10 z11) (kc hb11 lxy_10 (kxy3_10)), kc hb12 (Nat.lt_of_lt_of_le ly_10 z11) (kc hb11 ly_10 (ky0_10)), kc hb12 (Nat.lt_of_lt_of_le ly_10 z11) (kc hb11 ly_10 (ky1_10)), kc hb12 (Nat.lt_of_lt_of_le ly_10 z11) (kc hb11 ly_10 (ky2_10)), kc hb12 (Nat.lt_of_lt_of_le ly_10 z11) (kc hb11 ly_10 (ky3_10))⟩ | exact ⟨kc hb11 lxy_10 (kxy0_10), kc hb11 lxy_10 (kxy1_10), kc hb11 lxy_10 (kxy2_10), kc hb11 lxy_10 (kxy3_10), kc hb11 ly_10 (ky0_10), kc hb11 ly_10 (ky1_10), kc hb11 ly_10 (ky2_10), kc hb11 ly_10 (ky3_10)⟩ | go_keep)
    (first
      | (go_at_call 12; have hh := toTrained_any y _ _ ay_10.drew_.2.1 sBasey sFeatsy; refine hh.mono ?_; clear hh; rintro e w11 ⟨cs11, rfl, r11, hb11⟩; have z11 := hb11.size)
      | (go_at_call 14; have hh := eqTrained_any y y _ _ _ ((xy_10.drew_.up hb11)).2.1 (trainedR.fresh_old r11); refine hh.mono ?_; clear hh; rintro e w12 ⟨rfl, hb12⟩; have z12 := Nat.le_trans z11 hb12.size; rw [same_self]))
  have ax_12 := ((ax_10.drew_.up hb11).up hb12)
  have ay_12 := ((ay_10.drew_.up hb11).up hb12)
  have xx_12 := ((xx_10.drew_.up hb11).up hb12)
  have xy_12 := ((xy_10.drew_.up hb11).up hb12)
  have B12 := ((B10.drew.trans (hb11.mono B10.size)).trans (hb12.mono (Nat.le_trans B10.size z11)))
  clear kx0_10 kx1_10 kx2_10 kx3_10 ky0_10 ky1_10 ky2_10 ky3_10 kxx0_10 kxx1_10 kxx2_10 kxx3_10 kxy0_10 kxy1_10 kxy2_10 kxy3_10 ax_10 ay_10 xx_10 xy_10 hb11 hb12
  have kx0_12 := ax_12.2.2 0 _ rfl
  have kx1_12 := ax_12.2.2 1 _ rfl
  have kx2_12 := ax_12.2.2 2 _ rfl
  have kx3_12 := ax_12.2.2 3 _ rfl
  have ky0_12 := ay_12.2.2 0 _ rfl
  have ky1_12 := ay_12.2.2 1 _ rfl
  have ky2_12 := ay_12.2.2 2 _ rfl
  have ky3_12 := ay_12.2.2 3 _ rfl
  have kxx0_12 := xx_12.2.2 0 _ rfl
  have kxx1_12 := xx_12.2.2 1 _ rfl
  have kxx2_12 := xx_12.2.2 2 _ rfl
  have kxx3_12 := xx_12.2.2 3 _ rfl
  have kxy0_12 := xy_12.2.2 0 _ rfl
  have kxy1_12 := xy_12.2.2 1 _ rfl
  have kxy2_12 := xy_12.2.2 2 _ rfl
  have kxy3_12 := xy_12.2.2 3 _ rfl
  simp only [Nat.zero_add] at kx0_12 kx1_12 kx2_12 kx3_12 ky0_12 ky1_12 ky2_12 ky3_12 kxx0_12 kxx1_12 kxx2_12 kxx3_12 kxy0_12 kxy1_12 kxy2_12 kxy3_12
  go_wp2
  go_ret
  exact ⟨rfl, B12⟩

set_option maxRecDepth 100000 in
theorem lifted (os : Os) (started : os.Started) (H : Type) (enc : TypeId × Value → H) :
    ReturnsInHanded {} Try.checked os 4 .any (Rows.fnExactSameTrainedSpec.pre6 enc Try.prog Try.f4 Rows.fnExactSameTrainedRow.domain false) (Rows.fnExactSameTrainedSpec.post enc Try.prog Try.f4 false true false false) := by
  refine returnsInHanded_of_change_shaped (C := Try.checked) Try.own started (by kernel_rfl) Try.func4
    (ChangeSpec.witness6 (enc := enc) (C := Try.checked) false ⟨#[], #[.agg #[.string ⟨#[]⟩, .slice none 0 0, .slice none 0 0, .int .i64 0], .agg #[.string ⟨#[]⟩, .slice none 0 0, .slice none 0 0, .int .i64 0]], []⟩ 8 (by kernel_rfl) (by kernel_rfl) (by kernel_rfl) (by kernel_rfl)) ?_
  intro W base args ds gs before hval0 hW hcnd hsz hshp _
  have hW' := hW
  obtain ⟨p, q, hA0, hV, rfl, hfz, hnd⟩ := hW
  have hval : ∀ (j : Nat) t v, Try.f4.params[j]? = some t → args[j]? = some v → Value.okWide Try.prog W .any base t v := hval0
  have hA : DataW.TrodAll enc Try.prog W 0 (fun _ => true) true Try.f4.params.toList args.toList ds p := hA0
  rw [Try.params4] at hA hval
  obtain ⟨v0, vs0, d0, ds0, p0, q0, hargs, rfl, rfl, h0, r0⟩ := trodAll_cons hA
  obtain ⟨v1, vs1, d1, ds1, p1, q1, rfl, rfl, rfl, h1, r1⟩ := trodAll_cons r0
  obtain ⟨rfl, rfl, rfl⟩ := trodAll_nil r1
  obtain rfl : args = #[v0, v1] := args_two hargs
  obtain ⟨rfl, rfl⟩ := trodVars_none hV
  obtain ⟨fuel0, hf0⟩ := h0
  obtain ⟨cs0, hcs0⟩ : ∃ cs, v0 = .agg cs := by
    obtain ⟨cs, h, _⟩ := okWide_struct Try.underlying26 (hval 0 26 v0 rfl rfl)
    exact ⟨cs, h⟩
  subst hcs0
  obtain ⟨x0, rx0, ok0⟩ := opens_trained enc W 0 _ _ _ _ _ hf0
  obtain ⟨fuel1, hf1⟩ := h1
  obtain ⟨cs1, hcs1⟩ : ∃ cs, v1 = .agg cs := by
    obtain ⟨cs, h, _⟩ := okWide_struct Try.underlying26 (hval 1 26 v1 rfl rfl)
    exact ⟨cs, h⟩
  subst hcs1
  obtain ⟨x1, rx1, ok1⟩ := opens_trained enc W 0 _ _ _ _ _ hf1
  refine (walk cs0.toList cs1.toList x0 x1 W rx0 rx1).mono fun e W1 ⟨he, hb⟩ => ?_
  subst he
  exact ⟨_, rfl, law_post Try.laidOut rfl Try.underlying4 (of_decide_eq_true (by kernel_rfl)) rfl hW' hb rfl⟩

theorem over : Rows.fnExactSameTrainedRow.holds Try.pinned (OpenSpec.ofChange Rows.fnExactSameTrainedSpec) :=
  OpenClaim.holds_of_wide 4 Try.f4 rfl rfl rfl rfl rfl rfl rfl ⟨rfl, rfl, rfl, rfl, rfl⟩ rfl rfl rfl rfl rfl (by kernel_rfl) Try.func4 (by kernel_rfl)
    (of_decide_eq_true (by kernel_rfl)) (by unfold Func.isWrapper; first | (rw [if_pos (by decide +kernel)]; kernel_rfl) | (rw [if_neg (by decide +kernel)]; exact ⟨rfl, rfl⟩))
    (fun os started H enc _ => lifted os started H enc)

theorem proved : Rows.FnExactSameTrainedSaid :=
  over
#print axioms proved
end Go.Proofs.Ytjfopofcbopfjaa.fnExactSameTrained
