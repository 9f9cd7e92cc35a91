/- The program's SameWriter returns what the reference's returns, for all arguments. No conditions. -/
import Derived.Test.YtjfopofcbopfjaaSameW
import Derived.Test.YtjfopofcbopfjaaLaw
import Derived.Test.YtjfopofcbopfjaaMem2
namespace Go.Proofs.Ytjfopofcbopfjaa.fnExactSameWriter
open Go.RowKit Go.ChangeShapes Go.WideShapes
set_option linter.unusedVariables false

set_option maxHeartbeats 3200000 in
theorem walk (csx : List Value) (csy : List Value) (x : Writer) (y : Writer) (w : World) (hx : writerR.rel w (Old w) csx x) (hy : writerR.rel w (Old w) csy y) :
    Calls Try.prog 6 #[.agg csx.toArray, .agg csy.toArray] w fun e w' => e = .returned (.bool true) ∧ Below w.heap.size w w' := by
  have hx0 := hx
  obtain ⟨vTrainedx, rfl, qTrainedx⟩ := hx0
  have hy0 := hy
  obtain ⟨vTrainedy, rfl, qTrainedy⟩ := hy0
  have ax := (At.box writerR hx 48).up ((Below.refl _ _).alloc (Nat.le_refl _) (.cells [.int .i64 y.Band, vTrainedy].toArray 48))
  have ay := At.box writerR (writerR.up hy ((Below.refl _ _).alloc (Nat.le_refl _) (.cells [.int .i64 x.Band, vTrainedx].toArray 48))) 48
  have B := ((Below.refl w.heap.size w).alloc (Nat.le_refl _) (.cells [.int .i64 x.Band, vTrainedx].toArray 48)).alloc (by simp) (.cells [.int .i64 y.Band, vTrainedy].toArray 48)
  simp only [World.size_alloc] at ax ay
  by_cases g0 : (1048576 : Int) < (bulkWriter x : Nat)
  · have kx0 := ax.2.2 0 _ rfl
    have kx1 := ax.2.2 1 _ rfl
    have ky0 := ay.2.2 0 _ rfl
    have ky1 := ay.2.2 1 _ rfl
    simp only [Nat.zero_add] at kx0 kx1 ky0 ky1
    go_enter Try.func6, Try.ntmps6
    go_wp2_with fail
    have hh := szWriter_any x _ ((1048576 : Int)) _ ax.2.1 (by omega) (by omega)
    refine hh.mono ?_
    clear hh
    rintro e w1 ⟨rfl, hb1⟩
    rw [szTake_neg g0]
    have ax_1 := ax.up hb1
    have ay_1 := ay.up hb1
    have B1 := B.trans (hb1.mono B.size)
    clear kx0 kx1 ky0 ky1 ax ay
    have kx0_1 := ax_1.2.2 0 _ rfl
    have kx1_1 := ax_1.2.2 1 _ rfl
    have ky0_1 := ay_1.2.2 0 _ rfl
    have ky1_1 := ay_1.2.2 1 _ rfl
    simp only [Nat.zero_add] at kx0_1 kx1_1 ky0_1 ky1_1
    go_wp2_with fail
    go_ret
    exact ⟨rfl, B1⟩
  have g0 := Int.not_lt.1 g0
  by_cases g1 : (1048576 : Int) - (bulkWriter x : Nat) < (bulkWriter y : Nat)
  · have kx0 := ax.2.2 0 _ rfl
    have kx1 := ax.2.2 1 _ rfl
    have ky0 := ay.2.2 0 _ rfl
    have ky1 := ay.2.2 1 _ rfl
    simp only [Nat.zero_add] at kx0 kx1 ky0 ky1
    go_enter Try.func6, Try.ntmps6
    go_wp2_with fail
    have hh := szWriter_any x _ ((1048576 : Int)) _ ax.2.1 (by omega) (by omega)
    refine hh.mono ?_
    clear hh
    rintro e w1 ⟨rfl, hb1⟩
    rw [szTake_of g0]
    have ax_1 := ax.up hb1
    have ay_1 := ay.up hb1
    have B1 := B.trans (hb1.mono B.size)
    clear kx0 kx1 ky0 ky1 ax ay
    have kx0_1 := ax_1.2.2 0 _ rfl
    have kx1_1 := ax_1.2.2 1 _ rfl
    have ky0_1 := ay_1.2.2 0 _ rfl
    have ky1_1 := ay_1.2.2 1 _ rfl
    simp only [Nat.zero_add] at kx0_1 kx1_1 ky0_1 ky1_1
    go_wp2_with fail
    have hh := szWriter_any y _ ((1048576 : Int) - (bulkWriter x : Nat)) _ ay_1.2.1 (by omega) (by omega)
    refine hh.mono ?_
    clear hh
    rintro e w2 ⟨rfl, hb2⟩
    rw [szTake_neg g1]
    have ax_2 := ax_1.up hb2
    have ay_2 := ay_1.up hb2
    have B2 := B1.trans (hb2.mono B1.size)
    clear kx0_1 kx1_1 ky0_1 ky1_1 ax_1 ay_1
    have kx0_2 := ax_2.2.2 0 _ rfl
    have kx1_2 := ax_2.2.2 1 _ rfl
    have ky0_2 := ay_2.2.2 0 _ rfl
    have ky1_2 := ay_2.2.2 1 _ rfl
    simp only [Nat.zero_add] at kx0_2 kx1_2 ky0_2 ky1_2
    go_wp2_with fail
    go_ret
    exact ⟨rfl, B2⟩
  have g1 := Int.not_lt.1 g1
  have sTrainedx : bulkTrainedS x.Trained ≤ 1048576 := by unfold bulkWriter at g0; omega
  have sTrainedy : bulkTrainedS y.Trained ≤ 1048576 := by unfold bulkWriter at g1; omega
  have kx0 := ax.2.2 0 _ rfl
  have kx1 := ax.2.2 1 _ rfl
  have ky0 := ay.2.2 0 _ rfl
  have ky1 := ay.2.2 1 _ rfl
  simp only [Nat.zero_add] at kx0 kx1 ky0 ky1
  go_enter Try.func6, Try.ntmps6
  go_wp2_with fail
  have hh := szWriter_any x _ ((1048576 : Int)) _ ax.2.1 (by omega) (by omega)
  refine hh.mono ?_
  clear hh
  rintro e w1 ⟨rfl, hb1⟩
  rw [szTake_of g0]
  have ax_1 := ax.up hb1
  have ay_1 := ay.up hb1
  have B1 := B.trans (hb1.mono B.size)
  clear kx0 kx1 ky0 ky1 ax ay
  have kx0_1 := ax_1.2.2 0 _ rfl
  have kx1_1 := ax_1.2.2 1 _ rfl
  have ky0_1 := ay_1.2.2 0 _ rfl
  have ky1_1 := ay_1.2.2 1 _ rfl
  simp only [Nat.zero_add] at kx0_1 kx1_1 ky0_1 ky1_1
  go_wp2_with fail
  have hh := szWriter_any y _ ((1048576 : Int) - (bulkWriter x : Nat)) _ ay_1.2.1 (by omega) (by omega)
  refine hh.mono ?_
  clear hh
  rintro e w2 ⟨rfl, hb2⟩
  rw [szTake_of g1]
  have ax_2 := ax_1.up hb2
  have ay_2 := ay_1.up hb2
  have B2 := B1.trans (hb2.mono B1.size)
  clear kx0_1 kx1_1 ky0_1 ky1_1 ax_1 ay_1
  have kx0_2 := ax_2.2.2 0 _ rfl
  have kx1_2 := ax_2.2.2 1 _ rfl
  have ky0_2 := ay_2.2.2 0 _ rfl
  have ky1_2 := ay_2.2.2 1 _ rfl
  simp only [Nat.zero_add] at kx0_2 kx1_2 ky0_2 ky1_2
  go_wp2_with fail
  have lx_2 := ax_2.1
  have ly_2 := ay_2.1
  go_region_held3 (fun w' => w'.cell? ⟨w.heap.size, 0, none⟩ = some (.int .i64 x.Band) ∧ w'.cell? ⟨w.heap.size, 1, none⟩ = some (vTrainedx) ∧ w'.cell? ⟨w.heap.size + 1, 0, none⟩ = some (.int .i64 y.Band) ∧ w'.cell? ⟨w.heap.size + 1, 1, none⟩ = some (vTrainedy))
    (first | exact ⟨kc hb5 (Nat.lt_of_lt_of_le lx_2 z4) (kc hb4 (Nat.lt_of_lt_of_le lx_2 z3) (kc hb3 lx_2 (kx0_2))), kc hb5 (Nat.lt_of_lt_of_le lx_2 z4) (kc hb4 (Nat.lt_of_lt_of_le lx_2 z3) (kc hb3 lx_2 (kx1_2))), kc hb5 (Nat.lt_of_lt_of_le ly_2 z4) (kc hb4 (Nat.lt_of_lt_of_le ly_2 z3) (kc hb3 ly_2 (ky0_2))), kc hb5 (Nat.lt_of_lt_of_le ly_2 z4) (kc hb4 (Nat.lt_of_lt_of_le ly_2 z3) (kc hb3 ly_2 (ky1_2)))⟩ | exact ⟨kc hb4 (Nat.lt_of_lt_of_le lx_2 z3) (kc hb3 lx_2 (kx0_2)), kc hb4 (Nat.lt_of_lt_of_le lx_2 z3) (kc hb3 lx_2 (kx1_2)), kc hb4 (Nat.lt_of_lt_of_le ly_2 z3) (kc hb3 ly_2 (ky0_2)), kc hb4 (Nat.lt_of_lt_of_le ly_2 z3) (kc hb3 ly_2 (ky1_2))⟩ | exact ⟨kc hb3 lx_2 (kx0_2), kc hb3 lx_2 (kx1_2), kc hb3 ly_2 (ky0_2), kc hb3 ly_2 (ky1_2)⟩ | go_keep)
    (first
      | (go_at_call_of 22 (Value.agg #[.int .i64 x.Band, vTrainedx]); have hh := toWriter_any x _ _ ax_2.drew_.2.1 sTrainedx; refine hh.mono ?_; clear hh; rintro e w3 ⟨cs3, rfl, r3, hb3⟩; have z3 := hb3.size)
      | (go_at_call_of 22 (Value.agg #[.int .i64 y.Band, vTrainedy]); have hh := toWriter_any y _ _ (ay_2.drew_.up hb3).2.1 sTrainedy; refine hh.mono ?_; clear hh; rintro e w4 ⟨cs4, rfl, r4, hb4⟩; have z4 := Nat.le_trans z3 hb4.size)
      | (go_at_call 21; have hh := specSameWriter_any cs3 cs4 x y _ (writerR.up (writerR.fresh_old r3) hb4) (writerR.fresh_old r4); refine hh.mono ?_; clear hh; rintro e w5 ⟨rfl, hb5⟩; have z5 := Nat.le_trans z4 hb5.size))
  have ax_5 := (((ax_2.drew_.up hb3).up hb4).up hb5)
  have ay_5 := (((ay_2.drew_.up hb3).up hb4).up hb5)
  have B5 := (((B2.drew.trans (hb3.mono B2.size)).trans (hb4.mono (Nat.le_trans B2.size z3))).trans (hb5.mono (Nat.le_trans B2.size z4)))
  clear kx0_2 kx1_2 ky0_2 ky1_2 ax_2 ay_2 hb3 hb4 hb5
  have kx0_5 := ax_5.2.2 0 _ rfl
  have kx1_5 := ax_5.2.2 1 _ rfl
  have ky0_5 := ay_5.2.2 0 _ rfl
  have ky1_5 := ay_5.2.2 1 _ rfl
  simp only [Nat.zero_add] at kx0_5 kx1_5 ky0_5 ky1_5
  go_wp2_with fail
  have hh := toWriter_any x _ _ ax_5.2.1 sTrainedx
  refine hh.mono ?_
  clear hh
  rintro e w6 ⟨cs6, rfl, r6, hb6⟩
  have ax_6 := ax_5.up hb6
  have ay_6 := ay_5.up hb6
  have B6 := B5.trans (hb6.mono B5.size)
  clear kx0_5 kx1_5 ky0_5 ky1_5 ax_5 ay_5
  have r6 := writerR.fresh_old r6
  have r60 := r6
  obtain ⟨tTrained6, rfl, pTrained6⟩ := r60
  obtain ⟨BTrained6, dTrained6, rfl, _⟩ := pTrained6
  have hba := (Below.refl w6.heap.size w6).alloc (Nat.le_refl _) (.cells [.int .i64 x.Band, .slice BTrained6 x.Trained.length dTrained6].toArray 53)
  have xx := At.box writerR r6 53
  have ax_6' := ax_6.up hba
  have ay_6' := ay_6.up hba
  have B6' := B6.alloc B6.size (.cells [.int .i64 x.Band, .slice BTrained6 x.Trained.length dTrained6].toArray 53)
  clear hba r6 ax_6 ay_6
  have kx0_6' := ax_6'.2.2 0 _ rfl
  have kx1_6' := ax_6'.2.2 1 _ rfl
  have ky0_6' := ay_6'.2.2 0 _ rfl
  have ky1_6' := ay_6'.2.2 1 _ rfl
  have kxx0_6' := xx.2.2 0 _ rfl
  have kxx1_6' := xx.2.2 1 _ rfl
  simp only [Nat.zero_add] at kx0_6' kx1_6' ky0_6' ky1_6' kxx0_6' kxx1_6'
  go_wp2_with fail
  have hh := toWriter_any y _ _ ay_6'.2.1 sTrainedy
  refine hh.mono ?_
  clear hh
  rintro e w7 ⟨cs7, rfl, r7, hb7⟩
  have ax_7 := ax_6'.up hb7
  have ay_7 := ay_6'.up hb7
  have xx_7 := xx.up hb7
  have B7 := B6'.trans (hb7.mono B6'.size)
  clear kx0_6' kx1_6' ky0_6' ky1_6' kxx0_6' kxx1_6' ax_6' ay_6' xx
  have r7 := writerR.fresh_old r7
  have r70 := r7
  obtain ⟨tTrained7, rfl, pTrained7⟩ := r70
  obtain ⟨BTrained7, dTrained7, rfl, _⟩ := pTrained7
  have hba := (Below.refl w7.heap.size w7).alloc (Nat.le_refl _) (.cells [.int .i64 y.Band, .slice BTrained7 y.Trained.length dTrained7].toArray 53)
  have xy := At.box writerR r7 53
  have ax_7' := ax_7.up hba
  have ay_7' := ay_7.up hba
  have xx_7' := xx_7.up hba
  have B7' := B7.alloc B7.size (.cells [.int .i64 y.Band, .slice BTrained7 y.Trained.length dTrained7].toArray 53)
  clear hba r7 ax_7 ay_7 xx_7
  have kx0_7' := ax_7'.2.2 0 _ rfl
  have kx1_7' := ax_7'.2.2 1 _ rfl
  have ky0_7' := ay_7'.2.2 0 _ rfl
  have ky1_7' := ay_7'.2.2 1 _ rfl
  have kxx0_7' := xx_7'.2.2 0 _ rfl
  have kxx1_7' := xx_7'.2.2 1 _ rfl
  have kxy0_7' := xy.2.2 0 _ rfl
  have kxy1_7' := xy.2.2 1 _ rfl
  simp only [Nat.zero_add] at kx0_7' kx1_7' ky0_7' ky1_7' kxx0_7' kxx1_7' kxy0_7' kxy1_7'
  go_wp2_with fail
  have hh := implSameWriter_any _ _ x y _ xx_7'.2.1 xy.2.1
  refine hh.mono ?_
  clear hh
  rintro e w8 ⟨rfl, hb8⟩
  have ax_8 := ax_7'.up hb8
  have ay_8 := ay_7'.up hb8
  have xx_8 := xx_7'.up hb8
  have xy_8 := xy.up hb8
  have B8 := B7'.trans (hb8.mono B7'.size)
  clear kx0_7' kx1_7' ky0_7' ky1_7' kxx0_7' kxx1_7' kxy0_7' kxy1_7' ax_7' ay_7' xx_7' xy
  have kx0_8 := ax_8.2.2 0 _ rfl
  have kx1_8 := ax_8.2.2 1 _ rfl
  have ky0_8 := ay_8.2.2 0 _ rfl
  have ky1_8 := ay_8.2.2 1 _ rfl
  have kxx0_8 := xx_8.2.2 0 _ rfl
  have kxx1_8 := xx_8.2.2 1 _ rfl
  have kxy0_8 := xy_8.2.2 0 _ rfl
  have kxy1_8 := xy_8.2.2 1 _ rfl
  simp only [Nat.zero_add] at kx0_8 kx1_8 ky0_8 ky1_8 kxx0_8 kxx1_8 kxy0_8 kxy1_8
  go_wp2
  have lxx_8 := xx_8.1
  have lx_8 := ax_8.1
  go_region_held3 (fun w' => w'.cell? ⟨w6.heap.size, 0, none⟩ = some (.int .i64 x.Band) ∧ w'.cell? ⟨w6.heap.size, 1, none⟩ = some (.slice BTrained6 x.Trained.length dTrained6) ∧ w'.cell? ⟨w.heap.size, 0, none⟩ = some (.int .i64 x.Band) ∧ w'.cell? ⟨w.heap.size, 1, none⟩ = some (vTrainedx))
    (first | exact ⟨kc hb10 (Nat.lt_of_lt_of_le lxx_8 z9) (kc hb9 lxx_8 (kxx0_8)), kc hb10 (Nat.lt_of_lt_of_le lxx_8 z9) (kc hb9 lxx_8 (kxx1_8)), kc hb10 (Nat.lt_of_lt_of_le lx_8 z9) (kc hb9 lx_8 (kx0_8)), kc hb10 (Nat.lt_of_lt_of_le lx_8 z9) (kc hb9 lx_8 (kx1_8))⟩ | exact ⟨kc hb9 lxx_8 (kxx0_8), kc hb9 lxx_8 (kxx1_8), kc hb9 lx_8 (kx0_8), kc hb9 lx_8 (kx1_8)⟩ | go_keep)
    (first
      | (go_at_call 22; have hh := toWriter_any x _ _ ax_8.drew_.2.1 sTrainedx; refine hh.mono ?_; clear hh; rintro e w9 ⟨cs9, rfl, r9, hb9⟩; have z9 := hb9.size)
      | (go_at_call 24; have hh := eqWriter_any x x _ _ _ ((xx_8.drew_.up hb9)).2.1 (writerR.fresh_old r9); refine hh.mono ?_; clear hh; rintro e w10 ⟨rfl, hb10⟩; have z10 := Nat.le_trans z9 hb10.size; rw [same_self]))
  have ax_10 := ((ax_8.drew_.up hb9).up hb10)
  have ay_10 := ((ay_8.drew_.up hb9).up hb10)
  have xx_10 := ((xx_8.drew_.up hb9).up hb10)
  have xy_10 := ((xy_8.drew_.up hb9).up hb10)
  have B10 := ((B8.drew.trans (hb9.mono B8.size)).trans (hb10.mono (Nat.le_trans B8.size z9)))
  clear kx0_8 kx1_8 ky0_8 ky1_8 kxx0_8 kxx1_8 kxy0_8 kxy1_8 ax_8 ay_8 xx_8 xy_8 hb9 hb10
  have kx0_10 := ax_10.2.2 0 _ rfl
  have kx1_10 := ax_10.2.2 1 _ rfl
  have ky0_10 := ay_10.2.2 0 _ rfl
  have ky1_10 := ay_10.2.2 1 _ rfl
  have kxx0_10 := xx_10.2.2 0 _ rfl
  have kxx1_10 := xx_10.2.2 1 _ rfl
  have kxy0_10 := xy_10.2.2 0 _ rfl
  have kxy1_10 := xy_10.2.2 1 _ rfl
  simp only [Nat.zero_add] at kx0_10 kx1_10 ky0_10 ky1_10 kxx0_10 kxx1_10 kxy0_10 kxy1_10
  go_wp2
  have lxy_10 := xy_10.1
  have ly_10 := ay_10.1
  go_region_held3 (fun w' => w'.cell? ⟨w7.heap.size, 0, none⟩ = some (.int .i64 y.Band) ∧ w'.cell? ⟨w7.heap.size, 1, none⟩ = some (.slice BTrained7 y.Trained.length dTrained7) ∧ w'.cell? ⟨w.heap.size + 1, 0, none⟩ = some (.int .i64 y.Band) ∧ w'.cell? ⟨w.heap.size + 1, 1, none⟩ = some (vTrainedy))
    (first | exact ⟨kc hb12 (Nat.lt_of_lt_of_le lxy_10 z11) (kc hb11 lxy_10 (kxy0_10)), kc hb12 (Nat.lt_of_lt_of_le lxy_10 z11) (kc hb11 lxy_10 (kxy1_10)), kc hb12 (Nat.lt_of_lt_of_le ly_10 z11) (kc hb11 ly_10 (ky0_10)), kc hb12 (Nat.lt_of_lt_of_le ly_10 z11) (kc hb11 ly_10 (ky1_10))⟩ | exact ⟨kc hb11 lxy_10 (kxy0_10), kc hb11 lxy_10 (kxy1_10), kc hb11 ly_10 (ky0_10), kc hb11 ly_10 (ky1_10)⟩ | go_keep)
    (first
      | (go_at_call 22; have hh := toWriter_any y _ _ ay_10.drew_.2.1 sTrainedy; refine hh.mono ?_; clear hh; rintro e w11 ⟨cs11, rfl, r11, hb11⟩; have z11 := hb11.size)
      | (go_at_call 24; have hh := eqWriter_any y y _ _ _ ((xy_10.drew_.up hb11)).2.1 (writerR.fresh_old r11); refine hh.mono ?_; clear hh; rintro e w12 ⟨rfl, hb12⟩; have z12 := Nat.le_trans z11 hb12.size; rw [same_self]))
  have ax_12 := ((ax_10.drew_.up hb11).up hb12)
  have ay_12 := ((ay_10.drew_.up hb11).up hb12)
  have xx_12 := ((xx_10.drew_.up hb11).up hb12)
  have xy_12 := ((xy_10.drew_.up hb11).up hb12)
  have B12 := ((B10.drew.trans (hb11.mono B10.size)).trans (hb12.mono (Nat.le_trans B10.size z11)))
  clear kx0_10 kx1_10 ky0_10 ky1_10 kxx0_10 kxx1_10 kxy0_10 kxy1_10 ax_10 ay_10 xx_10 xy_10 hb11 hb12
  have kx0_12 := ax_12.2.2 0 _ rfl
  have kx1_12 := ax_12.2.2 1 _ rfl
  have ky0_12 := ay_12.2.2 0 _ rfl
  have ky1_12 := ay_12.2.2 1 _ rfl
  have kxx0_12 := xx_12.2.2 0 _ rfl
  have kxx1_12 := xx_12.2.2 1 _ rfl
  have kxy0_12 := xy_12.2.2 0 _ rfl
  have kxy1_12 := xy_12.2.2 1 _ rfl
  simp only [Nat.zero_add] at kx0_12 kx1_12 ky0_12 ky1_12 kxx0_12 kxx1_12 kxy0_12 kxy1_12
  go_wp2
  go_ret
  exact ⟨rfl, B12⟩

set_option maxRecDepth 100000 in
theorem lifted (os : Os) (started : os.Started) (H : Type) (enc : TypeId × Value → H) :
    ReturnsInHanded {} Try.checked os 6 .any (Rows.fnExactSameWriterSpec.pre6 enc Try.prog Try.f6 Rows.fnExactSameWriterRow.domain false) (Rows.fnExactSameWriterSpec.post enc Try.prog Try.f6 false true false false) := by
  refine returnsInHanded_of_change_shaped (C := Try.checked) Try.own started (by kernel_rfl) Try.func6
    (ChangeSpec.witness6 (enc := enc) (C := Try.checked) false ⟨#[], #[.agg #[.int .i64 0, .slice none 0 0], .agg #[.int .i64 0, .slice none 0 0]], []⟩ 8 (by kernel_rfl) (by kernel_rfl) (by kernel_rfl) (by kernel_rfl)) ?_
  intro W base args ds gs before hval0 hW hcnd hsz hshp _
  have hW' := hW
  obtain ⟨p, q, hA0, hV, rfl, hfz, hnd⟩ := hW
  have hval : ∀ (j : Nat) t v, Try.f6.params[j]? = some t → args[j]? = some v → Value.okWide Try.prog W .any base t v := hval0
  have hA : DataW.TrodAll enc Try.prog W 0 (fun _ => true) true Try.f6.params.toList args.toList ds p := hA0
  rw [Try.params6] at hA hval
  obtain ⟨v0, vs0, d0, ds0, p0, q0, hargs, rfl, rfl, h0, r0⟩ := trodAll_cons hA
  obtain ⟨v1, vs1, d1, ds1, p1, q1, rfl, rfl, rfl, h1, r1⟩ := trodAll_cons r0
  obtain ⟨rfl, rfl, rfl⟩ := trodAll_nil r1
  obtain rfl : args = #[v0, v1] := args_two hargs
  obtain ⟨rfl, rfl⟩ := trodVars_none hV
  obtain ⟨fuel0, hf0⟩ := h0
  obtain ⟨cs0, hcs0⟩ : ∃ cs, v0 = .agg cs := by
    obtain ⟨cs, h, _⟩ := okWide_struct Try.underlying48 (hval 0 48 v0 rfl rfl)
    exact ⟨cs, h⟩
  subst hcs0
  obtain ⟨x0, rx0, ok0⟩ := opens_writer enc W 0 _ _ _ _ _ hf0
  obtain ⟨fuel1, hf1⟩ := h1
  obtain ⟨cs1, hcs1⟩ : ∃ cs, v1 = .agg cs := by
    obtain ⟨cs, h, _⟩ := okWide_struct Try.underlying48 (hval 1 48 v1 rfl rfl)
    exact ⟨cs, h⟩
  subst hcs1
  obtain ⟨x1, rx1, ok1⟩ := opens_writer enc W 0 _ _ _ _ _ hf1
  refine (walk cs0.toList cs1.toList x0 x1 W rx0 rx1).mono fun e W1 ⟨he, hb⟩ => ?_
  subst he
  exact ⟨_, rfl, law_post Try.laidOut rfl Try.underlying4 (of_decide_eq_true (by kernel_rfl)) rfl hW' hb rfl⟩

theorem over : Rows.fnExactSameWriterRow.holds Try.pinned (OpenSpec.ofChange Rows.fnExactSameWriterSpec) :=
  OpenClaim.holds_of_wide 6 Try.f6 rfl rfl rfl rfl rfl rfl rfl ⟨rfl, rfl, rfl, rfl, rfl⟩ rfl rfl rfl rfl rfl (by kernel_rfl) Try.func6 (by kernel_rfl)
    (of_decide_eq_true (by kernel_rfl)) (by unfold Func.isWrapper; first | (rw [if_pos (by decide +kernel)]; kernel_rfl) | (rw [if_neg (by decide +kernel)]; exact ⟨rfl, rfl⟩))
    (fun os started H enc _ => lifted os started H enc)

theorem proved : Rows.FnExactSameWriterSaid :=
  over
#print axioms proved
end Go.Proofs.Ytjfopofcbopfjaa.fnExactSameWriter
