/- Contracts that the statement FnReadings reaches, part 2. No conditions. -/
import Derived.Test.YtdinloamhmdgjaaGreatDoorAxLReadings1
import Derived.LaidMore
import Derived.Lay
import Derived.Lib.IndexBytes
import Derived.Lib.ItoaNum
import Derived.Lib.ParseIntBCases
import Derived.Lib.SplitLaws
import Derived.OpenShut
import Derived.SevenTiedAt
import Derived.Stop.Joined
import Derived.Test.YtdinloamhmdgjaaGreatDoorAxBd
import Derived.Test.YtdinloamhmdgjaaGreatDoorAxR
import Derived.Test.YtdinloamhmdgjaaGreatDoorAxS
import Derived.Test.YtdinloamhmdgjaaGreatDoorAxSF
import Derived.Test.YtdinloamhmdgjaaGreatDoorSfRdgShelf
namespace Go.Proofs.YtdinloamhmdgjaaGreatDoor.Ax
open Go.RowKit Go.ChangeShapes Go.WideShapes
set_option linter.unusedVariables false
set_option linter.unusedSimpArgs false


-- impl.firstReadings
theorem tl_inj {a b : ByteArray} (q : a.toList = b.toList) : a = b := by
  rw [Lib.toList_data, Lib.toList_data] at q
  cases a; cases b
  simp only [ByteArray.mk.injEq]
  exact Array.toList_inj.1 q
theorem sfNI (x : Int) (w : World) : Calls Tryz.prog 183 #[.int .i64 x] w fun e w' => e = .returned (.bool false) ∧ w' = w := by
  go_enter Tryz.func183, Tryz.ntmps183
  go_wp2
  go_ret
  exact ⟨by simp, rfl⟩
theorem sfCI (x y : Int) (w : World) : Calls Tryz.prog 148 #[.int .i64 x, .int .i64 y] w fun e w' => e = .returned (.int .i64 (cmpI x y)) ∧ w' = w := by
  go_enter Tryz.func148, Tryz.ntmps148
  go_wp2_with (go_at_call 183; refine (sfNI _ _).mono ?_; rintro e w' ⟨rfl, hw⟩; rw [hw])
  all_goals (go_ret; refine ⟨?_, rfl⟩; congr 2; unfold cmpI; (repeat' split) <;> first | rfl | (exfalso; omega))

theorem sfNJ (x : Int) (w : World) : Calls Tryz.prog 205 #[.int .i64 x] w fun e w' => e = .returned (.bool false) ∧ w' = w := by
  go_enter Tryz.func205, Tryz.ntmps205
  go_wp2
  go_ret
  exact ⟨by simp, rfl⟩
theorem sfCJ (x y : Int) (w : World) : Calls Tryz.prog 159 #[.int .i64 x, .int .i64 y] w fun e w' => e = .returned (.int .i64 (cmpI x y)) ∧ w' = w := by
  go_enter Tryz.func159, Tryz.ntmps159
  go_wp2_with (go_at_call 205; refine (sfNJ _ _).mono ?_; rintro e w' ⟨rfl, hw⟩; rw [hw])
  all_goals (go_ret; refine ⟨?_, rfl⟩; congr 2; unfold cmpI; (repeat' split) <;> first | rfl | (exfalso; omega))

theorem sfNS (x : ByteArray) (w : World) : Calls Tryz.prog 164 #[.string x] w fun e w' => e = .returned (.bool false) ∧ w' = w := by
  go_enter Tryz.func164, Tryz.ntmps164
  go_wp2
  go_ret
  exact ⟨by simp, rfl⟩
theorem sfCS (x y : ByteArray) (w : World) : Calls Tryz.prog 115 #[.string x, .string y] w fun e w' => e = .returned (.int .i64 (cmpS x y)) ∧ w' = w := by
  go_enter Tryz.func115, Tryz.ntmps115
  go_wp2_with (go_at_call 164; refine (sfNS _ _).mono ?_; rintro e w' ⟨rfl, hw⟩; rw [hw])
  all_goals (go_ret; refine ⟨?_, rfl⟩; congr 2; unfold cmpS sless; (repeat' split) <;> first | rfl | (exfalso; simp_all; done) | (exfalso; rename_i h1 h2 h3; exact h3.2 (tl_inj (by simpa using h1))))

theorem sfOr (b n c : Nat) (xs : List Int) (w : World) (hn : n = xs.length) (hc : n ≤ 9223372036854775807) (h : ∀ j, j < xs.length → w.cell? ⟨b, j, none⟩ = some (.int .i64 (at_ xs j))) : Calls Tryz.prog 147 #[.slice (some ⟨b, 0, none⟩) n c] w fun e w' => e = .returned (.int .i64 (orL xs)) ∧ w' = w := by
  go_enter Tryz.func147, Tryz.ntmps147
  go_wp2
  go_loop [8] (fun i => ∃ k : Nat, k ≤ n ∧ i = .int .i64 k ∧ ∀ j, j < k → at_ xs j = 0) (fun i => n - (intOf i).toNat)
  case atStart => exact ⟨0, Nat.zero_le _, rfl, fun j hj => absurd hj (Nat.not_lt_zero _)⟩
  case round =>
    obtain ⟨k, hk, rfl, hz⟩ := hrel
    by_cases hlt : k < n
    · have ck := h k (by omega)
      have S : Hid (at_ xs k = 0 → ∀ j, j < k + 1 → at_ xs j = 0) := fun q j hj => by
        by_cases e : j = k
        · rw [e]; exact q
        · exact hz j (by omega)
      have T : Hid (at_ xs k ≠ 0 → orL xs = at_ xs k) := fun q => orL_at (by omega) hz q
      generalize at_ xs k = v at ck S T
      clear h hz
      by_cases hv : v = 0
      · have S2 : Hid (∀ j, j < k + 1 → at_ xs j = 0) := S.out hv
        clear S T
        subst hv
        go_wp2
        exact ⟨⟨k + 1, by omega, rfl, S2.out⟩, by simp [intOf]; omega⟩
      · have T2 : Hid (orL xs = v) := T.out hv
        clear S T
        go_wp2
        go_ret
        exact ⟨by rw [T2.out]; rfl, rfl⟩
    · have : k = n := by omega
      subst this
      have T : Hid (orL xs = 0) := orL_none (fun j hj => hz j (by omega))
      clear h hz
      go_wp2
      all_goals (go_ret; exact ⟨by rw [T.out]; rfl, rfl⟩)

def sfeRdg (x : Reading) : List Value := [.string x.Text, .int .i64 x.Cost]
theorem srRcmp (x y : Reading) (w : World) : Calls Tryz.prog 106 (#[.agg (sfeRdg x).toArray, .agg (sfeRdg y).toArray] ++ #[]) w fun e w' => e = .returned (.int .i64 (cmpR x y)) ∧ ∃ q os', w' = Go.Sort.grow (w.drewN q) os' := by
  show Calls Tryz.prog 106 #[.agg #[.string x.Text, .int .i64 x.Cost], .agg #[.string y.Text, .int .i64 y.Cost]] w _
  go_enter Tryz.func106, Tryz.ntmps106
  go_wp2
  refine wp_region_split_lit 17 (by kernel_rfl) (by kernel_rfl) (by kernel_rfl) ?_
  repeat (quiet_step (first | (go_at_call 148; exact Calls.quiet_of_same (sfCI _ _ _)) | (go_at_call 159; exact Calls.quiet_of_same (sfCJ _ _ _)) | (go_at_call 115; exact Calls.quiet_of_same (sfCS _ _ _))))
  refine wpQuiet_nil ?_
  intro _ hw'
  obtain ⟨nq, hw''⟩ := hw'
  subst hw''
  simp only [List.drop_succ_cons, List.drop_zero]
  go_wp2_with fail
  refine (sfOr _ _ _ [cmpI x.Cost y.Cost, cmpI (x.Text.size : Int) (y.Text.size : Int), cmpS x.Text y.Text] _ rfl (by simp) (fun j hj => ?_)).mono ?_
  · have hj2 : j = 0 ∨ j = 1 ∨ j = 2 := by
      simp at hj; omega
    have e : ∀ (a b c : Obj), (((w.heap.push a).push b).push c)[w.heap.size + 1 + 1]? = some c := fun a b c => by rw [Array.getElem?_push, if_pos (by simp)]
    unfold World.cell?
    rcases hj2 with rfl | rfl | rfl <;> (erw [e]; rfl)
  rintro e w' ⟨rfl, rfl⟩
  go_wp2
  go_ret
  refine ⟨rfl, nq, #[.cells #[Value.string x.Text, Value.int IntKind.i64 x.Cost] 33 (0, 0), .cells #[Value.string y.Text, Value.int IntKind.i64 y.Cost] 33 (0, 0), .cells #[Value.int IntKind.i64 (cmpI x.Cost y.Cost), Value.int IntKind.i64 (cmpI (x.Text.size : Int) (y.Text.size : Int)), Value.int IntKind.i64 (cmpS x.Text y.Text)] 3 (0, 0)], ?_⟩
  have e : ∀ (a b c : Obj), ((w.heap.push a).push b).push c = w.heap ++ #[a, b, c] := fun a b c => Array.toList_inj.1 (by simp)
  unfold Go.Sort.grow
  show World.mk (((w.heap.push _).push _).push _) w.tape (w.drawn + nq) w.os w.output = World.mk (w.heap ++ #[_, _, _]) w.tape (w.drawn + nq) w.os w.output
  rw [e]

theorem srRsort_ok (data : List Reading) (hl : data.length ≤ 4000000) : ∃ (data' : List Reading), (data' = isoL cmpR data data.length) ∧ CallOK Tryz.prog 105 [.arr 8621, .fn 106 []] (lookO [(8621, tAReading data)]) true (.tup []) (lookO [(8621, tAReading data')]) := by
  refine ⟨srtF cmpR data, srt_iso cmpR_w cmpR_tot data, ?_⟩
  exact sortf_callOK (enc := sfeRdg) (kc := 2) (by decide) (fun _ => rfl) (fun x v hv => by simp only [sfeRdg, List.mem_cons, List.not_mem_nil, or_false] at hv; rcases hv with rfl | rfl <;> rfl) (cf := cmpR) (swo_of cmpR_w)
    (fun blk off cap d w h1 h2 h3 => AnyQ.slices_SortFunc_eq Tryz.laysSfRdg 2 (fun w => run_isAgg (by kernel_rfl) w) (fun w => run_sizeOf (by kernel_rfl) w) sfeRdg (fun _ => rfl) (fun x v hv => by simp only [sfeRdg, List.mem_cons, List.not_mem_nil, or_false] at hv; rcases hv with rfl | rfl <;> rfl) cmpR (swo_of cmpR_w) 106 #[] blk off cap d w (enters_of Tryz.func106 (by kernel_rfl) rfl) (fun m os dk hdk x y => srRcmp x y _) h1 h2 h3)
    (fun p cap fv w => AnyF.slices_SortFunc_none Tryz.laysSfRdg p cap fv w) 8621 data (by omega)

theorem firstR_ok (list : List Reading) (k : Int) (hl : list.length ≤ 4000000) (hk : 0 ≤ k ∧ k ≤ 4000000) : ∃ (list' : List Reading) (out : List Reading), (out = frL k.toNat list) ∧ CallOK Tryz.prog 54 [.arr 8621, I k] (lookO [(8621, tAReading list)]) false (.arr 8622) (lookO [(8621, tAReading list'), (8622, tAReading out)]) := by
  have hh : ∃ r : (List Reading) × (List Reading), ((r.2 = frL k.toNat list) ∧ (True)) ∧ CallOK Tryz.prog 54 [.arr 8621, I k] (lookO [(8621, tAReading list)]) false (.arr 8622) (lookO [(8621, tAReading r.1), (8622, tAReading r.2)]) := by
    refine fn_okX (Φ := fun r : (List Reading) × (List Reading) => (r.2 = frL k.toNat list) ∧ (True)) [(8621, tAReading list)] (fun r => [(8621, tAReading r.1), (8622, tAReading r.2)]) (fn := Tryz.f54) (nt := 38) Tryz.func54 rfl rfl (args := [.arr 8621, I k]) rfl (allcons (.inr trivial) (allcons (.inl ⟨rfl, trivial⟩) allnil)) (res := fun r => .arr 8622) ?_
    refine xR [] [0, 1] [8621] [.arr 8621, I k] [some (tAReading list)] [] trivial ?_
    refine x_seq ?_
    obtain ⟨data'_1, hx1_0, hc1⟩ := srRsort_ok list (by omega)
    have hys := hx1_0
    have hyl : data'_1.length = list.length := by rw [hys, isoL_len]
    refine x_r [(1, .lend [(8621, tAReading list, tAReading data'_1)] [] [(true, .any), (true, .any)] true (.tup []))] [0, 1] [8621] [.arr 8621, I k] [some (tAReading data'_1)] [CallOK Tryz.prog 105 [.arr 8621, .fn 106 []] (lookO [(8621, tAReading list)]) true (.tup []) (lookO [(8621, tAReading data'_1)]) ∧ (((tAReading list : Ob) = tAReading list ∨ obLe noOb true (tAReading list) (tAReading list)) ∧ taggedO false (tAReading list)) ∧ True] ⟨⟨hc1, ⟨.inl rfl, fun _ _ => tagcReading false _⟩, trivial⟩, trivial⟩ ?_
    refine xe_then ?_
    refine xR [(0, .new 11)] [0, 1, 5] [11, 8621] [.arr 8621, I k, .mapr 11] [some (.set ([] : List ByteArray)), some (tAReading data'_1)] [] trivial ?_
    refine xR [] [0, 1, 5, 6] [11, 8621] [.arr 8621, I k, .mapr 11, nilA] [some (.set ([] : List ByteArray)), some (tAReading data'_1)] [] trivial ?_
    refine x_seq ?_
    refine xR [] [1, 5, 6, 12, 13, 14] [11, 8621] [I k, .mapr 11, nilA, .arr 8621, I (data'_1.length : Int), I 0] [some (.set ([] : List ByteArray)), some (tAReading data'_1)] [] trivial ?_
    refine x_block ?_
    refine x_nil 6 706 2 (fun _ => []) (by kernel_rfl) ?_
    refine x_weak [] (T := [(1, I k), (5, .mapr 11), (6, .arr 706), (12, .arr 8621), (13, I (data'_1.length : Int)), (14, I 0)]) (O := [(11, .set ([] : List ByteArray)), (706, tAReading ([] : List Reading)), (8621, tAReading data'_1)]) rfl (⟨.inl rfl, .inl rfl, .inl rfl, .inl rfl, .inl rfl, .inl rfl, trivial⟩) (⟨.inl rfl, .inr ⟨rfl, (by first | rfl | (simp; done) | (simp; omega) | omega), fun i_ hi_ => absurd hi_ (Nat.not_lt_zero _)⟩, .inl rfl, trivial⟩) ?_
    refine x_loop (X := (List Reading) × Int × (List ByteArray)) (fun x => mkS [(1, I k), (5, .mapr 11), (6, .arr 706), (12, .arr 8621), (13, I (data'_1.length : Int)), (14, I x.2.1)] [(11, .set x.2.2), (706, tAReading x.1), (8621, tAReading data'_1)]) (fun x => (0 ≤ x.2.1 ∧ x.2.1 ≤ (data'_1.length : Int)) ∧ (x.1 = frI k.toNat data'_1 x.2.1.toNat) ∧ (x.2.2 = x.1.map Reading.Text) ∧ True) (fun x => ((data'_1.length : Int) - x.2.1).toNat) (([] : List Reading), 0, ([] : List ByteArray)) rfl (show (0 ≤ (0 : Int) ∧ (0 : Int) ≤ (data'_1.length : Int)) ∧ (([] : List Reading) = frI k.toNat data'_1 (0 : Int).toNat) ∧ (([] : List ByteArray) = ([] : List Reading).map Reading.Text) ∧ True from ⟨(by omega), (by rfl), (by rfl), trivial⟩) (fun x hI => ?_)
    obtain ⟨out, t14, ks⟩ := x
    obtain ⟨hi0, hou, hks, _⟩ : (0 ≤ t14 ∧ t14 ≤ (data'_1.length : Int)) ∧ (out = frI k.toNat data'_1 t14.toNat) ∧ (ks = out.map Reading.Text) ∧ True := hI
    show XW _ _ _ _ (mkS [(1, I k), (5, .mapr 11), (6, .arr 706), (12, .arr 8621), (13, I (data'_1.length : Int)), (14, I t14)] [(11, .set ks), (706, tAReading out), (8621, tAReading data'_1)]) _ _
    refine x_seq ?_
    by_cases h1 : t14 < (data'_1.length : Int)
    ·have hi : t14.toNat < data'_1.length := by omega
     have hii : (t14 + 1).toNat = t14.toNat + 1 := by omega
     have hfl := frI_len k.toNat data'_1 t14.toNat
     rw [← hou] at hfl
     refine x_r [(0, .dec true)] [1, 5, 6, 12, 13, 14, 15] [11, 706, 8621] [I k, .mapr 11, .arr 706, .arr 8621, I (data'_1.length : Int), I t14, Bv true] [some (.set ks), some (tAReading out), some (tAReading data'_1)] [t14 < (data'_1.length : Int)] ⟨h1, trivial⟩ ?_
     refine xe_then ?_
     refine x_seq ?_
     refine x_true rfl ?_
     refine x_skip ?_
     refine xe_then ?_
     refine x_seq ?_
     refine x_block ?_
     refine xR [(2, .new 8)] [1, 5, 6, 8, 12, 13, 14] [8, 11, 706, 8621] [I k, .mapr 11, .arr 706, .ref 8 0, .arr 8621, I (data'_1.length : Int), I t14] [some (bxReading (at_ data'_1 t14.toNat)), some (.set ks), some (tAReading out), some (tAReading data'_1)] [(0 : Int) ≤ t14 ∧ t14 < (data'_1.length : Int), t14.toNat < data'_1.length] ⟨⟨(by omega), (by omega)⟩, (by omega), trivial⟩ ?_
     refine x_seq ?_
     by_cases h2 : (out.length : Int) < k
     ·by_cases h3 : ((at_ data'_1 t14.toNat).Text) ∈ ks
      ·refine x_r [(3, .dec true), (8, .dec true)] [1, 5, 6, 8, 12, 13, 14, 28] [8, 11, 706, 8621] [I k, .mapr 11, .arr 706, .ref 8 0, .arr 8621, I (data'_1.length : Int), I t14, Bv false] [some (bxReading (at_ data'_1 t14.toNat)), some (.set ks), some (tAReading out), some (tAReading data'_1)] [(out.length : Int) < k, ((at_ data'_1 t14.toNat).Text) ∈ ks] ⟨h2, h3, trivial⟩ ?_
       refine xe_then ?_
       refine x_false rfl ?_
       refine x_skip ?_
       refine xe_block 1 ?_
       refine xe_then ?_
       refine x_r [] [1, 5, 6, 12, 13, 14] [11, 706, 8621] [I k, .mapr 11, .arr 706, .arr 8621, I (data'_1.length : Int), I (t14 + 1)] [some (.set ks), some (tAReading out), some (tAReading data'_1)] [inR .i64 (t14 + 1)] ⟨(inR_i64 (by omega) (by omega)), trivial⟩ ?_
       exact xe_again (out, (t14 + 1), ks) rfl (show (0 ≤ (t14 + 1) ∧ (t14 + 1) ≤ (data'_1.length : Int)) ∧ (out = frI k.toNat data'_1 (t14 + 1).toNat) ∧ (ks = out.map Reading.Text) ∧ True from ⟨(by omega), (by rw [hii]; first | exact fr_y hou hks (by omega) (by assumption) | exact fr_n1 hou (by omega) | exact fr_n2 hou hks (by assumption)), (by first | exact hks | (rw [hks, List.map_append]; rfl)), trivial⟩) (by first | (show (((data'_1.length : Int) - (t14 + 1)).toNat : Nat) < ((data'_1.length : Int) - t14).toNat; omega) | (dsimp only; omega))
      refine x_r [(3, .dec true), (8, .dec false)] [1, 5, 6, 8, 12, 13, 14, 28] [8, 11, 706, 8621] [I k, .mapr 11, .arr 706, .ref 8 0, .arr 8621, I (data'_1.length : Int), I t14, Bv true] [some (bxReading (at_ data'_1 t14.toNat)), some (.set ks), some (tAReading out), some (tAReading data'_1)] [(out.length : Int) < k, ¬ (((at_ data'_1 t14.toNat).Text) ∈ ks)] ⟨h2, h3, trivial⟩ ?_
      refine xe_then ?_
      refine x_true rfl ?_
      refine xR [] [1, 5, 6, 8, 12, 13, 14] [8, 11, 706, 8621] [I k, .mapr 11, .arr 706, .ref 8 0, .arr 8621, I (data'_1.length : Int), I t14] [some (bxReading (at_ data'_1 t14.toNat)), some (.set (ks ++ [(at_ data'_1 t14.toNat).Text])), some (tAReading out), some (tAReading data'_1)] [¬ (((at_ data'_1 t14.toNat).Text) ∈ ks)] ⟨h3, trivial⟩ ?_
      refine x_r [(2, .new 34), (3, .new 35)] [1, 5, 6, 12, 13, 14] [11, 35, 8621] [I k, .mapr 11, .arr 35, .arr 8621, I (data'_1.length : Int), I t14] [some (.set (ks ++ [(at_ data'_1 t14.toNat).Text])), some (.arr 2 (out.length + 1) (catF out.length (fReading out) (litF [Sv ((at_ data'_1 t14.toNat).Text), I ((at_ data'_1 t14.toNat).Cost)] 2))), some (tAReading data'_1)] [(out.length + 1) * 24 ≤ 140737488355328] ⟨(by omega), trivial⟩ ?_
      refine xe_block 1 ?_
      refine xe_then ?_
      refine x_r [] [1, 5, 6, 12, 13, 14] [11, 35, 8621] [I k, .mapr 11, .arr 35, .arr 8621, I (data'_1.length : Int), I (t14 + 1)] [some (.set (ks ++ [(at_ data'_1 t14.toNat).Text])), some (.arr 2 (out.length + 1) (catF out.length (fReading out) (litF [Sv ((at_ data'_1 t14.toNat).Text), I ((at_ data'_1 t14.toNat).Cost)] 2))), some (tAReading data'_1)] [inR .i64 (t14 + 1)] ⟨(inR_i64 (by omega) (by omega)), trivial⟩ ?_
      refine xe_weak [(706, 35)] (T := [(1, I k), (5, .mapr 11), (6, .arr 706), (12, .arr 8621), (13, I (data'_1.length : Int)), (14, I (t14 + 1))]) (O := [(11, .set (ks ++ [(at_ data'_1 t14.toNat).Text])), (706, tAReading (out ++ [(at_ data'_1 t14.toNat)])), (8621, tAReading data'_1)]) rfl (⟨.inl rfl, .inl rfl, .inl rfl, .inl rfl, .inl rfl, .inl rfl, trivial⟩) (⟨.inl rfl, .inr ⟨rfl, (by first | rfl | (simp; done) | (simp; omega) | omega), fun i_ hi_ => .inl (cat_snoc (enc := cReading) (xs := out) rfl i_ hi_)⟩, .inl rfl, trivial⟩) (xe_again ((out ++ [(at_ data'_1 t14.toNat)]), (t14 + 1), (ks ++ [(at_ data'_1 t14.toNat).Text])) rfl (show (0 ≤ (t14 + 1) ∧ (t14 + 1) ≤ (data'_1.length : Int)) ∧ ((out ++ [(at_ data'_1 t14.toNat)]) = frI k.toNat data'_1 (t14 + 1).toNat) ∧ ((ks ++ [(at_ data'_1 t14.toNat).Text]) = (out ++ [(at_ data'_1 t14.toNat)]).map Reading.Text) ∧ True from ⟨(by omega), (by rw [hii]; first | exact fr_y hou hks (by omega) (by assumption) | exact fr_n1 hou (by omega) | exact fr_n2 hou hks (by assumption)), (by first | exact hks | (rw [hks, List.map_append]; rfl)), trivial⟩) (by first | (show (((data'_1.length : Int) - (t14 + 1)).toNat : Nat) < ((data'_1.length : Int) - t14).toNat; omega) | (dsimp only; omega)))
     refine x_r [(3, .dec false)] [1, 5, 6, 8, 12, 13, 14, 28] [8, 11, 706, 8621] [I k, .mapr 11, .arr 706, .ref 8 0, .arr 8621, I (data'_1.length : Int), I t14, Bv false] [some (bxReading (at_ data'_1 t14.toNat)), some (.set ks), some (tAReading out), some (tAReading data'_1)] [¬ ((out.length : Int) < k)] ⟨h2, trivial⟩ ?_
     refine xe_then ?_
     refine x_false rfl ?_
     refine x_skip ?_
     refine xe_block 1 ?_
     refine xe_then ?_
     refine x_r [] [1, 5, 6, 12, 13, 14] [11, 706, 8621] [I k, .mapr 11, .arr 706, .arr 8621, I (data'_1.length : Int), I (t14 + 1)] [some (.set ks), some (tAReading out), some (tAReading data'_1)] [inR .i64 (t14 + 1)] ⟨(inR_i64 (by omega) (by omega)), trivial⟩ ?_
     exact xe_again (out, (t14 + 1), ks) rfl (show (0 ≤ (t14 + 1) ∧ (t14 + 1) ≤ (data'_1.length : Int)) ∧ (out = frI k.toNat data'_1 (t14 + 1).toNat) ∧ (ks = out.map Reading.Text) ∧ True from ⟨(by omega), (by rw [hii]; first | exact fr_y hou hks (by omega) (by assumption) | exact fr_n1 hou (by omega) | exact fr_n2 hou hks (by assumption)), (by first | exact hks | (rw [hks, List.map_append]; rfl)), trivial⟩) (by first | (show (((data'_1.length : Int) - (t14 + 1)).toNat : Nat) < ((data'_1.length : Int) - t14).toNat; omega) | (dsimp only; omega))
    have hfin : out = frL k.toNat list := by rw [hou, show t14.toNat = data'_1.length from by omega, hys, isoL_len]; rfl
    refine x_r [(0, .dec false)] [1, 5, 6, 12, 13, 14, 15] [11, 706, 8621] [I k, .mapr 11, .arr 706, .arr 8621, I (data'_1.length : Int), I t14, Bv false] [some (.set ks), some (tAReading out), some (tAReading data'_1)] [¬ (t14 < (data'_1.length : Int))] ⟨h1, trivial⟩ ?_
    refine xe_then ?_
    refine x_seq ?_
    refine x_false rfl ?_
    refine x_exit ?_
    refine xe_exit_then ?_
    refine xe_loop_exit ?_
    refine xe_exit_same ?_
    refine xe_then ?_
    refine xR [] [4] [706, 8621] [.arr 706] [some (tAReading out), some (tAReading data'_1)] [] trivial ?_
    refine x_ret ?_
    refine xe_weak [(8622, 706)] (T := [(4, .arr 8622)]) (O := [(8621, tAReading data'_1), (8622, tAReading out)]) rfl (⟨.inl rfl, trivial⟩) (⟨.inl rfl, .inl rfl, trivial⟩) ?_
    refine xe_end (data'_1, out) (show (out = frL k.toNat list) ∧ (True) from ⟨(by exact hfin), trivial⟩) (⟨.inl rfl, .inl rfl, trivial⟩) (.arr 8622) (by kernel_rfl) (.inl rfl) (fun h => by cases h) (fun h => by cases h)
  obtain ⟨⟨list', out⟩, ⟨hh0, _⟩, hc⟩ := hh
  exact ⟨list', out, hh0, hc⟩



def firstN (n : Nat) (p : Nat → Bool) : Int := match (List.range n).find? p with
  | some i => i
  | none => -1

theorem ext_zero (w : ByteArray) : w.extract 0 0 = ⟨#[]⟩ := by
  apply ByteArray.ext
  simp
theorem ext_step (w : ByteArray) {k : Nat} (h : k < w.size) : w.extract 0 (k + 1) = w.extract 0 k ++ chA w k := by
  apply ba_inj
  rw [toList_app]
  unfold chA
  have e : ∀ a b : Nat, (w.extract a b).toList = (w.data.toList.drop a).take (b - a) := fun a b => by rw [Lib.toList_data]; simp [ByteArray.data_extract, Array.toList_extract, List.extract_eq_take_drop]
  rw [e, e, e, Nat.sub_zero, Nat.sub_zero, List.drop_zero, Nat.add_sub_cancel_left, List.take_add]
theorem ext_full (w : ByteArray) : w.extract 0 w.size = w := by
  apply ba_inj
  rw [Lib.toList_data, Lib.toList_data, ByteArray.data_extract, Array.toList_extract, List.extract_eq_take_drop, List.drop_zero, Nat.sub_zero, List.take_of_length_le]
  exact Nat.le_refl _
theorem ext_sz (w : ByteArray) {k : Nat} (h : k ≤ w.size) : (w.extract 0 k).size = k := by rw [ByteArray.size_extract]; omega
theorem chA_sz (w : ByteArray) {k : Nat} (h : k < w.size) : (chA w k).size = 1 := by unfold chA; rw [ByteArray.size_extract]; omega
def tcC (l : Lattice) (c : List Int) (ch : ByteArray) (i n : Nat) (v : Int) : Prop := ∃ i' : Nat, i' < i ∧ (at_ l.Edges i').Label = ch ∧ at_ c (at_ l.Edges i').From.toNat < 1099511627776 ∧ (at_ l.Edges i').To = (n : Int) ∧ v = at_ c (at_ l.Edges i').From.toNat + (at_ l.Edges i').Cost
theorem rowE_is {l : Lattice} (hl : okLat l) {b : Int} (hb : 0 ≤ b) {c : List Int} (hc : okRow l.Nodes.toNat b c) (ch : ByteArray) : ∀ i : Nat, i ≤ l.Edges.length → (∀ n : Nat, n < l.Nodes.toNat → (at_ (rowE l c ch i).1 n < 1099511627776 → tcC l c ch i n (at_ (rowE l c ch i).1 n)) ∧ ∀ v, tcC l c ch i n v → at_ (rowE l c ch i).1 n ≤ v) ∧ ((∃ i' : Nat, i' < i ∧ (at_ l.Edges i').Label = ch ∧ at_ c (at_ l.Edges i').From.toNat < 1099511627776) → (rowE l c ch i).2 = true)
  | 0, _ => ⟨fun n hn => ⟨fun q => by
      have e : at_ (rowE l c ch 0).1 n = 1099511627776 := at_rep hn
      omega, fun v ⟨i', h, _⟩ => absurd h (Nat.not_lt_zero _)⟩, fun ⟨i', h, _⟩ => absurd h (Nat.not_lt_zero _)⟩
  | i + 1, hi => by
    have ih := rowE_is hl hb hc ch i (by omega)
    have ok := rowE_ok hl hb hc ch i (by omega)
    have he := hl.2.2.1 i (by omega)
    have h1 := he.1
    have hup : ∀ n v, tcC l c ch i n v → tcC l c ch (i + 1) n v := fun n v ⟨i', a, q⟩ => ⟨i', by omega, q⟩
    unfold rowE
    split
    · rename_i q
      have hnew : tcC l c ch (i + 1) (at_ l.Edges i).To.toNat (at_ c (at_ l.Edges i).From.toNat + (at_ l.Edges i).Cost) := ⟨i, by omega, q.1, q.2, by omega, rfl⟩
      refine ⟨fun n hn => ?_, fun _ => rfl⟩
      by_cases e : n = (at_ l.Edges i).To.toNat
      · subst e
        dsimp only
        rw [at_set_same (by rw [ok.1]; exact hn)]
        have a := ih.1 _ hn
        constructor
        · intro hlt
          rcases Int.le_total (at_ (rowE l c ch i).1 (at_ l.Edges i).To.toNat) (at_ c (at_ l.Edges i).From.toNat + (at_ l.Edges i).Cost) with z | z
          · rw [Int.min_eq_left z] at hlt ⊢
            exact hup _ _ (a.1 hlt)
          · rw [Int.min_eq_right z]; exact hnew
        · rintro v ⟨i', h2, h3, h4, h5, h6⟩
          by_cases e2 : i' = i
          · subst e2; rw [h6]; exact Int.min_le_right _ _
          · exact Int.le_trans (Int.min_le_left _ _) (a.2 v ⟨i', by omega, h3, h4, h5, h6⟩)
      · dsimp only
        rw [at_set_oth e]
        have a := ih.1 _ hn
        refine ⟨fun hlt => hup _ _ (a.1 hlt), fun v ⟨i', h2, h3, h4, h5, h6⟩ => ?_⟩
        by_cases e2 : i' = i
        · subst e2; exact absurd h5 (by omega)
        · exact a.2 v ⟨i', by omega, h3, h4, h5, h6⟩
    · rename_i q
      refine ⟨fun n hn => ?_, fun ⟨i', h2, h3, h4⟩ => ?_⟩
      · have a := ih.1 _ hn
        refine ⟨fun hlt => hup _ _ (a.1 hlt), fun v ⟨i', h2, h3, h4, h5, h6⟩ => ?_⟩
        by_cases e2 : i' = i
        · subst e2; exact absurd ⟨h3, h4⟩ q
        · exact a.2 v ⟨i', by omega, h3, h4, h5, h6⟩
      · by_cases e2 : i' = i
        · subst e2; exact absurd ⟨h3, h4⟩ q
        · exact ih.2 ⟨i', by omega, h3, h4⟩
theorem pth_last {l : Lattice} (hl : okLat l) {w : ByteArray} {k n : Nat} (hk : k < w.size) (hn : n < l.Nodes.toNat) {c : Int} (h : pth l n ⟨w.extract 0 (k + 1), c⟩) : ∃ e ∈ l.Edges, e.To = (n : Int) ∧ e.Label = chA w k ∧ ∃ c', pth l e.From.toNat ⟨w.extract 0 k, c'⟩ ∧ c = c' + e.Cost := by
  rcases (pth_iff hl hn _).1 h with ⟨_, q⟩ | ⟨e, he, a, r, hr, q⟩
  · have := congrArg (fun r : Reading => r.Text.size) q
    simp only [ext_sz w (show k + 1 ≤ w.size by omega)] at this
    exact absurd this (by show ¬ (k + 1 = 0); omega)
  · have t := congrArg Reading.Text q
    have c2 := congrArg Reading.Cost q
    replace t : w.extract 0 (k + 1) = r.Text ++ e.Label := t
    replace c2 : c = r.Cost + e.Cost := c2
    rw [ext_step w hk] at t
    have z := app_inj t (by rw [chA_sz w hk, lab_size (ed_ok hl he).2.2])
    refine ⟨e, he, a, z.2.symm, r.Cost, ?_, c2⟩
    rw [z.1]; exact hr
theorem tcRow_is {l : Lattice} (hl : okLat l) (w : ByteArray) : ∀ k : Nat, k ≤ w.size → ∀ n : Nat, n < l.Nodes.toNat → (at_ (tcRow l w k) n < 1099511627776 → pth l n ⟨w.extract 0 k, at_ (tcRow l w k) n⟩) ∧ ∀ c, pth l n ⟨w.extract 0 k, c⟩ → at_ (tcRow l w k) n ≤ c
  | 0, _, n, hn => by
    rw [ext_zero]
    show (at_ ((List.replicate l.Nodes.toNat (1099511627776 : Int)).set 0 0) n < _ → pth l n ⟨⟨#[]⟩, at_ ((List.replicate l.Nodes.toNat (1099511627776 : Int)).set 0 0) n⟩) ∧ ∀ c, _ → at_ ((List.replicate l.Nodes.toNat (1099511627776 : Int)).set 0 0) n ≤ c
    by_cases e : n = 0
    · subst e
      rw [at_set_same (by rw [List.length_replicate]; exact hn)]
      exact ⟨fun _ => (pth_iff hl hn _).2 (.inl ⟨rfl, rfl⟩), fun c hc => (pth_bd hl 0 0 (Nat.le_refl _) hn _ hc).2.1⟩
    · rw [at_set_oth e, at_rep hn]
      refine ⟨fun q => absurd q (by omega), fun c hc => ?_⟩
      rcases (pth_iff hl hn _).1 hc with ⟨q, _⟩ | ⟨e2, he, a, r, hr, q⟩
      · exact absurd q e
      · have t := congrArg (fun r : Reading => r.Text.size) q
        replace t : (⟨#[]⟩ : ByteArray).size = (r.Text ++ e2.Label).size := t
        rw [ByteArray.size_append, lab_size (ed_ok hl he).2.2] at t
        exact absurd t (by show ¬ (0 = _); omega)
  | k + 1, hk, n, hn => by
    have ih := tcRow_is hl w k (by omega)
    have rk := tcRow_ok hl w k
    have R := (rowE_is hl (by omega) rk (chA w k) l.Edges.length (Nat.le_refl _)).1 n hn
    show (at_ (rowE l (tcRow l w k) (chA w k) l.Edges.length).1 n < _ → _) ∧ ∀ c, _ → at_ (rowE l (tcRow l w k) (chA w k) l.Edges.length).1 n ≤ c
    constructor
    · intro hlt
      obtain ⟨i', h1, h2, h3, h4, h5⟩ := R.1 hlt
      have b := (hl.2.2.1 i' h1).1
      have p := (ih (at_ l.Edges i').From.toNat (by omega)).1 h3
      show pth l n ⟨w.extract 0 (k + 1), at_ (rowE l (tcRow l w k) (chA w k) l.Edges.length).1 n⟩
      rw [h5, ext_step w (by omega)]
      exact (pth_iff hl hn _).2 (.inr ⟨at_ l.Edges i', at_mem h1, h4, _, p, by rw [← h2]; rfl⟩)
    · intro c hc
      obtain ⟨e, he, h1, h2, c', h3, h4⟩ := pth_last hl (show k < w.size by omega) hn hc
      obtain ⟨i', hi, q⟩ := List.getElem_of_mem he
      rw [← at_eq hi] at q
      subst q
      have b := (hl.2.2.1 i' hi).1
      have p := (ih (at_ l.Edges i').From.toNat (by omega)).2 c' h3
      have bd := pth_bd hl _ _ (Nat.le_refl _) (by omega) _ h3
      have sz := ext_sz w (show k ≤ w.size by omega)
      have hN := hl.1
      have h5 := bd.1
      have h6 := bd.2.2
      replace h5 : (w.extract 0 k).size ≤ (at_ l.Edges i').From.toNat := h5
      replace h6 : c' ≤ 1000000 * (((w.extract 0 k).size : Nat) : Int) := h6
      have := R.2 _ ⟨i', hi, h2, by omega, h1, rfl⟩
      omega
theorem pth_pre {l : Lattice} (hl : okLat l) {w : ByteArray} : ∀ (d k n : Nat) (c : Int), k + d ≤ w.size → n < l.Nodes.toNat → pth l n ⟨w.extract 0 (k + d), c⟩ → ∃ n' c', n' < l.Nodes.toNat ∧ pth l n' ⟨w.extract 0 k, c'⟩
  | 0, k, n, c, _, hn, h => ⟨n, c, hn, h⟩
  | d + 1, k, n, c, hk, hn, h => by
    obtain ⟨e, he, h1, h2, c', h3, h4⟩ := pth_last hl (k := k + d) (by omega) hn h
    have b := (ed_ok hl he).1
    exact pth_pre hl d k _ c' (by omega) (by omega) h3
theorem tcF_min {l : Lattice} (hl : okLat l) {w : ByteArray} {c : Int} (h : pth l (l.Nodes - 1).toNat ⟨w, c⟩) : tcF l w ≤ c := by
  have hN := hl.1
  have hn : (l.Nodes - 1).toNat < l.Nodes.toNat := by omega
  have ha : anyN w.size (fun k => !(tcA l w k)) = false := anyN_none fun k hk => by
    rw [← ext_full w, show w.size = (k + 1) + (w.size - (k + 1)) from by omega] at h
    obtain ⟨n', c', h1, h2⟩ := pth_pre hl _ _ _ _ (by omega) hn h
    obtain ⟨e, he, h3, h4, c2, h5, h6⟩ := pth_last hl hk h1 h2
    obtain ⟨i', hi, q⟩ := List.getElem_of_mem he
    rw [← at_eq hi] at q
    subst q
    have b := (hl.2.2.1 i' hi).1
    have p := (tcRow_is hl w k (by omega) (at_ l.Edges i').From.toNat (by omega)).2 c2 h5
    have bd := pth_bd hl _ _ (Nat.le_refl _) (by omega) _ h5
    have sz := ext_sz w (show k ≤ w.size by omega)
    have h7 := bd.1
    have h8 := bd.2.2
    replace h7 : (w.extract 0 k).size ≤ (at_ l.Edges i').From.toNat := h7
    replace h8 : c2 ≤ 1000000 * (((w.extract 0 k).size : Nat) : Int) := h8
    have : tcA l w k = true := (rowE_is hl (by omega) (tcRow_ok hl w k) (chA w k) l.Edges.length (Nat.le_refl _)).2 ⟨i', hi, h4, by omega⟩
    rw [this]; rfl
  unfold tcF
  rw [if_neg (by rw [ha]; decide)]
  refine (tcRow_is hl w w.size (Nat.le_refl _) _ hn).2 c ?_
  rw [ext_full]; exact h
theorem tcF_has {l : Lattice} (hl : okLat l) {w : ByteArray} (h : tcF l w < 1099511627776) : pth l (l.Nodes - 1).toNat ⟨w, tcF l w⟩ := by
  have hN := hl.1
  have e : tcF l w = if (anyN w.size fun k => !(tcA l w k)) = true then 1099511627776 else at_ (tcRow l w w.size) (l.Nodes - 1).toNat := rfl
  by_cases ha : (anyN w.size fun k => !(tcA l w k)) = true
  · rw [if_pos ha] at e; omega
  · rw [if_neg ha] at e
    have := (tcRow_is hl w w.size (Nat.le_refl _) (l.Nodes - 1).toNat (by omega)).1 (by omega)
    rw [ext_full, ← e] at this
    exact this
theorem tcF_of {l : Lattice} (hl : okLat l) {r : Reading} (h : pth l (l.Nodes - 1).toNat r) (hm : ∀ q, pth l (l.Nodes - 1).toNat q → q.Text = r.Text → r.Cost ≤ q.Cost) : tcF l r.Text = r.Cost := by
  have hN := hl.1
  have a := tcF_min hl (w := r.Text) (c := r.Cost) h
  have bd := pth_bd hl _ _ (Nat.le_refl _) (by omega) _ h
  have b := hm _ (tcF_has hl (w := r.Text) (by omega)) rfl
  replace b : r.Cost ≤ tcF l r.Text := b
  omega


def bestL (k : Nat) (l : Lattice) : List Reading := at_ (tbN (frL k) pAny l (tb0 l) l.Nodes.toNat) (l.Nodes - 1).toNat
def endP (l : Lattice) (x : Reading) : Prop := pth l (l.Nodes - 1).toNat x
theorem best_fst {l : Lattice} (hl : okLat l) (k : Nat) : fstK k (endP l) (bestL k l) := by
  have hN := hl.1
  exact tb_fst (k := k) hl (N := l.Nodes.toNat) (by omega) _ _ (Nat.le_refl _) (by omega)
theorem best_few {l : Lattice} (hl : okLat l) (k : Nat) : (bestL k l).length ≤ (at_ (allT l) (l.Nodes - 1).toNat).length := by
  have h := best_fst hl k
  have nd := fst_nd h
  have := nd_le (xs := (bestL k l).map Reading.Text) (ys := (at_ (allT l) (l.Nodes - 1).toNat).map Reading.Text) nd fun x hx => by
    obtain ⟨r, hr, rfl⟩ := List.mem_map.1 hx
    exact List.mem_map_of_mem (h.2.2.1 r hr).1
  simpa using this
theorem best_any {l : Lattice} (hl : okLat l) {k : Nat} (hk : 0 < k) : 0 < (bestL k l).length ↔ 0 < (at_ (allT l) (l.Nodes - 1).toNat).length := by
  rw [fst_some (best_fst hl k) hk]
  exact ⟨fun ⟨x, hx⟩ => List.length_pos_of_mem hx, fun h => ⟨_, List.getElem_mem h⟩⟩
theorem best_one {l : Lattice} (hl : okLat l) {k m : Nat} (hk : 0 < (bestL k l).length) (hm : 0 < (bestL m l).length) : at_ (bestL k l) 0 = at_ (bestL m l) 0 := by
  have a := fst_head (best_fst hl k) hk
  have b := fst_head (best_fst hl m) hm
  have c := a.2 _ b.1
  have d := b.2 _ a.1
  have e := cmpR_w.anti (at_ (bestL k l) 0) (at_ (bestL m l) 0)
  exact cmpR_tot _ _ (by have := cmpR_w.anti (at_ (bestL m l) 0) (at_ (bestL k l) 0); omega)
theorem best_cost {l : Lattice} (hl : okLat l) {k i : Nat} (hi : i < (bestL k l).length) : tcF l (at_ (bestL k l) i).Text = (at_ (bestL k l) i).Cost := by
  have h := (best_fst hl k).2.2.1 _ (at_mem hi)
  exact tcF_of hl h.1 h.2
theorem best_bd {l : Lattice} (hl : okLat l) {k i : Nat} (hi : i < (bestL k l).length) : (at_ (bestL k l) i).Text.size ≤ 20 ∧ 0 ≤ (at_ (bestL k l) i).Cost ∧ (at_ (bestL k l) i).Cost ≤ 20000000 := by
  have h := (best_fst hl k).2.2.1 _ (at_mem hi)
  have hN := hl.1
  have b := pth_bd hl _ _ (Nat.le_refl _) (by omega) _ h.1
  omega
theorem cmpR_less {a b : Reading} (h : cmpR a b < 0) : ¬ b.Cost < a.Cost ∧ ¬ (a.Cost = b.Cost ∧ (b.Text.size < a.Text.size ∨ (a.Text.size = b.Text.size ∧ sless a.Text b.Text = false))) := by
  rw [cmpR_eq] at h
  by_cases h1 : cmpI a.Cost b.Cost = 0
  · rw [if_pos h1] at h
    rw [cmpI_zero] at h1
    refine ⟨by omega, fun ⟨_, q⟩ => ?_⟩
    by_cases h2 : cmpI (a.Text.size : Int) (b.Text.size : Int) = 0
    · rw [if_pos h2, cmpS_neg] at h
      rw [cmpI_zero] at h2
      rcases q with q | q
      · omega
      · rw [h] at q; cases q.2
    · rw [if_neg h2, cmpI_neg] at h
      rcases q with q | q <;> omega
  · rw [if_neg h1, cmpI_neg] at h
    exact ⟨by omega, fun ⟨q, _⟩ => by omega⟩
theorem best_ord {l : Lattice} (hl : okLat l) {k i : Nat} (h0 : 0 < i) (hi : i < (bestL k l).length) : cmpR (at_ (bestL k l) (i - 1)) (at_ (bestL k l) i) < 0 := pw_get (best_fst hl k).1 (by omega) hi


theorem beq_ne {i k : Nat} (h : i ≠ k) : Nat.beq i k = false := Bool.eq_false_iff.2 fun e => h (Nat.eq_of_beq_eq_true e)
theorem at_set_eq {α : Type} [Inhabited α] {xs : List α} {k : Nat} {c : α} (h : k < xs.length) : at_ (xs.set k c) k = c := by simp [at_, h]
theorem at_set_ne {α : Type} [Inhabited α] {xs : List α} {k i : Nat} {c : α} (h : i ≠ k) : at_ (xs.set k c) i = at_ xs i := by
  have : ¬ k = i := fun e => h e.symm
  simp [at_, this]
theorem le_row {ob : Nat → Option Ob} {F N sz p n : Nat} {m : Nat → Nat} {g : Nat → Nat → List AV} {fr : Bool} {f : Nat → List AV} (h : ob F = some (.fam N sz m g)) (hp : p < N) (hn : m p = n)
    (hf : ∀ i, i < n → g p i = f i ∨ (AV.idsL (f i) = [] ∧ leL (fun _ => none) false (g p i) (f i))) : le ob true (.row F p) (.sl fr sz n f) := by
  simp only [le, h]
  exact ⟨fun _ => trivial, hp, trivial, hn, hf⟩


def oLReadingc (F : Nat) (x : List Reading) (i : Nat) : List AV := [.row F i]
def oLReading (F : Nat) (xs : List (List Reading)) (i : Nat) : List AV := oLReadingc F (at_ xs i) i
def mLReading (xs : List (List Reading)) (p : Nat) : Nat := (at_ xs p).length
def gLReading (xs : List (List Reading)) (p : Nat) : Nat → List AV := fReading (at_ xs p)
abbrev tOLReading (F : Nat) (xs : List (List Reading)) : Ob := .oar [F] 1 xs.length (oLReading F xs)
abbrev tFLReading (xs : List (List Reading)) : Ob := .fam xs.length 2 (mLReading xs) (gLReading xs)
theorem oleLReading {ob : Nat → Option Ob} {F : Nat} (fr : Bool) (xs : List (List Reading)) (h : ob F = some (.fam xs.length 2 (mLReading xs) (gLReading xs))) : ∀ i, i < xs.length → AV.idsL (fLReading fr xs i) = [] ∧ leL ob true (oLReading F xs i) (fLReading fr xs i) :=
  fun i hi => And.intro rfl (And.intro (le_row h hi rfl (fun q _ => .inl rfl)) rfl)
theorem fnilLReading (n : Nat) {g : Nat → Nat → List AV} : n = (List.replicate n ([] : List Reading)).length ∧ 2 = 2 ∧ ∀ p, p < (List.replicate n ([] : List Reading)).length → (fun _ : Nat => (0 : Nat)) p = mLReading (List.replicate n ([] : List Reading)) p ∧ ∀ i, i < mLReading (List.replicate n ([] : List Reading)) p → g p i = gLReading (List.replicate n ([] : List Reading)) p i ∨ (AV.idsL (gLReading (List.replicate n ([] : List Reading)) p i) = [] ∧ leL (fun _ => none) false (g p i) (gLReading (List.replicate n ([] : List Reading)) p i)) := by
  refine ⟨by simp, rfl, fun p hp => ?_⟩
  have e : mLReading (List.replicate n ([] : List Reading)) p = 0 := by simp only [List.length_replicate] at hp; simp [mLReading, at_, hp]
  exact ⟨e.symm, fun i hi => by rw [e] at hi; exact absurd hi (Nat.not_lt_zero _)⟩
theorem fputLReading {xs : List (List Reading)} {P m1 : Nat} {ys : List Reading} {f1 : Nat → List AV} (hP : P < xs.length) (hm : m1 = ys.length) (hf : ∀ i, i < m1 → f1 i = fReading ys i) : xs.length = (xs.set P ys).length ∧ 2 = 2 ∧ ∀ p, p < (xs.set P ys).length → famUp P m1 (mLReading xs) p = mLReading (xs.set P ys) p ∧ ∀ i, i < mLReading (xs.set P ys) p → famUpF P f1 (gLReading xs) p i = gLReading (xs.set P ys) p i ∨ (AV.idsL (gLReading (xs.set P ys) p i) = [] ∧ leL (fun _ => none) false (famUpF P f1 (gLReading xs) p i) (gLReading (xs.set P ys) p i)) := by
  refine ⟨by simp, rfl, fun p hp => ?_⟩
  by_cases h : p = P
  · subst h
    have e : at_ (xs.set p ys) p = ys := at_set_eq hP
    refine ⟨?_, fun i hi => .inl ?_⟩
    · simp only [famUp, Nat.beq_refl, cond_true, mLReading, e]; exact hm
    · simp only [mLReading, e] at hi; simp only [famUpF, Nat.beq_refl, cond_true, gLReading, e]; exact hf i (by omega)
  · have e : at_ (xs.set P ys) p = at_ xs p := at_set_ne h
    have b := beq_ne h
    refine ⟨?_, fun i hi => .inl ?_⟩
    · simp only [famUp, b, cond_false, mLReading, e]
    · simp only [famUpF, b, cond_false, gLReading, e]

-- impl.bestReadings
theorem bestR_ok (l : Lattice) (k : Int) (hl : okLat l) (hk : 1 ≤ k ∧ k ≤ 20) : ∃ (v : List Reading), (v = bestL k.toNat l) ∧ Con Tryz.prog 41 [agLattice l, I k] true (slReading true v) := by
  have hn20 := hl.1
  have hc := hl.2.1
  have hh : ∃ r : (List Reading), ((r = bestL k.toNat l) ∧ (True)) ∧ CallOK Tryz.prog 41 [agLattice l, I k] (lookO []) true (slReading true r) (lookO []) := by
    refine fn_okX (Φ := fun r : (List Reading) => (r = bestL k.toNat l) ∧ (True)) [] (fun r => []) (fn := Tryz.f41) (nt := 83) Tryz.func41 rfl rfl (args := [agLattice l, I k]) rfl (allcons (.inl ⟨rfl, by simp [tagged, taggedL, tagEdge]⟩) (allcons (.inl ⟨rfl, trivial⟩) allnil)) (res := fun r => slReading true r) ?_
    refine xR [(0, .new 2)] [1, 2] [2] [I k, .ref 2 0] [some (bxLattice l)] [] trivial ?_
    refine xR [(2, .new 13)] [1, 2, 5] [2, 13] [I k, .ref 2 0, .arr 13] [some (bxLattice l), some (.arr 1 l.Nodes.toNat (fun _ => [nilA]))] [(0 : Int) ≤ l.Nodes ∧ (l.Nodes : Int) ≤ l.Nodes ∧ (24 : Int) * l.Nodes ≤ 281474976710656 ∧ l.Nodes ≤ 9223372036854775807] ⟨⟨(by first | omega | (simp only [List.length_replicate, List.length_set]; omega)), (by first | omega | (simp only [List.length_replicate, List.length_set]; omega)), (by first | omega | (simp only [List.length_replicate, List.length_set]; omega)), (by first | omega | (simp only [List.length_replicate, List.length_set]; omega))⟩, trivial⟩ ?_
    refine x_seq ?_
    refine x_famN 13 8641 2 rfl (fun q _ => ⟨_, rfl, rfl⟩) (by kernel_rfl) ?_
    refine x_weak [] (T := [(1, I k), (2, .ref 2 0), (5, .arr 13)]) (O := [(2, bxLattice l), (13, tOLReading 8641 (List.replicate l.Nodes.toNat ([] : List Reading))), (8641, tFLReading (List.replicate l.Nodes.toNat ([] : List Reading)))]) rfl (⟨.inl rfl, .inl rfl, .inl rfl, trivial⟩) (⟨.inl rfl, .inr ⟨rfl, rfl, (by simp), fun i hi => .inl rfl⟩, .inr (fnilLReading l.Nodes.toNat), trivial⟩) ?_
    refine x_r [(2, .new 16)] [1, 2, 5] [2, 13, 16, 8641] [I k, .ref 2 0, .arr 13] [some (bxLattice l), some (.oar [8641, 16] 1 ((List.replicate l.Nodes.toNat ([] : List Reading)).length) (fun q => bif Nat.beq q 0 then [.arr 16] else (oLReading 8641 (List.replicate l.Nodes.toNat ([] : List Reading))) q)), some (.arr 2 1 (litF [Sv (⟨#[]⟩ : ByteArray), I 0] 2)), some (tFLReading (List.replicate l.Nodes.toNat ([] : List Reading)))] [(0 : Int) ≤ 0 ∧ 0 < (((List.replicate l.Nodes.toNat ([] : List Reading)).length) : Int), 0 < (List.replicate l.Nodes.toNat ([] : List Reading)).length] ⟨⟨(by first | omega | (simp only [List.length_replicate, List.length_set]; omega)), (by first | omega | (simp only [List.length_replicate, List.length_set]; omega))⟩, (by first | omega | (simp only [List.length_replicate, List.length_set]; omega)), trivial⟩ ?_
    refine xe_then ?_
    refine x_seq ?_
    refine x_seq ?_
    refine x_putrow 13 16 8641 0 rfl rfl rfl ((by first | omega | (simp only [List.length_replicate, List.length_set]; omega))) (by first | exact Nat.le_refl _ | omega) (fun q _ => ⟨fun e => by subst e; simp only [Nat.beq_refl, cond_true], fun e => by simp only [beq_ne e, cond_false]; rfl⟩) (by kernel_rfl) ?_
    refine x_weak [] (T := [(1, I k), (2, .ref 2 0), (5, .arr 13)]) (O := [(2, bxLattice l), (13, tOLReading 8641 ((List.replicate l.Nodes.toNat ([] : List Reading)).set 0 ([(Reading.mk (⟨#[]⟩ : ByteArray) 0)]))), (8641, tFLReading ((List.replicate l.Nodes.toNat ([] : List Reading)).set 0 ([(Reading.mk (⟨#[]⟩ : ByteArray) 0)])))]) rfl (⟨.inl rfl, .inl rfl, .inl rfl, trivial⟩) (⟨.inl rfl, .inr ⟨rfl, rfl, (by simp), fun i hi => .inl rfl⟩, .inr (fputLReading ((by first | omega | (simp only [List.length_replicate, List.length_set]; omega))) (by first | rfl | (simp; done) | (simp; omega)) (fun i_ h_ => (show ∀ i_ : Nat, i_ < ([(Reading.mk (⟨#[]⟩ : ByteArray) 0)] : List Reading).length → (litF [Sv (⟨#[]⟩ : ByteArray), I 0] 2) i_ = (fReading ([(Reading.mk (⟨#[]⟩ : ByteArray) 0)])) i_ from fun i_ hi_ => (match i_, hi_ with | 0, _ => rfl | (i + 1), h => absurd h (by simp))) i_ (by first | exact h_ | (simpa using h_)))), trivial⟩) ?_
    refine x_r [] [1, 2, 5, 6] [2, 13, 8641] [I k, .ref 2 0, .arr 13, I 0] [some (bxLattice l), some (tOLReading 8641 ((List.replicate l.Nodes.toNat ([] : List Reading)).set 0 ([(Reading.mk (⟨#[]⟩ : ByteArray) 0)]))), some (tFLReading ((List.replicate l.Nodes.toNat ([] : List Reading)).set 0 ([(Reading.mk (⟨#[]⟩ : ByteArray) 0)])))] [] trivial ?_
    refine xe_then ?_
    refine x_block ?_
    refine x_loop (X := Int × (List (List Reading))) (fun x => mkS [(1, I k), (2, .ref 2 0), (5, .arr 13), (6, I x.1)] [(2, bxLattice l), (13, tOLReading 8641 x.2), (8641, tFLReading x.2)]) (fun x => (0 ≤ x.1 ∧ x.1 ≤ l.Nodes) ∧ (x.2 = tbN (frL k.toNat) pAny l (tb0 l) x.1.toNat) ∧ (okT l (1 + 4000 * x.1.toNat) x.2) ∧ True) (fun x => (l.Nodes - x.1).toNat) (0, ((List.replicate l.Nodes.toNat ([] : List Reading)).set 0 ([(Reading.mk (⟨#[]⟩ : ByteArray) 0)]))) rfl (show (0 ≤ (0 : Int) ∧ (0 : Int) ≤ l.Nodes) ∧ (((List.replicate l.Nodes.toNat ([] : List Reading)).set 0 ([(Reading.mk (⟨#[]⟩ : ByteArray) 0)])) = tbN (frL k.toNat) pAny l (tb0 l) (0 : Int).toNat) ∧ (okT l (1 + 4000 * (0 : Int).toNat) ((List.replicate l.Nodes.toNat ([] : List Reading)).set 0 ([(Reading.mk (⟨#[]⟩ : ByteArray) 0)]))) ∧ True from ⟨(by omega), (by rfl), (by exact okT_0 hl), trivial⟩) (fun x hI => ?_)
    obtain ⟨node, tb⟩ := x
    obtain ⟨hn0, htb, hok, _⟩ : (0 ≤ node ∧ node ≤ l.Nodes) ∧ (tb = tbN (frL k.toNat) pAny l (tb0 l) node.toNat) ∧ (okT l (1 + 4000 * node.toNat) tb) ∧ True := hI
    show XW _ _ _ _ (mkS [(1, I k), (2, .ref 2 0), (5, .arr 13), (6, I node)] [(2, bxLattice l), (13, tOLReading 8641 tb), (8641, tFLReading tb)]) _ _
    refine x_seq ?_
    refine x_seq ?_
    by_cases h1 : node < l.Nodes
    ·have hn : node.toNat < l.Nodes.toNat := by omega
     have hrw := (hok.2 _ hn).1
     have hT1 := okT_set (k := k.toNat) hok hn
     have hfl := frL_len k.toNat (at_ tb node.toNat)
     have hnn : (node + 1).toNat = node.toNat + 1 := by omega
     have htl := hok.1
     refine x_r [(3, .dec true)] [1, 2, 5, 6, 21] [2, 13, 8641] [I k, .ref 2 0, .arr 13, I node, Bv true] [some (bxLattice l), some (tOLReading 8641 tb), some (tFLReading tb)] [node < l.Nodes] ⟨h1, trivial⟩ ?_
     refine xe_then ?_
     refine x_true rfl ?_
     refine x_skip ?_
     refine xe_then ?_
     refine x_seq ?_
     refine x_block ?_
     refine x_seq ?_
     refine x_takerow 13 8621 8641 node.toNat rfl rfl ((by first | omega | (simp only [List.length_replicate, List.length_set]; omega))) (fun q _ => rfl) (by kernel_rfl) ?_
     refine x_weak [] (T := [(1, I k), (2, .ref 2 0), (5, .arr 13), (6, I node), (21, Bv true)]) (O := [(2, bxLattice l), (13, .oar [8621, 8641] 1 ((tb.set node.toNat ([] : List Reading)).length) (fun q => bif Nat.beq q node.toNat then [.arr 8621] else (oLReading 8641 (tb.set node.toNat ([] : List Reading))) q)), (8621, tAReading (at_ tb node.toNat)), (8641, tFLReading (tb.set node.toNat ([] : List Reading)))]) rfl (⟨.inl rfl, .inl rfl, .inl rfl, .inl rfl, .inl rfl, trivial⟩) (⟨.inl rfl, .inr ⟨rfl, rfl, (by first | rfl | (simp; done)), fun i hi => .inl (by dsimp only; cases Nat.beq i node.toNat <;> rfl)⟩, .inl rfl, .inr (fputLReading ((by first | omega | (simp only [List.length_replicate, List.length_set]; omega))) (by first | rfl | (simp; done) | (simp; omega)) (fun i_ h_ => absurd h_ (Nat.not_lt_zero _))), trivial⟩) ?_
     obtain ⟨list'_1, out_1, hx1_0, hc1⟩ := firstR_ok (at_ tb node.toNat) k (by omega) (by omega)
     have hout := hx1_0
     refine x_r [(5, .as (.arr 8621)), (7, .lend [(8621, tAReading (at_ tb node.toNat), tAReading list'_1)] [(8622, tAReading out_1)] [(true, .any), (true, .any)] false (.arr 8622))] [1, 2, 5, 6] [2, 13, 8621, 8622, 8641] [I k, .ref 2 0, .arr 13, I node] [some (bxLattice l), some (.oar [8621, 8641, 8622] 1 ((tb.set node.toNat ([] : List Reading)).length) (fun q => bif Nat.beq q node.toNat then spl ((fun q => bif Nat.beq q node.toNat then [.arr 8621] else (oLReading 8641 (tb.set node.toNat ([] : List Reading))) q) node.toNat) 0 [.arr 8622] else (fun q => bif Nat.beq q node.toNat then [.arr 8621] else (oLReading 8641 (tb.set node.toNat ([] : List Reading))) q) q)), some (tAReading list'_1), some (tAReading out_1), some (tFLReading (tb.set node.toNat ([] : List Reading)))] [(0 : Int) ≤ node ∧ node < (((tb.set node.toNat ([] : List Reading)).length) : Int), node.toNat < (tb.set node.toNat ([] : List Reading)).length ∧ List.drop 0 ((fun q => bif Nat.beq q node.toNat then [.arr 8621] else (oLReading 8641 (tb.set node.toNat ([] : List Reading))) q) node.toNat) = [.arr 8621], CallOK Tryz.prog 54 [.arr 8621, I k] (lookO [(8621, tAReading (at_ tb node.toNat))]) false (.arr 8622) (lookO [(8621, tAReading list'_1), (8622, tAReading out_1)]) ∧ (((tAReading (at_ tb node.toNat) : Ob) = tAReading (at_ tb node.toNat) ∨ obLe noOb true (tAReading (at_ tb node.toNat)) (tAReading (at_ tb node.toNat))) ∧ taggedO false (tAReading (at_ tb node.toNat))) ∧ True, (0 : Int) ≤ node ∧ node < (((tb.set node.toNat ([] : List Reading)).length) : Int), node.toNat < (tb.set node.toNat ([] : List Reading)).length] ⟨⟨(by first | first | omega | (simp only [List.length_replicate, List.length_set]; omega) | (simp only [List.length_set]; first | omega | (simp only [List.length_replicate, List.length_set]; omega))), (by first | first | omega | (simp only [List.length_replicate, List.length_set]; omega) | (simp only [List.length_set]; first | omega | (simp only [List.length_replicate, List.length_set]; omega)))⟩, ⟨(by first | first | omega | (simp only [List.length_replicate, List.length_set]; omega) | (simp only [List.length_set]; first | omega | (simp only [List.length_replicate, List.length_set]; omega))), (by simp only [Nat.beq_refl, cond_true]; rfl)⟩, ⟨hc1, ⟨.inl rfl, fun _ _ => tagcReading false _⟩, trivial⟩, ⟨(by first | first | omega | (simp only [List.length_replicate, List.length_set]; omega) | (simp only [List.length_set]; first | omega | (simp only [List.length_replicate, List.length_set]; omega))), (by first | first | omega | (simp only [List.length_replicate, List.length_set]; omega) | (simp only [List.length_set]; first | omega | (simp only [List.length_replicate, List.length_set]; omega)))⟩, (by first | first | omega | (simp only [List.length_replicate, List.length_set]; omega) | (simp only [List.length_set]; first | omega | (simp only [List.length_replicate, List.length_set]; omega))), trivial⟩ ?_
     refine xe_then ?_
     refine x_seq ?_
     refine x_putrow 13 8622 8641 node.toNat rfl rfl rfl ((by first | first | omega | (simp only [List.length_replicate, List.length_set]; omega) | (simp only [List.length_set]; first | omega | (simp only [List.length_replicate, List.length_set]; omega)))) (by first | exact Nat.le_refl _ | omega) (fun q _ => ⟨fun e => by subst e; simp only [Nat.beq_refl, cond_true]; rfl, fun e => by simp only [beq_ne e, cond_false]; rfl⟩) (by kernel_rfl) ?_
     refine x_weak [] (T := [(1, I k), (2, .ref 2 0), (5, .arr 13), (6, I node)]) (O := [(2, bxLattice l), (13, tOLReading 8641 ((tb.set node.toNat ([] : List Reading)).set node.toNat out_1)), (8621, tAReading list'_1), (8641, tFLReading ((tb.set node.toNat ([] : List Reading)).set node.toNat out_1))]) rfl (⟨.inl rfl, .inl rfl, .inl rfl, .inl rfl, trivial⟩) (⟨.inl rfl, .inr ⟨rfl, rfl, (by simp), fun i hi => .inl rfl⟩, .inl rfl, .inr (fputLReading ((by first | first | omega | (simp only [List.length_replicate, List.length_set]; omega) | (simp only [List.length_set]; first | omega | (simp only [List.length_replicate, List.length_set]; omega)))) (by first | rfl | (simp; done) | (simp; omega)) (fun i _ => rfl)), trivial⟩) ?_
     refine x_r [] [1, 2, 5, 6, 34, 35, 36] [2, 13, 8641] [I k, .ref 2 0, .arr 13, I node, slEdge false l.Edges, I (l.Edges.length : Int), I 0] [some (bxLattice l), some (tOLReading 8641 ((tb.set node.toNat ([] : List Reading)).set node.toNat out_1)), some (tFLReading ((tb.set node.toNat ([] : List Reading)).set node.toNat out_1))] [] trivial ?_
     refine xe_then ?_
     refine x_block ?_
     refine x_loop (X := Int × (List (List Reading))) (fun x => mkS [(1, I k), (2, .ref 2 0), (5, .arr 13), (6, I node), (34, slEdge false l.Edges), (35, I (l.Edges.length : Int)), (36, I x.1)] [(2, bxLattice l), (13, tOLReading 8641 x.2), (8641, tFLReading x.2)]) (fun x => (0 ≤ x.1 ∧ x.1 ≤ (l.Edges.length : Int)) ∧ (x.2 = tbE pAny l node.toNat (tb.set node.toNat (frL k.toNat (at_ tb node.toNat))) x.1.toNat) ∧ (okT l (1 + 4000 * node.toNat + 20 * x.1.toNat) x.2) ∧ ((at_ x.2 node.toNat).length ≤ 20) ∧ True) (fun x => ((l.Edges.length : Int) - x.1).toNat) (0, ((tb.set node.toNat ([] : List Reading)).set node.toNat out_1)) rfl (show (0 ≤ (0 : Int) ∧ (0 : Int) ≤ (l.Edges.length : Int)) ∧ (((tb.set node.toNat ([] : List Reading)).set node.toNat out_1) = tbE pAny l node.toNat (tb.set node.toNat (frL k.toNat (at_ tb node.toNat))) (0 : Int).toNat) ∧ (okT l (1 + 4000 * node.toNat + 20 * (0 : Int).toNat) ((tb.set node.toNat ([] : List Reading)).set node.toNat out_1)) ∧ ((at_ ((tb.set node.toNat ([] : List Reading)).set node.toNat out_1) node.toNat).length ≤ 20) ∧ True from ⟨(by omega), (by (rw [List.set_set, hout]; rfl)), (by (rw [List.set_set, hout]; exact okT_mono hT1 (by omega))), (by (rw [List.set_set, at_set_same (by rw [htl]; exact hn), hout]; omega)), trivial⟩) (fun x hI => ?_)
     obtain ⟨t36, tb2⟩ := x
     obtain ⟨hi0, htb2, hok2, hr20, _⟩ : (0 ≤ t36 ∧ t36 ≤ (l.Edges.length : Int)) ∧ (tb2 = tbE pAny l node.toNat (tb.set node.toNat (frL k.toNat (at_ tb node.toNat))) t36.toNat) ∧ (okT l (1 + 4000 * node.toNat + 20 * t36.toNat) tb2) ∧ ((at_ tb2 node.toNat).length ≤ 20) ∧ True := hI
     show XW _ _ _ _ (mkS [(1, I k), (2, .ref 2 0), (5, .arr 13), (6, I node), (34, slEdge false l.Edges), (35, I (l.Edges.length : Int)), (36, I t36)] [(2, bxLattice l), (13, tOLReading 8641 tb2), (8641, tFLReading tb2)]) _ _
     refine x_seq ?_
     by_cases h2 : t36 < (l.Edges.length : Int)
     ·have hi : t36.toNat < l.Edges.length := by omega
      have hed := hl.2.2.1 _ hi
      have he1 := hed.1
      have he2 := hed.2.1
      have he3 := lab_size hed.2.2
      have hii : (t36 + 1).toNat = t36.toNat + 1 := by omega
      have htl2 := hok2.1
      refine x_r [(0, .dec true)] [1, 2, 5, 6, 34, 35, 36, 37] [2, 13, 8641] [I k, .ref 2 0, .arr 13, I node, slEdge false l.Edges, I (l.Edges.length : Int), I t36, Bv true] [some (bxLattice l), some (tOLReading 8641 tb2), some (tFLReading tb2)] [t36 < (l.Edges.length : Int)] ⟨h2, trivial⟩ ?_
      refine xe_then ?_
      refine x_seq ?_
      refine x_true rfl ?_
      refine x_skip ?_
      refine xe_then ?_
      refine x_seq ?_
      refine x_block ?_
      refine xR [(2, .new 8)] [1, 2, 5, 6, 8, 34, 35, 36] [2, 8, 13, 8641] [I k, .ref 2 0, .arr 13, I node, .ref 8 0, slEdge false l.Edges, I (l.Edges.length : Int), I t36] [some (bxLattice l), some (bxEdge (at_ l.Edges t36.toNat)), some (tOLReading 8641 tb2), some (tFLReading tb2)] [(0 : Int) ≤ t36 ∧ t36 < (l.Edges.length : Int)] ⟨⟨(by first | omega | (simp only [List.length_replicate, List.length_set]; omega)), (by first | omega | (simp only [List.length_replicate, List.length_set]; omega))⟩, trivial⟩ ?_
      refine x_seq ?_
      refine x_seq ?_
      by_cases h3 : ((at_ l.Edges t36.toNat).From) = node
      ·have hff : (at_ l.Edges t36.toNat).From = ((node.toNat : Nat) : Int) := by omega
       have hfn : (at_ l.Edges t36.toNat).From.toNat = node.toNat := by omega
       refine x_r [(3, .dec false)] [1, 2, 5, 6, 8, 34, 35, 36, 43] [2, 8, 13, 8641] [I k, .ref 2 0, .arr 13, I node, .ref 8 0, slEdge false l.Edges, I (l.Edges.length : Int), I t36, Bv false] [some (bxLattice l), some (bxEdge (at_ l.Edges t36.toNat)), some (tOLReading 8641 tb2), some (tFLReading tb2)] [¬ (((at_ l.Edges t36.toNat).From) ≠ node)] ⟨(fun hq => hq h3), trivial⟩ ?_
       refine xe_then ?_
       refine x_false rfl ?_
       refine x_skip ?_
       refine xe_then ?_
       refine xR [] [1, 2, 5, 6, 8, 34, 35, 36, 47, 48, 49] [2, 8, 13, 8641] [I k, .ref 2 0, .arr 13, I node, .ref 8 0, slEdge false l.Edges, I (l.Edges.length : Int), I t36, .row 8641 node.toNat, I (((at_ tb2 node.toNat).length) : Int), I 0] [some (bxLattice l), some (bxEdge (at_ l.Edges t36.toNat)), some (tOLReading 8641 tb2), some (tFLReading tb2)] [(0 : Int) ≤ node ∧ node < (tb2.length : Int), node.toNat < tb2.length, node.toNat < tb2.length] ⟨⟨(by first | omega | (simp only [List.length_replicate, List.length_set]; omega)), (by first | omega | (simp only [List.length_replicate, List.length_set]; omega))⟩, (by first | omega | (simp only [List.length_replicate, List.length_set]; omega)), (by first | omega | (simp only [List.length_replicate, List.length_set]; omega)), trivial⟩ ?_
       refine x_block ?_
       refine x_loop (X := Int × (List (List Reading))) (fun x => mkS [(1, I k), (2, .ref 2 0), (5, .arr 13), (6, I node), (8, .ref 8 0), (34, slEdge false l.Edges), (35, I (l.Edges.length : Int)), (36, I t36), (47, .row 8641 node.toNat), (48, I (((at_ tb2 node.toNat).length) : Int)), (49, I x.1)] [(2, bxLattice l), (8, bxEdge (at_ l.Edges t36.toNat)), (13, tOLReading 8641 x.2), (8641, tFLReading x.2)]) (fun x => (0 ≤ x.1 ∧ x.1 ≤ ((at_ tb2 node.toNat).length : Int)) ∧ (x.2 = exT pAny tb2 (at_ l.Edges t36.toNat) node.toNat x.1.toNat) ∧ True) (fun x => (((at_ tb2 node.toNat).length : Int) - x.1).toNat) (0, tb2) rfl (show (0 ≤ (0 : Int) ∧ (0 : Int) ≤ ((at_ tb2 node.toNat).length : Int)) ∧ (tb2 = exT pAny tb2 (at_ l.Edges t36.toNat) node.toNat (0 : Int).toNat) ∧ True from ⟨(by omega), (by exact (exT_0 _ _ _ _).symm), trivial⟩) (fun x hI => ?_)
       obtain ⟨t49, tb3⟩ := x
       obtain ⟨hj0, htb3, _⟩ : (0 ≤ t49 ∧ t49 ≤ ((at_ tb2 node.toNat).length : Int)) ∧ (tb3 = exT pAny tb2 (at_ l.Edges t36.toNat) node.toNat t49.toNat) ∧ True := hI
       show XW _ _ _ _ (mkS [(1, I k), (2, .ref 2 0), (5, .arr 13), (6, I node), (8, .ref 8 0), (34, slEdge false l.Edges), (35, I (l.Edges.length : Int)), (36, I t36), (47, .row 8641 node.toNat), (48, I (((at_ tb2 node.toNat).length) : Int)), (49, I t49)] [(2, bxLattice l), (8, bxEdge (at_ l.Edges t36.toNat)), (13, tOLReading 8641 tb3), (8641, tFLReading tb3)]) _ _
       refine x_seq ?_
       by_cases h4 : t49 < (((at_ tb2 node.toNat).length) : Int)
       ·have hok3 := exT_ok (p := pAny) hok2 hed hff t49.toNat
        rw [← htb3] at hok3
        have htl3 := hok3.1
        have hsr := exT_src (p := pAny) (T := tb2) hff he1.2.1 t49.toNat
        rw [← htb3] at hsr
        have hjl : t49.toNat < (at_ tb2 node.toNat).length := by omega
        have hjl3 : t49.toNat < (at_ tb3 node.toNat).length := by rw [hsr]; exact hjl
        have hrd := (hok3.2 node.toNat hn).2 _ (at_mem hjl3)
        have hrd1 := hrd.1
        have hrd2 := hrd.2
        have hto := (hok3.2 (at_ l.Edges t36.toNat).To.toNat (by omega)).1
        have hjj : (t49 + 1).toNat = t49.toNat + 1 := by omega
        refine x_r [(0, .dec true)] [1, 2, 5, 6, 8, 34, 35, 36, 47, 48, 49, 50] [2, 8, 13, 8641] [I k, .ref 2 0, .arr 13, I node, .ref 8 0, slEdge false l.Edges, I (l.Edges.length : Int), I t36, .row 8641 node.toNat, I (((at_ tb2 node.toNat).length) : Int), I t49, Bv true] [some (bxLattice l), some (bxEdge (at_ l.Edges t36.toNat)), some (tOLReading 8641 tb3), some (tFLReading tb3)] [t49 < (((at_ tb2 node.toNat).length) : Int)] ⟨h4, trivial⟩ ?_
        refine xe_then ?_
        refine x_seq ?_
        refine x_true rfl ?_
        refine x_skip ?_
        refine xe_then ?_
        refine x_seq ?_
        refine x_block ?_
        refine xR [(2, .new 10)] [1, 2, 5, 6, 8, 10, 34, 35, 36, 47, 48, 49] [2, 8, 10, 13, 8641] [I k, .ref 2 0, .arr 13, I node, .ref 8 0, .ref 10 0, slEdge false l.Edges, I (l.Edges.length : Int), I t36, .row 8641 node.toNat, I (((at_ tb2 node.toNat).length) : Int), I t49] [some (bxLattice l), some (bxEdge (at_ l.Edges t36.toNat)), some (bxReading (at_ (at_ tb3 node.toNat) t49.toNat)), some (tOLReading 8641 tb3), some (tFLReading tb3)] [node.toNat < tb3.length ∧ (0 : Int) ≤ t49 ∧ t49 < (((at_ tb3 node.toNat).length) : Int), node.toNat < tb3.length ∧ t49.toNat < (at_ tb3 node.toNat).length] ⟨⟨(by first | omega | (simp only [List.length_replicate, List.length_set]; omega)), (by first | omega | (simp only [List.length_replicate, List.length_set]; omega)), (by first | omega | (simp only [List.length_replicate, List.length_set]; omega))⟩, ⟨(by first | omega | (simp only [List.length_replicate, List.length_set]; omega)), (by first | omega | (simp only [List.length_replicate, List.length_set]; omega))⟩, trivial⟩ ?_
        refine x_takerowR 13 8502 8641 (((at_ l.Edges t36.toNat).To).toNat) rfl rfl ((by first | omega | (simp only [List.length_replicate, List.length_set]; omega))) (fun q _ => rfl) (by kernel_rfl) ⟨trivial, trivial, trivial, trivial, trivial, trivial, trivial, trivial, trivial, (show _ ≠ _ from by omega), trivial, trivial, trivial⟩ ?_
        refine x_weak [] (T := [(1, I k), (2, .ref 2 0), (5, .arr 13), (6, I node), (8, .ref 8 0), (10, .ref 10 0), (34, slEdge false l.Edges), (35, I (l.Edges.length : Int)), (36, I t36), (47, .row 8641 node.toNat), (48, I (((at_ tb2 node.toNat).length) : Int)), (49, I t49)]) (O := [(2, bxLattice l), (8, bxEdge (at_ l.Edges t36.toNat)), (10, bxReading (at_ (at_ tb3 node.toNat) t49.toNat)), (13, .oar [8502, 8641] 1 ((tb3.set (((at_ l.Edges t36.toNat).To).toNat) ([] : List Reading)).length) (fun q => bif Nat.beq q (((at_ l.Edges t36.toNat).To).toNat) then [.arr 8502] else (oLReading 8641 (tb3.set (((at_ l.Edges t36.toNat).To).toNat) ([] : List Reading))) q)), (8502, tAReading (at_ tb3 (((at_ l.Edges t36.toNat).To).toNat))), (8641, tFLReading (tb3.set (((at_ l.Edges t36.toNat).To).toNat) ([] : List Reading)))]) rfl (⟨.inl rfl, .inl rfl, .inl rfl, .inl rfl, .inl rfl, .inl rfl, .inl rfl, .inl rfl, .inl rfl, .inl rfl, .inl rfl, .inl rfl, trivial⟩) (⟨.inl rfl, .inl rfl, .inl rfl, .inr ⟨rfl, rfl, (by first | rfl | (simp; done)), fun i hi => .inl (by dsimp only; cases Nat.beq i (((at_ l.Edges t36.toNat).To).toNat) <;> rfl)⟩, .inl rfl, .inr (fputLReading ((by first | omega | (simp only [List.length_replicate, List.length_set]; omega))) (by first | rfl | (simp; done) | (simp; omega)) (fun i_ h_ => absurd h_ (Nat.not_lt_zero _))), trivial⟩) ?_
        refine x_r [(7, .as (.arr 8502)), (19, .new 72), (20, .new 73)] [1, 2, 5, 6, 8, 34, 35, 36, 47, 48, 49] [2, 8, 13, 73, 8641] [I k, .ref 2 0, .arr 13, I node, .ref 8 0, slEdge false l.Edges, I (l.Edges.length : Int), I t36, .row 8641 node.toNat, I (((at_ tb2 node.toNat).length) : Int), I t49] [some (bxLattice l), some (bxEdge (at_ l.Edges t36.toNat)), some (.oar [8502, 8641, 73] 1 ((tb3.set (((at_ l.Edges t36.toNat).To).toNat) ([] : List Reading)).length) (fun q => bif Nat.beq q (((at_ l.Edges t36.toNat).To).toNat) then spl ((fun q => bif Nat.beq q (((at_ l.Edges t36.toNat).To).toNat) then [.arr 8502] else (oLReading 8641 (tb3.set (((at_ l.Edges t36.toNat).To).toNat) ([] : List Reading))) q) (((at_ l.Edges t36.toNat).To).toNat)) 0 [.arr 73] else (fun q => bif Nat.beq q (((at_ l.Edges t36.toNat).To).toNat) then [.arr 8502] else (oLReading 8641 (tb3.set (((at_ l.Edges t36.toNat).To).toNat) ([] : List Reading))) q) q)), some (.arr 2 (((at_ tb3 (((at_ l.Edges t36.toNat).To).toNat)).length) + 1) (catF ((at_ tb3 (((at_ l.Edges t36.toNat).To).toNat)).length) (fReading (at_ tb3 (((at_ l.Edges t36.toNat).To).toNat))) (litF [Sv (((at_ (at_ tb3 node.toNat) t49.toNat).Text) ++ ((at_ l.Edges t36.toNat).Label)), I (((at_ (at_ tb3 node.toNat) t49.toNat).Cost) + ((at_ l.Edges t36.toNat).Cost))] 2))), some (tFLReading (tb3.set (((at_ l.Edges t36.toNat).To).toNat) ([] : List Reading)))] [(0 : Int) ≤ ((at_ l.Edges t36.toNat).To) ∧ ((at_ l.Edges t36.toNat).To) < (((tb3.set (((at_ l.Edges t36.toNat).To).toNat) ([] : List Reading)).length) : Int), ((at_ l.Edges t36.toNat).To).toNat < (tb3.set (((at_ l.Edges t36.toNat).To).toNat) ([] : List Reading)).length ∧ List.drop 0 ((fun q => bif Nat.beq q (((at_ l.Edges t36.toNat).To).toNat) then [.arr 8502] else (oLReading 8641 (tb3.set (((at_ l.Edges t36.toNat).To).toNat) ([] : List Reading))) q) (((at_ l.Edges t36.toNat).To).toNat)) = [.arr 8502], ((at_ (at_ tb3 node.toNat) t49.toNat).Text).size + ((at_ l.Edges t36.toNat).Label).size ≤ 9223372036854775807, inR .i64 (((at_ (at_ tb3 node.toNat) t49.toNat).Cost) + ((at_ l.Edges t36.toNat).Cost)), (((at_ tb3 (((at_ l.Edges t36.toNat).To).toNat)).length) + 1) * 24 ≤ 140737488355328, (0 : Int) ≤ ((at_ l.Edges t36.toNat).To) ∧ ((at_ l.Edges t36.toNat).To) < (((tb3.set (((at_ l.Edges t36.toNat).To).toNat) ([] : List Reading)).length) : Int), ((at_ l.Edges t36.toNat).To).toNat < (tb3.set (((at_ l.Edges t36.toNat).To).toNat) ([] : List Reading)).length] ⟨⟨(by first | first | omega | (simp only [List.length_replicate, List.length_set]; omega) | (simp only [List.length_set]; first | omega | (simp only [List.length_replicate, List.length_set]; omega))), (by first | first | omega | (simp only [List.length_replicate, List.length_set]; omega) | (simp only [List.length_set]; first | omega | (simp only [List.length_replicate, List.length_set]; omega)))⟩, ⟨(by first | first | omega | (simp only [List.length_replicate, List.length_set]; omega) | (simp only [List.length_set]; first | omega | (simp only [List.length_replicate, List.length_set]; omega))), (by simp only [Nat.beq_refl, cond_true]; rfl)⟩, (by first | omega | (simp only [List.length_replicate, List.length_set]; omega)), (inR_i64 (by first | omega | (simp only [List.length_replicate, List.length_set]; omega)) (by first | omega | (simp only [List.length_replicate, List.length_set]; omega))), (by first | omega | (simp only [List.length_replicate, List.length_set]; omega)), ⟨(by first | first | omega | (simp only [List.length_replicate, List.length_set]; omega) | (simp only [List.length_set]; first | omega | (simp only [List.length_replicate, List.length_set]; omega))), (by first | first | omega | (simp only [List.length_replicate, List.length_set]; omega) | (simp only [List.length_set]; first | omega | (simp only [List.length_replicate, List.length_set]; omega)))⟩, (by first | first | omega | (simp only [List.length_replicate, List.length_set]; omega) | (simp only [List.length_set]; first | omega | (simp only [List.length_replicate, List.length_set]; omega))), trivial⟩ ?_
        refine xe_block 5 ?_
        refine xe_then ?_
        refine x_putrowR 13 73 8641 (((at_ l.Edges t36.toNat).To).toNat) rfl rfl rfl ((by first | first | omega | (simp only [List.length_replicate, List.length_set]; omega) | (simp only [List.length_set]; first | omega | (simp only [List.length_replicate, List.length_set]; omega)))) (by first | exact Nat.le_refl _ | omega) (fun q _ => ⟨fun e => by subst e; simp only [Nat.beq_refl, cond_true]; rfl, fun e => by simp only [beq_ne e, cond_false]; rfl⟩) (by kernel_rfl) ⟨trivial, trivial, trivial, trivial, trivial, trivial, trivial, trivial, (show _ ≠ _ from by omega), trivial, trivial, trivial⟩ ?_
        refine x_weak [] (T := [(1, I k), (2, .ref 2 0), (5, .arr 13), (6, I node), (8, .ref 8 0), (34, slEdge false l.Edges), (35, I (l.Edges.length : Int)), (36, I t36), (47, .row 8641 node.toNat), (48, I (((at_ tb2 node.toNat).length) : Int)), (49, I t49)]) (O := [(2, bxLattice l), (8, bxEdge (at_ l.Edges t36.toNat)), (13, tOLReading 8641 ((tb3.set (((at_ l.Edges t36.toNat).To).toNat) ([] : List Reading)).set (((at_ l.Edges t36.toNat).To).toNat) ((at_ tb3 (((at_ l.Edges t36.toNat).To).toNat)) ++ [(Reading.mk (((at_ (at_ tb3 node.toNat) t49.toNat).Text) ++ ((at_ l.Edges t36.toNat).Label)) (((at_ (at_ tb3 node.toNat) t49.toNat).Cost) + ((at_ l.Edges t36.toNat).Cost)))]))), (8641, tFLReading ((tb3.set (((at_ l.Edges t36.toNat).To).toNat) ([] : List Reading)).set (((at_ l.Edges t36.toNat).To).toNat) ((at_ tb3 (((at_ l.Edges t36.toNat).To).toNat)) ++ [(Reading.mk (((at_ (at_ tb3 node.toNat) t49.toNat).Text) ++ ((at_ l.Edges t36.toNat).Label)) (((at_ (at_ tb3 node.toNat) t49.toNat).Cost) + ((at_ l.Edges t36.toNat).Cost)))])))]) rfl (⟨.inl rfl, .inl rfl, .inl rfl, .inl rfl, .inl rfl, .inl rfl, .inl rfl, .inl rfl, .inl rfl, .inl rfl, .inl rfl, trivial⟩) (⟨.inl rfl, .inl rfl, .inr ⟨rfl, rfl, (by simp), fun i hi => .inl rfl⟩, .inr (fputLReading ((by first | first | omega | (simp only [List.length_replicate, List.length_set]; omega) | (simp only [List.length_set]; first | omega | (simp only [List.length_replicate, List.length_set]; omega)))) (by first | rfl | (simp; done) | (simp; omega)) (fun i_ h_ => (show ∀ i_ : Nat, i_ < (((at_ tb3 (((at_ l.Edges t36.toNat).To).toNat)) ++ [(Reading.mk (((at_ (at_ tb3 node.toNat) t49.toNat).Text) ++ ((at_ l.Edges t36.toNat).Label)) (((at_ (at_ tb3 node.toNat) t49.toNat).Cost) + ((at_ l.Edges t36.toNat).Cost)))]) : List Reading).length → (catF ((at_ tb3 (((at_ l.Edges t36.toNat).To).toNat)).length) (fReading (at_ tb3 (((at_ l.Edges t36.toNat).To).toNat))) (litF [Sv (((at_ (at_ tb3 node.toNat) t49.toNat).Text) ++ ((at_ l.Edges t36.toNat).Label)), I (((at_ (at_ tb3 node.toNat) t49.toNat).Cost) + ((at_ l.Edges t36.toNat).Cost))] 2)) i_ = (fReading ((at_ tb3 (((at_ l.Edges t36.toNat).To).toNat)) ++ [(Reading.mk (((at_ (at_ tb3 node.toNat) t49.toNat).Text) ++ ((at_ l.Edges t36.toNat).Label)) (((at_ (at_ tb3 node.toNat) t49.toNat).Cost) + ((at_ l.Edges t36.toNat).Cost)))])) i_ from fun i_ hi_ => (cat_snoc (enc := cReading) (xs := (at_ tb3 (((at_ l.Edges t36.toNat).To).toNat))) rfl i_ hi_)) i_ (by first | exact h_ | (simpa using h_)))), trivial⟩) ?_
        refine x_r [] [1, 2, 5, 6, 8, 34, 35, 36, 47, 48, 49] [2, 8, 13, 8641] [I k, .ref 2 0, .arr 13, I node, .ref 8 0, slEdge false l.Edges, I (l.Edges.length : Int), I t36, .row 8641 node.toNat, I (((at_ tb2 node.toNat).length) : Int), I (t49 + 1)] [some (bxLattice l), some (bxEdge (at_ l.Edges t36.toNat)), some (tOLReading 8641 ((tb3.set (((at_ l.Edges t36.toNat).To).toNat) ([] : List Reading)).set (((at_ l.Edges t36.toNat).To).toNat) ((at_ tb3 (((at_ l.Edges t36.toNat).To).toNat)) ++ [(Reading.mk (((at_ (at_ tb3 node.toNat) t49.toNat).Text) ++ ((at_ l.Edges t36.toNat).Label)) (((at_ (at_ tb3 node.toNat) t49.toNat).Cost) + ((at_ l.Edges t36.toNat).Cost)))]))), some (tFLReading ((tb3.set (((at_ l.Edges t36.toNat).To).toNat) ([] : List Reading)).set (((at_ l.Edges t36.toNat).To).toNat) ((at_ tb3 (((at_ l.Edges t36.toNat).To).toNat)) ++ [(Reading.mk (((at_ (at_ tb3 node.toNat) t49.toNat).Text) ++ ((at_ l.Edges t36.toNat).Label)) (((at_ (at_ tb3 node.toNat) t49.toNat).Cost) + ((at_ l.Edges t36.toNat).Cost)))])))] [inR .i64 (t49 + 1)] ⟨(inR_i64 (by first | omega | (simp only [List.length_replicate, List.length_set]; omega)) (by first | omega | (simp only [List.length_replicate, List.length_set]; omega))), trivial⟩ ?_
        exact xe_again ((t49 + 1), ((tb3.set (((at_ l.Edges t36.toNat).To).toNat) ([] : List Reading)).set (((at_ l.Edges t36.toNat).To).toNat) ((at_ tb3 (((at_ l.Edges t36.toNat).To).toNat)) ++ [(Reading.mk (((at_ (at_ tb3 node.toNat) t49.toNat).Text) ++ ((at_ l.Edges t36.toNat).Label)) (((at_ (at_ tb3 node.toNat) t49.toNat).Cost) + ((at_ l.Edges t36.toNat).Cost)))]))) rfl (show (0 ≤ (t49 + 1) ∧ (t49 + 1) ≤ ((at_ tb2 node.toNat).length : Int)) ∧ (((tb3.set (((at_ l.Edges t36.toNat).To).toNat) ([] : List Reading)).set (((at_ l.Edges t36.toNat).To).toNat) ((at_ tb3 (((at_ l.Edges t36.toNat).To).toNat)) ++ [(Reading.mk (((at_ (at_ tb3 node.toNat) t49.toNat).Text) ++ ((at_ l.Edges t36.toNat).Label)) (((at_ (at_ tb3 node.toNat) t49.toNat).Cost) + ((at_ l.Edges t36.toNat).Cost)))])) = exT pAny tb2 (at_ l.Edges t36.toNat) node.toNat (t49 + 1).toNat) ∧ True from ⟨(by omega), (by (rw [hjj, ← exT_y (p := pAny) (by rw [htl2]; omega) hjl rfl, ← htb3, ← hsr]; (try rw [List.set_set]); rfl)), trivial⟩) (by first | (show ((((at_ tb2 node.toNat).length : Int) - (t49 + 1)).toNat : Nat) < (((at_ tb2 node.toNat).length : Int) - t49).toNat; omega) | (dsimp only; omega))
       have hje : t49.toNat = (at_ tb2 node.toNat).length := by omega
       rw [hje] at htb3
       have hok3 := exT_ok (p := pAny) hok2 hed hff (at_ tb2 node.toNat).length
       rw [← htb3] at hok3
       refine x_r [(0, .dec false)] [1, 2, 5, 6, 8, 34, 35, 36, 47, 48, 49, 50] [2, 8, 13, 8641] [I k, .ref 2 0, .arr 13, I node, .ref 8 0, slEdge false l.Edges, I (l.Edges.length : Int), I t36, .row 8641 node.toNat, I (((at_ tb2 node.toNat).length) : Int), I t49, Bv false] [some (bxLattice l), some (bxEdge (at_ l.Edges t36.toNat)), some (tOLReading 8641 tb3), some (tFLReading tb3)] [¬ (t49 < (((at_ tb2 node.toNat).length) : Int))] ⟨h4, trivial⟩ ?_
       refine xe_then ?_
       refine x_seq ?_
       refine x_false rfl ?_
       refine x_exit ?_
       refine xe_exit_then ?_
       refine xe_loop_exit ?_
       refine xe_exit_same ?_
       refine xe_block 3 ?_
       refine xe_then ?_
       refine x_r [] [1, 2, 5, 6, 34, 35, 36] [2, 13, 8641] [I k, .ref 2 0, .arr 13, I node, slEdge false l.Edges, I (l.Edges.length : Int), I (t36 + 1)] [some (bxLattice l), some (tOLReading 8641 tb3), some (tFLReading tb3)] [inR .i64 (t36 + 1)] ⟨(inR_i64 (by first | omega | (simp only [List.length_replicate, List.length_set]; omega)) (by first | omega | (simp only [List.length_replicate, List.length_set]; omega))), trivial⟩ ?_
       exact xe_again ((t36 + 1), tb3) rfl (show (0 ≤ (t36 + 1) ∧ (t36 + 1) ≤ (l.Edges.length : Int)) ∧ (tb3 = tbE pAny l node.toNat (tb.set node.toNat (frL k.toNat (at_ tb node.toNat))) (t36 + 1).toNat) ∧ (okT l (1 + 4000 * node.toNat + 20 * (t36 + 1).toNat) tb3) ∧ ((at_ tb3 node.toNat).length ≤ 20) ∧ True from ⟨(by omega), (by first | (rw [hii, ← tbE_y hff, ← htb2]; exact htb3) | (rw [hii, ← tbE_n hff]; exact htb2)), (by first | exact okT_mono hok3 (by omega) | exact okT_mono hok2 (by omega)), (by first | (rw [htb3, exT_src hff he1.2.1]; exact hr20) | exact hr20), trivial⟩) (by first | (show (((l.Edges.length : Int) - (t36 + 1)).toNat : Nat) < ((l.Edges.length : Int) - t36).toNat; omega) | (dsimp only; omega))
      have hff : ¬ (at_ l.Edges t36.toNat).From = ((node.toNat : Nat) : Int) := by omega
      refine x_r [(3, .dec true)] [1, 2, 5, 6, 8, 34, 35, 36, 43] [2, 8, 13, 8641] [I k, .ref 2 0, .arr 13, I node, .ref 8 0, slEdge false l.Edges, I (l.Edges.length : Int), I t36, Bv true] [some (bxLattice l), some (bxEdge (at_ l.Edges t36.toNat)), some (tOLReading 8641 tb2), some (tFLReading tb2)] [((at_ l.Edges t36.toNat).From) ≠ node] ⟨h3, trivial⟩ ?_
      refine xe_then ?_
      refine x_true rfl ?_
      refine x_exit ?_
      refine xe_exit_then ?_
      refine xe_exit_same ?_
      refine xe_then ?_
      refine x_r [] [1, 2, 5, 6, 34, 35, 36] [2, 13, 8641] [I k, .ref 2 0, .arr 13, I node, slEdge false l.Edges, I (l.Edges.length : Int), I (t36 + 1)] [some (bxLattice l), some (tOLReading 8641 tb2), some (tFLReading tb2)] [inR .i64 (t36 + 1)] ⟨(inR_i64 (by first | omega | (simp only [List.length_replicate, List.length_set]; omega)) (by first | omega | (simp only [List.length_replicate, List.length_set]; omega))), trivial⟩ ?_
      exact xe_again ((t36 + 1), tb2) rfl (show (0 ≤ (t36 + 1) ∧ (t36 + 1) ≤ (l.Edges.length : Int)) ∧ (tb2 = tbE pAny l node.toNat (tb.set node.toNat (frL k.toNat (at_ tb node.toNat))) (t36 + 1).toNat) ∧ (okT l (1 + 4000 * node.toNat + 20 * (t36 + 1).toNat) tb2) ∧ ((at_ tb2 node.toNat).length ≤ 20) ∧ True from ⟨(by omega), (by first | (rw [hii, ← tbE_y hff, ← htb2]; exact htb3) | (rw [hii, ← tbE_n hff]; exact htb2)), (by first | exact okT_mono hok3 (by omega) | exact okT_mono hok2 (by omega)), (by first | (rw [htb3, exT_src hff he1.2.1]; exact hr20) | exact hr20), trivial⟩) (by first | (show (((l.Edges.length : Int) - (t36 + 1)).toNat : Nat) < ((l.Edges.length : Int) - t36).toNat; omega) | (dsimp only; omega))
     have hie : t36.toNat = l.Edges.length := by omega
     refine x_r [(0, .dec false)] [1, 2, 5, 6, 34, 35, 36, 37] [2, 13, 8641] [I k, .ref 2 0, .arr 13, I node, slEdge false l.Edges, I (l.Edges.length : Int), I t36, Bv false] [some (bxLattice l), some (tOLReading 8641 tb2), some (tFLReading tb2)] [¬ (t36 < (l.Edges.length : Int))] ⟨h2, trivial⟩ ?_
     refine xe_then ?_
     refine x_seq ?_
     refine x_false rfl ?_
     refine x_exit ?_
     refine xe_exit_then ?_
     refine xe_loop_exit ?_
     refine xe_exit_same ?_
     refine xe_block 1 ?_
     refine xe_then ?_
     refine x_r [] [1, 2, 5, 6] [2, 13, 8641] [I k, .ref 2 0, .arr 13, I (node + 1)] [some (bxLattice l), some (tOLReading 8641 tb2), some (tFLReading tb2)] [inR .i64 (node + 1)] ⟨(inR_i64 (by first | omega | (simp only [List.length_replicate, List.length_set]; omega)) (by first | omega | (simp only [List.length_replicate, List.length_set]; omega))), trivial⟩ ?_
     exact xe_again ((node + 1), tb2) rfl (show (0 ≤ (node + 1) ∧ (node + 1) ≤ l.Nodes) ∧ (tb2 = tbN (frL k.toNat) pAny l (tb0 l) (node + 1).toNat) ∧ (okT l (1 + 4000 * (node + 1).toNat) tb2) ∧ True from ⟨(by omega), (by (rw [hnn, htb2, hie, htb]; rfl)), (by exact okT_mono hok2 (by omega)), trivial⟩) (by first | (show ((l.Nodes - (node + 1)).toNat : Nat) < (l.Nodes - node).toNat; omega) | (dsimp only; omega))
    have hne : node.toNat = l.Nodes.toNat := by omega
    have hlast : (l.Nodes - 1).toNat < l.Nodes.toNat := by omega
    have htl := hok.1
    have hrl := (hok.2 _ hlast).1
    refine x_r [(3, .dec false)] [1, 2, 5, 6, 21] [2, 13, 8641] [I k, .ref 2 0, .arr 13, I node, Bv false] [some (bxLattice l), some (tOLReading 8641 tb), some (tFLReading tb)] [¬ (node < l.Nodes)] ⟨h1, trivial⟩ ?_
    refine xe_then ?_
    refine x_false rfl ?_
    refine x_exit ?_
    refine xe_exit_then ?_
    refine xe_loop_exit ?_
    refine xe_exit_same ?_
    refine xe_then ?_
    refine x_seq ?_
    refine x_weak [] (T := [(1, I k), (2, .ref 2 0), (5, .arr 13), (6, I node), (21, Bv false)]) (O := [(2, bxLattice l), (13, .oar [8641] 1 tb.length (fLReading true tb))]) rfl (⟨.inl rfl, .inl rfl, .inl rfl, .inl rfl, .inl rfl, trivial⟩) (⟨.inl rfl, .inr ⟨rfl, rfl, rfl, fun i hi => .inr (oleLReading true _ rfl i hi)⟩, trivial⟩) ?_
    refine x_r [] [4] [] [slReading true (at_ tb ((l.Nodes - 1).toNat))] [] [inR .i64 (l.Nodes - 1), (0 : Int) ≤ (l.Nodes - 1) ∧ (l.Nodes - 1) < (tb.length : Int), (l.Nodes - 1).toNat < tb.length] ⟨(inR_i64 (by first | omega | (simp only [List.length_replicate, List.length_set]; omega)) (by first | omega | (simp only [List.length_replicate, List.length_set]; omega))), ⟨(by first | omega | (simp only [List.length_replicate, List.length_set]; omega)), (by first | omega | (simp only [List.length_replicate, List.length_set]; omega))⟩, (by first | omega | (simp only [List.length_replicate, List.length_set]; omega)), trivial⟩ ?_
    refine xe_then ?_
    refine x_ret ?_
    refine xe_end (at_ tb ((l.Nodes - 1).toNat)) (show ((at_ tb ((l.Nodes - 1).toNat)) = bestL k.toNat l) ∧ (True) from ⟨(by (rw [htb, hne]; rfl)), trivial⟩) (trivial) (slReading true (at_ tb ((l.Nodes - 1).toNat))) (by kernel_rfl) (.inl rfl) (fun _ => rfl) (fun _ => (tagReading true _))
  obtain ⟨v, ⟨hh0, _⟩, hc⟩ := hh
  exact ⟨v, hh0, hc⟩



-- impl.BestReadings
theorem BestReadings_ok (l : Lattice) (k : Int) (hl : okLat l) (hk : 1 ≤ k ∧ k ≤ 20) : ∃ (v : List Reading) (c : Int), (v = bestL k.toNat l) ∧ (c = 0) ∧ Con Tryz.prog 9 [agLattice l, I k] true (.tup [slReading true v, I c]) := by
  have hh : ∃ r : (List Reading) × Int, ((r.1 = bestL k.toNat l) ∧ (r.2 = 0) ∧ (True)) ∧ CallOK Tryz.prog 9 [agLattice l, I k] (lookO []) true (.tup [slReading true r.1, I r.2]) (lookO []) := by
    refine fn_okX (Φ := fun r : (List Reading) × Int => (r.1 = bestL k.toNat l) ∧ (r.2 = 0) ∧ (True)) [] (fun r => []) (fn := Tryz.f9) (nt := 15) Tryz.func9 rfl rfl (args := [agLattice l, I k]) rfl (allcons (.inl ⟨rfl, by simp [tagged, taggedL, tagEdge]⟩) (allcons (.inl ⟨rfl, trivial⟩) allnil)) (res := fun r => .tup [slReading true r.1, I r.2]) ?_
    refine xR [(0, .new 2)] [1, 2] [2] [I k, .ref 2 0] [some (bxLattice l)] [] trivial ?_
    refine x_seq ?_
    refine xR [(1, .call [(true, .any)] true (Bv true))] [1, 2, 8] [2] [I k, .ref 2 0, Bv false] [some (bxLattice l)] [Con Tryz.prog 39 [agLattice l] true (Bv true) ∧ True] ⟨⟨(ValidLattice_ok l hl), trivial⟩, trivial⟩ ?_
    refine x_false rfl ?_
    refine x_skip ?_
    refine xe_then ?_
    refine x_seq ?_
    refine xR [(1, .call [(true, .any), (true, .any), (true, .any)] true (Bv true))] [1, 2, 11] [2] [I k, .ref 2 0, Bv false] [some (bxLattice l)] [Con Tryz.prog 40 [I k, I 1, I 20] true (Bv true) ∧ True] ⟨⟨(con_bool (inB_iff.2 hk) (within_ok k 1 20)), trivial⟩, trivial⟩ ?_
    refine x_false rfl ?_
    refine x_skip ?_
    refine xe_then ?_
    refine x_seq ?_
    obtain ⟨v_1, hx1_0, hc1⟩ := bestR_ok l k hl hk
    have hbl : v_1 = bestL k.toNat l := hx1_0
    refine x_r [(2, .call [(true, .any), (true, .any)] true (slReading true v_1))] [4, 5] [] [slReading true v_1, I 0] [] [Con Tryz.prog 41 [agLattice l, I k] true (slReading true v_1) ∧ True] ⟨⟨hc1, trivial⟩, trivial⟩ ?_
    refine xe_then ?_
    refine x_ret ?_
    refine xe_end (v_1, 0) (show (v_1 = bestL k.toNat l) ∧ (0 = 0) ∧ (True) from ⟨(by exact hbl), (by rfl), trivial⟩) (trivial) (.tup [slReading true v_1, I 0]) (by kernel_rfl) (.inl rfl) (fun _ => rfl) (fun _ => (by simp [tagged, taggedL, tagReading]))
  obtain ⟨⟨v, c⟩, ⟨hh0, hh1, _⟩, hc⟩ := hh
  exact ⟨v, c, hh0, hh1, hc⟩



-- impl.BestReading
theorem BestReading_ok (l : Lattice) (hl : okLat l) : ∃ (v : Reading) (c : Int), ((c = 0 ∧ 0 < (bestL 1 l).length ∧ v = at_ (bestL 1 l) 0) ∨ (c = 3 ∧ (bestL 1 l).length = 0)) ∧ Con Tryz.prog 10 [agLattice l] true (.tup [agReading v, I c]) := by
  have hh : ∃ r : Reading × Int, (((r.2 = 0 ∧ 0 < (bestL 1 l).length ∧ r.1 = at_ (bestL 1 l) 0) ∨ (r.2 = 3 ∧ (bestL 1 l).length = 0)) ∧ (True)) ∧ CallOK Tryz.prog 10 [agLattice l] (lookO []) true (.tup [agReading r.1, I r.2]) (lookO []) := by
    refine fn_okX (Φ := fun r : Reading × Int => ((r.2 = 0 ∧ 0 < (bestL 1 l).length ∧ r.1 = at_ (bestL 1 l) 0) ∨ (r.2 = 3 ∧ (bestL 1 l).length = 0)) ∧ (True)) [] (fun r => []) (fn := Tryz.f10) (nt := 18) Tryz.func10 rfl rfl (args := [agLattice l]) rfl (allcons (.inl ⟨rfl, by simp [tagged, taggedL, tagEdge]⟩) allnil) (res := fun r => .tup [agReading r.1, I r.2]) ?_
    refine xR [(0, .new 1), (1, .new 2)] [1, 2] [1, 2] [.ref 1 0, .ref 2 0] [some (bxLattice l), some (.box [Sv (⟨#[]⟩ : ByteArray), I 0])] [] trivial ?_
    refine x_seq ?_
    refine xR [(1, .call [(true, .any)] true (Bv true))] [1, 2, 7] [1, 2] [.ref 1 0, .ref 2 0, Bv false] [some (bxLattice l), some (.box [Sv (⟨#[]⟩ : ByteArray), I 0])] [Con Tryz.prog 39 [agLattice l] true (Bv true) ∧ True] ⟨⟨(ValidLattice_ok l hl), trivial⟩, trivial⟩ ?_
    refine x_false rfl ?_
    refine x_skip ?_
    refine xe_then ?_
    refine x_seq ?_
    obtain ⟨v_1, hx1_0, hc1⟩ := bestR_ok l 1 hl (by omega)
    have hbl : v_1 = bestL 1 l := hx1_0
    refine x_r [(1, .call [(true, .any), (true, .any)] true (slReading true v_1))] [2, 4] [2] [.ref 2 0, slReading true v_1] [some (.box [Sv (⟨#[]⟩ : ByteArray), I 0])] [Con Tryz.prog 41 [agLattice l, I 1] true (slReading true v_1) ∧ True] ⟨⟨hc1, trivial⟩, trivial⟩ ?_
    refine xe_then ?_
    refine x_seq ?_
    refine x_seq ?_
    by_cases h1 : (v_1.length : Int) = 0
    ·refine x_r [(2, .dec true)] [2, 4, 13] [2] [.ref 2 0, slReading true v_1, Bv true] [some (.box [Sv (⟨#[]⟩ : ByteArray), I 0])] [(v_1.length : Int) = 0] ⟨h1, trivial⟩ ?_
     refine xe_then ?_
     refine x_true rfl ?_
     refine xR [] [2, 3] [2] [.ref 2 0, I 3] [some (.box [Sv (⟨#[]⟩ : ByteArray), I 0])] [] trivial ?_
     refine x_ret ?_
     refine xe_ret_then ?_
     refine xe_end ((Reading.mk (⟨#[]⟩ : ByteArray) 0), 3) (show ((3 = 0 ∧ 0 < (bestL 1 l).length ∧ (Reading.mk (⟨#[]⟩ : ByteArray) 0) = at_ (bestL 1 l) 0) ∨ (3 = 3 ∧ (bestL 1 l).length = 0)) ∧ (True) from ⟨(by first | exact .inr ⟨rfl, by rw [← hbl]; omega⟩ | exact .inl ⟨rfl, by rw [← hbl]; omega, by rw [← hbl]⟩), trivial⟩) (trivial) (.tup [.agg [Sv (⟨#[]⟩ : ByteArray), I 0], I 3]) (by kernel_rfl) (.inl rfl) (fun _ => rfl) (fun _ => (by simp [tagged, taggedL]))
    refine x_r [(2, .dec false)] [2, 4, 13] [2] [.ref 2 0, slReading true v_1, Bv false] [some (.box [Sv (⟨#[]⟩ : ByteArray), I 0])] [¬ ((v_1.length : Int) = 0)] ⟨h1, trivial⟩ ?_
    refine xe_then ?_
    refine x_false rfl ?_
    refine x_skip ?_
    refine xe_then ?_
    refine xR [] [2, 3] [2] [.ref 2 0, I 0] [some (bxReading (at_ v_1 0))] [(0 : Int) ≤ 0 ∧ 0 < (v_1.length : Int)] ⟨⟨(by omega), (by omega)⟩, trivial⟩ ?_
    refine x_ret ?_
    refine xe_end ((at_ v_1 0), 0) (show ((0 = 0 ∧ 0 < (bestL 1 l).length ∧ (at_ v_1 0) = at_ (bestL 1 l) 0) ∨ (0 = 3 ∧ (bestL 1 l).length = 0)) ∧ (True) from ⟨(by first | exact .inr ⟨rfl, by rw [← hbl]; omega⟩ | exact .inl ⟨rfl, by rw [← hbl]; omega, by rw [← hbl]⟩), trivial⟩) (trivial) (.tup [agReading (at_ v_1 0), I 0]) (by kernel_rfl) (.inl rfl) (fun _ => rfl) (fun _ => (by simp [tagged, taggedL]))
  obtain ⟨⟨v, c⟩, ⟨hh0, _⟩, hc⟩ := hh
  exact ⟨v, c, hh0, hc⟩



-- impl.PathCount
theorem PathCount_ok (l : Lattice) (hl : okLat l) (hdg : degL l) : ∃ (v : Int) (c : Int), (v = ((at_ (allT l) (l.Nodes - 1).toNat).length : Int) ∧ v ≤ 15625) ∧ (c = 0) ∧ Con Tryz.prog 11 [agLattice l] true (.tup [I v, I c]) := by
  have hn20 := hl.1
  have hc := hl.2.1
  have hh : ∃ r : Int × Int, ((r.1 = ((at_ (allT l) (l.Nodes - 1).toNat).length : Int) ∧ r.1 ≤ 15625) ∧ (r.2 = 0) ∧ (True)) ∧ CallOK Tryz.prog 11 [agLattice l] (lookO []) true (.tup [I r.1, I r.2]) (lookO []) := by
    refine fn_okX (Φ := fun r : Int × Int => (r.1 = ((at_ (allT l) (l.Nodes - 1).toNat).length : Int) ∧ r.1 ≤ 15625) ∧ (r.2 = 0) ∧ (True)) [] (fun r => []) (fn := Tryz.f11) (nt := 62) Tryz.func11 rfl rfl (args := [agLattice l]) rfl (allcons (.inl ⟨rfl, by simp [tagged, taggedL, tagEdge]⟩) allnil) (res := fun r => .tup [I r.1, I r.2]) ?_
    refine xR [(0, .new 1)] [1] [1] [.ref 1 0] [some (bxLattice l)] [] trivial ?_
    refine x_seq ?_
    refine xR [(1, .call [(true, .any)] true (Bv true))] [1, 10] [1] [.ref 1 0, Bv false] [some (bxLattice l)] [Con Tryz.prog 39 [agLattice l] true (Bv true) ∧ True] ⟨⟨(ValidLattice_ok l hl), trivial⟩, trivial⟩ ?_
    refine x_false rfl ?_
    refine x_skip ?_
    refine xe_then ?_
    refine xR [(2, .new 13)] [1, 4] [1, 13] [.ref 1 0, .arr 13] [some (bxLattice l), some (.arr 1 l.Nodes.toNat (fun _ => [I 0]))] [(0 : Int) ≤ l.Nodes ∧ (l.Nodes : Int) ≤ l.Nodes ∧ (8 : Int) * l.Nodes ≤ 281474976710656 ∧ l.Nodes ≤ 9223372036854775807] ⟨⟨(by first | omega | (simp only [List.length_replicate, List.length_set]; omega)), (by first | omega | (simp only [List.length_replicate, List.length_set]; omega)), (by first | omega | (simp only [List.length_replicate, List.length_set]; omega)), (by first | omega | (simp only [List.length_replicate, List.length_set]; omega))⟩, trivial⟩ ?_
    refine x_seq ?_
    refine x_weak [] (T := [(1, .ref 1 0), (4, .arr 13)]) (O := [(1, bxLattice l), (13, tAI (List.replicate l.Nodes.toNat (0 : Int)))]) rfl (⟨.inl rfl, .inl rfl, trivial⟩) (⟨.inl rfl, .inr ⟨rfl, (by first | rfl | (simp; done) | (simp; omega) | omega), fun i_ hi_ => .inl (const_enc (enc := cI) rfl i_ hi_)⟩, trivial⟩) ?_
    refine x_r [] [1, 4] [1, 13] [.ref 1 0, .arr 13] [some (bxLattice l), some (.arr 1 ((List.replicate l.Nodes.toNat (0 : Int)).length) (fun q => bif Nat.beq q 0 then [I 1] else (fI (List.replicate l.Nodes.toNat (0 : Int))) q))] [(0 : Int) ≤ 0 ∧ 0 < (((List.replicate l.Nodes.toNat (0 : Int)).length) : Int), 0 < (List.replicate l.Nodes.toNat (0 : Int)).length] ⟨⟨(by first | omega | (simp only [List.length_replicate, List.length_set]; omega)), (by first | omega | (simp only [List.length_replicate, List.length_set]; omega))⟩, (by first | omega | (simp only [List.length_replicate, List.length_set]; omega)), trivial⟩ ?_
    refine xe_then ?_
    refine x_seq ?_
    refine xR [] [1, 4, 5] [1, 13] [.ref 1 0, .arr 13, I 0] [some (bxLattice l), some (.arr 1 ((List.replicate l.Nodes.toNat (0 : Int)).length) (fun q => bif Nat.beq q 0 then [I 1] else (fI (List.replicate l.Nodes.toNat (0 : Int))) q))] [] trivial ?_
    refine x_block ?_
    refine x_weak [] (T := [(1, .ref 1 0), (4, .arr 13), (5, I 0)]) (O := [(1, bxLattice l), (13, tAI ((List.replicate l.Nodes.toNat (0 : Int)).set 0 1))]) rfl (⟨.inl rfl, .inl rfl, .inl rfl, trivial⟩) (⟨.inl rfl, .inr ⟨rfl, (by first | rfl | (simp; done) | (simp; omega) | omega), fun i_ hi_ => .inl (upd_enc (enc := cI) rfl i_ hi_)⟩, trivial⟩) ?_
    refine x_loop (X := Int × (List Int)) (fun x => mkS [(1, .ref 1 0), (4, .arr 13), (5, I x.1)] [(1, bxLattice l), (13, tAI x.2)]) (fun x => (0 ≤ x.1 ∧ x.1 ≤ l.Nodes) ∧ (x.2 = pcV (tbN id pAny l (tb0 l) x.1.toNat)) ∧ True) (fun x => (l.Nodes - x.1).toNat) (0, ((List.replicate l.Nodes.toNat (0 : Int)).set 0 1)) rfl (show (0 ≤ (0 : Int) ∧ (0 : Int) ≤ l.Nodes) ∧ (((List.replicate l.Nodes.toNat (0 : Int)).set 0 1) = pcV (tbN id pAny l (tb0 l) (0 : Int).toNat)) ∧ True from ⟨(by omega), (by exact (pcV_0 hl).symm), trivial⟩) (fun x hI => ?_)
    obtain ⟨node, ws⟩ := x
    obtain ⟨hn0, hws, _⟩ : (0 ≤ node ∧ node ≤ l.Nodes) ∧ (ws = pcV (tbN id pAny l (tb0 l) node.toNat)) ∧ True := hI
    show XW _ _ _ _ (mkS [(1, .ref 1 0), (4, .arr 13), (5, I node)] [(1, bxLattice l), (13, tAI ws)]) _ _
    refine x_seq ?_
    refine x_seq ?_
    by_cases h1 : node < l.Nodes
    ·have hn : node.toNat < l.Nodes.toNat := by omega
     have hnn : (node + 1).toNat = node.toNat + 1 := by omega
     refine x_r [(3, .dec true)] [1, 4, 5, 19] [1, 13] [.ref 1 0, .arr 13, I node, Bv true] [some (bxLattice l), some (tAI ws)] [node < l.Nodes] ⟨h1, trivial⟩ ?_
     refine xe_then ?_
     refine x_true rfl ?_
     refine x_skip ?_
     refine xe_then ?_
     refine x_seq ?_
     refine x_block ?_
     refine xR [] [1, 4, 5, 23, 24, 25] [1, 13] [.ref 1 0, .arr 13, I node, slEdge false l.Edges, I (l.Edges.length : Int), I 0] [some (bxLattice l), some (tAI ws)] [] trivial ?_
     refine x_block ?_
     refine x_loop (X := Int × (List Int)) (fun x => mkS [(1, .ref 1 0), (4, .arr 13), (5, I node), (23, slEdge false l.Edges), (24, I (l.Edges.length : Int)), (25, I x.1)] [(1, bxLattice l), (13, tAI x.2)]) (fun x => (0 ≤ x.1 ∧ x.1 ≤ (l.Edges.length : Int)) ∧ (x.2 = pcV (tbE pAny l node.toNat (tbN id pAny l (tb0 l) node.toNat) x.1.toNat)) ∧ True) (fun x => ((l.Edges.length : Int) - x.1).toNat) (0, ws) rfl (show (0 ≤ (0 : Int) ∧ (0 : Int) ≤ (l.Edges.length : Int)) ∧ (ws = pcV (tbE pAny l node.toNat (tbN id pAny l (tb0 l) node.toNat) (0 : Int).toNat)) ∧ True from ⟨(by omega), (by exact hws), trivial⟩) (fun x hI => ?_)
     obtain ⟨t25, ws2⟩ := x
     obtain ⟨hi0, hws2, _⟩ : (0 ≤ t25 ∧ t25 ≤ (l.Edges.length : Int)) ∧ (ws2 = pcV (tbE pAny l node.toNat (tbN id pAny l (tb0 l) node.toNat) t25.toNat)) ∧ True := hI
     show XW _ _ _ _ (mkS [(1, .ref 1 0), (4, .arr 13), (5, I node), (23, slEdge false l.Edges), (24, I (l.Edges.length : Int)), (25, I t25)] [(1, bxLattice l), (13, tAI ws2)]) _ _
     refine x_seq ?_
     by_cases h2 : t25 < (l.Edges.length : Int)
     ·have hi : t25.toNat < l.Edges.length := by omega
      have hed := hl.2.2.1 _ hi
      have he1 := hed.1
      have hii : (t25 + 1).toNat = t25.toNat + 1 := by omega
      have hl0 := tbN_ok (F := id) (p := pAny) hl (tb0_len l) node.toNat (by omega)
      have hl1 := tbE_ok (p := pAny) hl (n := node.toNat) (by omega) hl0.1 t25.toNat (by omega)
      have hlen2 : ws2.length = l.Nodes.toNat := by rw [hws2, pcV_len]; exact hl1.1
      have hb1 := pc_row hl hdg (n := node.toNat) (i := t25.toNat) (j := (at_ l.Edges t25.toNat).To.toNat) hn (by omega) (by omega)
      have hb2 := pc_row hl hdg (n := node.toNat) (i := t25.toNat) (j := node.toNat) hn (by omega) hn
      have hv1 : at_ ws2 (at_ l.Edges t25.toNat).To.toNat = ((at_ (tbE pAny l node.toNat (tbN id pAny l (tb0 l) node.toNat) t25.toNat) (at_ l.Edges t25.toNat).To.toNat).length : Int) := by rw [hws2]; exact pcV_at (by rw [hl1.1]; omega)
      have hv2 : at_ ws2 node.toNat = ((at_ (tbE pAny l node.toNat (tbN id pAny l (tb0 l) node.toNat) t25.toNat) node.toNat).length : Int) := by rw [hws2]; exact pcV_at (by rw [hl1.1]; omega)
      refine x_r [(0, .dec true)] [1, 4, 5, 23, 24, 25, 26] [1, 13] [.ref 1 0, .arr 13, I node, slEdge false l.Edges, I (l.Edges.length : Int), I t25, Bv true] [some (bxLattice l), some (tAI ws2)] [t25 < (l.Edges.length : Int)] ⟨h2, trivial⟩ ?_
      refine xe_then ?_
      refine x_seq ?_
      refine x_true rfl ?_
      refine x_skip ?_
      refine xe_then ?_
      refine x_seq ?_
      refine x_block ?_
      refine xR [(2, .new 7)] [1, 4, 5, 7, 23, 24, 25] [1, 7, 13] [.ref 1 0, .arr 13, I node, .ref 7 0, slEdge false l.Edges, I (l.Edges.length : Int), I t25] [some (bxLattice l), some (bxEdge (at_ l.Edges t25.toNat)), some (tAI ws2)] [(0 : Int) ≤ t25 ∧ t25 < (l.Edges.length : Int)] ⟨⟨(by first | omega | (simp only [List.length_replicate, List.length_set]; omega)), (by first | omega | (simp only [List.length_replicate, List.length_set]; omega))⟩, trivial⟩ ?_
      refine x_seq ?_
      by_cases h3 : ((at_ l.Edges t25.toNat).From) = node
      ·have hff : (at_ l.Edges t25.toNat).From = ((node.toNat : Nat) : Int) := by omega
       have hst := pcV_y hl hdg hn hi hff hws2
       refine x_r [(3, .dec true)] [1, 4, 5, 7, 23, 24, 25, 32] [1, 7, 13] [.ref 1 0, .arr 13, I node, .ref 7 0, slEdge false l.Edges, I (l.Edges.length : Int), I t25, Bv true] [some (bxLattice l), some (bxEdge (at_ l.Edges t25.toNat)), some (tAI ws2)] [((at_ l.Edges t25.toNat).From) = node] ⟨h3, trivial⟩ ?_
       refine xe_then ?_
       refine x_true rfl ?_
       refine x_r [] [1, 4, 5, 23, 24, 25] [1, 13] [.ref 1 0, .arr 13, I node, slEdge false l.Edges, I (l.Edges.length : Int), I t25] [some (bxLattice l), some (.arr 1 ws2.length (fun q => bif Nat.beq q (((at_ l.Edges t25.toNat).To).toNat) then [I (min ((at_ ws2 (((at_ l.Edges t25.toNat).To).toNat)) + (at_ ws2 node.toNat)) 1000001)] else (fI ws2) q))] [(0 : Int) ≤ ((at_ l.Edges t25.toNat).To) ∧ ((at_ l.Edges t25.toNat).To) < (ws2.length : Int), ((at_ l.Edges t25.toNat).To).toNat < ws2.length, (0 : Int) ≤ node ∧ node < (ws2.length : Int), node.toNat < ws2.length, inR .i64 ((at_ ws2 (((at_ l.Edges t25.toNat).To).toNat)) + (at_ ws2 node.toNat)), (0 : Int) ≤ ((at_ l.Edges t25.toNat).To) ∧ ((at_ l.Edges t25.toNat).To) < (ws2.length : Int), ((at_ l.Edges t25.toNat).To).toNat < ws2.length] ⟨⟨(by first | omega | (simp only [List.length_replicate, List.length_set]; omega)), (by first | omega | (simp only [List.length_replicate, List.length_set]; omega))⟩, (by first | omega | (simp only [List.length_replicate, List.length_set]; omega)), ⟨(by first | omega | (simp only [List.length_replicate, List.length_set]; omega)), (by first | omega | (simp only [List.length_replicate, List.length_set]; omega))⟩, (by first | omega | (simp only [List.length_replicate, List.length_set]; omega)), (inR_i64 (by first | omega | (simp only [List.length_replicate, List.length_set]; omega)) (by first | omega | (simp only [List.length_replicate, List.length_set]; omega))), ⟨(by first | omega | (simp only [List.length_replicate, List.length_set]; omega)), (by first | omega | (simp only [List.length_replicate, List.length_set]; omega))⟩, (by first | omega | (simp only [List.length_replicate, List.length_set]; omega)), trivial⟩ ?_
       refine xe_block 3 ?_
       refine xe_then ?_
       refine x_r [] [1, 4, 5, 23, 24, 25] [1, 13] [.ref 1 0, .arr 13, I node, slEdge false l.Edges, I (l.Edges.length : Int), I (t25 + 1)] [some (bxLattice l), some (.arr 1 ws2.length (fun q => bif Nat.beq q (((at_ l.Edges t25.toNat).To).toNat) then [I (min ((at_ ws2 (((at_ l.Edges t25.toNat).To).toNat)) + (at_ ws2 node.toNat)) 1000001)] else (fI ws2) q))] [inR .i64 (t25 + 1)] ⟨(inR_i64 (by first | omega | (simp only [List.length_replicate, List.length_set]; omega)) (by first | omega | (simp only [List.length_replicate, List.length_set]; omega))), trivial⟩ ?_
       refine xe_weak [] (T := [(1, .ref 1 0), (4, .arr 13), (5, I node), (23, slEdge false l.Edges), (24, I (l.Edges.length : Int)), (25, I (t25 + 1))]) (O := [(1, bxLattice l), (13, tAI (ws2.set (((at_ l.Edges t25.toNat).To).toNat) (min ((at_ ws2 (((at_ l.Edges t25.toNat).To).toNat)) + (at_ ws2 node.toNat)) 1000001)))]) rfl (⟨.inl rfl, .inl rfl, .inl rfl, .inl rfl, .inl rfl, .inl rfl, trivial⟩) (⟨.inl rfl, .inr ⟨rfl, (by first | rfl | (simp; done) | (simp; omega) | omega), fun i_ hi_ => .inl (upd_enc (enc := cI) rfl i_ hi_)⟩, trivial⟩) (xe_again ((t25 + 1), (ws2.set (((at_ l.Edges t25.toNat).To).toNat) (min ((at_ ws2 (((at_ l.Edges t25.toNat).To).toNat)) + (at_ ws2 node.toNat)) 1000001))) rfl (show (0 ≤ (t25 + 1) ∧ (t25 + 1) ≤ (l.Edges.length : Int)) ∧ ((ws2.set (((at_ l.Edges t25.toNat).To).toNat) (min ((at_ ws2 (((at_ l.Edges t25.toNat).To).toNat)) + (at_ ws2 node.toNat)) 1000001)) = pcV (tbE pAny l node.toNat (tbN id pAny l (tb0 l) node.toNat) (t25 + 1).toNat)) ∧ True from ⟨(by omega), (by first | (rw [hii]; exact hst) | (rw [hii, ← tbE_n hff]; exact hws2)), trivial⟩) (by first | (show (((l.Edges.length : Int) - (t25 + 1)).toNat : Nat) < ((l.Edges.length : Int) - t25).toNat; omega) | (dsimp only; omega)))
      have hff : ¬ (at_ l.Edges t25.toNat).From = ((node.toNat : Nat) : Int) := by omega
      refine x_r [(3, .dec false)] [1, 4, 5, 7, 23, 24, 25, 32] [1, 7, 13] [.ref 1 0, .arr 13, I node, .ref 7 0, slEdge false l.Edges, I (l.Edges.length : Int), I t25, Bv false] [some (bxLattice l), some (bxEdge (at_ l.Edges t25.toNat)), some (tAI ws2)] [¬ (((at_ l.Edges t25.toNat).From) = node)] ⟨h3, trivial⟩ ?_
      refine xe_then ?_
      refine x_false rfl ?_
      refine x_skip ?_
      refine xe_block 3 ?_
      refine xe_then ?_
      refine x_r [] [1, 4, 5, 23, 24, 25] [1, 13] [.ref 1 0, .arr 13, I node, slEdge false l.Edges, I (l.Edges.length : Int), I (t25 + 1)] [some (bxLattice l), some (tAI ws2)] [inR .i64 (t25 + 1)] ⟨(inR_i64 (by first | omega | (simp only [List.length_replicate, List.length_set]; omega)) (by first | omega | (simp only [List.length_replicate, List.length_set]; omega))), trivial⟩ ?_
      exact xe_again ((t25 + 1), ws2) rfl (show (0 ≤ (t25 + 1) ∧ (t25 + 1) ≤ (l.Edges.length : Int)) ∧ (ws2 = pcV (tbE pAny l node.toNat (tbN id pAny l (tb0 l) node.toNat) (t25 + 1).toNat)) ∧ True from ⟨(by omega), (by first | (rw [hii]; exact hst) | (rw [hii, ← tbE_n hff]; exact hws2)), trivial⟩) (by first | (show (((l.Edges.length : Int) - (t25 + 1)).toNat : Nat) < ((l.Edges.length : Int) - t25).toNat; omega) | (dsimp only; omega))
     have hie : t25.toNat = l.Edges.length := by omega
     refine x_r [(0, .dec false)] [1, 4, 5, 23, 24, 25, 26] [1, 13] [.ref 1 0, .arr 13, I node, slEdge false l.Edges, I (l.Edges.length : Int), I t25, Bv false] [some (bxLattice l), some (tAI ws2)] [¬ (t25 < (l.Edges.length : Int))] ⟨h2, trivial⟩ ?_
     refine xe_then ?_
     refine x_seq ?_
     refine x_false rfl ?_
     refine x_exit ?_
     refine xe_exit_then ?_
     refine xe_loop_exit ?_
     refine xe_exit_same ?_
     refine xe_block 1 ?_
     refine xe_then ?_
     refine x_r [] [1, 4, 5] [1, 13] [.ref 1 0, .arr 13, I (node + 1)] [some (bxLattice l), some (tAI ws2)] [inR .i64 (node + 1)] ⟨(inR_i64 (by first | omega | (simp only [List.length_replicate, List.length_set]; omega)) (by first | omega | (simp only [List.length_replicate, List.length_set]; omega))), trivial⟩ ?_
     exact xe_again ((node + 1), ws2) rfl (show (0 ≤ (node + 1) ∧ (node + 1) ≤ l.Nodes) ∧ (ws2 = pcV (tbN id pAny l (tb0 l) (node + 1).toNat)) ∧ True from ⟨(by omega), (by (rw [hnn, hws2, hie]; exact pcV_next)), trivial⟩) (by first | (show ((l.Nodes - (node + 1)).toNat : Nat) < (l.Nodes - node).toNat; omega) | (dsimp only; omega))
    have hne : node.toNat = l.Nodes.toNat := by omega
    have hlen : ws.length = l.Nodes.toNat := by rw [hws, pcV_len]; exact (tbN_ok (F := id) (p := pAny) hl (tb0_len l) node.toNat (by omega)).1
    have hlast : at_ ws (l.Nodes - 1).toNat = ((at_ (allT l) (l.Nodes - 1).toNat).length : Int) := by rw [hws, pcV_at (by rw [(tbN_ok (F := id) (p := pAny) hl (tb0_len l) node.toNat (by omega)).1]; omega), hne]; rfl
    have hsm := tbN_len hl hdg l.Nodes.toNat (Nat.le_refl _) (l.Nodes - 1).toNat (by omega)
    have hpw : 5 ^ l.Nodes.toNat ≤ 5 ^ 6 := Nat.pow_le_pow_right (by decide) (by have := hdg.1; omega)
    have hbd : (at_ (allT l) (l.Nodes - 1).toNat).length ≤ 15625 := Nat.le_trans hsm hpw
    refine x_r [(3, .dec false)] [1, 4, 5, 19] [1, 13] [.ref 1 0, .arr 13, I node, Bv false] [some (bxLattice l), some (tAI ws)] [¬ (node < l.Nodes)] ⟨h1, trivial⟩ ?_
    refine xe_then ?_
    refine x_false rfl ?_
    refine x_exit ?_
    refine xe_exit_then ?_
    refine xe_loop_exit ?_
    refine xe_exit_same ?_
    refine xe_then ?_
    refine x_seq ?_
    refine xR [(6, .dec false)] [1, 4, 55] [1, 13] [.ref 1 0, .arr 13, Bv false] [some (bxLattice l), some (tAI ws)] [inR .i64 (l.Nodes - 1), (0 : Int) ≤ (l.Nodes - 1) ∧ (l.Nodes - 1) < (ws.length : Int), (l.Nodes - 1).toNat < ws.length, ¬ (1000000 < (at_ ws ((l.Nodes - 1).toNat)))] ⟨(inR_i64 (by first | omega | (simp only [List.length_replicate, List.length_set]; omega)) (by first | omega | (simp only [List.length_replicate, List.length_set]; omega))), ⟨(by first | omega | (simp only [List.length_replicate, List.length_set]; omega)), (by first | omega | (simp only [List.length_replicate, List.length_set]; omega))⟩, (by first | omega | (simp only [List.length_replicate, List.length_set]; omega)), (by omega), trivial⟩ ?_
    refine x_false rfl ?_
    refine x_skip ?_
    refine xe_then ?_
    refine xR [] [2, 3] [] [I (at_ ws ((l.Nodes - 1).toNat)), I 0] [] [inR .i64 (l.Nodes - 1), (0 : Int) ≤ (l.Nodes - 1) ∧ (l.Nodes - 1) < (ws.length : Int), (l.Nodes - 1).toNat < ws.length] ⟨(inR_i64 (by first | omega | (simp only [List.length_replicate, List.length_set]; omega)) (by first | omega | (simp only [List.length_replicate, List.length_set]; omega))), ⟨(by first | omega | (simp only [List.length_replicate, List.length_set]; omega)), (by first | omega | (simp only [List.length_replicate, List.length_set]; omega))⟩, (by first | omega | (simp only [List.length_replicate, List.length_set]; omega)), trivial⟩ ?_
    refine x_ret ?_
    refine xe_end ((at_ ws ((l.Nodes - 1).toNat)), 0) (show ((at_ ws ((l.Nodes - 1).toNat)) = ((at_ (allT l) (l.Nodes - 1).toNat).length : Int) ∧ (at_ ws ((l.Nodes - 1).toNat)) ≤ 15625) ∧ (0 = 0) ∧ (True) from ⟨(by exact ⟨hlast, by omega⟩), (by rfl), trivial⟩) (trivial) (.tup [I (at_ ws ((l.Nodes - 1).toNat)), I 0]) (by kernel_rfl) (.inl rfl) (fun _ => rfl) (fun _ => (by simp [tagged, taggedL]))
  obtain ⟨⟨v, c⟩, ⟨hh0, hh1, _⟩, hc⟩ := hh
  exact ⟨v, c, hh0, hh1, hc⟩



-- impl.textCost
theorem textCost_ok (l : Lattice) (w : ByteArray) (hl : okLat l) (hw : w.size ≤ 1000) : Con Tryz.prog 42 [agLattice l, Sv w] true (I (tcF l w)) := by
  have hn := hl.1
  have hc := hl.2.1
  refine fn_ok (fn := Tryz.f42) (nt := 96) Tryz.func42 rfl rfl rfl rfl (by simp [taggedL, tagged, tagEdge]) fun B hB => ?_
  refine aw_lens (x := agLattice l) 0 rfl (fun len_l => ?_)
  simp [LenOK, LenL, cEdge, fEdge, slEdge] at len_l
  refine aR [(0, .new 2)] [1, 2] [2] [Sv w, .ref 2 0] [some (bxLattice l)] [] hB trivial ?_
  refine aR [(2, .new 15)] [1, 2, 5] [2, 15] [Sv w, .ref 2 0, .arr 15] [some (bxLattice l), some (.arr 1 l.Nodes.toNat (fun _ => [I 0]))] [(0 : Int) ≤ l.Nodes ∧ (l.Nodes : Int) ≤ l.Nodes ∧ (8 : Int) * l.Nodes ≤ 281474976710656 ∧ l.Nodes ≤ 9223372036854775807] hB ⟨⟨(by omega), (by omega), (by omega), (by omega)⟩, trivial⟩ ?_
  refine aw_seq ?_
  refine aR [] [1, 2, 5, 17, 18] [2, 15] [Sv w, .ref 2 0, .arr 15, I (l.Nodes.toNat : Int), I 0] [some (bxLattice l), some (.arr 1 l.Nodes.toNat (fun _ => [I 0]))] [] hB trivial ?_
  refine aw_block ?_
  refine aw_weak hB [] (T := [(1, Sv w), (2, .ref 2 0), (5, .arr 15), (17, I (l.Nodes.toNat : Int)), (18, I 0)]) (O := [(2, bxLattice l), (15, tAI (List.replicate l.Nodes.toNat (0 : Int)))]) rfl (⟨.inl rfl, .inl rfl, .inl rfl, .inl rfl, .inl rfl, trivial⟩) (⟨.inl rfl, .inr ⟨rfl, (by first | rfl | (simp; done) | (simp; omega) | omega), fun i_ hi_ => .inl (const_enc (enc := cI) rfl i_ hi_)⟩, trivial⟩) ?_
  refine aw_loop (fun gn gσ => ∃ (t18 : Int) (cs : List Int), gn = (l.Nodes - t18).toNat ∧ (0 ≤ t18 ∧ t18 ≤ l.Nodes) ∧ (cs = farN l.Nodes.toNat t18.toNat) ∧ (cs.length = l.Nodes.toNat) ∧ gσ = mkS [(1, Sv w), (2, .ref 2 0), (5, .arr 15), (17, I (l.Nodes.toNat : Int)), (18, I t18)] [(2, bxLattice l), (15, tAI cs)]) ((l.Nodes - 0).toNat) ⟨0, (List.replicate l.Nodes.toNat (0 : Int)), rfl, (by omega), (by exact far_0 rfl), (by simp), rfl⟩ (fun gn gσ hI => ?_)
  obtain ⟨t18, cs, rfl, hi0, hcs, hcl, rfl⟩ := hI
  refine aw_seq ?_
  by_cases h1 : t18 < (l.Nodes.toNat : Int)
  ·refine aw_r [(0, .dec true)] [1, 2, 5, 17, 18, 19] [2, 15] [Sv w, .ref 2 0, .arr 15, I (l.Nodes.toNat : Int), I t18, Bv true] [some (bxLattice l), some (tAI cs)] [t18 < (l.Nodes.toNat : Int)] hB ⟨h1, trivial⟩ ?_
   refine ae_then ?_
   refine aw_seq ?_
   refine aw_true rfl ?_
   refine aw_skip ?_
   refine ae_then ?_
   refine aw_seq ?_
   refine aw_block ?_
   refine aR [] [1, 2, 5, 6, 17, 18] [2, 15] [Sv w, .ref 2 0, .arr 15, I t18, I (l.Nodes.toNat : Int), I t18] [some (bxLattice l), some (tAI cs)] [] hB trivial ?_
   refine aw_r [] [1, 2, 5, 17, 18] [2, 15] [Sv w, .ref 2 0, .arr 15, I (l.Nodes.toNat : Int), I t18] [some (bxLattice l), some (.arr 1 cs.length (fun q => bif Nat.beq q t18.toNat then [I 1099511627776] else (fI cs) q))] [(0 : Int) ≤ t18 ∧ t18 < (cs.length : Int), t18.toNat < cs.length] hB ⟨⟨(by omega), (by omega)⟩, (by omega), trivial⟩ ?_
   refine ae_block 1 ?_
   refine ae_then ?_
   refine aw_r [] [1, 2, 5, 17, 18] [2, 15] [Sv w, .ref 2 0, .arr 15, I (l.Nodes.toNat : Int), I (t18 + 1)] [some (bxLattice l), some (.arr 1 cs.length (fun q => bif Nat.beq q t18.toNat then [I 1099511627776] else (fI cs) q))] [inR .i64 (t18 + 1)] hB ⟨(inR_i64 (by omega) (by omega)), trivial⟩ ?_
   refine ae_weak hB [] (T := [(1, Sv w), (2, .ref 2 0), (5, .arr 15), (17, I (l.Nodes.toNat : Int)), (18, I (t18 + 1))]) (O := [(2, bxLattice l), (15, tAI (cs.set t18.toNat 1099511627776))]) rfl (⟨.inl rfl, .inl rfl, .inl rfl, .inl rfl, .inl rfl, trivial⟩) (⟨.inl rfl, .inr ⟨rfl, (by first | rfl | (simp; done) | (simp; omega) | omega), fun i_ hi_ => .inl (upd_enc (enc := cI) rfl i_ hi_)⟩, trivial⟩) (ae_again _ (by omega) ⟨(t18 + 1), (cs.set t18.toNat 1099511627776), rfl, (by omega), (by rw [hcs, far_next (by omega), show (t18 + 1).toNat = t18.toNat + 1 from by omega]), (by rw [List.length_set]; exact hcl), rfl⟩)
  have hcf : cs = List.replicate l.Nodes.toNat 1099511627776 := by rw [hcs, show t18.toNat = l.Nodes.toNat from by omega, far_all]
  refine aw_r [(0, .dec false)] [1, 2, 5, 17, 18, 19] [2, 15] [Sv w, .ref 2 0, .arr 15, I (l.Nodes.toNat : Int), I t18, Bv false] [some (bxLattice l), some (tAI cs)] [¬ (t18 < (l.Nodes.toNat : Int))] hB ⟨h1, trivial⟩ ?_
  refine ae_then ?_
  refine aw_seq ?_
  refine aw_false rfl ?_
  refine aw_exit ?_
  refine ae_exit_then ?_
  refine ae_exit_then ?_
  refine ae_exit_same ?_
  refine ae_then ?_
  refine aR [] [1, 2, 5] [2, 15] [Sv w, .ref 2 0, .arr 15] [some (bxLattice l), some (.arr 1 cs.length (fun q => bif Nat.beq q 0 then [I 0] else (fI cs) q))] [(0 : Int) ≤ 0 ∧ 0 < (cs.length : Int), 0 < cs.length] hB ⟨⟨(by omega), (by omega)⟩, (by omega), trivial⟩ ?_
  refine aw_seq ?_
  refine aR [] [1, 2, 5, 28, 29] [2, 15] [Sv w, .ref 2 0, .arr 15, I (w.size : Int), I 0] [some (bxLattice l), some (.arr 1 cs.length (fun q => bif Nat.beq q 0 then [I 0] else (fI cs) q))] [] hB trivial ?_
  refine aw_block ?_
  refine aw_weak hB [] (T := [(1, Sv w), (2, .ref 2 0), (5, .arr 15), (28, I (w.size : Int)), (29, I 0)]) (O := [(2, bxLattice l), (15, tAI (cs.set 0 0))]) rfl (⟨.inl rfl, .inl rfl, .inl rfl, .inl rfl, .inl rfl, trivial⟩) (⟨.inl rfl, .inr ⟨rfl, (by first | rfl | (simp; done) | (simp; omega) | omega), fun i_ hi_ => .inl (upd_enc (enc := cI) rfl i_ hi_)⟩, trivial⟩) ?_
  refine aw_loop (fun gn gσ => ∃ (c2 : List Int) (t29 : Int), gn = ((w.size : Int) - t29).toNat ∧ (0 ≤ t29 ∧ t29 ≤ (w.size : Int)) ∧ (c2 = tcRow l w t29.toNat) ∧ (∀ j : Nat, (j : Int) < t29 → tcA l w j = true) ∧ gσ = mkS [(1, Sv w), (2, .ref 2 0), (5, .arr 15), (28, I (w.size : Int)), (29, I t29)] [(2, bxLattice l), (15, tAI c2)]) (((w.size : Int) - 0).toNat) ⟨(cs.set 0 0), 0, rfl, (by omega), (by rw [hcf]; rfl), (by intro j hj; omega), rfl⟩ (fun gn gσ hI => ?_)
  obtain ⟨c2, t29, rfl, hi9, hc2, hal, rfl⟩ := hI
  have hrow := tcRow_ok hl w t29.toNat
  rw [← hc2] at hrow
  have hrl := hrow.1
  refine aw_seq ?_
  by_cases h2 : t29 < (w.size : Int)
  ·have hi9 : t29.toNat < w.size := by omega
   refine aw_r [(0, .dec true)] [1, 2, 5, 28, 29, 30] [2, 15] [Sv w, .ref 2 0, .arr 15, I (w.size : Int), I t29, Bv true] [some (bxLattice l), some (tAI c2)] [t29 < (w.size : Int)] hB ⟨h2, trivial⟩ ?_
   refine ae_then ?_
   refine aw_seq ?_
   refine aw_true rfl ?_
   refine aw_skip ?_
   refine ae_then ?_
   refine aw_seq ?_
   refine aw_block ?_
   refine aR [] [1, 2, 5, 7, 28, 29] [2, 15] [Sv w, .ref 2 0, .arr 15, I t29, I (w.size : Int), I t29] [some (bxLattice l), some (tAI c2)] [] hB trivial ?_
   refine aR [(2, .new 34)] [1, 2, 5, 7, 8, 28, 29] [2, 15, 34] [Sv w, .ref 2 0, .arr 15, I t29, .arr 34, I (w.size : Int), I t29] [some (bxLattice l), some (tAI c2), some (.arr 1 l.Nodes.toNat (fun _ => [I 0]))] [(0 : Int) ≤ l.Nodes ∧ (l.Nodes : Int) ≤ l.Nodes ∧ (8 : Int) * l.Nodes ≤ 281474976710656 ∧ l.Nodes ≤ 9223372036854775807] hB ⟨⟨(by omega), (by omega), (by omega), (by omega)⟩, trivial⟩ ?_
   refine aw_seq ?_
   refine aR [] [1, 2, 5, 7, 8, 28, 29, 36, 37] [2, 15, 34] [Sv w, .ref 2 0, .arr 15, I t29, .arr 34, I (w.size : Int), I t29, I (l.Nodes.toNat : Int), I 0] [some (bxLattice l), some (tAI c2), some (.arr 1 l.Nodes.toNat (fun _ => [I 0]))] [] hB trivial ?_
   refine aw_block ?_
   refine aw_weak hB [] (T := [(1, Sv w), (2, .ref 2 0), (5, .arr 15), (7, I t29), (8, .arr 34), (28, I (w.size : Int)), (29, I t29), (36, I (l.Nodes.toNat : Int)), (37, I 0)]) (O := [(2, bxLattice l), (15, tAI c2), (34, tAI (List.replicate l.Nodes.toNat (0 : Int)))]) rfl (⟨.inl rfl, .inl rfl, .inl rfl, .inl rfl, .inl rfl, .inl rfl, .inl rfl, .inl rfl, .inl rfl, trivial⟩) (⟨.inl rfl, .inl rfl, .inr ⟨rfl, (by first | rfl | (simp; done) | (simp; omega) | omega), fun i_ hi_ => .inl (const_enc (enc := cI) rfl i_ hi_)⟩, trivial⟩) ?_
   refine aw_loop (fun gn gσ => ∃ (t37 : Int) (nx : List Int), gn = (l.Nodes - t37).toNat ∧ (0 ≤ t37 ∧ t37 ≤ l.Nodes) ∧ (nx = farN l.Nodes.toNat t37.toNat) ∧ (nx.length = l.Nodes.toNat) ∧ gσ = mkS [(1, Sv w), (2, .ref 2 0), (5, .arr 15), (7, I t29), (8, .arr 34), (28, I (w.size : Int)), (29, I t29), (36, I (l.Nodes.toNat : Int)), (37, I t37)] [(2, bxLattice l), (15, tAI c2), (34, tAI nx)]) ((l.Nodes - 0).toNat) ⟨0, (List.replicate l.Nodes.toNat (0 : Int)), rfl, (by omega), (by exact far_0 rfl), (by simp), rfl⟩ (fun gn gσ hI => ?_)
   obtain ⟨t37, nx, rfl, hi7, hnx, hnl, rfl⟩ := hI
   refine aw_seq ?_
   by_cases h3 : t37 < (l.Nodes.toNat : Int)
   ·refine aw_r [(0, .dec true)] [1, 2, 5, 7, 8, 28, 29, 36, 37, 38] [2, 15, 34] [Sv w, .ref 2 0, .arr 15, I t29, .arr 34, I (w.size : Int), I t29, I (l.Nodes.toNat : Int), I t37, Bv true] [some (bxLattice l), some (tAI c2), some (tAI nx)] [t37 < (l.Nodes.toNat : Int)] hB ⟨h3, trivial⟩ ?_
    refine ae_then ?_
    refine aw_seq ?_
    refine aw_true rfl ?_
    refine aw_skip ?_
    refine ae_then ?_
    refine aw_seq ?_
    refine aw_block ?_
    refine aR [] [1, 2, 5, 7, 8, 9, 28, 29, 36, 37] [2, 15, 34] [Sv w, .ref 2 0, .arr 15, I t29, .arr 34, I t37, I (w.size : Int), I t29, I (l.Nodes.toNat : Int), I t37] [some (bxLattice l), some (tAI c2), some (tAI nx)] [] hB trivial ?_
    refine aw_r [] [1, 2, 5, 7, 8, 28, 29, 36, 37] [2, 15, 34] [Sv w, .ref 2 0, .arr 15, I t29, .arr 34, I (w.size : Int), I t29, I (l.Nodes.toNat : Int), I t37] [some (bxLattice l), some (tAI c2), some (.arr 1 nx.length (fun q => bif Nat.beq q t37.toNat then [I 1099511627776] else (fI nx) q))] [(0 : Int) ≤ t37 ∧ t37 < (nx.length : Int), t37.toNat < nx.length] hB ⟨⟨(by omega), (by omega)⟩, (by omega), trivial⟩ ?_
    refine ae_block 5 ?_
    refine ae_then ?_
    refine aw_r [] [1, 2, 5, 7, 8, 28, 29, 36, 37] [2, 15, 34] [Sv w, .ref 2 0, .arr 15, I t29, .arr 34, I (w.size : Int), I t29, I (l.Nodes.toNat : Int), I (t37 + 1)] [some (bxLattice l), some (tAI c2), some (.arr 1 nx.length (fun q => bif Nat.beq q t37.toNat then [I 1099511627776] else (fI nx) q))] [inR .i64 (t37 + 1)] hB ⟨(inR_i64 (by omega) (by omega)), trivial⟩ ?_
    refine ae_weak hB [] (T := [(1, Sv w), (2, .ref 2 0), (5, .arr 15), (7, I t29), (8, .arr 34), (28, I (w.size : Int)), (29, I t29), (36, I (l.Nodes.toNat : Int)), (37, I (t37 + 1))]) (O := [(2, bxLattice l), (15, tAI c2), (34, tAI (nx.set t37.toNat 1099511627776))]) rfl (⟨.inl rfl, .inl rfl, .inl rfl, .inl rfl, .inl rfl, .inl rfl, .inl rfl, .inl rfl, .inl rfl, trivial⟩) (⟨.inl rfl, .inl rfl, .inr ⟨rfl, (by first | rfl | (simp; done) | (simp; omega) | omega), fun i_ hi_ => .inl (upd_enc (enc := cI) rfl i_ hi_)⟩, trivial⟩) (ae_again _ (by omega) ⟨(t37 + 1), (nx.set t37.toNat 1099511627776), rfl, (by omega), (by rw [hnx, far_next (by omega), show (t37 + 1).toNat = t37.toNat + 1 from by omega]), (by rw [List.length_set]; exact hnl), rfl⟩)
   have hnf : nx = List.replicate l.Nodes.toNat 1099511627776 := by rw [hnx, show t37.toNat = l.Nodes.toNat from by omega, far_all]
   refine aw_r [(0, .dec false)] [1, 2, 5, 7, 8, 28, 29, 36, 37, 38] [2, 15, 34] [Sv w, .ref 2 0, .arr 15, I t29, .arr 34, I (w.size : Int), I t29, I (l.Nodes.toNat : Int), I t37, Bv false] [some (bxLattice l), some (tAI c2), some (tAI nx)] [¬ (t37 < (l.Nodes.toNat : Int))] hB ⟨h3, trivial⟩ ?_
   refine ae_then ?_
   refine aw_seq ?_
   refine aw_false rfl ?_
   refine aw_exit ?_
   refine ae_exit_then ?_
   refine ae_exit_then ?_
   refine ae_exit_same ?_
   refine ae_then ?_
   refine aR [] [1, 2, 5, 7, 8, 10, 28, 29] [2, 15, 34] [Sv w, .ref 2 0, .arr 15, I t29, .arr 34, Bv false, I (w.size : Int), I t29] [some (bxLattice l), some (tAI c2), some (tAI nx)] [] hB trivial ?_
   refine aw_seq ?_
   refine aR [] [1, 2, 5, 7, 8, 10, 28, 29, 45, 46, 47] [2, 15, 34] [Sv w, .ref 2 0, .arr 15, I t29, .arr 34, Bv false, I (w.size : Int), I t29, slEdge false l.Edges, I (l.Edges.length : Int), I 0] [some (bxLattice l), some (tAI c2), some (tAI nx)] [] hB trivial ?_
   refine aw_block ?_
   refine aw_loop (fun gn gσ => ∃ (alive : Bool) (t47 : Int) (n2 : List Int), gn = ((l.Edges.length : Int) - t47).toNat ∧ (0 ≤ t47 ∧ t47 ≤ (l.Edges.length : Int)) ∧ ((n2, alive) = rowE l c2 (chA w t29.toNat) t47.toNat) ∧ gσ = mkS [(1, Sv w), (2, .ref 2 0), (5, .arr 15), (7, I t29), (8, .arr 34), (10, Bv alive), (28, I (w.size : Int)), (29, I t29), (45, slEdge false l.Edges), (46, I (l.Edges.length : Int)), (47, I t47)] [(2, bxLattice l), (15, tAI c2), (34, tAI n2)]) (((l.Edges.length : Int) - 0).toNat) ⟨false, 0, nx, rfl, (by omega), (by rw [hnf]; rfl), rfl⟩ (fun gn gσ hI => ?_)
   obtain ⟨alive, t47, n2, rfl, hi4, hn2, rfl⟩ := hI
   have hre := rowE_ok hl (by omega) hrow (chA w t29.toNat) t47.toNat (by omega)
   rw [← hn2] at hre
   replace hre : okRow l.Nodes.toNat _ n2 := hre
   have hnl2 := hre.1
   refine aw_seq ?_
   by_cases h4 : t47 < (l.Edges.length : Int)
   ·have hi : t47.toNat < l.Edges.length := by omega
    have hed := hl.2.2.1 _ hi
    have hee := hed.1
    have hec := hed.2.1
    have hr1 := hrow.2 (at_ l.Edges t47.toNat).From.toNat (by omega)
    have hr2 := hre.2 (at_ l.Edges t47.toNat).To.toNat (by omega)
    refine aw_r [(0, .dec true)] [1, 2, 5, 7, 8, 10, 28, 29, 45, 46, 47, 48] [2, 15, 34] [Sv w, .ref 2 0, .arr 15, I t29, .arr 34, Bv alive, I (w.size : Int), I t29, slEdge false l.Edges, I (l.Edges.length : Int), I t47, Bv true] [some (bxLattice l), some (tAI c2), some (tAI n2)] [t47 < (l.Edges.length : Int)] hB ⟨h4, trivial⟩ ?_
    refine ae_then ?_
    refine aw_seq ?_
    refine aw_true rfl ?_
    refine aw_skip ?_
    refine ae_then ?_
    refine aw_seq ?_
    refine aw_block ?_
    refine aR [(2, .new 12)] [1, 2, 5, 7, 8, 10, 12, 28, 29, 45, 46, 47] [2, 12, 15, 34] [Sv w, .ref 2 0, .arr 15, I t29, .arr 34, Bv alive, .ref 12 0, I (w.size : Int), I t29, slEdge false l.Edges, I (l.Edges.length : Int), I t47] [some (bxLattice l), some (bxEdge (at_ l.Edges t47.toNat)), some (tAI c2), some (tAI n2)] [(0 : Int) ≤ t47 ∧ t47 < (l.Edges.length : Int)] hB ⟨⟨(by omega), (by omega)⟩, trivial⟩ ?_
    refine aw_seq ?_
    by_cases h5 : ((at_ l.Edges t47.toNat).Label) = (w.extract t29.toNat (t29 + 1).toNat)
    ·have hlb := h5
     rw [show w.extract t29.toNat (t29 + 1).toNat = chA w t29.toNat from by rw [show (t29 + 1).toNat = t29.toNat + 1 from by omega]; rfl] at hlb
     by_cases h6 : (at_ c2 (((at_ l.Edges t47.toNat).From).toNat)) < 1099511627776
     ·refine aw_r [(7, .dec true), (14, .dec true)] [1, 2, 5, 7, 8, 10, 12, 28, 29, 45, 46, 47, 66] [2, 12, 15, 34] [Sv w, .ref 2 0, .arr 15, I t29, .arr 34, Bv alive, .ref 12 0, I (w.size : Int), I t29, slEdge false l.Edges, I (l.Edges.length : Int), I t47, Bv true] [some (bxLattice l), some (bxEdge (at_ l.Edges t47.toNat)), some (tAI c2), some (tAI n2)] [inR .i64 (t29 + 1), (0 : Int) ≤ t29 ∧ t29 ≤ (t29 + 1) ∧ (t29 + 1) ≤ (w.size : Int), ((at_ l.Edges t47.toNat).Label) = (w.extract t29.toNat (t29 + 1).toNat), (0 : Int) ≤ ((at_ l.Edges t47.toNat).From) ∧ ((at_ l.Edges t47.toNat).From) < (c2.length : Int), ((at_ l.Edges t47.toNat).From).toNat < c2.length, (at_ c2 (((at_ l.Edges t47.toNat).From).toNat)) < 1099511627776] hB ⟨(inR_i64 (by omega) (by omega)), ⟨(by omega), (by omega), (by omega)⟩, h5, ⟨(by omega), (by omega)⟩, (by omega), h6, trivial⟩ ?_
      refine ae_then ?_
      refine aw_true rfl ?_
      refine aR [] [1, 2, 5, 7, 8, 28, 29, 45, 46, 47] [2, 15, 34] [Sv w, .ref 2 0, .arr 15, I t29, .arr 34, I (w.size : Int), I t29, slEdge false l.Edges, I (l.Edges.length : Int), I t47] [some (bxLattice l), some (tAI c2), some (.arr 1 n2.length (fun q => bif Nat.beq q (((at_ l.Edges t47.toNat).To).toNat) then [I (min (at_ n2 (((at_ l.Edges t47.toNat).To).toNat)) ((at_ c2 (((at_ l.Edges t47.toNat).From).toNat)) + ((at_ l.Edges t47.toNat).Cost)))] else (fI n2) q))] [(0 : Int) ≤ ((at_ l.Edges t47.toNat).To) ∧ ((at_ l.Edges t47.toNat).To) < (n2.length : Int), ((at_ l.Edges t47.toNat).To).toNat < n2.length, (0 : Int) ≤ ((at_ l.Edges t47.toNat).From) ∧ ((at_ l.Edges t47.toNat).From) < (c2.length : Int), ((at_ l.Edges t47.toNat).From).toNat < c2.length, inR .i64 ((at_ c2 (((at_ l.Edges t47.toNat).From).toNat)) + ((at_ l.Edges t47.toNat).Cost)), (0 : Int) ≤ ((at_ l.Edges t47.toNat).To) ∧ ((at_ l.Edges t47.toNat).To) < (n2.length : Int), ((at_ l.Edges t47.toNat).To).toNat < n2.length] hB ⟨⟨(by omega), (by omega)⟩, (by omega), ⟨(by omega), (by omega)⟩, (by omega), (inR_i64 (by omega) (by omega)), ⟨(by omega), (by omega)⟩, (by omega), trivial⟩ ?_
      refine aw_r [] [1, 2, 5, 7, 8, 10, 28, 29, 45, 46, 47] [2, 15, 34] [Sv w, .ref 2 0, .arr 15, I t29, .arr 34, Bv true, I (w.size : Int), I t29, slEdge false l.Edges, I (l.Edges.length : Int), I t47] [some (bxLattice l), some (tAI c2), some (.arr 1 n2.length (fun q => bif Nat.beq q (((at_ l.Edges t47.toNat).To).toNat) then [I (min (at_ n2 (((at_ l.Edges t47.toNat).To).toNat)) ((at_ c2 (((at_ l.Edges t47.toNat).From).toNat)) + ((at_ l.Edges t47.toNat).Cost)))] else (fI n2) q))] [] hB trivial ?_
      refine ae_block 7 ?_
      refine ae_then ?_
      refine aw_r [] [1, 2, 5, 7, 8, 10, 28, 29, 45, 46, 47] [2, 15, 34] [Sv w, .ref 2 0, .arr 15, I t29, .arr 34, Bv true, I (w.size : Int), I t29, slEdge false l.Edges, I (l.Edges.length : Int), I (t47 + 1)] [some (bxLattice l), some (tAI c2), some (.arr 1 n2.length (fun q => bif Nat.beq q (((at_ l.Edges t47.toNat).To).toNat) then [I (min (at_ n2 (((at_ l.Edges t47.toNat).To).toNat)) ((at_ c2 (((at_ l.Edges t47.toNat).From).toNat)) + ((at_ l.Edges t47.toNat).Cost)))] else (fI n2) q))] [inR .i64 (t47 + 1)] hB ⟨(inR_i64 (by omega) (by omega)), trivial⟩ ?_
      refine ae_weak hB [] (T := [(1, Sv w), (2, .ref 2 0), (5, .arr 15), (7, I t29), (8, .arr 34), (10, Bv true), (28, I (w.size : Int)), (29, I t29), (45, slEdge false l.Edges), (46, I (l.Edges.length : Int)), (47, I (t47 + 1))]) (O := [(2, bxLattice l), (15, tAI c2), (34, tAI (n2.set (((at_ l.Edges t47.toNat).To).toNat) (min (at_ n2 (((at_ l.Edges t47.toNat).To).toNat)) ((at_ c2 (((at_ l.Edges t47.toNat).From).toNat)) + ((at_ l.Edges t47.toNat).Cost)))))]) rfl (⟨.inl rfl, .inl rfl, .inl rfl, .inl rfl, .inl rfl, .inl rfl, .inl rfl, .inl rfl, .inl rfl, .inl rfl, .inl rfl, trivial⟩) (⟨.inl rfl, .inl rfl, .inr ⟨rfl, (by first | rfl | (simp; done) | (simp; omega) | omega), fun i_ hi_ => .inl (upd_enc (enc := cI) rfl i_ hi_)⟩, trivial⟩) (ae_again _ (by omega) ⟨true, (t47 + 1), (n2.set (((at_ l.Edges t47.toNat).To).toNat) (min (at_ n2 (((at_ l.Edges t47.toNat).To).toNat)) ((at_ c2 (((at_ l.Edges t47.toNat).From).toNat)) + ((at_ l.Edges t47.toNat).Cost)))), rfl, (by omega), (by rw [show (t47 + 1).toNat = t47.toNat + 1 from by omega]; show _ = (if _ then _ else _); rw [← hn2]; first | (rw [if_pos ⟨by assumption, by assumption⟩]; done) | (rw [if_neg (fun q => absurd q.1 (by assumption))]; done) | (rw [if_neg (fun q => absurd q.2 (by assumption))]; done)), rfl⟩)
     refine aw_r [(7, .dec true), (14, .dec false)] [1, 2, 5, 7, 8, 10, 12, 28, 29, 45, 46, 47, 66] [2, 12, 15, 34] [Sv w, .ref 2 0, .arr 15, I t29, .arr 34, Bv alive, .ref 12 0, I (w.size : Int), I t29, slEdge false l.Edges, I (l.Edges.length : Int), I t47, Bv false] [some (bxLattice l), some (bxEdge (at_ l.Edges t47.toNat)), some (tAI c2), some (tAI n2)] [inR .i64 (t29 + 1), (0 : Int) ≤ t29 ∧ t29 ≤ (t29 + 1) ∧ (t29 + 1) ≤ (w.size : Int), ((at_ l.Edges t47.toNat).Label) = (w.extract t29.toNat (t29 + 1).toNat), (0 : Int) ≤ ((at_ l.Edges t47.toNat).From) ∧ ((at_ l.Edges t47.toNat).From) < (c2.length : Int), ((at_ l.Edges t47.toNat).From).toNat < c2.length, ¬ ((at_ c2 (((at_ l.Edges t47.toNat).From).toNat)) < 1099511627776)] hB ⟨(inR_i64 (by omega) (by omega)), ⟨(by omega), (by omega), (by omega)⟩, h5, ⟨(by omega), (by omega)⟩, (by omega), h6, trivial⟩ ?_
     refine ae_then ?_
     refine aw_false rfl ?_
     refine aw_skip ?_
     refine ae_block 7 ?_
     refine ae_then ?_
     refine aw_r [] [1, 2, 5, 7, 8, 10, 28, 29, 45, 46, 47] [2, 15, 34] [Sv w, .ref 2 0, .arr 15, I t29, .arr 34, Bv alive, I (w.size : Int), I t29, slEdge false l.Edges, I (l.Edges.length : Int), I (t47 + 1)] [some (bxLattice l), some (tAI c2), some (tAI n2)] [inR .i64 (t47 + 1)] hB ⟨(inR_i64 (by omega) (by omega)), trivial⟩ ?_
     exact ae_again _ (by omega) ⟨alive, (t47 + 1), n2, rfl, (by omega), (by rw [show (t47 + 1).toNat = t47.toNat + 1 from by omega]; show _ = (if _ then _ else _); rw [← hn2]; first | (rw [if_pos ⟨by assumption, by assumption⟩]; done) | (rw [if_neg (fun q => absurd q.1 (by assumption))]; done) | (rw [if_neg (fun q => absurd q.2 (by assumption))]; done)), rfl⟩
    have hlb := h5
    rw [show w.extract t29.toNat (t29 + 1).toNat = chA w t29.toNat from by rw [show (t29 + 1).toNat = t29.toNat + 1 from by omega]; rfl] at hlb
    refine aw_r [(7, .dec false)] [1, 2, 5, 7, 8, 10, 12, 28, 29, 45, 46, 47, 66] [2, 12, 15, 34] [Sv w, .ref 2 0, .arr 15, I t29, .arr 34, Bv alive, .ref 12 0, I (w.size : Int), I t29, slEdge false l.Edges, I (l.Edges.length : Int), I t47, Bv false] [some (bxLattice l), some (bxEdge (at_ l.Edges t47.toNat)), some (tAI c2), some (tAI n2)] [inR .i64 (t29 + 1), (0 : Int) ≤ t29 ∧ t29 ≤ (t29 + 1) ∧ (t29 + 1) ≤ (w.size : Int), ¬ (((at_ l.Edges t47.toNat).Label) = (w.extract t29.toNat (t29 + 1).toNat))] hB ⟨(inR_i64 (by omega) (by omega)), ⟨(by omega), (by omega), (by omega)⟩, h5, trivial⟩ ?_
    refine ae_then ?_
    refine aw_false rfl ?_
    refine aw_skip ?_
    refine ae_block 7 ?_
    refine ae_then ?_
    refine aw_r [] [1, 2, 5, 7, 8, 10, 28, 29, 45, 46, 47] [2, 15, 34] [Sv w, .ref 2 0, .arr 15, I t29, .arr 34, Bv alive, I (w.size : Int), I t29, slEdge false l.Edges, I (l.Edges.length : Int), I (t47 + 1)] [some (bxLattice l), some (tAI c2), some (tAI n2)] [inR .i64 (t47 + 1)] hB ⟨(inR_i64 (by omega) (by omega)), trivial⟩ ?_
    exact ae_again _ (by omega) ⟨alive, (t47 + 1), n2, rfl, (by omega), (by rw [show (t47 + 1).toNat = t47.toNat + 1 from by omega]; show _ = (if _ then _ else _); rw [← hn2]; first | (rw [if_pos ⟨by assumption, by assumption⟩]; done) | (rw [if_neg (fun q => absurd q.1 (by assumption))]; done) | (rw [if_neg (fun q => absurd q.2 (by assumption))]; done)), rfl⟩
   have hie : t47.toNat = l.Edges.length := by omega
   refine aw_r [(0, .dec false)] [1, 2, 5, 7, 8, 10, 28, 29, 45, 46, 47, 48] [2, 15, 34] [Sv w, .ref 2 0, .arr 15, I t29, .arr 34, Bv alive, I (w.size : Int), I t29, slEdge false l.Edges, I (l.Edges.length : Int), I t47, Bv false] [some (bxLattice l), some (tAI c2), some (tAI n2)] [¬ (t47 < (l.Edges.length : Int))] hB ⟨h4, trivial⟩ ?_
   refine ae_then ?_
   refine aw_seq ?_
   refine aw_false rfl ?_
   refine aw_exit ?_
   refine ae_exit_then ?_
   refine ae_exit_then ?_
   refine ae_exit_same ?_
   refine ae_then ?_
   refine aw_seq ?_
   refine aw_seq ?_
   rcases Bool.eq_false_or_eq_true alive with h7 | h7
   ·subst h7
    refine aw_r [] [1, 2, 8, 28, 29, 87] [2, 34] [Sv w, .ref 2 0, .arr 34, I (w.size : Int), I t29, Bv false] [some (bxLattice l), some (tAI n2)] [] hB trivial ?_
    refine ae_then ?_
    refine aw_false rfl ?_
    refine aw_skip ?_
    refine ae_then ?_
    refine aw_r [] [1, 2, 5, 28, 29] [2, 34] [Sv w, .ref 2 0, .arr 34, I (w.size : Int), I t29] [some (bxLattice l), some (tAI n2)] [] hB trivial ?_
    refine ae_block 3 ?_
    refine ae_then ?_
    refine aw_r [] [1, 2, 5, 28, 29] [2, 34] [Sv w, .ref 2 0, .arr 34, I (w.size : Int), I (t29 + 1)] [some (bxLattice l), some (tAI n2)] [inR .i64 (t29 + 1)] hB ⟨(inR_i64 (by omega) (by omega)), trivial⟩ ?_
    refine ae_weak hB [(15, 34)] (T := [(1, Sv w), (2, .ref 2 0), (5, .arr 15), (28, I (w.size : Int)), (29, I (t29 + 1))]) (O := [(2, bxLattice l), (15, tAI n2)]) rfl (⟨.inl rfl, .inl rfl, .inl rfl, .inl rfl, .inl rfl, trivial⟩) (⟨.inl rfl, .inl rfl, trivial⟩) (ae_again _ (by omega) ⟨n2, (t29 + 1), rfl, (by omega), (by rw [show (t29 + 1).toNat = t29.toNat + 1 from by omega]; show _ = (rowE l (tcRow l w t29.toNat) (chA w t29.toNat) l.Edges.length).1; rw [← hc2, ← hie, ← hn2]), (by intro j hj; by_cases ej : j = t29.toNat; (subst ej; show (rowE l (tcRow l w t29.toNat) (chA w t29.toNat) l.Edges.length).2 = true; rw [← hc2, ← hie, ← hn2]); exact hal j (by omega)), rfl⟩)
   subst h7
   refine aw_r [] [1, 2, 8, 28, 29, 87] [2, 34] [Sv w, .ref 2 0, .arr 34, I (w.size : Int), I t29, Bv true] [some (bxLattice l), some (tAI n2)] [] hB trivial ?_
   refine ae_then ?_
   refine aw_true rfl ?_
   refine aR [] [4] [] [I 1099511627776] [] [] hB trivial ?_
   refine aw_ret ?_
   refine ae_ret_then (ae_ret_block (ae_ret_then (ae_ret_then (ae_ret_block (ae_ret_then ?_)))))
   refine ae_ret hB (I 1099511627776) (by kernel_rfl) (.inl (by refine congrArg I ?_; first | (unfold tcF; rw [if_pos (anyN_at hi9 (by show (!(rowE l (tcRow l w t29.toNat) _ _).2) = true; rw [← hc2, ← hie, ← hn2]; rfl))]; done) | (unfold tcF; rw [if_neg (by rw [anyN_none (fun j hj => by rw [hal j (by omega)]; rfl)]; decide), ← hie9, ← hc2]; done))) rfl (fun _ => trivial)
  have hie9 : t29.toNat = w.size := by omega
  have hrow := tcRow_ok hl w t29.toNat
  rw [← hc2] at hrow
  have hrl := hrow.1
  refine aw_r [(0, .dec false)] [1, 2, 5, 28, 29, 30] [2, 15] [Sv w, .ref 2 0, .arr 15, I (w.size : Int), I t29, Bv false] [some (bxLattice l), some (tAI c2)] [¬ (t29 < (w.size : Int))] hB ⟨h2, trivial⟩ ?_
  refine ae_then ?_
  refine aw_seq ?_
  refine aw_false rfl ?_
  refine aw_exit ?_
  refine ae_exit_then ?_
  refine ae_exit_then ?_
  refine ae_exit_same ?_
  refine ae_then ?_
  refine aR [] [4] [] [I (at_ c2 ((l.Nodes - 1).toNat))] [] [inR .i64 (l.Nodes - 1), (0 : Int) ≤ (l.Nodes - 1) ∧ (l.Nodes - 1) < (c2.length : Int), (l.Nodes - 1).toNat < c2.length] hB ⟨(inR_i64 (by omega) (by omega)), ⟨(by omega), (by omega)⟩, (by omega), trivial⟩ ?_
  refine aw_ret ?_
  refine ae_ret hB (I (at_ c2 ((l.Nodes - 1).toNat))) (by kernel_rfl) (.inl (by refine congrArg I ?_; first | (unfold tcF; rw [if_pos (anyN_at hi9 (by show (!(rowE l (tcRow l w t29.toNat) _ _).2) = true; rw [← hc2, ← hie, ← hn2]; rfl))]; done) | (unfold tcF; rw [if_neg (by rw [anyN_none (fun j hj => by rw [hal j (by omega)]; rfl)]; decide), ← hie9, ← hc2]; done))) rfl (fun _ => trivial)



-- impl.TextCost
theorem TextCost_ok (l : Lattice) (w : ByteArray) (hl : okLat l) (hw : w.size ≤ 1000) : ∃ (v : Int) (c : Int), ((c = 0 ∧ v = tcF l w ∧ tcF l w < 1099511627776) ∨ (c = 3 ∧ ¬ tcF l w < 1099511627776)) ∧ Con Tryz.prog 12 [agLattice l, Sv w] true (.tup [I v, I c]) := by
  have htb := tcF_bd hl w
  have hh : ∃ r : Int × Int, (((r.2 = 0 ∧ r.1 = tcF l w ∧ tcF l w < 1099511627776) ∨ (r.2 = 3 ∧ ¬ tcF l w < 1099511627776)) ∧ (True)) ∧ CallOK Tryz.prog 12 [agLattice l, Sv w] (lookO []) true (.tup [I r.1, I r.2]) (lookO []) := by
    refine fn_okX (Φ := fun r : Int × Int => ((r.2 = 0 ∧ r.1 = tcF l w ∧ tcF l w < 1099511627776) ∨ (r.2 = 3 ∧ ¬ tcF l w < 1099511627776)) ∧ (True)) [] (fun r => []) (fn := Tryz.f12) (nt := 16) Tryz.func12 rfl rfl (args := [agLattice l, Sv w]) rfl (allcons (.inl ⟨rfl, by simp [tagged, taggedL, tagEdge]⟩) (allcons (.inl ⟨rfl, trivial⟩) allnil)) (res := fun r => .tup [I r.1, I r.2]) ?_
    refine xR [(0, .new 2)] [1, 2] [2] [Sv w, .ref 2 0] [some (bxLattice l)] [] trivial ?_
    refine x_seq ?_
    refine xR [(1, .call [(true, .any)] true (Bv true))] [1, 2, 9] [2] [Sv w, .ref 2 0, Bv false] [some (bxLattice l)] [Con Tryz.prog 39 [agLattice l] true (Bv true) ∧ True] ⟨⟨(ValidLattice_ok l hl), trivial⟩, trivial⟩ ?_
    refine x_false rfl ?_
    refine x_skip ?_
    refine xe_then ?_
    refine xR [(2, .call [(true, .any), (true, .any)] true (I (tcF l w)))] [6] [] [I (tcF l w)] [] [Con Tryz.prog 42 [agLattice l, Sv w] true (I (tcF l w)) ∧ True] ⟨⟨(textCost_ok l w hl hw), trivial⟩, trivial⟩ ?_
    refine x_seq ?_
    refine x_seq ?_
    by_cases h1 : (tcF l w) = 1099511627776
    ·refine x_r [(1, .dec true)] [6, 14] [] [I (tcF l w), Bv true] [] [(tcF l w) = 1099511627776] ⟨h1, trivial⟩ ?_
     refine xe_then ?_
     refine x_true rfl ?_
     refine xR [] [4, 5] [] [I 0, I 3] [] [] trivial ?_
     refine x_ret ?_
     refine xe_ret_then ?_
     refine xe_end (0, 3) (show ((3 = 0 ∧ 0 = tcF l w ∧ tcF l w < 1099511627776) ∨ (3 = 3 ∧ ¬ tcF l w < 1099511627776)) ∧ (True) from ⟨(by first | exact .inr ⟨rfl, by omega⟩ | exact .inl ⟨rfl, rfl, by omega⟩), trivial⟩) (trivial) (.tup [I 0, I 3]) (by kernel_rfl) (.inl rfl) (fun _ => rfl) (fun _ => (by simp [tagged, taggedL]))
    refine x_r [(1, .dec false)] [6, 14] [] [I (tcF l w), Bv false] [] [¬ ((tcF l w) = 1099511627776)] ⟨h1, trivial⟩ ?_
    refine xe_then ?_
    refine x_false rfl ?_
    refine x_skip ?_
    refine xe_then ?_
    refine xR [] [4, 5] [] [I (tcF l w), I 0] [] [] trivial ?_
    refine x_ret ?_
    refine xe_end ((tcF l w), 0) (show ((0 = 0 ∧ (tcF l w) = tcF l w ∧ tcF l w < 1099511627776) ∨ (0 = 3 ∧ ¬ tcF l w < 1099511627776)) ∧ (True) from ⟨(by first | exact .inr ⟨rfl, by omega⟩ | exact .inl ⟨rfl, rfl, by omega⟩), trivial⟩) (trivial) (.tup [I (tcF l w), I 0]) (by kernel_rfl) (.inl rfl) (fun _ => rfl) (fun _ => (by simp [tagged, taggedL]))
  obtain ⟨⟨v, c⟩, ⟨hh0, _⟩, hc⟩ := hh
  exact ⟨v, c, hh0, hc⟩





def strB (xs : List Int) : ByteArray := ⟨(xs.map fun n => UInt8.ofNat n.toNat).toArray⟩
def bytesL (s : ByteArray) : List Int := s.data.toList.map fun b => (b.toNat : Int)
@[simp] theorem bytesL_len (s : ByteArray) : (bytesL s).length = s.size := by unfold bytesL; rw [List.length_map, Array.length_toList]; rfl

def decB (n : Int) : ByteArray := ⟨(Lib.itoa n).toArray⟩
def digs (u : Nat) : List Int := if h : u = 0 then [] else digs (u / 10) ++ [48 + ((u % 10 : Nat) : Int)]
termination_by u
decreasing_by omega
theorem digs_zero : digs 0 = [] := by rw [digs]; simp
theorem digs_pos {u : Nat} (h : u ≠ 0) : digs u = digs (u / 10) ++ [48 + ((u % 10 : Nat) : Int)] := by rw [digs]; simp [h]
theorem digs_len : ∀ (k u : Nat), u < 10 ^ k → (digs u).length ≤ k := by
  intro k
  induction k with
  | zero => intro u h; have : u = 0 := by simpa using h
            subst this; simp [digs_zero]
  | succ k ih =>
    intro u h
    by_cases e : u = 0
    · subst e; simp [digs_zero]
    · rw [digs_pos e]
      have := ih (u / 10) (by rw [Nat.pow_succ] at h; omega)
      simp; omega
theorem digs_dec : ∀ u : Nat, u ≠ 0 → (digs u).map (fun n => UInt8.ofNat n.toNat) = Lib.decDigits u := by
  intro u
  induction u using Nat.strongRecOn with
  | _ u ih =>
    intro e
    rw [digs_pos e, Lib.decDigits, List.map_append]
    by_cases h : u < 10
    · rw [dif_pos h, show u / 10 = 0 by omega, digs_zero]
      simp only [List.map_nil, List.nil_append, List.map_cons]
      congr 2
      omega
    · rw [dif_neg h, ih (u / 10) (by omega) (by omega)]
      simp only [List.map_cons, List.map_nil]
      congr 3
theorem decB_pos {n : Int} (h : 0 < n) : decB n = strB (digs n.natAbs) := by
  unfold decB strB Lib.itoa
  rw [if_neg (by omega), digs_dec _ (by omega), show n.toNat = n.natAbs by omega]
theorem decB_neg {n : Int} (h : n < 0) : decB n = (⟨#[45]⟩ : ByteArray) ++ strB (digs n.natAbs) := by
  unfold decB strB Lib.itoa
  rw [if_pos h, digs_dec _ (by omega)]
  apply ByteArray.ext
  rw [ByteArray.data_append]
  simp
theorem decB_zero : decB 0 = (⟨#[48]⟩ : ByteArray) := by
  unfold decB Lib.itoa
  rw [if_neg (by decide)]
  simp [Lib.decDigits]
theorem strB_size' (xs : List Int) : (strB xs).size = xs.length := by simp [strB, ByteArray.size]
theorem decB_size {n : Int} (h : -9223372036854775808 ≤ n ∧ n ≤ 9223372036854775807) : (decB n).size ≤ 20 := by
  have hl := digs_len 19 n.natAbs (by omega)
  rcases Int.lt_trichotomy n 0 with h1 | h1 | h1
  · rw [decB_neg h1, ByteArray.size_append, strB_size']
    have : (⟨#[45]⟩ : ByteArray).size = 1 := rfl
    omega
  · subst h1; rw [decB_zero]; decide
  · rw [decB_pos h1, strB_size']; omega

-- strconv.FormatInt
theorem formatInt_ok (n base : Int) (h : -9223372036854775808 ≤ n ∧ n ≤ 9223372036854775807) (hb : base = 10) : Con Tryz.prog 100 [I n, I base] true (Sv (decB n)) := by
  subst hb
  refine con_of_calls (vals := [.int .i64 n, .int .i64 10]) fun w hw => ?_
  refine (Tryz.strconv_FormatInt_10 n h.1 h.2 w (WX_tab hw)).mono ?_
  rintro e w' ⟨rfl, k, os, rfl⟩
  exact ⟨rfl, Lib.below_grow _ _ (Nat.le_refl _) k os⟩



-- impl.Decimal
theorem implDecimal_ok (n : Int) (hn : -9223372036854775808 ≤ n ∧ n ≤ 9223372036854775807) : Con Tryz.prog 47 [I n] true (Sv (decB n)) := by
  refine fn_ok (fn := Tryz.f47) (nt := 5) Tryz.func47 rfl rfl rfl rfl (by simp [taggedL, tagged]) fun B hB => ?_
  refine aR [] [0] [] [I n] [] [] hB trivial ?_
  refine aR [(1, .call [(true, .any), (true, .any)] true (Sv (decB n)))] [2] [] [Sv (decB n)] [] [Con Tryz.prog 100 [I n, I 10] true (Sv (decB n)) ∧ True] hB ⟨⟨(formatInt_ok n 10 (by omega) rfl), trivial⟩, trivial⟩ ?_
  refine aw_ret ?_
  refine ae_ret hB (Sv (decB n)) (by kernel_rfl) (.inl rfl) rfl (fun _ => trivial)



def jrest (sep : ByteArray) : List ByteArray → ByteArray
  | [] => ⟨#[]⟩
  | y :: l => (sep ++ y) ++ jrest sep l
def jnB (sep : ByteArray) : List ByteArray → ByteArray
  | [] => ⟨#[]⟩
  | x :: l => x ++ jrest sep l
theorem ba_nilT (x : ByteArray) : x ++ (⟨#[]⟩ : ByteArray) = x := by apply ByteArray.ext; simp
theorem nil_ba (x : ByteArray) : (⟨#[]⟩ : ByteArray) ++ x = x := by apply ByteArray.ext; simp
theorem jrest_snoc (sep y : ByteArray) : ∀ l, jrest sep (l ++ [y]) = (jrest sep l ++ sep) ++ y
  | [] => by simp only [List.nil_append, jrest, ba_nilT, nil_ba]
  | x :: l => by simp only [List.cons_append, jrest, jrest_snoc sep y l, ByteArray.append_assoc]
theorem jnB_snoc {sep y : ByteArray} {l : List ByteArray} (h : l ≠ []) : jnB sep (l ++ [y]) = (jnB sep l ++ sep) ++ y := by
  cases l with
  | nil => exact absurd rfl h
  | cons x l => simp only [List.cons_append, jnB, jrest_snoc, ByteArray.append_assoc]
def jnZ (xs : List ByteArray) : Nat → Nat
  | 0 => 0
  | k + 1 => jnZ xs k + (at_ xs k).size
def noB (c : UInt8) (s : ByteArray) : Prop := c ∉ s.data.toList
def splC (c : UInt8) (s : ByteArray) : List ByteArray := Lib.splitB ⟨#[c]⟩ 0 (Lib.countB s ⟨#[c]⟩) s
theorem indexByte_none (c : UInt8) : ∀ l : List UInt8, c ∉ l → Lib.indexByte l c = -1
  | [], _ => rfl
  | b :: l, h => by
    have h1 : ¬ b = c := fun e => h (by simp [e])
    have h2 := indexByte_none c l (fun e => h (by simp [e]))
    simp [Lib.indexByte, h1, h2]
theorem indexByte_hit (c : UInt8) (r : List UInt8) : ∀ l : List UInt8, c ∉ l → Lib.indexByte (l ++ c :: r) c = (l.length : Int)
  | [], _ => by simp [Lib.indexByte]
  | b :: l, h => by
    have h1 : ¬ b = c := fun e => h (by simp [e])
    have h2 := indexByte_hit c r l (fun e => h (by simp [e]))
    have h3 : ¬ (l.length : Int) = -1 := by omega
    simp [Lib.indexByte, h1, h2, h3]
theorem spl_none {c : UInt8} {s : ByteArray} (h : noB c s) : splC c s = [s] := by
  have hi : Lib.indexB s ⟨#[c]⟩ = -1 := by
    show Lib.index s.data.toList [c] = -1
    rw [Lib.index_one, indexByte_none c _ h]
  unfold splC
  rw [Lib.countB_miss _ _ hi, Lib.splitB_zero]
theorem ext_left (x y : ByteArray) : (x ++ y).extract 0 x.size = x := by
  exact ByteArray.extract_append_eq_left rfl
theorem ext_right (x y : ByteArray) : (x ++ y).extract x.size (x ++ y).size = y := by
  exact ByteArray.extract_append_eq_right rfl ByteArray.size_append
theorem spl_cons {c : UInt8} {x r : ByteArray} (h : noB c x) : splC c ((x ++ ⟨#[c]⟩) ++ r) = x :: splC c r := by
  have hi : Lib.indexB ((x ++ ⟨#[c]⟩) ++ r) ⟨#[c]⟩ = ((x.size : Nat) : Int) := by
    show Lib.index ((x ++ ⟨#[c]⟩) ++ r).data.toList [c] = _
    rw [Lib.index_one]
    have : ((x ++ ⟨#[c]⟩) ++ r).data.toList = x.data.toList ++ c :: r.data.toList := by simp
    rw [this, indexByte_hit c _ _ h]
    rfl
  have hz : (x ++ (⟨#[c]⟩ : ByteArray)).size = x.size + (⟨#[c]⟩ : ByteArray).size := by rw [ByteArray.size_append]
  have he : ((x ++ ⟨#[c]⟩) ++ r).extract (x.size + (⟨#[c]⟩ : ByteArray).size) ((x ++ ⟨#[c]⟩) ++ r).size = r := by
    rw [← hz]; exact ext_right _ _
  have hl : ((x ++ ⟨#[c]⟩) ++ r).extract 0 (x.size + 0) = x := by
    rw [Nat.add_zero, ByteArray.append_assoc]; exact ext_left _ _
  unfold splC
  rw [Lib.countB_hit _ _ _ (show 1 ≤ (⟨#[c]⟩ : ByteArray).size from Nat.le_refl 1) hi, he, Nat.add_comm 1, Lib.splitB_hit _ _ _ _ _ hi, he, hl]
theorem spl_join {c : UInt8} : ∀ {xs : List ByteArray}, xs ≠ [] → (∀ x ∈ xs, noB c x) → splC c (jnB ⟨#[c]⟩ xs) = xs
  | [], h, _ => absurd rfl h
  | [x], _, h => by
    rw [jnB, jrest, ba_nilT]; exact spl_none (h x (by simp))
  | x :: y :: l, _, h => by
    have e : jnB ⟨#[c]⟩ (x :: y :: l) = (x ++ ⟨#[c]⟩) ++ jnB ⟨#[c]⟩ (y :: l) := by simp only [jnB, jrest, ByteArray.append_assoc]
    rw [e, spl_cons (h x (by simp)), spl_join (by simp) fun z hz => h z (by simp [hz])]
theorem noB_app {c : UInt8} {x y : ByteArray} (h1 : noB c x) (h2 : noB c y) : noB c (x ++ y) := by
  unfold noB at *; simp [h1, h2]
theorem noB_nil {c : UInt8} : noB c ⟨#[]⟩ := by simp [noB]
theorem noB_jrest {c : UInt8} {sep : ByteArray} (hs : noB c sep) : ∀ {xs : List ByteArray}, (∀ x ∈ xs, noB c x) → noB c (jrest sep xs)
  | [], _ => noB_nil
  | x :: l, h => noB_app (noB_app hs (h x (by simp))) (noB_jrest hs fun z hz => h z (by simp [hz]))
theorem noB_join {c : UInt8} {sep : ByteArray} (hs : noB c sep) : ∀ {xs : List ByteArray}, (∀ x ∈ xs, noB c x) → noB c (jnB sep xs)
  | [], _ => noB_nil
  | x :: l, h => noB_app (h x (by simp)) (noB_jrest hs fun z hz => h z (by simp [hz]))
theorem decDigits_bytes : ∀ (k u : Nat), u < k → ∀ b ∈ Lib.decDigits u, 48 ≤ b.toNat ∧ b.toNat ≤ 57
  | 0, u, h, _, _ => absurd h (Nat.not_lt_zero _)
  | k + 1, u, h, b, hb => by
    rw [Lib.decDigits] at hb
    split at hb
    · have hb := List.mem_singleton.1 hb; subst hb; rw [UInt8.toNat_ofNat']; omega
    · rcases List.mem_append.1 hb with hb | hb
      · exact decDigits_bytes k (u / 10) (by omega) b hb
      · have hb := List.mem_singleton.1 hb; subst hb; rw [UInt8.toNat_ofNat']; omega
theorem decB_bytes (n : Int) : ∀ b ∈ (decB n).data.toList, b.toNat = 45 ∨ (48 ≤ b.toNat ∧ b.toNat ≤ 57) := fun b hb => by
  have hb : b ∈ Lib.itoa n := by simpa [decB] using hb
  unfold Lib.itoa at hb
  split at hb
  · rcases List.mem_cons.1 hb with e | hb
    · subst e; exact .inl rfl
    · exact .inr (decDigits_bytes _ _ (Nat.lt_succ_self _) b hb)
  · exact .inr (decDigits_bytes _ _ (Nat.lt_succ_self _) b hb)
theorem decB_noB {c : UInt8} (hc : c.toNat < 45 ∨ 57 < c.toNat) (n : Int) : noB c (decB n) := fun h => by
  have := decB_bytes n c h
  omega
theorem decDigits_ne (u : Nat) : Lib.decDigits u ≠ [] := by rw [Lib.decDigits]; split <;> simp
theorem puM_app (M : Nat) : ∀ (l r : List UInt8) (acc : Nat), Lib.parseUintM M acc (l ++ r) = match Lib.parseUintM M acc l with | .ok v => Lib.parseUintM M v r | .«syntax» => .«syntax» | .range => .range
  | [], r, acc => rfl
  | c :: l, r, acc => by
    simp only [List.cons_append, Lib.parseUintM]
    split
    · split
      · rfl
      · split
        · rfl
        · exact puM_app M l r _
    · rfl
theorem puM_dec {M : Nat} (hM : 1000000000000000000 ≤ M) : ∀ (k u : Nat), u < k → u < 1000000000000000000 → Lib.parseUintM M 0 (Lib.decDigits u) = .ok u
  | 0, u, h, _ => absurd h (Nat.not_lt_zero _)
  | k + 1, u, h, h2 => by
    rw [Lib.decDigits]
    split
    · rename_i h3
      have e : (UInt8.ofNat (48 + u)).toNat = 48 + u := by rw [UInt8.toNat_ofNat']; omega
      simp only [Lib.parseUintM, e]
      rw [if_pos (by omega), if_neg (by omega), if_neg (by omega)]
      simp
    · rename_i h3
      rw [puM_app, puM_dec hM k (u / 10) (by omega) (by omega)]
      have e : (UInt8.ofNat (48 + u % 10)).toNat = 48 + u % 10 := by rw [UInt8.toNat_ofNat']; omega
      simp only [Lib.parseUintM, e]
      rw [if_pos (by omega), if_neg (by omega), if_neg (by omega)]
      congr 1
      omega
theorem parse_dec {n : Int} (h : -1000000000000000000 < n ∧ n < 1000000000000000000) : Lib.parseIntB 64 (decB n).data.toList = .ok n := by
  have e : (decB n).data.toList = Lib.itoa n := by simp [decB]
  rw [e]
  unfold Lib.itoa
  split
  · rename_i h0
    rw [Lib.parseIntB_minus]
    unfold Lib.parseUintB
    rw [if_neg (decDigits_ne _), puM_dec (by decide) _ _ (Nat.lt_succ_self _) (by omega)]
    simp only [Lib.signedC]
    rw [if_neg (by omega)]
    congr 1
    omega
  · rename_i h0
    obtain ⟨c, r, hc⟩ : ∃ c r, Lib.decDigits n.toNat = c :: r := by
      cases h : Lib.decDigits n.toNat with
      | nil => exact absurd h (decDigits_ne _)
      | cons c r => exact ⟨c, r, rfl⟩
    have hb := decDigits_bytes _ n.toNat (Nat.lt_succ_self _) c (by rw [hc]; simp)
    rw [hc, Lib.parseIntB_plain 64 c r (by omega) (by omega), ← hc]
    unfold Lib.parseUintB
    rw [if_neg (decDigits_ne _), puM_dec (by decide) _ _ (Nat.lt_succ_self _) (by omega)]
    simp only [Lib.signlessC]
    rw [if_neg (by omega)]
    congr 1
    omega
theorem decB_inj {m n : Int} (hm : -1000000000000000000 < m ∧ m < 1000000000000000000) (hn : -1000000000000000000 < n ∧ n < 1000000000000000000) (h : decB m = decB n) : m = n := by
  have h1 := parse_dec hm
  rw [h, parse_dec hn] at h1
  cases h1; rfl


theorem con_of_calls_sl {P : Program} {f : FuncId} {vals : List Value} {n : Nat} {T : TypeId} {cs : Array Value} {g : Nat → Value} (hn : n ≤ maxLen) (hc : ∀ i, i < n → cs[i]? = some (g i) ∧ (g i).oneCell' = true)
    (h : ∀ w, WX w → Calls P f vals.toArray w fun e w' => e = .returned (.slice (some ⟨w.heap.size, 0, none⟩) n n) ∧ w' = w.alloc (.cells cs T)) : Con P f (vals.map .val) true (.sl true 1 n fun i => [.val (g i)]) := by
  intro B vals' hbo hm hr
  have : vals' = vals := by
    have hl := hr.1
    simp at hl
    apply List.ext_getElem hl.symm
    intro i h1 h2
    have := hr.2 i (.val vals[i]) vals'[i] (by simp [List.getElem?_map, List.getElem?_eq_getElem h2]) (List.getElem?_eq_getElem h1)
    generalize vals[i] = x at *
    generalize vals'[i] = y at *
    cases this with | tree _ _ h => cases h; rfl
  subst this
  refine (h B.w0 (hm.glob _ (Kept.refl _ _))).mono ?_
  rintro e w' ⟨rfl, rfl⟩
  have hk : Kept B.w0 (fun _ => False) (B.w0.alloc (.cells cs T)) := ⟨rfl, rfl, rfl, by simp, fun k hk _ => Go.heap_alloc_old _ _ hk⟩
  have hnew := heap_alloc_new B.w0 (.cells cs T)
  refine ⟨_, B.κ0, rfl, hm.world hk, .tree _ _ (.sl true 1 n _ B.w0.heap.size 0 n (fun i _ => g i) ⟨(Array.getElem?_eq_some_iff.1 hnew).1, ⟨fun _ => .inl (Nat.le_refl _), fun h => absurd (.inl (Nat.le_refl _)) h⟩, fun i hi => absurd rfl hi⟩ (Nat.le_refl _) hn (fun _ _ => rfl) (fun i j hi hj => ?_) fun i j u hi hu => ?_)⟩
  · have : j = 0 := by omega
    subst this
    refine ⟨?_, (hc i hi).2⟩
    have := (hc i hi).1
    rw [Lib.cell_of_heap hnew]
    simpa using this
  · cases j with
    | zero => simp at hu; subst hu; exact .val _
    | succ j => simp at hu
theorem splB_length {sep s : ByteArray} (h1 : sep.size = 1) : (Lib.splitB sep 0 (Lib.countB s sep) s).length = Lib.countB s sep + 1 := Lib.splitB_all sep (by omega) 0 _ s rfl


def splB (sep s : ByteArray) : List ByteArray := Lib.splitB sep 0 (Lib.countB s sep) s
theorem splB_C (c : UInt8) (s : ByteArray) : splB ⟨#[c]⟩ s = splC c s := rfl
def sufB (s p : ByteArray) : Bool := Lib.hasSuffix s.data.toList p.data.toList
def trsB (s p : ByteArray) : ByteArray := ⟨(Lib.trimSuffix s.data.toList p.data.toList).toArray⟩
def trpB (s p : ByteArray) : ByteArray := ⟨(Lib.trimPrefix s.data.toList p.data.toList).toArray⟩
theorem sufB_app (x y : ByteArray) : sufB (x ++ y) y = true := by simp [sufB, Lib.hasSuffix]
theorem trsB_app (x y : ByteArray) : trsB (x ++ y) y = x := by
  unfold trsB Lib.trimSuffix
  have h := sufB_app x y
  unfold sufB at h
  rw [if_pos h]
  apply ByteArray.ext
  simp


def jok (sep : ByteArray) (xs : List ByteArray) : Prop := sep.size ≤ 8 ∧ xs.length ≤ 100000 ∧ (xs ≠ [] → jnZ xs xs.length + sep.size * (xs.length - 1) ≤ 1000000000)
theorem jnB_one (sep : ByteArray) {xs : List ByteArray} (h : xs.length = 1) : jnB sep xs = at_ xs 0 := by
  match xs, h with
  | [x], _ => simp [jnB, jrest, ba_nilT, at_]
theorem jnB_take {sep : ByteArray} {xs : List ByteArray} {k : Nat} (h : k + 1 < xs.length) : jnB sep (xs.take (k + 2)) = (jnB sep (xs.take (k + 1)) ++ sep) ++ at_ xs (k + 1) := by
  rw [show xs.take (k + 2) = xs.take (k + 1) ++ [at_ xs (k + 1)] from by rw [List.take_succ_eq_append_getElem h, at_eq h], jnB_snoc]
  intro e
  have h2 : (xs.take (k + 1)).length = k + 1 := by rw [List.length_take]; omega
  rw [e] at h2
  simp at h2
theorem jnB_take1 {sep : ByteArray} {xs : List ByteArray} (h : 1 ≤ xs.length) : jnB sep (xs.take 1) = at_ xs 0 := by
  have e : (xs.take 1).length = 1 := by simp; omega
  rw [jnB_one sep e]
  simp [at_]


def isDec (s : ByteArray) : Prop := ∃ n : Int, (-1000000000000000000 < n ∧ n < 1000000000000000000) ∧ s = decB n
def dcV (s : ByteArray) : Int := match Lib.parseIntB 64 s.data.toList with | .ok v => v | _ => 0
theorem dcV_dec {n : Int} (h : -1000000000000000000 < n ∧ n < 1000000000000000000) : dcV (decB n) = n := by unfold dcV; rw [parse_dec h]
theorem ddLen : ∀ (k u : Nat), 1 ≤ k → u < 10 ^ k → (Lib.decDigits u).length ≤ k
  | 0, _, h, _ => absurd h (by decide)
  | k + 1, u, _, h => by
    rw [Lib.decDigits]
    split
    · simp
    · rename_i h3
      rw [List.length_append]
      by_cases hk : k = 0
      · subst hk; omega
      · have := ddLen k (u / 10) (by omega) (by rw [Nat.pow_succ] at h; omega)
        simp only [List.length_cons, List.length_nil]; omega
theorem trp_dec {n : Int} (h : -1000000000000000000 < n ∧ n < 1000000000000000000) : 1 ≤ (Lib.trimPrefix (decB n).data.toList [45]).length ∧ (Lib.trimPrefix (decB n).data.toList [45]).length ≤ 18 := by
  have e : (decB n).data.toList = Lib.itoa n := by simp [decB]
  have hne : ∀ u, 1 ≤ (Lib.decDigits u).length := fun u => List.length_pos_iff.2 (decDigits_ne u)
  rw [e]
  unfold Lib.itoa
  split
  · have : Lib.trimPrefix (45 :: Lib.decDigits n.natAbs) [45] = Lib.decDigits n.natAbs := by simp [Lib.trimPrefix, Lib.hasPrefix]
    rw [this]
    exact ⟨hne _, ddLen 18 _ (by decide) (by omega)⟩
  · have hl := ddLen 18 n.toNat (by decide) (by omega)
    have h1 := hne n.toNat
    obtain ⟨c, r, hc⟩ : ∃ c r, Lib.decDigits n.toNat = c :: r := by
      cases h : Lib.decDigits n.toNat with
      | nil => exact absurd h (decDigits_ne _)
      | cons c r => exact ⟨c, r, rfl⟩
    have hb := decDigits_bytes _ n.toNat (Nat.lt_succ_self _) c (by rw [hc]; simp)
    have : Lib.trimPrefix (Lib.decDigits n.toNat) [45] = Lib.decDigits n.toNat := by
      have h2 : ¬ (45 : UInt8) = c := fun e => by subst e; have : (45 : UInt8).toNat = 45 := rfl; omega
      rw [hc]
      simp [Lib.trimPrefix, Lib.hasPrefix, h2]
    rw [this]
    exact ⟨h1, hl⟩
theorem con_of_calls2 {P : Program} {f : FuncId} {vals : List Value} {v u : Value} {fr : Bool} (h : ∀ w, WX w → Calls P f vals.toArray w fun e w' => e = .returned (.tuple #[v, u]) ∧ Below w.heap.size w w') : Con P f (vals.map .val) fr (.tup [.val v, .val u]) := by
  intro B vals' hbo hm hr
  have h1 := con_of_calls (fr := fr) h B vals' hbo hm hr
  refine h1.mono ?_
  rintro e w' ⟨v', κ', rfl, h2, h3⟩
  refine ⟨v', κ', rfl, h2, ?_⟩
  have e : v' = .tuple #[v, u] := h3.val_of
  subst e
  exact .tup _ _ rfl fun q a x ha hx => by
    match q, ha, hx with
    | 0, ha, hx => simp at ha hx; subst ha; subst hx; exact .tree _ _ (.val _)
    | 1, ha, hx => simp at ha hx; subst ha; subst hx; exact .tree _ _ (.val _)
    | q + 2, ha, _ => simp at ha




def comB (xs : List Int) : ByteArray := jnB ⟨#[44]⟩ (xs.map decB)
def bndI (xs : List Int) : Prop := xs.length ≤ 1000 ∧ ∀ x ∈ xs, -1000000000000000000 < x ∧ x < 1000000000000000000
def dcs (s : ByteArray) : List Int := (splB ⟨#[44]⟩ s).map dcV
theorem trsB_size (s p : ByteArray) : (trsB s p).size ≤ s.size := by
  show (Lib.trimSuffix s.data.toList p.data.toList).toArray.size ≤ s.data.size
  unfold Lib.trimSuffix
  split
  · simp
  · simp
def linB (s : ByteArray) : List ByteArray := if s = ⟨#[]⟩ then [] else splB ⟨#[10]⟩ (trsB s ⟨#[10]⟩)
def linesX : List ByteArray → Nat → ByteArray
  | _, 0 => ⟨#[]⟩
  | ls, k + 1 => linesX ls k ++ (at_ ls k ++ ⟨#[10]⟩)
theorem linesX_join {ls : List ByteArray} : ∀ {k}, k < ls.length → linesX ls (k + 1) = jnB ⟨#[10]⟩ (ls.take (k + 1)) ++ ⟨#[10]⟩
  | 0, h => by rw [linesX, linesX, nil_ba, jnB_take1 h]
  | k + 1, h => by
    rw [linesX, linesX_join (by omega), jnB_take (by omega)]
    simp only [ByteArray.append_assoc]
theorem linesX_ne {ls : List ByteArray} {k : Nat} : linesX ls (k + 1) ≠ ⟨#[]⟩ := fun e => by
  have := congrArg ByteArray.size e
  simp only [linesX, ByteArray.size_append] at this
  have h1 : (⟨#[10]⟩ : ByteArray).size = 1 := rfl
  have h2 : (⟨#[]⟩ : ByteArray).size = 0 := rfl
  omega
theorem linesX_all {ls : List ByteArray} (h : ls ≠ []) : ∃ k, ls.length = k + 1 ∧ linesX ls ls.length = jnB ⟨#[10]⟩ ls ++ ⟨#[10]⟩ := by
  obtain ⟨k, hk⟩ : ∃ k, ls.length = k + 1 := ⟨ls.length - 1, by have := List.length_pos_iff.2 h; omega⟩
  refine ⟨k, hk, ?_⟩
  rw [hk, linesX_join (by omega), ← hk, List.take_length]
theorem lin_lines {ls : List ByteArray} (hl : ∀ l ∈ ls, noB 10 l) : linB (linesX ls ls.length) = ls := by
  by_cases h : ls = []
  · subst h; simp [linB, linesX]
  · obtain ⟨k, hk, e⟩ := linesX_all h
    unfold linB
    rw [if_neg (by rw [hk]; exact linesX_ne), e, trsB_app, splB_C, spl_join h hl]
theorem suf_lines {ls : List ByteArray} (h : ls ≠ []) : sufB (linesX ls ls.length) ⟨#[10]⟩ = true := by
  obtain ⟨k, hk, e⟩ := linesX_all h
  rw [e]; exact sufB_app _ _
def linOk (s : ByteArray) : Prop := s.size ≤ 10000000 ∧ (s = ⟨#[]⟩ ∨ sufB s ⟨#[10]⟩ = true)
theorem linOk_lines {ls : List ByteArray} (hz : (linesX ls ls.length).size ≤ 10000000) : linOk (linesX ls ls.length) := by
  refine ⟨hz, ?_⟩
  by_cases h : ls = []
  · subst h; exact .inl rfl
  · exact .inr (suf_lines h)
theorem linesX_size {ls : List ByteArray} {B : Nat} (h : ∀ l ∈ ls, l.size ≤ B) : ∀ k, k ≤ ls.length → (linesX ls k).size ≤ (B + 1) * k
  | 0, _ => Nat.zero_le _
  | k + 1, hk => by
    have h1 := linesX_size h k (by omega)
    have h2 := h _ (at_mem (show k < ls.length from hk))
    have h3 : (⟨#[10]⟩ : ByteArray).size = 1 := rfl
    rw [linesX, ByteArray.size_append, ByteArray.size_append, Nat.mul_succ]; omega




def hdT : ByteArray := ⟨#[108, 97, 116, 116, 105, 99, 101, 32]⟩
def wT : ByteArray := ⟨#[108, 97, 116, 116, 105, 99, 101]⟩
def edLn (e : Edge) : ByteArray := (((((decB e.From ++ ⟨#[32]⟩) ++ decB e.To) ++ ⟨#[32]⟩) ++ e.Label) ++ ⟨#[32]⟩) ++ decB e.Cost
def ltLns (l : Lattice) : List ByteArray := (hdT ++ decB l.Nodes) :: l.Edges.map edLn
def ltTx (l : Lattice) : ByteArray := linesX (ltLns l) (l.Edges.length + 1)
theorem at_mapT {α β : Type} [Inhabited α] [Inhabited β] {xs : List α} {f : α → β} {k : Nat} (h : k < xs.length) : at_ (xs.map f) k = f (at_ xs k) := by simp [at_, h]
theorem ltLns_at {l : Lattice} {k : Nat} (h : k < l.Edges.length) : at_ (ltLns l) (k + 1) = edLn (at_ l.Edges k) := by
  have : at_ (ltLns l) (k + 1) = at_ (l.Edges.map edLn) k := by simp [ltLns, at_]
  rw [this, at_mapT h]
theorem ed_sz {l : Lattice} {e : Edge} (hl : okLat l) (h : okEd l e) : e.Label.size = 1 ∧ (decB e.From).size ≤ 20 ∧ (decB e.To).size ≤ 20 ∧ (decB e.Cost).size ≤ 20 := by
  have h1 := h.1
  have h2 := h.2.1
  have h3 := hl.1
  exact ⟨lab_size h.2.2, decB_size (by omega), decB_size (by omega), decB_size (by omega)⟩
theorem edLn_size {l : Lattice} {e : Edge} (hl : okLat l) (h : okEd l e) : (edLn e).size ≤ 64 := by
  have := ed_sz hl h
  have e2 : (⟨#[32]⟩ : ByteArray).size = 1 := rfl
  unfold edLn
  simp only [ByteArray.size_append]
  omega
theorem ltLns_size {l : Lattice} (hl : okLat l) : ∀ y ∈ ltLns l, y.size ≤ 64 := fun y hy => by
  rcases List.mem_cons.1 hy with rfl | hy
  · have := decB_size (n := l.Nodes) (by have := hl.1; omega)
    have e1 : hdT.size = 8 := rfl
    rw [ByteArray.size_append]; omega
  · obtain ⟨t, ht, rfl⟩ := List.mem_map.1 hy
    exact edLn_size hl (ed_ok hl ht)
theorem ltL_size {l : Lattice} (hl : okLat l) {k : Nat} (hk : k ≤ l.Edges.length + 1) : (linesX (ltLns l) k).size ≤ 20000 := by
  have h1 := linesX_size (ltLns_size hl) k (by simp [ltLns]; exact hk)
  have := hl.2.1
  omega
theorem labL_noB {s : ByteArray} (h : okLabel s = true) {c : UInt8} (hc : labB ((c.toNat : Nat) : Int) = false) : noB c s := fun hm => by
  obtain ⟨j, hj, e⟩ := List.getElem_of_mem hm
  have h1 := lab_size h
  have hj2 : j < s.size := by rwa [Array.length_toList] at hj
  have hj0 : j = 0 := by omega
  have e2 : bAt s 0 = ((c.toNat : Nat) : Int) := by
    subst hj0
    unfold bAt; rw [List.getD_eq_getElem?_getD, List.getElem?_eq_getElem hj, e]; rfl
  simp only [okLabel, Bool.and_eq_true] at h
  rw [e2, hc] at h; cases h.2
theorem ed_jn (e : Edge) : edLn e = jnB ⟨#[32]⟩ [decB e.From, decB e.To, e.Label, decB e.Cost] := by
  unfold edLn
  simp only [jnB, jrest, ba_nilT, ByteArray.append_assoc]
theorem ed_words {e : Edge} (h : okLabel e.Label = true) : splB ⟨#[32]⟩ (edLn e) = [decB e.From, decB e.To, e.Label, decB e.Cost] := by
  rw [ed_jn]
  refine spl_join (c := 32) (by simp) fun y hy => ?_
  simp only [List.mem_cons, List.not_mem_nil, or_false] at hy
  rcases hy with rfl | rfl | rfl | rfl
  · exact decB_noB (by decide) _
  · exact decB_noB (by decide) _
  · exact labL_noB h (by decide)
  · exact decB_noB (by decide) _
theorem hdT_words (n : Int) : splB ⟨#[32]⟩ (hdT ++ decB n) = [wT, decB n] := by
  have e : hdT ++ decB n = jnB ⟨#[32]⟩ [wT, decB n] := by
    have : hdT = wT ++ ⟨#[32]⟩ := by decide
    simp only [jnB, jrest, ba_nilT, this, ByteArray.append_assoc]
  rw [e]
  refine spl_join (c := 32) (by simp) fun y hy => ?_
  simp only [List.mem_cons, List.not_mem_nil, or_false] at hy
  rcases hy with rfl | rfl
  · unfold noB; decide
  · exact decB_noB (by decide) n
theorem lt_lines {l : Lattice} (hl : okLat l) : linB (ltTx l) = ltLns l ∧ linOk (ltTx l) := by
  have hlen : (ltLns l).length = l.Edges.length + 1 := by simp [ltLns]
  have e : ltTx l = linesX (ltLns l) (ltLns l).length := by rw [hlen]; rfl
  rw [e]
  refine ⟨lin_lines fun y hy => ?_, linOk_lines (by rw [hlen]; exact Nat.le_trans (ltL_size hl (Nat.le_refl _)) (by decide))⟩
  rcases List.mem_cons.1 hy with rfl | hy
  · exact noB_app (by unfold noB; decide) (decB_noB (by decide) _)
  · obtain ⟨t, ht, rfl⟩ := List.mem_map.1 hy
    rw [ed_jn]
    refine noB_join (by simp [noB]) fun z hz => ?_
    have hb := ed_ok hl ht
    simp only [List.mem_cons, List.not_mem_nil, or_false] at hz
    rcases hz with rfl | rfl | rfl | rfl
    · exact decB_noB (by decide) _
    · exact decB_noB (by decide) _
    · exact labL_noB hb.2.2 (by decide)
    · exact decB_noB (by decide) _
def rdEd (s : ByteArray) : Edge := ⟨dcV (at_ (splB ⟨#[32]⟩ s) 0), dcV (at_ (splB ⟨#[32]⟩ s) 1), at_ (splB ⟨#[32]⟩ s) 2, dcV (at_ (splB ⟨#[32]⟩ s) 3)⟩
theorem ed_rd {l : Lattice} {e : Edge} (hl : okLat l) (h : okEd l e) : rdEd (edLn e) = e := by
  unfold rdEd
  rw [ed_words h.2.2]
  have h1 := h.1
  have h2 := h.2.1
  have h3 := hl.1
  show (⟨dcV (decB e.From), dcV (decB e.To), e.Label, dcV (decB e.Cost)⟩ : Edge) = e
  rw [dcV_dec (by omega), dcV_dec (by omega), dcV_dec (by omega)]
theorem lt_inj {l m : Lattice} (hl : okLat l) (hm : okLat m) (e : ltTx l = ltTx m) : l = m := by
  have q := (lt_lines hl).1
  rw [e, (lt_lines hm).1] at q
  simp only [ltLns, List.cons.injEq] at q
  have e1 : l.Nodes = m.Nodes := by
    have w1 := hdT_words l.Nodes
    rw [← q.1, hdT_words] at w1
    simp only [List.cons.injEq, and_true, true_and] at w1
    exact (decB_inj (by have := hm.1; omega) (by have := hl.1; omega) w1).symm
  have e2 : l.Edges = m.Edges := by
    have w := congrArg (List.map rdEd) q.2
    rw [List.map_map, List.map_map] at w
    have a : ∀ {l : Lattice}, okLat l → l.Edges.map (rdEd ∘ edLn) = l.Edges := fun {l} hl => by
      conv => rhs; rw [← List.map_id l.Edges]
      exact List.map_congr_left fun t ht => ed_rd hl (ed_ok hl ht)
    rw [a hm, a hl] at w
    exact w.symm
  cases l; cases m; simp_all


-- impl.LatticeText
theorem LatticeText_ok (l : Lattice) (hl : okLat l) : Con Tryz.prog 14 [agLattice l] true (Sv (ltTx l)) := by
  have hb := hl.1
  have hn200 := hl.2.1
  have hdz := decB_size (n := l.Nodes) (by omega)
  have h00 : (⟨#[]⟩ : ByteArray).size = 0 := rfl
  have h10 : (⟨#[10]⟩ : ByteArray).size = 1 := rfl
  have h32 : (⟨#[32]⟩ : ByteArray).size = 1 := rfl
  have hq1 : (⟨#[108, 97, 116, 116, 105, 99, 101, 32]⟩ : ByteArray).size = 8 := rfl
  refine fn_ok (fn := Tryz.f14) (nt := 43) Tryz.func14 rfl rfl rfl rfl (by simp [taggedL, tagged, tagEdge]) fun B hB => ?_
  refine aw_lens (x := agLattice l) 0 rfl (fun len_l => ?_)
  simp [LenOK, LenL, cEdge, fEdge, slEdge] at len_l
  refine aR [(0, .new 1)] [1] [1] [.ref 1 0] [some (bxLattice l)] [] hB trivial ?_
  refine aw_seq ?_
  refine aR [(1, .call [(true, .any)] true (Bv true))] [1, 8] [1] [.ref 1 0, Bv false] [some (bxLattice l)] [Con Tryz.prog 39 [agLattice l] true (Bv true) ∧ True] hB ⟨⟨(ValidLattice_ok l hl), trivial⟩, trivial⟩ ?_
  refine aw_false rfl ?_
  refine aw_skip ?_
  refine ae_then ?_
  refine aR [(0, .newb 3 60006 5)] [1, 3] [1, 3, 60006] [.ref 1 0, .ref 3 0] [some (bxLattice l), some (.bld 103 60006), some (.buf 5 false (⟨#[]⟩ : ByteArray))] [] hB trivial ?_
  refine aR [(2, .call [(true, .any)] true (Sv (decB l.Nodes))), (5, .bw 3 60006 60007 (.string (((⟨#[108, 97, 116, 116, 105, 99, 101, 32]⟩ : ByteArray) ++ (decB l.Nodes)) ++ (⟨#[10]⟩ : ByteArray))) false (((⟨#[108, 97, 116, 116, 105, 99, 101, 32]⟩ : ByteArray) ++ (decB l.Nodes)) ++ (⟨#[10]⟩ : ByteArray)))] [1, 3] [1, 3, 60007] [.ref 1 0, .ref 3 0] [some (bxLattice l), some (.bld 103 60007), some (.buf 5 false ((⟨#[]⟩ : ByteArray) ++ (((⟨#[108, 97, 116, 116, 105, 99, 101, 32]⟩ : ByteArray) ++ (decB l.Nodes)) ++ (⟨#[10]⟩ : ByteArray))))] [Con Tryz.prog 47 [I l.Nodes] true (Sv (decB l.Nodes)) ∧ True, (⟨#[108, 97, 116, 116, 105, 99, 101, 32]⟩ : ByteArray).size + (decB l.Nodes).size ≤ 9223372036854775807, ((⟨#[108, 97, 116, 116, 105, 99, 101, 32]⟩ : ByteArray) ++ (decB l.Nodes)).size + (⟨#[10]⟩ : ByteArray).size ≤ 9223372036854775807, ([.ref 3 0, Sv (((⟨#[108, 97, 116, 116, 105, 99, 101, 32]⟩ : ByteArray) ++ (decB l.Nodes)) ++ (⟨#[10]⟩ : ByteArray))] : List AV) = [.ref 3 0, Sv (((⟨#[108, 97, 116, 116, 105, 99, 101, 32]⟩ : ByteArray) ++ (decB l.Nodes)) ++ (⟨#[10]⟩ : ByteArray))] ∧ BwOK Tryz.prog 46 103 5 (.string (((⟨#[108, 97, 116, 116, 105, 99, 101, 32]⟩ : ByteArray) ++ (decB l.Nodes)) ++ (⟨#[10]⟩ : ByteArray))) false (⟨#[]⟩ : ByteArray) false (((⟨#[108, 97, 116, 116, 105, 99, 101, 32]⟩ : ByteArray) ++ (decB l.Nodes)) ++ (⟨#[10]⟩ : ByteArray))] hB ⟨⟨(implDecimal_ok l.Nodes (by omega)), trivial⟩, (by (try simp only [ByteArray.size_append]); omega), (by (try simp only [ByteArray.size_append]); omega), ⟨rfl, bw_ok (by (try simp only [ByteArray.size_append]); omega)⟩, trivial⟩ ?_
  refine aw_seq ?_
  refine aR [] [3, 16, 17, 18] [3, 60007] [.ref 3 0, slEdge false l.Edges, I (l.Edges.length : Int), I 0] [some (.bld 103 60007), some (.buf 5 false ((⟨#[]⟩ : ByteArray) ++ (((⟨#[108, 97, 116, 116, 105, 99, 101, 32]⟩ : ByteArray) ++ (decB l.Nodes)) ++ (⟨#[10]⟩ : ByteArray))))] [] hB trivial ?_
  refine aw_block ?_
  refine aw_loop (fun gn gσ => ∃ (k : Int) (tx : ByteArray), gn = ((l.Edges.length : Int) - k).toNat ∧ (0 ≤ k ∧ k ≤ (l.Edges.length : Int)) ∧ (tx = linesX (ltLns l) (k.toNat + 1)) ∧ gσ = mkS [(3, .ref 3 0), (16, slEdge false l.Edges), (17, I (l.Edges.length : Int)), (18, I k)] [(3, .bld 103 60007), (60007, .buf 5 false tx)]) (((l.Edges.length : Int) - 0).toNat) ⟨0, ((⟨#[]⟩ : ByteArray) ++ (((⟨#[108, 97, 116, 116, 105, 99, 101, 32]⟩ : ByteArray) ++ (decB l.Nodes)) ++ (⟨#[10]⟩ : ByteArray))), rfl, (by omega), (by (show _ = linesX (ltLns l) (0 + 1); simp only [linesX, nil_ba]; rfl)), rfl⟩ (fun gn gσ hI => ?_)
  obtain ⟨k, tx, rfl, hi0, htx, rfl⟩ := hI
  refine aw_seq ?_
  by_cases h1 : k < (l.Edges.length : Int)
  ·have hi : k.toNat < l.Edges.length := by omega
   have hed := hl.2.2.1 _ hi
   have hes := ed_sz hl hed
   have he1 := hed.1
   have he2 := hed.2.1
   have hlz := edLn_size hl hed
   have hzl := ltL_size hl (k := k.toNat + 1) (by omega)
   rw [← htx] at hzl
   have hks : (k + 1).toNat = k.toNat + 1 := by omega
   refine aw_r [(0, .dec true)] [3, 16, 17, 18, 19] [3, 60007] [.ref 3 0, slEdge false l.Edges, I (l.Edges.length : Int), I k, Bv true] [some (.bld 103 60007), some (.buf 5 false tx)] [k < (l.Edges.length : Int)] hB ⟨h1, trivial⟩ ?_
   refine ae_then ?_
   refine aw_seq ?_
   refine aw_true rfl ?_
   refine aw_skip ?_
   refine ae_then ?_
   refine aw_seq ?_
   refine aw_block ?_
   refine aR [(2, .new 5)] [3, 5, 16, 17, 18] [3, 5, 60007] [.ref 3 0, .ref 5 0, slEdge false l.Edges, I (l.Edges.length : Int), I k] [some (.bld 103 60007), some (bxEdge (at_ l.Edges k.toNat)), some (.buf 5 false tx)] [(0 : Int) ≤ k ∧ k < (l.Edges.length : Int)] hB ⟨⟨(by omega), (by omega)⟩, trivial⟩ ?_
   refine aw_r [(2, .call [(true, .any)] true (Sv (decB ((at_ l.Edges k.toNat).From)))), (6, .call [(true, .any)] true (Sv (decB ((at_ l.Edges k.toNat).To)))), (15, .call [(true, .any)] true (Sv (decB ((at_ l.Edges k.toNat).Cost)))), (18, .bw 3 60007 60006 (.string ((((((((decB ((at_ l.Edges k.toNat).From)) ++ (⟨#[32]⟩ : ByteArray)) ++ (decB ((at_ l.Edges k.toNat).To))) ++ (⟨#[32]⟩ : ByteArray)) ++ ((at_ l.Edges k.toNat).Label)) ++ (⟨#[32]⟩ : ByteArray)) ++ (decB ((at_ l.Edges k.toNat).Cost))) ++ (⟨#[10]⟩ : ByteArray))) false ((((((((decB ((at_ l.Edges k.toNat).From)) ++ (⟨#[32]⟩ : ByteArray)) ++ (decB ((at_ l.Edges k.toNat).To))) ++ (⟨#[32]⟩ : ByteArray)) ++ ((at_ l.Edges k.toNat).Label)) ++ (⟨#[32]⟩ : ByteArray)) ++ (decB ((at_ l.Edges k.toNat).Cost))) ++ (⟨#[10]⟩ : ByteArray)))] [3, 16, 17, 18] [3, 60006] [.ref 3 0, slEdge false l.Edges, I (l.Edges.length : Int), I k] [some (.bld 103 60006), some (.buf 5 false (tx ++ ((((((((decB ((at_ l.Edges k.toNat).From)) ++ (⟨#[32]⟩ : ByteArray)) ++ (decB ((at_ l.Edges k.toNat).To))) ++ (⟨#[32]⟩ : ByteArray)) ++ ((at_ l.Edges k.toNat).Label)) ++ (⟨#[32]⟩ : ByteArray)) ++ (decB ((at_ l.Edges k.toNat).Cost))) ++ (⟨#[10]⟩ : ByteArray))))] [Con Tryz.prog 47 [I ((at_ l.Edges k.toNat).From)] true (Sv (decB ((at_ l.Edges k.toNat).From))) ∧ True, (decB ((at_ l.Edges k.toNat).From)).size + (⟨#[32]⟩ : ByteArray).size ≤ 9223372036854775807, Con Tryz.prog 47 [I ((at_ l.Edges k.toNat).To)] true (Sv (decB ((at_ l.Edges k.toNat).To))) ∧ True, ((decB ((at_ l.Edges k.toNat).From)) ++ (⟨#[32]⟩ : ByteArray)).size + (decB ((at_ l.Edges k.toNat).To)).size ≤ 9223372036854775807, (((decB ((at_ l.Edges k.toNat).From)) ++ (⟨#[32]⟩ : ByteArray)) ++ (decB ((at_ l.Edges k.toNat).To))).size + (⟨#[32]⟩ : ByteArray).size ≤ 9223372036854775807, ((((decB ((at_ l.Edges k.toNat).From)) ++ (⟨#[32]⟩ : ByteArray)) ++ (decB ((at_ l.Edges k.toNat).To))) ++ (⟨#[32]⟩ : ByteArray)).size + ((at_ l.Edges k.toNat).Label).size ≤ 9223372036854775807, (((((decB ((at_ l.Edges k.toNat).From)) ++ (⟨#[32]⟩ : ByteArray)) ++ (decB ((at_ l.Edges k.toNat).To))) ++ (⟨#[32]⟩ : ByteArray)) ++ ((at_ l.Edges k.toNat).Label)).size + (⟨#[32]⟩ : ByteArray).size ≤ 9223372036854775807, Con Tryz.prog 47 [I ((at_ l.Edges k.toNat).Cost)] true (Sv (decB ((at_ l.Edges k.toNat).Cost))) ∧ True, ((((((decB ((at_ l.Edges k.toNat).From)) ++ (⟨#[32]⟩ : ByteArray)) ++ (decB ((at_ l.Edges k.toNat).To))) ++ (⟨#[32]⟩ : ByteArray)) ++ ((at_ l.Edges k.toNat).Label)) ++ (⟨#[32]⟩ : ByteArray)).size + (decB ((at_ l.Edges k.toNat).Cost)).size ≤ 9223372036854775807, (((((((decB ((at_ l.Edges k.toNat).From)) ++ (⟨#[32]⟩ : ByteArray)) ++ (decB ((at_ l.Edges k.toNat).To))) ++ (⟨#[32]⟩ : ByteArray)) ++ ((at_ l.Edges k.toNat).Label)) ++ (⟨#[32]⟩ : ByteArray)) ++ (decB ((at_ l.Edges k.toNat).Cost))).size + (⟨#[10]⟩ : ByteArray).size ≤ 9223372036854775807, ([.ref 3 0, Sv ((((((((decB ((at_ l.Edges k.toNat).From)) ++ (⟨#[32]⟩ : ByteArray)) ++ (decB ((at_ l.Edges k.toNat).To))) ++ (⟨#[32]⟩ : ByteArray)) ++ ((at_ l.Edges k.toNat).Label)) ++ (⟨#[32]⟩ : ByteArray)) ++ (decB ((at_ l.Edges k.toNat).Cost))) ++ (⟨#[10]⟩ : ByteArray))] : List AV) = [.ref 3 0, Sv ((((((((decB ((at_ l.Edges k.toNat).From)) ++ (⟨#[32]⟩ : ByteArray)) ++ (decB ((at_ l.Edges k.toNat).To))) ++ (⟨#[32]⟩ : ByteArray)) ++ ((at_ l.Edges k.toNat).Label)) ++ (⟨#[32]⟩ : ByteArray)) ++ (decB ((at_ l.Edges k.toNat).Cost))) ++ (⟨#[10]⟩ : ByteArray))] ∧ BwOK Tryz.prog 46 103 5 (.string ((((((((decB ((at_ l.Edges k.toNat).From)) ++ (⟨#[32]⟩ : ByteArray)) ++ (decB ((at_ l.Edges k.toNat).To))) ++ (⟨#[32]⟩ : ByteArray)) ++ ((at_ l.Edges k.toNat).Label)) ++ (⟨#[32]⟩ : ByteArray)) ++ (decB ((at_ l.Edges k.toNat).Cost))) ++ (⟨#[10]⟩ : ByteArray))) false tx false ((((((((decB ((at_ l.Edges k.toNat).From)) ++ (⟨#[32]⟩ : ByteArray)) ++ (decB ((at_ l.Edges k.toNat).To))) ++ (⟨#[32]⟩ : ByteArray)) ++ ((at_ l.Edges k.toNat).Label)) ++ (⟨#[32]⟩ : ByteArray)) ++ (decB ((at_ l.Edges k.toNat).Cost))) ++ (⟨#[10]⟩ : ByteArray))] hB ⟨⟨(implDecimal_ok ((at_ l.Edges k.toNat).From) (by omega)), trivial⟩, (by (try simp only [ByteArray.size_append]); omega), ⟨(implDecimal_ok ((at_ l.Edges k.toNat).To) (by omega)), trivial⟩, (by (try simp only [ByteArray.size_append]); omega), (by (try simp only [ByteArray.size_append]); omega), (by (try simp only [ByteArray.size_append]); omega), (by (try simp only [ByteArray.size_append]); omega), ⟨(implDecimal_ok ((at_ l.Edges k.toNat).Cost) (by omega)), trivial⟩, (by (try simp only [ByteArray.size_append]); omega), (by (try simp only [ByteArray.size_append]); omega), ⟨rfl, bw_ok (by (try simp only [ByteArray.size_append]); omega)⟩, trivial⟩ ?_
   refine ae_block 1 ?_
   refine ae_then ?_
   refine aw_r [] [3, 16, 17, 18] [3, 60006] [.ref 3 0, slEdge false l.Edges, I (l.Edges.length : Int), I (k + 1)] [some (.bld 103 60006), some (.buf 5 false (tx ++ ((((((((decB ((at_ l.Edges k.toNat).From)) ++ (⟨#[32]⟩ : ByteArray)) ++ (decB ((at_ l.Edges k.toNat).To))) ++ (⟨#[32]⟩ : ByteArray)) ++ ((at_ l.Edges k.toNat).Label)) ++ (⟨#[32]⟩ : ByteArray)) ++ (decB ((at_ l.Edges k.toNat).Cost))) ++ (⟨#[10]⟩ : ByteArray))))] [inR .i64 (k + 1)] hB ⟨(inR_i64 (by omega) (by omega)), trivial⟩ ?_
   refine ae_weak hB [(60007, 60006)] (T := [(3, .ref 3 0), (16, slEdge false l.Edges), (17, I (l.Edges.length : Int)), (18, I (k + 1))]) (O := [(3, .bld 103 60007), (60007, .buf 5 false (tx ++ ((((((((decB ((at_ l.Edges k.toNat).From)) ++ (⟨#[32]⟩ : ByteArray)) ++ (decB ((at_ l.Edges k.toNat).To))) ++ (⟨#[32]⟩ : ByteArray)) ++ ((at_ l.Edges k.toNat).Label)) ++ (⟨#[32]⟩ : ByteArray)) ++ (decB ((at_ l.Edges k.toNat).Cost))) ++ (⟨#[10]⟩ : ByteArray))))]) rfl (⟨.inl rfl, .inl rfl, .inl rfl, .inl rfl, trivial⟩) (⟨.inl rfl, .inl rfl, trivial⟩) (ae_again _ (by omega) ⟨(k + 1), (tx ++ ((((((((decB ((at_ l.Edges k.toNat).From)) ++ (⟨#[32]⟩ : ByteArray)) ++ (decB ((at_ l.Edges k.toNat).To))) ++ (⟨#[32]⟩ : ByteArray)) ++ ((at_ l.Edges k.toNat).Label)) ++ (⟨#[32]⟩ : ByteArray)) ++ (decB ((at_ l.Edges k.toNat).Cost))) ++ (⟨#[10]⟩ : ByteArray))), rfl, (by omega), (by rw [hks, linesX, ltLns_at hi, ← htx]; simp only [edLn, ByteArray.append_assoc]), rfl⟩)
  have hke : k.toNat = l.Edges.length := by omega
  rw [hke] at htx
  refine aw_r [(0, .dec false)] [3, 16, 17, 18, 19] [3, 60007] [.ref 3 0, slEdge false l.Edges, I (l.Edges.length : Int), I k, Bv false] [some (.bld 103 60007), some (.buf 5 false tx)] [¬ (k < (l.Edges.length : Int))] hB ⟨h1, trivial⟩ ?_
  refine ae_then ?_
  refine aw_seq ?_
  refine aw_false rfl ?_
  refine aw_exit ?_
  refine ae_exit_then ?_
  refine ae_exit_then ?_
  refine ae_exit_same ?_
  refine ae_then ?_
  refine aR [(0, .bs 3 60007)] [2] [] [Sv tx] [] [([.ref 3 0] : List AV) = [.ref 3 0] ∧ BsOK Tryz.prog 48 103 5] hB ⟨⟨rfl, bs_ok⟩, trivial⟩ ?_
  refine aw_ret ?_
  refine ae_ret hB (Sv tx) (by kernel_rfl) (.inl (by first | (rw [htx]; rfl) | rfl)) rfl (fun _ => trivial)



-- strings.HasSuffix
theorem hasSuffix_ok (s p : ByteArray) (hs : s.size ≤ 9223372036854775807) : Con Tryz.prog 94 [Sv s, Sv p] true (Bv (sufB s p)) := by
  refine con_of_calls (vals := [.string s, .string p]) fun w _ => ?_
  refine (Tryz.strings_HasSuffix s p w hs).mono ?_
  rintro e w' ⟨rfl, rfl⟩
  exact ⟨rfl, Below.refl _ _⟩



-- strings.TrimSuffix
theorem trimSuffix_ok (s p : ByteArray) (hs : s.size ≤ 9223372036854775807) : Con Tryz.prog 96 [Sv s, Sv p] true (Sv (trsB s p)) := by
  refine con_of_calls (vals := [.string s, .string p]) fun w _ => ?_
  refine (Tryz.strings_TrimSuffix s p w hs).mono ?_
  rintro e w' ⟨rfl, rfl⟩
  exact ⟨rfl, Below.refl _ _⟩



-- strings.Split
set_option maxHeartbeats 2000000 in
set_option maxRecDepth 100000 in
theorem split_ok (s sep : ByteArray) (hs : s.size ≤ 140737488 ∧ True) (h1 : sep.size = 1) : Con Tryz.prog 95 [Sv s, Sv sep] true (slS true (splB sep s)) := by
  obtain ⟨c, rfl⟩ := Lib.one_byte sep h1
  have hle := Lib.countB_le ⟨#[c]⟩ (by omega) s.size s (Nat.le_refl _)
  have hlen := splB_length (s := s) h1
  have hcell : ∀ i, i < Lib.countB s ⟨#[c]⟩ + 1 → (((Lib.splitB ⟨#[c]⟩ 0 (Lib.countB s ⟨#[c]⟩) s).map Value.string).toArray)[i]? = some (.string (at_ (splB ⟨#[c]⟩ s) i)) ∧ (Value.string (at_ (splB ⟨#[c]⟩ s) i)).oneCell' = true := fun i hi => by
    have hi2 : i < (Lib.splitB ⟨#[c]⟩ 0 (Lib.countB s ⟨#[c]⟩) s).length := by omega
    refine ⟨?_, rfl⟩
    have e : at_ (splB ⟨#[c]⟩ s) i = (Lib.splitB ⟨#[c]⟩ 0 (Lib.countB s ⟨#[c]⟩) s)[i] := at_eq hi2
    rw [e]
    simp [List.getElem?_eq_getElem hi2]
  have hmain := con_of_calls_sl (P := Tryz.prog) (f := 95) (vals := [.string s, .string ⟨#[c]⟩]) (n := Lib.countB s ⟨#[c]⟩ + 1) (T := 9) (cs := ((Lib.splitB ⟨#[c]⟩ 0 (Lib.countB s ⟨#[c]⟩) s).map Value.string).toArray) (g := fun i => .string (at_ (splB ⟨#[c]⟩ s) i)) (by unfold maxLen; omega) hcell ?_
  · have e : slS true (splB ⟨#[c]⟩ s) = .sl true 1 (Lib.countB s ⟨#[c]⟩ + 1) fun i => [Sv (at_ (splB ⟨#[c]⟩ s) i)] := by
      rw [← hlen]; rfl
    rw [e]
    exact hmain
  · intro w _
    have hI : ∀ (x : ByteArray) (d : Array Value), x.size ≤ s.size → Calls Tryz.prog 182 #[.string x, .string ⟨#[c]⟩] (w.alloc (.cells d 9)) fun e w' => e = .returned (.int .i64 (Lib.indexB x ⟨#[c]⟩)) ∧ w' = w.alloc (.cells d 9) := fun x d _ => by
      have := Tryz.strings_Index_one x c (w.alloc (.cells d 9))
      have e : Lib.indexB x ⟨#[c]⟩ = Lib.indexByte x.data.toList c := Lib.index_one _ _
      rw [e]
      exact this
    have hC : Calls Tryz.prog 185 #[.string s, .string ⟨#[c]⟩] w fun e w' => e = .returned (.int .i64 (Lib.countB s ⟨#[c]⟩)) ∧ w' = w := by
      have := Tryz.strings_Count_one s c w
      have e : Lib.countB s ⟨#[c]⟩ = Lib.countByte s.data.toList c := Lib.count_one c _
      rw [e]
      exact this
    have hcore := Any.strings_genSplit_core Tryz.lays221 (by kernel_rfl) s ⟨#[c]⟩ 0 (-1) (Lib.countB s ⟨#[c]⟩ + 1) w (by omega) (by omega) (Nat.zero_le _) hI hC (by decide) (by decide) (by rw [if_pos (by decide)]; omega)
    rw [Nat.add_sub_cancel, hlen] at hcore
    have e2 : Lib.cellsOf (Lib.splitB ⟨#[c]⟩ 0 (Lib.countB s ⟨#[c]⟩) s) (Lib.countB s ⟨#[c]⟩ + 1) = ((Lib.splitB ⟨#[c]⟩ 0 (Lib.countB s ⟨#[c]⟩) s).map Value.string).toArray := by rw [← hlen]; exact Lib.cellsOf_full _
    rw [e2] at hcore
    go_enter Tryz.func95, Tryz.ntmps95
    go_wp2_with (go_at_call 150; refine hcore.mono ?_; rintro e w' ⟨rfl, hw⟩; rw [hw])
    go_ret
    exact ⟨rfl, rfl⟩



-- impl.linesOf
theorem linesOf_ok (s : ByteArray) (ok : linOk s) : ∃ (ls : List ByteArray) (k : Bool), (ls = linB s) ∧ (k = true) ∧ Con Tryz.prog 43 [Sv s] true (.tup [slS true ls, Bv k]) := by
  have hz := ok.1
  have hh : ∃ r : (List ByteArray) × Bool, ((r.1 = linB s) ∧ (r.2 = true) ∧ (True)) ∧ CallOK Tryz.prog 43 [Sv s] (lookO []) true (.tup [slS true r.1, Bv r.2]) (lookO []) := by
    refine fn_okX (Φ := fun r : (List ByteArray) × Bool => (r.1 = linB s) ∧ (r.2 = true) ∧ (True)) [] (fun r => []) (fn := Tryz.f43) (nt := 12) Tryz.func43 rfl rfl (args := [Sv s]) rfl (allcons (.inl ⟨rfl, trivial⟩) allnil) (res := fun r => .tup [slS true r.1, Bv r.2]) ?_
    refine xR [] [0] [] [Sv s] [] [] trivial ?_
    refine x_seq ?_
    refine x_seq ?_
    by_cases h1 : s = (⟨#[]⟩ : ByteArray)
    ·have hlb : linB s = [] := by rw [linB, if_pos h1]
     refine x_r [(1, .dec true)] [0, 5] [] [Sv s, Bv true] [] [s = (⟨#[]⟩ : ByteArray)] ⟨h1, trivial⟩ ?_
     refine xe_then ?_
     refine x_true rfl ?_
     refine xR [] [2, 3] [] [nilA, Bv true] [] [] trivial ?_
     refine x_ret ?_
     refine xe_ret_then ?_
     refine xe_end (([] : List ByteArray), true) (show (([] : List ByteArray) = linB s) ∧ (true = true) ∧ (True) from ⟨(by first | exact hlb.symm | rfl), (by first | exact hlb.symm | rfl), trivial⟩) (trivial) (.tup [nilA, Bv true]) (by kernel_rfl) (.inr ⟨⟨rfl, rfl⟩, ⟨rfl, rfl⟩⟩) (fun _ => rfl) (fun _ => (by simp [tagged, taggedL, tagS]))
    have hse := h1
    have hlb : linB s = splB ⟨#[10]⟩ (trsB s ⟨#[10]⟩) := by rw [linB, if_neg hse]
    refine x_r [(1, .dec false)] [0, 5] [] [Sv s, Bv false] [] [¬ (s = (⟨#[]⟩ : ByteArray))] ⟨h1, trivial⟩ ?_
    refine xe_then ?_
    refine x_false rfl ?_
    refine x_skip ?_
    refine xe_then ?_
    refine x_seq ?_
    refine xR [(1, .call [(true, .any), (true, .any)] true (Bv true))] [0, 8] [] [Sv s, Bv false] [] [Con Tryz.prog 94 [Sv s, Sv (⟨#[10]⟩ : ByteArray)] true (Bv true) ∧ True] ⟨⟨(con_bool (ok.2.resolve_left hse) (hasSuffix_ok s (⟨#[10]⟩ : ByteArray) (by omega))), trivial⟩, trivial⟩ ?_
    refine x_false rfl ?_
    refine x_skip ?_
    refine xe_then ?_
    refine xR [(1, .call [(true, .any), (true, .any)] true (Sv (trsB s (⟨#[10]⟩ : ByteArray)))), (2, .call [(true, .any), (true, .any)] true (slS true (splB (⟨#[10]⟩ : ByteArray) (trsB s (⟨#[10]⟩ : ByteArray)))))] [2, 3] [] [slS true (splB (⟨#[10]⟩ : ByteArray) (trsB s (⟨#[10]⟩ : ByteArray))), Bv true] [] [Con Tryz.prog 96 [Sv s, Sv (⟨#[10]⟩ : ByteArray)] true (Sv (trsB s (⟨#[10]⟩ : ByteArray))) ∧ True, Con Tryz.prog 95 [Sv (trsB s (⟨#[10]⟩ : ByteArray)), Sv (⟨#[10]⟩ : ByteArray)] true (slS true (splB (⟨#[10]⟩ : ByteArray) (trsB s (⟨#[10]⟩ : ByteArray)))) ∧ True] ⟨⟨(trimSuffix_ok s (⟨#[10]⟩ : ByteArray) (by omega)), trivial⟩, ⟨(split_ok (trsB s (⟨#[10]⟩ : ByteArray)) (⟨#[10]⟩ : ByteArray) ⟨by have := trsB_size s ⟨#[10]⟩; omega, trivial⟩ rfl), trivial⟩, trivial⟩ ?_
    refine x_ret ?_
    refine xe_end ((splB (⟨#[10]⟩ : ByteArray) (trsB s (⟨#[10]⟩ : ByteArray))), true) (show ((splB (⟨#[10]⟩ : ByteArray) (trsB s (⟨#[10]⟩ : ByteArray))) = linB s) ∧ (true = true) ∧ (True) from ⟨(by first | exact hlb.symm | rfl), (by first | exact hlb.symm | rfl), trivial⟩) (trivial) (.tup [slS true (splB (⟨#[10]⟩ : ByteArray) (trsB s (⟨#[10]⟩ : ByteArray))), Bv true]) (by kernel_rfl) (.inl rfl) (fun _ => rfl) (fun _ => (by simp [tagged, taggedL, tagS]))
  obtain ⟨⟨ls, k⟩, ⟨hh0, hh1, _⟩, hc⟩ := hh
  exact ⟨ls, k, hh0, hh1, hc⟩



-- impl.wordsOf
theorem wordsOf_ok (s : ByteArray) (hz : s.size ≤ 10000000) : Con Tryz.prog 44 [Sv s] true (slS true (splB ⟨#[32]⟩ s)) := by
  refine fn_ok (fn := Tryz.f44) (nt := 5) Tryz.func44 rfl rfl rfl rfl (by simp [taggedL, tagged]) fun B hB => ?_
  refine aR [] [0] [] [Sv s] [] [] hB trivial ?_
  refine aR [(1, .call [(true, .any), (true, .any)] true (slS true (splB (⟨#[32]⟩ : ByteArray) s)))] [2] [] [slS true (splB (⟨#[32]⟩ : ByteArray) s)] [] [Con Tryz.prog 95 [Sv s, Sv (⟨#[32]⟩ : ByteArray)] true (slS true (splB (⟨#[32]⟩ : ByteArray) s)) ∧ True] hB ⟨⟨(split_ok s (⟨#[32]⟩ : ByteArray) ⟨by omega, trivial⟩ rfl), trivial⟩, trivial⟩ ?_
  refine aw_ret ?_
  refine ae_ret hB (slS true (splB (⟨#[32]⟩ : ByteArray) s)) (by kernel_rfl) (.inr ⟨(fun _ => rfl), rfl, (by first | rfl | (simp; done) | (simp; omega) | omega), fun i_ hi_ => .inl (by first | rfl | fail)⟩) rfl (fun _ => (tagS true _))



-- impl.ReadDecimal
set_option maxHeartbeats 2000000 in
theorem dec_calls (n : Int) (h : -9223372036854775808 ≤ n ∧ n ≤ 9223372036854775807) (w : World) (hw : WX w) : Calls Tryz.prog 47 #[.int .i64 n] w fun e w' => e = .returned (.string (decB n)) ∧ Below w.heap.size w w' := by
  go_enter Tryz.func47, Tryz.ntmps47
  go_wp2_with (go_at_call 100; refine (Tryz.strconv_FormatInt_10 n h.1 h.2 w (WX_tab hw)).mono ?_; rintro e w' ⟨rfl, k, os, rfl⟩)
  go_ret
  exact ⟨rfl, Lib.below_grow _ _ (Nat.le_refl _) k os⟩
set_option maxHeartbeats 2000000 in
set_option maxRecDepth 100000 in
theorem readDec_ok (s : ByteArray) (hs : isDec s) : Con Tryz.prog 45 [Sv s] true (.tup [I (dcV s), Bv true]) := by
  obtain ⟨n, hn, rfl⟩ := hs
  rw [dcV_dec hn]
  refine con_of_calls2 (vals := [.string (decB n)]) fun w hw => ?_
  have hp := parse_dec hn
  have ht := trp_dec hn
  have hsz := decB_size (n := n) (by omega)
  go_enter Tryz.func45, Tryz.ntmps45
  go_wp2_with (go_at_call 97; refine (Tryz.strings_TrimPrefix (decB n) _ w).mono ?_; rintro e w' ⟨rfl, hw'⟩; rw [hw'])
  clear hw'
  go_wp2_with (go_at_call 98; refine (Tryz.strconv_ParseInt_10_at64_ok (decB n) (by omega) n hp w).mono ?_; rintro e w2 ⟨rfl, hw2⟩)
  have hb : Below w.heap.size w w2 := by
    rcases hw2 with rfl | ⟨t, rfl⟩
    · exact Below.refl _ _
    · exact Lib.bytesWorld_below _ _ _
  have hx := WX_below hw w2 hb
  clear hw2
  go_wp2_with (go_at_call 47; refine (dec_calls n (by omega) w2 hx).mono ?_; rintro e w3 ⟨rfl, hb3⟩)
  go_ret2
  exact ⟨rfl, hb.trans (hb3.mono hb.size)⟩





-- impl.ReadLattice
theorem ReadLattice_ok (s : ByteArray) (ok : ∃ l, okLat l ∧ s = ltTx l) : ∃ (v : Lattice) (c : Bool), (∀ l, okLat l → s = ltTx l → v = l) ∧ (c = true) ∧ Con Tryz.prog 13 [Sv s] true (.tup [agLatticeT v, Bv c]) := by
  obtain ⟨lt, hok, hsi⟩ := ok
  have h200 := hok.2.1
  have huq : ∀ l2, okLat l2 → s = ltTx l2 → lt = l2 := fun l2 h2 q2 => lt_inj hok h2 (hsi.symm.trans q2)
  have hls : linB s = ltLns lt := by rw [hsi]; exact (lt_lines hok).1
  have hlo : linOk s := by rw [hsi]; exact (lt_lines hok).2
  have hh : ∃ r : Lattice × Bool, ((∀ l, okLat l → s = ltTx l → r.1 = l) ∧ (r.2 = true) ∧ (True)) ∧ CallOK Tryz.prog 13 [Sv s] (lookO []) true (.tup [agLatticeT r.1, Bv r.2]) (lookO []) := by
    refine fn_okX (Φ := fun r : Lattice × Bool => (∀ l, okLat l → s = ltTx l → r.1 = l) ∧ (r.2 = true) ∧ (True)) [] (fun r => []) (fn := Tryz.f13) (nt := 99) Tryz.func13 rfl rfl (args := [Sv s]) rfl (allcons (.inl ⟨rfl, trivial⟩) allnil) (res := fun r => .tup [agLatticeT r.1, Bv r.2]) ?_
    refine xR [(0, .new 2)] [0, 2] [2] [Sv s, .ref 2 0] [some (.box [I 0, nilA])] [] trivial ?_
    refine x_seq ?_
    obtain ⟨ls_1, k_1, hx1_0, hx1_1, hc1⟩ := linesOf_ok s hlo
    have hlv : ls_1 = ltLns lt := by rw [hx1_0, hls]
    have hlk := hx1_1
    have hll : ls_1.length = lt.Edges.length + 1 := by rw [hlv]; simp [ltLns]
    refine x_r [(1, .call [(true, .any)] true (.tup [slS true ls_1, Bv k_1]))] [0, 2, 4, 5] [2] [Sv s, .ref 2 0, slS true ls_1, Bv k_1] [some (.box [I 0, nilA])] [Con Tryz.prog 43 [Sv s] true (.tup [slS true ls_1, Bv k_1]) ∧ True] ⟨⟨hc1, trivial⟩, trivial⟩ ?_
    refine xe_then ?_
    refine x_seq ?_
    refine x_seq ?_
    obtain rfl : k_1 = true := hlk
    refine x_r [] [0, 2, 4, 17] [2] [Sv s, .ref 2 0, slS true ls_1, Bv false] [some (.box [I 0, nilA])] [] trivial ?_
    refine xe_then ?_
    refine x_false rfl ?_
    refine x_skip ?_
    refine xe_then ?_
    refine xR [(0, .new 6)] [0, 2, 4, 6] [2, 6] [Sv s, .ref 2 0, slS true ls_1, .ref 6 0] [some (.box [I 0, nilA]), some (.box [I 0, nilA])] [] trivial ?_
    refine x_seq ?_
    refine xR [] [0, 2, 6, 19, 20, 21] [2, 6] [Sv s, .ref 2 0, .ref 6 0, slS true ls_1, I (ls_1.length : Int), I 0] [some (.box [I 0, nilA]), some (.box [I 0, nilA])] [] trivial ?_
    refine x_block ?_
    refine x_nilC 6 1 761 4 (fun _ => []) rfl (by kernel_rfl) ?_
    refine x_weak [] (T := [(0, Sv s), (2, .ref 2 0), (6, .ref 6 0), (19, slS true ls_1), (20, I (ls_1.length : Int)), (21, I 0)]) (O := [(2, .box [I 0, nilA]), (6, .box [I 0, .arr 761]), (761, tAEdge ([] : List Edge))]) rfl (⟨.inl rfl, .inl rfl, .inl rfl, .inl rfl, .inl rfl, .inl rfl, trivial⟩) (⟨.inl rfl, .inl rfl, .inr ⟨rfl, (by first | rfl | (simp; done) | (simp; omega) | omega), fun i_ hi_ => absurd hi_ (Nat.not_lt_zero _)⟩, trivial⟩) ?_
    refine x_loop (X := Int × Int × (List Edge)) (fun x => mkS [(0, Sv s), (2, .ref 2 0), (6, .ref 6 0), (19, slS true ls_1), (20, I (ls_1.length : Int)), (21, I x.1)] [(2, .box [I 0, nilA]), (6, .box [I x.2.1, .arr 761]), (761, tAEdge x.2.2)]) (fun x => (0 ≤ x.1 ∧ x.1 ≤ (ls_1.length : Int)) ∧ ((x.2.2.length : Int) ≤ x.1) ∧ ((x.1 = 0 ∧ x.2.2 = []) ∨ (1 ≤ x.1 ∧ x.2.1 = lt.Nodes ∧ x.2.2 = lt.Edges.take (x.1.toNat - 1))) ∧ True) (fun x => ((ls_1.length : Int) - x.1).toNat) (0, 0, ([] : List Edge)) rfl (show (0 ≤ (0 : Int) ∧ (0 : Int) ≤ (ls_1.length : Int)) ∧ ((([] : List Edge).length : Int) ≤ (0 : Int)) ∧ (((0 : Int) = 0 ∧ ([] : List Edge) = []) ∨ (1 ≤ (0 : Int) ∧ (0 : Int) = lt.Nodes ∧ ([] : List Edge) = lt.Edges.take ((0 : Int).toNat - 1))) ∧ True from ⟨(by omega), (by simp), (by exact .inl ⟨rfl, rfl⟩), trivial⟩) (fun x hI => ?_)
    obtain ⟨k, bd, ts⟩ := x
    obtain ⟨hi0, htl, hst_, _⟩ : (0 ≤ k ∧ k ≤ (ls_1.length : Int)) ∧ ((ts.length : Int) ≤ k) ∧ ((k = 0 ∧ ts = []) ∨ (1 ≤ k ∧ bd = lt.Nodes ∧ ts = lt.Edges.take (k.toNat - 1))) ∧ True := hI
    show XW _ _ _ _ (mkS [(0, Sv s), (2, .ref 2 0), (6, .ref 6 0), (19, slS true ls_1), (20, I (ls_1.length : Int)), (21, I k)] [(2, .box [I 0, nilA]), (6, .box [I bd, .arr 761]), (761, tAEdge ts)]) _ _
    refine x_seq ?_
    by_cases h1 : k < (ls_1.length : Int)
    ·have hi : k.toNat < ls_1.length := by omega
     have hlz : (at_ ls_1 k.toNat).size ≤ 64 := by rw [hlv]; exact ltLns_size hok _ (at_mem (by rw [← hlv]; exact hi))
     have hw0 : k = 0 → (splB ⟨#[32]⟩ (at_ ls_1 k.toNat)) = [wT, decB lt.Nodes] := fun q => by rw [hlv, q]; exact hdT_words _
     have hw1 : 1 ≤ k → (splB ⟨#[32]⟩ (at_ ls_1 k.toNat)) = [decB (at_ lt.Edges (k.toNat - 1)).From, decB (at_ lt.Edges (k.toNat - 1)).To, (at_ lt.Edges (k.toNat - 1)).Label, decB (at_ lt.Edges (k.toNat - 1)).Cost] := fun q => by rw [hlv, show k.toNat = (k.toNat - 1) + 1 from by omega, ltLns_at (by omega), Nat.add_sub_cancel]; exact ed_words (ed_ok hok (at_mem (by omega))).2.2
     refine x_r [(0, .dec true)] [0, 2, 6, 19, 20, 21, 22] [2, 6, 761] [Sv s, .ref 2 0, .ref 6 0, slS true ls_1, I (ls_1.length : Int), I k, Bv true] [some (.box [I 0, nilA]), some (.box [I bd, .arr 761]), some (tAEdge ts)] [k < (ls_1.length : Int)] ⟨h1, trivial⟩ ?_
     refine xe_then ?_
     refine x_seq ?_
     refine x_true rfl ?_
     refine x_skip ?_
     refine xe_then ?_
     refine x_seq ?_
     refine x_block ?_
     refine xR [] [0, 2, 6, 7, 8, 19, 20, 21] [2, 6, 761] [Sv s, .ref 2 0, .ref 6 0, I k, Sv (at_ ls_1 k.toNat), slS true ls_1, I (ls_1.length : Int), I k] [some (.box [I 0, nilA]), some (.box [I bd, .arr 761]), some (tAEdge ts)] [(0 : Int) ≤ k ∧ k < (ls_1.length : Int)] ⟨⟨(by omega), (by omega)⟩, trivial⟩ ?_
     refine xR [(1, .call [(true, .any)] true (slS true (splB ⟨#[32]⟩ (at_ ls_1 k.toNat))))] [0, 2, 6, 7, 9, 19, 20, 21] [2, 6, 761] [Sv s, .ref 2 0, .ref 6 0, I k, slS true (splB ⟨#[32]⟩ (at_ ls_1 k.toNat)), slS true ls_1, I (ls_1.length : Int), I k] [some (.box [I 0, nilA]), some (.box [I bd, .arr 761]), some (tAEdge ts)] [Con Tryz.prog 44 [Sv (at_ ls_1 k.toNat)] true (slS true (splB ⟨#[32]⟩ (at_ ls_1 k.toNat))) ∧ True] ⟨⟨(wordsOf_ok (at_ ls_1 k.toNat) (by first | omega | (refine ⟨?_, trivial⟩; omega))), trivial⟩, trivial⟩ ?_
     refine x_block ?_
     refine x_seq ?_
     by_cases h2 : k = 0
     ·have hk0 : k = 0 := h2
      have hwS := hw0 hk0
      have hwn : (splB ⟨#[32]⟩ (at_ ls_1 k.toNat)).length = 2 := by rw [hwS]; rfl
      have hd1 : at_ (splB ⟨#[32]⟩ (at_ ls_1 k.toNat)) 1 = decB lt.Nodes := by rw [hwS]; rfl
      have hN_ := hok.1
      have hdc1 : isDec (at_ (splB ⟨#[32]⟩ (at_ ls_1 k.toNat)) 1) := ⟨_, by omega, hd1⟩
      refine x_r [(1, .dec true), (5, .dec true)] [0, 2, 6, 7, 9, 19, 20, 21, 29] [2, 6, 761] [Sv s, .ref 2 0, .ref 6 0, I k, slS true (splB ⟨#[32]⟩ (at_ ls_1 k.toNat)), slS true ls_1, I (ls_1.length : Int), I k, Bv true] [some (.box [I 0, nilA]), some (.box [I bd, .arr 761]), some (tAEdge ts)] [k = 0, (((splB ⟨#[32]⟩ (at_ ls_1 k.toNat)).length) : Int) = 2] ⟨h2, (by omega), trivial⟩ ?_
      refine xe_then ?_
      refine x_true rfl ?_
      refine x_r [(3, .call [(true, .any)] true (.tup [I (dcV (at_ (splB ⟨#[32]⟩ (at_ ls_1 k.toNat)) 1)), Bv true]))] [0, 2, 6, 19, 20, 21] [2, 6, 761] [Sv s, .ref 2 0, .ref 6 0, slS true ls_1, I (ls_1.length : Int), I k] [some (.box [I 0, nilA]), some (.box [I (dcV (at_ (splB ⟨#[32]⟩ (at_ ls_1 k.toNat)) 1)), .arr 761]), some (tAEdge ts)] [(0 : Int) ≤ 1 ∧ 1 < (((splB ⟨#[32]⟩ (at_ ls_1 k.toNat)).length) : Int), Con Tryz.prog 45 [Sv (at_ (splB ⟨#[32]⟩ (at_ ls_1 k.toNat)) 1)] true (.tup [I (dcV (at_ (splB ⟨#[32]⟩ (at_ ls_1 k.toNat)) 1)), Bv true]) ∧ True] ⟨⟨(by omega), (by omega)⟩, ⟨(readDec_ok (at_ (splB ⟨#[32]⟩ (at_ ls_1 k.toNat)) 1) hdc1), trivial⟩, trivial⟩ ?_
      refine xe_block 2 ?_
      refine xe_block 1 ?_
      refine xe_then ?_
      refine x_r [] [0, 2, 6, 19, 20, 21] [2, 6, 761] [Sv s, .ref 2 0, .ref 6 0, slS true ls_1, I (ls_1.length : Int), I (k + 1)] [some (.box [I 0, nilA]), some (.box [I (dcV (at_ (splB ⟨#[32]⟩ (at_ ls_1 k.toNat)) 1)), .arr 761]), some (tAEdge ts)] [inR .i64 (k + 1)] ⟨(inR_i64 (by omega) (by omega)), trivial⟩ ?_
      exact xe_again ((k + 1), (dcV (at_ (splB ⟨#[32]⟩ (at_ ls_1 k.toNat)) 1)), ts) rfl (show (0 ≤ (k + 1) ∧ (k + 1) ≤ (ls_1.length : Int)) ∧ ((ts.length : Int) ≤ (k + 1)) ∧ (((k + 1) = 0 ∧ ts = []) ∨ (1 ≤ (k + 1) ∧ (dcV (at_ (splB ⟨#[32]⟩ (at_ ls_1 k.toNat)) 1)) = lt.Nodes ∧ ts = lt.Edges.take ((k + 1).toNat - 1))) ∧ True from ⟨(by omega), (by first | omega | (simp; omega)), (by first | (refine .inr ⟨by omega, (by rw [hd1, dcV_dec (by omega)]), ?_⟩; rcases hst_ with q | q; (rw [q.2, hk0]; rfl); omega) | (rcases hst_ with q | q; (omega); ((have e_ : at_ lt.Edges (k.toNat - 1) = ⟨dcV (at_ (splB ⟨#[32]⟩ (at_ ls_1 k.toNat)) 0), dcV (at_ (splB ⟨#[32]⟩ (at_ ls_1 k.toNat)) 1), at_ (splB ⟨#[32]⟩ (at_ ls_1 k.toNat)) 2, dcV (at_ (splB ⟨#[32]⟩ (at_ ls_1 k.toNat)) 3)⟩ := by (rw [hd0, hd1, hd2, hd3, dcV_dec (by omega), dcV_dec (by omega), dcV_dec (by omega)])); refine .inr ⟨by omega, q.2.1, ?_⟩; rw [q.2.2, ← e_, show (k + 1).toNat - 1 = (k.toNat - 1) + 1 from by omega, List.take_succ_eq_append_getElem (by omega), at_eq (by omega)]))), trivial⟩) (by first | (show (((ls_1.length : Int) - (k + 1)).toNat : Nat) < ((ls_1.length : Int) - k).toNat; omega) | (dsimp only; omega))
     have hk1 : 1 ≤ k := by omega
     have hwT := hw1 hk1
     have hed := ed_ok hok (at_mem (show k.toNat - 1 < lt.Edges.length by omega))
     have he1 := hed.1
     have he2 := hed.2.1
     have hN_ := hok.1
     have hwn : (splB ⟨#[32]⟩ (at_ ls_1 k.toNat)).length = 4 := by rw [hwT]; rfl
     have hd0 : at_ (splB ⟨#[32]⟩ (at_ ls_1 k.toNat)) 0 = decB (at_ lt.Edges (k.toNat - 1)).From := by rw [hwT]; rfl
     have hd1 : at_ (splB ⟨#[32]⟩ (at_ ls_1 k.toNat)) 1 = decB (at_ lt.Edges (k.toNat - 1)).To := by rw [hwT]; rfl
     have hd2 : at_ (splB ⟨#[32]⟩ (at_ ls_1 k.toNat)) 2 = (at_ lt.Edges (k.toNat - 1)).Label := by rw [hwT]; rfl
     have hd3 : at_ (splB ⟨#[32]⟩ (at_ ls_1 k.toNat)) 3 = decB (at_ lt.Edges (k.toNat - 1)).Cost := by rw [hwT]; rfl
     have hdc0 : isDec (at_ (splB ⟨#[32]⟩ (at_ ls_1 k.toNat)) 0) := ⟨_, by omega, hd0⟩
     have hdc1 : isDec (at_ (splB ⟨#[32]⟩ (at_ ls_1 k.toNat)) 1) := ⟨_, by omega, hd1⟩
     have hdc3 : isDec (at_ (splB ⟨#[32]⟩ (at_ ls_1 k.toNat)) 3) := ⟨_, by omega, hd3⟩
     refine x_r [(1, .dec false)] [0, 2, 6, 7, 9, 19, 20, 21, 29] [2, 6, 761] [Sv s, .ref 2 0, .ref 6 0, I k, slS true (splB ⟨#[32]⟩ (at_ ls_1 k.toNat)), slS true ls_1, I (ls_1.length : Int), I k, Bv false] [some (.box [I 0, nilA]), some (.box [I bd, .arr 761]), some (tAEdge ts)] [¬ (k = 0)] ⟨h2, trivial⟩ ?_
     refine xe_then ?_
     refine x_false rfl ?_
     refine xR [(1, .dec true), (5, .dec true)] [0, 2, 6, 9, 19, 20, 21, 45] [2, 6, 761] [Sv s, .ref 2 0, .ref 6 0, slS true (splB ⟨#[32]⟩ (at_ ls_1 k.toNat)), slS true ls_1, I (ls_1.length : Int), I k, Bv true] [some (.box [I 0, nilA]), some (.box [I bd, .arr 761]), some (tAEdge ts)] [0 < k, (((splB ⟨#[32]⟩ (at_ ls_1 k.toNat)).length) : Int) = 4] ⟨(by omega), (by omega), trivial⟩ ?_
     refine x_true rfl ?_
     refine xR [(0, .new 10)] [0, 2, 6, 9, 10, 19, 20, 21] [2, 6, 10, 761] [Sv s, .ref 2 0, .ref 6 0, slS true (splB ⟨#[32]⟩ (at_ ls_1 k.toNat)), .ref 10 0, slS true ls_1, I (ls_1.length : Int), I k] [some (.box [I 0, nilA]), some (.box [I bd, .arr 761]), some (.box [I 0, I 0, Sv (⟨#[]⟩ : ByteArray), I 0]), some (tAEdge ts)] [] trivial ?_
     refine xR [(3, .call [(true, .any)] true (.tup [I (dcV (at_ (splB ⟨#[32]⟩ (at_ ls_1 k.toNat)) 0)), Bv true]))] [0, 2, 6, 9, 10, 19, 20, 21] [2, 6, 10, 761] [Sv s, .ref 2 0, .ref 6 0, slS true (splB ⟨#[32]⟩ (at_ ls_1 k.toNat)), .ref 10 0, slS true ls_1, I (ls_1.length : Int), I k] [some (.box [I 0, nilA]), some (.box [I bd, .arr 761]), some (.box [I (dcV (at_ (splB ⟨#[32]⟩ (at_ ls_1 k.toNat)) 0)), I 0, Sv (⟨#[]⟩ : ByteArray), I 0]), some (tAEdge ts)] [(0 : Int) ≤ 0 ∧ 0 < (((splB ⟨#[32]⟩ (at_ ls_1 k.toNat)).length) : Int), Con Tryz.prog 45 [Sv (at_ (splB ⟨#[32]⟩ (at_ ls_1 k.toNat)) 0)] true (.tup [I (dcV (at_ (splB ⟨#[32]⟩ (at_ ls_1 k.toNat)) 0)), Bv true]) ∧ True] ⟨⟨(by omega), (by omega)⟩, ⟨(readDec_ok (at_ (splB ⟨#[32]⟩ (at_ ls_1 k.toNat)) 0) hdc0), trivial⟩, trivial⟩ ?_
     refine xR [(3, .call [(true, .any)] true (.tup [I (dcV (at_ (splB ⟨#[32]⟩ (at_ ls_1 k.toNat)) 1)), Bv true]))] [0, 2, 6, 9, 10, 19, 20, 21] [2, 6, 10, 761] [Sv s, .ref 2 0, .ref 6 0, slS true (splB ⟨#[32]⟩ (at_ ls_1 k.toNat)), .ref 10 0, slS true ls_1, I (ls_1.length : Int), I k] [some (.box [I 0, nilA]), some (.box [I bd, .arr 761]), some (.box [I (dcV (at_ (splB ⟨#[32]⟩ (at_ ls_1 k.toNat)) 0)), I (dcV (at_ (splB ⟨#[32]⟩ (at_ ls_1 k.toNat)) 1)), Sv (⟨#[]⟩ : ByteArray), I 0]), some (tAEdge ts)] [(0 : Int) ≤ 1 ∧ 1 < (((splB ⟨#[32]⟩ (at_ ls_1 k.toNat)).length) : Int), Con Tryz.prog 45 [Sv (at_ (splB ⟨#[32]⟩ (at_ ls_1 k.toNat)) 1)] true (.tup [I (dcV (at_ (splB ⟨#[32]⟩ (at_ ls_1 k.toNat)) 1)), Bv true]) ∧ True] ⟨⟨(by omega), (by omega)⟩, ⟨(readDec_ok (at_ (splB ⟨#[32]⟩ (at_ ls_1 k.toNat)) 1) hdc1), trivial⟩, trivial⟩ ?_
     refine xR [(3, .call [(true, .any)] true (.tup [I (dcV (at_ (splB ⟨#[32]⟩ (at_ ls_1 k.toNat)) 3)), Bv true]))] [0, 2, 6, 9, 10, 19, 20, 21] [2, 6, 10, 761] [Sv s, .ref 2 0, .ref 6 0, slS true (splB ⟨#[32]⟩ (at_ ls_1 k.toNat)), .ref 10 0, slS true ls_1, I (ls_1.length : Int), I k] [some (.box [I 0, nilA]), some (.box [I bd, .arr 761]), some (.box [I (dcV (at_ (splB ⟨#[32]⟩ (at_ ls_1 k.toNat)) 0)), I (dcV (at_ (splB ⟨#[32]⟩ (at_ ls_1 k.toNat)) 1)), Sv (⟨#[]⟩ : ByteArray), I (dcV (at_ (splB ⟨#[32]⟩ (at_ ls_1 k.toNat)) 3))]), some (tAEdge ts)] [(0 : Int) ≤ 3 ∧ 3 < (((splB ⟨#[32]⟩ (at_ ls_1 k.toNat)).length) : Int), Con Tryz.prog 45 [Sv (at_ (splB ⟨#[32]⟩ (at_ ls_1 k.toNat)) 3)] true (.tup [I (dcV (at_ (splB ⟨#[32]⟩ (at_ ls_1 k.toNat)) 3)), Bv true]) ∧ True] ⟨⟨(by omega), (by omega)⟩, ⟨(readDec_ok (at_ (splB ⟨#[32]⟩ (at_ ls_1 k.toNat)) 3) hdc3), trivial⟩, trivial⟩ ?_
     refine xR [] [0, 2, 6, 10, 19, 20, 21] [2, 6, 10, 761] [Sv s, .ref 2 0, .ref 6 0, .ref 10 0, slS true ls_1, I (ls_1.length : Int), I k] [some (.box [I 0, nilA]), some (.box [I bd, .arr 761]), some (.box [I (dcV (at_ (splB ⟨#[32]⟩ (at_ ls_1 k.toNat)) 0)), I (dcV (at_ (splB ⟨#[32]⟩ (at_ ls_1 k.toNat)) 1)), Sv (at_ (splB ⟨#[32]⟩ (at_ ls_1 k.toNat)) 2), I (dcV (at_ (splB ⟨#[32]⟩ (at_ ls_1 k.toNat)) 3))]), some (tAEdge ts)] [(0 : Int) ≤ 2 ∧ 2 < (((splB ⟨#[32]⟩ (at_ ls_1 k.toNat)).length) : Int)] ⟨⟨(by omega), (by omega)⟩, trivial⟩ ?_
     refine x_r [(3, .new 84), (4, .new 85)] [0, 2, 6, 19, 20, 21] [2, 6, 85] [Sv s, .ref 2 0, .ref 6 0, slS true ls_1, I (ls_1.length : Int), I k] [some (.box [I 0, nilA]), some (.box [I bd, .arr 85]), some (.arr 4 (ts.length + 1) (catF ts.length (fEdge ts) (litF [I (dcV (at_ (splB ⟨#[32]⟩ (at_ ls_1 k.toNat)) 0)), I (dcV (at_ (splB ⟨#[32]⟩ (at_ ls_1 k.toNat)) 1)), Sv (at_ (splB ⟨#[32]⟩ (at_ ls_1 k.toNat)) 2), I (dcV (at_ (splB ⟨#[32]⟩ (at_ ls_1 k.toNat)) 3))] 4)))] [(ts.length + 1) * 40 ≤ 140737488355328] ⟨(by omega), trivial⟩ ?_
     refine xe_block 2 ?_
     refine xe_block 1 ?_
     refine xe_then ?_
     refine x_r [] [0, 2, 6, 19, 20, 21] [2, 6, 85] [Sv s, .ref 2 0, .ref 6 0, slS true ls_1, I (ls_1.length : Int), I (k + 1)] [some (.box [I 0, nilA]), some (.box [I bd, .arr 85]), some (.arr 4 (ts.length + 1) (catF ts.length (fEdge ts) (litF [I (dcV (at_ (splB ⟨#[32]⟩ (at_ ls_1 k.toNat)) 0)), I (dcV (at_ (splB ⟨#[32]⟩ (at_ ls_1 k.toNat)) 1)), Sv (at_ (splB ⟨#[32]⟩ (at_ ls_1 k.toNat)) 2), I (dcV (at_ (splB ⟨#[32]⟩ (at_ ls_1 k.toNat)) 3))] 4)))] [inR .i64 (k + 1)] ⟨(inR_i64 (by omega) (by omega)), trivial⟩ ?_
     refine xe_weak [(761, 85)] (T := [(0, Sv s), (2, .ref 2 0), (6, .ref 6 0), (19, slS true ls_1), (20, I (ls_1.length : Int)), (21, I (k + 1))]) (O := [(2, .box [I 0, nilA]), (6, .box [I bd, .arr 761]), (761, tAEdge (ts ++ [(Edge.mk (dcV (at_ (splB ⟨#[32]⟩ (at_ ls_1 k.toNat)) 0)) (dcV (at_ (splB ⟨#[32]⟩ (at_ ls_1 k.toNat)) 1)) (at_ (splB ⟨#[32]⟩ (at_ ls_1 k.toNat)) 2) (dcV (at_ (splB ⟨#[32]⟩ (at_ ls_1 k.toNat)) 3)))]))]) rfl (⟨.inl rfl, .inl rfl, .inl rfl, .inl rfl, .inl rfl, .inl rfl, trivial⟩) (⟨.inl rfl, .inl rfl, .inr ⟨rfl, (by first | rfl | (simp; done) | (simp; omega) | omega), fun i_ hi_ => .inl (cat_snoc (enc := cEdge) (xs := ts) rfl i_ hi_)⟩, trivial⟩) (xe_again ((k + 1), bd, (ts ++ [(Edge.mk (dcV (at_ (splB ⟨#[32]⟩ (at_ ls_1 k.toNat)) 0)) (dcV (at_ (splB ⟨#[32]⟩ (at_ ls_1 k.toNat)) 1)) (at_ (splB ⟨#[32]⟩ (at_ ls_1 k.toNat)) 2) (dcV (at_ (splB ⟨#[32]⟩ (at_ ls_1 k.toNat)) 3)))])) rfl (show (0 ≤ (k + 1) ∧ (k + 1) ≤ (ls_1.length : Int)) ∧ (((ts ++ [(Edge.mk (dcV (at_ (splB ⟨#[32]⟩ (at_ ls_1 k.toNat)) 0)) (dcV (at_ (splB ⟨#[32]⟩ (at_ ls_1 k.toNat)) 1)) (at_ (splB ⟨#[32]⟩ (at_ ls_1 k.toNat)) 2) (dcV (at_ (splB ⟨#[32]⟩ (at_ ls_1 k.toNat)) 3)))]).length : Int) ≤ (k + 1)) ∧ (((k + 1) = 0 ∧ (ts ++ [(Edge.mk (dcV (at_ (splB ⟨#[32]⟩ (at_ ls_1 k.toNat)) 0)) (dcV (at_ (splB ⟨#[32]⟩ (at_ ls_1 k.toNat)) 1)) (at_ (splB ⟨#[32]⟩ (at_ ls_1 k.toNat)) 2) (dcV (at_ (splB ⟨#[32]⟩ (at_ ls_1 k.toNat)) 3)))]) = []) ∨ (1 ≤ (k + 1) ∧ bd = lt.Nodes ∧ (ts ++ [(Edge.mk (dcV (at_ (splB ⟨#[32]⟩ (at_ ls_1 k.toNat)) 0)) (dcV (at_ (splB ⟨#[32]⟩ (at_ ls_1 k.toNat)) 1)) (at_ (splB ⟨#[32]⟩ (at_ ls_1 k.toNat)) 2) (dcV (at_ (splB ⟨#[32]⟩ (at_ ls_1 k.toNat)) 3)))]) = lt.Edges.take ((k + 1).toNat - 1))) ∧ True from ⟨(by omega), (by first | omega | (simp; omega)), (by first | (refine .inr ⟨by omega, (by rw [hd1, dcV_dec (by omega)]), ?_⟩; rcases hst_ with q | q; (rw [q.2, hk0]; rfl); omega) | (rcases hst_ with q | q; (omega); ((have e_ : at_ lt.Edges (k.toNat - 1) = ⟨dcV (at_ (splB ⟨#[32]⟩ (at_ ls_1 k.toNat)) 0), dcV (at_ (splB ⟨#[32]⟩ (at_ ls_1 k.toNat)) 1), at_ (splB ⟨#[32]⟩ (at_ ls_1 k.toNat)) 2, dcV (at_ (splB ⟨#[32]⟩ (at_ ls_1 k.toNat)) 3)⟩ := by (rw [hd0, hd1, hd2, hd3, dcV_dec (by omega), dcV_dec (by omega), dcV_dec (by omega)])); refine .inr ⟨by omega, q.2.1, ?_⟩; rw [q.2.2, ← e_, show (k + 1).toNat - 1 = (k.toNat - 1) + 1 from by omega, List.take_succ_eq_append_getElem (by omega), at_eq (by omega)]))), trivial⟩) (by first | (show (((ls_1.length : Int) - (k + 1)).toNat : Nat) < ((ls_1.length : Int) - k).toNat; omega) | (dsimp only; omega)))
    have hke : k.toNat = lt.Edges.length + 1 := by omega
    have hfin : Lattice.mk bd ts = lt := by rcases hst_ with q | q; (omega); (rw [q.2.1, q.2.2, List.take_of_length_le (by omega)])
    refine x_r [(0, .dec false)] [0, 2, 6, 19, 20, 21, 22] [2, 6, 761] [Sv s, .ref 2 0, .ref 6 0, slS true ls_1, I (ls_1.length : Int), I k, Bv false] [some (.box [I 0, nilA]), some (.box [I bd, .arr 761]), some (tAEdge ts)] [¬ (k < (ls_1.length : Int))] ⟨h1, trivial⟩ ?_
    refine xe_then ?_
    refine x_seq ?_
    refine x_false rfl ?_
    refine x_exit ?_
    refine xe_exit_then ?_
    refine xe_loop_exit ?_
    refine xe_exit_same ?_
    refine xe_then ?_
    refine x_seq ?_
    refine xR [(1, .call [(false, .agg [I bd, slEdge false ts])] true (Bv true)), (5, .call [(false, .agg [I bd, slEdge false ts])] true (Sv (ltTx (Lattice.mk bd ts)))), (7, .dec false)] [2, 6, 96] [2, 6, 761] [.ref 2 0, .ref 6 0, Bv false] [some (.box [I 0, nilA]), some (.box [I bd, .arr 761]), some (tAEdge ts)] [Con Tryz.prog 39 [.agg [I bd, slEdge false ts]] true (Bv true) ∧ ((valOf (I bd) = valOf (I bd)) ∧ ((false = true → true = true) ∧ 4 = 4 ∧ ts.length = ts.length ∧ ∀ i_, i_ < ts.length → (fEdge ts) i_ = (fEdge ts) i_ ∨ (AV.idsL ((fEdge ts) i_) = [] ∧ leL (fun _ => none) false ((fEdge ts) i_) ((fEdge ts) i_))) ∧ ([] : List AV) = []) ∧ True, Con Tryz.prog 14 [.agg [I bd, slEdge false ts]] true (Sv (ltTx (Lattice.mk bd ts))) ∧ ((valOf (I bd) = valOf (I bd)) ∧ ((false = true → true = true) ∧ 4 = 4 ∧ ts.length = ts.length ∧ ∀ i_, i_ < ts.length → (fEdge ts) i_ = (fEdge ts) i_ ∨ (AV.idsL ((fEdge ts) i_) = [] ∧ leL (fun _ => none) false ((fEdge ts) i_) ((fEdge ts) i_))) ∧ ([] : List AV) = []) ∧ True, ¬ ((ltTx (Lattice.mk bd ts)) ≠ s)] ⟨⟨(ValidLattice_ok (Lattice.mk bd ts) (by rw [hfin]; exact hok)), ⟨rfl, ⟨⟨(fun h => by cases h), rfl, rfl, fun i _ => .inl rfl⟩, rfl⟩⟩, trivial⟩, ⟨(LatticeText_ok (Lattice.mk bd ts) (by rw [hfin]; exact hok)), ⟨rfl, ⟨⟨(fun h => by cases h), rfl, rfl, fun i _ => .inl rfl⟩, rfl⟩⟩, trivial⟩, (fun hq => hq (by rw [hfin]; exact hsi.symm)), trivial⟩ ?_
    refine x_false rfl ?_
    refine x_skip ?_
    refine xe_then ?_
    refine xR [] [2, 3] [2, 761] [.ref 2 0, Bv true] [some (.box [I bd, .arr 761]), some (tAEdge ts)] [] trivial ?_
    refine x_ret ?_
    refine xe_end ((Lattice.mk bd ts), true) (show (∀ l, okLat l → s = ltTx l → (Lattice.mk bd ts) = l) ∧ (true = true) ∧ (True) from ⟨(by exact fun m2 h2 q2 => hfin.trans (huq m2 h2 q2)), (by rfl), trivial⟩) (trivial) (.tup [.agg [I bd, .arr 761], Bv true]) (by kernel_rfl) (.inr ⟨⟨rfl, ⟨⟨(fun _ => rfl), rfl, rfl, fun i _ => .inl rfl⟩, rfl⟩⟩, ⟨rfl, rfl⟩⟩) (fun _ => rfl) (fun _ => (by simp [tagged, taggedL, tagEdge]))
  obtain ⟨⟨v, c⟩, ⟨hh0, hh1, _⟩, hc⟩ := hh
  exact ⟨v, c, hh0, hh1, hc⟩



-- spec.l15Same
theorem l15Same_ok (a : Lattice) (b : Lattice) (hab : a = b) : Con Tryz.prog 49 [.ptr false [I a.Nodes, slEdge false a.Edges], .ptr false [I b.Nodes, slEdge false b.Edges]] true (Bv true) := by
  refine fn_ok (fn := Tryz.f49) (nt := 52) Tryz.func49 rfl rfl rfl rfl (by simp [taggedL, tagged, tagEdge]) fun B hB => ?_
  refine aw_lens (x := .ptr false [I a.Nodes, slEdge false a.Edges]) 0 rfl (fun len_a => ?_)
  simp [LenOK, LenL, cEdge, fEdge, slEdge] at len_a
  refine aw_lens (x := .ptr false [I b.Nodes, slEdge false b.Edges]) 1 rfl (fun len_b => ?_)
  simp [LenOK, LenL, cEdge, fEdge, slEdge] at len_b
  refine aR [] [0, 1] [] [.ptr false [I a.Nodes, slEdge false a.Edges], .ptr false [I b.Nodes, slEdge false b.Edges]] [] [] hB trivial ?_
  refine aw_seq ?_
  refine aR [(8, .dec false), (20, .dec false)] [0, 1, 27] [] [.ptr false [I a.Nodes, slEdge false a.Edges], .ptr false [I b.Nodes, slEdge false b.Edges], Bv false] [] [¬ (a.Nodes ≠ b.Nodes), ¬ ((a.Edges.length : Int) ≠ (b.Edges.length : Int))] hB ⟨(fun hq => hq (by rw [hab])), (fun hq => hq (by rw [hab])), trivial⟩ ?_
  refine aw_false rfl ?_
  refine aw_skip ?_
  refine ae_then ?_
  refine aw_seq ?_
  refine aR [] [0, 1, 5] [] [.ptr false [I a.Nodes, slEdge false a.Edges], .ptr false [I b.Nodes, slEdge false b.Edges], I 0] [] [] hB trivial ?_
  refine aw_block ?_
  refine aw_loop (fun gn gσ => ∃ (i : Int), gn = ((a.Edges.length : Int) - i).toNat ∧ (0 ≤ i ∧ i ≤ (a.Edges.length : Int)) ∧ gσ = mkS [(0, .ptr false [I a.Nodes, slEdge false a.Edges]), (1, .ptr false [I b.Nodes, slEdge false b.Edges]), (5, I i)] []) (((a.Edges.length : Int) - 0).toNat) ⟨0, rfl, (by omega), rfl⟩ (fun gn gσ hI => ?_)
  obtain ⟨i, rfl, hi0, rfl⟩ := hI
  refine aw_seq ?_
  refine aw_seq ?_
  by_cases h1 : i < (a.Edges.length : Int)
  ·have hi : i.toNat < a.Edges.length := by omega
   have hi2 : i.toNat < b.Edges.length := by rw [← hab]; exact hi
   refine aw_r [(6, .dec true)] [0, 1, 5, 34] [] [.ptr false [I a.Nodes, slEdge false a.Edges], .ptr false [I b.Nodes, slEdge false b.Edges], I i, Bv true] [] [i < (a.Edges.length : Int)] hB ⟨h1, trivial⟩ ?_
   refine ae_then ?_
   refine aw_true rfl ?_
   refine aw_skip ?_
   refine ae_then ?_
   refine aw_seq ?_
   refine aw_block ?_
   refine aR [(14, .dec false)] [0, 1, 5, 51] [] [.ptr false [I a.Nodes, slEdge false a.Edges], .ptr false [I b.Nodes, slEdge false b.Edges], I i, Bv false] [] [(0 : Int) ≤ i ∧ i < (a.Edges.length : Int), (0 : Int) ≤ i ∧ i < (b.Edges.length : Int), ¬ (¬ (((at_ a.Edges i.toNat).From) = ((at_ b.Edges i.toNat).From) ∧ ((at_ a.Edges i.toNat).To) = ((at_ b.Edges i.toNat).To) ∧ ((at_ a.Edges i.toNat).Label) = ((at_ b.Edges i.toNat).Label) ∧ ((at_ a.Edges i.toNat).Cost) = ((at_ b.Edges i.toNat).Cost) ∧ True))] hB ⟨⟨(by omega), (by omega)⟩, ⟨(by omega), (by omega)⟩, (fun hq => hq (by rw [hab]; exact ⟨rfl, rfl, rfl, rfl, trivial⟩)), trivial⟩ ?_
   refine aw_false rfl ?_
   refine aw_skip ?_
   refine ae_block 1 ?_
   refine ae_then ?_
   refine aw_r [] [0, 1, 5] [] [.ptr false [I a.Nodes, slEdge false a.Edges], .ptr false [I b.Nodes, slEdge false b.Edges], I (i + 1)] [] [inR .i64 (i + 1)] hB ⟨(inR_i64 (by omega) (by omega)), trivial⟩ ?_
   exact ae_again _ (by omega) ⟨(i + 1), rfl, (by omega), rfl⟩
  refine aw_r [(6, .dec false)] [0, 1, 5, 34] [] [.ptr false [I a.Nodes, slEdge false a.Edges], .ptr false [I b.Nodes, slEdge false b.Edges], I i, Bv false] [] [¬ (i < (a.Edges.length : Int))] hB ⟨h1, trivial⟩ ?_
  refine ae_then ?_
  refine aw_false rfl ?_
  refine aw_exit ?_
  refine ae_exit_then ?_
  refine ae_exit_then ?_
  refine ae_exit_same ?_
  refine ae_then ?_
  refine aR [] [4] [] [Bv true] [] [] hB trivial ?_
  refine aw_ret ?_
  refine ae_ret hB (Bv true) (by kernel_rfl) (.inl rfl) rfl (fun _ => trivial)



-- spec.SameLattice
theorem specSameLattice_ok (a : Lattice) (b : Lattice) (hab : a = b) : Con Tryz.prog 15 [agLattice a, agLattice b] true (Bv true) := by
  refine fn_ok (fn := Tryz.f15) (nt := 6) Tryz.func15 rfl rfl rfl rfl (by simp [taggedL, tagged, tagEdge]) fun B hB => ?_
  refine aw_lens (x := agLattice a) 0 rfl (fun len_a => ?_)
  simp [LenOK, LenL, cEdge, fEdge, slEdge] at len_a
  refine aw_lens (x := agLattice b) 1 rfl (fun len_b => ?_)
  simp [LenOK, LenL, cEdge, fEdge, slEdge] at len_b
  refine aR [(0, .new 2), (1, .new 3)] [2, 3] [2, 3] [.ref 2 0, .ref 3 0] [some (bxLattice a), some (bxLattice b)] [] hB trivial ?_
  refine aR [(0, .call [(false, .ptr false [I a.Nodes, slEdge false a.Edges]), (false, .ptr false [I b.Nodes, slEdge false b.Edges])] true (Bv true))] [4] [] [Bv true] [] [Con Tryz.prog 49 [.ptr false [I a.Nodes, slEdge false a.Edges], .ptr false [I b.Nodes, slEdge false b.Edges]] true (Bv true) ∧ ((false = true → true = true) ∧ AV.idsL [I a.Nodes, slEdge false a.Edges] = [] ∧ (valOf (I a.Nodes) = valOf (I a.Nodes)) ∧ ((false = true → false = true) ∧ 4 = 4 ∧ a.Edges.length = a.Edges.length ∧ ∀ i_, i_ < a.Edges.length → (fEdge a.Edges) i_ = (fEdge a.Edges) i_ ∨ (AV.idsL ((fEdge a.Edges) i_) = [] ∧ leL (fun _ => none) false ((fEdge a.Edges) i_) ((fEdge a.Edges) i_))) ∧ ([] : List AV) = []) ∧ ((false = true → true = true) ∧ AV.idsL [I b.Nodes, slEdge false b.Edges] = [] ∧ (valOf (I b.Nodes) = valOf (I b.Nodes)) ∧ ((false = true → false = true) ∧ 4 = 4 ∧ b.Edges.length = b.Edges.length ∧ ∀ i_, i_ < b.Edges.length → (fEdge b.Edges) i_ = (fEdge b.Edges) i_ ∨ (AV.idsL ((fEdge b.Edges) i_) = [] ∧ leL (fun _ => none) false ((fEdge b.Edges) i_) ((fEdge b.Edges) i_))) ∧ ([] : List AV) = []) ∧ True] hB ⟨⟨(l15Same_ok a b hab), ⟨(fun h => by cases h), rfl, ⟨rfl, ⟨⟨(fun h => by cases h), rfl, rfl, fun i _ => .inl rfl⟩, rfl⟩⟩⟩, ⟨(fun h => by cases h), rfl, ⟨rfl, ⟨⟨(fun h => by cases h), rfl, rfl, fun i _ => .inl rfl⟩, rfl⟩⟩⟩, trivial⟩, trivial⟩ ?_
  refine aw_ret ?_
  refine ae_ret hB (Bv true) (by kernel_rfl) (.inl rfl) rfl (fun _ => trivial)


end Go.Proofs.YtdinloamhmdgjaaGreatDoor.Ax
