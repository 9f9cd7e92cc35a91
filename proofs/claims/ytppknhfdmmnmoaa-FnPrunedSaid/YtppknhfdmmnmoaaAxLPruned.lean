/- The statement FnPruned: contracts of what it reaches, and its proof. No conditions. -/
import Derived.Test.YtppknhfdmmnmoaaAxLPruned2
import Derived.Test.YtppknhfdmmnmoaaAxR
import Derived.Test.YtppknhfdmmnmoaaAxS
import Derived.Test.YtppknhfdmmnmoaaAxSF
import Derived.Test.YtppknhfdmmnmoaaSfRdgShelf
namespace Go.Proofs.Ytppknhfdmmnmoaa.Ax
open Go.RowKit Go.ChangeShapes Go.WideShapes
set_option linter.unusedVariables false
set_option linter.unusedSimpArgs false


-- spec.BestReading
theorem specBestReading_ok (l : Lattice) (hl : okLat l) : ∃ (v : Reading) (c : Int), ((c = 0 ∧ 0 < (bestL 1 l).length ∧ v = at_ (bestL 1 l) 0) ∨ (c = 3 ∧ (bestL 1 l).length = 0)) ∧ Con Try.prog 12 [agLattice l] true (.tup [agReading v, I c]) := by
  have hh : ∃ r : Reading × Int, (((r.2 = 0 ∧ 0 < (bestL 1 l).length ∧ r.1 = at_ (bestL 1 l) 0) ∨ (r.2 = 3 ∧ (bestL 1 l).length = 0)) ∧ (True)) ∧ CallOK Try.prog 12 [agLattice l] (lookO []) true (.tup [agReading r.1, I r.2]) (lookO []) := by
    refine fn_okX (Φ := fun r : Reading × Int => ((r.2 = 0 ∧ 0 < (bestL 1 l).length ∧ r.1 = at_ (bestL 1 l) 0) ∨ (r.2 = 3 ∧ (bestL 1 l).length = 0)) ∧ (True)) [] (fun r => []) (fn := Try.f12) (nt := 16) Try.func12 rfl rfl (args := [agLattice l]) rfl (allcons (.inl ⟨rfl, by simp [tagged, taggedL, tagEdge]⟩) allnil) (res := fun r => .tup [agReading r.1, I r.2]) ?_
    refine xR [(0, .new 1), (1, .new 2)] [1, 2] [1, 2] [.ref 1 0, .ref 2 0] [some (bxLattice l), some (.box [Sv (⟨#[]⟩ : ByteArray), I 0])] [] trivial ?_
    refine x_seq ?_
    refine xR [(0, .call [(false, .ptr false [I l.Nodes, slEdge false l.Edges])] true (Bv true))] [1, 2, 6] [1, 2] [.ref 1 0, .ref 2 0, Bv false] [some (bxLattice l), some (.box [Sv (⟨#[]⟩ : ByteArray), I 0])] [Con Try.prog 19 [.ptr false [I l.Nodes, slEdge false l.Edges]] true (Bv true) ∧ ((false = true → true = true) ∧ AV.idsL [I l.Nodes, slEdge false l.Edges] = [] ∧ (valOf (I l.Nodes) = valOf (I l.Nodes)) ∧ ((false = true → false = true) ∧ 4 = 4 ∧ l.Edges.length = l.Edges.length ∧ ∀ i_, i_ < l.Edges.length → (fEdge l.Edges) i_ = (fEdge l.Edges) i_ ∨ (AV.idsL ((fEdge l.Edges) i_) = [] ∧ leL (fun _ => none) false ((fEdge l.Edges) i_) ((fEdge l.Edges) i_))) ∧ ([] : List AV) = []) ∧ True] ⟨⟨(l15Ok_ok l hl), ⟨(fun h => by cases h), rfl, ⟨rfl, ⟨⟨(fun h => by cases h), rfl, rfl, fun i _ => .inl rfl⟩, rfl⟩⟩⟩, trivial⟩, trivial⟩ ?_
    refine x_false rfl ?_
    refine x_skip ?_
    refine xe_then ?_
    refine x_seq ?_
    refine x_weak [] (T := [(1, .ptr true [I l.Nodes, slEdge false l.Edges]), (2, .ref 2 0), (6, Bv false)]) (O := [(2, .box [Sv (⟨#[]⟩ : ByteArray), I 0])]) rfl (⟨.inr ⟨(fun _ => rfl), rfl, ⟨rfl, ⟨⟨(fun h => by cases h), rfl, rfl, fun i _ => .inl rfl⟩, rfl⟩⟩⟩, .inl rfl, .inl rfl, trivial⟩) (⟨.inl rfl, trivial⟩) ?_
    obtain ⟨v_1, hx1_0, hc1⟩ := l15Best_ok l 1 hl (by omega)
    have hbl : v_1 = bestL 1 l := hx1_0
    refine x_r [(0, .call [(false, .ptr false [I l.Nodes, slEdge false l.Edges]), (true, .any)] false (slReading false v_1))] [2, 4] [2] [.ref 2 0, slReading false v_1] [some (.box [Sv (⟨#[]⟩ : ByteArray), I 0])] [Con Try.prog 21 [.ptr false [I l.Nodes, slEdge false l.Edges], I 1] false (slReading false v_1) ∧ ((false = true → true = true) ∧ AV.idsL [I l.Nodes, slEdge false l.Edges] = [] ∧ (valOf (I l.Nodes) = valOf (I l.Nodes)) ∧ ((false = true → false = true) ∧ 4 = 4 ∧ l.Edges.length = l.Edges.length ∧ ∀ i_, i_ < l.Edges.length → (fEdge l.Edges) i_ = (fEdge l.Edges) i_ ∨ (AV.idsL ((fEdge l.Edges) i_) = [] ∧ leL (fun _ => none) false ((fEdge l.Edges) i_) ((fEdge l.Edges) i_))) ∧ ([] : List AV) = []) ∧ True] ⟨⟨hc1, ⟨(fun h => by cases h), rfl, ⟨rfl, ⟨⟨(fun h => by cases h), rfl, rfl, fun i _ => .inl rfl⟩, rfl⟩⟩⟩, trivial⟩, trivial⟩ ?_
    refine xe_then ?_
    refine x_seq ?_
    refine x_seq ?_
    by_cases h1 : (v_1.length : Int) = 0
    ·refine x_r [(2, .dec true)] [2, 4, 11] [2] [.ref 2 0, slReading false v_1, Bv true] [some (.box [Sv (⟨#[]⟩ : ByteArray), I 0])] [(v_1.length : Int) = 0] ⟨h1, trivial⟩ ?_
     refine xe_then ?_
     refine x_true rfl ?_
     refine xR [] [2, 3] [2] [.ref 2 0, I 3] [some (.box [Sv (⟨#[]⟩ : ByteArray), I 0])] [] trivial ?_
     refine x_ret ?_
     refine xe_ret_then ?_
     refine xe_end ((Reading.mk (⟨#[]⟩ : ByteArray) 0), 3) (show ((3 = 0 ∧ 0 < (bestL 1 l).length ∧ (Reading.mk (⟨#[]⟩ : ByteArray) 0) = at_ (bestL 1 l) 0) ∨ (3 = 3 ∧ (bestL 1 l).length = 0)) ∧ (True) from ⟨(by first | exact .inr ⟨rfl, by rw [← hbl]; omega⟩ | exact .inl ⟨rfl, by rw [← hbl]; omega, by rw [← hbl]⟩), trivial⟩) (trivial) (.tup [.agg [Sv (⟨#[]⟩ : ByteArray), I 0], I 3]) (by kernel_rfl) (.inl rfl) (fun _ => rfl) (fun _ => (by simp [tagged, taggedL]))
    refine x_r [(2, .dec false)] [2, 4, 11] [2] [.ref 2 0, slReading false v_1, Bv false] [some (.box [Sv (⟨#[]⟩ : ByteArray), I 0])] [¬ ((v_1.length : Int) = 0)] ⟨h1, trivial⟩ ?_
    refine xe_then ?_
    refine x_false rfl ?_
    refine x_skip ?_
    refine xe_then ?_
    refine xR [] [2, 3] [2] [.ref 2 0, I 0] [some (bxReading (at_ v_1 0))] [(0 : Int) ≤ 0 ∧ 0 < (v_1.length : Int)] ⟨⟨(by omega), (by omega)⟩, trivial⟩ ?_
    refine x_ret ?_
    refine xe_end ((at_ v_1 0), 0) (show ((0 = 0 ∧ 0 < (bestL 1 l).length ∧ (at_ v_1 0) = at_ (bestL 1 l) 0) ∨ (0 = 3 ∧ (bestL 1 l).length = 0)) ∧ (True) from ⟨(by first | exact .inr ⟨rfl, by rw [← hbl]; omega⟩ | exact .inl ⟨rfl, by rw [← hbl]; omega, by rw [← hbl]⟩), trivial⟩) (trivial) (.tup [agReading (at_ v_1 0), I 0]) (by kernel_rfl) (.inl rfl) (fun _ => rfl) (fun _ => (by simp [tagged, taggedL]))
  obtain ⟨⟨v, c⟩, ⟨hh0, _⟩, hc⟩ := hh
  exact ⟨v, c, hh0, hc⟩



-- bits.Len

-- cmp.isNaN[int]

-- cmp.Compare[int]

-- impl.compareReadings

theorem swo_of {α : Type} {c : α → α → Int} (h : CmpW c) : Go.Sort.SWO (ltOf c) := ⟨fun x => decide_eq_false (by have := h.refl x; omega), fun x y z h1 h2 => decide_eq_true (h.trans x y z (Int.le_of_lt (of_decide_eq_true (p := c x y < 0) h1)) (of_decide_eq_true (p := c y z < 0) h2)), fun x y z h1 h2 => decide_eq_false fun h3 => by
  have q1 := of_decide_eq_false h1
  have q2 := of_decide_eq_false h2
  have a1 := h.anti y x
  have a2 := h.anti z y
  have a3 := h.anti x z
  have b1 := h.anti x y
  have b2 := h.anti y z
  have := h.le (x := z) (y := y) (z := x) (by omega) (by omega)
  omega⟩
theorem srt_iso {α : Type} [Inhabited α] {c : α → α → Int} (h : CmpW c) (ht : ∀ x y, c x y = 0 → x = y) (xs : List α) : srtF c xs = isoL c xs xs.length := by
  have p1 := srt_perm (swo_of h) xs
  have p2 := isoL_perm c xs xs.length (Nat.le_refl _)
  rw [List.take_of_length_le (Nat.le_refl _)] at p2
  have o1 := srt_pw (swo_of h) xs
  have o2 : (isoL c xs xs.length).Pairwise fun x y => ¬ c y x < 0 := (isoL_ord (c := c) h (B := fun _ _ => True) (xs := xs) (List.pairwise_of_forall fun _ _ => trivial) xs.length (Nat.le_refl _)).imp fun {x y} q => by
    have a1 := h.anti x y
    have a2 := h.anti y x
    rcases q with q | q
    · omega
    · have := q.1; omega
  refine List.Perm.eq_of_pairwise (le := fun x y => ¬ c y x < 0) (fun a b _ _ q1 q2 => ht a b ?_) o1 o2 (p1.trans p2.symm)
  have a1 := h.anti a b
  have a2 := h.anti b a
  omega


-- impl.firstReadings
theorem tl_inj {a b : ByteArray} (q : a.toList = b.toList) : a = b := by
  rw [Lib.toList_data, Lib.toList_data] at q
  cases a; cases b
  simp only [ByteArray.mk.injEq]
  exact Array.toList_inj.1 q
theorem sfNI (x : Int) (w : World) : Calls Try.prog 51 #[.int .i64 x] w fun e w' => e = .returned (.bool false) ∧ w' = w := by
  go_enter Try.func51, Try.ntmps51
  go_wp2
  go_ret
  exact ⟨by simp, rfl⟩
theorem sfCI (x y : Int) (w : World) : Calls Try.prog 43 #[.int .i64 x, .int .i64 y] w fun e w' => e = .returned (.int .i64 (cmpI x y)) ∧ w' = w := by
  go_enter Try.func43, Try.ntmps43
  go_wp2_with (go_at_call 51; refine (sfNI _ _).mono ?_; rintro e w' ⟨rfl, hw⟩; rw [hw])
  all_goals (go_ret; refine ⟨?_, rfl⟩; congr 2; unfold cmpI; (repeat' split) <;> first | rfl | (exfalso; omega))

theorem sfNJ (x : Int) (w : World) : Calls Try.prog 68 #[.int .i64 x] w fun e w' => e = .returned (.bool false) ∧ w' = w := by
  go_enter Try.func68, Try.ntmps68
  go_wp2
  go_ret
  exact ⟨by simp, rfl⟩
theorem sfCJ (x y : Int) (w : World) : Calls Try.prog 56 #[.int .i64 x, .int .i64 y] w fun e w' => e = .returned (.int .i64 (cmpI x y)) ∧ w' = w := by
  go_enter Try.func56, Try.ntmps56
  go_wp2_with (go_at_call 68; refine (sfNJ _ _).mono ?_; rintro e w' ⟨rfl, hw⟩; rw [hw])
  all_goals (go_ret; refine ⟨?_, rfl⟩; congr 2; unfold cmpI; (repeat' split) <;> first | rfl | (exfalso; omega))

theorem sfNS (x : ByteArray) (w : World) : Calls Try.prog 52 #[.string x] w fun e w' => e = .returned (.bool false) ∧ w' = w := by
  go_enter Try.func52, Try.ntmps52
  go_wp2
  go_ret
  exact ⟨by simp, rfl⟩
theorem sfCS (x y : ByteArray) (w : World) : Calls Try.prog 44 #[.string x, .string y] w fun e w' => e = .returned (.int .i64 (cmpS x y)) ∧ w' = w := by
  go_enter Try.func44, Try.ntmps44
  go_wp2_with (go_at_call 52; refine (sfNS _ _).mono ?_; rintro e w' ⟨rfl, hw⟩; rw [hw])
  all_goals (go_ret; refine ⟨?_, rfl⟩; congr 2; unfold cmpS sless; (repeat' split) <;> first | rfl | (exfalso; simp_all; done) | (exfalso; rename_i h1 h2 h3; exact h3.2 (tl_inj (by simpa using h1))))

theorem sfOr (b n c : Nat) (xs : List Int) (w : World) (hn : n = xs.length) (hc : n ≤ 9223372036854775807) (h : ∀ j, j < xs.length → w.cell? ⟨b, j, none⟩ = some (.int .i64 (at_ xs j))) : Calls Try.prog 42 #[.slice (some ⟨b, 0, none⟩) n c] w fun e w' => e = .returned (.int .i64 (orL xs)) ∧ w' = w := by
  go_enter Try.func42, Try.ntmps42
  go_wp2
  go_loop [8] (fun i => ∃ k : Nat, k ≤ n ∧ i = .int .i64 k ∧ ∀ j, j < k → at_ xs j = 0) (fun i => n - (intOf i).toNat)
  case atStart => exact ⟨0, Nat.zero_le _, rfl, fun j hj => absurd hj (Nat.not_lt_zero _)⟩
  case round =>
    obtain ⟨k, hk, rfl, hz⟩ := hrel
    by_cases hlt : k < n
    · have ck := h k (by omega)
      have S : Hid (at_ xs k = 0 → ∀ j, j < k + 1 → at_ xs j = 0) := fun q j hj => by
        by_cases e : j = k
        · rw [e]; exact q
        · exact hz j (by omega)
      have T : Hid (at_ xs k ≠ 0 → orL xs = at_ xs k) := fun q => orL_at (by omega) hz q
      generalize at_ xs k = v at ck S T
      clear h hz
      by_cases hv : v = 0
      · have S2 : Hid (∀ j, j < k + 1 → at_ xs j = 0) := S.out hv
        clear S T
        subst hv
        go_wp2
        exact ⟨⟨k + 1, by omega, rfl, S2.out⟩, by simp [intOf]; omega⟩
      · have T2 : Hid (orL xs = v) := T.out hv
        clear S T
        go_wp2
        go_ret
        exact ⟨by rw [T2.out]; rfl, rfl⟩
    · have : k = n := by omega
      subst this
      have T : Hid (orL xs = 0) := orL_none (fun j hj => hz j (by omega))
      clear h hz
      go_wp2
      all_goals (go_ret; exact ⟨by rw [T.out]; rfl, rfl⟩)

def sfeRdg (x : Reading) : List Value := [.string x.Text, .int .i64 x.Cost]
theorem srRcmp (x y : Reading) (w : World) : Calls Try.prog 49 (#[.agg (sfeRdg x).toArray, .agg (sfeRdg y).toArray] ++ #[]) w fun e w' => e = .returned (.int .i64 (cmpR x y)) ∧ ∃ q os', w' = Go.Sort.grow (w.drewN q) os' := by
  show Calls Try.prog 49 #[.agg #[.string x.Text, .int .i64 x.Cost], .agg #[.string y.Text, .int .i64 y.Cost]] w _
  go_enter Try.func49, Try.ntmps49
  go_wp2
  refine wp_region_split_lit 17 (by kernel_rfl) (by kernel_rfl) (by kernel_rfl) ?_
  repeat (quiet_step (first | (go_at_call 43; exact Calls.quiet_of_same (sfCI _ _ _)) | (go_at_call 56; exact Calls.quiet_of_same (sfCJ _ _ _)) | (go_at_call 44; exact Calls.quiet_of_same (sfCS _ _ _))))
  refine wpQuiet_nil ?_
  intro _ hw'
  obtain ⟨nq, hw''⟩ := hw'
  subst hw''
  simp only [List.drop_succ_cons, List.drop_zero]
  go_wp2_with fail
  refine (sfOr _ _ _ [cmpI x.Cost y.Cost, cmpI (x.Text.size : Int) (y.Text.size : Int), cmpS x.Text y.Text] _ rfl (by simp) (fun j hj => ?_)).mono ?_
  · have hj2 : j = 0 ∨ j = 1 ∨ j = 2 := by
      simp at hj; omega
    have e : ∀ (a b c : Obj), (((w.heap.push a).push b).push c)[w.heap.size + 1 + 1]? = some c := fun a b c => by rw [Array.getElem?_push, if_pos (by simp)]
    unfold World.cell?
    rcases hj2 with rfl | rfl | rfl <;> (erw [e]; rfl)
  rintro e w' ⟨rfl, rfl⟩
  go_wp2
  go_ret
  refine ⟨rfl, nq, #[.cells #[Value.string x.Text, Value.int IntKind.i64 x.Cost] 38 (0, 0), .cells #[Value.string y.Text, Value.int IntKind.i64 y.Cost] 38 (0, 0), .cells #[Value.int IntKind.i64 (cmpI x.Cost y.Cost), Value.int IntKind.i64 (cmpI (x.Text.size : Int) (y.Text.size : Int)), Value.int IntKind.i64 (cmpS x.Text y.Text)] 3 (0, 0)], ?_⟩
  have e : ∀ (a b c : Obj), ((w.heap.push a).push b).push c = w.heap ++ #[a, b, c] := fun a b c => Array.toList_inj.1 (by simp)
  unfold Go.Sort.grow
  show World.mk (((w.heap.push _).push _).push _) w.tape (w.drawn + nq) w.os w.output = World.mk (w.heap ++ #[_, _, _]) w.tape (w.drawn + nq) w.os w.output
  rw [e]

theorem srRsort_ok (data : List Reading) (hl : data.length ≤ 4000000) : ∃ (data' : List Reading), (data' = isoL cmpR data data.length) ∧ CallOK Try.prog 48 [.arr 8621, .fn 49 []] (lookO [(8621, tAReading data)]) true (.tup []) (lookO [(8621, tAReading data')]) := by
  refine ⟨srtF cmpR data, srt_iso cmpR_w cmpR_tot data, ?_⟩
  exact sortf_callOK (enc := sfeRdg) (kc := 2) (by decide) (fun _ => rfl) (fun x v hv => by simp only [sfeRdg, List.mem_cons, List.not_mem_nil, or_false] at hv; rcases hv with rfl | rfl <;> rfl) (cf := cmpR) (swo_of cmpR_w)
    (fun blk off cap d w h1 h2 h3 => AnyQ.slices_SortFunc_eq Try.laysSfRdg 2 (fun w => run_isAgg (by kernel_rfl) w) (fun w => run_sizeOf (by kernel_rfl) w) sfeRdg (fun _ => rfl) (fun x v hv => by simp only [sfeRdg, List.mem_cons, List.not_mem_nil, or_false] at hv; rcases hv with rfl | rfl <;> rfl) cmpR (swo_of cmpR_w) 49 #[] blk off cap d w (enters_of Try.func49 (by kernel_rfl) rfl) (fun m os dk hdk x y => srRcmp x y _) h1 h2 h3)
    (fun p cap fv w => AnyF.slices_SortFunc_none Try.laysSfRdg p cap fv w) 8621 data (by omega)

theorem firstR_ok (list : List Reading) (k : Int) (hl : list.length ≤ 4000000) (hk : 0 ≤ k ∧ k ≤ 4000000) : ∃ (list' : List Reading) (out : List Reading), (out = frL k.toNat list) ∧ CallOK Try.prog 37 [.arr 8621, I k] (lookO [(8621, tAReading list)]) false (.arr 8622) (lookO [(8621, tAReading list'), (8622, tAReading out)]) := by
  have hh : ∃ r : (List Reading) × (List Reading), ((r.2 = frL k.toNat list) ∧ (True)) ∧ CallOK Try.prog 37 [.arr 8621, I k] (lookO [(8621, tAReading list)]) false (.arr 8622) (lookO [(8621, tAReading r.1), (8622, tAReading r.2)]) := by
    refine fn_okX (Φ := fun r : (List Reading) × (List Reading) => (r.2 = frL k.toNat list) ∧ (True)) [(8621, tAReading list)] (fun r => [(8621, tAReading r.1), (8622, tAReading r.2)]) (fn := Try.f37) (nt := 38) Try.func37 rfl rfl (args := [.arr 8621, I k]) rfl (allcons (.inr trivial) (allcons (.inl ⟨rfl, trivial⟩) allnil)) (res := fun r => .arr 8622) ?_
    refine xR [] [0, 1] [8621] [.arr 8621, I k] [some (tAReading list)] [] trivial ?_
    refine x_seq ?_
    obtain ⟨data'_1, hx1_0, hc1⟩ := srRsort_ok list (by omega)
    have hys := hx1_0
    have hyl : data'_1.length = list.length := by rw [hys, isoL_len]
    refine x_r [(1, .lend [(8621, tAReading list, tAReading data'_1)] [] [(true, .any), (true, .any)] true (.tup []))] [0, 1] [8621] [.arr 8621, I k] [some (tAReading data'_1)] [CallOK Try.prog 48 [.arr 8621, .fn 49 []] (lookO [(8621, tAReading list)]) true (.tup []) (lookO [(8621, tAReading data'_1)]) ∧ (((tAReading list : Ob) = tAReading list ∨ obLe noOb true (tAReading list) (tAReading list)) ∧ taggedO false (tAReading list)) ∧ True] ⟨⟨hc1, ⟨.inl rfl, fun _ _ => tagcReading false _⟩, trivial⟩, trivial⟩ ?_
    refine xe_then ?_
    refine xR [(0, .new 11)] [0, 1, 5] [11, 8621] [.arr 8621, I k, .mapr 11] [some (.set ([] : List ByteArray)), some (tAReading data'_1)] [] trivial ?_
    refine xR [] [0, 1, 5, 6] [11, 8621] [.arr 8621, I k, .mapr 11, nilA] [some (.set ([] : List ByteArray)), some (tAReading data'_1)] [] trivial ?_
    refine x_seq ?_
    refine xR [] [1, 5, 6, 12, 13, 14] [11, 8621] [I k, .mapr 11, nilA, .arr 8621, I (data'_1.length : Int), I 0] [some (.set ([] : List ByteArray)), some (tAReading data'_1)] [] trivial ?_
    refine x_block ?_
    refine x_nil 6 706 2 (fun _ => []) (by kernel_rfl) ?_
    refine x_weak [] (T := [(1, I k), (5, .mapr 11), (6, .arr 706), (12, .arr 8621), (13, I (data'_1.length : Int)), (14, I 0)]) (O := [(11, .set ([] : List ByteArray)), (706, tAReading ([] : List Reading)), (8621, tAReading data'_1)]) rfl (⟨.inl rfl, .inl rfl, .inl rfl, .inl rfl, .inl rfl, .inl rfl, trivial⟩) (⟨.inl rfl, .inr ⟨rfl, (by first | rfl | (simp; done) | (simp; omega) | omega), fun i_ hi_ => absurd hi_ (Nat.not_lt_zero _)⟩, .inl rfl, trivial⟩) ?_
    refine x_loop (X := (List Reading) × Int × (List ByteArray)) (fun x => mkS [(1, I k), (5, .mapr 11), (6, .arr 706), (12, .arr 8621), (13, I (data'_1.length : Int)), (14, I x.2.1)] [(11, .set x.2.2), (706, tAReading x.1), (8621, tAReading data'_1)]) (fun x => (0 ≤ x.2.1 ∧ x.2.1 ≤ (data'_1.length : Int)) ∧ (x.1 = frI k.toNat data'_1 x.2.1.toNat) ∧ (x.2.2 = x.1.map Reading.Text) ∧ True) (fun x => ((data'_1.length : Int) - x.2.1).toNat) (([] : List Reading), 0, ([] : List ByteArray)) rfl (show (0 ≤ (0 : Int) ∧ (0 : Int) ≤ (data'_1.length : Int)) ∧ (([] : List Reading) = frI k.toNat data'_1 (0 : Int).toNat) ∧ (([] : List ByteArray) = ([] : List Reading).map Reading.Text) ∧ True from ⟨(by omega), (by rfl), (by rfl), trivial⟩) (fun x hI => ?_)
    obtain ⟨out, t14, ks⟩ := x
    obtain ⟨hi0, hou, hks, _⟩ : (0 ≤ t14 ∧ t14 ≤ (data'_1.length : Int)) ∧ (out = frI k.toNat data'_1 t14.toNat) ∧ (ks = out.map Reading.Text) ∧ True := hI
    show XW _ _ _ _ (mkS [(1, I k), (5, .mapr 11), (6, .arr 706), (12, .arr 8621), (13, I (data'_1.length : Int)), (14, I t14)] [(11, .set ks), (706, tAReading out), (8621, tAReading data'_1)]) _ _
    refine x_seq ?_
    by_cases h1 : t14 < (data'_1.length : Int)
    ·have hi : t14.toNat < data'_1.length := by omega
     have hii : (t14 + 1).toNat = t14.toNat + 1 := by omega
     have hfl := frI_len k.toNat data'_1 t14.toNat
     rw [← hou] at hfl
     refine x_r [(0, .dec true)] [1, 5, 6, 12, 13, 14, 15] [11, 706, 8621] [I k, .mapr 11, .arr 706, .arr 8621, I (data'_1.length : Int), I t14, Bv true] [some (.set ks), some (tAReading out), some (tAReading data'_1)] [t14 < (data'_1.length : Int)] ⟨h1, trivial⟩ ?_
     refine xe_then ?_
     refine x_seq ?_
     refine x_true rfl ?_
     refine x_skip ?_
     refine xe_then ?_
     refine x_seq ?_
     refine x_block ?_
     refine xR [(2, .new 8)] [1, 5, 6, 8, 12, 13, 14] [8, 11, 706, 8621] [I k, .mapr 11, .arr 706, .ref 8 0, .arr 8621, I (data'_1.length : Int), I t14] [some (bxReading (at_ data'_1 t14.toNat)), some (.set ks), some (tAReading out), some (tAReading data'_1)] [(0 : Int) ≤ t14 ∧ t14 < (data'_1.length : Int), t14.toNat < data'_1.length] ⟨⟨(by omega), (by omega)⟩, (by omega), trivial⟩ ?_
     refine x_seq ?_
     by_cases h2 : (out.length : Int) < k
     ·by_cases h3 : ((at_ data'_1 t14.toNat).Text) ∈ ks
      ·refine x_r [(3, .dec true), (8, .dec true)] [1, 5, 6, 8, 12, 13, 14, 28] [8, 11, 706, 8621] [I k, .mapr 11, .arr 706, .ref 8 0, .arr 8621, I (data'_1.length : Int), I t14, Bv false] [some (bxReading (at_ data'_1 t14.toNat)), some (.set ks), some (tAReading out), some (tAReading data'_1)] [(out.length : Int) < k, ((at_ data'_1 t14.toNat).Text) ∈ ks] ⟨h2, h3, trivial⟩ ?_
       refine xe_then ?_
       refine x_false rfl ?_
       refine x_skip ?_
       refine xe_block 1 ?_
       refine xe_then ?_
       refine x_r [] [1, 5, 6, 12, 13, 14] [11, 706, 8621] [I k, .mapr 11, .arr 706, .arr 8621, I (data'_1.length : Int), I (t14 + 1)] [some (.set ks), some (tAReading out), some (tAReading data'_1)] [inR .i64 (t14 + 1)] ⟨(inR_i64 (by omega) (by omega)), trivial⟩ ?_
       exact xe_again (out, (t14 + 1), ks) rfl (show (0 ≤ (t14 + 1) ∧ (t14 + 1) ≤ (data'_1.length : Int)) ∧ (out = frI k.toNat data'_1 (t14 + 1).toNat) ∧ (ks = out.map Reading.Text) ∧ True from ⟨(by omega), (by rw [hii]; first | exact fr_y hou hks (by omega) (by assumption) | exact fr_n1 hou (by omega) | exact fr_n2 hou hks (by assumption)), (by first | exact hks | (rw [hks, List.map_append]; rfl)), trivial⟩) (by first | (show (((data'_1.length : Int) - (t14 + 1)).toNat : Nat) < ((data'_1.length : Int) - t14).toNat; omega) | (dsimp only; omega))
      refine x_r [(3, .dec true), (8, .dec false)] [1, 5, 6, 8, 12, 13, 14, 28] [8, 11, 706, 8621] [I k, .mapr 11, .arr 706, .ref 8 0, .arr 8621, I (data'_1.length : Int), I t14, Bv true] [some (bxReading (at_ data'_1 t14.toNat)), some (.set ks), some (tAReading out), some (tAReading data'_1)] [(out.length : Int) < k, ¬ (((at_ data'_1 t14.toNat).Text) ∈ ks)] ⟨h2, h3, trivial⟩ ?_
      refine xe_then ?_
      refine x_true rfl ?_
      refine xR [] [1, 5, 6, 8, 12, 13, 14] [8, 11, 706, 8621] [I k, .mapr 11, .arr 706, .ref 8 0, .arr 8621, I (data'_1.length : Int), I t14] [some (bxReading (at_ data'_1 t14.toNat)), some (.set (ks ++ [(at_ data'_1 t14.toNat).Text])), some (tAReading out), some (tAReading data'_1)] [¬ (((at_ data'_1 t14.toNat).Text) ∈ ks)] ⟨h3, trivial⟩ ?_
      refine x_r [(2, .new 34), (3, .new 35)] [1, 5, 6, 12, 13, 14] [11, 35, 8621] [I k, .mapr 11, .arr 35, .arr 8621, I (data'_1.length : Int), I t14] [some (.set (ks ++ [(at_ data'_1 t14.toNat).Text])), some (.arr 2 (out.length + 1) (catF out.length (fReading out) (litF [Sv ((at_ data'_1 t14.toNat).Text), I ((at_ data'_1 t14.toNat).Cost)] 2))), some (tAReading data'_1)] [(out.length + 1) * 24 ≤ 140737488355328] ⟨(by omega), trivial⟩ ?_
      refine xe_block 1 ?_
      refine xe_then ?_
      refine x_r [] [1, 5, 6, 12, 13, 14] [11, 35, 8621] [I k, .mapr 11, .arr 35, .arr 8621, I (data'_1.length : Int), I (t14 + 1)] [some (.set (ks ++ [(at_ data'_1 t14.toNat).Text])), some (.arr 2 (out.length + 1) (catF out.length (fReading out) (litF [Sv ((at_ data'_1 t14.toNat).Text), I ((at_ data'_1 t14.toNat).Cost)] 2))), some (tAReading data'_1)] [inR .i64 (t14 + 1)] ⟨(inR_i64 (by omega) (by omega)), trivial⟩ ?_
      refine xe_weak [(706, 35)] (T := [(1, I k), (5, .mapr 11), (6, .arr 706), (12, .arr 8621), (13, I (data'_1.length : Int)), (14, I (t14 + 1))]) (O := [(11, .set (ks ++ [(at_ data'_1 t14.toNat).Text])), (706, tAReading (out ++ [(at_ data'_1 t14.toNat)])), (8621, tAReading data'_1)]) rfl (⟨.inl rfl, .inl rfl, .inl rfl, .inl rfl, .inl rfl, .inl rfl, trivial⟩) (⟨.inl rfl, .inr ⟨rfl, (by first | rfl | (simp; done) | (simp; omega) | omega), fun i_ hi_ => .inl (cat_snoc (enc := cReading) (xs := out) rfl i_ hi_)⟩, .inl rfl, trivial⟩) (xe_again ((out ++ [(at_ data'_1 t14.toNat)]), (t14 + 1), (ks ++ [(at_ data'_1 t14.toNat).Text])) rfl (show (0 ≤ (t14 + 1) ∧ (t14 + 1) ≤ (data'_1.length : Int)) ∧ ((out ++ [(at_ data'_1 t14.toNat)]) = frI k.toNat data'_1 (t14 + 1).toNat) ∧ ((ks ++ [(at_ data'_1 t14.toNat).Text]) = (out ++ [(at_ data'_1 t14.toNat)]).map Reading.Text) ∧ True from ⟨(by omega), (by rw [hii]; first | exact fr_y hou hks (by omega) (by assumption) | exact fr_n1 hou (by omega) | exact fr_n2 hou hks (by assumption)), (by first | exact hks | (rw [hks, List.map_append]; rfl)), trivial⟩) (by first | (show (((data'_1.length : Int) - (t14 + 1)).toNat : Nat) < ((data'_1.length : Int) - t14).toNat; omega) | (dsimp only; omega)))
     refine x_r [(3, .dec false)] [1, 5, 6, 8, 12, 13, 14, 28] [8, 11, 706, 8621] [I k, .mapr 11, .arr 706, .ref 8 0, .arr 8621, I (data'_1.length : Int), I t14, Bv false] [some (bxReading (at_ data'_1 t14.toNat)), some (.set ks), some (tAReading out), some (tAReading data'_1)] [¬ ((out.length : Int) < k)] ⟨h2, trivial⟩ ?_
     refine xe_then ?_
     refine x_false rfl ?_
     refine x_skip ?_
     refine xe_block 1 ?_
     refine xe_then ?_
     refine x_r [] [1, 5, 6, 12, 13, 14] [11, 706, 8621] [I k, .mapr 11, .arr 706, .arr 8621, I (data'_1.length : Int), I (t14 + 1)] [some (.set ks), some (tAReading out), some (tAReading data'_1)] [inR .i64 (t14 + 1)] ⟨(inR_i64 (by omega) (by omega)), trivial⟩ ?_
     exact xe_again (out, (t14 + 1), ks) rfl (show (0 ≤ (t14 + 1) ∧ (t14 + 1) ≤ (data'_1.length : Int)) ∧ (out = frI k.toNat data'_1 (t14 + 1).toNat) ∧ (ks = out.map Reading.Text) ∧ True from ⟨(by omega), (by rw [hii]; first | exact fr_y hou hks (by omega) (by assumption) | exact fr_n1 hou (by omega) | exact fr_n2 hou hks (by assumption)), (by first | exact hks | (rw [hks, List.map_append]; rfl)), trivial⟩) (by first | (show (((data'_1.length : Int) - (t14 + 1)).toNat : Nat) < ((data'_1.length : Int) - t14).toNat; omega) | (dsimp only; omega))
    have hfin : out = frL k.toNat list := by rw [hou, show t14.toNat = data'_1.length from by omega, hys, isoL_len]; rfl
    refine x_r [(0, .dec false)] [1, 5, 6, 12, 13, 14, 15] [11, 706, 8621] [I k, .mapr 11, .arr 706, .arr 8621, I (data'_1.length : Int), I t14, Bv false] [some (.set ks), some (tAReading out), some (tAReading data'_1)] [¬ (t14 < (data'_1.length : Int))] ⟨h1, trivial⟩ ?_
    refine xe_then ?_
    refine x_seq ?_
    refine x_false rfl ?_
    refine x_exit ?_
    refine xe_exit_then ?_
    refine xe_loop_exit ?_
    refine xe_exit_same ?_
    refine xe_then ?_
    refine xR [] [4] [706, 8621] [.arr 706] [some (tAReading out), some (tAReading data'_1)] [] trivial ?_
    refine x_ret ?_
    refine xe_weak [(8622, 706)] (T := [(4, .arr 8622)]) (O := [(8621, tAReading data'_1), (8622, tAReading out)]) rfl (⟨.inl rfl, trivial⟩) (⟨.inl rfl, .inl rfl, trivial⟩) ?_
    refine xe_end (data'_1, out) (show (out = frL k.toNat list) ∧ (True) from ⟨(by exact hfin), trivial⟩) (⟨.inl rfl, .inl rfl, trivial⟩) (.arr 8622) (by kernel_rfl) (.inl rfl) (fun h => by cases h) (fun h => by cases h)
  obtain ⟨⟨list', out⟩, ⟨hh0, _⟩, hc⟩ := hh
  exact ⟨list', out, hh0, hc⟩



-- impl.bestReadings
theorem bestR_ok (l : Lattice) (k : Int) (hl : okLat l) (hk : 1 ≤ k ∧ k ≤ 20) : ∃ (v : List Reading), (v = bestL k.toNat l) ∧ Con Try.prog 24 [agLattice l, I k] true (slReading true v) := by
  have hn20 := hl.1
  have hc := hl.2.1
  have hh : ∃ r : (List Reading), ((r = bestL k.toNat l) ∧ (True)) ∧ CallOK Try.prog 24 [agLattice l, I k] (lookO []) true (slReading true r) (lookO []) := by
    refine fn_okX (Φ := fun r : (List Reading) => (r = bestL k.toNat l) ∧ (True)) [] (fun r => []) (fn := Try.f24) (nt := 83) Try.func24 rfl rfl (args := [agLattice l, I k]) rfl (allcons (.inl ⟨rfl, by simp [tagged, taggedL, tagEdge]⟩) (allcons (.inl ⟨rfl, trivial⟩) allnil)) (res := fun r => slReading true r) ?_
    refine xR [(0, .new 2)] [1, 2] [2] [I k, .ref 2 0] [some (bxLattice l)] [] trivial ?_
    refine xR [(2, .new 13)] [1, 2, 5] [2, 13] [I k, .ref 2 0, .arr 13] [some (bxLattice l), some (.arr 1 l.Nodes.toNat (fun _ => [nilA]))] [(0 : Int) ≤ l.Nodes ∧ (l.Nodes : Int) ≤ l.Nodes ∧ (24 : Int) * l.Nodes ≤ 281474976710656 ∧ l.Nodes ≤ 9223372036854775807] ⟨⟨(by first | omega | (simp only [List.length_replicate, List.length_set]; omega)), (by first | omega | (simp only [List.length_replicate, List.length_set]; omega)), (by first | omega | (simp only [List.length_replicate, List.length_set]; omega)), (by first | omega | (simp only [List.length_replicate, List.length_set]; omega))⟩, trivial⟩ ?_
    refine x_seq ?_
    refine x_famN 13 8641 2 rfl (fun q _ => ⟨_, rfl, rfl⟩) (by kernel_rfl) ?_
    refine x_weak [] (T := [(1, I k), (2, .ref 2 0), (5, .arr 13)]) (O := [(2, bxLattice l), (13, tOLReading 8641 (List.replicate l.Nodes.toNat ([] : List Reading))), (8641, tFLReading (List.replicate l.Nodes.toNat ([] : List Reading)))]) rfl (⟨.inl rfl, .inl rfl, .inl rfl, trivial⟩) (⟨.inl rfl, .inr ⟨rfl, rfl, (by simp), fun i hi => .inl rfl⟩, .inr (fnilLReading l.Nodes.toNat), trivial⟩) ?_
    refine x_r [(2, .new 16)] [1, 2, 5] [2, 13, 16, 8641] [I k, .ref 2 0, .arr 13] [some (bxLattice l), some (.oar [8641, 16] 1 ((List.replicate l.Nodes.toNat ([] : List Reading)).length) (fun q => bif Nat.beq q 0 then [.arr 16] else (oLReading 8641 (List.replicate l.Nodes.toNat ([] : List Reading))) q)), some (.arr 2 1 (litF [Sv (⟨#[]⟩ : ByteArray), I 0] 2)), some (tFLReading (List.replicate l.Nodes.toNat ([] : List Reading)))] [(0 : Int) ≤ 0 ∧ 0 < (((List.replicate l.Nodes.toNat ([] : List Reading)).length) : Int), 0 < (List.replicate l.Nodes.toNat ([] : List Reading)).length] ⟨⟨(by first | omega | (simp only [List.length_replicate, List.length_set]; omega)), (by first | omega | (simp only [List.length_replicate, List.length_set]; omega))⟩, (by first | omega | (simp only [List.length_replicate, List.length_set]; omega)), trivial⟩ ?_
    refine xe_then ?_
    refine x_seq ?_
    refine x_seq ?_
    refine x_putrow 13 16 8641 0 rfl rfl rfl ((by first | omega | (simp only [List.length_replicate, List.length_set]; omega))) (by first | exact Nat.le_refl _ | omega) (fun q _ => ⟨fun e => by subst e; simp only [Nat.beq_refl, cond_true], fun e => by simp only [beq_ne e, cond_false]; rfl⟩) (by kernel_rfl) ?_
    refine x_weak [] (T := [(1, I k), (2, .ref 2 0), (5, .arr 13)]) (O := [(2, bxLattice l), (13, tOLReading 8641 ((List.replicate l.Nodes.toNat ([] : List Reading)).set 0 ([(Reading.mk (⟨#[]⟩ : ByteArray) 0)]))), (8641, tFLReading ((List.replicate l.Nodes.toNat ([] : List Reading)).set 0 ([(Reading.mk (⟨#[]⟩ : ByteArray) 0)])))]) rfl (⟨.inl rfl, .inl rfl, .inl rfl, trivial⟩) (⟨.inl rfl, .inr ⟨rfl, rfl, (by simp), fun i hi => .inl rfl⟩, .inr (fputLReading ((by first | omega | (simp only [List.length_replicate, List.length_set]; omega))) (by first | rfl | (simp; done) | (simp; omega)) (fun i_ h_ => (show ∀ i_ : Nat, i_ < ([(Reading.mk (⟨#[]⟩ : ByteArray) 0)] : List Reading).length → (litF [Sv (⟨#[]⟩ : ByteArray), I 0] 2) i_ = (fReading ([(Reading.mk (⟨#[]⟩ : ByteArray) 0)])) i_ from fun i_ hi_ => (match i_, hi_ with | 0, _ => rfl | (i + 1), h => absurd h (by simp))) i_ (by first | exact h_ | (simpa using h_)))), trivial⟩) ?_
    refine x_r [] [1, 2, 5, 6] [2, 13, 8641] [I k, .ref 2 0, .arr 13, I 0] [some (bxLattice l), some (tOLReading 8641 ((List.replicate l.Nodes.toNat ([] : List Reading)).set 0 ([(Reading.mk (⟨#[]⟩ : ByteArray) 0)]))), some (tFLReading ((List.replicate l.Nodes.toNat ([] : List Reading)).set 0 ([(Reading.mk (⟨#[]⟩ : ByteArray) 0)])))] [] trivial ?_
    refine xe_then ?_
    refine x_block ?_
    refine x_loop (X := Int × (List (List Reading))) (fun x => mkS [(1, I k), (2, .ref 2 0), (5, .arr 13), (6, I x.1)] [(2, bxLattice l), (13, tOLReading 8641 x.2), (8641, tFLReading x.2)]) (fun x => (0 ≤ x.1 ∧ x.1 ≤ l.Nodes) ∧ (x.2 = tbN (frL k.toNat) pAny l (tb0 l) x.1.toNat) ∧ (okT l (1 + 4000 * x.1.toNat) x.2) ∧ True) (fun x => (l.Nodes - x.1).toNat) (0, ((List.replicate l.Nodes.toNat ([] : List Reading)).set 0 ([(Reading.mk (⟨#[]⟩ : ByteArray) 0)]))) rfl (show (0 ≤ (0 : Int) ∧ (0 : Int) ≤ l.Nodes) ∧ (((List.replicate l.Nodes.toNat ([] : List Reading)).set 0 ([(Reading.mk (⟨#[]⟩ : ByteArray) 0)])) = tbN (frL k.toNat) pAny l (tb0 l) (0 : Int).toNat) ∧ (okT l (1 + 4000 * (0 : Int).toNat) ((List.replicate l.Nodes.toNat ([] : List Reading)).set 0 ([(Reading.mk (⟨#[]⟩ : ByteArray) 0)]))) ∧ True from ⟨(by omega), (by rfl), (by exact okT_0 hl), trivial⟩) (fun x hI => ?_)
    obtain ⟨node, tb⟩ := x
    obtain ⟨hn0, htb, hok, _⟩ : (0 ≤ node ∧ node ≤ l.Nodes) ∧ (tb = tbN (frL k.toNat) pAny l (tb0 l) node.toNat) ∧ (okT l (1 + 4000 * node.toNat) tb) ∧ True := hI
    show XW _ _ _ _ (mkS [(1, I k), (2, .ref 2 0), (5, .arr 13), (6, I node)] [(2, bxLattice l), (13, tOLReading 8641 tb), (8641, tFLReading tb)]) _ _
    refine x_seq ?_
    refine x_seq ?_
    by_cases h1 : node < l.Nodes
    ·have hn : node.toNat < l.Nodes.toNat := by omega
     have hrw := (hok.2 _ hn).1
     have hT1 := okT_set (k := k.toNat) hok hn
     have hfl := frL_len k.toNat (at_ tb node.toNat)
     have hnn : (node + 1).toNat = node.toNat + 1 := by omega
     have htl := hok.1
     refine x_r [(3, .dec true)] [1, 2, 5, 6, 21] [2, 13, 8641] [I k, .ref 2 0, .arr 13, I node, Bv true] [some (bxLattice l), some (tOLReading 8641 tb), some (tFLReading tb)] [node < l.Nodes] ⟨h1, trivial⟩ ?_
     refine xe_then ?_
     refine x_true rfl ?_
     refine x_skip ?_
     refine xe_then ?_
     refine x_seq ?_
     refine x_block ?_
     refine x_seq ?_
     refine x_takerow 13 8621 8641 node.toNat rfl rfl ((by first | omega | (simp only [List.length_replicate, List.length_set]; omega))) (fun q _ => rfl) (by kernel_rfl) ?_
     refine x_weak [] (T := [(1, I k), (2, .ref 2 0), (5, .arr 13), (6, I node), (21, Bv true)]) (O := [(2, bxLattice l), (13, .oar [8621, 8641] 1 ((tb.set node.toNat ([] : List Reading)).length) (fun q => bif Nat.beq q node.toNat then [.arr 8621] else (oLReading 8641 (tb.set node.toNat ([] : List Reading))) q)), (8621, tAReading (at_ tb node.toNat)), (8641, tFLReading (tb.set node.toNat ([] : List Reading)))]) rfl (⟨.inl rfl, .inl rfl, .inl rfl, .inl rfl, .inl rfl, trivial⟩) (⟨.inl rfl, .inr ⟨rfl, rfl, (by first | rfl | (simp; done)), fun i hi => .inl (by dsimp only; cases Nat.beq i node.toNat <;> rfl)⟩, .inl rfl, .inr (fputLReading ((by first | omega | (simp only [List.length_replicate, List.length_set]; omega))) (by first | rfl | (simp; done) | (simp; omega)) (fun i_ h_ => absurd h_ (Nat.not_lt_zero _))), trivial⟩) ?_
     obtain ⟨list'_1, out_1, hx1_0, hc1⟩ := firstR_ok (at_ tb node.toNat) k (by omega) (by omega)
     have hout := hx1_0
     refine x_r [(5, .as (.arr 8621)), (7, .lend [(8621, tAReading (at_ tb node.toNat), tAReading list'_1)] [(8622, tAReading out_1)] [(true, .any), (true, .any)] false (.arr 8622))] [1, 2, 5, 6] [2, 13, 8621, 8622, 8641] [I k, .ref 2 0, .arr 13, I node] [some (bxLattice l), some (.oar [8621, 8641, 8622] 1 ((tb.set node.toNat ([] : List Reading)).length) (fun q => bif Nat.beq q node.toNat then spl ((fun q => bif Nat.beq q node.toNat then [.arr 8621] else (oLReading 8641 (tb.set node.toNat ([] : List Reading))) q) node.toNat) 0 [.arr 8622] else (fun q => bif Nat.beq q node.toNat then [.arr 8621] else (oLReading 8641 (tb.set node.toNat ([] : List Reading))) q) q)), some (tAReading list'_1), some (tAReading out_1), some (tFLReading (tb.set node.toNat ([] : List Reading)))] [(0 : Int) ≤ node ∧ node < (((tb.set node.toNat ([] : List Reading)).length) : Int), node.toNat < (tb.set node.toNat ([] : List Reading)).length ∧ List.drop 0 ((fun q => bif Nat.beq q node.toNat then [.arr 8621] else (oLReading 8641 (tb.set node.toNat ([] : List Reading))) q) node.toNat) = [.arr 8621], CallOK Try.prog 37 [.arr 8621, I k] (lookO [(8621, tAReading (at_ tb node.toNat))]) false (.arr 8622) (lookO [(8621, tAReading list'_1), (8622, tAReading out_1)]) ∧ (((tAReading (at_ tb node.toNat) : Ob) = tAReading (at_ tb node.toNat) ∨ obLe noOb true (tAReading (at_ tb node.toNat)) (tAReading (at_ tb node.toNat))) ∧ taggedO false (tAReading (at_ tb node.toNat))) ∧ True, (0 : Int) ≤ node ∧ node < (((tb.set node.toNat ([] : List Reading)).length) : Int), node.toNat < (tb.set node.toNat ([] : List Reading)).length] ⟨⟨(by first | first | omega | (simp only [List.length_replicate, List.length_set]; omega) | (simp only [List.length_set]; first | omega | (simp only [List.length_replicate, List.length_set]; omega))), (by first | first | omega | (simp only [List.length_replicate, List.length_set]; omega) | (simp only [List.length_set]; first | omega | (simp only [List.length_replicate, List.length_set]; omega)))⟩, ⟨(by first | first | omega | (simp only [List.length_replicate, List.length_set]; omega) | (simp only [List.length_set]; first | omega | (simp only [List.length_replicate, List.length_set]; omega))), (by simp only [Nat.beq_refl, cond_true]; rfl)⟩, ⟨hc1, ⟨.inl rfl, fun _ _ => tagcReading false _⟩, trivial⟩, ⟨(by first | first | omega | (simp only [List.length_replicate, List.length_set]; omega) | (simp only [List.length_set]; first | omega | (simp only [List.length_replicate, List.length_set]; omega))), (by first | first | omega | (simp only [List.length_replicate, List.length_set]; omega) | (simp only [List.length_set]; first | omega | (simp only [List.length_replicate, List.length_set]; omega)))⟩, (by first | first | omega | (simp only [List.length_replicate, List.length_set]; omega) | (simp only [List.length_set]; first | omega | (simp only [List.length_replicate, List.length_set]; omega))), trivial⟩ ?_
     refine xe_then ?_
     refine x_seq ?_
     refine x_putrow 13 8622 8641 node.toNat rfl rfl rfl ((by first | first | omega | (simp only [List.length_replicate, List.length_set]; omega) | (simp only [List.length_set]; first | omega | (simp only [List.length_replicate, List.length_set]; omega)))) (by first | exact Nat.le_refl _ | omega) (fun q _ => ⟨fun e => by subst e; simp only [Nat.beq_refl, cond_true]; rfl, fun e => by simp only [beq_ne e, cond_false]; rfl⟩) (by kernel_rfl) ?_
     refine x_weak [] (T := [(1, I k), (2, .ref 2 0), (5, .arr 13), (6, I node)]) (O := [(2, bxLattice l), (13, tOLReading 8641 ((tb.set node.toNat ([] : List Reading)).set node.toNat out_1)), (8621, tAReading list'_1), (8641, tFLReading ((tb.set node.toNat ([] : List Reading)).set node.toNat out_1))]) rfl (⟨.inl rfl, .inl rfl, .inl rfl, .inl rfl, trivial⟩) (⟨.inl rfl, .inr ⟨rfl, rfl, (by simp), fun i hi => .inl rfl⟩, .inl rfl, .inr (fputLReading ((by first | first | omega | (simp only [List.length_replicate, List.length_set]; omega) | (simp only [List.length_set]; first | omega | (simp only [List.length_replicate, List.length_set]; omega)))) (by first | rfl | (simp; done) | (simp; omega)) (fun i _ => rfl)), trivial⟩) ?_
     refine x_r [] [1, 2, 5, 6, 34, 35, 36] [2, 13, 8641] [I k, .ref 2 0, .arr 13, I node, slEdge false l.Edges, I (l.Edges.length : Int), I 0] [some (bxLattice l), some (tOLReading 8641 ((tb.set node.toNat ([] : List Reading)).set node.toNat out_1)), some (tFLReading ((tb.set node.toNat ([] : List Reading)).set node.toNat out_1))] [] trivial ?_
     refine xe_then ?_
     refine x_block ?_
     refine x_loop (X := Int × (List (List Reading))) (fun x => mkS [(1, I k), (2, .ref 2 0), (5, .arr 13), (6, I node), (34, slEdge false l.Edges), (35, I (l.Edges.length : Int)), (36, I x.1)] [(2, bxLattice l), (13, tOLReading 8641 x.2), (8641, tFLReading x.2)]) (fun x => (0 ≤ x.1 ∧ x.1 ≤ (l.Edges.length : Int)) ∧ (x.2 = tbE pAny l node.toNat (tb.set node.toNat (frL k.toNat (at_ tb node.toNat))) x.1.toNat) ∧ (okT l (1 + 4000 * node.toNat + 20 * x.1.toNat) x.2) ∧ ((at_ x.2 node.toNat).length ≤ 20) ∧ True) (fun x => ((l.Edges.length : Int) - x.1).toNat) (0, ((tb.set node.toNat ([] : List Reading)).set node.toNat out_1)) rfl (show (0 ≤ (0 : Int) ∧ (0 : Int) ≤ (l.Edges.length : Int)) ∧ (((tb.set node.toNat ([] : List Reading)).set node.toNat out_1) = tbE pAny l node.toNat (tb.set node.toNat (frL k.toNat (at_ tb node.toNat))) (0 : Int).toNat) ∧ (okT l (1 + 4000 * node.toNat + 20 * (0 : Int).toNat) ((tb.set node.toNat ([] : List Reading)).set node.toNat out_1)) ∧ ((at_ ((tb.set node.toNat ([] : List Reading)).set node.toNat out_1) node.toNat).length ≤ 20) ∧ True from ⟨(by omega), (by (rw [List.set_set, hout]; rfl)), (by (rw [List.set_set, hout]; exact okT_mono hT1 (by omega))), (by (rw [List.set_set, at_set_same (by rw [htl]; exact hn), hout]; omega)), trivial⟩) (fun x hI => ?_)
     obtain ⟨t36, tb2⟩ := x
     obtain ⟨hi0, htb2, hok2, hr20, _⟩ : (0 ≤ t36 ∧ t36 ≤ (l.Edges.length : Int)) ∧ (tb2 = tbE pAny l node.toNat (tb.set node.toNat (frL k.toNat (at_ tb node.toNat))) t36.toNat) ∧ (okT l (1 + 4000 * node.toNat + 20 * t36.toNat) tb2) ∧ ((at_ tb2 node.toNat).length ≤ 20) ∧ True := hI
     show XW _ _ _ _ (mkS [(1, I k), (2, .ref 2 0), (5, .arr 13), (6, I node), (34, slEdge false l.Edges), (35, I (l.Edges.length : Int)), (36, I t36)] [(2, bxLattice l), (13, tOLReading 8641 tb2), (8641, tFLReading tb2)]) _ _
     refine x_seq ?_
     by_cases h2 : t36 < (l.Edges.length : Int)
     ·have hi : t36.toNat < l.Edges.length := by omega
      have hed := hl.2.2.1 _ hi
      have he1 := hed.1
      have he2 := hed.2.1
      have he3 := lab_size hed.2.2
      have hii : (t36 + 1).toNat = t36.toNat + 1 := by omega
      have htl2 := hok2.1
      refine x_r [(0, .dec true)] [1, 2, 5, 6, 34, 35, 36, 37] [2, 13, 8641] [I k, .ref 2 0, .arr 13, I node, slEdge false l.Edges, I (l.Edges.length : Int), I t36, Bv true] [some (bxLattice l), some (tOLReading 8641 tb2), some (tFLReading tb2)] [t36 < (l.Edges.length : Int)] ⟨h2, trivial⟩ ?_
      refine xe_then ?_
      refine x_seq ?_
      refine x_true rfl ?_
      refine x_skip ?_
      refine xe_then ?_
      refine x_seq ?_
      refine x_block ?_
      refine xR [(2, .new 8)] [1, 2, 5, 6, 8, 34, 35, 36] [2, 8, 13, 8641] [I k, .ref 2 0, .arr 13, I node, .ref 8 0, slEdge false l.Edges, I (l.Edges.length : Int), I t36] [some (bxLattice l), some (bxEdge (at_ l.Edges t36.toNat)), some (tOLReading 8641 tb2), some (tFLReading tb2)] [(0 : Int) ≤ t36 ∧ t36 < (l.Edges.length : Int)] ⟨⟨(by first | omega | (simp only [List.length_replicate, List.length_set]; omega)), (by first | omega | (simp only [List.length_replicate, List.length_set]; omega))⟩, trivial⟩ ?_
      refine x_seq ?_
      refine x_seq ?_
      by_cases h3 : ((at_ l.Edges t36.toNat).From) = node
      ·have hff : (at_ l.Edges t36.toNat).From = ((node.toNat : Nat) : Int) := by omega
       have hfn : (at_ l.Edges t36.toNat).From.toNat = node.toNat := by omega
       refine x_r [(3, .dec false)] [1, 2, 5, 6, 8, 34, 35, 36, 43] [2, 8, 13, 8641] [I k, .ref 2 0, .arr 13, I node, .ref 8 0, slEdge false l.Edges, I (l.Edges.length : Int), I t36, Bv false] [some (bxLattice l), some (bxEdge (at_ l.Edges t36.toNat)), some (tOLReading 8641 tb2), some (tFLReading tb2)] [¬ (((at_ l.Edges t36.toNat).From) ≠ node)] ⟨(fun hq => hq h3), trivial⟩ ?_
       refine xe_then ?_
       refine x_false rfl ?_
       refine x_skip ?_
       refine xe_then ?_
       refine xR [] [1, 2, 5, 6, 8, 34, 35, 36, 47, 48, 49] [2, 8, 13, 8641] [I k, .ref 2 0, .arr 13, I node, .ref 8 0, slEdge false l.Edges, I (l.Edges.length : Int), I t36, .row 8641 node.toNat, I (((at_ tb2 node.toNat).length) : Int), I 0] [some (bxLattice l), some (bxEdge (at_ l.Edges t36.toNat)), some (tOLReading 8641 tb2), some (tFLReading tb2)] [(0 : Int) ≤ node ∧ node < (tb2.length : Int), node.toNat < tb2.length, node.toNat < tb2.length] ⟨⟨(by first | omega | (simp only [List.length_replicate, List.length_set]; omega)), (by first | omega | (simp only [List.length_replicate, List.length_set]; omega))⟩, (by first | omega | (simp only [List.length_replicate, List.length_set]; omega)), (by first | omega | (simp only [List.length_replicate, List.length_set]; omega)), trivial⟩ ?_
       refine x_block ?_
       refine x_loop (X := Int × (List (List Reading))) (fun x => mkS [(1, I k), (2, .ref 2 0), (5, .arr 13), (6, I node), (8, .ref 8 0), (34, slEdge false l.Edges), (35, I (l.Edges.length : Int)), (36, I t36), (47, .row 8641 node.toNat), (48, I (((at_ tb2 node.toNat).length) : Int)), (49, I x.1)] [(2, bxLattice l), (8, bxEdge (at_ l.Edges t36.toNat)), (13, tOLReading 8641 x.2), (8641, tFLReading x.2)]) (fun x => (0 ≤ x.1 ∧ x.1 ≤ ((at_ tb2 node.toNat).length : Int)) ∧ (x.2 = exT pAny tb2 (at_ l.Edges t36.toNat) node.toNat x.1.toNat) ∧ True) (fun x => (((at_ tb2 node.toNat).length : Int) - x.1).toNat) (0, tb2) rfl (show (0 ≤ (0 : Int) ∧ (0 : Int) ≤ ((at_ tb2 node.toNat).length : Int)) ∧ (tb2 = exT pAny tb2 (at_ l.Edges t36.toNat) node.toNat (0 : Int).toNat) ∧ True from ⟨(by omega), (by exact (exT_0 _ _ _ _).symm), trivial⟩) (fun x hI => ?_)
       obtain ⟨t49, tb3⟩ := x
       obtain ⟨hj0, htb3, _⟩ : (0 ≤ t49 ∧ t49 ≤ ((at_ tb2 node.toNat).length : Int)) ∧ (tb3 = exT pAny tb2 (at_ l.Edges t36.toNat) node.toNat t49.toNat) ∧ True := hI
       show XW _ _ _ _ (mkS [(1, I k), (2, .ref 2 0), (5, .arr 13), (6, I node), (8, .ref 8 0), (34, slEdge false l.Edges), (35, I (l.Edges.length : Int)), (36, I t36), (47, .row 8641 node.toNat), (48, I (((at_ tb2 node.toNat).length) : Int)), (49, I t49)] [(2, bxLattice l), (8, bxEdge (at_ l.Edges t36.toNat)), (13, tOLReading 8641 tb3), (8641, tFLReading tb3)]) _ _
       refine x_seq ?_
       by_cases h4 : t49 < (((at_ tb2 node.toNat).length) : Int)
       ·have hok3 := exT_ok (p := pAny) hok2 hed hff t49.toNat
        rw [← htb3] at hok3
        have htl3 := hok3.1
        have hsr := exT_src (p := pAny) (T := tb2) hff he1.2.1 t49.toNat
        rw [← htb3] at hsr
        have hjl : t49.toNat < (at_ tb2 node.toNat).length := by omega
        have hjl3 : t49.toNat < (at_ tb3 node.toNat).length := by rw [hsr]; exact hjl
        have hrd := (hok3.2 node.toNat hn).2 _ (at_mem hjl3)
        have hrd1 := hrd.1
        have hrd2 := hrd.2
        have hto := (hok3.2 (at_ l.Edges t36.toNat).To.toNat (by omega)).1
        have hjj : (t49 + 1).toNat = t49.toNat + 1 := by omega
        refine x_r [(0, .dec true)] [1, 2, 5, 6, 8, 34, 35, 36, 47, 48, 49, 50] [2, 8, 13, 8641] [I k, .ref 2 0, .arr 13, I node, .ref 8 0, slEdge false l.Edges, I (l.Edges.length : Int), I t36, .row 8641 node.toNat, I (((at_ tb2 node.toNat).length) : Int), I t49, Bv true] [some (bxLattice l), some (bxEdge (at_ l.Edges t36.toNat)), some (tOLReading 8641 tb3), some (tFLReading tb3)] [t49 < (((at_ tb2 node.toNat).length) : Int)] ⟨h4, trivial⟩ ?_
        refine xe_then ?_
        refine x_seq ?_
        refine x_true rfl ?_
        refine x_skip ?_
        refine xe_then ?_
        refine x_seq ?_
        refine x_block ?_
        refine xR [(2, .new 10)] [1, 2, 5, 6, 8, 10, 34, 35, 36, 47, 48, 49] [2, 8, 10, 13, 8641] [I k, .ref 2 0, .arr 13, I node, .ref 8 0, .ref 10 0, slEdge false l.Edges, I (l.Edges.length : Int), I t36, .row 8641 node.toNat, I (((at_ tb2 node.toNat).length) : Int), I t49] [some (bxLattice l), some (bxEdge (at_ l.Edges t36.toNat)), some (bxReading (at_ (at_ tb3 node.toNat) t49.toNat)), some (tOLReading 8641 tb3), some (tFLReading tb3)] [node.toNat < tb3.length ∧ (0 : Int) ≤ t49 ∧ t49 < (((at_ tb3 node.toNat).length) : Int), node.toNat < tb3.length ∧ t49.toNat < (at_ tb3 node.toNat).length] ⟨⟨(by first | omega | (simp only [List.length_replicate, List.length_set]; omega)), (by first | omega | (simp only [List.length_replicate, List.length_set]; omega)), (by first | omega | (simp only [List.length_replicate, List.length_set]; omega))⟩, ⟨(by first | omega | (simp only [List.length_replicate, List.length_set]; omega)), (by first | omega | (simp only [List.length_replicate, List.length_set]; omega))⟩, trivial⟩ ?_
        refine x_takerowR 13 8502 8641 (((at_ l.Edges t36.toNat).To).toNat) rfl rfl ((by first | omega | (simp only [List.length_replicate, List.length_set]; omega))) (fun q _ => rfl) (by kernel_rfl) ⟨trivial, trivial, trivial, trivial, trivial, trivial, trivial, trivial, trivial, (show _ ≠ _ from by omega), trivial, trivial, trivial⟩ ?_
        refine x_weak [] (T := [(1, I k), (2, .ref 2 0), (5, .arr 13), (6, I node), (8, .ref 8 0), (10, .ref 10 0), (34, slEdge false l.Edges), (35, I (l.Edges.length : Int)), (36, I t36), (47, .row 8641 node.toNat), (48, I (((at_ tb2 node.toNat).length) : Int)), (49, I t49)]) (O := [(2, bxLattice l), (8, bxEdge (at_ l.Edges t36.toNat)), (10, bxReading (at_ (at_ tb3 node.toNat) t49.toNat)), (13, .oar [8502, 8641] 1 ((tb3.set (((at_ l.Edges t36.toNat).To).toNat) ([] : List Reading)).length) (fun q => bif Nat.beq q (((at_ l.Edges t36.toNat).To).toNat) then [.arr 8502] else (oLReading 8641 (tb3.set (((at_ l.Edges t36.toNat).To).toNat) ([] : List Reading))) q)), (8502, tAReading (at_ tb3 (((at_ l.Edges t36.toNat).To).toNat))), (8641, tFLReading (tb3.set (((at_ l.Edges t36.toNat).To).toNat) ([] : List Reading)))]) rfl (⟨.inl rfl, .inl rfl, .inl rfl, .inl rfl, .inl rfl, .inl rfl, .inl rfl, .inl rfl, .inl rfl, .inl rfl, .inl rfl, .inl rfl, trivial⟩) (⟨.inl rfl, .inl rfl, .inl rfl, .inr ⟨rfl, rfl, (by first | rfl | (simp; done)), fun i hi => .inl (by dsimp only; cases Nat.beq i (((at_ l.Edges t36.toNat).To).toNat) <;> rfl)⟩, .inl rfl, .inr (fputLReading ((by first | omega | (simp only [List.length_replicate, List.length_set]; omega))) (by first | rfl | (simp; done) | (simp; omega)) (fun i_ h_ => absurd h_ (Nat.not_lt_zero _))), trivial⟩) ?_
        refine x_r [(7, .as (.arr 8502)), (19, .new 72), (20, .new 73)] [1, 2, 5, 6, 8, 34, 35, 36, 47, 48, 49] [2, 8, 13, 73, 8641] [I k, .ref 2 0, .arr 13, I node, .ref 8 0, slEdge false l.Edges, I (l.Edges.length : Int), I t36, .row 8641 node.toNat, I (((at_ tb2 node.toNat).length) : Int), I t49] [some (bxLattice l), some (bxEdge (at_ l.Edges t36.toNat)), some (.oar [8502, 8641, 73] 1 ((tb3.set (((at_ l.Edges t36.toNat).To).toNat) ([] : List Reading)).length) (fun q => bif Nat.beq q (((at_ l.Edges t36.toNat).To).toNat) then spl ((fun q => bif Nat.beq q (((at_ l.Edges t36.toNat).To).toNat) then [.arr 8502] else (oLReading 8641 (tb3.set (((at_ l.Edges t36.toNat).To).toNat) ([] : List Reading))) q) (((at_ l.Edges t36.toNat).To).toNat)) 0 [.arr 73] else (fun q => bif Nat.beq q (((at_ l.Edges t36.toNat).To).toNat) then [.arr 8502] else (oLReading 8641 (tb3.set (((at_ l.Edges t36.toNat).To).toNat) ([] : List Reading))) q) q)), some (.arr 2 (((at_ tb3 (((at_ l.Edges t36.toNat).To).toNat)).length) + 1) (catF ((at_ tb3 (((at_ l.Edges t36.toNat).To).toNat)).length) (fReading (at_ tb3 (((at_ l.Edges t36.toNat).To).toNat))) (litF [Sv (((at_ (at_ tb3 node.toNat) t49.toNat).Text) ++ ((at_ l.Edges t36.toNat).Label)), I (((at_ (at_ tb3 node.toNat) t49.toNat).Cost) + ((at_ l.Edges t36.toNat).Cost))] 2))), some (tFLReading (tb3.set (((at_ l.Edges t36.toNat).To).toNat) ([] : List Reading)))] [(0 : Int) ≤ ((at_ l.Edges t36.toNat).To) ∧ ((at_ l.Edges t36.toNat).To) < (((tb3.set (((at_ l.Edges t36.toNat).To).toNat) ([] : List Reading)).length) : Int), ((at_ l.Edges t36.toNat).To).toNat < (tb3.set (((at_ l.Edges t36.toNat).To).toNat) ([] : List Reading)).length ∧ List.drop 0 ((fun q => bif Nat.beq q (((at_ l.Edges t36.toNat).To).toNat) then [.arr 8502] else (oLReading 8641 (tb3.set (((at_ l.Edges t36.toNat).To).toNat) ([] : List Reading))) q) (((at_ l.Edges t36.toNat).To).toNat)) = [.arr 8502], ((at_ (at_ tb3 node.toNat) t49.toNat).Text).size + ((at_ l.Edges t36.toNat).Label).size ≤ 9223372036854775807, inR .i64 (((at_ (at_ tb3 node.toNat) t49.toNat).Cost) + ((at_ l.Edges t36.toNat).Cost)), (((at_ tb3 (((at_ l.Edges t36.toNat).To).toNat)).length) + 1) * 24 ≤ 140737488355328, (0 : Int) ≤ ((at_ l.Edges t36.toNat).To) ∧ ((at_ l.Edges t36.toNat).To) < (((tb3.set (((at_ l.Edges t36.toNat).To).toNat) ([] : List Reading)).length) : Int), ((at_ l.Edges t36.toNat).To).toNat < (tb3.set (((at_ l.Edges t36.toNat).To).toNat) ([] : List Reading)).length] ⟨⟨(by first | first | omega | (simp only [List.length_replicate, List.length_set]; omega) | (simp only [List.length_set]; first | omega | (simp only [List.length_replicate, List.length_set]; omega))), (by first | first | omega | (simp only [List.length_replicate, List.length_set]; omega) | (simp only [List.length_set]; first | omega | (simp only [List.length_replicate, List.length_set]; omega)))⟩, ⟨(by first | first | omega | (simp only [List.length_replicate, List.length_set]; omega) | (simp only [List.length_set]; first | omega | (simp only [List.length_replicate, List.length_set]; omega))), (by simp only [Nat.beq_refl, cond_true]; rfl)⟩, (by first | omega | (simp only [List.length_replicate, List.length_set]; omega)), (inR_i64 (by first | omega | (simp only [List.length_replicate, List.length_set]; omega)) (by first | omega | (simp only [List.length_replicate, List.length_set]; omega))), (by first | omega | (simp only [List.length_replicate, List.length_set]; omega)), ⟨(by first | first | omega | (simp only [List.length_replicate, List.length_set]; omega) | (simp only [List.length_set]; first | omega | (simp only [List.length_replicate, List.length_set]; omega))), (by first | first | omega | (simp only [List.length_replicate, List.length_set]; omega) | (simp only [List.length_set]; first | omega | (simp only [List.length_replicate, List.length_set]; omega)))⟩, (by first | first | omega | (simp only [List.length_replicate, List.length_set]; omega) | (simp only [List.length_set]; first | omega | (simp only [List.length_replicate, List.length_set]; omega))), trivial⟩ ?_
        refine xe_block 5 ?_
        refine xe_then ?_
        refine x_putrowR 13 73 8641 (((at_ l.Edges t36.toNat).To).toNat) rfl rfl rfl ((by first | first | omega | (simp only [List.length_replicate, List.length_set]; omega) | (simp only [List.length_set]; first | omega | (simp only [List.length_replicate, List.length_set]; omega)))) (by first | exact Nat.le_refl _ | omega) (fun q _ => ⟨fun e => by subst e; simp only [Nat.beq_refl, cond_true]; rfl, fun e => by simp only [beq_ne e, cond_false]; rfl⟩) (by kernel_rfl) ⟨trivial, trivial, trivial, trivial, trivial, trivial, trivial, trivial, (show _ ≠ _ from by omega), trivial, trivial, trivial⟩ ?_
        refine x_weak [] (T := [(1, I k), (2, .ref 2 0), (5, .arr 13), (6, I node), (8, .ref 8 0), (34, slEdge false l.Edges), (35, I (l.Edges.length : Int)), (36, I t36), (47, .row 8641 node.toNat), (48, I (((at_ tb2 node.toNat).length) : Int)), (49, I t49)]) (O := [(2, bxLattice l), (8, bxEdge (at_ l.Edges t36.toNat)), (13, tOLReading 8641 ((tb3.set (((at_ l.Edges t36.toNat).To).toNat) ([] : List Reading)).set (((at_ l.Edges t36.toNat).To).toNat) ((at_ tb3 (((at_ l.Edges t36.toNat).To).toNat)) ++ [(Reading.mk (((at_ (at_ tb3 node.toNat) t49.toNat).Text) ++ ((at_ l.Edges t36.toNat).Label)) (((at_ (at_ tb3 node.toNat) t49.toNat).Cost) + ((at_ l.Edges t36.toNat).Cost)))]))), (8641, tFLReading ((tb3.set (((at_ l.Edges t36.toNat).To).toNat) ([] : List Reading)).set (((at_ l.Edges t36.toNat).To).toNat) ((at_ tb3 (((at_ l.Edges t36.toNat).To).toNat)) ++ [(Reading.mk (((at_ (at_ tb3 node.toNat) t49.toNat).Text) ++ ((at_ l.Edges t36.toNat).Label)) (((at_ (at_ tb3 node.toNat) t49.toNat).Cost) + ((at_ l.Edges t36.toNat).Cost)))])))]) rfl (⟨.inl rfl, .inl rfl, .inl rfl, .inl rfl, .inl rfl, .inl rfl, .inl rfl, .inl rfl, .inl rfl, .inl rfl, .inl rfl, trivial⟩) (⟨.inl rfl, .inl rfl, .inr ⟨rfl, rfl, (by simp), fun i hi => .inl rfl⟩, .inr (fputLReading ((by first | first | omega | (simp only [List.length_replicate, List.length_set]; omega) | (simp only [List.length_set]; first | omega | (simp only [List.length_replicate, List.length_set]; omega)))) (by first | rfl | (simp; done) | (simp; omega)) (fun i_ h_ => (show ∀ i_ : Nat, i_ < (((at_ tb3 (((at_ l.Edges t36.toNat).To).toNat)) ++ [(Reading.mk (((at_ (at_ tb3 node.toNat) t49.toNat).Text) ++ ((at_ l.Edges t36.toNat).Label)) (((at_ (at_ tb3 node.toNat) t49.toNat).Cost) + ((at_ l.Edges t36.toNat).Cost)))]) : List Reading).length → (catF ((at_ tb3 (((at_ l.Edges t36.toNat).To).toNat)).length) (fReading (at_ tb3 (((at_ l.Edges t36.toNat).To).toNat))) (litF [Sv (((at_ (at_ tb3 node.toNat) t49.toNat).Text) ++ ((at_ l.Edges t36.toNat).Label)), I (((at_ (at_ tb3 node.toNat) t49.toNat).Cost) + ((at_ l.Edges t36.toNat).Cost))] 2)) i_ = (fReading ((at_ tb3 (((at_ l.Edges t36.toNat).To).toNat)) ++ [(Reading.mk (((at_ (at_ tb3 node.toNat) t49.toNat).Text) ++ ((at_ l.Edges t36.toNat).Label)) (((at_ (at_ tb3 node.toNat) t49.toNat).Cost) + ((at_ l.Edges t36.toNat).Cost)))])) i_ from fun i_ hi_ => (cat_snoc (enc := cReading) (xs := (at_ tb3 (((at_ l.Edges t36.toNat).To).toNat))) rfl i_ hi_)) i_ (by first | exact h_ | (simpa using h_)))), trivial⟩) ?_
        refine x_r [] [1, 2, 5, 6, 8, 34, 35, 36, 47, 48, 49] [2, 8, 13, 8641] [I k, .ref 2 0, .arr 13, I node, .ref 8 0, slEdge false l.Edges, I (l.Edges.length : Int), I t36, .row 8641 node.toNat, I (((at_ tb2 node.toNat).length) : Int), I (t49 + 1)] [some (bxLattice l), some (bxEdge (at_ l.Edges t36.toNat)), some (tOLReading 8641 ((tb3.set (((at_ l.Edges t36.toNat).To).toNat) ([] : List Reading)).set (((at_ l.Edges t36.toNat).To).toNat) ((at_ tb3 (((at_ l.Edges t36.toNat).To).toNat)) ++ [(Reading.mk (((at_ (at_ tb3 node.toNat) t49.toNat).Text) ++ ((at_ l.Edges t36.toNat).Label)) (((at_ (at_ tb3 node.toNat) t49.toNat).Cost) + ((at_ l.Edges t36.toNat).Cost)))]))), some (tFLReading ((tb3.set (((at_ l.Edges t36.toNat).To).toNat) ([] : List Reading)).set (((at_ l.Edges t36.toNat).To).toNat) ((at_ tb3 (((at_ l.Edges t36.toNat).To).toNat)) ++ [(Reading.mk (((at_ (at_ tb3 node.toNat) t49.toNat).Text) ++ ((at_ l.Edges t36.toNat).Label)) (((at_ (at_ tb3 node.toNat) t49.toNat).Cost) + ((at_ l.Edges t36.toNat).Cost)))])))] [inR .i64 (t49 + 1)] ⟨(inR_i64 (by first | omega | (simp only [List.length_replicate, List.length_set]; omega)) (by first | omega | (simp only [List.length_replicate, List.length_set]; omega))), trivial⟩ ?_
        exact xe_again ((t49 + 1), ((tb3.set (((at_ l.Edges t36.toNat).To).toNat) ([] : List Reading)).set (((at_ l.Edges t36.toNat).To).toNat) ((at_ tb3 (((at_ l.Edges t36.toNat).To).toNat)) ++ [(Reading.mk (((at_ (at_ tb3 node.toNat) t49.toNat).Text) ++ ((at_ l.Edges t36.toNat).Label)) (((at_ (at_ tb3 node.toNat) t49.toNat).Cost) + ((at_ l.Edges t36.toNat).Cost)))]))) rfl (show (0 ≤ (t49 + 1) ∧ (t49 + 1) ≤ ((at_ tb2 node.toNat).length : Int)) ∧ (((tb3.set (((at_ l.Edges t36.toNat).To).toNat) ([] : List Reading)).set (((at_ l.Edges t36.toNat).To).toNat) ((at_ tb3 (((at_ l.Edges t36.toNat).To).toNat)) ++ [(Reading.mk (((at_ (at_ tb3 node.toNat) t49.toNat).Text) ++ ((at_ l.Edges t36.toNat).Label)) (((at_ (at_ tb3 node.toNat) t49.toNat).Cost) + ((at_ l.Edges t36.toNat).Cost)))])) = exT pAny tb2 (at_ l.Edges t36.toNat) node.toNat (t49 + 1).toNat) ∧ True from ⟨(by omega), (by (rw [hjj, ← exT_y (p := pAny) (by rw [htl2]; omega) hjl rfl, ← htb3, ← hsr]; (try rw [List.set_set]); rfl)), trivial⟩) (by first | (show ((((at_ tb2 node.toNat).length : Int) - (t49 + 1)).toNat : Nat) < (((at_ tb2 node.toNat).length : Int) - t49).toNat; omega) | (dsimp only; omega))
       have hje : t49.toNat = (at_ tb2 node.toNat).length := by omega
       rw [hje] at htb3
       have hok3 := exT_ok (p := pAny) hok2 hed hff (at_ tb2 node.toNat).length
       rw [← htb3] at hok3
       refine x_r [(0, .dec false)] [1, 2, 5, 6, 8, 34, 35, 36, 47, 48, 49, 50] [2, 8, 13, 8641] [I k, .ref 2 0, .arr 13, I node, .ref 8 0, slEdge false l.Edges, I (l.Edges.length : Int), I t36, .row 8641 node.toNat, I (((at_ tb2 node.toNat).length) : Int), I t49, Bv false] [some (bxLattice l), some (bxEdge (at_ l.Edges t36.toNat)), some (tOLReading 8641 tb3), some (tFLReading tb3)] [¬ (t49 < (((at_ tb2 node.toNat).length) : Int))] ⟨h4, trivial⟩ ?_
       refine xe_then ?_
       refine x_seq ?_
       refine x_false rfl ?_
       refine x_exit ?_
       refine xe_exit_then ?_
       refine xe_loop_exit ?_
       refine xe_exit_same ?_
       refine xe_block 3 ?_
       refine xe_then ?_
       refine x_r [] [1, 2, 5, 6, 34, 35, 36] [2, 13, 8641] [I k, .ref 2 0, .arr 13, I node, slEdge false l.Edges, I (l.Edges.length : Int), I (t36 + 1)] [some (bxLattice l), some (tOLReading 8641 tb3), some (tFLReading tb3)] [inR .i64 (t36 + 1)] ⟨(inR_i64 (by first | omega | (simp only [List.length_replicate, List.length_set]; omega)) (by first | omega | (simp only [List.length_replicate, List.length_set]; omega))), trivial⟩ ?_
       exact xe_again ((t36 + 1), tb3) rfl (show (0 ≤ (t36 + 1) ∧ (t36 + 1) ≤ (l.Edges.length : Int)) ∧ (tb3 = tbE pAny l node.toNat (tb.set node.toNat (frL k.toNat (at_ tb node.toNat))) (t36 + 1).toNat) ∧ (okT l (1 + 4000 * node.toNat + 20 * (t36 + 1).toNat) tb3) ∧ ((at_ tb3 node.toNat).length ≤ 20) ∧ True from ⟨(by omega), (by first | (rw [hii, ← tbE_y hff, ← htb2]; exact htb3) | (rw [hii, ← tbE_n hff]; exact htb2)), (by first | exact okT_mono hok3 (by omega) | exact okT_mono hok2 (by omega)), (by first | (rw [htb3, exT_src hff he1.2.1]; exact hr20) | exact hr20), trivial⟩) (by first | (show (((l.Edges.length : Int) - (t36 + 1)).toNat : Nat) < ((l.Edges.length : Int) - t36).toNat; omega) | (dsimp only; omega))
      have hff : ¬ (at_ l.Edges t36.toNat).From = ((node.toNat : Nat) : Int) := by omega
      refine x_r [(3, .dec true)] [1, 2, 5, 6, 8, 34, 35, 36, 43] [2, 8, 13, 8641] [I k, .ref 2 0, .arr 13, I node, .ref 8 0, slEdge false l.Edges, I (l.Edges.length : Int), I t36, Bv true] [some (bxLattice l), some (bxEdge (at_ l.Edges t36.toNat)), some (tOLReading 8641 tb2), some (tFLReading tb2)] [((at_ l.Edges t36.toNat).From) ≠ node] ⟨h3, trivial⟩ ?_
      refine xe_then ?_
      refine x_true rfl ?_
      refine x_exit ?_
      refine xe_exit_then ?_
      refine xe_exit_same ?_
      refine xe_then ?_
      refine x_r [] [1, 2, 5, 6, 34, 35, 36] [2, 13, 8641] [I k, .ref 2 0, .arr 13, I node, slEdge false l.Edges, I (l.Edges.length : Int), I (t36 + 1)] [some (bxLattice l), some (tOLReading 8641 tb2), some (tFLReading tb2)] [inR .i64 (t36 + 1)] ⟨(inR_i64 (by first | omega | (simp only [List.length_replicate, List.length_set]; omega)) (by first | omega | (simp only [List.length_replicate, List.length_set]; omega))), trivial⟩ ?_
      exact xe_again ((t36 + 1), tb2) rfl (show (0 ≤ (t36 + 1) ∧ (t36 + 1) ≤ (l.Edges.length : Int)) ∧ (tb2 = tbE pAny l node.toNat (tb.set node.toNat (frL k.toNat (at_ tb node.toNat))) (t36 + 1).toNat) ∧ (okT l (1 + 4000 * node.toNat + 20 * (t36 + 1).toNat) tb2) ∧ ((at_ tb2 node.toNat).length ≤ 20) ∧ True from ⟨(by omega), (by first | (rw [hii, ← tbE_y hff, ← htb2]; exact htb3) | (rw [hii, ← tbE_n hff]; exact htb2)), (by first | exact okT_mono hok3 (by omega) | exact okT_mono hok2 (by omega)), (by first | (rw [htb3, exT_src hff he1.2.1]; exact hr20) | exact hr20), trivial⟩) (by first | (show (((l.Edges.length : Int) - (t36 + 1)).toNat : Nat) < ((l.Edges.length : Int) - t36).toNat; omega) | (dsimp only; omega))
     have hie : t36.toNat = l.Edges.length := by omega
     refine x_r [(0, .dec false)] [1, 2, 5, 6, 34, 35, 36, 37] [2, 13, 8641] [I k, .ref 2 0, .arr 13, I node, slEdge false l.Edges, I (l.Edges.length : Int), I t36, Bv false] [some (bxLattice l), some (tOLReading 8641 tb2), some (tFLReading tb2)] [¬ (t36 < (l.Edges.length : Int))] ⟨h2, trivial⟩ ?_
     refine xe_then ?_
     refine x_seq ?_
     refine x_false rfl ?_
     refine x_exit ?_
     refine xe_exit_then ?_
     refine xe_loop_exit ?_
     refine xe_exit_same ?_
     refine xe_block 1 ?_
     refine xe_then ?_
     refine x_r [] [1, 2, 5, 6] [2, 13, 8641] [I k, .ref 2 0, .arr 13, I (node + 1)] [some (bxLattice l), some (tOLReading 8641 tb2), some (tFLReading tb2)] [inR .i64 (node + 1)] ⟨(inR_i64 (by first | omega | (simp only [List.length_replicate, List.length_set]; omega)) (by first | omega | (simp only [List.length_replicate, List.length_set]; omega))), trivial⟩ ?_
     exact xe_again ((node + 1), tb2) rfl (show (0 ≤ (node + 1) ∧ (node + 1) ≤ l.Nodes) ∧ (tb2 = tbN (frL k.toNat) pAny l (tb0 l) (node + 1).toNat) ∧ (okT l (1 + 4000 * (node + 1).toNat) tb2) ∧ True from ⟨(by omega), (by (rw [hnn, htb2, hie, htb]; rfl)), (by exact okT_mono hok2 (by omega)), trivial⟩) (by first | (show ((l.Nodes - (node + 1)).toNat : Nat) < (l.Nodes - node).toNat; omega) | (dsimp only; omega))
    have hne : node.toNat = l.Nodes.toNat := by omega
    have hlast : (l.Nodes - 1).toNat < l.Nodes.toNat := by omega
    have htl := hok.1
    have hrl := (hok.2 _ hlast).1
    refine x_r [(3, .dec false)] [1, 2, 5, 6, 21] [2, 13, 8641] [I k, .ref 2 0, .arr 13, I node, Bv false] [some (bxLattice l), some (tOLReading 8641 tb), some (tFLReading tb)] [¬ (node < l.Nodes)] ⟨h1, trivial⟩ ?_
    refine xe_then ?_
    refine x_false rfl ?_
    refine x_exit ?_
    refine xe_exit_then ?_
    refine xe_loop_exit ?_
    refine xe_exit_same ?_
    refine xe_then ?_
    refine x_seq ?_
    refine x_weak [] (T := [(1, I k), (2, .ref 2 0), (5, .arr 13), (6, I node), (21, Bv false)]) (O := [(2, bxLattice l), (13, .oar [8641] 1 tb.length (fLReading true tb))]) rfl (⟨.inl rfl, .inl rfl, .inl rfl, .inl rfl, .inl rfl, trivial⟩) (⟨.inl rfl, .inr ⟨rfl, rfl, rfl, fun i hi => .inr (oleLReading true _ rfl i hi)⟩, trivial⟩) ?_
    refine x_r [] [4] [] [slReading true (at_ tb ((l.Nodes - 1).toNat))] [] [inR .i64 (l.Nodes - 1), (0 : Int) ≤ (l.Nodes - 1) ∧ (l.Nodes - 1) < (tb.length : Int), (l.Nodes - 1).toNat < tb.length] ⟨(inR_i64 (by first | omega | (simp only [List.length_replicate, List.length_set]; omega)) (by first | omega | (simp only [List.length_replicate, List.length_set]; omega))), ⟨(by first | omega | (simp only [List.length_replicate, List.length_set]; omega)), (by first | omega | (simp only [List.length_replicate, List.length_set]; omega))⟩, (by first | omega | (simp only [List.length_replicate, List.length_set]; omega)), trivial⟩ ?_
    refine xe_then ?_
    refine x_ret ?_
    refine xe_end (at_ tb ((l.Nodes - 1).toNat)) (show ((at_ tb ((l.Nodes - 1).toNat)) = bestL k.toNat l) ∧ (True) from ⟨(by (rw [htb, hne]; rfl)), trivial⟩) (trivial) (slReading true (at_ tb ((l.Nodes - 1).toNat))) (by kernel_rfl) (.inl rfl) (fun _ => rfl) (fun _ => (tagReading true _))
  obtain ⟨v, ⟨hh0, _⟩, hc⟩ := hh
  exact ⟨v, hh0, hc⟩



-- impl.BestReading
theorem BestReading_ok (l : Lattice) (hl : okLat l) : ∃ (v : Reading) (c : Int), ((c = 0 ∧ 0 < (bestL 1 l).length ∧ v = at_ (bestL 1 l) 0) ∨ (c = 3 ∧ (bestL 1 l).length = 0)) ∧ Con Try.prog 13 [agLattice l] true (.tup [agReading v, I c]) := by
  have hh : ∃ r : Reading × Int, (((r.2 = 0 ∧ 0 < (bestL 1 l).length ∧ r.1 = at_ (bestL 1 l) 0) ∨ (r.2 = 3 ∧ (bestL 1 l).length = 0)) ∧ (True)) ∧ CallOK Try.prog 13 [agLattice l] (lookO []) true (.tup [agReading r.1, I r.2]) (lookO []) := by
    refine fn_okX (Φ := fun r : Reading × Int => ((r.2 = 0 ∧ 0 < (bestL 1 l).length ∧ r.1 = at_ (bestL 1 l) 0) ∨ (r.2 = 3 ∧ (bestL 1 l).length = 0)) ∧ (True)) [] (fun r => []) (fn := Try.f13) (nt := 18) Try.func13 rfl rfl (args := [agLattice l]) rfl (allcons (.inl ⟨rfl, by simp [tagged, taggedL, tagEdge]⟩) allnil) (res := fun r => .tup [agReading r.1, I r.2]) ?_
    refine xR [(0, .new 1), (1, .new 2)] [1, 2] [1, 2] [.ref 1 0, .ref 2 0] [some (bxLattice l), some (.box [Sv (⟨#[]⟩ : ByteArray), I 0])] [] trivial ?_
    refine x_seq ?_
    refine xR [(1, .call [(true, .any)] true (Bv true))] [1, 2, 7] [1, 2] [.ref 1 0, .ref 2 0, Bv false] [some (bxLattice l), some (.box [Sv (⟨#[]⟩ : ByteArray), I 0])] [Con Try.prog 16 [agLattice l] true (Bv true) ∧ True] ⟨⟨(ValidLattice_ok l hl), trivial⟩, trivial⟩ ?_
    refine x_false rfl ?_
    refine x_skip ?_
    refine xe_then ?_
    refine x_seq ?_
    obtain ⟨v_1, hx1_0, hc1⟩ := bestR_ok l 1 hl (by omega)
    have hbl : v_1 = bestL 1 l := hx1_0
    refine x_r [(1, .call [(true, .any), (true, .any)] true (slReading true v_1))] [2, 4] [2] [.ref 2 0, slReading true v_1] [some (.box [Sv (⟨#[]⟩ : ByteArray), I 0])] [Con Try.prog 24 [agLattice l, I 1] true (slReading true v_1) ∧ True] ⟨⟨hc1, trivial⟩, trivial⟩ ?_
    refine xe_then ?_
    refine x_seq ?_
    refine x_seq ?_
    by_cases h1 : (v_1.length : Int) = 0
    ·refine x_r [(2, .dec true)] [2, 4, 13] [2] [.ref 2 0, slReading true v_1, Bv true] [some (.box [Sv (⟨#[]⟩ : ByteArray), I 0])] [(v_1.length : Int) = 0] ⟨h1, trivial⟩ ?_
     refine xe_then ?_
     refine x_true rfl ?_
     refine xR [] [2, 3] [2] [.ref 2 0, I 3] [some (.box [Sv (⟨#[]⟩ : ByteArray), I 0])] [] trivial ?_
     refine x_ret ?_
     refine xe_ret_then ?_
     refine xe_end ((Reading.mk (⟨#[]⟩ : ByteArray) 0), 3) (show ((3 = 0 ∧ 0 < (bestL 1 l).length ∧ (Reading.mk (⟨#[]⟩ : ByteArray) 0) = at_ (bestL 1 l) 0) ∨ (3 = 3 ∧ (bestL 1 l).length = 0)) ∧ (True) from ⟨(by first | exact .inr ⟨rfl, by rw [← hbl]; omega⟩ | exact .inl ⟨rfl, by rw [← hbl]; omega, by rw [← hbl]⟩), trivial⟩) (trivial) (.tup [.agg [Sv (⟨#[]⟩ : ByteArray), I 0], I 3]) (by kernel_rfl) (.inl rfl) (fun _ => rfl) (fun _ => (by simp [tagged, taggedL]))
    refine x_r [(2, .dec false)] [2, 4, 13] [2] [.ref 2 0, slReading true v_1, Bv false] [some (.box [Sv (⟨#[]⟩ : ByteArray), I 0])] [¬ ((v_1.length : Int) = 0)] ⟨h1, trivial⟩ ?_
    refine xe_then ?_
    refine x_false rfl ?_
    refine x_skip ?_
    refine xe_then ?_
    refine xR [] [2, 3] [2] [.ref 2 0, I 0] [some (bxReading (at_ v_1 0))] [(0 : Int) ≤ 0 ∧ 0 < (v_1.length : Int)] ⟨⟨(by omega), (by omega)⟩, trivial⟩ ?_
    refine x_ret ?_
    refine xe_end ((at_ v_1 0), 0) (show ((0 = 0 ∧ 0 < (bestL 1 l).length ∧ (at_ v_1 0) = at_ (bestL 1 l) 0) ∨ (0 = 3 ∧ (bestL 1 l).length = 0)) ∧ (True) from ⟨(by first | exact .inr ⟨rfl, by rw [← hbl]; omega⟩ | exact .inl ⟨rfl, by rw [← hbl]; omega, by rw [← hbl]⟩), trivial⟩) (trivial) (.tup [agReading (at_ v_1 0), I 0]) (by kernel_rfl) (.inl rfl) (fun _ => rfl) (fun _ => (by simp [tagged, taggedL]))
  obtain ⟨⟨v, c⟩, ⟨hh0, _⟩, hc⟩ := hh
  exact ⟨v, c, hh0, hc⟩



theorem tv_best {l : Lattice} (hl : okLat l) {k : Nat} (h : 0 < (bestL k l).length) : at_ (tvL l) 0 = (at_ (bestL k l) 0).Cost := by
  have a := best_min hl h
  have b := (tv_0 hl).1 _ a.1
  have hN := hl.1
  have bd := pth_bd hl _ _ (Nat.le_refl _) (by omega) _ a.1
  obtain ⟨x, h1, h2⟩ := (tv_0 hl).2 (by omega)
  have := a.2 x h1
  omega
theorem tv_none {l : Lattice} (hl : okLat l) {k : Nat} (hk : 0 < k) (h : (bestL k l).length = 0) : ¬ at_ (tvL l) 0 < 1099511627776 := fun q => by
  obtain ⟨x, h1, _⟩ := (tv_0 hl).2 q
  have := (fst_some (best_fst hl k) hk).2 ⟨x, h1⟩
  omega
theorem pr_law {l : Lattice} (hl : okLat l) {k : Nat} {slack : Int} {i : Nat} (hi : i < (bestL k l).length) : ((at_ (bestL k l) i).Cost ≤ (at_ (bestL k l) 0).Cost + slack → tcF (prT l (at_ (tvL l) 0 + slack)) (at_ (bestL k l) i).Text = (at_ (bestL k l) i).Cost) ∧ (tcF (prT l (at_ (tvL l) 0 + slack)) (at_ (bestL k l) i).Text < 1099511627776 → (at_ (bestL k l) i).Cost ≤ tcF (prT l (at_ (tvL l) 0 + slack)) (at_ (bestL k l) i).Text) := by
  have hp := prT_ok hl (at_ (tvL l) 0 + slack)
  have hr := (best_fst hl k).2.2.1 _ (at_mem hi)
  have hb := best_bd hl hi
  have htv := tv_best hl (k := k) (by omega)
  have low : tcF (prT l (at_ (tvL l) 0 + slack)) (at_ (bestL k l) i).Text < 1099511627776 → (at_ (bestL k l) i).Cost ≤ tcF (prT l (at_ (tvL l) 0 + slack)) (at_ (bestL k l) i).Text := fun q => by
    have a := (pr_end hl).1 (tcF_has hp q)
    exact hr.2 _ a rfl
  refine ⟨fun h => ?_, low⟩
  have a := (pr_end hl (b := at_ (tvL l) 0 + slack)).2 hr.1 (by rw [htv]; exact h)
  have b := tcF_min hp (w := (at_ (bestL k l) i).Text) (c := (at_ (bestL k l) i).Cost) a
  have c := low (by omega)
  omega


-- laws.FnPruned
theorem fnPruned_con (code : List Int) (more : List Int) (ok_code : ∀ y ∈ code, inR .u8 y) (ok_more : ∀ y ∈ more, inR .u8 y) : Con Try.prog 3 [slU8 false code, slU8 false more] true (Bv true) := by
  refine fn_ok (fn := Try.f3) (nt := 155) Try.func3 rfl rfl rfl rfl (by simp [taggedL, tagged, tagU8]) fun B hB => ?_
  refine aw_lens (x := slU8 false code) 0 rfl (fun len_code => ?_)
  simp [LenOK, LenL, cU8, fU8, slU8] at len_code
  refine aw_lens (x := slU8 false more) 1 rfl (fun len_more => ?_)
  simp [LenOK, LenL, cU8, fU8, slU8] at len_more
  refine aR [] [0, 1] [] [slU8 false code, slU8 false more] [] [] hB trivial ?_
  refine aw_seq ?_
  refine aw_seq ?_
  rcases Bool.eq_false_or_eq_true (decide (3000 < (code.length : Int) ∨ 3000 < (more.length : Int))) with h1 | h1
  ·refine aw_r [(2, .call [(true, .any), (true, .any)] true (Bv true))] [0, 1, 23] [] [slU8 false code, slU8 false more, Bv true] [] [Con Try.prog 4 [slU8 false code, slU8 false more] true (Bv true) ∧ True] hB ⟨⟨(con_bool h1 (a2Long_ok code more)), trivial⟩, trivial⟩ ?_
   refine ae_then ?_
   refine aw_true rfl ?_
   refine aR [] [4] [] [Bv true] [] [] hB trivial ?_
   refine aw_ret ?_
   refine ae_ret_then ?_
   refine ae_ret hB (Bv true) (by kernel_rfl) (.inl rfl) rfl (fun _ => trivial)
  have hc : (∀ j, j < code.length → 0 ≤ at_ code j ∧ at_ code j ≤ 255) ∧ code.length ≤ 4611686018427387904 := ⟨fun j hj => ok_code _ (at_mem hj), by first | omega | (simp at h1; omega)⟩
  have hmore : (∀ j, j < more.length → 0 ≤ at_ more j ∧ at_ more j ≤ 255) ∧ more.length ≤ 4611686018427387904 := ⟨fun j hj => ok_more _ (at_mem hj), by first | omega | (simp at h1; omega)⟩
  refine aw_r [(2, .call [(true, .any), (true, .any)] true (Bv false))] [0, 1, 23] [] [slU8 false code, slU8 false more, Bv false] [] [Con Try.prog 4 [slU8 false code, slU8 false more] true (Bv false) ∧ True] hB ⟨⟨(con_bool h1 (a2Long_ok code more)), trivial⟩, trivial⟩ ?_
  refine ae_then ?_
  refine aw_false rfl ?_
  refine aw_skip ?_
  refine ae_then ?_
  refine aw_seq ?_
  obtain ⟨v_1, hx1_0, hx1_1, hc1⟩ := A2Lattice_ok code (by assumption)
  have hl := hx1_0
  have hdg := hx1_1
  have hab := a2At_bd more 0 (n := 60) (by decide)
  refine aw_r [(1, .call [(true, .any)] true (agLatticeT v_1)), (2, .new 5)] [1, 5] [5] [slU8 false more, .ref 5 0] [some (bxLatticeT v_1)] [Con Try.prog 5 [slU8 false code] true (agLatticeT v_1) ∧ True] hB ⟨⟨hc1, trivial⟩, trivial⟩ ?_
  refine ae_then ?_
  refine aR [(1, .call [(true, .any), (true, .any), (true, .any)] true (I (a2AtI more 0 60)))] [1, 5, 6] [5] [slU8 false more, .ref 5 0, I (a2AtI more 0 60)] [some (bxLatticeT v_1)] [Con Try.prog 6 [slU8 false more, I 0, I 60] true (I (a2AtI more 0 60)) ∧ True] hB ⟨⟨(a2At_ok more 0 60 hmore.1 (by omega)), trivial⟩, trivial⟩ ?_
  refine aw_seq ?_
  obtain ⟨v_2, c_2, hx2_0, hc2⟩ := PruneLattice_ok v_1 (a2AtI more 0 60) hl (by omega)
  have hpr := hx2_0
  refine aw_r [(2, .call [(false, agLattice v_1), (true, .any)] true (.tup [agLatticeT v_2, I c_2])), (6, .new 7)] [1, 5, 6, 7, 8] [5, 7] [slU8 false more, .ref 5 0, I (a2AtI more 0 60), .ref 7 0, I c_2] [some (bxLatticeT v_1), some (bxLatticeT v_2)] [Con Try.prog 7 [agLattice v_1, I (a2AtI more 0 60)] true (.tup [agLatticeT v_2, I c_2]) ∧ ((valOf (I v_1.Nodes) = valOf (I v_1.Nodes)) ∧ ((false = true → true = true) ∧ 4 = 4 ∧ v_1.Edges.length = v_1.Edges.length ∧ ∀ i_, i_ < v_1.Edges.length → (fEdge v_1.Edges) i_ = (fEdge v_1.Edges) i_ ∨ (AV.idsL ((fEdge v_1.Edges) i_) = [] ∧ leL (fun _ => none) false ((fEdge v_1.Edges) i_) ((fEdge v_1.Edges) i_))) ∧ ([] : List AV) = []) ∧ True] hB ⟨⟨hc2, ⟨rfl, ⟨⟨(fun h => by cases h), rfl, rfl, fun i _ => .inl rfl⟩, rfl⟩⟩, trivial⟩, trivial⟩ ?_
  refine ae_then ?_
  refine aw_seq ?_
  obtain ⟨v_3, c_3, hx3_0, hx3_1, hc3⟩ := specBestReadings_ok v_1 20 hl (by omega)
  have hv1 : v_3 = bestL 20 v_1 := hx3_0
  have hvl : v_3.length ≤ 20 := by rw [hv1]; exact (best_fst hl 20).2.1
  refine aw_r [(1, .call [(false, agLattice v_1), (true, .any)] true (.tup [slReading true v_3, I c_3]))] [1, 5, 6, 7, 8, 9] [5, 7] [slU8 false more, .ref 5 0, I (a2AtI more 0 60), .ref 7 0, I c_2, slReading true v_3] [some (bxLatticeT v_1), some (bxLatticeT v_2)] [Con Try.prog 8 [agLattice v_1, I 20] true (.tup [slReading true v_3, I c_3]) ∧ ((valOf (I v_1.Nodes) = valOf (I v_1.Nodes)) ∧ ((false = true → true = true) ∧ 4 = 4 ∧ v_1.Edges.length = v_1.Edges.length ∧ ∀ i_, i_ < v_1.Edges.length → (fEdge v_1.Edges) i_ = (fEdge v_1.Edges) i_ ∨ (AV.idsL ((fEdge v_1.Edges) i_) = [] ∧ leL (fun _ => none) false ((fEdge v_1.Edges) i_) ((fEdge v_1.Edges) i_))) ∧ ([] : List AV) = []) ∧ True] hB ⟨⟨hc3, ⟨rfl, ⟨⟨(fun h => by cases h), rfl, rfl, fun i _ => .inl rfl⟩, rfl⟩⟩, trivial⟩, trivial⟩ ?_
  refine ae_then ?_
  refine aw_seq ?_
  refine aw_seq ?_
  by_cases h2 : (v_3.length : Int) = 0
  ·have hc1_ : c_2 = 3 := by rcases hpr with q | q; (exact absurd q.2.1 (tv_none hl (k := 20) (by decide) (by rw [← hv1]; omega))); (exact q.1)
   refine aw_r [(2, .dec true)] [1, 5, 6, 7, 8, 9, 41] [5, 7] [slU8 false more, .ref 5 0, I (a2AtI more 0 60), .ref 7 0, I c_2, slReading true v_3, Bv true] [some (bxLatticeT v_1), some (bxLatticeT v_2)] [(v_3.length : Int) = 0] hB ⟨h2, trivial⟩ ?_
   refine ae_then ?_
   refine aw_true rfl ?_
   refine aR [(1, .dec true)] [4] [] [Bv true] [] [c_2 = 3] hB ⟨hc1_, trivial⟩ ?_
   refine aw_ret ?_
   refine ae_ret_then ?_
   refine ae_ret hB (Bv true) (by kernel_rfl) (.inl rfl) rfl (fun _ => trivial)
  have hpos : 0 < v_3.length := by omega
  have htb := tv_best hl (k := 20) (by rw [← hv1]; exact hpos)
  have hbd0 := best_bd hl (k := 20) (i := 0) (by rw [← hv1]; exact hpos)
  rw [← hv1] at htb hbd0
  have hc1_ : c_2 = 0 ∧ v_2 = prT v_1 (at_ (tvL v_1) 0 + a2AtI more 0 60) := by rcases hpr with q | q; (exact ⟨q.1, q.2.2⟩); (exact absurd (by rw [htb]; omega) q.2)
  have hpv := hc1_.2
  have hpo : okLat v_2 := by rw [hpv]; exact prT_ok hl _
  have hpl : v_2.Edges.length ≤ v_1.Edges.length := by rw [hpv]; exact (prL_len _ _ _).2
  refine aw_r [(2, .dec false)] [1, 5, 6, 7, 8, 9, 41] [5, 7] [slU8 false more, .ref 5 0, I (a2AtI more 0 60), .ref 7 0, I c_2, slReading true v_3, Bv false] [some (bxLatticeT v_1), some (bxLatticeT v_2)] [¬ ((v_3.length : Int) = 0)] hB ⟨h2, trivial⟩ ?_
  refine ae_then ?_
  refine aw_false rfl ?_
  refine aw_skip ?_
  refine ae_then ?_
  refine aw_seq ?_
  refine aR [(1, .dec false), (4, .call [(false, agLattice v_2)] true (Bv true)), (14, .dec false)] [1, 5, 6, 7, 9, 59] [5, 7] [slU8 false more, .ref 5 0, I (a2AtI more 0 60), .ref 7 0, slReading true v_3, Bv false] [some (bxLatticeT v_1), some (bxLatticeT v_2)] [¬ (c_2 ≠ 0), Con Try.prog 9 [agLattice v_2] true (Bv true) ∧ ((valOf (I v_2.Nodes) = valOf (I v_2.Nodes)) ∧ ((false = true → true = true) ∧ 4 = 4 ∧ v_2.Edges.length = v_2.Edges.length ∧ ∀ i_, i_ < v_2.Edges.length → (fEdge v_2.Edges) i_ = (fEdge v_2.Edges) i_ ∨ (AV.idsL ((fEdge v_2.Edges) i_) = [] ∧ leL (fun _ => none) false ((fEdge v_2.Edges) i_) ((fEdge v_2.Edges) i_))) ∧ ([] : List AV) = []) ∧ True, ¬ ((v_1.Edges.length : Int) < (v_2.Edges.length : Int))] hB ⟨(fun hq => hq hc1_.1), ⟨(specValidLattice_ok v_2 hpo), ⟨rfl, ⟨⟨(fun h => by cases h), rfl, rfl, fun i _ => .inl rfl⟩, rfl⟩⟩, trivial⟩, (by omega), trivial⟩ ?_
  refine aw_false rfl ?_
  refine aw_skip ?_
  refine ae_then ?_
  refine aw_seq ?_
  refine aR [] [1, 5, 6, 7, 9, 11] [5, 7] [slU8 false more, .ref 5 0, I (a2AtI more 0 60), .ref 7 0, slReading true v_3, I 0] [some (bxLatticeT v_1), some (bxLatticeT v_2)] [] hB trivial ?_
  refine aw_block ?_
  refine aw_loop (fun gn gσ => ∃ (i : Int), gn = ((v_3.length : Int) - i).toNat ∧ (0 ≤ i ∧ i ≤ (v_3.length : Int)) ∧ gσ = mkS [(1, slU8 false more), (5, .ref 5 0), (6, I (a2AtI more 0 60)), (7, .ref 7 0), (9, slReading true v_3), (11, I i)] [(5, bxLatticeT v_1), (7, bxLatticeT v_2)]) (((v_3.length : Int) - 0).toNat) ⟨0, rfl, (by omega), rfl⟩ (fun gn gσ hI => ?_)
  obtain ⟨i, rfl, hi0, rfl⟩ := hI
  refine aw_seq ?_
  refine aw_seq ?_
  by_cases h3 : i < (v_3.length : Int)
  ·have hi : i.toNat < v_3.length := by omega
   have hbd := best_bd hl (k := 20) (i := i.toNat) (by rw [← hv1]; exact hi)
   rw [← hv1] at hbd
   refine aw_r [(3, .dec true)] [1, 5, 6, 7, 9, 11, 63] [5, 7] [slU8 false more, .ref 5 0, I (a2AtI more 0 60), .ref 7 0, slReading true v_3, I i, Bv true] [some (bxLatticeT v_1), some (bxLatticeT v_2)] [i < (v_3.length : Int)] hB ⟨h3, trivial⟩ ?_
   refine ae_then ?_
   refine aw_true rfl ?_
   refine aw_skip ?_
   refine ae_then ?_
   refine aw_seq ?_
   refine aw_block ?_
   refine aw_seq ?_
   obtain ⟨v_4, c_4, hx4_0, hc4⟩ := specTextCost_ok v_2 ((at_ v_3 i.toNat).Text) hpo (by omega)
   have htc := hx4_0
   have hlw := pr_law hl (k := 20) (slack := a2AtI more 0 60) (i := i.toNat) (by rw [← hv1]; exact hi)
   rw [← hv1, ← hpv] at hlw
   refine aw_r [(6, .call [(false, agLattice v_2), (true, .any)] true (.tup [I v_4, I c_4]))] [1, 5, 6, 7, 9, 11, 12, 13] [5, 7] [slU8 false more, .ref 5 0, I (a2AtI more 0 60), .ref 7 0, slReading true v_3, I i, I v_4, I c_4] [some (bxLatticeT v_1), some (bxLatticeT v_2)] [(0 : Int) ≤ i ∧ i < (v_3.length : Int), Con Try.prog 10 [agLattice v_2, Sv ((at_ v_3 i.toNat).Text)] true (.tup [I v_4, I c_4]) ∧ ((valOf (I v_2.Nodes) = valOf (I v_2.Nodes)) ∧ ((false = true → true = true) ∧ 4 = 4 ∧ v_2.Edges.length = v_2.Edges.length ∧ ∀ i_, i_ < v_2.Edges.length → (fEdge v_2.Edges) i_ = (fEdge v_2.Edges) i_ ∨ (AV.idsL ((fEdge v_2.Edges) i_) = [] ∧ leL (fun _ => none) false ((fEdge v_2.Edges) i_) ((fEdge v_2.Edges) i_))) ∧ ([] : List AV) = []) ∧ True] hB ⟨⟨(by omega), (by omega)⟩, ⟨hc4, ⟨rfl, ⟨⟨(fun h => by cases h), rfl, rfl, fun i _ => .inl rfl⟩, rfl⟩⟩, trivial⟩, trivial⟩ ?_
   refine ae_then ?_
   refine aw_seq ?_
   by_cases h4 : ((at_ v_3 i.toNat).Cost) ≤ (((at_ v_3 0).Cost) + (a2AtI more 0 60))
   ·by_cases h5 : c_4 = 0
    ·by_cases h6 : v_4 = ((at_ v_3 i.toNat).Cost)
     ·by_cases h7 : v_4 < ((at_ v_3 i.toNat).Cost)
      ·refine aw_r [(11, .dec true), (14, .dec false), (22, .dec false), (27, .dec true), (35, .dec true)] [1, 5, 6, 7, 9, 11, 113] [5, 7] [slU8 false more, .ref 5 0, I (a2AtI more 0 60), .ref 7 0, slReading true v_3, I i, Bv true] [some (bxLatticeT v_1), some (bxLatticeT v_2)] [(0 : Int) ≤ i ∧ i < (v_3.length : Int), (0 : Int) ≤ 0 ∧ 0 < (v_3.length : Int), inR .i64 (((at_ v_3 0).Cost) + (a2AtI more 0 60)), ((at_ v_3 i.toNat).Cost) ≤ (((at_ v_3 0).Cost) + (a2AtI more 0 60)), ¬ (c_4 ≠ 0), (0 : Int) ≤ i ∧ i < (v_3.length : Int), ¬ (v_4 ≠ ((at_ v_3 i.toNat).Cost)), c_4 = 0, (0 : Int) ≤ i ∧ i < (v_3.length : Int), v_4 < ((at_ v_3 i.toNat).Cost)] hB ⟨⟨(by omega), (by omega)⟩, ⟨(by omega), (by omega)⟩, (inR_i64 (by omega) (by omega)), h4, (fun hq => hq h5), ⟨(by omega), (by omega)⟩, (fun hq => hq h6), h5, ⟨(by omega), (by omega)⟩, h7, trivial⟩ ?_
       refine ae_then ?_
       refine aw_true rfl ?_
       refine aR [] [4] [] [Bv false] [] [] hB trivial ?_
       refine aw_ret ?_
       refine ae_ret_block (ae_ret_then (ae_ret_then (ae_ret_block (ae_ret_then ?_))))
       refine ae_ret hB (Bv false) (by kernel_rfl) (.inl (by first | rfl | (exfalso; omega) | (refine congrArg Bv ?_; first | exact decide_eq_true (by omega) | (symm; exact decide_eq_true (by omega))) | (exfalso; rcases htc with q | q; (have a := hlw.2 q.2.2; have b := q.2.1; have c := hlw.1; omega); (have c := hlw.1; have d := q.2; omega)) | (refine congrArg Bv ?_; have q_ := hjb.2; rcases hur with q | q <;> rcases hsr with q2 | q2 <;> first | omega | (rw [q.2.2, q2.2.2]; simp only [decide_eq_true_eq]; exact q_ q.2.1 q2.2.1) | (rw [q.2.2, q2.2.2]; exact (decide_eq_true (q_ q.2.1 q2.2.1)).symm) | (rw [q.2.2, q2.2.2]; exact decide_eq_true (q_ q.2.1 q2.2.1))) | (refine congrArg Bv ?_; simp [*]; done) | (exfalso; simp_all; done))) rfl (fun _ => trivial)
      refine aw_r [(11, .dec true), (14, .dec false), (22, .dec false), (27, .dec true), (35, .dec false)] [1, 5, 6, 7, 9, 11, 113] [5, 7] [slU8 false more, .ref 5 0, I (a2AtI more 0 60), .ref 7 0, slReading true v_3, I i, Bv false] [some (bxLatticeT v_1), some (bxLatticeT v_2)] [(0 : Int) ≤ i ∧ i < (v_3.length : Int), (0 : Int) ≤ 0 ∧ 0 < (v_3.length : Int), inR .i64 (((at_ v_3 0).Cost) + (a2AtI more 0 60)), ((at_ v_3 i.toNat).Cost) ≤ (((at_ v_3 0).Cost) + (a2AtI more 0 60)), ¬ (c_4 ≠ 0), (0 : Int) ≤ i ∧ i < (v_3.length : Int), ¬ (v_4 ≠ ((at_ v_3 i.toNat).Cost)), c_4 = 0, (0 : Int) ≤ i ∧ i < (v_3.length : Int), ¬ (v_4 < ((at_ v_3 i.toNat).Cost))] hB ⟨⟨(by omega), (by omega)⟩, ⟨(by omega), (by omega)⟩, (inR_i64 (by omega) (by omega)), h4, (fun hq => hq h5), ⟨(by omega), (by omega)⟩, (fun hq => hq h6), h5, ⟨(by omega), (by omega)⟩, h7, trivial⟩ ?_
      refine ae_then ?_
      refine aw_false rfl ?_
      refine aw_skip ?_
      refine ae_block 1 ?_
      refine ae_then ?_
      refine aw_r [] [1, 5, 6, 7, 9, 11] [5, 7] [slU8 false more, .ref 5 0, I (a2AtI more 0 60), .ref 7 0, slReading true v_3, I (i + 1)] [some (bxLatticeT v_1), some (bxLatticeT v_2)] [inR .i64 (i + 1)] hB ⟨(inR_i64 (by omega) (by omega)), trivial⟩ ?_
      exact ae_again _ (by omega) ⟨(i + 1), rfl, (by omega), rfl⟩
     refine aw_r [(11, .dec true), (14, .dec false), (22, .dec true)] [1, 5, 6, 7, 9, 11, 113] [5, 7] [slU8 false more, .ref 5 0, I (a2AtI more 0 60), .ref 7 0, slReading true v_3, I i, Bv true] [some (bxLatticeT v_1), some (bxLatticeT v_2)] [(0 : Int) ≤ i ∧ i < (v_3.length : Int), (0 : Int) ≤ 0 ∧ 0 < (v_3.length : Int), inR .i64 (((at_ v_3 0).Cost) + (a2AtI more 0 60)), ((at_ v_3 i.toNat).Cost) ≤ (((at_ v_3 0).Cost) + (a2AtI more 0 60)), ¬ (c_4 ≠ 0), (0 : Int) ≤ i ∧ i < (v_3.length : Int), v_4 ≠ ((at_ v_3 i.toNat).Cost)] hB ⟨⟨(by omega), (by omega)⟩, ⟨(by omega), (by omega)⟩, (inR_i64 (by omega) (by omega)), h4, (fun hq => hq h5), ⟨(by omega), (by omega)⟩, h6, trivial⟩ ?_
     refine ae_then ?_
     refine aw_true rfl ?_
     refine aR [] [4] [] [Bv false] [] [] hB trivial ?_
     refine aw_ret ?_
     refine ae_ret_block (ae_ret_then (ae_ret_then (ae_ret_block (ae_ret_then ?_))))
     refine ae_ret hB (Bv false) (by kernel_rfl) (.inl (by first | rfl | (exfalso; omega) | (refine congrArg Bv ?_; first | exact decide_eq_true (by omega) | (symm; exact decide_eq_true (by omega))) | (exfalso; rcases htc with q | q; (have a := hlw.2 q.2.2; have b := q.2.1; have c := hlw.1; omega); (have c := hlw.1; have d := q.2; omega)) | (refine congrArg Bv ?_; have q_ := hjb.2; rcases hur with q | q <;> rcases hsr with q2 | q2 <;> first | omega | (rw [q.2.2, q2.2.2]; simp only [decide_eq_true_eq]; exact q_ q.2.1 q2.2.1) | (rw [q.2.2, q2.2.2]; exact (decide_eq_true (q_ q.2.1 q2.2.1)).symm) | (rw [q.2.2, q2.2.2]; exact decide_eq_true (q_ q.2.1 q2.2.1))) | (refine congrArg Bv ?_; simp [*]; done) | (exfalso; simp_all; done))) rfl (fun _ => trivial)
    refine aw_r [(11, .dec true), (14, .dec true)] [1, 5, 6, 7, 9, 11, 113] [5, 7] [slU8 false more, .ref 5 0, I (a2AtI more 0 60), .ref 7 0, slReading true v_3, I i, Bv true] [some (bxLatticeT v_1), some (bxLatticeT v_2)] [(0 : Int) ≤ i ∧ i < (v_3.length : Int), (0 : Int) ≤ 0 ∧ 0 < (v_3.length : Int), inR .i64 (((at_ v_3 0).Cost) + (a2AtI more 0 60)), ((at_ v_3 i.toNat).Cost) ≤ (((at_ v_3 0).Cost) + (a2AtI more 0 60)), c_4 ≠ 0] hB ⟨⟨(by omega), (by omega)⟩, ⟨(by omega), (by omega)⟩, (inR_i64 (by omega) (by omega)), h4, h5, trivial⟩ ?_
    refine ae_then ?_
    refine aw_true rfl ?_
    refine aR [] [4] [] [Bv false] [] [] hB trivial ?_
    refine aw_ret ?_
    refine ae_ret_block (ae_ret_then (ae_ret_then (ae_ret_block (ae_ret_then ?_))))
    refine ae_ret hB (Bv false) (by kernel_rfl) (.inl (by first | rfl | (exfalso; omega) | (refine congrArg Bv ?_; first | exact decide_eq_true (by omega) | (symm; exact decide_eq_true (by omega))) | (exfalso; rcases htc with q | q; (have a := hlw.2 q.2.2; have b := q.2.1; have c := hlw.1; omega); (have c := hlw.1; have d := q.2; omega)) | (refine congrArg Bv ?_; have q_ := hjb.2; rcases hur with q | q <;> rcases hsr with q2 | q2 <;> first | omega | (rw [q.2.2, q2.2.2]; simp only [decide_eq_true_eq]; exact q_ q.2.1 q2.2.1) | (rw [q.2.2, q2.2.2]; exact (decide_eq_true (q_ q.2.1 q2.2.1)).symm) | (rw [q.2.2, q2.2.2]; exact decide_eq_true (q_ q.2.1 q2.2.1))) | (refine congrArg Bv ?_; simp [*]; done) | (exfalso; simp_all; done))) rfl (fun _ => trivial)
   by_cases h8 : c_4 = 0
   ·by_cases h9 : v_4 < ((at_ v_3 i.toNat).Cost)
    ·refine aw_r [(11, .dec false), (27, .dec true), (35, .dec true)] [1, 5, 6, 7, 9, 11, 113] [5, 7] [slU8 false more, .ref 5 0, I (a2AtI more 0 60), .ref 7 0, slReading true v_3, I i, Bv true] [some (bxLatticeT v_1), some (bxLatticeT v_2)] [(0 : Int) ≤ i ∧ i < (v_3.length : Int), (0 : Int) ≤ 0 ∧ 0 < (v_3.length : Int), inR .i64 (((at_ v_3 0).Cost) + (a2AtI more 0 60)), ¬ (((at_ v_3 i.toNat).Cost) ≤ (((at_ v_3 0).Cost) + (a2AtI more 0 60))), c_4 = 0, (0 : Int) ≤ i ∧ i < (v_3.length : Int), v_4 < ((at_ v_3 i.toNat).Cost)] hB ⟨⟨(by omega), (by omega)⟩, ⟨(by omega), (by omega)⟩, (inR_i64 (by omega) (by omega)), h4, h8, ⟨(by omega), (by omega)⟩, h9, trivial⟩ ?_
     refine ae_then ?_
     refine aw_true rfl ?_
     refine aR [] [4] [] [Bv false] [] [] hB trivial ?_
     refine aw_ret ?_
     refine ae_ret_block (ae_ret_then (ae_ret_then (ae_ret_block (ae_ret_then ?_))))
     refine ae_ret hB (Bv false) (by kernel_rfl) (.inl (by first | rfl | (exfalso; omega) | (refine congrArg Bv ?_; first | exact decide_eq_true (by omega) | (symm; exact decide_eq_true (by omega))) | (exfalso; rcases htc with q | q; (have a := hlw.2 q.2.2; have b := q.2.1; have c := hlw.1; omega); (have c := hlw.1; have d := q.2; omega)) | (refine congrArg Bv ?_; have q_ := hjb.2; rcases hur with q | q <;> rcases hsr with q2 | q2 <;> first | omega | (rw [q.2.2, q2.2.2]; simp only [decide_eq_true_eq]; exact q_ q.2.1 q2.2.1) | (rw [q.2.2, q2.2.2]; exact (decide_eq_true (q_ q.2.1 q2.2.1)).symm) | (rw [q.2.2, q2.2.2]; exact decide_eq_true (q_ q.2.1 q2.2.1))) | (refine congrArg Bv ?_; simp [*]; done) | (exfalso; simp_all; done))) rfl (fun _ => trivial)
    refine aw_r [(11, .dec false), (27, .dec true), (35, .dec false)] [1, 5, 6, 7, 9, 11, 113] [5, 7] [slU8 false more, .ref 5 0, I (a2AtI more 0 60), .ref 7 0, slReading true v_3, I i, Bv false] [some (bxLatticeT v_1), some (bxLatticeT v_2)] [(0 : Int) ≤ i ∧ i < (v_3.length : Int), (0 : Int) ≤ 0 ∧ 0 < (v_3.length : Int), inR .i64 (((at_ v_3 0).Cost) + (a2AtI more 0 60)), ¬ (((at_ v_3 i.toNat).Cost) ≤ (((at_ v_3 0).Cost) + (a2AtI more 0 60))), c_4 = 0, (0 : Int) ≤ i ∧ i < (v_3.length : Int), ¬ (v_4 < ((at_ v_3 i.toNat).Cost))] hB ⟨⟨(by omega), (by omega)⟩, ⟨(by omega), (by omega)⟩, (inR_i64 (by omega) (by omega)), h4, h8, ⟨(by omega), (by omega)⟩, h9, trivial⟩ ?_
    refine ae_then ?_
    refine aw_false rfl ?_
    refine aw_skip ?_
    refine ae_block 1 ?_
    refine ae_then ?_
    refine aw_r [] [1, 5, 6, 7, 9, 11] [5, 7] [slU8 false more, .ref 5 0, I (a2AtI more 0 60), .ref 7 0, slReading true v_3, I (i + 1)] [some (bxLatticeT v_1), some (bxLatticeT v_2)] [inR .i64 (i + 1)] hB ⟨(inR_i64 (by omega) (by omega)), trivial⟩ ?_
    exact ae_again _ (by omega) ⟨(i + 1), rfl, (by omega), rfl⟩
   refine aw_r [(11, .dec false), (27, .dec false)] [1, 5, 6, 7, 9, 11, 113] [5, 7] [slU8 false more, .ref 5 0, I (a2AtI more 0 60), .ref 7 0, slReading true v_3, I i, Bv false] [some (bxLatticeT v_1), some (bxLatticeT v_2)] [(0 : Int) ≤ i ∧ i < (v_3.length : Int), (0 : Int) ≤ 0 ∧ 0 < (v_3.length : Int), inR .i64 (((at_ v_3 0).Cost) + (a2AtI more 0 60)), ¬ (((at_ v_3 i.toNat).Cost) ≤ (((at_ v_3 0).Cost) + (a2AtI more 0 60))), ¬ (c_4 = 0)] hB ⟨⟨(by omega), (by omega)⟩, ⟨(by omega), (by omega)⟩, (inR_i64 (by omega) (by omega)), h4, h8, trivial⟩ ?_
   refine ae_then ?_
   refine aw_false rfl ?_
   refine aw_skip ?_
   refine ae_block 1 ?_
   refine ae_then ?_
   refine aw_r [] [1, 5, 6, 7, 9, 11] [5, 7] [slU8 false more, .ref 5 0, I (a2AtI more 0 60), .ref 7 0, slReading true v_3, I (i + 1)] [some (bxLatticeT v_1), some (bxLatticeT v_2)] [inR .i64 (i + 1)] hB ⟨(inR_i64 (by omega) (by omega)), trivial⟩ ?_
   exact ae_again _ (by omega) ⟨(i + 1), rfl, (by omega), rfl⟩
  refine aw_r [(3, .dec false)] [1, 5, 6, 7, 9, 11, 63] [5, 7] [slU8 false more, .ref 5 0, I (a2AtI more 0 60), .ref 7 0, slReading true v_3, I i, Bv false] [some (bxLatticeT v_1), some (bxLatticeT v_2)] [¬ (i < (v_3.length : Int))] hB ⟨h3, trivial⟩ ?_
  refine ae_then ?_
  refine aw_false rfl ?_
  refine aw_exit ?_
  refine ae_exit_then ?_
  refine ae_exit_then ?_
  refine ae_exit_same ?_
  refine ae_then ?_
  refine aw_seq ?_
  obtain ⟨v_5, hx5_0, hx5_1, hc5⟩ := A2Lattice_ok more (by assumption)
  have hm := hx5_0
  have hdm := hx5_1
  have hn1_ := hdg.1
  have hn2_ := hdm.1
  have he1_ := deg_24 hl hdg
  have he2_ := deg_24 hm hdm
  have hjo := jn_ok hl hm (by omega) (by omega)
  refine aw_r [(1, .call [(true, .any)] true (agLatticeT v_5)), (2, .new 14)] [5, 9, 14] [5, 14] [.ref 5 0, slReading true v_3, .ref 14 0] [some (bxLatticeT v_1), some (bxLatticeT v_5)] [Con Try.prog 5 [slU8 false more] true (agLatticeT v_5) ∧ True] hB ⟨⟨hc5, trivial⟩, trivial⟩ ?_
  refine ae_then ?_
  refine aw_seq ?_
  obtain ⟨v_6, c_6, hx6_0, hx6_1, hc6⟩ := JoinLattices_ok v_1 v_5 hl hm (by omega) (by omega)
  have hjv : v_6 = joinT v_1 v_5 := hx6_0
  have hc2_ := hx6_1
  have hjo2 : okLat v_6 := by rw [hjv]; exact hjo
  refine aw_r [(2, .call [(false, agLattice v_1), (false, agLattice v_5)] true (.tup [agLatticeT v_6, I c_6])), (6, .new 15)] [9, 14, 15, 16] [14, 15] [slReading true v_3, .ref 14 0, .ref 15 0, I c_6] [some (bxLatticeT v_5), some (bxLatticeT v_6)] [Con Try.prog 11 [agLattice v_1, agLattice v_5] true (.tup [agLatticeT v_6, I c_6]) ∧ ((valOf (I v_1.Nodes) = valOf (I v_1.Nodes)) ∧ ((false = true → true = true) ∧ 4 = 4 ∧ v_1.Edges.length = v_1.Edges.length ∧ ∀ i_, i_ < v_1.Edges.length → (fEdge v_1.Edges) i_ = (fEdge v_1.Edges) i_ ∨ (AV.idsL ((fEdge v_1.Edges) i_) = [] ∧ leL (fun _ => none) false ((fEdge v_1.Edges) i_) ((fEdge v_1.Edges) i_))) ∧ ([] : List AV) = []) ∧ ((valOf (I v_5.Nodes) = valOf (I v_5.Nodes)) ∧ ((false = true → true = true) ∧ 4 = 4 ∧ v_5.Edges.length = v_5.Edges.length ∧ ∀ i_, i_ < v_5.Edges.length → (fEdge v_5.Edges) i_ = (fEdge v_5.Edges) i_ ∨ (AV.idsL ((fEdge v_5.Edges) i_) = [] ∧ leL (fun _ => none) false ((fEdge v_5.Edges) i_) ((fEdge v_5.Edges) i_))) ∧ ([] : List AV) = []) ∧ True] hB ⟨⟨hc6, ⟨rfl, ⟨⟨(fun h => by cases h), rfl, rfl, fun i _ => .inl rfl⟩, rfl⟩⟩, ⟨rfl, ⟨⟨(fun h => by cases h), rfl, rfl, fun i _ => .inl rfl⟩, rfl⟩⟩, trivial⟩, trivial⟩ ?_
  refine ae_then ?_
  refine aw_seq ?_
  obtain ⟨v_7, c_7, hx7_0, hc7⟩ := specBestReading_ok v_5 hm
  have hsr := hx7_0
  have hsb : c_7 = 0 → 0 ≤ v_7.Cost ∧ v_7.Cost ≤ 20000000 := fun q => by rcases hsr with q2 | q2; (rw [q2.2.2]; exact (best_bd hm q2.2.1).2); omega
  refine aw_r [(1, .call [(false, agLattice v_5)] true (.tup [agReading v_7, I c_7])), (5, .new 17)] [9, 15, 16, 17, 18] [15, 17] [slReading true v_3, .ref 15 0, I c_6, .ref 17 0, I c_7] [some (bxLatticeT v_6), some (bxReading v_7)] [Con Try.prog 12 [agLattice v_5] true (.tup [agReading v_7, I c_7]) ∧ ((valOf (I v_5.Nodes) = valOf (I v_5.Nodes)) ∧ ((false = true → true = true) ∧ 4 = 4 ∧ v_5.Edges.length = v_5.Edges.length ∧ ∀ i_, i_ < v_5.Edges.length → (fEdge v_5.Edges) i_ = (fEdge v_5.Edges) i_ ∨ (AV.idsL ((fEdge v_5.Edges) i_) = [] ∧ leL (fun _ => none) false ((fEdge v_5.Edges) i_) ((fEdge v_5.Edges) i_))) ∧ ([] : List AV) = []) ∧ True] hB ⟨⟨hc7, ⟨rfl, ⟨⟨(fun h => by cases h), rfl, rfl, fun i _ => .inl rfl⟩, rfl⟩⟩, trivial⟩, trivial⟩ ?_
  refine ae_then ?_
  refine aw_seq ?_
  obtain ⟨v_8, c_8, hx8_0, hc8⟩ := BestReading_ok v_6 hjo2
  have hur := hx8_0
  rw [hjv] at hur
  have hjb := jn_best hl hm hjo (k := 20) (i := 1) (n := 1) (by decide) (by decide) (by decide) (by rw [← hv1]; exact hpos)
  rw [← hv1] at hjb
  have hcc : c_8 = c_7 := by rcases hur with q | q <;> rcases hsr with q2 | q2; (rw [q.1, q2.1]); (exact absurd (hjb.1.1 q.2.1) (by omega)); (exact absurd (hjb.1.2 q2.2.1) (by omega)); (rw [q.1, q2.1])
  refine aw_r [(1, .call [(false, agLattice v_6)] true (.tup [agReading v_8, I c_8])), (5, .new 19)] [9, 16, 17, 18, 19, 20] [17, 19] [slReading true v_3, I c_6, .ref 17 0, I c_7, .ref 19 0, I c_8] [some (bxReading v_7), some (bxReading v_8)] [Con Try.prog 13 [agLattice v_6] true (.tup [agReading v_8, I c_8]) ∧ ((valOf (I v_6.Nodes) = valOf (I v_6.Nodes)) ∧ ((false = true → true = true) ∧ 4 = 4 ∧ v_6.Edges.length = v_6.Edges.length ∧ ∀ i_, i_ < v_6.Edges.length → (fEdge v_6.Edges) i_ = (fEdge v_6.Edges) i_ ∨ (AV.idsL ((fEdge v_6.Edges) i_) = [] ∧ leL (fun _ => none) false ((fEdge v_6.Edges) i_) ((fEdge v_6.Edges) i_))) ∧ ([] : List AV) = []) ∧ True] hB ⟨⟨hc8, ⟨rfl, ⟨⟨(fun h => by cases h), rfl, rfl, fun i _ => .inl rfl⟩, rfl⟩⟩, trivial⟩, trivial⟩ ?_
  refine ae_then ?_
  refine aw_seq ?_
  refine aR [(1, .dec false)] [9, 16, 17, 18, 19, 20, 133] [17, 19] [slReading true v_3, I c_6, .ref 17 0, I c_7, .ref 19 0, I c_8, Bv false] [some (bxReading v_7), some (bxReading v_8)] [¬ (c_6 ≠ 0)] hB ⟨(fun hq => hq hc2_), trivial⟩ ?_
  refine aw_false rfl ?_
  refine aw_skip ?_
  refine ae_then ?_
  refine aw_seq ?_
  by_cases h10 : c_7 = 0
  ·have hsb2 := hsb h10
   refine aw_r [(2, .dec true), (5, .dec false)] [4] [] [Bv (decide (v_8.Cost = (((at_ v_3 0).Cost) + v_7.Cost)))] [] [c_8 = c_7, ¬ (c_7 ≠ 0), (0 : Int) ≤ 0 ∧ 0 < (v_3.length : Int), inR .i64 (((at_ v_3 0).Cost) + v_7.Cost)] hB ⟨hcc, (fun hq => hq h10), ⟨(by omega), (by omega)⟩, (inR_i64 (by omega) (by omega)), trivial⟩ ?_
   refine ae_then ?_
   refine aw_ret ?_
   refine ae_ret hB (Bv (decide (v_8.Cost = (((at_ v_3 0).Cost) + v_7.Cost)))) (by kernel_rfl) (.inl (by first | rfl | (exfalso; omega) | (refine congrArg Bv ?_; first | exact decide_eq_true (by omega) | (symm; exact decide_eq_true (by omega))) | (exfalso; rcases htc with q | q; (have a := hlw.2 q.2.2; have b := q.2.1; have c := hlw.1; omega); (have c := hlw.1; have d := q.2; omega)) | (refine congrArg Bv ?_; have q_ := hjb.2; rcases hur with q | q <;> rcases hsr with q2 | q2 <;> first | omega | (rw [q.2.2, q2.2.2]; simp only [decide_eq_true_eq]; exact q_ q.2.1 q2.2.1) | (rw [q.2.2, q2.2.2]; exact (decide_eq_true (q_ q.2.1 q2.2.1)).symm) | (rw [q.2.2, q2.2.2]; exact decide_eq_true (q_ q.2.1 q2.2.1))) | (refine congrArg Bv ?_; simp [*]; done) | (exfalso; simp_all; done))) rfl (fun _ => trivial)
  refine aw_r [(2, .dec true), (5, .dec true)] [4] [] [Bv true] [] [c_8 = c_7, c_7 ≠ 0] hB ⟨hcc, h10, trivial⟩ ?_
  refine ae_then ?_
  refine aw_ret ?_
  refine ae_ret hB (Bv true) (by kernel_rfl) (.inl rfl) rfl (fun _ => trivial)





theorem opens_t22 : OpensA Try.prog 22 (cLU8 false) (fun xs => ∀ y ∈ xs, inR .u8 y) :=
  opensA_slice (c := cU8) (sz := 1) Try.underlying22 (by kernel_rfl) (by decide) (fun x => ⟨rfl, by simp [oneA, cU8]⟩) (opensA_int Try.underlying5)


namespace fnPruned
set_option maxRecDepth 100000 in
theorem lifted (os : Os) (started : os.Started) (H : Type) (enc : TypeId × Value → H) :
    ReturnsInHanded {} Try.checked os 3 .any (Rows.fnPrunedSpec.pre6 enc Try.prog Try.f3 Rows.fnPrunedRow.domain false) (Rows.fnPrunedSpec.post enc Try.prog Try.f3 false true false false) := by
  refine returnsInHanded_of_change_shaped (C := Try.checked) Try.own started (by kernel_rfl) Try.func3
    (ChangeSpec.witness6 (enc := enc) (C := Try.checked) false ⟨#[], #[.slice none 0 0, .slice none 0 0], []⟩ 8 (by kernel_rfl) (by kernel_rfl) (by kernel_rfl) (by kernel_rfl)) ?_
  intro W base args ds gs before hval0 hW hcnd hsz hshp _
  have hW' := hW
  obtain ⟨p, q, hA0, hV, rfl, hfz, hnd⟩ := hW
  have hval : ∀ (j : Nat) t v, Try.f3.params[j]? = some t → args[j]? = some v → Value.okWide Try.prog W .any base t v := hval0
  have hA : DataW.TrodAll enc Try.prog W 0 (fun _ => true) true Try.f3.params.toList args.toList ds p := hA0
  rw [Try.params3] at hA hval
  obtain ⟨v0, vs0, d0, ds0, p0, q0, hargs, rfl, rfl, h0, r0⟩ := trodAll_cons hA
  obtain ⟨v1, vs1, d1, ds1, p1, q1, rfl, rfl, rfl, h1, r1⟩ := trodAll_cons r0
  obtain ⟨rfl, rfl, rfl⟩ := trodAll_nil r1
  obtain rfl : args = #[v0, v1] := args_eq hargs
  obtain ⟨rfl, rfl⟩ := trodVars_none hV
  obtain ⟨fuel0, hf0⟩ := h0
  obtain ⟨A0, l0, c0, rfl⟩ := okWide_slice Try.underlying22 (hval 0 22 v0 rfl rfl)
  obtain ⟨x0, rx0, ok0⟩ := (opens_t22) enc W 0 _ _ _ _ _ hf0
  obtain ⟨fuel1, hf1⟩ := h1
  obtain ⟨A1, l1, c1, rfl⟩ := okWide_slice Try.underlying22 (hval 1 22 v1 rfl rfl)
  obtain ⟨x1, rx1, ok1⟩ := (opens_t22) enc W 0 _ _ _ _ _ hf1
  refine (walk_of0 (fnPruned_con x0 x1 ok0 ok1) (fun w _ => WX_free w) (RelTL.cons (relTL_one rx0) (RelTL.cons (relTL_one rx1) RelTL.nil))).mono fun e W1 ⟨he, hb⟩ => ?_
  subst he
  exact ⟨_, rfl, law_post Try.laidOut rfl Try.underlying4 (of_decide_eq_true (by kernel_rfl)) rfl hW' hb rfl⟩

theorem jf0 : (Rows.fnPrunedRow.inPlace == Try.pinned.checked.prog.inPlace 3) = true := by kernel_rfl
theorem jf1 : (Rows.fnPrunedRow.unfollowed == Try.pinned.checked.prog.unfollowed 3) = true := by kernel_rfl
theorem jf2 : (Rows.fnPrunedRow.recurses == Try.pinned.checked.prog.recurses 3) = true := by kernel_rfl
theorem jf3 : (Rows.fnPrunedRow.named == Try.pinned.checked.prog.varsNamed 3) = true := by kernel_rfl
theorem jf : joinedFacts Try.pinned.checked.prog 3 Try.f3 Rows.fnPrunedSpec Rows.fnPrunedRow = true := by
  unfold joinedFacts
  rw [jf0, jf1, jf2, jf3]
  kernel_rfl
theorem over : Rows.fnPrunedRow.holds Try.pinned (OpenSpec.ofChange Rows.fnPrunedSpec) :=
  OpenClaim.holds_of_wide 3 Try.f3 rfl rfl rfl rfl rfl rfl rfl ⟨rfl, rfl, rfl, rfl, rfl⟩ rfl rfl rfl rfl rfl (by kernel_rfl) Try.func3 jf
    (of_decide_eq_true (by kernel_rfl)) (by unfold Func.isWrapper; first | (rw [if_pos (by decide +kernel)]; kernel_rfl) | (rw [if_neg (by decide +kernel)]; exact ⟨rfl, rfl⟩))
    (fun os started H enc _ => lifted os started H enc)

theorem proved : Rows.FnPrunedSaid :=
  over
#print axioms proved
end fnPruned

end Go.Proofs.Ytppknhfdmmnmoaa.Ax
