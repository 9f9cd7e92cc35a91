/- Contracts that the statement FnTraining reaches, part 2. No conditions. -/
import Derived.Test.YtblhhmcplocepaaGreatDoorAxLTraining1
import Derived.LaidMore
import Derived.Lay
import Derived.Lib.IndexBytes
import Derived.Lib.ItoaNum
import Derived.Lib.ParseIntBCases
import Derived.Lib.ParseIntBTie
import Derived.Lib.SplitLaws
import Derived.OpenShut
import Derived.SevenTiedAt
import Derived.Stop.Joined
import Derived.Test.YtblhhmcplocepaaGreatDoorAxBd
import Derived.Test.YtblhhmcplocepaaGreatDoorAxQ
import Derived.Test.YtblhhmcplocepaaGreatDoorAxR
import Derived.Test.YtblhhmcplocepaaGreatDoorAxS
import Derived.Test.YtblhhmcplocepaaGreatDoorAxY
import Derived.Test.YtblhhmcplocepaaGreatDoorDelShelf
namespace Go.Proofs.YtblhhmcplocepaaGreatDoor.Ax
open Go.RowKit Go.ChangeShapes Go.WideShapes
set_option linter.unusedVariables false
set_option linter.unusedSimpArgs false
theorem Zqu (p : Perceptron) (s : Sample) (hp : Zbb p = true) (hs : s.Label ∈ p.Labels) (hf : Zbp s.Feats 384 = true) : ∃ (ch : Bool) (c : Int) (ls : List ByteArray) (ws : List (List Int)), ((Perceptron.mk ls ws, ch, c) = Zdv p s) ∧ Zaz Tryz.prog 22 [Zae p, .ptr false [Sv s.Label, Zau false s.Feats]] (Zaf []) false (.tup [.agg [.arr 9211, .arr 9212], Bv ch, I c]) (Zaf [(9211, tAS ls), (9203, Zbm ws), (9212, Zbv 9203 ws)]) := by
  have hq := Zcd.1 hp
  have hpn := Zkk hp
  have hfi := Zso hs
  have hh : ∃ r : Bool × Int × (List ByteArray) × (List (List Int)), (((Perceptron.mk r.2.2.1 r.2.2.2, r.1, r.2.1) = Zdv p s) ∧ (True)) ∧ Zaz Tryz.prog 22 [Zae p, .ptr false [Sv s.Label, Zau false s.Feats]] (Zaf []) false (.tup [.agg [.arr 9211, .arr 9212], Bv r.1, I r.2.1]) (Zaf [(9211, tAS r.2.2.1), (9203, Zbm r.2.2.2), (9212, Zbv 9203 r.2.2.2)]) := by
    refine Zde (Φ := fun r : Bool × Int × (List ByteArray) × (List (List Int)) => ((Perceptron.mk r.2.2.1 r.2.2.2, r.1, r.2.1) = Zdv p s) ∧ (True)) [] (fun r => [(9211, tAS r.2.2.1), (9203, Zbm r.2.2.2), (9212, Zbv 9203 r.2.2.2)]) (fn := Tryz.f22) (nt := 68) Tryz.func22 rfl rfl (args := [Zae p, .ptr false [Sv s.Label, Zau false s.Feats]]) rfl (Zbw (.inl ⟨rfl, by simp [Zak, Zah, Zdd, Zer]⟩) (Zbw (.inl ⟨rfl, by simp [Zak, Zah, Zef]⟩) Zdb)) (res := fun r => .tup [.agg [.arr 9211, .arr 9212], Bv r.1, I r.2.1]) ?_
    refine xR [(0, .new 2), (1, .new 4)] [1, 2, 4] [2, 4] [.ptr false [Sv s.Label, Zau false s.Feats], .ref 2 0, .ref 4 0] [some (Zag p), some (.box [Zao, Zao])] [] trivial ?_
    refine Zap ?_
    obtain ⟨v_1, hx1_0, hc1⟩ := Zwx s.Feats hf
    have hinp := Ycu hf hx1_0
    have hiv := hx1_0
    have hil := hinp.2
    refine x_r [(4, .call [(true, .any)] true (slI true v_1))] [1, 2, 4, 7] [2, 4] [.ptr false [Sv s.Label, Zau false s.Feats], .ref 2 0, .ref 4 0, slI true v_1] [some (Zag p), some (.box [Zao, Zao])] [Con Tryz.prog 56 [Zau false s.Feats] true (slI true v_1) ∧ True] ⟨⟨hc1, trivial⟩, trivial⟩ ?_
    refine Zab ?_
    refine xR [(4, .call [(false, .ptr false [slS false p.Labels, Zbg false p.Weights]), (true, .any)] true (I (Zaw p.Labels s.Label)))] [2, 4, 7, 8] [2, 4] [.ref 2 0, .ref 4 0, slI true v_1, I (Zaw p.Labels s.Label)] [some (Zag p), some (.box [Zao, Zao])] [Con Tryz.prog 55 [.ptr false [slS false p.Labels, Zbg false p.Weights], Sv s.Label] true (I (Zaw p.Labels s.Label)) ∧ ((false = true → true = true) ∧ AV.idsL [slS false p.Labels, Zbg false p.Weights] = [] ∧ ((false = true → false = true) ∧ 1 = 1 ∧ p.Labels.length = p.Labels.length ∧ ∀ i_, i_ < p.Labels.length → (fS p.Labels) i_ = (fS p.Labels) i_ ∨ (AV.idsL ((fS p.Labels) i_) = [] ∧ leL (fun _ => none) false ((fS p.Labels) i_) ((fS p.Labels) i_))) ∧ ((false = true → false = true) ∧ 1 = 1 ∧ p.Weights.length = p.Weights.length ∧ ∀ i_, i_ < p.Weights.length → (fLI false p.Weights) i_ = (fLI false p.Weights) i_ ∨ (AV.idsL ((fLI false p.Weights) i_) = [] ∧ leL (fun _ => none) false ((fLI false p.Weights) i_) ((fLI false p.Weights) i_))) ∧ ([] : List AV) = []) ∧ True] ⟨⟨(Zmf p s.Label), ⟨(fun h => by cases h), rfl, ⟨⟨(fun h => by cases h), rfl, rfl, fun i _ => .inl rfl⟩, ⟨⟨(fun h => by cases h), rfl, rfl, fun i _ => .inl rfl⟩, rfl⟩⟩⟩, trivial⟩, trivial⟩ ?_
    refine Zap ?_
    obtain ⟨v_2, hx2_0, hc2⟩ := Zuu p v_1 hp hinp
    have hsv := hx2_0
    have hsl : v_2.length = p.Weights.length := by rw [hsv, Zma]
    have hsv2 := hsv
    rw [hiv] at hsv
    have hbi := Zjj (l := v_2) (by omega)
    refine x_r [(1, .call [(false, .ptr false [slS false p.Labels, Zbg false p.Weights]), (false, slI false v_1)] true (slI true v_2)), (2, .call [(false, slI false v_2)] true (I (Zbk v_2)))] [2, 4, 7, 8, 9] [2, 4] [.ref 2 0, .ref 4 0, slI true v_1, I (Zaw p.Labels s.Label), I (Zbk v_2)] [some (Zag p), some (.box [Zao, Zao])] [Con Tryz.prog 58 [.ptr false [slS false p.Labels, Zbg false p.Weights], slI false v_1] true (slI true v_2) ∧ ((false = true → true = true) ∧ AV.idsL [slS false p.Labels, Zbg false p.Weights] = [] ∧ ((false = true → false = true) ∧ 1 = 1 ∧ p.Labels.length = p.Labels.length ∧ ∀ i_, i_ < p.Labels.length → (fS p.Labels) i_ = (fS p.Labels) i_ ∨ (AV.idsL ((fS p.Labels) i_) = [] ∧ leL (fun _ => none) false ((fS p.Labels) i_) ((fS p.Labels) i_))) ∧ ((false = true → false = true) ∧ 1 = 1 ∧ p.Weights.length = p.Weights.length ∧ ∀ i_, i_ < p.Weights.length → (fLI false p.Weights) i_ = (fLI false p.Weights) i_ ∨ (AV.idsL ((fLI false p.Weights) i_) = [] ∧ leL (fun _ => none) false ((fLI false p.Weights) i_) ((fLI false p.Weights) i_))) ∧ ([] : List AV) = []) ∧ ((false = true → true = true) ∧ 1 = 1 ∧ v_1.length = v_1.length ∧ ∀ i_, i_ < v_1.length → (fI v_1) i_ = (fI v_1) i_ ∨ (AV.idsL ((fI v_1) i_) = [] ∧ leL (fun _ => none) false ((fI v_1) i_) ((fI v_1) i_))) ∧ True, Con Tryz.prog 57 [slI false v_2] true (I (Zbk v_2)) ∧ ((false = true → true = true) ∧ 1 = 1 ∧ v_2.length = v_2.length ∧ ∀ i_, i_ < v_2.length → (fI v_2) i_ = (fI v_2) i_ ∨ (AV.idsL ((fI v_2) i_) = [] ∧ leL (fun _ => none) false ((fI v_2) i_) ((fI v_2) i_))) ∧ True] ⟨⟨hc2, ⟨(fun h => by cases h), rfl, ⟨⟨(fun h => by cases h), rfl, rfl, fun i _ => .inl rfl⟩, ⟨⟨(fun h => by cases h), rfl, rfl, fun i _ => .inl rfl⟩, rfl⟩⟩⟩, ⟨(fun h => by cases h), rfl, rfl, fun i _ => .inl rfl⟩, trivial⟩, ⟨(Zzz v_2 (by omega)), ⟨(fun h => by cases h), rfl, rfl, fun i _ => .inl rfl⟩, trivial⟩, trivial⟩ ?_
    refine Zab ?_
    refine Zap ?_
    refine Zcz [] (T := [(2, .ptr true [slS false p.Labels, Zbg false p.Weights]), (4, .ref 4 0), (7, slI true v_1), (8, I (Zaw p.Labels s.Label)), (9, I (Zbk v_2))]) (O := [(4, .box [Zao, Zao])]) rfl (⟨.inr ⟨(fun _ => rfl), rfl, ⟨⟨(fun h => by cases h), rfl, rfl, fun i _ => .inl rfl⟩, ⟨⟨(fun h => by cases h), rfl, rfl, fun i _ => .inl rfl⟩, rfl⟩⟩⟩, .inl rfl, .inl rfl, .inl rfl, .inl rfl, trivial⟩) (⟨.inl rfl, trivial⟩) ?_
    obtain ⟨ls_3, ws_3, hx3_0, hx3_1, hc3⟩ := Zuv p (Ydn hp)
    have hls := hx3_0
    have how := hx3_1
    refine x_r [(0, .lend [] [(9201, tAS ls_3), (9202, Zbv 9203 ws_3), (9203, Zbm ws_3)] [(false, .ptr false [slS false p.Labels, Zbg false p.Weights])] false (.agg [.arr 9201, .arr 9202])), (1, .new 10)] [4, 7, 8, 9, 10] [4, 10, 9201, 9202, 9203] [.ref 4 0, slI true v_1, I (Zaw p.Labels s.Label), I (Zbk v_2), .ref 10 0] [some (.box [Zao, Zao]), some (.box [.arr 9201, .arr 9202]), some (tAS ls_3), some (Zbv 9203 ws_3), some (Zbm ws_3)] [Zaz Tryz.prog 59 [.ptr false [slS false p.Labels, Zbg false p.Weights]] (Zaf []) false (.agg [.arr 9201, .arr 9202]) (Zaf [(9201, tAS ls_3), (9202, Zbv 9203 ws_3), (9203, Zbm ws_3)]) ∧ ((false = true → true = true) ∧ AV.idsL [slS false p.Labels, Zbg false p.Weights] = [] ∧ ((false = true → false = true) ∧ 1 = 1 ∧ p.Labels.length = p.Labels.length ∧ ∀ i_, i_ < p.Labels.length → (fS p.Labels) i_ = (fS p.Labels) i_ ∨ (AV.idsL ((fS p.Labels) i_) = [] ∧ leL (fun _ => none) false ((fS p.Labels) i_) ((fS p.Labels) i_))) ∧ ((false = true → false = true) ∧ 1 = 1 ∧ p.Weights.length = p.Weights.length ∧ ∀ i_, i_ < p.Weights.length → (fLI false p.Weights) i_ = (fLI false p.Weights) i_ ∨ (AV.idsL ((fLI false p.Weights) i_) = [] ∧ leL (fun _ => none) false ((fLI false p.Weights) i_) ((fLI false p.Weights) i_))) ∧ ([] : List AV) = []) ∧ True] ⟨⟨hc3, ⟨(fun h => by cases h), rfl, ⟨⟨(fun h => by cases h), rfl, rfl, fun i _ => .inl rfl⟩, ⟨⟨(fun h => by cases h), rfl, rfl, fun i _ => .inl rfl⟩, rfl⟩⟩⟩, trivial⟩, trivial⟩ ?_
    refine Zab ?_
    refine Zap ?_
    refine Zap ?_
    by_cases h1 : (Zbk v_2) = (Zaw p.Labels s.Label)
    ·have heq : Zbk (scR p.Weights (Zed s.Feats)) = Zaw p.Labels s.Label := by rw [← hsv]; exact h1
     refine x_r [(2, .dec true)] [4, 7, 8, 9, 10, 28] [4, 10, 9201, 9202, 9203] [.ref 4 0, slI true v_1, I (Zaw p.Labels s.Label), I (Zbk v_2), .ref 10 0, Bv true] [some (.box [Zao, Zao]), some (.box [.arr 9201, .arr 9202]), some (tAS ls_3), some (Zbv 9203 ws_3), some (Zbm ws_3)] [(Zbk v_2) = (Zaw p.Labels s.Label)] ⟨h1, trivial⟩ ?_
     refine Zab ?_
     refine Zbq rfl ?_
     refine xR [] [4, 5, 6] [4, 9201, 9202, 9203] [.ref 4 0, Bv false, I 0] [some (.box [.arr 9201, .arr 9202]), some (tAS ls_3), some (Zbv 9203 ws_3), some (Zbm ws_3)] [] trivial ?_
     refine Zcf ?_
     refine Zbd ?_
     refine Zcx [(9211, 9201), (9212, 9202)] (T := [(4, .ref 4 0), (5, Bv false), (6, I 0)]) (O := [(4, .box [.arr 9211, .arr 9212]), (9203, Zbm ws_3), (9211, tAS ls_3), (9212, Zbv 9203 ws_3)]) rfl (⟨.inl rfl, .inl rfl, .inl rfl, trivial⟩) (⟨.inl rfl, .inl rfl, .inl rfl, .inl rfl, trivial⟩) ?_
     refine Zbn (false, 0, ls_3, ws_3) (show ((Perceptron.mk ls_3 ws_3, false, 0) = Zdv p s) ∧ (True) from ⟨(by first | (rw [Zjz heq, hls, how]; done) | (rw [Zlb heq hok3, hls, hws2]; done) | exact (Zmn heq (by rw [hok3]; exact Bool.false_ne_true)).symm), trivial⟩) (⟨.inl rfl, .inl rfl, .inl rfl, trivial⟩) (.tup [.agg [.arr 9211, .arr 9212], Bv false, I 0]) (by kernel_rfl) (.inl rfl) (fun h => by cases h) (fun h => by cases h)
    have heq : ¬ (Zbk (scR p.Weights (Zed s.Feats)) = Zaw p.Labels s.Label) := by rw [← hsv]; exact h1
    have hne : (Zaw p.Labels s.Label).toNat ≠ (Zbk v_2).toNat := by omega
    refine x_r [(2, .dec false)] [4, 7, 8, 9, 10, 28] [4, 10, 9201, 9202, 9203] [.ref 4 0, slI true v_1, I (Zaw p.Labels s.Label), I (Zbk v_2), .ref 10 0, Bv false] [some (.box [Zao, Zao]), some (.box [.arr 9201, .arr 9202]), some (tAS ls_3), some (Zbv 9203 ws_3), some (Zbm ws_3)] [¬ ((Zbk v_2) = (Zaw p.Labels s.Label))] ⟨h1, trivial⟩ ?_
    refine Zab ?_
    refine Zbe rfl ?_
    refine Zca ?_
    refine Zab ?_
    refine Zap ?_
    refine xR [] [4, 7, 8, 9, 10, 11] [4, 10, 9201, 9202, 9203] [.ref 4 0, slI true v_1, I (Zaw p.Labels s.Label), I (Zbk v_2), .ref 10 0, I 0] [some (.box [Zao, Zao]), some (.box [.arr 9201, .arr 9202]), some (tAS ls_3), some (Zbv 9203 ws_3), some (Zbm ws_3)] [] trivial ?_
    refine Zbz ?_
    refine Zeh (X := Int × (List (List Int))) (fun x => mkS [(4, .ref 4 0), (7, slI true v_1), (8, I (Zaw p.Labels s.Label)), (9, I (Zbk v_2)), (10, .ref 10 0), (11, I x.1)] [(4, .box [Zao, Zao]), (10, .box [.arr 9201, .arr 9202]), (9201, tAS ls_3), (9202, Zbv 9203 x.2), (9203, Zbm x.2)]) (fun x => (0 ≤ x.1 ∧ x.1 ≤ 25) ∧ (x.2 = Zgi p.Weights v_1 (Zaw p.Labels s.Label).toNat (Zbk v_2).toNat x.1.toNat) ∧ True) (fun x => ((25 : Int) - x.1).toNat) (0, ws_3) rfl (show (0 ≤ (0 : Int) ∧ (0 : Int) ≤ 25) ∧ (ws_3 = Zgi p.Weights v_1 (Zaw p.Labels s.Label).toNat (Zbk v_2).toNat (0 : Int).toNat) ∧ True from ⟨(by omega), (by exact how), trivial⟩) (fun x hI => ?_)
    obtain ⟨k, ws⟩ := x
    obtain ⟨hk0, hws, _⟩ : (0 ≤ k ∧ k ≤ 25) ∧ (ws = Zgi p.Weights v_1 (Zaw p.Labels s.Label).toNat (Zbk v_2).toNat k.toNat) ∧ True := hI
    show XW _ _ _ _ (mkS [(4, .ref 4 0), (7, slI true v_1), (8, I (Zaw p.Labels s.Label)), (9, I (Zbk v_2)), (10, .ref 10 0), (11, I k)] [(4, .box [Zao, Zao]), (10, .box [.arr 9201, .arr 9202]), (9201, tAS ls_3), (9202, Zbv 9203 ws), (9203, Zbm ws)]) _ _
    refine Zap ?_
    refine Zap ?_
    by_cases h2 : k < (v_1.length : Int)
    ·have hk : k.toNat < 25 := by omega
     have hwl : ws.length = p.Weights.length := by rw [hws, Zlh]
     have hrW : (at_ ws (Zaw p.Labels s.Label).toNat).length = 25 := by rw [hws, Zig]; exact (Zcu hq.2.2 (by omega)).1
     have hrG : (at_ ws (Zbk v_2).toNat).length = 25 := by rw [hws, Zig]; exact (Zcu hq.2.2 (by omega)).1
     have hbW : -1000512 ≤ at_ (at_ ws (Zaw p.Labels s.Label).toNat) k.toNat ∧ at_ (at_ ws (Zaw p.Labels s.Label).toNat) k.toNat ≤ 1000512 := by rw [hws]; exact Zys hp hinp.1 (by omega) (by omega) hne (by omega) (by omega) hk
     have hbG : -1000512 ≤ at_ (at_ ws (Zbk v_2).toNat) k.toNat ∧ at_ (at_ ws (Zbk v_2).toNat) k.toNat ≤ 1000512 := by rw [hws]; exact Zys hp hinp.1 (by omega) (by omega) hne (by omega) (by omega) hk
     have hxk := hinp.1 k.toNat
     refine x_r [(3, .dec true)] [4, 7, 8, 9, 10, 11, 33] [4, 10, 9201, 9202, 9203] [.ref 4 0, slI true v_1, I (Zaw p.Labels s.Label), I (Zbk v_2), .ref 10 0, I k, Bv true] [some (.box [Zao, Zao]), some (.box [.arr 9201, .arr 9202]), some (tAS ls_3), some (Zbv 9203 ws), some (Zbm ws)] [k < (v_1.length : Int)] ⟨h2, trivial⟩ ?_
     refine Zab ?_
     refine Zbq rfl ?_
     refine Zca ?_
     refine Zab ?_
     refine Zap ?_
     refine Zbz ?_
     refine xR [] [4, 7, 8, 9, 10, 11] [4, 10, 9201, 9202, 9203] [.ref 4 0, slI true v_1, I (Zaw p.Labels s.Label), I (Zbk v_2), .ref 10 0, I k] [some (.box [Zao, Zao]), some (.box [.arr 9201, .arr 9202]), some (tAS ls_3), some (Zbv 9203 ws), some (.fam ws.length 1 (mLI ws) (fun q => bif Nat.beq q ((Zaw p.Labels s.Label).toNat) then (fun q => bif Nat.beq q k.toNat then [I ((at_ (at_ ws ((Zaw p.Labels s.Label).toNat)) k.toNat) + (at_ v_1 k.toNat))] else (gLI ws) ((Zaw p.Labels s.Label).toNat) q) else (gLI ws) q))] [(0 : Int) ≤ (Zaw p.Labels s.Label) ∧ (Zaw p.Labels s.Label) < (ws.length : Int), (Zaw p.Labels s.Label).toNat < ws.length, ((Zaw p.Labels s.Label).toNat) < ws.length ∧ (0 : Int) ≤ k ∧ k < (((at_ ws ((Zaw p.Labels s.Label).toNat)).length) : Int), ((Zaw p.Labels s.Label).toNat) < ws.length ∧ k.toNat < (at_ ws ((Zaw p.Labels s.Label).toNat)).length, (0 : Int) ≤ k ∧ k < (v_1.length : Int), inR .i64 ((at_ (at_ ws ((Zaw p.Labels s.Label).toNat)) k.toNat) + (at_ v_1 k.toNat)), ((Zaw p.Labels s.Label).toNat) < ws.length ∧ (0 : Int) ≤ k ∧ k < (((at_ ws ((Zaw p.Labels s.Label).toNat)).length) : Int), ((Zaw p.Labels s.Label).toNat) < ws.length ∧ k.toNat < (at_ ws ((Zaw p.Labels s.Label).toNat)).length] ⟨⟨(by omega), (by omega)⟩, (by omega), ⟨(by omega), (by omega), (by omega)⟩, ⟨(by omega), (by omega)⟩, ⟨(by omega), (by omega)⟩, (Zam (by omega) (by omega)), ⟨(by omega), (by omega), (by omega)⟩, ⟨(by omega), (by omega)⟩, trivial⟩ ?_
     refine Zcz [] (T := [(4, .ref 4 0), (7, slI true v_1), (8, I (Zaw p.Labels s.Label)), (9, I (Zbk v_2)), (10, .ref 10 0), (11, I k)]) (O := [(4, .box [Zao, Zao]), (10, .box [.arr 9201, .arr 9202]), (9201, tAS ls_3), (9202, Zbv 9203 (ws.set ((Zaw p.Labels s.Label).toNat) ((at_ ws ((Zaw p.Labels s.Label).toNat)).set k.toNat ((at_ (at_ ws ((Zaw p.Labels s.Label).toNat)) k.toNat) + (at_ v_1 k.toNat))))), (9203, Zbm (ws.set ((Zaw p.Labels s.Label).toNat) ((at_ ws ((Zaw p.Labels s.Label).toNat)).set k.toNat ((at_ (at_ ws ((Zaw p.Labels s.Label).toNat)) k.toNat) + (at_ v_1 k.toNat)))))]) rfl (⟨.inl rfl, .inl rfl, .inl rfl, .inl rfl, .inl rfl, .inl rfl, trivial⟩) (⟨.inl rfl, .inl rfl, .inl rfl, .inr ⟨rfl, rfl, (by first | rfl | (simp; done) | omega), fun i_ hi_ => .inl (Zuq 9203 ((Zaw p.Labels s.Label).toNat) ws ((at_ ws ((Zaw p.Labels s.Label).toNat)).set k.toNat ((at_ (at_ ws ((Zaw p.Labels s.Label).toNat)) k.toNat) + (at_ v_1 k.toNat))) i_)⟩, .inr (Zup (P := (Zaw p.Labels s.Label).toNat) (k := k.toNat) ((by omega)) ((by omega)) (by simp only [Nat.beq_refl, cond_true]; try rfl) (by intro i hi; simp only [Nat.beq_refl, cond_true, Zjm hi, cond_false]; try rfl) (by intro p hp; simp only [Zjm hp, cond_false])), trivial⟩) ?_
     refine x_r [] [4, 7, 8, 9, 10, 11] [4, 10, 9201, 9202, 9203] [.ref 4 0, slI true v_1, I (Zaw p.Labels s.Label), I (Zbk v_2), .ref 10 0, I k] [some (.box [Zao, Zao]), some (.box [.arr 9201, .arr 9202]), some (tAS ls_3), some (Zbv 9203 (ws.set ((Zaw p.Labels s.Label).toNat) ((at_ ws ((Zaw p.Labels s.Label).toNat)).set k.toNat ((at_ (at_ ws ((Zaw p.Labels s.Label).toNat)) k.toNat) + (at_ v_1 k.toNat))))), some (.fam (ws.set ((Zaw p.Labels s.Label).toNat) ((at_ ws ((Zaw p.Labels s.Label).toNat)).set k.toNat ((at_ (at_ ws ((Zaw p.Labels s.Label).toNat)) k.toNat) + (at_ v_1 k.toNat)))).length 1 (mLI (ws.set ((Zaw p.Labels s.Label).toNat) ((at_ ws ((Zaw p.Labels s.Label).toNat)).set k.toNat ((at_ (at_ ws ((Zaw p.Labels s.Label).toNat)) k.toNat) + (at_ v_1 k.toNat))))) (fun q => bif Nat.beq q ((Zbk v_2).toNat) then (fun q => bif Nat.beq q k.toNat then [I ((at_ (at_ (ws.set ((Zaw p.Labels s.Label).toNat) ((at_ ws ((Zaw p.Labels s.Label).toNat)).set k.toNat ((at_ (at_ ws ((Zaw p.Labels s.Label).toNat)) k.toNat) + (at_ v_1 k.toNat)))) ((Zbk v_2).toNat)) k.toNat) - (at_ v_1 k.toNat))] else (gLI (ws.set ((Zaw p.Labels s.Label).toNat) ((at_ ws ((Zaw p.Labels s.Label).toNat)).set k.toNat ((at_ (at_ ws ((Zaw p.Labels s.Label).toNat)) k.toNat) + (at_ v_1 k.toNat))))) ((Zbk v_2).toNat) q) else (gLI (ws.set ((Zaw p.Labels s.Label).toNat) ((at_ ws ((Zaw p.Labels s.Label).toNat)).set k.toNat ((at_ (at_ ws ((Zaw p.Labels s.Label).toNat)) k.toNat) + (at_ v_1 k.toNat))))) q))] [(0 : Int) ≤ (Zbk v_2) ∧ (Zbk v_2) < (((ws.set ((Zaw p.Labels s.Label).toNat) ((at_ ws ((Zaw p.Labels s.Label).toNat)).set k.toNat ((at_ (at_ ws ((Zaw p.Labels s.Label).toNat)) k.toNat) + (at_ v_1 k.toNat)))).length : Nat) : Int), (Zbk v_2).toNat < (ws.set ((Zaw p.Labels s.Label).toNat) ((at_ ws ((Zaw p.Labels s.Label).toNat)).set k.toNat ((at_ (at_ ws ((Zaw p.Labels s.Label).toNat)) k.toNat) + (at_ v_1 k.toNat)))).length, ((Zbk v_2).toNat) < (ws.set ((Zaw p.Labels s.Label).toNat) ((at_ ws ((Zaw p.Labels s.Label).toNat)).set k.toNat ((at_ (at_ ws ((Zaw p.Labels s.Label).toNat)) k.toNat) + (at_ v_1 k.toNat)))).length ∧ (0 : Int) ≤ k ∧ k < (((at_ (ws.set ((Zaw p.Labels s.Label).toNat) ((at_ ws ((Zaw p.Labels s.Label).toNat)).set k.toNat ((at_ (at_ ws ((Zaw p.Labels s.Label).toNat)) k.toNat) + (at_ v_1 k.toNat)))) ((Zbk v_2).toNat)).length) : Int), ((Zbk v_2).toNat) < (ws.set ((Zaw p.Labels s.Label).toNat) ((at_ ws ((Zaw p.Labels s.Label).toNat)).set k.toNat ((at_ (at_ ws ((Zaw p.Labels s.Label).toNat)) k.toNat) + (at_ v_1 k.toNat)))).length ∧ k.toNat < (at_ (ws.set ((Zaw p.Labels s.Label).toNat) ((at_ ws ((Zaw p.Labels s.Label).toNat)).set k.toNat ((at_ (at_ ws ((Zaw p.Labels s.Label).toNat)) k.toNat) + (at_ v_1 k.toNat)))) ((Zbk v_2).toNat)).length, (0 : Int) ≤ k ∧ k < (v_1.length : Int), inR .i64 ((at_ (at_ (ws.set ((Zaw p.Labels s.Label).toNat) ((at_ ws ((Zaw p.Labels s.Label).toNat)).set k.toNat ((at_ (at_ ws ((Zaw p.Labels s.Label).toNat)) k.toNat) + (at_ v_1 k.toNat)))) ((Zbk v_2).toNat)) k.toNat) - (at_ v_1 k.toNat)), ((Zbk v_2).toNat) < (ws.set ((Zaw p.Labels s.Label).toNat) ((at_ ws ((Zaw p.Labels s.Label).toNat)).set k.toNat ((at_ (at_ ws ((Zaw p.Labels s.Label).toNat)) k.toNat) + (at_ v_1 k.toNat)))).length ∧ (0 : Int) ≤ k ∧ k < (((at_ (ws.set ((Zaw p.Labels s.Label).toNat) ((at_ ws ((Zaw p.Labels s.Label).toNat)).set k.toNat ((at_ (at_ ws ((Zaw p.Labels s.Label).toNat)) k.toNat) + (at_ v_1 k.toNat)))) ((Zbk v_2).toNat)).length) : Int), ((Zbk v_2).toNat) < (ws.set ((Zaw p.Labels s.Label).toNat) ((at_ ws ((Zaw p.Labels s.Label).toNat)).set k.toNat ((at_ (at_ ws ((Zaw p.Labels s.Label).toNat)) k.toNat) + (at_ v_1 k.toNat)))).length ∧ k.toNat < (at_ (ws.set ((Zaw p.Labels s.Label).toNat) ((at_ ws ((Zaw p.Labels s.Label).toNat)).set k.toNat ((at_ (at_ ws ((Zaw p.Labels s.Label).toNat)) k.toNat) + (at_ v_1 k.toNat)))) ((Zbk v_2).toNat)).length] ⟨⟨(by first | omega | (rw [Zav (by rw [List.length_set])]; omega) | (simp only [List.length_set]; omega) | ((try simp only [List.length_set]); rw [Zav (by rw [List.length_set])]; omega)), (by first | omega | (rw [Zav (by rw [List.length_set])]; omega) | (simp only [List.length_set]; omega) | ((try simp only [List.length_set]); rw [Zav (by rw [List.length_set])]; omega))⟩, (by first | omega | (rw [Zav (by rw [List.length_set])]; omega) | (simp only [List.length_set]; omega) | ((try simp only [List.length_set]); rw [Zav (by rw [List.length_set])]; omega)), ⟨(by first | omega | (rw [Zav (by rw [List.length_set])]; omega) | (simp only [List.length_set]; omega) | ((try simp only [List.length_set]); rw [Zav (by rw [List.length_set])]; omega)), (by omega), (by first | omega | (rw [Zav (by rw [List.length_set])]; omega) | (simp only [List.length_set]; omega) | ((try simp only [List.length_set]); rw [Zav (by rw [List.length_set])]; omega))⟩, ⟨(by first | omega | (rw [Zav (by rw [List.length_set])]; omega) | (simp only [List.length_set]; omega) | ((try simp only [List.length_set]); rw [Zav (by rw [List.length_set])]; omega)), (by first | omega | (rw [Zav (by rw [List.length_set])]; omega) | (simp only [List.length_set]; omega) | ((try simp only [List.length_set]); rw [Zav (by rw [List.length_set])]; omega))⟩, ⟨(by omega), (by omega)⟩, (by simp only [Zil]; (repeat split) <;> exact Zam (by omega) (by omega)), ⟨(by first | omega | (rw [Zav (by rw [List.length_set])]; omega) | (simp only [List.length_set]; omega) | ((try simp only [List.length_set]); rw [Zav (by rw [List.length_set])]; omega)), (by omega), (by first | omega | (rw [Zav (by rw [List.length_set])]; omega) | (simp only [List.length_set]; omega) | ((try simp only [List.length_set]); rw [Zav (by rw [List.length_set])]; omega))⟩, ⟨(by first | omega | (rw [Zav (by rw [List.length_set])]; omega) | (simp only [List.length_set]; omega) | ((try simp only [List.length_set]); rw [Zav (by rw [List.length_set])]; omega)), (by first | omega | (rw [Zav (by rw [List.length_set])]; omega) | (simp only [List.length_set]; omega) | ((try simp only [List.length_set]); rw [Zav (by rw [List.length_set])]; omega))⟩, trivial⟩ ?_
     refine Zbr 1 ?_
     refine Zab ?_
     refine Zcz [] (T := [(4, .ref 4 0), (7, slI true v_1), (8, I (Zaw p.Labels s.Label)), (9, I (Zbk v_2)), (10, .ref 10 0), (11, I k)]) (O := [(4, .box [Zao, Zao]), (10, .box [.arr 9201, .arr 9202]), (9201, tAS ls_3), (9202, Zbv 9203 ((ws.set ((Zaw p.Labels s.Label).toNat) ((at_ ws ((Zaw p.Labels s.Label).toNat)).set k.toNat ((at_ (at_ ws ((Zaw p.Labels s.Label).toNat)) k.toNat) + (at_ v_1 k.toNat)))).set ((Zbk v_2).toNat) ((at_ (ws.set ((Zaw p.Labels s.Label).toNat) ((at_ ws ((Zaw p.Labels s.Label).toNat)).set k.toNat ((at_ (at_ ws ((Zaw p.Labels s.Label).toNat)) k.toNat) + (at_ v_1 k.toNat)))) ((Zbk v_2).toNat)).set k.toNat ((at_ (at_ (ws.set ((Zaw p.Labels s.Label).toNat) ((at_ ws ((Zaw p.Labels s.Label).toNat)).set k.toNat ((at_ (at_ ws ((Zaw p.Labels s.Label).toNat)) k.toNat) + (at_ v_1 k.toNat)))) ((Zbk v_2).toNat)) k.toNat) - (at_ v_1 k.toNat))))), (9203, Zbm ((ws.set ((Zaw p.Labels s.Label).toNat) ((at_ ws ((Zaw p.Labels s.Label).toNat)).set k.toNat ((at_ (at_ ws ((Zaw p.Labels s.Label).toNat)) k.toNat) + (at_ v_1 k.toNat)))).set ((Zbk v_2).toNat) ((at_ (ws.set ((Zaw p.Labels s.Label).toNat) ((at_ ws ((Zaw p.Labels s.Label).toNat)).set k.toNat ((at_ (at_ ws ((Zaw p.Labels s.Label).toNat)) k.toNat) + (at_ v_1 k.toNat)))) ((Zbk v_2).toNat)).set k.toNat ((at_ (at_ (ws.set ((Zaw p.Labels s.Label).toNat) ((at_ ws ((Zaw p.Labels s.Label).toNat)).set k.toNat ((at_ (at_ ws ((Zaw p.Labels s.Label).toNat)) k.toNat) + (at_ v_1 k.toNat)))) ((Zbk v_2).toNat)) k.toNat) - (at_ v_1 k.toNat)))))]) rfl (⟨.inl rfl, .inl rfl, .inl rfl, .inl rfl, .inl rfl, .inl rfl, trivial⟩) (⟨.inl rfl, .inl rfl, .inl rfl, .inr ⟨rfl, rfl, (by first | rfl | (simp; done) | omega), fun i_ hi_ => .inl (Zuq 9203 ((Zbk v_2).toNat) (ws.set ((Zaw p.Labels s.Label).toNat) ((at_ ws ((Zaw p.Labels s.Label).toNat)).set k.toNat ((at_ (at_ ws ((Zaw p.Labels s.Label).toNat)) k.toNat) + (at_ v_1 k.toNat)))) ((at_ (ws.set ((Zaw p.Labels s.Label).toNat) ((at_ ws ((Zaw p.Labels s.Label).toNat)).set k.toNat ((at_ (at_ ws ((Zaw p.Labels s.Label).toNat)) k.toNat) + (at_ v_1 k.toNat)))) ((Zbk v_2).toNat)).set k.toNat ((at_ (at_ (ws.set ((Zaw p.Labels s.Label).toNat) ((at_ ws ((Zaw p.Labels s.Label).toNat)).set k.toNat ((at_ (at_ ws ((Zaw p.Labels s.Label).toNat)) k.toNat) + (at_ v_1 k.toNat)))) ((Zbk v_2).toNat)) k.toNat) - (at_ v_1 k.toNat))) i_)⟩, .inr (Zup (P := (Zbk v_2).toNat) (k := k.toNat) ((by first | omega | (rw [Zav (by rw [List.length_set])]; omega) | (simp only [List.length_set]; omega) | ((try simp only [List.length_set]); rw [Zav (by rw [List.length_set])]; omega))) ((by first | omega | (rw [Zav (by rw [List.length_set])]; omega) | (simp only [List.length_set]; omega) | ((try simp only [List.length_set]); rw [Zav (by rw [List.length_set])]; omega))) (by simp only [Nat.beq_refl, cond_true]; try rfl) (by intro i hi; simp only [Nat.beq_refl, cond_true, Zjm hi, cond_false]; try rfl) (by intro p hp; simp only [Zjm hp, cond_false])), trivial⟩) ?_
     refine x_r [] [4, 7, 8, 9, 10, 11] [4, 10, 9201, 9202, 9203] [.ref 4 0, slI true v_1, I (Zaw p.Labels s.Label), I (Zbk v_2), .ref 10 0, I (k + 1)] [some (.box [Zao, Zao]), some (.box [.arr 9201, .arr 9202]), some (tAS ls_3), some (Zbv 9203 ((ws.set ((Zaw p.Labels s.Label).toNat) ((at_ ws ((Zaw p.Labels s.Label).toNat)).set k.toNat ((at_ (at_ ws ((Zaw p.Labels s.Label).toNat)) k.toNat) + (at_ v_1 k.toNat)))).set ((Zbk v_2).toNat) ((at_ (ws.set ((Zaw p.Labels s.Label).toNat) ((at_ ws ((Zaw p.Labels s.Label).toNat)).set k.toNat ((at_ (at_ ws ((Zaw p.Labels s.Label).toNat)) k.toNat) + (at_ v_1 k.toNat)))) ((Zbk v_2).toNat)).set k.toNat ((at_ (at_ (ws.set ((Zaw p.Labels s.Label).toNat) ((at_ ws ((Zaw p.Labels s.Label).toNat)).set k.toNat ((at_ (at_ ws ((Zaw p.Labels s.Label).toNat)) k.toNat) + (at_ v_1 k.toNat)))) ((Zbk v_2).toNat)) k.toNat) - (at_ v_1 k.toNat))))), some (Zbm ((ws.set ((Zaw p.Labels s.Label).toNat) ((at_ ws ((Zaw p.Labels s.Label).toNat)).set k.toNat ((at_ (at_ ws ((Zaw p.Labels s.Label).toNat)) k.toNat) + (at_ v_1 k.toNat)))).set ((Zbk v_2).toNat) ((at_ (ws.set ((Zaw p.Labels s.Label).toNat) ((at_ ws ((Zaw p.Labels s.Label).toNat)).set k.toNat ((at_ (at_ ws ((Zaw p.Labels s.Label).toNat)) k.toNat) + (at_ v_1 k.toNat)))) ((Zbk v_2).toNat)).set k.toNat ((at_ (at_ (ws.set ((Zaw p.Labels s.Label).toNat) ((at_ ws ((Zaw p.Labels s.Label).toNat)).set k.toNat ((at_ (at_ ws ((Zaw p.Labels s.Label).toNat)) k.toNat) + (at_ v_1 k.toNat)))) ((Zbk v_2).toNat)) k.toNat) - (at_ v_1 k.toNat)))))] [inR .i64 (k + 1)] ⟨(Zam (by omega) (by omega)), trivial⟩ ?_
     exact Zcj ((k + 1), ((ws.set ((Zaw p.Labels s.Label).toNat) ((at_ ws ((Zaw p.Labels s.Label).toNat)).set k.toNat ((at_ (at_ ws ((Zaw p.Labels s.Label).toNat)) k.toNat) + (at_ v_1 k.toNat)))).set ((Zbk v_2).toNat) ((at_ (ws.set ((Zaw p.Labels s.Label).toNat) ((at_ ws ((Zaw p.Labels s.Label).toNat)).set k.toNat ((at_ (at_ ws ((Zaw p.Labels s.Label).toNat)) k.toNat) + (at_ v_1 k.toNat)))) ((Zbk v_2).toNat)).set k.toNat ((at_ (at_ (ws.set ((Zaw p.Labels s.Label).toNat) ((at_ ws ((Zaw p.Labels s.Label).toNat)).set k.toNat ((at_ (at_ ws ((Zaw p.Labels s.Label).toNat)) k.toNat) + (at_ v_1 k.toNat)))) ((Zbk v_2).toNat)) k.toNat) - (at_ v_1 k.toNat))))) rfl (show (0 ≤ (k + 1) ∧ (k + 1) ≤ 25) ∧ (((ws.set ((Zaw p.Labels s.Label).toNat) ((at_ ws ((Zaw p.Labels s.Label).toNat)).set k.toNat ((at_ (at_ ws ((Zaw p.Labels s.Label).toNat)) k.toNat) + (at_ v_1 k.toNat)))).set ((Zbk v_2).toNat) ((at_ (ws.set ((Zaw p.Labels s.Label).toNat) ((at_ ws ((Zaw p.Labels s.Label).toNat)).set k.toNat ((at_ (at_ ws ((Zaw p.Labels s.Label).toNat)) k.toNat) + (at_ v_1 k.toNat)))) ((Zbk v_2).toNat)).set k.toNat ((at_ (at_ (ws.set ((Zaw p.Labels s.Label).toNat) ((at_ ws ((Zaw p.Labels s.Label).toNat)).set k.toNat ((at_ (at_ ws ((Zaw p.Labels s.Label).toNat)) k.toNat) + (at_ v_1 k.toNat)))) ((Zbk v_2).toNat)) k.toNat) - (at_ v_1 k.toNat)))) = Zgi p.Weights v_1 (Zaw p.Labels s.Label).toNat (Zbk v_2).toNat (k + 1).toNat) ∧ True from ⟨(by omega), (by rw [updW_1 hk0.1, ← hws]), trivial⟩) (by first | (show (((25 : Int) - (k + 1)).toNat : Nat) < ((25 : Int) - k).toNat; omega) | (dsimp only; omega))
    have hie : k.toNat = 25 := by omega
    rw [hie] at hws
    have hws2 := hws
    rw [hiv, hsv] at hws2
    refine x_r [(3, .dec false)] [4, 7, 8, 9, 10, 11, 33] [4, 10, 9201, 9202, 9203] [.ref 4 0, slI true v_1, I (Zaw p.Labels s.Label), I (Zbk v_2), .ref 10 0, I k, Bv false] [some (.box [Zao, Zao]), some (.box [.arr 9201, .arr 9202]), some (tAS ls_3), some (Zbv 9203 ws), some (Zbm ws)] [¬ (k < (v_1.length : Int))] ⟨h2, trivial⟩ ?_
    refine Zab ?_
    refine Zbe rfl ?_
    refine Zeg ?_
    refine Zbs ?_
    refine Zbu ?_
    refine Zbt ?_
    refine Zab ?_
    refine Zap ?_
    refine Zap ?_
    rcases Bool.eq_false_or_eq_true (Zbb (Perceptron.mk ls_3 ws)) with h3 | h3
    ·have hok3 := h3
     rw [hls, hws2] at hok3
     refine x_r [(0, .call [(false, .ptr false [slS false ls_3, Zbg false ws])] true (Bv true))] [4, 10, 65] [4, 10, 9201, 9202, 9203] [.ref 4 0, .ref 10 0, Bv false] [some (.box [Zao, Zao]), some (.box [.arr 9201, .arr 9202]), some (tAS ls_3), some (Zbv 9203 ws), some (Zbm ws)] [Con Tryz.prog 35 [.ptr false [slS false ls_3, Zbg false ws]] true (Bv true) ∧ ((false = true → true = true) ∧ AV.idsL [slS false ls_3, Zbg false ws] = [] ∧ ((false = true → true = true) ∧ 1 = 1 ∧ ls_3.length = ls_3.length ∧ ∀ i_, i_ < ls_3.length → (fS ls_3) i_ = (fS ls_3) i_ ∨ (AV.idsL ((fS ls_3) i_) = [] ∧ leL (fun _ => none) false ((fS ls_3) i_) ((fS ls_3) i_))) ∧ ((false = true → true = true) ∧ 1 = 1 ∧ ws.length = ws.length ∧ ∀ i_, i_ < ws.length → AV.idsL ((fLI false ws) i_) = [] ∧ leL (Zaf [(9203, Zbm ws)]) true ((oLI 9203 ws) i_) ((fLI false ws) i_)) ∧ ([] : List AV) = []) ∧ True] ⟨⟨(Zaq h3 (Zew (Perceptron.mk ls_3 ws) (show ∀ y ∈ ls_3, y.size ≤ 9223372036854775807 from by rw [hls]; exact Zno hp))), ⟨(fun h => by cases h), rfl, ⟨⟨(fun h => by cases h), rfl, rfl, fun i _ => .inl rfl⟩, ⟨⟨(fun h => by cases h), rfl, rfl, Zfw _ _ rfl⟩, rfl⟩⟩⟩, trivial⟩, trivial⟩ ?_
     refine Zab ?_
     refine Zbe rfl ?_
     refine Zca ?_
     refine Zab ?_
     refine xR [] [4, 5, 6] [4, 9201, 9202, 9203] [.ref 4 0, Bv true, I 0] [some (.box [.arr 9201, .arr 9202]), some (tAS ls_3), some (Zbv 9203 ws), some (Zbm ws)] [] trivial ?_
     refine Zcf ?_
     refine Zcx [(9211, 9201), (9212, 9202)] (T := [(4, .ref 4 0), (5, Bv true), (6, I 0)]) (O := [(4, .box [.arr 9211, .arr 9212]), (9203, Zbm ws), (9211, tAS ls_3), (9212, Zbv 9203 ws)]) rfl (⟨.inl rfl, .inl rfl, .inl rfl, trivial⟩) (⟨.inl rfl, .inl rfl, .inl rfl, .inl rfl, trivial⟩) ?_
     refine Zbn (true, 0, ls_3, ws) (show ((Perceptron.mk ls_3 ws, true, 0) = Zdv p s) ∧ (True) from ⟨(by first | (rw [Zjz heq, hls, how]; done) | (rw [Zlb heq hok3, hls, hws2]; done) | exact (Zmn heq (by rw [hok3]; exact Bool.false_ne_true)).symm), trivial⟩) (⟨.inl rfl, .inl rfl, .inl rfl, trivial⟩) (.tup [.agg [.arr 9211, .arr 9212], Bv true, I 0]) (by kernel_rfl) (.inl rfl) (fun h => by cases h) (fun h => by cases h)
    have hok3 := h3
    rw [hls, hws2] at hok3
    refine x_r [(0, .call [(false, .ptr false [slS false ls_3, Zbg false ws])] true (Bv false))] [4, 10, 65] [4, 10, 9201, 9202, 9203] [.ref 4 0, .ref 10 0, Bv true] [some (.box [Zao, Zao]), some (.box [.arr 9201, .arr 9202]), some (tAS ls_3), some (Zbv 9203 ws), some (Zbm ws)] [Con Tryz.prog 35 [.ptr false [slS false ls_3, Zbg false ws]] true (Bv false) ∧ ((false = true → true = true) ∧ AV.idsL [slS false ls_3, Zbg false ws] = [] ∧ ((false = true → true = true) ∧ 1 = 1 ∧ ls_3.length = ls_3.length ∧ ∀ i_, i_ < ls_3.length → (fS ls_3) i_ = (fS ls_3) i_ ∨ (AV.idsL ((fS ls_3) i_) = [] ∧ leL (fun _ => none) false ((fS ls_3) i_) ((fS ls_3) i_))) ∧ ((false = true → true = true) ∧ 1 = 1 ∧ ws.length = ws.length ∧ ∀ i_, i_ < ws.length → AV.idsL ((fLI false ws) i_) = [] ∧ leL (Zaf [(9203, Zbm ws)]) true ((oLI 9203 ws) i_) ((fLI false ws) i_)) ∧ ([] : List AV) = []) ∧ True] ⟨⟨(Zaq h3 (Zew (Perceptron.mk ls_3 ws) (show ∀ y ∈ ls_3, y.size ≤ 9223372036854775807 from by rw [hls]; exact Zno hp))), ⟨(fun h => by cases h), rfl, ⟨⟨(fun h => by cases h), rfl, rfl, fun i _ => .inl rfl⟩, ⟨⟨(fun h => by cases h), rfl, rfl, Zfw _ _ rfl⟩, rfl⟩⟩⟩, trivial⟩, trivial⟩ ?_
    refine Zab ?_
    refine Zbq rfl ?_
    refine xR [] [4, 5, 6] [4] [.ref 4 0, Bv false, I 5] [some (.box [Zao, Zao])] [] trivial ?_
    refine Zcf ?_
    refine Zbd ?_
    refine Zre 4 0 9211 1 (fun _ => []) rfl (by kernel_rfl) ?_
    refine Zre 4 1 9212 1 (fun _ => []) rfl (by kernel_rfl) ?_
    refine xe_fam 9203 1 (fun _ => 0) (fun _ _ => []) (by kernel_rfl) ?_
    refine Zcx [] (T := [(4, .ref 4 0), (5, Bv false), (6, I 5)]) (O := [(4, .box [.arr 9211, .arr 9212]), (9203, Zbm ([] : List (List Int))), (9211, tAS ([] : List ByteArray)), (9212, Zbv 9203 ([] : List (List Int)))]) rfl (⟨.inl rfl, .inl rfl, .inl rfl, trivial⟩) (⟨.inl rfl, .inr ⟨rfl, rfl, fun p hp => absurd hp (Nat.not_lt_zero _)⟩, .inr ⟨rfl, (by first | rfl | (simp; done) | (simp; omega) | omega), fun i_ hi_ => absurd hi_ (Nat.not_lt_zero _)⟩, .inr ⟨rfl, rfl, fun i hi => absurd hi (Nat.not_lt_zero _)⟩, trivial⟩) ?_
    refine Zbn (false, 5, ([] : List ByteArray), ([] : List (List Int))) (show ((Perceptron.mk ([] : List ByteArray) ([] : List (List Int)), false, 5) = Zdv p s) ∧ (True) from ⟨(by first | (rw [Zjz heq, hls, how]; done) | (rw [Zlb heq hok3, hls, hws2]; done) | exact (Zmn heq (by rw [hok3]; exact Bool.false_ne_true)).symm), trivial⟩) (⟨.inl rfl, .inl rfl, .inl rfl, trivial⟩) (.tup [.agg [.arr 9211, .arr 9212], Bv false, I 5]) (by kernel_rfl) (.inl rfl) (fun h => by cases h) (fun h => by cases h)
  obtain ⟨⟨ch, c, ls, ws⟩, ⟨hh0, _⟩, hc⟩ := hh
  exact ⟨ch, c, ls, ws, hh0, hc⟩
theorem Zwy (p : Perceptron) (list : List Sample) (hp : Zbb p = true) (hl : ∀ j, j < list.length → (at_ list j).Label ∈ p.Labels ∧ Zbp (at_ list j).Feats 384 = true) (hll : list.length ≤ 1000) : ∃ (n : Int) (c : Int) (ls : List ByteArray) (ws : List (List Int)), ((Perceptron.mk ls ws, n, c) = epR p list list.length) ∧ Zaz Tryz.prog 69 [Zae p, Zaj false list] (Zaf []) false (.tup [.agg [.arr 9221, .arr 9222], I n, I c]) (Zaf [(9221, tAS ls), (9203, Zbm ws), (9222, Zbv 9203 ws)]) := by
  have hh : ∃ r : Int × Int × (List ByteArray) × (List (List Int)), (((Perceptron.mk r.2.2.1 r.2.2.2, r.1, r.2.1) = epR p list list.length) ∧ (True)) ∧ Zaz Tryz.prog 69 [Zae p, Zaj false list] (Zaf []) false (.tup [.agg [.arr 9221, .arr 9222], I r.1, I r.2.1]) (Zaf [(9221, tAS r.2.2.1), (9203, Zbm r.2.2.2), (9222, Zbv 9203 r.2.2.2)]) := by
    refine Zde (Φ := fun r : Int × Int × (List ByteArray) × (List (List Int)) => ((Perceptron.mk r.2.2.1 r.2.2.2, r.1, r.2.1) = epR p list list.length) ∧ (True)) [] (fun r => [(9221, tAS r.2.2.1), (9203, Zbm r.2.2.2), (9222, Zbv 9203 r.2.2.2)]) (fn := Tryz.f69) (nt := 39) Tryz.func69 rfl rfl (args := [Zae p, Zaj false list]) rfl (Zbw (.inl ⟨rfl, by simp [Zak, Zah, Zdd, Zer]⟩) (Zbw (.inl ⟨rfl, Zdq false _⟩) Zdb)) (res := fun r => .tup [.agg [.arr 9221, .arr 9222], I r.1, I r.2.1]) ?_
    refine xR [(0, .new 2), (1, .new 4)] [1, 2, 4] [2, 4] [Zaj false list, .ref 2 0, .ref 4 0] [some (Zag p), some (.box [Zao, Zao])] [] trivial ?_
    refine Zap ?_
    refine Zcz [] (T := [(1, Zaj false list), (2, .ptr true [slS false p.Labels, Zbg false p.Weights]), (4, .ref 4 0)]) (O := [(4, .box [Zao, Zao])]) rfl (⟨.inl rfl, .inr ⟨(fun _ => rfl), rfl, ⟨⟨(fun h => by cases h), rfl, rfl, fun i _ => .inl rfl⟩, ⟨⟨(fun h => by cases h), rfl, rfl, fun i _ => .inl rfl⟩, rfl⟩⟩⟩, .inl rfl, trivial⟩) (⟨.inl rfl, trivial⟩) ?_
    obtain ⟨ls_1, ws_1, hx1_0, hx1_1, hc1⟩ := Zuv p (Ydn hp)
    have hls := hx1_0
    have how := hx1_1
    refine x_r [(0, .lend [] [(9201, tAS ls_1), (9202, Zbv 9203 ws_1), (9203, Zbm ws_1)] [(false, .ptr false [slS false p.Labels, Zbg false p.Weights])] false (.agg [.arr 9201, .arr 9202])), (1, .new 7)] [1, 4, 7] [4, 7, 9201, 9202, 9203] [Zaj false list, .ref 4 0, .ref 7 0] [some (.box [Zao, Zao]), some (.box [.arr 9201, .arr 9202]), some (tAS ls_1), some (Zbv 9203 ws_1), some (Zbm ws_1)] [Zaz Tryz.prog 59 [.ptr false [slS false p.Labels, Zbg false p.Weights]] (Zaf []) false (.agg [.arr 9201, .arr 9202]) (Zaf [(9201, tAS ls_1), (9202, Zbv 9203 ws_1), (9203, Zbm ws_1)]) ∧ ((false = true → true = true) ∧ AV.idsL [slS false p.Labels, Zbg false p.Weights] = [] ∧ ((false = true → false = true) ∧ 1 = 1 ∧ p.Labels.length = p.Labels.length ∧ ∀ i_, i_ < p.Labels.length → (fS p.Labels) i_ = (fS p.Labels) i_ ∨ (AV.idsL ((fS p.Labels) i_) = [] ∧ leL (fun _ => none) false ((fS p.Labels) i_) ((fS p.Labels) i_))) ∧ ((false = true → false = true) ∧ 1 = 1 ∧ p.Weights.length = p.Weights.length ∧ ∀ i_, i_ < p.Weights.length → (fLI false p.Weights) i_ = (fLI false p.Weights) i_ ∨ (AV.idsL ((fLI false p.Weights) i_) = [] ∧ leL (fun _ => none) false ((fLI false p.Weights) i_) ((fLI false p.Weights) i_))) ∧ ([] : List AV) = []) ∧ True] ⟨⟨hc1, ⟨(fun h => by cases h), rfl, ⟨⟨(fun h => by cases h), rfl, rfl, fun i _ => .inl rfl⟩, ⟨⟨(fun h => by cases h), rfl, rfl, fun i _ => .inl rfl⟩, rfl⟩⟩⟩, trivial⟩, trivial⟩ ?_
    refine Zab ?_
    refine xR [] [1, 4, 7, 8] [4, 7, 9201, 9202, 9203] [Zaj false list, .ref 4 0, .ref 7 0, I 0] [some (.box [Zao, Zao]), some (.box [.arr 9201, .arr 9202]), some (tAS ls_1), some (Zbv 9203 ws_1), some (Zbm ws_1)] [] trivial ?_
    refine Zap ?_
    refine xR [] [1, 4, 7, 8, 9] [4, 7, 9201, 9202, 9203] [Zaj false list, .ref 4 0, .ref 7 0, I 0, I 0] [some (.box [Zao, Zao]), some (.box [.arr 9201, .arr 9202]), some (tAS ls_1), some (Zbv 9203 ws_1), some (Zbm ws_1)] [] trivial ?_
    refine Zbz ?_
    refine Zeh (X := Int × Int × (List ByteArray) × (List (List Int))) (fun x => mkS [(1, Zaj false list), (4, .ref 4 0), (7, .ref 7 0), (8, I x.1), (9, I x.2.1)] [(4, .box [Zao, Zao]), (7, .box [.arr 9201, .arr 9202]), (9201, tAS x.2.2.1), (9202, Zbv 9203 x.2.2.2), (9203, Zbm x.2.2.2)]) (fun x => (0 ≤ x.2.1 ∧ x.2.1 ≤ (list.length : Int)) ∧ (epR p list x.2.1.toNat = (Perceptron.mk x.2.2.1 x.2.2.2, x.1, 0)) ∧ (Zbb (Perceptron.mk x.2.2.1 x.2.2.2) = true) ∧ ((Perceptron.mk x.2.2.1 x.2.2.2).Labels = p.Labels) ∧ (0 ≤ x.1 ∧ x.1 ≤ x.2.1) ∧ True) (fun x => ((list.length : Int) - x.2.1).toNat) (0, 0, ls_1, ws_1) rfl (show (0 ≤ (0 : Int) ∧ (0 : Int) ≤ (list.length : Int)) ∧ (epR p list (0 : Int).toNat = (Perceptron.mk ls_1 ws_1, (0 : Int), 0)) ∧ (Zbb (Perceptron.mk ls_1 ws_1) = true) ∧ ((Perceptron.mk ls_1 ws_1).Labels = p.Labels) ∧ (0 ≤ (0 : Int) ∧ (0 : Int) ≤ (0 : Int)) ∧ True from ⟨(by omega), (by rw [hls, how]; rfl), (by rw [hls, how]; exact hp), (by rw [hls]), (by omega), trivial⟩) (fun x hI => ?_)
    obtain ⟨n, i, ls, ws⟩ := x
    obtain ⟨hi0, hep, hok, hlb, hnb, _⟩ : (0 ≤ i ∧ i ≤ (list.length : Int)) ∧ (epR p list i.toNat = (Perceptron.mk ls ws, n, 0)) ∧ (Zbb (Perceptron.mk ls ws) = true) ∧ ((Perceptron.mk ls ws).Labels = p.Labels) ∧ (0 ≤ n ∧ n ≤ i) ∧ True := hI
    show XW _ _ _ _ (mkS [(1, Zaj false list), (4, .ref 4 0), (7, .ref 7 0), (8, I n), (9, I i)] [(4, .box [Zao, Zao]), (7, .box [.arr 9201, .arr 9202]), (9201, tAS ls), (9202, Zbv 9203 ws), (9203, Zbm ws)]) _ _
    refine Zap ?_
    refine Zap ?_
    by_cases h1 : i < (list.length : Int)
    ·have hi : i.toNat < list.length := by omega
     have hsm := hl i.toNat hi
     refine x_r [(3, .dec true)] [1, 4, 7, 8, 9, 17] [4, 7, 9201, 9202, 9203] [Zaj false list, .ref 4 0, .ref 7 0, I n, I i, Bv true] [some (.box [Zao, Zao]), some (.box [.arr 9201, .arr 9202]), some (tAS ls), some (Zbv 9203 ws), some (Zbm ws)] [i < (list.length : Int)] ⟨h1, trivial⟩ ?_
     refine Zab ?_
     refine Zbq rfl ?_
     refine Zca ?_
     refine Zab ?_
     refine Zap ?_
     refine Zbz ?_
     refine Zap ?_
     refine Zcz [] (T := [(1, Zaj false list), (4, .ref 4 0), (7, .ref 7 0), (8, I n), (9, I i), (17, Bv true)]) (O := [(4, .box [Zao, Zao]), (7, .box [slS true ls, Zbg true ws])]) rfl (⟨.inl rfl, .inl rfl, .inl rfl, .inl rfl, .inl rfl, .inl rfl, trivial⟩) (⟨.inl rfl, .inr ⟨⟨(fun _ => rfl), rfl, rfl, fun i _ => .inl rfl⟩, ⟨⟨(fun _ => rfl), rfl, rfl, Zfw _ _ rfl⟩, rfl⟩⟩, trivial⟩) ?_
     obtain ⟨ch_2, c_2, ls_2, ws_2, hx2_0, hc2⟩ := Zqu (Perceptron.mk ls ws) (at_ list i.toNat) hok (by rw [hlb]; exact hsm.1) hsm.2
     have hst := hx2_0
     refine x_r [(4, .lend [] [(9211, tAS ls_2), (9203, Zbm ws_2), (9212, Zbv 9203 ws_2)] [(false, .agg [slS false ls, Zbg false ws]), (true, .any)] false (.tup [.agg [.arr 9211, .arr 9212], Bv ch_2, I c_2])), (9, .new 10)] [1, 4, 7, 8, 9, 10, 11, 12] [4, 7, 10, 9203, 9211, 9212] [Zaj false list, .ref 4 0, .ref 7 0, I n, I i, .ref 10 0, Bv ch_2, I c_2] [some (.box [Zao, Zao]), some (.box [slS true ls, Zbg true ws]), some (.box [.arr 9211, .arr 9212]), some (Zbm ws_2), some (tAS ls_2), some (Zbv 9203 ws_2)] [(0 : Int) ≤ i ∧ i < (list.length : Int), Zaz Tryz.prog 22 [.agg [slS false ls, Zbg false ws], .ptr false [Sv ((at_ list i.toNat).Label), Zau false ((at_ list i.toNat).Feats)]] (Zaf []) false (.tup [.agg [.arr 9211, .arr 9212], Bv ch_2, I c_2]) (Zaf [(9211, tAS ls_2), (9203, Zbm ws_2), (9212, Zbv 9203 ws_2)]) ∧ (((false = true → true = true) ∧ 1 = 1 ∧ ls.length = ls.length ∧ ∀ i_, i_ < ls.length → (fS ls) i_ = (fS ls) i_ ∨ (AV.idsL ((fS ls) i_) = [] ∧ leL (fun _ => none) false ((fS ls) i_) ((fS ls) i_))) ∧ ((false = true → true = true) ∧ 1 = 1 ∧ ws.length = ws.length ∧ ∀ i_, i_ < ws.length → (fLI true ws) i_ = (fLI false ws) i_ ∨ (AV.idsL ((fLI false ws) i_) = [] ∧ leL (fun _ => none) false ((fLI true ws) i_) ((fLI false ws) i_))) ∧ ([] : List AV) = []) ∧ True] ⟨⟨(by omega), (by omega)⟩, ⟨hc2, ⟨⟨(fun h => by cases h), rfl, rfl, fun i _ => .inl rfl⟩, ⟨⟨(fun h => by cases h), rfl, rfl, fun i _ => .inr ⟨Zev _ _, Zjp _ _ _⟩⟩, rfl⟩⟩, trivial⟩, trivial⟩ ?_
     refine Zab ?_
     refine Zap ?_
     refine Zap ?_
     by_cases h2 : c_2 = 0
     ·have hs0 : (Zdv (Perceptron.mk ls ws) (at_ list i.toNat)).2.2 = 0 := by rw [← hst]; exact h2
      have hsk := Ydp hok hs0
      have hgo := Ydm hi0.1 hep hs0
      have hst1 : (Zdv (Perceptron.mk ls ws) (at_ list i.toNat)).1 = Perceptron.mk ls_2 ws_2 := by rw [← hst]
      have hst2 : (Zdv (Perceptron.mk ls ws) (at_ list i.toNat)).2.1 = ch_2 := by rw [← hst]
      rw [hst1] at hsk hgo
      rw [hst2] at hgo
      refine x_r [(1, .dec false)] [1, 4, 7, 8, 9, 10, 11, 12, 30] [4, 7, 10, 9203, 9211, 9212] [Zaj false list, .ref 4 0, .ref 7 0, I n, I i, .ref 10 0, Bv ch_2, I c_2, Bv false] [some (.box [Zao, Zao]), some (.box [slS true ls, Zbg true ws]), some (.box [.arr 9211, .arr 9212]), some (Zbm ws_2), some (tAS ls_2), some (Zbv 9203 ws_2)] [¬ (c_2 ≠ 0)] ⟨(fun hq => hq h2), trivial⟩ ?_
      refine Zab ?_
      refine Zbe rfl ?_
      refine Zca ?_
      refine Zab ?_
      refine Zap ?_
      refine xR [] [1, 4, 7, 8, 9, 10, 33] [4, 7, 10, 9203, 9211, 9212] [Zaj false list, .ref 4 0, .ref 7 0, I n, I i, .ref 10 0, Bv ch_2] [some (.box [Zao, Zao]), some (.box [slS true ls, Zbg true ws]), some (.box [.arr 9211, .arr 9212]), some (Zbm ws_2), some (tAS ls_2), some (Zbv 9203 ws_2)] [] trivial ?_
      rcases Bool.eq_false_or_eq_true ch_2 with h3 | h3
      ·refine Zbq (congrArg Bv h3) ?_
       refine x_r [] [1, 4, 7, 8, 9, 10] [4, 7, 10, 9203, 9211, 9212] [Zaj false list, .ref 4 0, .ref 7 0, I (n + 1), I i, .ref 10 0] [some (.box [Zao, Zao]), some (.box [slS true ls, Zbg true ws]), some (.box [.arr 9211, .arr 9212]), some (Zbm ws_2), some (tAS ls_2), some (Zbv 9203 ws_2)] [inR .i64 (n + 1)] ⟨(Zam (by omega) (by omega)), trivial⟩ ?_
       refine Zab ?_
       refine x_r [] [1, 4, 7, 8, 9] [4, 7, 9203, 9211, 9212] [Zaj false list, .ref 4 0, .ref 7 0, I (n + 1), I i] [some (.box [Zao, Zao]), some (.box [.arr 9211, .arr 9212]), some (Zbm ws_2), some (tAS ls_2), some (Zbv 9203 ws_2)] [] trivial ?_
       refine Zbr 1 ?_
       refine Zab ?_
       refine x_r [] [1, 4, 7, 8, 9] [4, 7, 9203, 9211, 9212] [Zaj false list, .ref 4 0, .ref 7 0, I (n + 1), I (i + 1)] [some (.box [Zao, Zao]), some (.box [.arr 9211, .arr 9212]), some (Zbm ws_2), some (tAS ls_2), some (Zbv 9203 ws_2)] [inR .i64 (i + 1)] ⟨(Zam (by omega) (by omega)), trivial⟩ ?_
       refine Zcx [(9201, 9211), (9202, 9212)] (T := [(1, Zaj false list), (4, .ref 4 0), (7, .ref 7 0), (8, I (n + 1)), (9, I (i + 1))]) (O := [(4, .box [Zao, Zao]), (7, .box [.arr 9201, .arr 9202]), (9201, tAS ls_2), (9202, Zbv 9203 ws_2), (9203, Zbm ws_2)]) rfl (⟨.inl rfl, .inl rfl, .inl rfl, .inl rfl, .inl rfl, trivial⟩) (⟨.inl rfl, .inl rfl, .inl rfl, .inl rfl, .inl rfl, trivial⟩) (Zcj ((n + 1), (i + 1), ls_2, ws_2) rfl (show (0 ≤ (i + 1) ∧ (i + 1) ≤ (list.length : Int)) ∧ (epR p list (i + 1).toNat = (Perceptron.mk ls_2 ws_2, (n + 1), 0)) ∧ (Zbb (Perceptron.mk ls_2 ws_2) = true) ∧ ((Perceptron.mk ls_2 ws_2).Labels = p.Labels) ∧ (0 ≤ (n + 1) ∧ (n + 1) ≤ (i + 1)) ∧ True from ⟨(by omega), (by first | (rw [hgo]; rfl) | (rw [hgo]; simp [*]; done)), (by exact hsk.1), (by exact hsk.2.trans hlb), (by omega), trivial⟩) (by first | (show (((list.length : Int) - (i + 1)).toNat : Nat) < ((list.length : Int) - i).toNat; omega) | (dsimp only; omega)))
      refine Zbe (congrArg Bv h3) ?_
      refine Zca ?_
      refine Zab ?_
      refine x_r [] [1, 4, 7, 8, 9] [4, 7, 9203, 9211, 9212] [Zaj false list, .ref 4 0, .ref 7 0, I n, I i] [some (.box [Zao, Zao]), some (.box [.arr 9211, .arr 9212]), some (Zbm ws_2), some (tAS ls_2), some (Zbv 9203 ws_2)] [] trivial ?_
      refine Zbr 1 ?_
      refine Zab ?_
      refine x_r [] [1, 4, 7, 8, 9] [4, 7, 9203, 9211, 9212] [Zaj false list, .ref 4 0, .ref 7 0, I n, I (i + 1)] [some (.box [Zao, Zao]), some (.box [.arr 9211, .arr 9212]), some (Zbm ws_2), some (tAS ls_2), some (Zbv 9203 ws_2)] [inR .i64 (i + 1)] ⟨(Zam (by omega) (by omega)), trivial⟩ ?_
      refine Zcx [(9201, 9211), (9202, 9212)] (T := [(1, Zaj false list), (4, .ref 4 0), (7, .ref 7 0), (8, I n), (9, I (i + 1))]) (O := [(4, .box [Zao, Zao]), (7, .box [.arr 9201, .arr 9202]), (9201, tAS ls_2), (9202, Zbv 9203 ws_2), (9203, Zbm ws_2)]) rfl (⟨.inl rfl, .inl rfl, .inl rfl, .inl rfl, .inl rfl, trivial⟩) (⟨.inl rfl, .inl rfl, .inl rfl, .inl rfl, .inl rfl, trivial⟩) (Zcj (n, (i + 1), ls_2, ws_2) rfl (show (0 ≤ (i + 1) ∧ (i + 1) ≤ (list.length : Int)) ∧ (epR p list (i + 1).toNat = (Perceptron.mk ls_2 ws_2, n, 0)) ∧ (Zbb (Perceptron.mk ls_2 ws_2) = true) ∧ ((Perceptron.mk ls_2 ws_2).Labels = p.Labels) ∧ (0 ≤ n ∧ n ≤ (i + 1)) ∧ True from ⟨(by omega), (by first | (rw [hgo]; rfl) | (rw [hgo]; simp [*]; done)), (by exact hsk.1), (by exact hsk.2.trans hlb), (by omega), trivial⟩) (by first | (show (((list.length : Int) - (i + 1)).toNat : Nat) < ((list.length : Int) - i).toNat; omega) | (dsimp only; omega)))
     have hs0 : ¬ (Zdv (Perceptron.mk ls ws) (at_ list i.toNat)).2.2 = 0 := by rw [← hst]; exact h2
     have hend := Zsr (m := list.length) hep hs0 hi
     rw [← hst] at hend
     refine x_r [(1, .dec true)] [1, 4, 7, 8, 9, 10, 11, 12, 30] [4, 7, 10, 9203, 9211, 9212] [Zaj false list, .ref 4 0, .ref 7 0, I n, I i, .ref 10 0, Bv ch_2, I c_2, Bv true] [some (.box [Zao, Zao]), some (.box [slS true ls, Zbg true ws]), some (.box [.arr 9211, .arr 9212]), some (Zbm ws_2), some (tAS ls_2), some (Zbv 9203 ws_2)] [c_2 ≠ 0] ⟨h2, trivial⟩ ?_
     refine Zab ?_
     refine Zbq rfl ?_
     refine xR [] [4, 5, 6] [4] [.ref 4 0, I 0, I c_2] [some (.box [Zao, Zao])] [] trivial ?_
     refine Zcf ?_
     refine Zbd (Zdh (Zbd (Zfu (Zdh (Zbd ?_)))))
     refine Zre 4 0 9221 1 (fun _ => []) rfl (by kernel_rfl) ?_
     refine Zre 4 1 9222 1 (fun _ => []) rfl (by kernel_rfl) ?_
     refine xe_fam 9203 1 (fun _ => 0) (fun _ _ => []) (by kernel_rfl) ?_
     refine Zcx [] (T := [(4, .ref 4 0), (5, I 0), (6, I c_2)]) (O := [(4, .box [.arr 9221, .arr 9222]), (9203, Zbm ([] : List (List Int))), (9221, tAS ([] : List ByteArray)), (9222, Zbv 9203 ([] : List (List Int)))]) rfl (⟨.inl rfl, .inl rfl, .inl rfl, trivial⟩) (⟨.inl rfl, .inr ⟨rfl, rfl, fun p hp => absurd hp (Nat.not_lt_zero _)⟩, .inr ⟨rfl, (by first | rfl | (simp; done) | (simp; omega) | omega), fun i_ hi_ => absurd hi_ (Nat.not_lt_zero _)⟩, .inr ⟨rfl, rfl, fun i hi => absurd hi (Nat.not_lt_zero _)⟩, trivial⟩) ?_
     refine Zbn (0, c_2, ([] : List ByteArray), ([] : List (List Int))) (show ((Perceptron.mk ([] : List ByteArray) ([] : List (List Int)), 0, c_2) = epR p list list.length) ∧ (True) from ⟨(by first | exact hep.symm | exact hend.symm), trivial⟩) (⟨.inl rfl, .inl rfl, .inl rfl, trivial⟩) (.tup [.agg [.arr 9221, .arr 9222], I 0, I c_2]) (by kernel_rfl) (.inl rfl) (fun h => by cases h) (fun h => by cases h)
    have hie : i.toNat = list.length := by omega
    rw [hie] at hep
    refine x_r [(3, .dec false)] [1, 4, 7, 8, 9, 17] [4, 7, 9201, 9202, 9203] [Zaj false list, .ref 4 0, .ref 7 0, I n, I i, Bv false] [some (.box [Zao, Zao]), some (.box [.arr 9201, .arr 9202]), some (tAS ls), some (Zbv 9203 ws), some (Zbm ws)] [¬ (i < (list.length : Int))] ⟨h1, trivial⟩ ?_
    refine Zab ?_
    refine Zbe rfl ?_
    refine Zeg ?_
    refine Zbs ?_
    refine Zbu ?_
    refine Zbt ?_
    refine Zab ?_
    refine xR [] [4, 5, 6] [4, 9201, 9202, 9203] [.ref 4 0, I n, I 0] [some (.box [.arr 9201, .arr 9202]), some (tAS ls), some (Zbv 9203 ws), some (Zbm ws)] [] trivial ?_
    refine Zcf ?_
    refine Zcx [(9221, 9201), (9222, 9202)] (T := [(4, .ref 4 0), (5, I n), (6, I 0)]) (O := [(4, .box [.arr 9221, .arr 9222]), (9203, Zbm ws), (9221, tAS ls), (9222, Zbv 9203 ws)]) rfl (⟨.inl rfl, .inl rfl, .inl rfl, trivial⟩) (⟨.inl rfl, .inl rfl, .inl rfl, .inl rfl, trivial⟩) ?_
    refine Zbn (n, 0, ls, ws) (show ((Perceptron.mk ls ws, n, 0) = epR p list list.length) ∧ (True) from ⟨(by first | exact hep.symm | exact hend.symm), trivial⟩) (⟨.inl rfl, .inl rfl, .inl rfl, trivial⟩) (.tup [.agg [.arr 9221, .arr 9222], I n, I 0]) (by kernel_rfl) (.inl rfl) (fun h => by cases h) (fun h => by cases h)
  obtain ⟨⟨n, c, ls, ws⟩, ⟨hh0, _⟩, hc⟩ := hh
  exact ⟨n, c, ls, ws, hh0, hc⟩
theorem Zqp (s : l00Src) (hs : Zbj s) (ha : s.atx ≤ 3999999999999996000) : ∃ (s' : l00Src) (ls : List ByteArray) (ws : List (List Int)), (Zbj s') ∧ (s'.code = s.code) ∧ (s.atx + 0 ≤ s'.atx ∧ s'.atx ≤ s.atx + 900) ∧ (Zbb (Perceptron.mk ls ws) = true) ∧ Zaz Tryz.prog 29 [.ref 7001 0] (Zaf [(7001, Zaa s)]) false (.agg [.arr 9231, .arr 9232]) (Zaf [(7001, Zaa s'), (9231, tAS ls), (9203, Zbm ws), (9232, Zbv 9203 ws)]) := by
  have hh : ∃ r : l00Src × (List ByteArray) × (List (List Int)), ((Zbj r.1) ∧ (r.1.code = s.code) ∧ (s.atx + 0 ≤ r.1.atx ∧ r.1.atx ≤ s.atx + 900) ∧ (Zbb (Perceptron.mk r.2.1 r.2.2) = true) ∧ (True)) ∧ Zaz Tryz.prog 29 [.ref 7001 0] (Zaf [(7001, Zaa s)]) false (.agg [.arr 9231, .arr 9232]) (Zaf [(7001, Zaa r.1), (9231, tAS r.2.1), (9203, Zbm r.2.2), (9232, Zbv 9203 r.2.2)]) := by
    refine Zde (Φ := fun r : l00Src × (List ByteArray) × (List (List Int)) => (Zbj r.1) ∧ (r.1.code = s.code) ∧ (s.atx + 0 ≤ r.1.atx ∧ r.1.atx ≤ s.atx + 900) ∧ (Zbb (Perceptron.mk r.2.1 r.2.2) = true) ∧ (True)) [(7001, Zaa s)] (fun r => [(7001, Zaa r.1), (9231, tAS r.2.1), (9203, Zbm r.2.2), (9232, Zbv 9203 r.2.2)]) (fn := Tryz.f29) (nt := 25) Tryz.func29 rfl rfl (args := [.ref 7001 0]) rfl (Zbw (.inr trivial) Zdb) (res := fun r => .agg [.arr 9231, .arr 9232]) ?_
    refine xR [(0, .new 2)] [0, 2] [2, 7001] [.ref 7001 0, .ref 2 0] [some (.box [Zao, Zao]), some (Zaa s)] [] trivial ?_
    refine Zap ?_
    obtain ⟨v_1, s'_1, hx1_0, hx1_1, hx1_2, hx1_3, hc1⟩ := Zmu s (by first | assumption | (simp only [Zbj] at *; simp_all; done)) (by omega)
    have hlb := hx1_3
    have hln := Zfi hlb
    obtain ⟨v_2, c_2, hx2_0, hc2⟩ := Zjx v_1 (fun y hy => by have := (Zkg hlb).1 y hy; simp only [Zci, Bool.and_eq_true, decide_eq_true_eq] at this; omega)
    have hnw := hx2_0
    have hnp : v_2 = (Ydu v_1).1 := by rw [← hnw]
    have hnl : v_2.Labels = v_1 := by rw [hnp, Zih hlb]
    have hnk : Zbb v_2 = true := by rw [hnp, Zih hlb]; exact new_ok hlb
    refine x_r [(1, .lend [(7001, Zaa s, Zaa s'_1)] [] [(true, .any)] true (slS true v_1)), (2, .call [(false, slS false v_1)] true (.tup [Zan v_2, I c_2])), (6, .new 3)] [0, 2, 3] [2, 3, 7001] [.ref 7001 0, .ref 2 0, .ref 3 0] [some (.box [Zao, Zao]), some (Zad v_2), some (Zaa s'_1)] [Zaz Tryz.prog 68 [.ref 7001 0] (Zaf [(7001, Zaa s)]) true (slS true v_1) (Zaf [(7001, Zaa s'_1)]) ∧ (((Zaa s : Ob) = Zaa s ∨ Zeu Zel true (Zaa s) (Zaa s)) ∧ Zar false (Zaa s)) ∧ True, Con Tryz.prog 67 [slS false v_1] true (.tup [Zan v_2, I c_2]) ∧ ((false = true → true = true) ∧ 1 = 1 ∧ v_1.length = v_1.length ∧ ∀ i_, i_ < v_1.length → (fS v_1) i_ = (fS v_1) i_ ∨ (AV.idsL ((fS v_1) i_) = [] ∧ leL (fun _ => none) false ((fS v_1) i_) ((fS v_1) i_))) ∧ True] ⟨⟨hc1, ⟨.inl rfl, (by simp [Zar, Zah, Zak, Zdj])⟩, trivial⟩, ⟨hc2, ⟨(fun h => by cases h), rfl, rfl, fun i _ => .inl rfl⟩, trivial⟩, trivial⟩ ?_
    refine Zab ?_
    refine Zap ?_
    refine Zcz [] (T := [(0, .ref 7001 0), (2, .ref 2 0), (3, .ptr true [slS true v_2.Labels, Zbg true v_2.Weights])]) (O := [(2, .box [Zao, Zao]), (7001, Zaa s'_1)]) rfl (⟨.inl rfl, .inl rfl, .inr ⟨(fun _ => rfl), rfl, ⟨⟨(fun _ => rfl), rfl, rfl, fun i _ => .inl rfl⟩, ⟨⟨(fun _ => rfl), rfl, rfl, fun i _ => .inl rfl⟩, rfl⟩⟩⟩, trivial⟩) (⟨.inl rfl, .inl rfl, trivial⟩) ?_
    obtain ⟨s'_3, sm_3, hx3_0, hx3_1, hx3_2, hx3_3, hx3_4, hc3⟩ := Zhw s'_1 v_2 8 (by first | assumption | (simp only [Zbj] at *; simp_all; done)) (by omega) (by rw [hnl]; omega) (by omega)
    have hsl := hx3_3
    have hsm := hx3_4
    refine x_r [(1, .lend [(7001, Zaa s'_1, Zaa s'_3)] [(9311, Zcb true sm_3)] [(true, .any), (false, .ptr false [slS false v_2.Labels, Zbg false v_2.Weights]), (true, .any)] false (.arr 9311))] [2, 3, 5] [2, 7001, 9311] [.ref 2 0, .ptr true [slS true v_2.Labels, Zbg true v_2.Weights], .arr 9311] [some (.box [Zao, Zao]), some (Zaa s'_3), some (Zcb true sm_3)] [Zaz Tryz.prog 47 [.ref 7001 0, .ptr false [slS false v_2.Labels, Zbg false v_2.Weights], I 8] (Zaf [(7001, Zaa s'_1)]) false (.arr 9311) (Zaf [(7001, Zaa s'_3), (9311, Zcb true sm_3)]) ∧ ((false = true → true = true) ∧ AV.idsL [slS false v_2.Labels, Zbg false v_2.Weights] = [] ∧ ((false = true → true = true) ∧ 1 = 1 ∧ v_2.Labels.length = v_2.Labels.length ∧ ∀ i_, i_ < v_2.Labels.length → (fS v_2.Labels) i_ = (fS v_2.Labels) i_ ∨ (AV.idsL ((fS v_2.Labels) i_) = [] ∧ leL (fun _ => none) false ((fS v_2.Labels) i_) ((fS v_2.Labels) i_))) ∧ ((false = true → true = true) ∧ 1 = 1 ∧ v_2.Weights.length = v_2.Weights.length ∧ ∀ i_, i_ < v_2.Weights.length → (fLI true v_2.Weights) i_ = (fLI false v_2.Weights) i_ ∨ (AV.idsL ((fLI false v_2.Weights) i_) = [] ∧ leL (fun _ => none) false ((fLI true v_2.Weights) i_) ((fLI false v_2.Weights) i_))) ∧ ([] : List AV) = []) ∧ (((Zaa s'_1 : Ob) = Zaa s'_1 ∨ Zeu Zel true (Zaa s'_1) (Zaa s'_1)) ∧ Zar false (Zaa s'_1)) ∧ True] ⟨⟨hc3, ⟨(fun h => by cases h), rfl, ⟨⟨(fun h => by cases h), rfl, rfl, fun i _ => .inl rfl⟩, ⟨⟨(fun h => by cases h), rfl, rfl, fun i _ => .inr ⟨Zev _ _, Zjp _ _ _⟩⟩, rfl⟩⟩⟩, ⟨.inl rfl, (by simp [Zar, Zah, Zak, Zdj])⟩, trivial⟩, trivial⟩ ?_
    refine Zab ?_
    refine Zap ?_
    obtain ⟨n_4, c_4, ls_4, ws_4, hx4_0, hc4⟩ := Zwy v_2 sm_3 hnk (fun j hj => hsm _ (Zct hj)) (by omega)
    have hep := hx4_0
    have hen := ep_new hlb (list := sm_3) (by rw [hnl] at hsm; exact hsm) (by omega)
    rw [← hnp, ← hep] at hen
    refine x_r [(2, .lend [] [(9221, tAS ls_4), (9203, Zbm ws_4), (9222, Zbv 9203 ws_4)] [(false, Zae v_2), (false, Zaj false sm_3)] false (.tup [.agg [.arr 9221, .arr 9222], I n_4, I c_4])), (7, .new 6)] [2, 6] [2, 6, 7001, 9203, 9221, 9222] [.ref 2 0, .ref 6 0] [some (.box [Zao, Zao]), some (.box [.arr 9221, .arr 9222]), some (Zaa s'_3), some (Zbm ws_4), some (tAS ls_4), some (Zbv 9203 ws_4)] [Zaz Tryz.prog 69 [Zae v_2, Zaj false sm_3] (Zaf []) false (.tup [.agg [.arr 9221, .arr 9222], I n_4, I c_4]) (Zaf [(9221, tAS ls_4), (9203, Zbm ws_4), (9222, Zbv 9203 ws_4)]) ∧ (((false = true → true = true) ∧ 1 = 1 ∧ v_2.Labels.length = v_2.Labels.length ∧ ∀ i_, i_ < v_2.Labels.length → (fS v_2.Labels) i_ = (fS v_2.Labels) i_ ∨ (AV.idsL ((fS v_2.Labels) i_) = [] ∧ leL (fun _ => none) false ((fS v_2.Labels) i_) ((fS v_2.Labels) i_))) ∧ ((false = true → true = true) ∧ 1 = 1 ∧ v_2.Weights.length = v_2.Weights.length ∧ ∀ i_, i_ < v_2.Weights.length → (fLI true v_2.Weights) i_ = (fLI false v_2.Weights) i_ ∨ (AV.idsL ((fLI false v_2.Weights) i_) = [] ∧ leL (fun _ => none) false ((fLI true v_2.Weights) i_) ((fLI false v_2.Weights) i_))) ∧ ([] : List AV) = []) ∧ ((false = true → true = true) ∧ 2 = 2 ∧ sm_3.length = sm_3.length ∧ ∀ i_, i_ < sm_3.length → (Zcq true sm_3) i_ = (Zcq false sm_3) i_ ∨ (AV.idsL ((Zcq false sm_3) i_) = [] ∧ leL (fun _ => none) false ((Zcq true sm_3) i_) ((Zcq false sm_3) i_))) ∧ True] ⟨⟨hc4, ⟨⟨(fun h => by cases h), rfl, rfl, fun i _ => .inl rfl⟩, ⟨⟨(fun h => by cases h), rfl, rfl, fun i _ => .inr ⟨Zev _ _, Zjp _ _ _⟩⟩, rfl⟩⟩, ⟨(fun h => by cases h), rfl, rfl, fun i _ => .inr ⟨Ydv _ _, leSample _ _ _⟩⟩, trivial⟩, trivial⟩ ?_
    refine Zab ?_
    refine xR [] [2] [2, 7001, 9203, 9221, 9222] [.ref 2 0] [some (.box [.arr 9221, .arr 9222]), some (Zaa s'_3), some (Zbm ws_4), some (tAS ls_4), some (Zbv 9203 ws_4)] [] trivial ?_
    refine Zcf ?_
    refine Zcx [(9231, 9221), (9232, 9222)] (T := [(2, .ref 2 0)]) (O := [(2, .box [.arr 9231, .arr 9232]), (7001, Zaa s'_3), (9203, Zbm ws_4), (9231, tAS ls_4), (9232, Zbv 9203 ws_4)]) rfl (⟨.inl rfl, trivial⟩) (⟨.inl rfl, .inl rfl, .inl rfl, .inl rfl, .inl rfl, trivial⟩) ?_
    refine Zbn (s'_3, ls_4, ws_4) (show (Zbj s'_3) ∧ (s'_3.code = s.code) ∧ (s.atx + 0 ≤ s'_3.atx ∧ s'_3.atx ≤ s.atx + 900) ∧ (Zbb (Perceptron.mk ls_4 ws_4) = true) ∧ (True) from ⟨(by first | omega | assumption | exact hen.2.1 | (simp_all; done)), (by first | omega | assumption | exact hen.2.1 | (simp_all; done)), (by first | omega | assumption | exact hen.2.1 | (simp_all; done)), (by first | omega | assumption | exact hen.2.1 | (simp_all; done)), trivial⟩) (⟨.inl rfl, .inl rfl, .inl rfl, .inl rfl, trivial⟩) (.agg [.arr 9231, .arr 9232]) (by kernel_rfl) (.inl rfl) (fun h => by cases h) (fun h => by cases h)
  obtain ⟨⟨s', ls, ws⟩, ⟨hh0, hh1, hh2, hh3, _⟩, hc⟩ := hh
  exact ⟨s', ls, ws, hh0, hh1, hh2, hh3, hc⟩
theorem Yct (s : l00Src) (list : List ByteArray) (hs : Zbj s) (ha : s.atx ≤ 3999999999999999980) (hl : (0 < list.length ∧ list.length ≤ 1000) ∧ ∀ z ∈ list, z.size ≤ 16) : ∃ (v : ByteArray) (s' : l00Src), (v.size ≤ 16) ∧ (Zbj s') ∧ (s'.code = s.code) ∧ (s.atx + 0 ≤ s'.atx ∧ s'.atx ≤ s.atx + 2) ∧ (v ∈ list) ∧ Zaz Tryz.prog 71 [.ref 7001 0, slS false list] (Zaf [(7001, Zaa s)]) true (Sv v) (Zaf [(7001, Zaa s')]) := by
  have hh : ∃ r : ByteArray × l00Src, ((r.1.size ≤ 16) ∧ (Zbj r.2) ∧ (r.2.code = s.code) ∧ (s.atx + 0 ≤ r.2.atx ∧ r.2.atx ≤ s.atx + 2) ∧ (r.1 ∈ list) ∧ (True)) ∧ Zaz Tryz.prog 71 [.ref 7001 0, slS false list] (Zaf [(7001, Zaa s)]) true (Sv r.1) (Zaf [(7001, Zaa r.2)]) := by
    refine Zde (Φ := fun r : ByteArray × l00Src => (r.1.size ≤ 16) ∧ (Zbj r.2) ∧ (r.2.code = s.code) ∧ (s.atx + 0 ≤ r.2.atx ∧ r.2.atx ≤ s.atx + 2) ∧ (r.1 ∈ list) ∧ (True)) [(7001, Zaa s)] (fun r => [(7001, Zaa r.2)]) (fn := Tryz.f71) (nt := 12) Tryz.func71 rfl rfl (args := [.ref 7001 0, slS false list]) rfl (Zbw (.inr trivial) (Zbw (.inl ⟨rfl, Zer false _⟩) Zdb)) (res := fun r => Sv r.1) ?_
    refine xR [] [0, 1] [7001] [.ref 7001 0, slS false list] [some (Zaa s)] [] trivial ?_
    refine Zap ?_
    obtain ⟨v_1, s'_1, hx1_0, hx1_1, hx1_2, hx1_3, hc1⟩ := Zdu s (list.length : Int) (by first | assumption | (simp only [Zbj] at *; simp_all; done)) (by omega)
    refine x_r [(4, .lend [(7001, Zaa s, Zaa s'_1)] [] [(true, .any), (true, .any)] true (I v_1))] [4] [7001] [Sv (at_ list v_1.toNat)] [some (Zaa s'_1)] [Zaz Tryz.prog 48 [.ref 7001 0, I (list.length : Int)] (Zaf [(7001, Zaa s)]) true (I v_1) (Zaf [(7001, Zaa s'_1)]) ∧ (((Zaa s : Ob) = Zaa s ∨ Zeu Zel true (Zaa s) (Zaa s)) ∧ Zar false (Zaa s)) ∧ True, (0 : Int) ≤ v_1 ∧ v_1 < (list.length : Int)] ⟨⟨hc1, ⟨.inl rfl, (by simp [Zar, Zah, Zak, Zdj])⟩, trivial⟩, ⟨(by omega), (by omega)⟩, trivial⟩ ?_
    refine Zab ?_
    refine Zcf ?_
    refine Zbn ((at_ list v_1.toNat), s'_1) (show ((at_ list v_1.toNat).size ≤ 16) ∧ (Zbj s'_1) ∧ (s'_1.code = s.code) ∧ (s.atx + 0 ≤ s'_1.atx ∧ s'_1.atx ≤ s.atx + 2) ∧ ((at_ list v_1.toNat) ∈ list) ∧ (True) from ⟨(by first | omega | rfl | assumption | (dsimp only; first | omega | rfl | assumption) | (simp only [*]; done) | (exact Zct (by omega)) | (exact hl.2 _ (Zct (by omega))) | (simp_all; done)), (by first | omega | rfl | assumption | (dsimp only; first | omega | rfl | assumption) | (simp only [*]; done) | (exact Zct (by omega)) | (exact hl.2 _ (Zct (by omega))) | (simp_all; done)), (by first | omega | rfl | assumption | (dsimp only; first | omega | rfl | assumption) | (simp only [*]; done) | (exact Zct (by omega)) | (exact hl.2 _ (Zct (by omega))) | (simp_all; done)), (by first | omega | rfl | assumption | (dsimp only; first | omega | rfl | assumption) | (simp only [*]; done) | (exact Zct (by omega)) | (exact hl.2 _ (Zct (by omega))) | (simp_all; done)), (by first | omega | rfl | assumption | (dsimp only; first | omega | rfl | assumption) | (simp only [*]; done) | (exact Zct (by omega)) | (exact hl.2 _ (Zct (by omega))) | (simp_all; done)), trivial⟩) (⟨.inl rfl, trivial⟩) (Sv (at_ list v_1.toNat)) (by kernel_rfl) (.inl rfl) (fun _ => rfl) (fun _ => trivial)
  obtain ⟨⟨v, s'⟩, ⟨hh0, hh1, hh2, hh3, hh4, _⟩, hc⟩ := hh
  exact ⟨v, s', hh0, hh1, hh2, hh3, hh4, hc⟩
theorem among_ok (s : l00Src) (list : List Int) (hs : Zbj s) (ha : s.atx ≤ 3999999999999999980) (hl : 0 < list.length ∧ list.length ≤ 1000) : ∃ (v : Int) (s' : l00Src), (v ∈ list) ∧ (Zbj s') ∧ (s'.code = s.code) ∧ (s.atx + 0 ≤ s'.atx ∧ s'.atx ≤ s.atx + 2) ∧ Zaz Tryz.prog 84 [.ref 7001 0, slI false list] (Zaf [(7001, Zaa s)]) true (I v) (Zaf [(7001, Zaa s')]) := by
  have hh : ∃ r : Int × l00Src, ((r.1 ∈ list) ∧ (Zbj r.2) ∧ (r.2.code = s.code) ∧ (s.atx + 0 ≤ r.2.atx ∧ r.2.atx ≤ s.atx + 2) ∧ (True)) ∧ Zaz Tryz.prog 84 [.ref 7001 0, slI false list] (Zaf [(7001, Zaa s)]) true (I r.1) (Zaf [(7001, Zaa r.2)]) := by
    refine Zde (Φ := fun r : Int × l00Src => (r.1 ∈ list) ∧ (Zbj r.2) ∧ (r.2.code = s.code) ∧ (s.atx + 0 ≤ r.2.atx ∧ r.2.atx ≤ s.atx + 2) ∧ (True)) [(7001, Zaa s)] (fun r => [(7001, Zaa r.2)]) (fn := Tryz.f84) (nt := 12) Tryz.func84 rfl rfl (args := [.ref 7001 0, slI false list]) rfl (Zbw (.inr trivial) (Zbw (.inl ⟨rfl, Zpg false _⟩) Zdb)) (res := fun r => I r.1) ?_
    refine xR [] [0, 1] [7001] [.ref 7001 0, slI false list] [some (Zaa s)] [] trivial ?_
    refine Zap ?_
    obtain ⟨v_1, s'_1, hx1_0, hx1_1, hx1_2, hx1_3, hc1⟩ := Zdu s (list.length : Int) (by first | assumption | (simp only [Zbj] at *; simp_all; done)) (by omega)
    refine x_r [(4, .lend [(7001, Zaa s, Zaa s'_1)] [] [(true, .any), (true, .any)] true (I v_1))] [4] [7001] [I (at_ list v_1.toNat)] [some (Zaa s'_1)] [Zaz Tryz.prog 48 [.ref 7001 0, I (list.length : Int)] (Zaf [(7001, Zaa s)]) true (I v_1) (Zaf [(7001, Zaa s'_1)]) ∧ (((Zaa s : Ob) = Zaa s ∨ Zeu Zel true (Zaa s) (Zaa s)) ∧ Zar false (Zaa s)) ∧ True, (0 : Int) ≤ v_1 ∧ v_1 < (list.length : Int)] ⟨⟨hc1, ⟨.inl rfl, (by simp [Zar, Zah, Zak, Zdj])⟩, trivial⟩, ⟨(by omega), (by omega)⟩, trivial⟩ ?_
    refine Zab ?_
    refine Zcf ?_
    refine Zbn ((at_ list v_1.toNat), s'_1) (show ((at_ list v_1.toNat) ∈ list) ∧ (Zbj s'_1) ∧ (s'_1.code = s.code) ∧ (s.atx + 0 ≤ s'_1.atx ∧ s'_1.atx ≤ s.atx + 2) ∧ (True) from ⟨(by first | omega | rfl | assumption | (dsimp only; first | omega | rfl | assumption) | (simp only [*]; done) | (exact Zct (by omega)) | (simp_all; done)), (by first | omega | rfl | assumption | (dsimp only; first | omega | rfl | assumption) | (simp only [*]; done) | (exact Zct (by omega)) | (simp_all; done)), (by first | omega | rfl | assumption | (dsimp only; first | omega | rfl | assumption) | (simp only [*]; done) | (exact Zct (by omega)) | (simp_all; done)), (by first | omega | rfl | assumption | (dsimp only; first | omega | rfl | assumption) | (simp only [*]; done) | (exact Zct (by omega)) | (simp_all; done)), trivial⟩) (⟨.inl rfl, trivial⟩) (I (at_ list v_1.toNat)) (by kernel_rfl) (.inl rfl) (fun _ => rfl) (fun _ => trivial)
  obtain ⟨⟨v, s'⟩, ⟨hh0, hh1, hh2, hh3, _⟩, hc⟩ := hh
  exact ⟨v, s', hh0, hh1, hh2, hh3, hc⟩
theorem oupdLI {ob : Nat → Option Ob} {fr : Bool} (xs : List (List Int)) (k : Nat) (y : List Int) {cs : List AV} (h : leL ob true cs (cLI fr y)) : ∀ i, i < (xs.set k y).length → AV.idsL (fLI fr (xs.set k y) i) = [] ∧ leL ob true ((fun q => bif Nat.beq q k then cs else fLI true xs q) i) (fLI fr (xs.set k y) i) := by
  intro i hi
  rw [List.length_set] at hi
  by_cases e : i = k
  · subst e
    have e2 : fLI fr (xs.set i y) i = cLI fr y := by show cLI fr (at_ _ _) = _; rw [Zpa hi]
    rw [e2]
    refine ⟨rfl, ?_⟩
    show leL ob true (bif Nat.beq i i then cs else _) _
    rw [Nat.beq_refl, cond_true]; exact h
  · have e2 : fLI fr (xs.set k y) i = cLI fr (at_ xs i) := by show cLI fr (at_ _ _) = _; rw [Zpb e]
    rw [e2]
    refine ⟨rfl, ?_⟩
    show leL ob true (bif Nat.beq i k then cs else fLI true xs i) _
    rw [Zjm e, cond_false]
    exact And.intro (And.intro (fun _ => rfl) (And.intro rfl (And.intro rfl (fun i _ => .inl rfl)))) rfl
theorem Yaa (s : l00Src) (hs : Zbj s) (ha : s.atx ≤ 3999999999999994000) : ∃ (v : Perceptron) (s' : l00Src), (Zbj s') ∧ (s'.code = s.code) ∧ (s.atx + 0 ≤ s'.atx ∧ s'.atx ≤ s.atx + 1000) ∧ (drP v) ∧ Zaz Tryz.prog 46 [.ref 7001 0] (Zaf [(7001, Zaa s)]) true (Zan v) (Zaf [(7001, Zaa s')]) := by
  have hh : ∃ r : Perceptron × l00Src, ((Zbj r.2) ∧ (r.2.code = s.code) ∧ (s.atx + 0 ≤ r.2.atx ∧ r.2.atx ≤ s.atx + 1000) ∧ (drP r.1) ∧ (True)) ∧ Zaz Tryz.prog 46 [.ref 7001 0] (Zaf [(7001, Zaa s)]) true (Zan r.1) (Zaf [(7001, Zaa r.2)]) := by
    refine Zde (Φ := fun r : Perceptron × l00Src => (Zbj r.2) ∧ (r.2.code = s.code) ∧ (s.atx + 0 ≤ r.2.atx ∧ r.2.atx ≤ s.atx + 1000) ∧ (drP r.1) ∧ (True)) [(7001, Zaa s)] (fun r => [(7001, Zaa r.2)]) (fn := Tryz.f46) (nt := 74) Tryz.func46 rfl rfl (args := [.ref 7001 0]) rfl (Zbw (.inr trivial) Zdb) (res := fun r => Zan r.1) ?_
    refine xR [(0, .new 2)] [0, 2] [2, 7001] [.ref 7001 0, .ref 2 0] [some (.box [Zao, Zao]), some (Zaa s)] [] trivial ?_
    refine Zap ?_
    obtain ⟨s'_1, ls_1, ws_1, hx1_0, hx1_1, hx1_2, hx1_3, hc1⟩ := Zqp s (by first | assumption | (simp only [Zbj] at *; simp_all; done)) (by omega)
    have hok := hx1_3
    have hpn : 1 ≤ ls_1.length ∧ ls_1.length ≤ 12 ∧ ws_1.length = ls_1.length := Zkk hok
    have hr0 : (at_ ws_1 0).length = 25 := (Zcu (Zcd.1 hok).2.2 (j := 0) (by show 0 < ws_1.length; omega)).1
    refine x_r [(1, .lend [(7001, Zaa s, Zaa s'_1)] [(9231, tAS ls_1), (9203, Zbm ws_1), (9232, Zbv 9203 ws_1)] [(true, .any)] false (.agg [.arr 9231, .arr 9232])), (2, .new 3)] [0, 2, 3] [2, 3, 7001, 9203, 9231, 9232] [.ref 7001 0, .ref 2 0, .ref 3 0] [some (.box [Zao, Zao]), some (.box [.arr 9231, .arr 9232]), some (Zaa s'_1), some (Zbm ws_1), some (tAS ls_1), some (Zbv 9203 ws_1)] [Zaz Tryz.prog 29 [.ref 7001 0] (Zaf [(7001, Zaa s)]) false (.agg [.arr 9231, .arr 9232]) (Zaf [(7001, Zaa s'_1), (9231, tAS ls_1), (9203, Zbm ws_1), (9232, Zbv 9203 ws_1)]) ∧ (((Zaa s : Ob) = Zaa s ∨ Zeu Zel true (Zaa s) (Zaa s)) ∧ Zar false (Zaa s)) ∧ True] ⟨⟨hc1, ⟨.inl rfl, (by simp [Zar, Zah, Zak, Zdj])⟩, trivial⟩, trivial⟩ ?_
    refine Zab ?_
    refine Zap ?_
    refine Zap ?_
    obtain ⟨v_2, s'_2, hx2_0, hx2_1, hx2_2, hx2_3, hc2⟩ := Zdu s'_1 24 (by first | assumption | (simp only [Zbj] at *; simp_all; done)) (by omega)
    refine x_r [(1, .lend [(7001, Zaa s'_1, Zaa s'_2)] [] [(true, .any), (true, .any)] true (I v_2))] [0, 2, 3, 9] [2, 3, 7001, 9203, 9231, 9232] [.ref 7001 0, .ref 2 0, .ref 3 0, I v_2] [some (.box [Zao, Zao]), some (.box [.arr 9231, .arr 9232]), some (Zaa s'_2), some (Zbm ws_1), some (tAS ls_1), some (Zbv 9203 ws_1)] [Zaz Tryz.prog 48 [.ref 7001 0, I 24] (Zaf [(7001, Zaa s'_1)]) true (I v_2) (Zaf [(7001, Zaa s'_2)]) ∧ (((Zaa s'_1 : Ob) = Zaa s'_1 ∨ Zeu Zel true (Zaa s'_1) (Zaa s'_1)) ∧ Zar false (Zaa s'_1)) ∧ True] ⟨⟨hc2, ⟨.inl rfl, (by simp [Zar, Zah, Zak, Zdj])⟩, trivial⟩, trivial⟩ ?_
    refine Zab ?_
    refine Zbz ?_
    refine Zap ?_
    by_cases h1 : v_2 = 0
    ·refine x_r [(0, .dec true)] [0, 2, 3, 9, 10] [2, 3, 7001, 9203, 9231, 9232] [.ref 7001 0, .ref 2 0, .ref 3 0, I v_2, Bv true] [some (.box [Zao, Zao]), some (.box [.arr 9231, .arr 9232]), some (Zaa s'_2), some (Zbm ws_1), some (tAS ls_1), some (Zbv 9203 ws_1)] [v_2 = 0] ⟨h1, trivial⟩ ?_
     refine Zab ?_
     refine Zbq rfl ?_
     obtain ⟨v_3, s'_3, hx3_0, hx3_1, hx3_2, hx3_3, hx3_4, hc3⟩ := Yct s'_2 ([(⟨#[]⟩ : ByteArray), (⟨#[122, 122]⟩ : ByteArray), (⟨#[48]⟩ : ByteArray)]) (by first | assumption | (simp only [Zbj] at *; simp_all; done)) (by omega) (by decide)
     have htz := hx3_0
     refine x_r [(3, .new 15), (4, .lend [(7001, Zaa s'_2, Zaa s'_3)] [] [(true, .any), (false, slS false ([(⟨#[]⟩ : ByteArray), (⟨#[122, 122]⟩ : ByteArray), (⟨#[48]⟩ : ByteArray)]))] true (Sv v_3))] [2, 3] [2, 3, 7001, 9203, 9231, 9232] [.ref 2 0, .ref 3 0] [some (.box [Zao, Zao]), some (.box [.arr 9231, .arr 9232]), some (Zaa s'_3), some (Zbm ws_1), some (.arr 1 ls_1.length (fun q => bif Nat.beq q 0 then [Sv v_3] else (fS ls_1) q)), some (Zbv 9203 ws_1)] [Zaz Tryz.prog 71 [.ref 7001 0, slS false ([(⟨#[]⟩ : ByteArray), (⟨#[122, 122]⟩ : ByteArray), (⟨#[48]⟩ : ByteArray)])] (Zaf [(7001, Zaa s'_2)]) true (Sv v_3) (Zaf [(7001, Zaa s'_3)]) ∧ ((false = true → true = true) ∧ 1 = 1 ∧ 3 = (([(⟨#[]⟩ : ByteArray), (⟨#[122, 122]⟩ : ByteArray), (⟨#[48]⟩ : ByteArray)]).length) ∧ ∀ i_, i_ < (([(⟨#[]⟩ : ByteArray), (⟨#[122, 122]⟩ : ByteArray), (⟨#[48]⟩ : ByteArray)]).length) → (Zcw [Sv (⟨#[]⟩ : ByteArray), Sv (⟨#[122, 122]⟩ : ByteArray), Sv (⟨#[48]⟩ : ByteArray)] 1) i_ = (fS ([(⟨#[]⟩ : ByteArray), (⟨#[122, 122]⟩ : ByteArray), (⟨#[48]⟩ : ByteArray)])) i_ ∨ (AV.idsL ((fS ([(⟨#[]⟩ : ByteArray), (⟨#[122, 122]⟩ : ByteArray), (⟨#[48]⟩ : ByteArray)])) i_) = [] ∧ leL (fun _ => none) false ((Zcw [Sv (⟨#[]⟩ : ByteArray), Sv (⟨#[122, 122]⟩ : ByteArray), Sv (⟨#[48]⟩ : ByteArray)] 1) i_) ((fS ([(⟨#[]⟩ : ByteArray), (⟨#[122, 122]⟩ : ByteArray), (⟨#[48]⟩ : ByteArray)])) i_))) ∧ (((Zaa s'_2 : Ob) = Zaa s'_2 ∨ Zeu Zel true (Zaa s'_2) (Zaa s'_2)) ∧ Zar false (Zaa s'_2)) ∧ True, (0 : Int) ≤ 0 ∧ 0 < (ls_1.length : Int), 0 < ls_1.length] ⟨⟨hc3, ⟨(fun h => by cases h), rfl, (by first | rfl | (simp; done) | (simp; omega) | omega), fun i_ hi_ => .inl (match i_, hi_ with | 0, _ => rfl | 1, _ => rfl | 2, _ => rfl | (i + 3), h => absurd h (by simp))⟩, ⟨.inl rfl, (by simp [Zar, Zah, Zak, Zdj])⟩, trivial⟩, ⟨(by omega), (by omega)⟩, (by omega), trivial⟩ ?_
     refine Zbr 0 ?_
     refine Zab ?_
     refine xR [] [2] [2, 7001, 9203, 9231, 9232] [.ref 2 0] [some (.box [.arr 9231, .arr 9232]), some (Zaa s'_3), some (Zbm ws_1), some (.arr 1 ls_1.length (fun q => bif Nat.beq q 0 then [Sv v_3] else (fS ls_1) q)), some (Zbv 9203 ws_1)] [] trivial ?_
     refine Zcf ?_
     refine Zbn ((Perceptron.mk (ls_1.set 0 v_3) ws_1), s'_3) (show (Zbj s'_3) ∧ (s'_3.code = s.code) ∧ (s.atx + 0 ≤ s'_3.atx ∧ s'_3.atx ≤ s.atx + 1000) ∧ (drP (Perceptron.mk (ls_1.set 0 v_3) ws_1)) ∧ (True) from ⟨(by first | omega | assumption | rfl | exact hs0.1 | exact hs0.2.1 | (simp only [*]; done) | exact Zcc hok | exact Zgp (Zcc hok) (by assumption) | exact Zgq (Zcc hok) (by simp) | exact ⟨by show ls.length ≤ 20; omega, hsz, by show ws.length ≤ 20; omega⟩), (by first | omega | assumption | rfl | exact hs0.1 | exact hs0.2.1 | (simp only [*]; done) | exact Zcc hok | exact Zgp (Zcc hok) (by assumption) | exact Zgq (Zcc hok) (by simp) | exact ⟨by show ls.length ≤ 20; omega, hsz, by show ws.length ≤ 20; omega⟩), (by first | omega | assumption | rfl | exact hs0.1 | exact hs0.2.1 | (simp only [*]; done) | exact Zcc hok | exact Zgp (Zcc hok) (by assumption) | exact Zgq (Zcc hok) (by simp) | exact ⟨by show ls.length ≤ 20; omega, hsz, by show ws.length ≤ 20; omega⟩), (by first | omega | assumption | rfl | exact hs0.1 | exact hs0.2.1 | (simp only [*]; done) | exact Zcc hok | exact Zgp (Zcc hok) (by assumption) | exact Zgq (Zcc hok) (by simp) | exact ⟨by show ls.length ≤ 20; omega, hsz, by show ws.length ≤ 20; omega⟩), trivial⟩) (⟨.inl rfl, trivial⟩) (.agg [.arr 9231, .arr 9232]) (by kernel_rfl) (.inr ⟨⟨(fun _ => rfl), rfl, (by first | rfl | (simp; done) | (simp; omega) | omega), fun i_ hi_ => .inl (Zic (enc := cS) rfl i_ hi_)⟩, ⟨⟨(fun _ => rfl), rfl, rfl, Zfw _ _ rfl⟩, rfl⟩⟩) (fun _ => rfl) (fun _ => (by simp [Zak, Zah, Zdd, Zer]))
    refine x_r [(0, .dec false)] [0, 2, 3, 9, 10] [2, 3, 7001, 9203, 9231, 9232] [.ref 7001 0, .ref 2 0, .ref 3 0, I v_2, Bv false] [some (.box [Zao, Zao]), some (.box [.arr 9231, .arr 9232]), some (Zaa s'_2), some (Zbm ws_1), some (tAS ls_1), some (Zbv 9203 ws_1)] [¬ (v_2 = 0)] ⟨h1, trivial⟩ ?_
    refine Zab ?_
    refine Zbe rfl ?_
    refine Zap ?_
    by_cases h2 : v_2 = 1
    ·refine x_r [(0, .dec true)] [0, 2, 3, 9, 18] [2, 3, 7001, 9203, 9231, 9232] [.ref 7001 0, .ref 2 0, .ref 3 0, I v_2, Bv true] [some (.box [Zao, Zao]), some (.box [.arr 9231, .arr 9232]), some (Zaa s'_2), some (Zbm ws_1), some (tAS ls_1), some (Zbv 9203 ws_1)] [v_2 = 1] ⟨h2, trivial⟩ ?_
     refine Zab ?_
     refine Zbq rfl ?_
     refine Zcz [] (T := [(0, .ref 7001 0), (2, .ref 2 0), (3, .ref 3 0), (9, I v_2), (18, Bv true)]) (O := [(2, .box [Zao, Zao]), (3, .box [slS true ls_1, Zbg true ws_1]), (7001, Zaa s'_2)]) rfl (⟨.inl rfl, .inl rfl, .inl rfl, .inl rfl, .inl rfl, trivial⟩) (⟨.inl rfl, .inr ⟨⟨(fun _ => rfl), rfl, rfl, fun i _ => .inl rfl⟩, ⟨⟨(fun _ => rfl), rfl, rfl, Zfw _ _ rfl⟩, rfl⟩⟩, .inl rfl, trivial⟩) ?_
     refine x_r [] [2, 3] [2, 3, 7001] [.ref 2 0, .ref 3 0] [some (.box [Zao, Zao]), some (.box [slS true ls_1, .sl true 1 ((ws_1.length : Int).toNat - 1) (Zpj 1 (fLI true ws_1))]), some (Zaa s'_2)] [(0 : Int) ≤ 1 ∧ (1 : Int) ≤ (ws_1.length : Int) ∧ (ws_1.length : Int) ≤ (ws_1.length : Int)] ⟨⟨(by omega), (by omega), (by omega)⟩, trivial⟩ ?_
     refine Zbr 0 ?_
     refine Zab ?_
     refine xR [] [2] [2, 7001] [.ref 2 0] [some (.box [slS true ls_1, .sl true 1 ((ws_1.length : Int).toNat - 1) (Zpj 1 (fLI true ws_1))]), some (Zaa s'_2)] [] trivial ?_
     refine Zcf ?_
     refine Zbn ((Perceptron.mk ls_1 (ws_1.drop 1)), s'_2) (show (Zbj s'_2) ∧ (s'_2.code = s.code) ∧ (s.atx + 0 ≤ s'_2.atx ∧ s'_2.atx ≤ s.atx + 1000) ∧ (drP (Perceptron.mk ls_1 (ws_1.drop 1))) ∧ (True) from ⟨(by first | omega | assumption | rfl | exact hs0.1 | exact hs0.2.1 | (simp only [*]; done) | exact Zcc hok | exact Zgp (Zcc hok) (by assumption) | exact Zgq (Zcc hok) (by simp) | exact ⟨by show ls.length ≤ 20; omega, hsz, by show ws.length ≤ 20; omega⟩), (by first | omega | assumption | rfl | exact hs0.1 | exact hs0.2.1 | (simp only [*]; done) | exact Zcc hok | exact Zgp (Zcc hok) (by assumption) | exact Zgq (Zcc hok) (by simp) | exact ⟨by show ls.length ≤ 20; omega, hsz, by show ws.length ≤ 20; omega⟩), (by first | omega | assumption | rfl | exact hs0.1 | exact hs0.2.1 | (simp only [*]; done) | exact Zcc hok | exact Zgp (Zcc hok) (by assumption) | exact Zgq (Zcc hok) (by simp) | exact ⟨by show ls.length ≤ 20; omega, hsz, by show ws.length ≤ 20; omega⟩), (by first | omega | assumption | rfl | exact hs0.1 | exact hs0.2.1 | (simp only [*]; done) | exact Zcc hok | exact Zgp (Zcc hok) (by assumption) | exact Zgq (Zcc hok) (by simp) | exact ⟨by show ls.length ≤ 20; omega, hsz, by show ws.length ≤ 20; omega⟩), trivial⟩) (⟨.inl rfl, trivial⟩) (.agg [slS true ls_1, .sl true 1 ((ws_1.length : Int).toNat - 1) (Zpj 1 (fLI true ws_1))]) (by kernel_rfl) (.inr ⟨⟨(fun _ => rfl), rfl, rfl, fun i _ => .inl rfl⟩, ⟨⟨(fun _ => rfl), rfl, (by first | rfl | (simp; done) | (simp; omega) | omega), fun i_ hi_ => .inl (Zxl (enc := (cLI true)) hi_)⟩, rfl⟩⟩) (fun _ => rfl) (fun _ => (by simp [Zak, Zah, Zdd, Zer]))
    refine x_r [(0, .dec false)] [0, 2, 3, 9, 18] [2, 3, 7001, 9203, 9231, 9232] [.ref 7001 0, .ref 2 0, .ref 3 0, I v_2, Bv false] [some (.box [Zao, Zao]), some (.box [.arr 9231, .arr 9232]), some (Zaa s'_2), some (Zbm ws_1), some (tAS ls_1), some (Zbv 9203 ws_1)] [¬ (v_2 = 1)] ⟨h2, trivial⟩ ?_
    refine Zab ?_
    refine Zbe rfl ?_
    refine Zap ?_
    by_cases h3 : v_2 = 2
    ·refine x_r [(0, .dec true)] [0, 2, 3, 9, 24] [2, 3, 7001, 9203, 9231, 9232] [.ref 7001 0, .ref 2 0, .ref 3 0, I v_2, Bv true] [some (.box [Zao, Zao]), some (.box [.arr 9231, .arr 9232]), some (Zaa s'_2), some (Zbm ws_1), some (tAS ls_1), some (Zbv 9203 ws_1)] [v_2 = 2] ⟨h3, trivial⟩ ?_
     refine Zab ?_
     refine Zbq rfl ?_
     refine Zap ?_
     obtain ⟨v_4, s'_4, hx4_0, hx4_1, hx4_2, hx4_3, hc4⟩ := Zdu s'_2 25 (by first | assumption | (simp only [Zbj] at *; simp_all; done)) (by omega)
     refine x_r [(1, .lend [(7001, Zaa s'_2, Zaa s'_4)] [] [(true, .any), (true, .any)] true (I v_4))] [0, 2, 3, 4] [2, 3, 7001, 9203, 9231, 9232] [.ref 7001 0, .ref 2 0, .ref 3 0, I v_4] [some (.box [Zao, Zao]), some (.box [.arr 9231, .arr 9232]), some (Zaa s'_4), some (Zbm ws_1), some (tAS ls_1), some (Zbv 9203 ws_1)] [Zaz Tryz.prog 48 [.ref 7001 0, I 25] (Zaf [(7001, Zaa s'_2)]) true (I v_4) (Zaf [(7001, Zaa s'_4)]) ∧ (((Zaa s'_2 : Ob) = Zaa s'_2 ∨ Zeu Zel true (Zaa s'_2) (Zaa s'_2)) ∧ Zar false (Zaa s'_2)) ∧ True] ⟨⟨hc4, ⟨.inl rfl, (by simp [Zar, Zah, Zak, Zdj])⟩, trivial⟩, trivial⟩ ?_
     refine Zab ?_
     obtain ⟨v_5, s'_5, hx5_0, hx5_1, hx5_2, hx5_3, hc5⟩ := among_ok s'_4 ([(-1000001), (-1000000), 1000000, 1000001]) (by first | assumption | (simp only [Zbj] at *; simp_all; done)) (by omega) (by simp)
     refine x_r [(6, .new 34), (7, .lend [(7001, Zaa s'_4, Zaa s'_5)] [] [(true, .any), (false, slI false ([(-1000001), (-1000000), 1000000, 1000001]))] true (I v_5))] [2, 3] [2, 3, 7001, 9203, 9231, 9232] [.ref 2 0, .ref 3 0] [some (.box [Zao, Zao]), some (.box [.arr 9231, .arr 9232]), some (Zaa s'_5), some (.fam ws_1.length 1 (mLI ws_1) (fun q => bif Nat.beq q 0 then (fun q => bif Nat.beq q v_4.toNat then [I v_5] else (gLI ws_1) 0 q) else (gLI ws_1) q)), some (tAS ls_1), some (Zbv 9203 ws_1)] [(0 : Int) ≤ 0 ∧ 0 < (ws_1.length : Int), 0 < ws_1.length, Zaz Tryz.prog 84 [.ref 7001 0, slI false ([(-1000001), (-1000000), 1000000, 1000001])] (Zaf [(7001, Zaa s'_4)]) true (I v_5) (Zaf [(7001, Zaa s'_5)]) ∧ ((false = true → true = true) ∧ 1 = 1 ∧ 4 = (([(-1000001), (-1000000), 1000000, 1000001]).length) ∧ ∀ i_, i_ < (([(-1000001), (-1000000), 1000000, 1000001]).length) → (Zcw [I (-1000001), I (-1000000), I 1000000, I 1000001] 1) i_ = (fI ([(-1000001), (-1000000), 1000000, 1000001])) i_ ∨ (AV.idsL ((fI ([(-1000001), (-1000000), 1000000, 1000001])) i_) = [] ∧ leL (fun _ => none) false ((Zcw [I (-1000001), I (-1000000), I 1000000, I 1000001] 1) i_) ((fI ([(-1000001), (-1000000), 1000000, 1000001])) i_))) ∧ (((Zaa s'_4 : Ob) = Zaa s'_4 ∨ Zeu Zel true (Zaa s'_4) (Zaa s'_4)) ∧ Zar false (Zaa s'_4)) ∧ True, 0 < ws_1.length ∧ (0 : Int) ≤ v_4 ∧ v_4 < (((at_ ws_1 0).length) : Int), 0 < ws_1.length ∧ v_4.toNat < (at_ ws_1 0).length] ⟨⟨(by omega), (by omega)⟩, (by omega), ⟨hc5, ⟨(fun h => by cases h), rfl, (by first | rfl | (simp; done) | (simp; omega) | omega), fun i_ hi_ => .inl (match i_, hi_ with | 0, _ => rfl | 1, _ => rfl | 2, _ => rfl | 3, _ => rfl | (i + 4), h => absurd h (by simp))⟩, ⟨.inl rfl, (by simp [Zar, Zah, Zak, Zdj])⟩, trivial⟩, ⟨(by omega), (by omega), (by omega)⟩, ⟨(by omega), (by omega)⟩, trivial⟩ ?_
     refine Zbr 0 ?_
     refine Zab ?_
     refine Zap ?_
     refine Zcz [] (T := [(2, .ref 2 0), (3, .ref 3 0)]) (O := [(2, .box [Zao, Zao]), (3, .box [.arr 9231, .arr 9232]), (7001, Zaa s'_5), (9203, Zbm (ws_1.set 0 ((at_ ws_1 0).set v_4.toNat v_5))), (9231, tAS ls_1), (9232, Zbv 9203 (ws_1.set 0 ((at_ ws_1 0).set v_4.toNat v_5)))]) rfl (⟨.inl rfl, .inl rfl, trivial⟩) (⟨.inl rfl, .inl rfl, .inl rfl, .inr (Zup (P := 0) (k := v_4.toNat) ((by omega)) ((by omega)) (by simp only [Nat.beq_refl, cond_true]; try rfl) (by intro i hi; simp only [Nat.beq_refl, cond_true, Zjm hi, cond_false]; try rfl) (by intro p hp; simp only [Zjm hp, cond_false])), .inl rfl, .inr ⟨rfl, rfl, (by first | rfl | (simp; done) | omega), fun i_ hi_ => .inl (Zuq 9203 0 ws_1 ((at_ ws_1 0).set v_4.toNat v_5) i_)⟩, trivial⟩) ?_
     refine x_r [] [2] [2, 7001, 9203, 9231, 9232] [.ref 2 0] [some (.box [.arr 9231, .arr 9232]), some (Zaa s'_5), some (Zbm (ws_1.set 0 ((at_ ws_1 0).set v_4.toNat v_5))), some (tAS ls_1), some (Zbv 9203 (ws_1.set 0 ((at_ ws_1 0).set v_4.toNat v_5)))] [] trivial ?_
     refine Zab ?_
     refine Zcf ?_
     refine Zbn ((Perceptron.mk ls_1 (ws_1.set 0 ((at_ ws_1 0).set v_4.toNat v_5))), s'_5) (show (Zbj s'_5) ∧ (s'_5.code = s.code) ∧ (s.atx + 0 ≤ s'_5.atx ∧ s'_5.atx ≤ s.atx + 1000) ∧ (drP (Perceptron.mk ls_1 (ws_1.set 0 ((at_ ws_1 0).set v_4.toNat v_5)))) ∧ (True) from ⟨(by first | omega | assumption | rfl | exact hs0.1 | exact hs0.2.1 | (simp only [*]; done) | exact Zcc hok | exact Zgp (Zcc hok) (by assumption) | exact Zgq (Zcc hok) (by simp) | exact ⟨by show ls.length ≤ 20; omega, hsz, by show ws.length ≤ 20; omega⟩), (by first | omega | assumption | rfl | exact hs0.1 | exact hs0.2.1 | (simp only [*]; done) | exact Zcc hok | exact Zgp (Zcc hok) (by assumption) | exact Zgq (Zcc hok) (by simp) | exact ⟨by show ls.length ≤ 20; omega, hsz, by show ws.length ≤ 20; omega⟩), (by first | omega | assumption | rfl | exact hs0.1 | exact hs0.2.1 | (simp only [*]; done) | exact Zcc hok | exact Zgp (Zcc hok) (by assumption) | exact Zgq (Zcc hok) (by simp) | exact ⟨by show ls.length ≤ 20; omega, hsz, by show ws.length ≤ 20; omega⟩), (by first | omega | assumption | rfl | exact hs0.1 | exact hs0.2.1 | (simp only [*]; done) | exact Zcc hok | exact Zgp (Zcc hok) (by assumption) | exact Zgq (Zcc hok) (by simp) | exact ⟨by show ls.length ≤ 20; omega, hsz, by show ws.length ≤ 20; omega⟩), trivial⟩) (⟨.inl rfl, trivial⟩) (.agg [.arr 9231, .arr 9232]) (by kernel_rfl) (.inr ⟨⟨(fun _ => rfl), rfl, rfl, fun i _ => .inl rfl⟩, ⟨⟨(fun _ => rfl), rfl, rfl, Zfw _ _ rfl⟩, rfl⟩⟩) (fun _ => rfl) (fun _ => (by simp [Zak, Zah, Zdd, Zer]))
    refine x_r [(0, .dec false)] [0, 2, 3, 9, 24] [2, 3, 7001, 9203, 9231, 9232] [.ref 7001 0, .ref 2 0, .ref 3 0, I v_2, Bv false] [some (.box [Zao, Zao]), some (.box [.arr 9231, .arr 9232]), some (Zaa s'_2), some (Zbm ws_1), some (tAS ls_1), some (Zbv 9203 ws_1)] [¬ (v_2 = 2)] ⟨h3, trivial⟩ ?_
    refine Zab ?_
    refine Zbe rfl ?_
    refine Zap ?_
    by_cases h4 : v_2 = 3
    ·refine x_r [(0, .dec true)] [0, 2, 3, 9, 37] [2, 3, 7001, 9203, 9231, 9232] [.ref 7001 0, .ref 2 0, .ref 3 0, I v_2, Bv true] [some (.box [Zao, Zao]), some (.box [.arr 9231, .arr 9232]), some (Zaa s'_2), some (Zbm ws_1), some (tAS ls_1), some (Zbv 9203 ws_1)] [v_2 = 3] ⟨h4, trivial⟩ ?_
     refine Zab ?_
     refine Zbq rfl ?_
     refine Zcz [] (T := [(0, .ref 7001 0), (2, .ref 2 0), (3, .ref 3 0), (9, I v_2), (37, Bv true)]) (O := [(2, .box [Zao, Zao]), (3, .box [.arr 9231, .arr 9232]), (7001, Zaa s'_2), (9231, tAS ls_1), (9232, .oar [9203] 1 ws_1.length (fLI true ws_1))]) rfl (⟨.inl rfl, .inl rfl, .inl rfl, .inl rfl, .inl rfl, trivial⟩) (⟨.inl rfl, .inl rfl, .inl rfl, .inl rfl, .inr ⟨rfl, rfl, rfl, fun i hi => .inr (Zfw true _ rfl i hi)⟩, trivial⟩) ?_
     refine x_r [] [2, 3] [2, 3, 7001, 9231, 9232] [.ref 2 0, .ref 3 0] [some (.box [Zao, Zao]), some (.box [.arr 9231, .arr 9232]), some (Zaa s'_2), some (tAS ls_1), some (.oar [9203] 1 ws_1.length (fun q => bif Nat.beq q 0 then [.sl true 1 ((((at_ ws_1 0).length) : Int).toNat - 1) (Zpj 1 (fI (at_ ws_1 0)))] else (fLI true ws_1) q))] [(0 : Int) ≤ 0 ∧ 0 < (ws_1.length : Int), 0 < ws_1.length, (0 : Int) ≤ 1 ∧ (1 : Int) ≤ (((at_ ws_1 0).length) : Int) ∧ (((at_ ws_1 0).length) : Int) ≤ (((at_ ws_1 0).length) : Int), (0 : Int) ≤ 0 ∧ 0 < (ws_1.length : Int), 0 < ws_1.length] ⟨⟨(by omega), (by omega)⟩, (by omega), ⟨(by omega), (by omega), (by omega)⟩, ⟨(by omega), (by omega)⟩, (by omega), trivial⟩ ?_
     refine Zbr 0 ?_
     refine Zab ?_
     refine xR [] [2] [2, 7001, 9231, 9232] [.ref 2 0] [some (.box [.arr 9231, .arr 9232]), some (Zaa s'_2), some (tAS ls_1), some (.oar [9203] 1 ws_1.length (fun q => bif Nat.beq q 0 then [.sl true 1 ((((at_ ws_1 0).length) : Int).toNat - 1) (Zpj 1 (fI (at_ ws_1 0)))] else (fLI true ws_1) q))] [] trivial ?_
     refine Zcf ?_
     refine Zbn ((Perceptron.mk ls_1 (ws_1.set 0 ((at_ ws_1 0).drop 1))), s'_2) (show (Zbj s'_2) ∧ (s'_2.code = s.code) ∧ (s.atx + 0 ≤ s'_2.atx ∧ s'_2.atx ≤ s.atx + 1000) ∧ (drP (Perceptron.mk ls_1 (ws_1.set 0 ((at_ ws_1 0).drop 1)))) ∧ (True) from ⟨(by first | omega | assumption | rfl | exact hs0.1 | exact hs0.2.1 | (simp only [*]; done) | exact Zcc hok | exact Zgp (Zcc hok) (by assumption) | exact Zgq (Zcc hok) (by simp) | exact ⟨by show ls.length ≤ 20; omega, hsz, by show ws.length ≤ 20; omega⟩), (by first | omega | assumption | rfl | exact hs0.1 | exact hs0.2.1 | (simp only [*]; done) | exact Zcc hok | exact Zgp (Zcc hok) (by assumption) | exact Zgq (Zcc hok) (by simp) | exact ⟨by show ls.length ≤ 20; omega, hsz, by show ws.length ≤ 20; omega⟩), (by first | omega | assumption | rfl | exact hs0.1 | exact hs0.2.1 | (simp only [*]; done) | exact Zcc hok | exact Zgp (Zcc hok) (by assumption) | exact Zgq (Zcc hok) (by simp) | exact ⟨by show ls.length ≤ 20; omega, hsz, by show ws.length ≤ 20; omega⟩), (by first | omega | assumption | rfl | exact hs0.1 | exact hs0.2.1 | (simp only [*]; done) | exact Zcc hok | exact Zgp (Zcc hok) (by assumption) | exact Zgq (Zcc hok) (by simp) | exact ⟨by show ls.length ≤ 20; omega, hsz, by show ws.length ≤ 20; omega⟩), trivial⟩) (⟨.inl rfl, trivial⟩) (.agg [.arr 9231, .arr 9232]) (by kernel_rfl) (.inr ⟨⟨(fun _ => rfl), rfl, rfl, fun i _ => .inl rfl⟩, ⟨⟨(fun _ => rfl), rfl, (by simp), oupdLI ws_1 0 ((at_ ws_1 0).drop 1) ⟨⟨(fun _ => rfl), rfl, (by first | rfl | (simp; done) | (simp; omega) | omega), fun i_ hi_ => .inl (Zxl (enc := cI) hi_)⟩, rfl⟩⟩, rfl⟩⟩) (fun _ => rfl) (fun _ => (by simp [Zak, Zah, Zdd, Zer]))
    refine x_r [(0, .dec false)] [0, 2, 3, 9, 37] [2, 3, 7001, 9203, 9231, 9232] [.ref 7001 0, .ref 2 0, .ref 3 0, I v_2, Bv false] [some (.box [Zao, Zao]), some (.box [.arr 9231, .arr 9232]), some (Zaa s'_2), some (Zbm ws_1), some (tAS ls_1), some (Zbv 9203 ws_1)] [¬ (v_2 = 3)] ⟨h4, trivial⟩ ?_
    refine Zab ?_
    refine Zbe rfl ?_
    refine Zap ?_
    by_cases h5 : v_2 = 4
    ·refine x_r [(0, .dec true)] [0, 2, 3, 47] [2, 3, 7001, 9203, 9231, 9232] [.ref 7001 0, .ref 2 0, .ref 3 0, Bv true] [some (.box [Zao, Zao]), some (.box [.arr 9231, .arr 9232]), some (Zaa s'_2), some (Zbm ws_1), some (tAS ls_1), some (Zbv 9203 ws_1)] [v_2 = 4] ⟨h5, trivial⟩ ?_
     refine Zab ?_
     refine Zbq rfl ?_
     refine xR [] [0, 2, 3] [2, 3, 7001] [.ref 7001 0, .ref 2 0, .ref 3 0] [some (.box [Zao, Zao]), some (.box [Zao, Zao]), some (Zaa s'_2)] [] trivial ?_
     refine xR [] [0, 2, 3, 5] [2, 3, 7001] [.ref 7001 0, .ref 2 0, .ref 3 0, I 0] [some (.box [Zao, Zao]), some (.box [Zao, Zao]), some (Zaa s'_2)] [] trivial ?_
     refine Zbz ?_
     refine Zkm 3 0 730 1 (fun _ => []) rfl (by kernel_rfl) ?_
     refine Zkm 3 1 731 1 (fun _ => []) rfl (by kernel_rfl) ?_
     refine Zzc 9203 1 (fun _ => 0) (fun _ _ => []) (by kernel_rfl) ?_
     refine Zcz [] (T := [(0, .ref 7001 0), (2, .ref 2 0), (3, .ref 3 0), (5, I 0)]) (O := [(2, .box [Zao, Zao]), (3, .box [.arr 730, .arr 731]), (730, tAS ([] : List ByteArray)), (731, Zbv 9203 ([] : List (List Int))), (7001, Zaa s'_2), (9203, Zbm ([] : List (List Int)))]) rfl (⟨.inl rfl, .inl rfl, .inl rfl, .inl rfl, trivial⟩) (⟨.inl rfl, .inl rfl, .inr ⟨rfl, (by first | rfl | (simp; done) | (simp; omega) | omega), fun i_ hi_ => absurd hi_ (Nat.not_lt_zero _)⟩, .inr ⟨rfl, rfl, fun i hi => absurd hi (Nat.not_lt_zero _)⟩, .inl rfl, .inr ⟨rfl, rfl, fun p hp => absurd hp (Nat.not_lt_zero _)⟩, trivial⟩) ?_
     refine Zeh (X := Int × (List ByteArray) × (List (List Int)) × l00Src) (fun x => mkS [(0, .ref 7001 0), (2, .ref 2 0), (3, .ref 3 0), (5, I x.1)] [(2, .box [Zao, Zao]), (3, .box [.arr 730, .arr 731]), (730, tAS x.2.1), (731, Zbv 9203 x.2.2.1), (7001, Zaa x.2.2.2), (9203, Zbm x.2.2.1)]) (fun x => (Zbj x.2.2.2 ∧ x.2.2.2.code = s.code ∧ s.atx ≤ x.2.2.2.atx ∧ x.2.2.2.atx ≤ s.atx + 910 + 2 * x.1) ∧ (0 ≤ x.1 ∧ x.1 ≤ 13) ∧ ((x.2.1.length : Int) = x.1) ∧ ((x.2.2.1.length : Int) = x.1) ∧ (∀ l_ ∈ x.2.1, l_.size ≤ 64) ∧ True) (fun x => (14 - x.1).toNat) (0, ([] : List ByteArray), ([] : List (List Int)), s'_2) rfl (show (Zbj s'_2 ∧ s'_2.code = s.code ∧ s.atx ≤ s'_2.atx ∧ s'_2.atx ≤ s.atx + 910 + 2 * (0 : Int)) ∧ (0 ≤ (0 : Int) ∧ (0 : Int) ≤ 13) ∧ ((([] : List ByteArray).length : Int) = (0 : Int)) ∧ ((([] : List (List Int)).length : Int) = (0 : Int)) ∧ (∀ l_ ∈ ([] : List ByteArray), l_.size ≤ 64) ∧ True from ⟨(by exact ⟨by assumption, by first | assumption | rfl | (simp only [*]; done), by omega, by omega⟩), (by omega), (by rfl), (by rfl), (by (intro z hz; simp at hz)), trivial⟩) (fun x hI => ?_)
     obtain ⟨k, ls, ws, src⟩ := x
     obtain ⟨hs0, hk0, hll, hwl, hsz, _⟩ : (Zbj src ∧ src.code = s.code ∧ s.atx ≤ src.atx ∧ src.atx ≤ s.atx + 910 + 2 * k) ∧ (0 ≤ k ∧ k ≤ 13) ∧ ((ls.length : Int) = k) ∧ ((ws.length : Int) = k) ∧ (∀ l_ ∈ ls, l_.size ≤ 64) ∧ True := hI
     show XW _ _ _ _ (mkS [(0, .ref 7001 0), (2, .ref 2 0), (3, .ref 3 0), (5, I k)] [(2, .box [Zao, Zao]), (3, .box [.arr 730, .arr 731]), (730, tAS ls), (731, Zbv 9203 ws), (7001, Zaa src), (9203, Zbm ws)]) _ _
     refine Zap ?_
     refine Zap ?_
     obtain ⟨v_6, s'_6, hx6_0, hx6_1, hx6_2, hx6_3, hc6⟩ := Zdu src 2 (by first | assumption | (simp only [Zbj] at *; simp_all; done)) (by omega)
     by_cases h6 : k < (12 + v_6)
     ·refine x_r [(2, .lend [(7001, Zaa src, Zaa s'_6)] [] [(true, .any), (true, .any)] true (I v_6)), (4, .dec true)] [0, 2, 3, 5, 54] [2, 3, 730, 731, 7001, 9203] [.ref 7001 0, .ref 2 0, .ref 3 0, I k, Bv true] [some (.box [Zao, Zao]), some (.box [.arr 730, .arr 731]), some (tAS ls), some (Zbv 9203 ws), some (Zaa s'_6), some (Zbm ws)] [Zaz Tryz.prog 48 [.ref 7001 0, I 2] (Zaf [(7001, Zaa src)]) true (I v_6) (Zaf [(7001, Zaa s'_6)]) ∧ (((Zaa src : Ob) = Zaa src ∨ Zeu Zel true (Zaa src) (Zaa src)) ∧ Zar false (Zaa src)) ∧ True, inR .i64 (12 + v_6), k < (12 + v_6)] ⟨⟨hc6, ⟨.inl rfl, (by simp [Zar, Zah, Zak, Zdj])⟩, trivial⟩, (Zam (by omega) (by omega)), h6, trivial⟩ ?_
      refine Zab ?_
      refine Zbq rfl ?_
      refine Zca ?_
      refine Zab ?_
      refine Zap ?_
      refine Zbz ?_
      refine xR [(5, .new 62), (6, .as (Sv (Zgn ([(97 + k)])))), (7, .new 64), (8, .new 65)] [0, 2, 3, 5] [2, 3, 65, 731, 7001, 9203] [.ref 7001 0, .ref 2 0, .ref 3 0, I k] [some (.box [Zao, Zao]), some (.box [.arr 65, .arr 731]), some (.arr 1 (ls.length + 1) (Zdf ls.length (fS ls) (Zcw [Sv (Zgn ([(97 + k)]))] 1))), some (Zbv 9203 ws), some (Zaa s'_6), some (Zbm ws)] [inR .i64 (97 + k), inR .u8 (97 + k), (Zgn ([(97 + k)])).size = 1 ∧ ∀ i_, i_ < 1 → (Zcw [.val (.int .u8 (97 + k))] 1) i_ = Zhk (Zgn ([(97 + k)])) i_, (ls.length + 1) * 16 ≤ 140737488355328] ⟨(Zam (by omega) (by omega)), (Zxk (by omega) (by omega)), (Zyv (fun x hx => by simp only [List.mem_singleton] at hx; omega) (by first | rfl | (simp; done) | (simp; omega) | omega) (fun i_ hi_ => .inl (match i_, hi_ with | 0, _ => rfl | (i + 1), h => absurd h (by simp)))), (by omega), trivial⟩ ?_
      refine x_r [(2, .new 69), (3, .new 70), (4, .new 71)] [0, 2, 3, 5] [2, 3, 65, 69, 71, 7001, 9203] [.ref 7001 0, .ref 2 0, .ref 3 0, I k] [some (.box [Zao, Zao]), some (.box [.arr 65, .arr 71]), some (.arr 1 (ls.length + 1) (Zdf ls.length (fS ls) (Zcw [Sv (Zgn ([(97 + k)]))] 1))), some (.arr 1 25 (fun _ => [I 0])), some (.oar [9203, 69] 1 (ws.length + 1) (Zdf ws.length (oLI 9203 ws) (Zcw [.arr 69] 1))), some (Zaa s'_6), some (Zbm ws)] [(0 : Int) ≤ 25 ∧ (25 : Int) ≤ 25 ∧ (8 : Int) * 25 ≤ 281474976710656 ∧ (25 : Int) ≤ 9223372036854775807, (ws.length + 1) * 24 ≤ 140737488355328] ⟨⟨(by omega), (by omega), (by omega), (by omega)⟩, (by omega), trivial⟩ ?_
      refine Zbr 2 ?_
      refine Zab ?_
      refine x_r [] [0, 2, 3, 5] [2, 3, 65, 69, 71, 7001, 9203] [.ref 7001 0, .ref 2 0, .ref 3 0, I (k + 1)] [some (.box [Zao, Zao]), some (.box [.arr 65, .arr 71]), some (.arr 1 (ls.length + 1) (Zdf ls.length (fS ls) (Zcw [Sv (Zgn ([(97 + k)]))] 1))), some (.arr 1 25 (fun _ => [I 0])), some (.oar [9203, 69] 1 (ws.length + 1) (Zdf ws.length (oLI 9203 ws) (Zcw [.arr 69] 1))), some (Zaa s'_6), some (Zbm ws)] [inR .i64 (k + 1)] ⟨(Zam (by omega) (by omega)), trivial⟩ ?_
      refine Zlo 69 9203 rfl rfl rfl ?_
      refine Zcx [(730, 65), (731, 71)] (T := [(0, .ref 7001 0), (2, .ref 2 0), (3, .ref 3 0), (5, I (k + 1))]) (O := [(2, .box [Zao, Zao]), (3, .box [.arr 730, .arr 731]), (730, tAS (ls ++ [(Zgn ([(97 + k)]))])), (731, Zbv 9203 (ws ++ [(List.replicate 25 (0 : Int))])), (7001, Zaa s'_6), (9203, Zbm (ws ++ [(List.replicate 25 (0 : Int))]))]) rfl (⟨.inl rfl, .inl rfl, .inl rfl, .inl rfl, trivial⟩) (⟨.inl rfl, .inl rfl, .inr ⟨rfl, (by first | rfl | (simp; done) | (simp; omega) | omega), fun i_ hi_ => .inl (Zee (enc := cS) (xs := ls) rfl i_ hi_)⟩, .inr ⟨rfl, rfl, (by simp), fun i hi => .inl (Zqk rfl rfl rfl i hi)⟩, .inl rfl, .inr (Zql (List.replicate 25 (0 : Int)) (xs := ws) (f := (fun _ => [I 0])) (n := 25) (by first | rfl | (simp; done)) (fun i_ hi_ => Zkp (enc := cI) rfl i_ (by simpa using hi_))), trivial⟩) (Zcj ((k + 1), (ls ++ [(Zgn ([(97 + k)]))]), (ws ++ [(List.replicate 25 (0 : Int))]), s'_6) rfl (show (Zbj s'_6 ∧ s'_6.code = s.code ∧ s.atx ≤ s'_6.atx ∧ s'_6.atx ≤ s.atx + 910 + 2 * (k + 1)) ∧ (0 ≤ (k + 1) ∧ (k + 1) ≤ 13) ∧ (((ls ++ [(Zgn ([(97 + k)]))]).length : Int) = (k + 1)) ∧ (((ws ++ [(List.replicate 25 (0 : Int))]).length : Int) = (k + 1)) ∧ (∀ l_ ∈ (ls ++ [(Zgn ([(97 + k)]))]), l_.size ≤ 64) ∧ True from ⟨(by exact ⟨by assumption, by first | assumption | rfl | (simp only [*]; done), by omega, by omega⟩), (by omega), (by simp; omega), (by simp; omega), (by exact Zjo hsz (by rw [Zhu]; show 1 ≤ 64; omega)), trivial⟩) (by first | (show ((14 - (k + 1)).toNat : Nat) < (14 - k).toNat; omega) | (dsimp only; omega)))
     refine x_r [(2, .lend [(7001, Zaa src, Zaa s'_6)] [] [(true, .any), (true, .any)] true (I v_6)), (4, .dec false)] [0, 2, 3, 5, 54] [2, 3, 730, 731, 7001, 9203] [.ref 7001 0, .ref 2 0, .ref 3 0, I k, Bv false] [some (.box [Zao, Zao]), some (.box [.arr 730, .arr 731]), some (tAS ls), some (Zbv 9203 ws), some (Zaa s'_6), some (Zbm ws)] [Zaz Tryz.prog 48 [.ref 7001 0, I 2] (Zaf [(7001, Zaa src)]) true (I v_6) (Zaf [(7001, Zaa s'_6)]) ∧ (((Zaa src : Ob) = Zaa src ∨ Zeu Zel true (Zaa src) (Zaa src)) ∧ Zar false (Zaa src)) ∧ True, inR .i64 (12 + v_6), ¬ (k < (12 + v_6))] ⟨⟨hc6, ⟨.inl rfl, (by simp [Zar, Zah, Zak, Zdj])⟩, trivial⟩, (Zam (by omega) (by omega)), h6, trivial⟩ ?_
     refine Zab ?_
     refine Zbe rfl ?_
     refine Zeg ?_
     refine Zbs ?_
     refine Zbu ?_
     refine Zbt ?_
     refine Zbr 0 ?_
     refine Zab ?_
     refine xR [] [2] [2, 730, 731, 7001, 9203] [.ref 2 0] [some (.box [.arr 730, .arr 731]), some (tAS ls), some (Zbv 9203 ws), some (Zaa s'_6), some (Zbm ws)] [] trivial ?_
     refine Zcf ?_
     refine Zbn ((Perceptron.mk ls ws), s'_6) (show (Zbj s'_6) ∧ (s'_6.code = s.code) ∧ (s.atx + 0 ≤ s'_6.atx ∧ s'_6.atx ≤ s.atx + 1000) ∧ (drP (Perceptron.mk ls ws)) ∧ (True) from ⟨(by first | omega | assumption | rfl | exact hs0.1 | exact hs0.2.1 | (simp only [*]; done) | exact Zcc hok | exact Zgp (Zcc hok) (by assumption) | exact Zgq (Zcc hok) (by simp) | exact ⟨by show ls.length ≤ 20; omega, hsz, by show ws.length ≤ 20; omega⟩), (by first | omega | assumption | rfl | exact hs0.1 | exact hs0.2.1 | (simp only [*]; done) | exact Zcc hok | exact Zgp (Zcc hok) (by assumption) | exact Zgq (Zcc hok) (by simp) | exact ⟨by show ls.length ≤ 20; omega, hsz, by show ws.length ≤ 20; omega⟩), (by first | omega | assumption | rfl | exact hs0.1 | exact hs0.2.1 | (simp only [*]; done) | exact Zcc hok | exact Zgp (Zcc hok) (by assumption) | exact Zgq (Zcc hok) (by simp) | exact ⟨by show ls.length ≤ 20; omega, hsz, by show ws.length ≤ 20; omega⟩), (by first | omega | assumption | rfl | exact hs0.1 | exact hs0.2.1 | (simp only [*]; done) | exact Zcc hok | exact Zgp (Zcc hok) (by assumption) | exact Zgq (Zcc hok) (by simp) | exact ⟨by show ls.length ≤ 20; omega, hsz, by show ws.length ≤ 20; omega⟩), trivial⟩) (⟨.inl rfl, trivial⟩) (.agg [.arr 730, .arr 731]) (by kernel_rfl) (.inr ⟨⟨(fun _ => rfl), rfl, rfl, fun i _ => .inl rfl⟩, ⟨⟨(fun _ => rfl), rfl, rfl, Zfw _ _ rfl⟩, rfl⟩⟩) (fun _ => rfl) (fun _ => (by simp [Zak, Zah, Zdd, Zer]))
    refine x_r [(0, .dec false)] [0, 2, 3, 47] [2, 3, 7001, 9203, 9231, 9232] [.ref 7001 0, .ref 2 0, .ref 3 0, Bv false] [some (.box [Zao, Zao]), some (.box [.arr 9231, .arr 9232]), some (Zaa s'_2), some (Zbm ws_1), some (tAS ls_1), some (Zbv 9203 ws_1)] [¬ (v_2 = 4)] ⟨h5, trivial⟩ ?_
    refine Zab ?_
    refine Zbe rfl ?_
    refine Zca ?_
    refine Zbr 0 ?_
    refine Zab ?_
    refine xR [] [2] [2, 7001, 9203, 9231, 9232] [.ref 2 0] [some (.box [.arr 9231, .arr 9232]), some (Zaa s'_2), some (Zbm ws_1), some (tAS ls_1), some (Zbv 9203 ws_1)] [] trivial ?_
    refine Zcf ?_
    refine Zbn ((Perceptron.mk ls_1 ws_1), s'_2) (show (Zbj s'_2) ∧ (s'_2.code = s.code) ∧ (s.atx + 0 ≤ s'_2.atx ∧ s'_2.atx ≤ s.atx + 1000) ∧ (drP (Perceptron.mk ls_1 ws_1)) ∧ (True) from ⟨(by first | omega | assumption | rfl | exact hs0.1 | exact hs0.2.1 | (simp only [*]; done) | exact Zcc hok | exact Zgp (Zcc hok) (by assumption) | exact Zgq (Zcc hok) (by simp) | exact ⟨by show ls.length ≤ 20; omega, hsz, by show ws.length ≤ 20; omega⟩), (by first | omega | assumption | rfl | exact hs0.1 | exact hs0.2.1 | (simp only [*]; done) | exact Zcc hok | exact Zgp (Zcc hok) (by assumption) | exact Zgq (Zcc hok) (by simp) | exact ⟨by show ls.length ≤ 20; omega, hsz, by show ws.length ≤ 20; omega⟩), (by first | omega | assumption | rfl | exact hs0.1 | exact hs0.2.1 | (simp only [*]; done) | exact Zcc hok | exact Zgp (Zcc hok) (by assumption) | exact Zgq (Zcc hok) (by simp) | exact ⟨by show ls.length ≤ 20; omega, hsz, by show ws.length ≤ 20; omega⟩), (by first | omega | assumption | rfl | exact hs0.1 | exact hs0.2.1 | (simp only [*]; done) | exact Zcc hok | exact Zgp (Zcc hok) (by assumption) | exact Zgq (Zcc hok) (by simp) | exact ⟨by show ls.length ≤ 20; omega, hsz, by show ws.length ≤ 20; omega⟩), trivial⟩) (⟨.inl rfl, trivial⟩) (.agg [.arr 9231, .arr 9232]) (by kernel_rfl) (.inr ⟨⟨(fun _ => rfl), rfl, rfl, fun i _ => .inl rfl⟩, ⟨⟨(fun _ => rfl), rfl, rfl, Zfw _ _ rfl⟩, rfl⟩⟩) (fun _ => rfl) (fun _ => (by simp [Zak, Zah, Zdd, Zer]))
  obtain ⟨⟨v, s'⟩, ⟨hh0, hh1, hh2, hh3, _⟩, hc⟩ := hh
  exact ⟨v, s', hh0, hh1, hh2, hh3, hc⟩
theorem Zuw (a : Int) (b : Int) : Con Tryz.prog 50 [I a, I b] true (I (min a b)) := by
  refine Zdc (fn := Tryz.f50) (nt := 10) Tryz.func50 rfl rfl rfl rfl (by simp [Zah, Zak]) fun B hB => ?_
  refine aR [] [0, 1] [] [I a, I b] [] [] hB trivial ?_
  refine Zal ?_
  refine Zal ?_
  by_cases h1 : a < b
  ·refine Zby [(2, .dec true)] [0, 1, 7] [] [I a, I b, Bv true] [] [a < b] hB ⟨h1, trivial⟩ ?_
   refine Zac ?_
   refine Zbc rfl ?_
   refine aR [] [4] [] [I a] [] [] hB trivial ?_
   refine Zax ?_
   refine Zai ?_
   refine Zba hB (I a) (by kernel_rfl) (.inl (by refine congrArg I ?_; omega)) rfl (fun _ => trivial)
  refine Zby [(2, .dec false)] [0, 1, 7] [] [I a, I b, Bv false] [] [¬ (a < b)] hB ⟨h1, trivial⟩ ?_
  refine Zac ?_
  refine Zay rfl ?_
  refine Zbf ?_
  refine Zac ?_
  refine aR [] [4] [] [I b] [] [] hB trivial ?_
  refine Zax ?_
  refine Zba hB (I b) (by kernel_rfl) (.inl (by refine congrArg I ?_; omega)) rfl (fun _ => trivial)
theorem Zux (a : Int) (b : Int) : Con Tryz.prog 49 [I a, I b] true (I (max a b)) := by
  refine Zdc (fn := Tryz.f49) (nt := 10) Tryz.func49 rfl rfl rfl rfl (by simp [Zah, Zak]) fun B hB => ?_
  refine aR [] [0, 1] [] [I a, I b] [] [] hB trivial ?_
  refine Zal ?_
  refine Zal ?_
  by_cases h1 : b < a
  ·refine Zby [(2, .dec true)] [0, 1, 7] [] [I a, I b, Bv true] [] [b < a] hB ⟨h1, trivial⟩ ?_
   refine Zac ?_
   refine Zbc rfl ?_
   refine aR [] [4] [] [I a] [] [] hB trivial ?_
   refine Zax ?_
   refine Zai ?_
   refine Zba hB (I a) (by kernel_rfl) (.inl (by refine congrArg I ?_; omega)) rfl (fun _ => trivial)
  refine Zby [(2, .dec false)] [0, 1, 7] [] [I a, I b, Bv false] [] [¬ (b < a)] hB ⟨h1, trivial⟩ ?_
  refine Zac ?_
  refine Zay rfl ?_
  refine Zbf ?_
  refine Zac ?_
  refine aR [] [4] [] [I b] [] [] hB trivial ?_
  refine Zax ?_
  refine Zba hB (I b) (by kernel_rfl) (.inl (by refine congrArg I ?_; omega)) rfl (fun _ => trivial)
theorem Zmg (s : l00Src) (most : Int) (hs : Zbj s) (ha : s.atx ≤ 3999999999999999000) (hm : 1 ≤ most ∧ most ≤ 12) : ∃ (s' : l00Src) (fs : List Feat), (Zbj s') ∧ (s'.code = s.code) ∧ (s.atx + 0 ≤ s'.atx ∧ s'.atx ≤ s.atx + 300) ∧ (1 ≤ (fs.length : Int) ∧ (fs.length : Int) ≤ most) ∧ (∀ f_ ∈ fs, okF f_ = true) ∧ Zaz Tryz.prog 19 [.ref 7001 0, I most] (Zaf [(7001, Zaa s)]) false (.arr 9301) (Zaf [(7001, Zaa s'), (9301, Zdz fs)]) := by
  have hh : ∃ r : l00Src × (List Feat), ((Zbj r.1) ∧ (r.1.code = s.code) ∧ (s.atx + 0 ≤ r.1.atx ∧ r.1.atx ≤ s.atx + 300) ∧ (1 ≤ (r.2.length : Int) ∧ (r.2.length : Int) ≤ most) ∧ (∀ f_ ∈ r.2, okF f_ = true) ∧ (True)) ∧ Zaz Tryz.prog 19 [.ref 7001 0, I most] (Zaf [(7001, Zaa s)]) false (.arr 9301) (Zaf [(7001, Zaa r.1), (9301, Zdz r.2)]) := by
    refine Zde (Φ := fun r : l00Src × (List Feat) => (Zbj r.1) ∧ (r.1.code = s.code) ∧ (s.atx + 0 ≤ r.1.atx ∧ r.1.atx ≤ s.atx + 300) ∧ (1 ≤ (r.2.length : Int) ∧ (r.2.length : Int) ≤ most) ∧ (∀ f_ ∈ r.2, okF f_ = true) ∧ (True)) [(7001, Zaa s)] (fun r => [(7001, Zaa r.1), (9301, Zdz r.2)]) (fn := Tryz.f19) (nt := 51) Tryz.func19 rfl rfl (args := [.ref 7001 0, I most]) rfl (Zbw (.inr trivial) (Zbw (.inl ⟨rfl, trivial⟩) Zdb)) (res := fun r => .arr 9301) ?_
    refine xR [] [0, 1] [7001] [.ref 7001 0, I most] [some (Zaa s)] [] trivial ?_
    refine xR [(0, .new 10)] [0, 1, 5] [10, 7001] [.ref 7001 0, I most, .arr 10] [some (.arr 3 0 (Zcw [] 3)), some (Zaa s)] [] trivial ?_
    refine Zap ?_
    obtain ⟨v_1, s'_1, hx1_0, hx1_1, hx1_2, hx1_3, hc1⟩ := Zdu s 200 (by first | assumption | (simp only [Zbj] at *; simp_all; done)) (by omega)
    refine x_r [(1, .lend [(7001, Zaa s, Zaa s'_1)] [] [(true, .any), (true, .any)] true (I v_1))] [0, 1, 5, 6] [10, 7001] [.ref 7001 0, I most, .arr 10, I v_1] [some (.arr 3 0 (Zcw [] 3)), some (Zaa s'_1)] [Zaz Tryz.prog 48 [.ref 7001 0, I 200] (Zaf [(7001, Zaa s)]) true (I v_1) (Zaf [(7001, Zaa s'_1)]) ∧ (((Zaa s : Ob) = Zaa s ∨ Zeu Zel true (Zaa s) (Zaa s)) ∧ Zar false (Zaa s)) ∧ True] ⟨⟨hc1, ⟨.inl rfl, (by simp [Zar, Zah, Zak, Zdj])⟩, trivial⟩, trivial⟩ ?_
    refine Zab ?_
    refine Zap ?_
    obtain ⟨v_2, s'_2, hx2_0, hx2_1, hx2_2, hx2_3, hc2⟩ := Zdu s'_1 200 (by first | assumption | (simp only [Zbj] at *; simp_all; done)) (by omega)
    refine x_r [(1, .lend [(7001, Zaa s'_1, Zaa s'_2)] [] [(true, .any), (true, .any)] true (I v_2))] [0, 1, 5, 6, 7] [10, 7001] [.ref 7001 0, I most, .arr 10, I v_1, I v_2] [some (.arr 3 0 (Zcw [] 3)), some (Zaa s'_2)] [Zaz Tryz.prog 48 [.ref 7001 0, I 200] (Zaf [(7001, Zaa s'_1)]) true (I v_2) (Zaf [(7001, Zaa s'_2)]) ∧ (((Zaa s'_1 : Ob) = Zaa s'_1 ∨ Zeu Zel true (Zaa s'_1) (Zaa s'_1)) ∧ Zar false (Zaa s'_1)) ∧ True] ⟨⟨hc2, ⟨.inl rfl, (by simp [Zar, Zah, Zak, Zdj])⟩, trivial⟩, trivial⟩ ?_
    refine Zab ?_
    refine Zap ?_
    obtain ⟨v_3, s'_3, hx3_0, hx3_1, hx3_2, hx3_3, hc3⟩ := Zdu s'_2 8 (by first | assumption | (simp only [Zbj] at *; simp_all; done)) (by omega)
    refine x_r [(1, .lend [(7001, Zaa s'_2, Zaa s'_3)] [] [(true, .any), (true, .any)] true (I v_3))] [0, 1, 5, 6, 7, 8] [10, 7001] [.ref 7001 0, I most, .arr 10, I v_1, I v_2, I v_3] [some (.arr 3 0 (Zcw [] 3)), some (Zaa s'_3)] [Zaz Tryz.prog 48 [.ref 7001 0, I 8] (Zaf [(7001, Zaa s'_2)]) true (I v_3) (Zaf [(7001, Zaa s'_3)]) ∧ (((Zaa s'_2 : Ob) = Zaa s'_2 ∨ Zeu Zel true (Zaa s'_2) (Zaa s'_2)) ∧ Zar false (Zaa s'_2)) ∧ True] ⟨⟨hc3, ⟨.inl rfl, (by simp [Zar, Zah, Zak, Zdj])⟩, trivial⟩, trivial⟩ ?_
    refine Zab ?_
    refine Zap ?_
    refine Zap ?_
    obtain ⟨v_4, s'_4, hx4_0, hx4_1, hx4_2, hx4_3, hc4⟩ := Zdu s'_3 most (by first | assumption | (simp only [Zbj] at *; simp_all; done)) (by omega)
    refine x_r [(2, .lend [(7001, Zaa s'_3, Zaa s'_4)] [] [(true, .any), (true, .any)] true (I v_4))] [0, 5, 6, 7, 8, 9] [10, 7001] [.ref 7001 0, .arr 10, I v_1, I v_2, I v_3, I (1 + v_4)] [some (.arr 3 0 (Zcw [] 3)), some (Zaa s'_4)] [Zaz Tryz.prog 48 [.ref 7001 0, I most] (Zaf [(7001, Zaa s'_3)]) true (I v_4) (Zaf [(7001, Zaa s'_4)]) ∧ (((Zaa s'_3 : Ob) = Zaa s'_3 ∨ Zeu Zel true (Zaa s'_3) (Zaa s'_3)) ∧ Zar false (Zaa s'_3)) ∧ True, inR .i64 (1 + v_4)] ⟨⟨hc4, ⟨.inl rfl, (by simp [Zar, Zah, Zak, Zdj])⟩, trivial⟩, (Zam (by omega) (by omega)), trivial⟩ ?_
    refine Zab ?_
    refine Zbz ?_
    refine Zcz [] (T := [(0, .ref 7001 0), (5, .arr 10), (6, I v_1), (7, I v_2), (8, I v_3), (9, I (1 + v_4))]) (O := [(10, Zdz ([] : List Feat)), (7001, Zaa s'_4)]) rfl (⟨.inl rfl, .inl rfl, .inl rfl, .inl rfl, .inl rfl, .inl rfl, trivial⟩) (⟨.inr ⟨rfl, (by first | rfl | (simp; done) | (simp; omega) | omega), fun i_ hi_ => absurd hi_ (Nat.not_lt_zero _)⟩, .inl rfl, trivial⟩) ?_
    refine Zeh (X := (List Feat) × Int × Int × Int × Int × l00Src) (fun x => mkS [(0, .ref 7001 0), (5, .arr 10), (6, I x.2.1), (7, I x.2.2.1), (8, I x.2.2.2.1), (9, I x.2.2.2.2.1)] [(10, Zdz x.1), (7001, Zaa x.2.2.2.2.2)]) (fun x => (Zbj x.2.2.2.2.2 ∧ x.2.2.2.2.2.code = s.code ∧ s.atx ≤ x.2.2.2.2.2.atx ∧ x.2.2.2.2.2.atx ≤ s.atx + 20 + 10 * (most - x.2.2.2.2.1)) ∧ (0 ≤ x.2.2.2.2.1 ∧ x.2.2.2.2.1 ≤ most) ∧ ((x.1.length : Int) + x.2.2.2.2.1 ≤ most) ∧ (1 ≤ (x.1.length : Int) + x.2.2.2.2.1) ∧ (0 ≤ x.2.1 ∧ x.2.1 ≤ 255) ∧ (0 ≤ x.2.2.1 ∧ x.2.2.1 ≤ 255) ∧ (0 ≤ x.2.2.2.1 ∧ x.2.2.2.1 ≤ 7) ∧ (∀ f_ ∈ x.1, okF f_ = true) ∧ True) (fun x => x.2.2.2.2.1.toNat) (([] : List Feat), v_1, v_2, v_3, (1 + v_4), s'_4) rfl (show (Zbj s'_4 ∧ s'_4.code = s.code ∧ s.atx ≤ s'_4.atx ∧ s'_4.atx ≤ s.atx + 20 + 10 * (most - (1 + v_4))) ∧ (0 ≤ (1 + v_4) ∧ (1 + v_4) ≤ most) ∧ ((([] : List Feat).length : Int) + (1 + v_4) ≤ most) ∧ (1 ≤ (([] : List Feat).length : Int) + (1 + v_4)) ∧ (0 ≤ v_1 ∧ v_1 ≤ 255) ∧ (0 ≤ v_2 ∧ v_2 ≤ 255) ∧ (0 ≤ v_3 ∧ v_3 ≤ 7) ∧ (∀ f_ ∈ ([] : List Feat), okF f_ = true) ∧ True from ⟨(by exact ⟨by assumption, by first | assumption | rfl | (simp only [*]; done), by omega, by omega⟩), (by omega), (by simp; omega), (by simp; omega), (by omega), (by omega), (by omega), (by intro f_ hf_; cases hf_), trivial⟩) (fun x hI => ?_)
    obtain ⟨out, x, y, d, k, src⟩ := x
    obtain ⟨hs0, hk0, hol, hol2, hx0, hy0, hd0, hfo, _⟩ : (Zbj src ∧ src.code = s.code ∧ s.atx ≤ src.atx ∧ src.atx ≤ s.atx + 20 + 10 * (most - k)) ∧ (0 ≤ k ∧ k ≤ most) ∧ ((out.length : Int) + k ≤ most) ∧ (1 ≤ (out.length : Int) + k) ∧ (0 ≤ x ∧ x ≤ 255) ∧ (0 ≤ y ∧ y ≤ 255) ∧ (0 ≤ d ∧ d ≤ 7) ∧ (∀ f_ ∈ out, okF f_ = true) ∧ True := hI
    show XW _ _ _ _ (mkS [(0, .ref 7001 0), (5, .arr 10), (6, I x), (7, I y), (8, I d), (9, I k)] [(10, Zdz out), (7001, Zaa src)]) _ _
    refine Zap ?_
    refine Zap ?_
    by_cases h1 : 0 < k
    ·refine x_r [(1, .dec true)] [0, 5, 6, 7, 8, 9, 22] [10, 7001] [.ref 7001 0, .arr 10, I x, I y, I d, I k, Bv true] [some (Zdz out), some (Zaa src)] [0 < k] ⟨h1, trivial⟩ ?_
     refine Zab ?_
     refine Zbq rfl ?_
     refine Zca ?_
     refine Zab ?_
     refine Zap ?_
     refine Zbz ?_
     refine xR [(5, .new 30), (6, .new 31)] [0, 5, 6, 7, 8, 9] [31, 7001] [.ref 7001 0, .arr 31, I x, I y, I d, I k] [some (.arr 3 (out.length + 1) (Zdf out.length (Zdr out) (Zcw [I x, I y, I d] 3))), some (Zaa src)] [(out.length + 1) * 24 ≤ 140737488355328] ⟨(by omega), trivial⟩ ?_
     refine Zap ?_
     obtain ⟨v_5, s'_5, hx5_0, hx5_1, hx5_2, hx5_3, hc5⟩ := Zdu src 61 (by first | assumption | (simp only [Zbj] at *; simp_all; done)) (by omega)
     refine x_r [(2, .lend [(7001, Zaa src, Zaa s'_5)] [] [(true, .any), (true, .any)] true (I v_5)), (5, .call [(true, .any), (true, .any)] true (I (min 255 ((x + v_5) - 30)))), (6, .call [(true, .any), (true, .any)] true (I (max 0 (min 255 ((x + v_5) - 30)))))] [0, 5, 6, 7, 8, 9] [31, 7001] [.ref 7001 0, .arr 31, I (max 0 (min 255 ((x + v_5) - 30))), I y, I d, I k] [some (.arr 3 (out.length + 1) (Zdf out.length (Zdr out) (Zcw [I x, I y, I d] 3))), some (Zaa s'_5)] [Zaz Tryz.prog 48 [.ref 7001 0, I 61] (Zaf [(7001, Zaa src)]) true (I v_5) (Zaf [(7001, Zaa s'_5)]) ∧ (((Zaa src : Ob) = Zaa src ∨ Zeu Zel true (Zaa src) (Zaa src)) ∧ Zar false (Zaa src)) ∧ True, inR .i64 (x + v_5), inR .i64 ((x + v_5) - 30), Con Tryz.prog 50 [I 255, I ((x + v_5) - 30)] true (I (min 255 ((x + v_5) - 30))) ∧ True, Con Tryz.prog 49 [I 0, I (min 255 ((x + v_5) - 30))] true (I (max 0 (min 255 ((x + v_5) - 30)))) ∧ True] ⟨⟨hc5, ⟨.inl rfl, (by simp [Zar, Zah, Zak, Zdj])⟩, trivial⟩, (Zam (by omega) (by omega)), (Zam (by omega) (by omega)), ⟨(Zuw 255 ((x + v_5) - 30)), trivial⟩, ⟨(Zux 0 (min 255 ((x + v_5) - 30))), trivial⟩, trivial⟩ ?_
     refine Zab ?_
     refine Zap ?_
     obtain ⟨v_6, s'_6, hx6_0, hx6_1, hx6_2, hx6_3, hc6⟩ := Zdu s'_5 61 (by first | assumption | (simp only [Zbj] at *; simp_all; done)) (by omega)
     refine x_r [(2, .lend [(7001, Zaa s'_5, Zaa s'_6)] [] [(true, .any), (true, .any)] true (I v_6)), (5, .call [(true, .any), (true, .any)] true (I (min 255 ((y + v_6) - 30)))), (6, .call [(true, .any), (true, .any)] true (I (max 0 (min 255 ((y + v_6) - 30)))))] [0, 5, 6, 7, 8, 9] [31, 7001] [.ref 7001 0, .arr 31, I (max 0 (min 255 ((x + v_5) - 30))), I (max 0 (min 255 ((y + v_6) - 30))), I d, I k] [some (.arr 3 (out.length + 1) (Zdf out.length (Zdr out) (Zcw [I x, I y, I d] 3))), some (Zaa s'_6)] [Zaz Tryz.prog 48 [.ref 7001 0, I 61] (Zaf [(7001, Zaa s'_5)]) true (I v_6) (Zaf [(7001, Zaa s'_6)]) ∧ (((Zaa s'_5 : Ob) = Zaa s'_5 ∨ Zeu Zel true (Zaa s'_5) (Zaa s'_5)) ∧ Zar false (Zaa s'_5)) ∧ True, inR .i64 (y + v_6), inR .i64 ((y + v_6) - 30), Con Tryz.prog 50 [I 255, I ((y + v_6) - 30)] true (I (min 255 ((y + v_6) - 30))) ∧ True, Con Tryz.prog 49 [I 0, I (min 255 ((y + v_6) - 30))] true (I (max 0 (min 255 ((y + v_6) - 30)))) ∧ True] ⟨⟨hc6, ⟨.inl rfl, (by simp [Zar, Zah, Zak, Zdj])⟩, trivial⟩, (Zam (by omega) (by omega)), (Zam (by omega) (by omega)), ⟨(Zuw 255 ((y + v_6) - 30)), trivial⟩, ⟨(Zux 0 (min 255 ((y + v_6) - 30))), trivial⟩, trivial⟩ ?_
     refine Zab ?_
     refine Zap ?_
     obtain ⟨v_7, s'_7, hx7_0, hx7_1, hx7_2, hc7⟩ := Zyn s'_6 2 (by first | assumption | (simp only [Zbj] at *; simp_all; done)) (by omega)
     rcases Bool.eq_false_or_eq_true v_7 with h2 | h2
     ·subst h2
      refine x_r [(1, .lend [(7001, Zaa s'_6, Zaa s'_7)] [] [(true, .any), (true, .any)] true (Bv true))] [0, 5, 6, 7, 8, 9, 47] [31, 7001] [.ref 7001 0, .arr 31, I (max 0 (min 255 ((x + v_5) - 30))), I (max 0 (min 255 ((y + v_6) - 30))), I d, I k, Bv true] [some (.arr 3 (out.length + 1) (Zdf out.length (Zdr out) (Zcw [I x, I y, I d] 3))), some (Zaa s'_7)] [Zaz Tryz.prog 31 [.ref 7001 0, I 2] (Zaf [(7001, Zaa s'_6)]) true (Bv true) (Zaf [(7001, Zaa s'_7)]) ∧ (((Zaa s'_6 : Ob) = Zaa s'_6 ∨ Zeu Zel true (Zaa s'_6) (Zaa s'_6)) ∧ Zar false (Zaa s'_6)) ∧ True] ⟨⟨hc7, ⟨.inl rfl, (by simp [Zar, Zah, Zak, Zdj])⟩, trivial⟩, trivial⟩ ?_
      refine Zab ?_
      refine Zbq rfl ?_
      obtain ⟨v_8, s'_8, hx8_0, hx8_1, hx8_2, hx8_3, hc8⟩ := Zdu s'_7 8 (by first | assumption | (simp only [Zbj] at *; simp_all; done)) (by omega)
      refine x_r [(1, .lend [(7001, Zaa s'_7, Zaa s'_8)] [] [(true, .any), (true, .any)] true (I v_8))] [0, 5, 6, 7, 8, 9] [31, 7001] [.ref 7001 0, .arr 31, I (max 0 (min 255 ((x + v_5) - 30))), I (max 0 (min 255 ((y + v_6) - 30))), I v_8, I k] [some (.arr 3 (out.length + 1) (Zdf out.length (Zdr out) (Zcw [I x, I y, I d] 3))), some (Zaa s'_8)] [Zaz Tryz.prog 48 [.ref 7001 0, I 8] (Zaf [(7001, Zaa s'_7)]) true (I v_8) (Zaf [(7001, Zaa s'_8)]) ∧ (((Zaa s'_7 : Ob) = Zaa s'_7 ∨ Zeu Zel true (Zaa s'_7) (Zaa s'_7)) ∧ Zar false (Zaa s'_7)) ∧ True] ⟨⟨hc8, ⟨.inl rfl, (by simp [Zar, Zah, Zak, Zdj])⟩, trivial⟩, trivial⟩ ?_
      refine Zbr 1 ?_
      refine Zab ?_
      refine x_r [] [0, 5, 6, 7, 8, 9] [31, 7001] [.ref 7001 0, .arr 31, I (max 0 (min 255 ((x + v_5) - 30))), I (max 0 (min 255 ((y + v_6) - 30))), I v_8, I (k - 1)] [some (.arr 3 (out.length + 1) (Zdf out.length (Zdr out) (Zcw [I x, I y, I d] 3))), some (Zaa s'_8)] [inR .i64 (k - 1)] ⟨(Zam (by omega) (by omega)), trivial⟩ ?_
      refine Zcx [(10, 31)] (T := [(0, .ref 7001 0), (5, .arr 10), (6, I (max 0 (min 255 ((x + v_5) - 30)))), (7, I (max 0 (min 255 ((y + v_6) - 30)))), (8, I v_8), (9, I (k - 1))]) (O := [(10, Zdz (out ++ [(Feat.mk x y d)])), (7001, Zaa s'_8)]) rfl (⟨.inl rfl, .inl rfl, .inl rfl, .inl rfl, .inl rfl, .inl rfl, trivial⟩) (⟨.inr ⟨rfl, (by first | rfl | (simp; done) | (simp; omega) | omega), fun i_ hi_ => .inl (Zee (enc := Zhc) (xs := out) rfl i_ hi_)⟩, .inl rfl, trivial⟩) (Zcj ((out ++ [(Feat.mk x y d)]), (max 0 (min 255 ((x + v_5) - 30))), (max 0 (min 255 ((y + v_6) - 30))), v_8, (k - 1), s'_8) rfl (show (Zbj s'_8 ∧ s'_8.code = s.code ∧ s.atx ≤ s'_8.atx ∧ s'_8.atx ≤ s.atx + 20 + 10 * (most - (k - 1))) ∧ (0 ≤ (k - 1) ∧ (k - 1) ≤ most) ∧ (((out ++ [(Feat.mk x y d)]).length : Int) + (k - 1) ≤ most) ∧ (1 ≤ ((out ++ [(Feat.mk x y d)]).length : Int) + (k - 1)) ∧ (0 ≤ (max 0 (min 255 ((x + v_5) - 30))) ∧ (max 0 (min 255 ((x + v_5) - 30))) ≤ 255) ∧ (0 ≤ (max 0 (min 255 ((y + v_6) - 30))) ∧ (max 0 (min 255 ((y + v_6) - 30))) ≤ 255) ∧ (0 ≤ v_8 ∧ v_8 ≤ 7) ∧ (∀ f_ ∈ (out ++ [(Feat.mk x y d)]), okF f_ = true) ∧ True from ⟨(by exact ⟨by assumption, by first | assumption | rfl | (simp only [*]; done), by omega, by omega⟩), (by omega), (by simp; omega), (by simp; omega), (by omega), (by omega), (by omega), (by intro f_ hf_; rcases List.mem_append.1 hf_ with hf_ | hf_; (exact hfo f_ hf_); (have q := List.mem_singleton.1 hf_; subst q; exact Zox.2 ⟨hx0, hy0, hd0⟩)), trivial⟩) (by first | (show ((k - 1).toNat : Nat) < k.toNat; omega) | (dsimp only; omega)))
     subst h2
     refine x_r [(1, .lend [(7001, Zaa s'_6, Zaa s'_7)] [] [(true, .any), (true, .any)] true (Bv false))] [0, 5, 6, 7, 8, 9, 47] [31, 7001] [.ref 7001 0, .arr 31, I (max 0 (min 255 ((x + v_5) - 30))), I (max 0 (min 255 ((y + v_6) - 30))), I d, I k, Bv false] [some (.arr 3 (out.length + 1) (Zdf out.length (Zdr out) (Zcw [I x, I y, I d] 3))), some (Zaa s'_7)] [Zaz Tryz.prog 31 [.ref 7001 0, I 2] (Zaf [(7001, Zaa s'_6)]) true (Bv false) (Zaf [(7001, Zaa s'_7)]) ∧ (((Zaa s'_6 : Ob) = Zaa s'_6 ∨ Zeu Zel true (Zaa s'_6) (Zaa s'_6)) ∧ Zar false (Zaa s'_6)) ∧ True] ⟨⟨hc7, ⟨.inl rfl, (by simp [Zar, Zah, Zak, Zdj])⟩, trivial⟩, trivial⟩ ?_
     refine Zab ?_
     refine Zbe rfl ?_
     refine Zca ?_
     refine Zbr 1 ?_
     refine Zab ?_
     refine x_r [] [0, 5, 6, 7, 8, 9] [31, 7001] [.ref 7001 0, .arr 31, I (max 0 (min 255 ((x + v_5) - 30))), I (max 0 (min 255 ((y + v_6) - 30))), I d, I (k - 1)] [some (.arr 3 (out.length + 1) (Zdf out.length (Zdr out) (Zcw [I x, I y, I d] 3))), some (Zaa s'_7)] [inR .i64 (k - 1)] ⟨(Zam (by omega) (by omega)), trivial⟩ ?_
     refine Zcx [(10, 31)] (T := [(0, .ref 7001 0), (5, .arr 10), (6, I (max 0 (min 255 ((x + v_5) - 30)))), (7, I (max 0 (min 255 ((y + v_6) - 30)))), (8, I d), (9, I (k - 1))]) (O := [(10, Zdz (out ++ [(Feat.mk x y d)])), (7001, Zaa s'_7)]) rfl (⟨.inl rfl, .inl rfl, .inl rfl, .inl rfl, .inl rfl, .inl rfl, trivial⟩) (⟨.inr ⟨rfl, (by first | rfl | (simp; done) | (simp; omega) | omega), fun i_ hi_ => .inl (Zee (enc := Zhc) (xs := out) rfl i_ hi_)⟩, .inl rfl, trivial⟩) (Zcj ((out ++ [(Feat.mk x y d)]), (max 0 (min 255 ((x + v_5) - 30))), (max 0 (min 255 ((y + v_6) - 30))), d, (k - 1), s'_7) rfl (show (Zbj s'_7 ∧ s'_7.code = s.code ∧ s.atx ≤ s'_7.atx ∧ s'_7.atx ≤ s.atx + 20 + 10 * (most - (k - 1))) ∧ (0 ≤ (k - 1) ∧ (k - 1) ≤ most) ∧ (((out ++ [(Feat.mk x y d)]).length : Int) + (k - 1) ≤ most) ∧ (1 ≤ ((out ++ [(Feat.mk x y d)]).length : Int) + (k - 1)) ∧ (0 ≤ (max 0 (min 255 ((x + v_5) - 30))) ∧ (max 0 (min 255 ((x + v_5) - 30))) ≤ 255) ∧ (0 ≤ (max 0 (min 255 ((y + v_6) - 30))) ∧ (max 0 (min 255 ((y + v_6) - 30))) ≤ 255) ∧ (0 ≤ d ∧ d ≤ 7) ∧ (∀ f_ ∈ (out ++ [(Feat.mk x y d)]), okF f_ = true) ∧ True from ⟨(by exact ⟨by assumption, by first | assumption | rfl | (simp only [*]; done), by omega, by omega⟩), (by omega), (by simp; omega), (by simp; omega), (by omega), (by omega), (by omega), (by intro f_ hf_; rcases List.mem_append.1 hf_ with hf_ | hf_; (exact hfo f_ hf_); (have q := List.mem_singleton.1 hf_; subst q; exact Zox.2 ⟨hx0, hy0, hd0⟩)), trivial⟩) (by first | (show ((k - 1).toNat : Nat) < k.toNat; omega) | (dsimp only; omega)))
    refine x_r [(1, .dec false)] [0, 5, 6, 7, 8, 9, 22] [10, 7001] [.ref 7001 0, .arr 10, I x, I y, I d, I k, Bv false] [some (Zdz out), some (Zaa src)] [¬ (0 < k)] ⟨h1, trivial⟩ ?_
    refine Zab ?_
    refine Zbe rfl ?_
    refine Zeg ?_
    refine Zbs ?_
    refine Zbu ?_
    refine Zbt ?_
    refine Zab ?_
    refine xR [] [4] [10, 7001] [.arr 10] [some (Zdz out), some (Zaa src)] [] trivial ?_
    refine Zcf ?_
    refine Zcx [(9301, 10)] (T := [(4, .arr 9301)]) (O := [(7001, Zaa src), (9301, Zdz out)]) rfl (⟨.inl rfl, trivial⟩) (⟨.inl rfl, .inl rfl, trivial⟩) ?_
    refine Zbn (src, out) (show (Zbj src) ∧ (src.code = s.code) ∧ (s.atx + 0 ≤ src.atx ∧ src.atx ≤ s.atx + 300) ∧ (1 ≤ (out.length : Int) ∧ (out.length : Int) ≤ most) ∧ (∀ f_ ∈ out, okF f_ = true) ∧ (True) from ⟨(by first | omega | assumption | exact hs0.1 | exact hs0.2.1), (by first | omega | assumption | exact hs0.1 | exact hs0.2.1), (by first | omega | assumption | exact hs0.1 | exact hs0.2.1), (by first | omega | assumption | exact hs0.1 | exact hs0.2.1), (by first | omega | assumption | exact hs0.1 | exact hs0.2.1), trivial⟩) (⟨.inl rfl, .inl rfl, trivial⟩) (.arr 9301) (by kernel_rfl) (.inl rfl) (fun h => by cases h) (fun h => by cases h)
  obtain ⟨⟨s', fs⟩, ⟨hh0, hh1, hh2, hh3, hh4, _⟩, hc⟩ := hh
  exact ⟨s', fs, hh0, hh1, hh2, hh3, hh4, hc⟩
theorem leSm (ob : Nat → Option Ob) (fv fr : Bool) (x : Sample) : leL ob fv (Zec true x) (Zec fr x) := And.intro rfl (And.intro (And.intro (fun _ => rfl) (And.intro rfl (And.intro rfl (fun i _ => .inl rfl)))) rfl)
theorem Zmh {ob : Nat → Option Ob} {fr : Bool} (xs : List Sample) (x : Sample) {g : Nat → List AV} (h : leL ob true (g 0) (Zec fr x)) : ∀ i, i < (xs ++ [x]).length → AV.idsL (Zcq fr (xs ++ [x]) i) = [] ∧ leL ob true (Zdf xs.length (Zcq true xs) g i) (Zcq fr (xs ++ [x]) i) := by
  intro i hi
  by_cases hl : i < xs.length
  · rw [Zib hl]
    have e : Zcq fr (xs ++ [x]) i = Zec fr (at_ xs i) := by show Zec fr (at_ _ _) = _; rw [Zit hl]
    rw [e]; exact ⟨rfl, leSm _ _ _ _⟩
  · have e : i = xs.length := by simp at hi; omega
    subst e
    rw [Zhj (Nat.le_refl _), Nat.sub_self]
    have e : Zcq fr (xs ++ [x]) xs.length = Zec fr x := by show Zec fr (at_ _ _) = _; rw [Zia (Nat.le_refl _)]; simp [at_]
    rw [e]; exact ⟨rfl, h⟩
theorem cat_le {α : Type} [Inhabited α] {enc : α → List AV} {xs : List α} {x : α} {g : Nat → List AV} (h : AV.idsL (enc x) = [] ∧ leL (fun _ => none) false (g 0) (enc x)) (i : Nat) (hi : i < (xs ++ [x]).length) : Zdf xs.length (fun q => enc (at_ xs q)) g i = enc (at_ (xs ++ [x]) i) ∨ (AV.idsL (enc (at_ (xs ++ [x]) i)) = [] ∧ leL (fun _ => none) false (Zdf xs.length (fun q => enc (at_ xs q)) g i) (enc (at_ (xs ++ [x]) i))) := by
  by_cases hl : i < xs.length
  · left; rw [Zib hl, Zit hl]
  · right
    have e : i = xs.length := by simp at hi; omega
    subst e
    rw [Zhj (Nat.le_refl _), Nat.sub_self, Zia (Nat.le_refl _)]
    simpa [at_] using h
def drS (list : List Sample) : Prop := list.length ≤ 60 ∧ ∀ y ∈ list, y.Label.size ≤ 64
theorem Zbh : drS [] := ⟨by decide, fun y hy => absurd hy List.not_mem_nil⟩
theorem Zyw {xs : List Sample} {x : Sample} (h : ∀ y ∈ xs, y.Label.size ≤ 64) (hx : x.Label.size ≤ 64) : ∀ y ∈ xs ++ [x], y.Label.size ≤ 64 := Zjo h hx
theorem Zbi {xs : List Sample} {x : Sample} (hl : xs.length ≤ 50) (h : ∀ y ∈ xs, y.Label.size ≤ 64) (hx : x.Label.size ≤ 64) : drS (xs ++ [x]) := ⟨by simp; omega, Zyw h hx⟩
theorem sm_sz {p : Perceptron} {xs : List Sample} (hp : drP p) (h : ∀ x ∈ xs, okSm p.Labels x) : ∀ y ∈ xs, y.Label.size ≤ 64 := fun y hy => hp.2.1 _ (h y hy).1
theorem Ydw (s : l00Src) (most : Int) (hs : Zbj s) (ha : s.atx ≤ 3999999999999991000) (hm : 0 ≤ most ∧ most ≤ 8) : ∃ (v : Perceptron) (w : List Sample) (s' : l00Src), (Zbj s') ∧ (s'.code = s.code) ∧ (s.atx + 0 ≤ s'.atx ∧ s'.atx ≤ s.atx + 2500) ∧ (drP v) ∧ (drS w) ∧ Zaz Tryz.prog 18 [.ref 7001 0, I most] (Zaf [(7001, Zaa s)]) true (.tup [Zan v, Zaj true w]) (Zaf [(7001, Zaa s')]) := by
  have hh : ∃ r : Perceptron × (List Sample) × l00Src, ((Zbj r.2.2) ∧ (r.2.2.code = s.code) ∧ (s.atx + 0 ≤ r.2.2.atx ∧ r.2.2.atx ≤ s.atx + 2500) ∧ (drP r.1) ∧ (drS r.2.1) ∧ (True)) ∧ Zaz Tryz.prog 18 [.ref 7001 0, I most] (Zaf [(7001, Zaa s)]) true (.tup [Zan r.1, Zaj true r.2.1]) (Zaf [(7001, Zaa r.2.2)]) := by
    refine Zde (Φ := fun r : Perceptron × (List Sample) × l00Src => (Zbj r.2.2) ∧ (r.2.2.code = s.code) ∧ (s.atx + 0 ≤ r.2.2.atx ∧ r.2.2.atx ≤ s.atx + 2500) ∧ (drP r.1) ∧ (drS r.2.1) ∧ (True)) [(7001, Zaa s)] (fun r => [(7001, Zaa r.2.2)]) (fn := Tryz.f18) (nt := 56) Tryz.func18 rfl rfl (args := [.ref 7001 0, I most]) rfl (Zbw (.inr trivial) (Zbw (.inl ⟨rfl, trivial⟩) Zdb)) (res := fun r => .tup [Zan r.1, Zaj true r.2.1]) ?_
    refine xR [(0, .new 4)] [0, 1, 4] [4, 7001] [.ref 7001 0, I most, .ref 4 0] [some (.box [Zao, Zao]), some (Zaa s)] [] trivial ?_
    refine Zap ?_
    obtain ⟨v_1, s'_1, hx1_0, hx1_1, hx1_2, hx1_3, hc1⟩ := Yaa s (by first | assumption | (simp only [Zbj] at *; simp_all; done)) (by omega)
    have hdp : drP v_1 := hx1_3
    refine x_r [(1, .lend [(7001, Zaa s, Zaa s'_1)] [] [(true, .any)] true (Zan v_1)), (2, .new 6)] [0, 1, 4, 6] [4, 6, 7001] [.ref 7001 0, I most, .ref 4 0, .ref 6 0] [some (.box [Zao, Zao]), some (Zad v_1), some (Zaa s'_1)] [Zaz Tryz.prog 46 [.ref 7001 0] (Zaf [(7001, Zaa s)]) true (Zan v_1) (Zaf [(7001, Zaa s'_1)]) ∧ (((Zaa s : Ob) = Zaa s ∨ Zeu Zel true (Zaa s) (Zaa s)) ∧ Zar false (Zaa s)) ∧ True] ⟨⟨hc1, ⟨.inl rfl, (by simp [Zar, Zah, Zak, Zdj])⟩, trivial⟩, trivial⟩ ?_
    refine Zab ?_
    refine xR [(0, .new 11)] [0, 1, 4, 6, 7] [4, 6, 11, 7001] [.ref 7001 0, I most, .ref 4 0, .ref 6 0, .arr 11] [some (.box [Zao, Zao]), some (Zad v_1), some (.arr 2 0 (Zcw [] 2)), some (Zaa s'_1)] [] trivial ?_
    refine Zap ?_
    refine Zap ?_
    rcases Bool.eq_false_or_eq_true (Zbb v_1) with h1 | h1
    ·have hpn := Zkk h1
     have hz0 := hdp.2.1 _ (Zct (xs := v_1.Labels) (i := 0) (by omega))
     refine x_r [(0, .call [(false, .ptr false [slS false v_1.Labels, Zbg false v_1.Weights])] true (Bv true))] [0, 1, 4, 6, 7, 12] [4, 6, 11, 7001] [.ref 7001 0, I most, .ref 4 0, .ref 6 0, .arr 11, Bv true] [some (.box [Zao, Zao]), some (Zad v_1), some (.arr 2 0 (Zcw [] 2)), some (Zaa s'_1)] [Con Tryz.prog 35 [.ptr false [slS false v_1.Labels, Zbg false v_1.Weights]] true (Bv true) ∧ ((false = true → true = true) ∧ AV.idsL [slS false v_1.Labels, Zbg false v_1.Weights] = [] ∧ ((false = true → true = true) ∧ 1 = 1 ∧ v_1.Labels.length = v_1.Labels.length ∧ ∀ i_, i_ < v_1.Labels.length → (fS v_1.Labels) i_ = (fS v_1.Labels) i_ ∨ (AV.idsL ((fS v_1.Labels) i_) = [] ∧ leL (fun _ => none) false ((fS v_1.Labels) i_) ((fS v_1.Labels) i_))) ∧ ((false = true → true = true) ∧ 1 = 1 ∧ v_1.Weights.length = v_1.Weights.length ∧ ∀ i_, i_ < v_1.Weights.length → (fLI true v_1.Weights) i_ = (fLI false v_1.Weights) i_ ∨ (AV.idsL ((fLI false v_1.Weights) i_) = [] ∧ leL (fun _ => none) false ((fLI true v_1.Weights) i_) ((fLI false v_1.Weights) i_))) ∧ ([] : List AV) = []) ∧ True] ⟨⟨(Zaq h1 (Zew v_1 (fun y hy => by have := hdp.2.1 y hy; omega))), ⟨(fun h => by cases h), rfl, ⟨⟨(fun h => by cases h), rfl, rfl, fun i _ => .inl rfl⟩, ⟨⟨(fun h => by cases h), rfl, rfl, fun i _ => .inr ⟨Zev _ _, Zjp _ _ _⟩⟩, rfl⟩⟩⟩, trivial⟩, trivial⟩ ?_
     refine Zab ?_
     refine Zbq rfl ?_
     refine Zcz [] (T := [(0, .ref 7001 0), (1, I most), (4, .ref 4 0), (6, .ptr true [slS true v_1.Labels, Zbg true v_1.Weights]), (7, .arr 11), (12, Bv true)]) (O := [(4, .box [Zao, Zao]), (11, .arr 2 0 (Zcw [] 2)), (7001, Zaa s'_1)]) rfl (⟨.inl rfl, .inl rfl, .inl rfl, .inr ⟨(fun _ => rfl), rfl, ⟨⟨(fun _ => rfl), rfl, rfl, fun i _ => .inl rfl⟩, ⟨⟨(fun _ => rfl), rfl, rfl, fun i _ => .inl rfl⟩, rfl⟩⟩⟩, .inl rfl, .inl rfl, trivial⟩) (⟨.inl rfl, .inl rfl, .inl rfl, trivial⟩) ?_
     obtain ⟨s'_2, sm_2, hx2_0, hx2_1, hx2_2, hx2_3, hx2_4, hc2⟩ := Zhw s'_1 v_1 most (by first | assumption | (simp only [Zbj] at *; simp_all; done)) (by omega) (by omega) (by omega)
     have hml : sm_2.length ≤ 8 := by omega
     have hmz := sm_sz hdp hx2_4
     refine x_r [(2, .lend [(7001, Zaa s'_1, Zaa s'_2)] [(9311, Zcb true sm_2)] [(true, .any), (false, .ptr false [slS false v_1.Labels, Zbg false v_1.Weights]), (true, .any)] false (.arr 9311))] [0, 4, 6, 7] [4, 7001, 9311] [.ref 7001 0, .ref 4 0, .ptr true [slS true v_1.Labels, Zbg true v_1.Weights], .arr 9311] [some (.box [Zao, Zao]), some (Zaa s'_2), some (Zcb true sm_2)] [Zaz Tryz.prog 47 [.ref 7001 0, .ptr false [slS false v_1.Labels, Zbg false v_1.Weights], I most] (Zaf [(7001, Zaa s'_1)]) false (.arr 9311) (Zaf [(7001, Zaa s'_2), (9311, Zcb true sm_2)]) ∧ ((false = true → true = true) ∧ AV.idsL [slS false v_1.Labels, Zbg false v_1.Weights] = [] ∧ ((false = true → true = true) ∧ 1 = 1 ∧ v_1.Labels.length = v_1.Labels.length ∧ ∀ i_, i_ < v_1.Labels.length → (fS v_1.Labels) i_ = (fS v_1.Labels) i_ ∨ (AV.idsL ((fS v_1.Labels) i_) = [] ∧ leL (fun _ => none) false ((fS v_1.Labels) i_) ((fS v_1.Labels) i_))) ∧ ((false = true → true = true) ∧ 1 = 1 ∧ v_1.Weights.length = v_1.Weights.length ∧ ∀ i_, i_ < v_1.Weights.length → (fLI true v_1.Weights) i_ = (fLI false v_1.Weights) i_ ∨ (AV.idsL ((fLI false v_1.Weights) i_) = [] ∧ leL (fun _ => none) false ((fLI true v_1.Weights) i_) ((fLI false v_1.Weights) i_))) ∧ ([] : List AV) = []) ∧ (((Zaa s'_1 : Ob) = Zaa s'_1 ∨ Zeu Zel true (Zaa s'_1) (Zaa s'_1)) ∧ Zar false (Zaa s'_1)) ∧ True] ⟨⟨hc2, ⟨(fun h => by cases h), rfl, ⟨⟨(fun h => by cases h), rfl, rfl, fun i _ => .inl rfl⟩, ⟨⟨(fun h => by cases h), rfl, rfl, fun i _ => .inr ⟨Zev _ _, Zjp _ _ _⟩⟩, rfl⟩⟩⟩, ⟨.inl rfl, (by simp [Zar, Zah, Zak, Zdj])⟩, trivial⟩, trivial⟩ ?_
     refine Zab ?_
     refine Zap ?_
     refine Zap ?_
     obtain ⟨v_3, s'_3, hx3_0, hx3_1, hx3_2, hx3_3, hc3⟩ := Zdu s'_2 24 (by first | assumption | (simp only [Zbj] at *; simp_all; done)) (by omega)
     refine x_r [(1, .lend [(7001, Zaa s'_2, Zaa s'_3)] [] [(true, .any), (true, .any)] true (I v_3))] [0, 4, 6, 7, 17] [4, 7001, 9311] [.ref 7001 0, .ref 4 0, .ptr true [slS true v_1.Labels, Zbg true v_1.Weights], .arr 9311, I v_3] [some (.box [Zao, Zao]), some (Zaa s'_3), some (Zcb true sm_2)] [Zaz Tryz.prog 48 [.ref 7001 0, I 24] (Zaf [(7001, Zaa s'_2)]) true (I v_3) (Zaf [(7001, Zaa s'_3)]) ∧ (((Zaa s'_2 : Ob) = Zaa s'_2 ∨ Zeu Zel true (Zaa s'_2) (Zaa s'_2)) ∧ Zar false (Zaa s'_2)) ∧ True] ⟨⟨hc3, ⟨.inl rfl, (by simp [Zar, Zah, Zak, Zdj])⟩, trivial⟩, trivial⟩ ?_
     refine Zab ?_
     refine Zbz ?_
     refine Zap ?_
     by_cases h2 : v_3 = 0
     ·refine x_r [(0, .dec true)] [0, 4, 6, 7, 17, 18] [4, 7001, 9311] [.ref 7001 0, .ref 4 0, .ptr true [slS true v_1.Labels, Zbg true v_1.Weights], .arr 9311, I v_3, Bv true] [some (.box [Zao, Zao]), some (Zaa s'_3), some (Zcb true sm_2)] [v_3 = 0] ⟨h2, trivial⟩ ?_
      refine Zab ?_
      refine Zbq rfl ?_
      refine Zcz [] (T := [(0, .ref 7001 0), (4, .ref 4 0), (6, .ptr true [slS true v_1.Labels, Zbg true v_1.Weights]), (7, .arr 9311), (17, I v_3), (18, Bv true)]) (O := [(4, .box [Zao, Zao]), (7001, Zaa s'_3), (9311, .oar [] 2 sm_2.length (Zcq true sm_2))]) rfl (⟨.inl rfl, .inl rfl, .inl rfl, .inl rfl, .inl rfl, .inl rfl, trivial⟩) (⟨.inl rfl, .inl rfl, .inr ⟨rfl, rfl, fun i hi => rfl⟩, trivial⟩) ?_
      obtain ⟨s'_4, fs_4, hx4_0, hx4_1, hx4_2, hx4_3, hx4_4, hc4⟩ := Zmg s'_3 4 (by first | assumption | (simp only [Zbj] at *; simp_all; done)) (by omega) (by omega)
      refine x_r [(2, .lend [(7001, Zaa s'_3, Zaa s'_4)] [(9301, Zdz fs_4)] [(true, .any), (true, .any)] false (.arr 9301)), (4, .new 24), (5, .new 25)] [4, 6, 7] [4, 25, 7001, 9301] [.ref 4 0, .ptr true [slS true v_1.Labels, Zbg true v_1.Weights], .arr 25] [some (.box [Zao, Zao]), some (.oar [9301] 2 (sm_2.length + 1) (Zdf sm_2.length (Zcq true sm_2) (Zcw [Sv (⟨#[122]⟩ : ByteArray), .arr 9301] 2))), some (Zaa s'_4), some (Zdz fs_4)] [Zaz Tryz.prog 19 [.ref 7001 0, I 4] (Zaf [(7001, Zaa s'_3)]) false (.arr 9301) (Zaf [(7001, Zaa s'_4), (9301, Zdz fs_4)]) ∧ (((Zaa s'_3 : Ob) = Zaa s'_3 ∨ Zeu Zel true (Zaa s'_3) (Zaa s'_3)) ∧ Zar false (Zaa s'_3)) ∧ True, (sm_2.length + 1) * 40 ≤ 140737488355328] ⟨⟨hc4, ⟨.inl rfl, (by simp [Zar, Zah, Zak, Zdj])⟩, trivial⟩, (by first | omega | (simp only [List.length_nil]; omega)), trivial⟩ ?_
      refine Zbr 0 ?_
      refine Zab ?_
      refine xR [] [4, 5] [4, 25, 7001, 9301] [.ref 4 0, .arr 25] [some (Zad v_1), some (.oar [9301] 2 (sm_2.length + 1) (Zdf sm_2.length (Zcq true sm_2) (Zcw [Sv (⟨#[122]⟩ : ByteArray), .arr 9301] 2))), some (Zaa s'_4), some (Zdz fs_4)] [] trivial ?_
      refine Zcf ?_
      refine Zbn (v_1, (sm_2 ++ [(Sample.mk (⟨#[122]⟩ : ByteArray) fs_4)]), s'_4) (show (Zbj s'_4) ∧ (s'_4.code = s.code) ∧ (s.atx + 0 ≤ s'_4.atx ∧ s'_4.atx ≤ s.atx + 2500) ∧ (drP v_1) ∧ (drS (sm_2 ++ [(Sample.mk (⟨#[122]⟩ : ByteArray) fs_4)])) ∧ (True) from ⟨(by first | omega | assumption | rfl | exact hs0.1 | exact hs0.2.1 | (simp only [*]; done) | exact ⟨by omega, hsz⟩ | exact ⟨by omega, hmz⟩ | exact Zbi (by omega) hmz (by show 1 ≤ 64; decide) | exact Zbh | exact Zbi (xs := []) (by decide) Zbh.2 (by show 1 ≤ 64; decide)), (by first | omega | assumption | rfl | exact hs0.1 | exact hs0.2.1 | (simp only [*]; done) | exact ⟨by omega, hsz⟩ | exact ⟨by omega, hmz⟩ | exact Zbi (by omega) hmz (by show 1 ≤ 64; decide) | exact Zbh | exact Zbi (xs := []) (by decide) Zbh.2 (by show 1 ≤ 64; decide)), (by first | omega | assumption | rfl | exact hs0.1 | exact hs0.2.1 | (simp only [*]; done) | exact ⟨by omega, hsz⟩ | exact ⟨by omega, hmz⟩ | exact Zbi (by omega) hmz (by show 1 ≤ 64; decide) | exact Zbh | exact Zbi (xs := []) (by decide) Zbh.2 (by show 1 ≤ 64; decide)), (by first | omega | assumption | rfl | exact hs0.1 | exact hs0.2.1 | (simp only [*]; done) | exact ⟨by omega, hsz⟩ | exact ⟨by omega, hmz⟩ | exact Zbi (by omega) hmz (by show 1 ≤ 64; decide) | exact Zbh | exact Zbi (xs := []) (by decide) Zbh.2 (by show 1 ≤ 64; decide)), (by first | omega | assumption | rfl | exact hs0.1 | exact hs0.2.1 | (simp only [*]; done) | exact ⟨by omega, hsz⟩ | exact ⟨by omega, hmz⟩ | exact Zbi (by omega) hmz (by show 1 ≤ 64; decide) | exact Zbh | exact Zbi (xs := []) (by decide) Zbh.2 (by show 1 ≤ 64; decide)), trivial⟩) (⟨.inl rfl, trivial⟩) (.tup [Zan v_1, .arr 25]) (by kernel_rfl) (.inr ⟨⟨⟨(fun _ => rfl), rfl, rfl, fun i _ => .inl rfl⟩, ⟨⟨(fun _ => rfl), rfl, rfl, fun i _ => .inl rfl⟩, rfl⟩⟩, ⟨⟨(fun _ => rfl), rfl, (by simp), Zmh sm_2 (Sample.mk (⟨#[122]⟩ : ByteArray) fs_4) ⟨rfl, ⟨⟨(fun _ => rfl), rfl, rfl, fun i _ => .inl rfl⟩, rfl⟩⟩⟩, rfl⟩⟩) (fun _ => rfl) (fun _ => (by simp [Zak, Zah, Zdd, Zer, Zdq]))
     refine x_r [(0, .dec false)] [0, 4, 6, 7, 17, 18] [4, 7001, 9311] [.ref 7001 0, .ref 4 0, .ptr true [slS true v_1.Labels, Zbg true v_1.Weights], .arr 9311, I v_3, Bv false] [some (.box [Zao, Zao]), some (Zaa s'_3), some (Zcb true sm_2)] [¬ (v_3 = 0)] ⟨h2, trivial⟩ ?_
     refine Zab ?_
     refine Zbe rfl ?_
     refine Zap ?_
     by_cases h3 : v_3 = 1
     ·refine x_r [(0, .dec true)] [0, 4, 6, 7, 17, 26] [4, 7001, 9311] [.ref 7001 0, .ref 4 0, .ptr true [slS true v_1.Labels, Zbg true v_1.Weights], .arr 9311, I v_3, Bv true] [some (.box [Zao, Zao]), some (Zaa s'_3), some (Zcb true sm_2)] [v_3 = 1] ⟨h3, trivial⟩ ?_
      refine Zab ?_
      refine Zbq rfl ?_
      refine x_r [(2, .new 30), (3, .new 31)] [4, 6, 7] [4, 31, 7001] [.ref 4 0, .ptr true [slS true v_1.Labels, Zbg true v_1.Weights], .arr 31] [some (.box [Zao, Zao]), some (.arr 2 (sm_2.length + 1) (Zdf sm_2.length (Zcq true sm_2) (Zcw [Sv (⟨#[97]⟩ : ByteArray), Zao] 2))), some (Zaa s'_3)] [(sm_2.length + 1) * 40 ≤ 140737488355328] ⟨(by first | omega | (simp only [List.length_nil]; omega)), trivial⟩ ?_
      refine Zbr 0 ?_
      refine Zab ?_
      refine xR [] [4, 5] [4, 31, 7001] [.ref 4 0, .arr 31] [some (Zad v_1), some (.arr 2 (sm_2.length + 1) (Zdf sm_2.length (Zcq true sm_2) (Zcw [Sv (⟨#[97]⟩ : ByteArray), Zao] 2))), some (Zaa s'_3)] [] trivial ?_
      refine Zcf ?_
      refine Zbn (v_1, (sm_2 ++ [(Sample.mk (⟨#[97]⟩ : ByteArray) ([] : List Feat))]), s'_3) (show (Zbj s'_3) ∧ (s'_3.code = s.code) ∧ (s.atx + 0 ≤ s'_3.atx ∧ s'_3.atx ≤ s.atx + 2500) ∧ (drP v_1) ∧ (drS (sm_2 ++ [(Sample.mk (⟨#[97]⟩ : ByteArray) ([] : List Feat))])) ∧ (True) from ⟨(by first | omega | assumption | rfl | exact hs0.1 | exact hs0.2.1 | (simp only [*]; done) | exact ⟨by omega, hsz⟩ | exact ⟨by omega, hmz⟩ | exact Zbi (by omega) hmz (by show 1 ≤ 64; decide) | exact Zbh | exact Zbi (xs := []) (by decide) Zbh.2 (by show 1 ≤ 64; decide)), (by first | omega | assumption | rfl | exact hs0.1 | exact hs0.2.1 | (simp only [*]; done) | exact ⟨by omega, hsz⟩ | exact ⟨by omega, hmz⟩ | exact Zbi (by omega) hmz (by show 1 ≤ 64; decide) | exact Zbh | exact Zbi (xs := []) (by decide) Zbh.2 (by show 1 ≤ 64; decide)), (by first | omega | assumption | rfl | exact hs0.1 | exact hs0.2.1 | (simp only [*]; done) | exact ⟨by omega, hsz⟩ | exact ⟨by omega, hmz⟩ | exact Zbi (by omega) hmz (by show 1 ≤ 64; decide) | exact Zbh | exact Zbi (xs := []) (by decide) Zbh.2 (by show 1 ≤ 64; decide)), (by first | omega | assumption | rfl | exact hs0.1 | exact hs0.2.1 | (simp only [*]; done) | exact ⟨by omega, hsz⟩ | exact ⟨by omega, hmz⟩ | exact Zbi (by omega) hmz (by show 1 ≤ 64; decide) | exact Zbh | exact Zbi (xs := []) (by decide) Zbh.2 (by show 1 ≤ 64; decide)), (by first | omega | assumption | rfl | exact hs0.1 | exact hs0.2.1 | (simp only [*]; done) | exact ⟨by omega, hsz⟩ | exact ⟨by omega, hmz⟩ | exact Zbi (by omega) hmz (by show 1 ≤ 64; decide) | exact Zbh | exact Zbi (xs := []) (by decide) Zbh.2 (by show 1 ≤ 64; decide)), trivial⟩) (⟨.inl rfl, trivial⟩) (.tup [Zan v_1, .arr 31]) (by kernel_rfl) (.inr ⟨⟨⟨(fun _ => rfl), rfl, rfl, fun i _ => .inl rfl⟩, ⟨⟨(fun _ => rfl), rfl, rfl, fun i _ => .inl rfl⟩, rfl⟩⟩, ⟨⟨(fun _ => rfl), rfl, (by first | rfl | (simp; done) | (simp; omega) | omega), fun i_ hi_ => cat_le (enc := (Zec true)) (xs := sm_2) (x := (Sample.mk (⟨#[97]⟩ : ByteArray) ([] : List Feat))) (g := (Zcw [Sv (⟨#[97]⟩ : ByteArray), Zao] 2)) ⟨rfl, ⟨rfl, ⟨⟨rfl, rfl⟩, rfl⟩⟩⟩ i_ hi_⟩, rfl⟩⟩) (fun _ => rfl) (fun _ => (by simp [Zak, Zah, Zdd, Zer, Zdq]))
     refine x_r [(0, .dec false)] [0, 4, 6, 7, 17, 26] [4, 7001, 9311] [.ref 7001 0, .ref 4 0, .ptr true [slS true v_1.Labels, Zbg true v_1.Weights], .arr 9311, I v_3, Bv false] [some (.box [Zao, Zao]), some (Zaa s'_3), some (Zcb true sm_2)] [¬ (v_3 = 1)] ⟨h3, trivial⟩ ?_
     refine Zab ?_
     refine Zbe rfl ?_
     refine Zap ?_
     by_cases h4 : v_3 = 2
     ·refine x_r [(0, .dec true)] [0, 4, 6, 7, 32] [4, 7001, 9311] [.ref 7001 0, .ref 4 0, .ptr true [slS true v_1.Labels, Zbg true v_1.Weights], .arr 9311, Bv true] [some (.box [Zao, Zao]), some (Zaa s'_3), some (Zcb true sm_2)] [v_3 = 2] ⟨h4, trivial⟩ ?_
      refine Zab ?_
      refine Zbq rfl ?_
      refine xR [(0, .call [(false, .ptr false [slS false v_1.Labels, Zbg false v_1.Weights])] true (Bv true))] [0, 4, 6, 7, 34] [4, 7001, 9311] [.ref 7001 0, .ref 4 0, .ptr true [slS true v_1.Labels, Zbg true v_1.Weights], .arr 9311, Bv true] [some (.box [Zao, Zao]), some (Zaa s'_3), some (Zcb true sm_2)] [Con Tryz.prog 35 [.ptr false [slS false v_1.Labels, Zbg false v_1.Weights]] true (Bv true) ∧ ((false = true → true = true) ∧ AV.idsL [slS false v_1.Labels, Zbg false v_1.Weights] = [] ∧ ((false = true → true = true) ∧ 1 = 1 ∧ v_1.Labels.length = v_1.Labels.length ∧ ∀ i_, i_ < v_1.Labels.length → (fS v_1.Labels) i_ = (fS v_1.Labels) i_ ∨ (AV.idsL ((fS v_1.Labels) i_) = [] ∧ leL (fun _ => none) false ((fS v_1.Labels) i_) ((fS v_1.Labels) i_))) ∧ ((false = true → true = true) ∧ 1 = 1 ∧ v_1.Weights.length = v_1.Weights.length ∧ ∀ i_, i_ < v_1.Weights.length → (fLI true v_1.Weights) i_ = (fLI false v_1.Weights) i_ ∨ (AV.idsL ((fLI false v_1.Weights) i_) = [] ∧ leL (fun _ => none) false ((fLI true v_1.Weights) i_) ((fLI false v_1.Weights) i_))) ∧ ([] : List AV) = []) ∧ True] ⟨⟨(Zaq h1 (Zew v_1 (fun y hy => by have := hdp.2.1 y hy; omega))), ⟨(fun h => by cases h), rfl, ⟨⟨(fun h => by cases h), rfl, rfl, fun i _ => .inl rfl⟩, ⟨⟨(fun h => by cases h), rfl, rfl, fun i _ => .inr ⟨Zev _ _, Zjp _ _ _⟩⟩, rfl⟩⟩⟩, trivial⟩, trivial⟩ ?_
      refine Zbq rfl ?_
      refine xR [] [0, 4, 6, 7, 8] [4, 7001, 9311] [.ref 7001 0, .ref 4 0, .ptr true [slS true v_1.Labels, Zbg true v_1.Weights], .arr 9311, I (sm_2.length : Int)] [some (.box [Zao, Zao]), some (Zaa s'_3), some (Zcb true sm_2)] [] trivial ?_
      refine Zbz ?_
      refine Zeh (X := (List Sample) × Int × l00Src) (fun x => mkS [(0, .ref 7001 0), (4, .ref 4 0), (6, .ptr true [slS true v_1.Labels, Zbg true v_1.Weights]), (7, .arr 9311), (8, I x.2.1)] [(4, .box [Zao, Zao]), (7001, Zaa x.2.2), (9311, Zcb true x.1)]) (fun x => (Zbj x.2.2 ∧ x.2.2.code = s.code ∧ s.atx ≤ x.2.2.atx ∧ x.2.2.atx ≤ s.atx + 1720 + 2 * x.2.1) ∧ (0 ≤ x.2.1 ∧ x.2.1 ≤ 41) ∧ ((x.1.length : Int) = x.2.1) ∧ (∀ y_ ∈ x.1, y_.Label.size ≤ 64) ∧ True) (fun x => (42 - x.2.1).toNat) (sm_2, (sm_2.length : Int), s'_3) rfl (show (Zbj s'_3 ∧ s'_3.code = s.code ∧ s.atx ≤ s'_3.atx ∧ s'_3.atx ≤ s.atx + 1720 + 2 * (sm_2.length : Int)) ∧ (0 ≤ (sm_2.length : Int) ∧ (sm_2.length : Int) ≤ 41) ∧ ((sm_2.length : Int) = (sm_2.length : Int)) ∧ (∀ y_ ∈ sm_2, y_.Label.size ≤ 64) ∧ True from ⟨(by exact ⟨by assumption, by first | assumption | rfl | (simp only [*]; done), by omega, by omega⟩), (by first | omega | (simp only [List.length_nil]; omega)), (by (first | rfl | omega)), (by first | exact hmz | exact (fun z hz => by simp at hz)), trivial⟩) (fun x hI => ?_)
      obtain ⟨list, k, src⟩ := x
      obtain ⟨hs0, hk0, hll, hsz, _⟩ : (Zbj src ∧ src.code = s.code ∧ s.atx ≤ src.atx ∧ src.atx ≤ s.atx + 1720 + 2 * k) ∧ (0 ≤ k ∧ k ≤ 41) ∧ ((list.length : Int) = k) ∧ (∀ y_ ∈ list, y_.Label.size ≤ 64) ∧ True := hI
      show XW _ _ _ _ (mkS [(0, .ref 7001 0), (4, .ref 4 0), (6, .ptr true [slS true v_1.Labels, Zbg true v_1.Weights]), (7, .arr 9311), (8, I k)] [(4, .box [Zao, Zao]), (7001, Zaa src), (9311, Zcb true list)]) _ _
      refine Zap ?_
      refine Zap ?_
      obtain ⟨v_5, s'_5, hx5_0, hx5_1, hx5_2, hx5_3, hc5⟩ := Zdu src 2 (by first | assumption | (simp only [Zbj] at *; simp_all; done)) (by omega)
      by_cases h5 : k < (40 + v_5)
      ·refine x_r [(2, .lend [(7001, Zaa src, Zaa s'_5)] [] [(true, .any), (true, .any)] true (I v_5)), (4, .dec true)] [0, 4, 6, 7, 8, 41] [4, 7001, 9311] [.ref 7001 0, .ref 4 0, .ptr true [slS true v_1.Labels, Zbg true v_1.Weights], .arr 9311, I k, Bv true] [some (.box [Zao, Zao]), some (Zaa s'_5), some (Zcb true list)] [Zaz Tryz.prog 48 [.ref 7001 0, I 2] (Zaf [(7001, Zaa src)]) true (I v_5) (Zaf [(7001, Zaa s'_5)]) ∧ (((Zaa src : Ob) = Zaa src ∨ Zeu Zel true (Zaa src) (Zaa src)) ∧ Zar false (Zaa src)) ∧ True, inR .i64 (40 + v_5), k < (40 + v_5)] ⟨⟨hc5, ⟨.inl rfl, (by simp [Zar, Zah, Zak, Zdj])⟩, trivial⟩, (Zam (by first | omega | (simp only [List.length_nil]; omega)) (by first | omega | (simp only [List.length_nil]; omega))), h5, trivial⟩ ?_
       refine Zab ?_
       refine Zbq rfl ?_
       refine Zca ?_
       refine Zab ?_
       refine Zap ?_
       refine Zbz ?_
       refine Zcz [] (T := [(0, .ref 7001 0), (4, .ref 4 0), (6, .ptr true [slS true v_1.Labels, Zbg true v_1.Weights]), (7, .arr 9311), (8, I k), (41, Bv true)]) (O := [(4, .box [Zao, Zao]), (7001, Zaa s'_5), (9311, .oar [] 2 list.length (Zcq true list))]) rfl (⟨.inl rfl, .inl rfl, .inl rfl, .inl rfl, .inl rfl, .inl rfl, trivial⟩) (⟨.inl rfl, .inl rfl, .inr ⟨rfl, rfl, fun i hi => rfl⟩, trivial⟩) ?_
       refine x_r [(6, .new 50), (8, .new 52), (9, .new 53)] [0, 4, 6, 7, 8] [4, 50, 53, 7001] [.ref 7001 0, .ref 4 0, .ptr true [slS true v_1.Labels, Zbg true v_1.Weights], .arr 53, I k] [some (.box [Zao, Zao]), some (.arr 3 1 (Zcw [I 0, I 0, I 0] 3)), some (.oar [50] 2 (list.length + 1) (Zdf list.length (Zcq true list) (Zcw [Sv (at_ v_1.Labels 0), .arr 50] 2))), some (Zaa s'_5)] [(0 : Int) ≤ 0 ∧ 0 < (v_1.Labels.length : Int), (list.length + 1) * 40 ≤ 140737488355328] ⟨⟨(by first | omega | (simp only [List.length_nil]; omega)), (by first | omega | (simp only [List.length_nil]; omega))⟩, (by first | omega | (simp only [List.length_nil]; omega)), trivial⟩ ?_
       refine Zbr 2 ?_
       refine Zab ?_
       refine x_r [] [0, 4, 6, 7, 8] [4, 50, 53, 7001] [.ref 7001 0, .ref 4 0, .ptr true [slS true v_1.Labels, Zbg true v_1.Weights], .arr 53, I (k + 1)] [some (.box [Zao, Zao]), some (.arr 3 1 (Zcw [I 0, I 0, I 0] 3)), some (.oar [50] 2 (list.length + 1) (Zdf list.length (Zcq true list) (Zcw [Sv (at_ v_1.Labels 0), .arr 50] 2))), some (Zaa s'_5)] [inR .i64 (k + 1)] ⟨(Zam (by first | omega | (simp only [List.length_nil]; omega)) (by first | omega | (simp only [List.length_nil]; omega))), trivial⟩ ?_
       refine Zcx [(9311, 53)] (T := [(0, .ref 7001 0), (4, .ref 4 0), (6, .ptr true [slS true v_1.Labels, Zbg true v_1.Weights]), (7, .arr 9311), (8, I (k + 1))]) (O := [(4, .box [Zao, Zao]), (7001, Zaa s'_5), (9311, Zcb true (list ++ [(Sample.mk (at_ v_1.Labels 0) ([(Feat.mk 0 0 0)]))]))]) rfl (⟨.inl rfl, .inl rfl, .inl rfl, .inl rfl, .inl rfl, trivial⟩) (⟨.inl rfl, .inl rfl, .inr ⟨rfl, (by simp), Zmh list (Sample.mk (at_ v_1.Labels 0) ([(Feat.mk 0 0 0)])) ⟨rfl, ⟨⟨(fun _ => rfl), rfl, (by first | rfl | (simp; done) | (simp; omega) | omega), fun i_ hi_ => .inl (match i_, hi_ with | 0, _ => rfl | (i + 1), h => absurd h (by simp))⟩, rfl⟩⟩⟩, trivial⟩) (Zcj ((list ++ [(Sample.mk (at_ v_1.Labels 0) ([(Feat.mk 0 0 0)]))]), (k + 1), s'_5) rfl (show (Zbj s'_5 ∧ s'_5.code = s.code ∧ s.atx ≤ s'_5.atx ∧ s'_5.atx ≤ s.atx + 1720 + 2 * (k + 1)) ∧ (0 ≤ (k + 1) ∧ (k + 1) ≤ 41) ∧ (((list ++ [(Sample.mk (at_ v_1.Labels 0) ([(Feat.mk 0 0 0)]))]).length : Int) = (k + 1)) ∧ (∀ y_ ∈ (list ++ [(Sample.mk (at_ v_1.Labels 0) ([(Feat.mk 0 0 0)]))]), y_.Label.size ≤ 64) ∧ True from ⟨(by exact ⟨by assumption, by first | assumption | rfl | (simp only [*]; done), by omega, by omega⟩), (by omega), (by simp; omega), (by exact Zyw hsz (by first | exact hz0 | omega)), trivial⟩) (by first | (show ((42 - (k + 1)).toNat : Nat) < (42 - k).toNat; omega) | (dsimp only; omega)))
      refine x_r [(2, .lend [(7001, Zaa src, Zaa s'_5)] [] [(true, .any), (true, .any)] true (I v_5)), (4, .dec false)] [0, 4, 6, 7, 8, 41] [4, 7001, 9311] [.ref 7001 0, .ref 4 0, .ptr true [slS true v_1.Labels, Zbg true v_1.Weights], .arr 9311, I k, Bv false] [some (.box [Zao, Zao]), some (Zaa s'_5), some (Zcb true list)] [Zaz Tryz.prog 48 [.ref 7001 0, I 2] (Zaf [(7001, Zaa src)]) true (I v_5) (Zaf [(7001, Zaa s'_5)]) ∧ (((Zaa src : Ob) = Zaa src ∨ Zeu Zel true (Zaa src) (Zaa src)) ∧ Zar false (Zaa src)) ∧ True, inR .i64 (40 + v_5), ¬ (k < (40 + v_5))] ⟨⟨hc5, ⟨.inl rfl, (by simp [Zar, Zah, Zak, Zdj])⟩, trivial⟩, (Zam (by first | omega | (simp only [List.length_nil]; omega)) (by first | omega | (simp only [List.length_nil]; omega))), h5, trivial⟩ ?_
      refine Zab ?_
      refine Zbe rfl ?_
      refine Zeg ?_
      refine Zbs ?_
      refine Zbu ?_
      refine Zbt ?_
      refine Zbr 0 ?_
      refine Zab ?_
      refine xR [] [4, 5] [4, 7001, 9311] [.ref 4 0, .arr 9311] [some (Zad v_1), some (Zaa s'_5), some (Zcb true list)] [] trivial ?_
      refine Zcf ?_
      refine Zbn (v_1, list, s'_5) (show (Zbj s'_5) ∧ (s'_5.code = s.code) ∧ (s.atx + 0 ≤ s'_5.atx ∧ s'_5.atx ≤ s.atx + 2500) ∧ (drP v_1) ∧ (drS list) ∧ (True) from ⟨(by first | omega | assumption | rfl | exact hs0.1 | exact hs0.2.1 | (simp only [*]; done) | exact ⟨by omega, hsz⟩ | exact ⟨by omega, hmz⟩ | exact Zbi (by omega) hmz (by show 1 ≤ 64; decide) | exact Zbh | exact Zbi (xs := []) (by decide) Zbh.2 (by show 1 ≤ 64; decide)), (by first | omega | assumption | rfl | exact hs0.1 | exact hs0.2.1 | (simp only [*]; done) | exact ⟨by omega, hsz⟩ | exact ⟨by omega, hmz⟩ | exact Zbi (by omega) hmz (by show 1 ≤ 64; decide) | exact Zbh | exact Zbi (xs := []) (by decide) Zbh.2 (by show 1 ≤ 64; decide)), (by first | omega | assumption | rfl | exact hs0.1 | exact hs0.2.1 | (simp only [*]; done) | exact ⟨by omega, hsz⟩ | exact ⟨by omega, hmz⟩ | exact Zbi (by omega) hmz (by show 1 ≤ 64; decide) | exact Zbh | exact Zbi (xs := []) (by decide) Zbh.2 (by show 1 ≤ 64; decide)), (by first | omega | assumption | rfl | exact hs0.1 | exact hs0.2.1 | (simp only [*]; done) | exact ⟨by omega, hsz⟩ | exact ⟨by omega, hmz⟩ | exact Zbi (by omega) hmz (by show 1 ≤ 64; decide) | exact Zbh | exact Zbi (xs := []) (by decide) Zbh.2 (by show 1 ≤ 64; decide)), (by first | omega | assumption | rfl | exact hs0.1 | exact hs0.2.1 | (simp only [*]; done) | exact ⟨by omega, hsz⟩ | exact ⟨by omega, hmz⟩ | exact Zbi (by omega) hmz (by show 1 ≤ 64; decide) | exact Zbh | exact Zbi (xs := []) (by decide) Zbh.2 (by show 1 ≤ 64; decide)), trivial⟩) (⟨.inl rfl, trivial⟩) (.tup [Zan v_1, .arr 9311]) (by kernel_rfl) (.inr ⟨⟨⟨(fun _ => rfl), rfl, rfl, fun i _ => .inl rfl⟩, ⟨⟨(fun _ => rfl), rfl, rfl, fun i _ => .inl rfl⟩, rfl⟩⟩, ⟨⟨(fun _ => rfl), rfl, rfl, fun i _ => .inl rfl⟩, rfl⟩⟩) (fun _ => rfl) (fun _ => (by simp [Zak, Zah, Zdd, Zer, Zdq]))
     refine x_r [(0, .dec false)] [0, 4, 6, 7, 32] [4, 7001, 9311] [.ref 7001 0, .ref 4 0, .ptr true [slS true v_1.Labels, Zbg true v_1.Weights], .arr 9311, Bv false] [some (.box [Zao, Zao]), some (Zaa s'_3), some (Zcb true sm_2)] [¬ (v_3 = 2)] ⟨h4, trivial⟩ ?_
     refine Zab ?_
     refine Zbe rfl ?_
     refine Zca ?_
     refine Zbr 0 ?_
     refine Zab ?_
     refine xR [] [4, 5] [4, 7001, 9311] [.ref 4 0, .arr 9311] [some (Zad v_1), some (Zaa s'_3), some (Zcb true sm_2)] [] trivial ?_
     refine Zcf ?_
     refine Zbn (v_1, sm_2, s'_3) (show (Zbj s'_3) ∧ (s'_3.code = s.code) ∧ (s.atx + 0 ≤ s'_3.atx ∧ s'_3.atx ≤ s.atx + 2500) ∧ (drP v_1) ∧ (drS sm_2) ∧ (True) from ⟨(by first | omega | assumption | rfl | exact hs0.1 | exact hs0.2.1 | (simp only [*]; done) | exact ⟨by omega, hsz⟩ | exact ⟨by omega, hmz⟩ | exact Zbi (by omega) hmz (by show 1 ≤ 64; decide) | exact Zbh | exact Zbi (xs := []) (by decide) Zbh.2 (by show 1 ≤ 64; decide)), (by first | omega | assumption | rfl | exact hs0.1 | exact hs0.2.1 | (simp only [*]; done) | exact ⟨by omega, hsz⟩ | exact ⟨by omega, hmz⟩ | exact Zbi (by omega) hmz (by show 1 ≤ 64; decide) | exact Zbh | exact Zbi (xs := []) (by decide) Zbh.2 (by show 1 ≤ 64; decide)), (by first | omega | assumption | rfl | exact hs0.1 | exact hs0.2.1 | (simp only [*]; done) | exact ⟨by omega, hsz⟩ | exact ⟨by omega, hmz⟩ | exact Zbi (by omega) hmz (by show 1 ≤ 64; decide) | exact Zbh | exact Zbi (xs := []) (by decide) Zbh.2 (by show 1 ≤ 64; decide)), (by first | omega | assumption | rfl | exact hs0.1 | exact hs0.2.1 | (simp only [*]; done) | exact ⟨by omega, hsz⟩ | exact ⟨by omega, hmz⟩ | exact Zbi (by omega) hmz (by show 1 ≤ 64; decide) | exact Zbh | exact Zbi (xs := []) (by decide) Zbh.2 (by show 1 ≤ 64; decide)), (by first | omega | assumption | rfl | exact hs0.1 | exact hs0.2.1 | (simp only [*]; done) | exact ⟨by omega, hsz⟩ | exact ⟨by omega, hmz⟩ | exact Zbi (by omega) hmz (by show 1 ≤ 64; decide) | exact Zbh | exact Zbi (xs := []) (by decide) Zbh.2 (by show 1 ≤ 64; decide)), trivial⟩) (⟨.inl rfl, trivial⟩) (.tup [Zan v_1, .arr 9311]) (by kernel_rfl) (.inr ⟨⟨⟨(fun _ => rfl), rfl, rfl, fun i _ => .inl rfl⟩, ⟨⟨(fun _ => rfl), rfl, rfl, fun i _ => .inl rfl⟩, rfl⟩⟩, ⟨⟨(fun _ => rfl), rfl, rfl, fun i _ => .inl rfl⟩, rfl⟩⟩) (fun _ => rfl) (fun _ => (by simp [Zak, Zah, Zdd, Zer, Zdq]))
    refine x_r [(0, .call [(false, .ptr false [slS false v_1.Labels, Zbg false v_1.Weights])] true (Bv false))] [0, 1, 4, 6, 7, 12] [4, 6, 11, 7001] [.ref 7001 0, I most, .ref 4 0, .ref 6 0, .arr 11, Bv false] [some (.box [Zao, Zao]), some (Zad v_1), some (.arr 2 0 (Zcw [] 2)), some (Zaa s'_1)] [Con Tryz.prog 35 [.ptr false [slS false v_1.Labels, Zbg false v_1.Weights]] true (Bv false) ∧ ((false = true → true = true) ∧ AV.idsL [slS false v_1.Labels, Zbg false v_1.Weights] = [] ∧ ((false = true → true = true) ∧ 1 = 1 ∧ v_1.Labels.length = v_1.Labels.length ∧ ∀ i_, i_ < v_1.Labels.length → (fS v_1.Labels) i_ = (fS v_1.Labels) i_ ∨ (AV.idsL ((fS v_1.Labels) i_) = [] ∧ leL (fun _ => none) false ((fS v_1.Labels) i_) ((fS v_1.Labels) i_))) ∧ ((false = true → true = true) ∧ 1 = 1 ∧ v_1.Weights.length = v_1.Weights.length ∧ ∀ i_, i_ < v_1.Weights.length → (fLI true v_1.Weights) i_ = (fLI false v_1.Weights) i_ ∨ (AV.idsL ((fLI false v_1.Weights) i_) = [] ∧ leL (fun _ => none) false ((fLI true v_1.Weights) i_) ((fLI false v_1.Weights) i_))) ∧ ([] : List AV) = []) ∧ True] ⟨⟨(Zaq h1 (Zew v_1 (fun y hy => by have := hdp.2.1 y hy; omega))), ⟨(fun h => by cases h), rfl, ⟨⟨(fun h => by cases h), rfl, rfl, fun i _ => .inl rfl⟩, ⟨⟨(fun h => by cases h), rfl, rfl, fun i _ => .inr ⟨Zev _ _, Zjp _ _ _⟩⟩, rfl⟩⟩⟩, trivial⟩, trivial⟩ ?_
    refine Zab ?_
    refine Zbe rfl ?_
    refine Zca ?_
    refine Zab ?_
    refine Zap ?_
    refine Zap ?_
    refine Zcz [] (T := [(0, .ref 7001 0), (1, I most), (4, .ref 4 0), (6, .ref 6 0), (7, .arr 11), (12, Bv false)]) (O := [(4, .box [Zao, Zao]), (6, Zad v_1), (11, Zcb true ([] : List Sample)), (7001, Zaa s'_1)]) rfl (⟨.inl rfl, .inl rfl, .inl rfl, .inl rfl, .inl rfl, .inl rfl, trivial⟩) (⟨.inl rfl, .inl rfl, .inr ⟨rfl, (by first | rfl | (simp; done) | (simp; omega) | omega), fun i_ hi_ => absurd hi_ (Nat.not_lt_zero _)⟩, .inl rfl, trivial⟩) ?_
    obtain ⟨v_6, s'_6, hx6_0, hx6_1, hx6_2, hx6_3, hc6⟩ := Zdu s'_1 24 (by first | assumption | (simp only [Zbj] at *; simp_all; done)) (by omega)
    refine x_r [(1, .lend [(7001, Zaa s'_1, Zaa s'_6)] [] [(true, .any), (true, .any)] true (I v_6))] [0, 4, 6, 7, 17] [4, 6, 11, 7001] [.ref 7001 0, .ref 4 0, .ref 6 0, .arr 11, I v_6] [some (.box [Zao, Zao]), some (Zad v_1), some (Zcb true ([] : List Sample)), some (Zaa s'_6)] [Zaz Tryz.prog 48 [.ref 7001 0, I 24] (Zaf [(7001, Zaa s'_1)]) true (I v_6) (Zaf [(7001, Zaa s'_6)]) ∧ (((Zaa s'_1 : Ob) = Zaa s'_1 ∨ Zeu Zel true (Zaa s'_1) (Zaa s'_1)) ∧ Zar false (Zaa s'_1)) ∧ True] ⟨⟨hc6, ⟨.inl rfl, (by simp [Zar, Zah, Zak, Zdj])⟩, trivial⟩, trivial⟩ ?_
    refine Zab ?_
    refine Zbz ?_
    refine Zap ?_
    by_cases h6 : v_6 = 0
    ·refine x_r [(0, .dec true)] [0, 4, 6, 7, 17, 18] [4, 6, 11, 7001] [.ref 7001 0, .ref 4 0, .ref 6 0, .arr 11, I v_6, Bv true] [some (.box [Zao, Zao]), some (Zad v_1), some (Zcb true ([] : List Sample)), some (Zaa s'_6)] [v_6 = 0] ⟨h6, trivial⟩ ?_
     refine Zab ?_
     refine Zbq rfl ?_
     refine Zcz [] (T := [(0, .ref 7001 0), (4, .ref 4 0), (6, .ref 6 0), (7, .arr 11), (17, I v_6), (18, Bv true)]) (O := [(4, .box [Zao, Zao]), (6, Zad v_1), (11, .oar [] 2 (([] : List Sample).length) (Zcq true ([] : List Sample))), (7001, Zaa s'_6)]) rfl (⟨.inl rfl, .inl rfl, .inl rfl, .inl rfl, .inl rfl, .inl rfl, trivial⟩) (⟨.inl rfl, .inl rfl, .inr ⟨rfl, rfl, fun i hi => rfl⟩, .inl rfl, trivial⟩) ?_
     obtain ⟨s'_7, fs_7, hx7_0, hx7_1, hx7_2, hx7_3, hx7_4, hc7⟩ := Zmg s'_6 4 (by first | assumption | (simp only [Zbj] at *; simp_all; done)) (by omega) (by omega)
     refine x_r [(2, .lend [(7001, Zaa s'_6, Zaa s'_7)] [(9301, Zdz fs_7)] [(true, .any), (true, .any)] false (.arr 9301)), (4, .new 24), (5, .new 25)] [4, 6, 7] [4, 6, 25, 7001, 9301] [.ref 4 0, .ref 6 0, .arr 25] [some (.box [Zao, Zao]), some (Zad v_1), some (.oar [9301] 2 ((([] : List Sample).length) + 1) (Zdf (([] : List Sample).length) (Zcq true ([] : List Sample)) (Zcw [Sv (⟨#[122]⟩ : ByteArray), .arr 9301] 2))), some (Zaa s'_7), some (Zdz fs_7)] [Zaz Tryz.prog 19 [.ref 7001 0, I 4] (Zaf [(7001, Zaa s'_6)]) false (.arr 9301) (Zaf [(7001, Zaa s'_7), (9301, Zdz fs_7)]) ∧ (((Zaa s'_6 : Ob) = Zaa s'_6 ∨ Zeu Zel true (Zaa s'_6) (Zaa s'_6)) ∧ Zar false (Zaa s'_6)) ∧ True, ((([] : List Sample).length) + 1) * 40 ≤ 140737488355328] ⟨⟨hc7, ⟨.inl rfl, (by simp [Zar, Zah, Zak, Zdj])⟩, trivial⟩, (by first | omega | (simp only [List.length_nil]; omega)), trivial⟩ ?_
     refine Zbr 0 ?_
     refine Zab ?_
     refine xR [] [4, 5] [4, 25, 7001, 9301] [.ref 4 0, .arr 25] [some (Zad v_1), some (.oar [9301] 2 ((([] : List Sample).length) + 1) (Zdf (([] : List Sample).length) (Zcq true ([] : List Sample)) (Zcw [Sv (⟨#[122]⟩ : ByteArray), .arr 9301] 2))), some (Zaa s'_7), some (Zdz fs_7)] [] trivial ?_
     refine Zcf ?_
     refine Zbn (v_1, (([] : List Sample) ++ [(Sample.mk (⟨#[122]⟩ : ByteArray) fs_7)]), s'_7) (show (Zbj s'_7) ∧ (s'_7.code = s.code) ∧ (s.atx + 0 ≤ s'_7.atx ∧ s'_7.atx ≤ s.atx + 2500) ∧ (drP v_1) ∧ (drS (([] : List Sample) ++ [(Sample.mk (⟨#[122]⟩ : ByteArray) fs_7)])) ∧ (True) from ⟨(by first | omega | assumption | rfl | exact hs0.1 | exact hs0.2.1 | (simp only [*]; done) | exact ⟨by omega, hsz⟩ | exact ⟨by omega, hmz⟩ | exact Zbi (by omega) hmz (by show 1 ≤ 64; decide) | exact Zbh | exact Zbi (xs := []) (by decide) Zbh.2 (by show 1 ≤ 64; decide)), (by first | omega | assumption | rfl | exact hs0.1 | exact hs0.2.1 | (simp only [*]; done) | exact ⟨by omega, hsz⟩ | exact ⟨by omega, hmz⟩ | exact Zbi (by omega) hmz (by show 1 ≤ 64; decide) | exact Zbh | exact Zbi (xs := []) (by decide) Zbh.2 (by show 1 ≤ 64; decide)), (by first | omega | assumption | rfl | exact hs0.1 | exact hs0.2.1 | (simp only [*]; done) | exact ⟨by omega, hsz⟩ | exact ⟨by omega, hmz⟩ | exact Zbi (by omega) hmz (by show 1 ≤ 64; decide) | exact Zbh | exact Zbi (xs := []) (by decide) Zbh.2 (by show 1 ≤ 64; decide)), (by first | omega | assumption | rfl | exact hs0.1 | exact hs0.2.1 | (simp only [*]; done) | exact ⟨by omega, hsz⟩ | exact ⟨by omega, hmz⟩ | exact Zbi (by omega) hmz (by show 1 ≤ 64; decide) | exact Zbh | exact Zbi (xs := []) (by decide) Zbh.2 (by show 1 ≤ 64; decide)), (by first | omega | assumption | rfl | exact hs0.1 | exact hs0.2.1 | (simp only [*]; done) | exact ⟨by omega, hsz⟩ | exact ⟨by omega, hmz⟩ | exact Zbi (by omega) hmz (by show 1 ≤ 64; decide) | exact Zbh | exact Zbi (xs := []) (by decide) Zbh.2 (by show 1 ≤ 64; decide)), trivial⟩) (⟨.inl rfl, trivial⟩) (.tup [Zan v_1, .arr 25]) (by kernel_rfl) (.inr ⟨⟨⟨(fun _ => rfl), rfl, rfl, fun i _ => .inl rfl⟩, ⟨⟨(fun _ => rfl), rfl, rfl, fun i _ => .inl rfl⟩, rfl⟩⟩, ⟨⟨(fun _ => rfl), rfl, (by simp), Zmh ([] : List Sample) (Sample.mk (⟨#[122]⟩ : ByteArray) fs_7) ⟨rfl, ⟨⟨(fun _ => rfl), rfl, rfl, fun i _ => .inl rfl⟩, rfl⟩⟩⟩, rfl⟩⟩) (fun _ => rfl) (fun _ => (by simp [Zak, Zah, Zdd, Zer, Zdq]))
    refine x_r [(0, .dec false)] [0, 4, 6, 7, 17, 18] [4, 6, 11, 7001] [.ref 7001 0, .ref 4 0, .ref 6 0, .arr 11, I v_6, Bv false] [some (.box [Zao, Zao]), some (Zad v_1), some (Zcb true ([] : List Sample)), some (Zaa s'_6)] [¬ (v_6 = 0)] ⟨h6, trivial⟩ ?_
    refine Zab ?_
    refine Zbe rfl ?_
    refine Zap ?_
    by_cases h7 : v_6 = 1
    ·refine x_r [(0, .dec true)] [0, 4, 6, 7, 17, 26] [4, 6, 11, 7001] [.ref 7001 0, .ref 4 0, .ref 6 0, .arr 11, I v_6, Bv true] [some (.box [Zao, Zao]), some (Zad v_1), some (Zcb true ([] : List Sample)), some (Zaa s'_6)] [v_6 = 1] ⟨h7, trivial⟩ ?_
     refine Zab ?_
     refine Zbq rfl ?_
     refine x_r [(2, .new 30), (3, .new 31)] [4, 6, 7] [4, 6, 31, 7001] [.ref 4 0, .ref 6 0, .arr 31] [some (.box [Zao, Zao]), some (Zad v_1), some (.arr 2 ((([] : List Sample).length) + 1) (Zdf (([] : List Sample).length) (Zcq true ([] : List Sample)) (Zcw [Sv (⟨#[97]⟩ : ByteArray), Zao] 2))), some (Zaa s'_6)] [((([] : List Sample).length) + 1) * 40 ≤ 140737488355328] ⟨(by first | omega | (simp only [List.length_nil]; omega)), trivial⟩ ?_
     refine Zbr 0 ?_
     refine Zab ?_
     refine xR [] [4, 5] [4, 31, 7001] [.ref 4 0, .arr 31] [some (Zad v_1), some (.arr 2 ((([] : List Sample).length) + 1) (Zdf (([] : List Sample).length) (Zcq true ([] : List Sample)) (Zcw [Sv (⟨#[97]⟩ : ByteArray), Zao] 2))), some (Zaa s'_6)] [] trivial ?_
     refine Zcf ?_
     refine Zbn (v_1, (([] : List Sample) ++ [(Sample.mk (⟨#[97]⟩ : ByteArray) ([] : List Feat))]), s'_6) (show (Zbj s'_6) ∧ (s'_6.code = s.code) ∧ (s.atx + 0 ≤ s'_6.atx ∧ s'_6.atx ≤ s.atx + 2500) ∧ (drP v_1) ∧ (drS (([] : List Sample) ++ [(Sample.mk (⟨#[97]⟩ : ByteArray) ([] : List Feat))])) ∧ (True) from ⟨(by first | omega | assumption | rfl | exact hs0.1 | exact hs0.2.1 | (simp only [*]; done) | exact ⟨by omega, hsz⟩ | exact ⟨by omega, hmz⟩ | exact Zbi (by omega) hmz (by show 1 ≤ 64; decide) | exact Zbh | exact Zbi (xs := []) (by decide) Zbh.2 (by show 1 ≤ 64; decide)), (by first | omega | assumption | rfl | exact hs0.1 | exact hs0.2.1 | (simp only [*]; done) | exact ⟨by omega, hsz⟩ | exact ⟨by omega, hmz⟩ | exact Zbi (by omega) hmz (by show 1 ≤ 64; decide) | exact Zbh | exact Zbi (xs := []) (by decide) Zbh.2 (by show 1 ≤ 64; decide)), (by first | omega | assumption | rfl | exact hs0.1 | exact hs0.2.1 | (simp only [*]; done) | exact ⟨by omega, hsz⟩ | exact ⟨by omega, hmz⟩ | exact Zbi (by omega) hmz (by show 1 ≤ 64; decide) | exact Zbh | exact Zbi (xs := []) (by decide) Zbh.2 (by show 1 ≤ 64; decide)), (by first | omega | assumption | rfl | exact hs0.1 | exact hs0.2.1 | (simp only [*]; done) | exact ⟨by omega, hsz⟩ | exact ⟨by omega, hmz⟩ | exact Zbi (by omega) hmz (by show 1 ≤ 64; decide) | exact Zbh | exact Zbi (xs := []) (by decide) Zbh.2 (by show 1 ≤ 64; decide)), (by first | omega | assumption | rfl | exact hs0.1 | exact hs0.2.1 | (simp only [*]; done) | exact ⟨by omega, hsz⟩ | exact ⟨by omega, hmz⟩ | exact Zbi (by omega) hmz (by show 1 ≤ 64; decide) | exact Zbh | exact Zbi (xs := []) (by decide) Zbh.2 (by show 1 ≤ 64; decide)), trivial⟩) (⟨.inl rfl, trivial⟩) (.tup [Zan v_1, .arr 31]) (by kernel_rfl) (.inr ⟨⟨⟨(fun _ => rfl), rfl, rfl, fun i _ => .inl rfl⟩, ⟨⟨(fun _ => rfl), rfl, rfl, fun i _ => .inl rfl⟩, rfl⟩⟩, ⟨⟨(fun _ => rfl), rfl, (by first | rfl | (simp; done) | (simp; omega) | omega), fun i_ hi_ => cat_le (enc := (Zec true)) (xs := ([] : List Sample)) (x := (Sample.mk (⟨#[97]⟩ : ByteArray) ([] : List Feat))) (g := (Zcw [Sv (⟨#[97]⟩ : ByteArray), Zao] 2)) ⟨rfl, ⟨rfl, ⟨⟨rfl, rfl⟩, rfl⟩⟩⟩ i_ hi_⟩, rfl⟩⟩) (fun _ => rfl) (fun _ => (by simp [Zak, Zah, Zdd, Zer, Zdq]))
    refine x_r [(0, .dec false)] [0, 4, 6, 7, 17, 26] [4, 6, 11, 7001] [.ref 7001 0, .ref 4 0, .ref 6 0, .arr 11, I v_6, Bv false] [some (.box [Zao, Zao]), some (Zad v_1), some (Zcb true ([] : List Sample)), some (Zaa s'_6)] [¬ (v_6 = 1)] ⟨h7, trivial⟩ ?_
    refine Zab ?_
    refine Zbe rfl ?_
    refine Zap ?_
    by_cases h8 : v_6 = 2
    ·refine x_r [(0, .dec true)] [0, 4, 6, 7, 32] [4, 6, 11, 7001] [.ref 7001 0, .ref 4 0, .ref 6 0, .arr 11, Bv true] [some (.box [Zao, Zao]), some (Zad v_1), some (Zcb true ([] : List Sample)), some (Zaa s'_6)] [v_6 = 2] ⟨h8, trivial⟩ ?_
     refine Zab ?_
     refine Zbq rfl ?_
     refine xR [(0, .call [(false, .ptr false [slS false v_1.Labels, Zbg false v_1.Weights])] true (Bv false))] [0, 4, 6, 7, 34] [4, 6, 11, 7001] [.ref 7001 0, .ref 4 0, .ref 6 0, .arr 11, Bv false] [some (.box [Zao, Zao]), some (Zad v_1), some (Zcb true ([] : List Sample)), some (Zaa s'_6)] [Con Tryz.prog 35 [.ptr false [slS false v_1.Labels, Zbg false v_1.Weights]] true (Bv false) ∧ ((false = true → true = true) ∧ AV.idsL [slS false v_1.Labels, Zbg false v_1.Weights] = [] ∧ ((false = true → true = true) ∧ 1 = 1 ∧ v_1.Labels.length = v_1.Labels.length ∧ ∀ i_, i_ < v_1.Labels.length → (fS v_1.Labels) i_ = (fS v_1.Labels) i_ ∨ (AV.idsL ((fS v_1.Labels) i_) = [] ∧ leL (fun _ => none) false ((fS v_1.Labels) i_) ((fS v_1.Labels) i_))) ∧ ((false = true → true = true) ∧ 1 = 1 ∧ v_1.Weights.length = v_1.Weights.length ∧ ∀ i_, i_ < v_1.Weights.length → (fLI true v_1.Weights) i_ = (fLI false v_1.Weights) i_ ∨ (AV.idsL ((fLI false v_1.Weights) i_) = [] ∧ leL (fun _ => none) false ((fLI true v_1.Weights) i_) ((fLI false v_1.Weights) i_))) ∧ ([] : List AV) = []) ∧ True] ⟨⟨(Zaq h1 (Zew v_1 (fun y hy => by have := hdp.2.1 y hy; omega))), ⟨(fun h => by cases h), rfl, ⟨⟨(fun h => by cases h), rfl, rfl, fun i _ => .inl rfl⟩, ⟨⟨(fun h => by cases h), rfl, rfl, fun i _ => .inr ⟨Zev _ _, Zjp _ _ _⟩⟩, rfl⟩⟩⟩, trivial⟩, trivial⟩ ?_
     refine Zbe rfl ?_
     refine Zca ?_
     refine Zbr 0 ?_
     refine Zab ?_
     refine xR [] [4, 5] [4, 11, 7001] [.ref 4 0, .arr 11] [some (Zad v_1), some (Zcb true ([] : List Sample)), some (Zaa s'_6)] [] trivial ?_
     refine Zcf ?_
     refine Zbn (v_1, ([] : List Sample), s'_6) (show (Zbj s'_6) ∧ (s'_6.code = s.code) ∧ (s.atx + 0 ≤ s'_6.atx ∧ s'_6.atx ≤ s.atx + 2500) ∧ (drP v_1) ∧ (drS ([] : List Sample)) ∧ (True) from ⟨(by first | omega | assumption | rfl | exact hs0.1 | exact hs0.2.1 | (simp only [*]; done) | exact ⟨by omega, hsz⟩ | exact ⟨by omega, hmz⟩ | exact Zbi (by omega) hmz (by show 1 ≤ 64; decide) | exact Zbh | exact Zbi (xs := []) (by decide) Zbh.2 (by show 1 ≤ 64; decide)), (by first | omega | assumption | rfl | exact hs0.1 | exact hs0.2.1 | (simp only [*]; done) | exact ⟨by omega, hsz⟩ | exact ⟨by omega, hmz⟩ | exact Zbi (by omega) hmz (by show 1 ≤ 64; decide) | exact Zbh | exact Zbi (xs := []) (by decide) Zbh.2 (by show 1 ≤ 64; decide)), (by first | omega | assumption | rfl | exact hs0.1 | exact hs0.2.1 | (simp only [*]; done) | exact ⟨by omega, hsz⟩ | exact ⟨by omega, hmz⟩ | exact Zbi (by omega) hmz (by show 1 ≤ 64; decide) | exact Zbh | exact Zbi (xs := []) (by decide) Zbh.2 (by show 1 ≤ 64; decide)), (by first | omega | assumption | rfl | exact hs0.1 | exact hs0.2.1 | (simp only [*]; done) | exact ⟨by omega, hsz⟩ | exact ⟨by omega, hmz⟩ | exact Zbi (by omega) hmz (by show 1 ≤ 64; decide) | exact Zbh | exact Zbi (xs := []) (by decide) Zbh.2 (by show 1 ≤ 64; decide)), (by first | omega | assumption | rfl | exact hs0.1 | exact hs0.2.1 | (simp only [*]; done) | exact ⟨by omega, hsz⟩ | exact ⟨by omega, hmz⟩ | exact Zbi (by omega) hmz (by show 1 ≤ 64; decide) | exact Zbh | exact Zbi (xs := []) (by decide) Zbh.2 (by show 1 ≤ 64; decide)), trivial⟩) (⟨.inl rfl, trivial⟩) (.tup [Zan v_1, .arr 11]) (by kernel_rfl) (.inr ⟨⟨⟨(fun _ => rfl), rfl, rfl, fun i _ => .inl rfl⟩, ⟨⟨(fun _ => rfl), rfl, rfl, fun i _ => .inl rfl⟩, rfl⟩⟩, ⟨⟨(fun _ => rfl), rfl, rfl, fun i _ => .inl rfl⟩, rfl⟩⟩) (fun _ => rfl) (fun _ => (by simp [Zak, Zah, Zdd, Zer, Zdq]))
    refine x_r [(0, .dec false)] [0, 4, 6, 7, 32] [4, 6, 11, 7001] [.ref 7001 0, .ref 4 0, .ref 6 0, .arr 11, Bv false] [some (.box [Zao, Zao]), some (Zad v_1), some (Zcb true ([] : List Sample)), some (Zaa s'_6)] [¬ (v_6 = 2)] ⟨h8, trivial⟩ ?_
    refine Zab ?_
    refine Zbe rfl ?_
    refine Zca ?_
    refine Zbr 0 ?_
    refine Zab ?_
    refine xR [] [4, 5] [4, 11, 7001] [.ref 4 0, .arr 11] [some (Zad v_1), some (Zcb true ([] : List Sample)), some (Zaa s'_6)] [] trivial ?_
    refine Zcf ?_
    refine Zbn (v_1, ([] : List Sample), s'_6) (show (Zbj s'_6) ∧ (s'_6.code = s.code) ∧ (s.atx + 0 ≤ s'_6.atx ∧ s'_6.atx ≤ s.atx + 2500) ∧ (drP v_1) ∧ (drS ([] : List Sample)) ∧ (True) from ⟨(by first | omega | assumption | rfl | exact hs0.1 | exact hs0.2.1 | (simp only [*]; done) | exact ⟨by omega, hsz⟩ | exact ⟨by omega, hmz⟩ | exact Zbi (by omega) hmz (by show 1 ≤ 64; decide) | exact Zbh | exact Zbi (xs := []) (by decide) Zbh.2 (by show 1 ≤ 64; decide)), (by first | omega | assumption | rfl | exact hs0.1 | exact hs0.2.1 | (simp only [*]; done) | exact ⟨by omega, hsz⟩ | exact ⟨by omega, hmz⟩ | exact Zbi (by omega) hmz (by show 1 ≤ 64; decide) | exact Zbh | exact Zbi (xs := []) (by decide) Zbh.2 (by show 1 ≤ 64; decide)), (by first | omega | assumption | rfl | exact hs0.1 | exact hs0.2.1 | (simp only [*]; done) | exact ⟨by omega, hsz⟩ | exact ⟨by omega, hmz⟩ | exact Zbi (by omega) hmz (by show 1 ≤ 64; decide) | exact Zbh | exact Zbi (xs := []) (by decide) Zbh.2 (by show 1 ≤ 64; decide)), (by first | omega | assumption | rfl | exact hs0.1 | exact hs0.2.1 | (simp only [*]; done) | exact ⟨by omega, hsz⟩ | exact ⟨by omega, hmz⟩ | exact Zbi (by omega) hmz (by show 1 ≤ 64; decide) | exact Zbh | exact Zbi (xs := []) (by decide) Zbh.2 (by show 1 ≤ 64; decide)), (by first | omega | assumption | rfl | exact hs0.1 | exact hs0.2.1 | (simp only [*]; done) | exact ⟨by omega, hsz⟩ | exact ⟨by omega, hmz⟩ | exact Zbi (by omega) hmz (by show 1 ≤ 64; decide) | exact Zbh | exact Zbi (xs := []) (by decide) Zbh.2 (by show 1 ≤ 64; decide)), trivial⟩) (⟨.inl rfl, trivial⟩) (.tup [Zan v_1, .arr 11]) (by kernel_rfl) (.inr ⟨⟨⟨(fun _ => rfl), rfl, rfl, fun i _ => .inl rfl⟩, ⟨⟨(fun _ => rfl), rfl, rfl, fun i _ => .inl rfl⟩, rfl⟩⟩, ⟨⟨(fun _ => rfl), rfl, rfl, fun i _ => .inl rfl⟩, rfl⟩⟩) (fun _ => rfl) (fun _ => (by simp [Zak, Zah, Zdd, Zer, Zdq]))
  obtain ⟨⟨v, w, s'⟩, ⟨hh0, hh1, hh2, hh3, hh4, _⟩, hc⟩ := hh
  exact ⟨v, w, s', hh0, hh1, hh2, hh3, hh4, hc⟩
theorem Znk (code : List Int) (hc : (∀ j, j < code.length → 0 ≤ at_ code j ∧ at_ code j ≤ 255) ∧ code.length ≤ 4611686018427387904) : ∃ (p : Perceptron) (s : Sample), (drP p) ∧ (s.Label.size ≤ 64) ∧ Con Tryz.prog 5 [Zgk false code] true (.tup [Zan p, Zho s]) := by
  have hh : ∃ r : Perceptron × Sample, ((drP r.1) ∧ (r.2.Label.size ≤ 64) ∧ (True)) ∧ Zaz Tryz.prog 5 [Zgk false code] (Zaf []) true (.tup [Zan r.1, Zho r.2]) (Zaf []) := by
    refine Zde (Φ := fun r : Perceptron × Sample => (drP r.1) ∧ (r.2.Label.size ≤ 64) ∧ (True)) [] (fun r => []) (fn := Tryz.f5) (nt := 28) Tryz.func5 rfl rfl (args := [Zgk false code]) rfl (Zbw (.inl ⟨rfl, Zdj false _⟩) Zdb) (res := fun r => .tup [Zan r.1, Zho r.2]) ?_
    refine xR [(0, .new 2), (1, .new 3)] [0, 2, 3] [2, 3] [Zgk false code, .ref 2 0, .ref 3 0] [some (.box [Zao, Zao]), some (.box [Sv (⟨#[]⟩ : ByteArray), Zao])] [] trivial ?_
    refine Zap ?_
    obtain ⟨s'_1, hx1_0, hc1⟩ := Zqo code
    have hsrc : Zbj s'_1 := ⟨by rw [hx1_0.1]; exact hc.1, by rw [hx1_0.2]; decide, by rw [hx1_0.1]; exact hc.2⟩
    have hat0 := hx1_0.2
    refine x_r [(1, .lend [] [(7001, Zaa s'_1)] [(true, .any)] false (.ref 7001 0))] [2, 3, 4] [2, 3, 7001] [.ref 2 0, .ref 3 0, .ref 7001 0] [some (.box [Zao, Zao]), some (.box [Sv (⟨#[]⟩ : ByteArray), Zao]), some (Zaa s'_1)] [Zaz Tryz.prog 17 [Zgk false code] (Zaf []) false (.ref 7001 0) (Zaf [(7001, Zaa s'_1)]) ∧ True] ⟨⟨hc1, trivial⟩, trivial⟩ ?_
    refine Zab ?_
    refine Zap ?_
    obtain ⟨v_2, w_2, s'_2, hx2_0, hx2_1, hx2_2, hx2_3, hx2_4, hc2⟩ := Ydw s'_1 3 (by first | assumption | (simp only [Zbj] at *; simp_all; done)) (by omega) (by omega)
    have hwl := (hx2_4).1
    have hws := (hx2_4).2
    refine x_r [(1, .lend [(7001, Zaa s'_1, Zaa s'_2)] [] [(true, .any), (true, .any)] true (.tup [Zan v_2, Zaj true w_2])), (5, .new 5)] [2, 3, 4, 5, 6] [2, 3, 5, 7001] [.ref 2 0, .ref 3 0, .ref 7001 0, .ref 5 0, Zaj true w_2] [some (.box [Zao, Zao]), some (.box [Sv (⟨#[]⟩ : ByteArray), Zao]), some (Zad v_2), some (Zaa s'_2)] [Zaz Tryz.prog 18 [.ref 7001 0, I 3] (Zaf [(7001, Zaa s'_1)]) true (.tup [Zan v_2, Zaj true w_2]) (Zaf [(7001, Zaa s'_2)]) ∧ (((Zaa s'_1 : Ob) = Zaa s'_1 ∨ Zeu Zel true (Zaa s'_1) (Zaa s'_1)) ∧ Zar false (Zaa s'_1)) ∧ True] ⟨⟨hc2, ⟨.inl rfl, (by simp [Zar, Zah, Zak, Zdj])⟩, trivial⟩, trivial⟩ ?_
    refine Zab ?_
    refine Zap ?_
    refine Zap ?_
    by_cases h1 : (w_2.length : Int) = 0
    ·refine x_r [(2, .dec true)] [2, 3, 4, 5, 6, 16] [2, 3, 5, 7001] [.ref 2 0, .ref 3 0, .ref 7001 0, .ref 5 0, Zaj true w_2, Bv true] [some (.box [Zao, Zao]), some (.box [Sv (⟨#[]⟩ : ByteArray), Zao]), some (Zad v_2), some (Zaa s'_2)] [(w_2.length : Int) = 0] ⟨h1, trivial⟩ ?_
     refine Zab ?_
     refine Zbq rfl ?_
     refine Zap ?_
     obtain ⟨s'_3, fs_3, hx3_0, hx3_1, hx3_2, hx3_3, hx3_4, hc3⟩ := Zmg s'_2 4 (by first | assumption | (simp only [Zbj] at *; simp_all; done)) (by omega) (by omega)
     refine x_r [(2, .lend [(7001, Zaa s'_2, Zaa s'_3)] [(9301, Zdz fs_3)] [(true, .any), (true, .any)] false (.arr 9301))] [2, 3] [2, 3, 9301] [.ref 2 0, .ref 3 0] [some (Zad v_2), some (.box [Sv (⟨#[97]⟩ : ByteArray), .arr 9301]), some (Zdz fs_3)] [Zaz Tryz.prog 19 [.ref 7001 0, I 4] (Zaf [(7001, Zaa s'_2)]) false (.arr 9301) (Zaf [(7001, Zaa s'_3), (9301, Zdz fs_3)]) ∧ (((Zaa s'_2 : Ob) = Zaa s'_2 ∨ Zeu Zel true (Zaa s'_2) (Zaa s'_2)) ∧ Zar false (Zaa s'_2)) ∧ True] ⟨⟨hc3, ⟨.inl rfl, (by simp [Zar, Zah, Zak, Zdj])⟩, trivial⟩, trivial⟩ ?_
     refine Zab ?_
     refine Zcf ?_
     refine Zbd ?_
     refine Zbn (v_2, (Sample.mk (⟨#[97]⟩ : ByteArray) fs_3)) (show (drP v_2) ∧ ((Sample.mk (⟨#[97]⟩ : ByteArray) fs_3).Label.size ≤ 64) ∧ (True) from ⟨(by first | assumption | (show 1 ≤ 64; decide) | exact hws _ (Zct (by omega)) | omega), (by first | assumption | (show 1 ≤ 64; decide) | exact hws _ (Zct (by omega)) | omega), trivial⟩) (trivial) (.tup [Zan v_2, .agg [Sv (⟨#[97]⟩ : ByteArray), .arr 9301]]) (by kernel_rfl) (.inr ⟨⟨⟨(fun _ => rfl), rfl, rfl, fun i _ => .inl rfl⟩, ⟨⟨(fun _ => rfl), rfl, rfl, fun i _ => .inl rfl⟩, rfl⟩⟩, ⟨⟨rfl, ⟨⟨(fun _ => rfl), rfl, rfl, fun i _ => .inl rfl⟩, rfl⟩⟩, rfl⟩⟩) (fun _ => rfl) (fun _ => (by simp [Zak, Zah, Zef, Zdd, Zer]))
    refine x_r [(2, .dec false)] [2, 3, 4, 5, 6, 16] [2, 3, 5, 7001] [.ref 2 0, .ref 3 0, .ref 7001 0, .ref 5 0, Zaj true w_2, Bv false] [some (.box [Zao, Zao]), some (.box [Sv (⟨#[]⟩ : ByteArray), Zao]), some (Zad v_2), some (Zaa s'_2)] [¬ ((w_2.length : Int) = 0)] ⟨h1, trivial⟩ ?_
    refine Zab ?_
    refine Zbe rfl ?_
    refine Zca ?_
    refine Zab ?_
    refine xR [] [2, 3] [2, 3] [.ref 2 0, .ref 3 0] [some (Zad v_2), some (Zdk (at_ w_2 (((w_2.length : Int) - 1).toNat)))] [inR .i64 ((w_2.length : Int) - 1), (0 : Int) ≤ ((w_2.length : Int) - 1) ∧ ((w_2.length : Int) - 1) < (w_2.length : Int)] ⟨(Zam (by omega) (by omega)), ⟨(by omega), (by omega)⟩, trivial⟩ ?_
    refine Zcf ?_
    refine Zbn (v_2, (at_ w_2 (((w_2.length : Int) - 1).toNat))) (show (drP v_2) ∧ ((at_ w_2 (((w_2.length : Int) - 1).toNat)).Label.size ≤ 64) ∧ (True) from ⟨(by first | assumption | (show 1 ≤ 64; decide) | exact hws _ (Zct (by omega)) | omega), (by first | assumption | (show 1 ≤ 64; decide) | exact hws _ (Zct (by omega)) | omega), trivial⟩) (trivial) (.tup [Zan v_2, Zho (at_ w_2 (((w_2.length : Int) - 1).toNat))]) (by kernel_rfl) (.inl rfl) (fun _ => rfl) (fun _ => (by simp [Zak, Zah, Zef, Zdd, Zer]))
  obtain ⟨⟨p, s⟩, ⟨hh0, hh1, _⟩, hc⟩ := hh
  exact ⟨p, s, hh0, hh1, hc⟩
theorem Zpc (c : Int) : Con Tryz.prog 106 [.val (.int .u8 c)] true (Bv (inB c 97 122)) := by
  refine Zdc (fn := Tryz.f106) (nt := 9) Tryz.func106 rfl rfl rfl rfl (by simp [Zah, Zak]) fun B hB => ?_
  refine aR [] [0] [] [.val (.int .u8 c)] [] [] hB trivial ?_
  refine Zal ?_
  by_cases h1 : 97 ≤ c
  ·refine Zby [(1, .dec true)] [2] [] [Bv (decide (c ≤ 122))] [] [97 ≤ c] hB ⟨h1, trivial⟩ ?_
   refine Zac ?_
   refine Zax ?_
   refine Zba hB (Bv (decide (c ≤ 122))) (by kernel_rfl) (.inl (by first | rfl | (refine congrArg Bv ?_; simp [inB, *]; done) | (refine congrArg Bv ?_; simp [inB, *]; omega) | (refine congrArg Bv ?_; simp_all [inB]; done) | (refine congrArg Bv ?_; simp_all [inB]; omega))) rfl (fun _ => trivial)
  refine Zby [(1, .dec false)] [2] [] [Bv false] [] [¬ (97 ≤ c)] hB ⟨h1, trivial⟩ ?_
  refine Zac ?_
  refine Zax ?_
  refine Zba hB (Bv false) (by kernel_rfl) (.inl (by first | rfl | (refine congrArg Bv ?_; simp [inB, *]; done) | (refine congrArg Bv ?_; simp [inB, *]; omega) | (refine congrArg Bv ?_; simp_all [inB]; done) | (refine congrArg Bv ?_; simp_all [inB]; omega))) rfl (fun _ => trivial)
def hasB (s : ByteArray) (n : Int) : Bool := s.data.toList.any fun x => decide ((x.toNat : Int) = n)
theorem one_byte {t : ByteArray} (h : t.size = 1) : ∃ c, t = ⟨#[c]⟩ := by
  obtain ⟨⟨l⟩⟩ := t
  cases l with
  | nil => cases h
  | cons c l =>
    cases l with
    | nil => exact ⟨c, rfl⟩
    | cons d l => simp [ByteArray.size] at h
theorem Ydx (l : List UInt8) (c : UInt8) : decide (0 ≤ Lib.indexByte l c) = l.any fun x => decide ((x.toNat : Int) = bAt ⟨#[c]⟩ 0) := by
  rw [← Lib.contains_iff_indexByte, Bool.eq_iff_iff]
  simp [bAt, List.contains_iff_mem]
  constructor
  · intro h; exact ⟨c, h, rfl⟩
  · rintro ⟨x, hx, e⟩
    have : x = c := UInt8.toNat_inj.1 (by omega)
    exact this ▸ hx
theorem Zwz (s t : ByteArray) (h : t.size = 1) : Con Tryz.prog 107 [Sv s, Sv t] true (Bv (hasB s (bAt t 0))) := by
  obtain ⟨c, rfl⟩ := one_byte h
  refine Zga (vals := [.string s, .string ⟨#[c]⟩]) fun w _ => ?_
  refine (Tryz.strings_Contains_one s c w).mono ?_
  rintro e w' ⟨rfl, rfl⟩
  refine ⟨?_, Below.refl _ _⟩
  simp only [Ydx, hasB]
theorem Zeo (s : ByteArray) (ok : s.size ≤ 9223372036854775807) : Con Tryz.prog 75 [Sv s] true (Bv (Zci s)) := by
  refine Zdc (fn := Tryz.f75) (nt := 15) Tryz.func75 rfl rfl rfl rfl (by simp [Zah, Zak]) fun B hB => ?_
  refine aR [] [0] [] [Sv s] [] [] hB trivial ?_
  refine Zal ?_
  by_cases h1 : (s.size : Int) = 1
  ·rcases Bool.eq_false_or_eq_true (inB (bAt s 0) 97 122) with h2 | h2
   ·refine Zby [(2, .dec true), (6, .call [(true, .any)] true (Bv true))] [2] [] [Bv true] [] [(s.size : Int) = 1, (0 : Int) ≤ 0 ∧ 0 < (s.size : Int), Con Tryz.prog 106 [.val (.int .u8 (bAt s 0))] true (Bv true) ∧ True] hB ⟨h1, ⟨(by omega), (by omega)⟩, ⟨(Zaq h2 (Zpc (bAt s 0))), trivial⟩, trivial⟩ ?_
    refine Zac ?_
    refine Zax ?_
    refine Zba hB (Bv true) (by kernel_rfl) (.inl (by first | (refine congrArg Bv ?_; simp_all [Zci, Zfk, inB]; done) | (refine congrArg Bv ?_; have hbd := Ydy s 0; rw [Bool.eq_iff_iff]; simp_all [Zci, hasB, Zfk, inB]; omega))) rfl (fun _ => trivial)
   refine Zby [(2, .dec true), (6, .call [(true, .any)] true (Bv false)), (9, .call [(true, .any), (true, .any)] true (Bv (hasB (⟨#[48, 49, 50, 51, 52, 53, 54, 55, 56, 57, 43, 45, 42, 47, 61, 40, 41, 46, 44]⟩ : ByteArray) (bAt s 0))))] [2] [] [Bv (hasB (⟨#[48, 49, 50, 51, 52, 53, 54, 55, 56, 57, 43, 45, 42, 47, 61, 40, 41, 46, 44]⟩ : ByteArray) (bAt s 0))] [] [(s.size : Int) = 1, (0 : Int) ≤ 0 ∧ 0 < (s.size : Int), Con Tryz.prog 106 [.val (.int .u8 (bAt s 0))] true (Bv false) ∧ True, Con Tryz.prog 107 [Sv (⟨#[48, 49, 50, 51, 52, 53, 54, 55, 56, 57, 43, 45, 42, 47, 61, 40, 41, 46, 44]⟩ : ByteArray), Sv s] true (Bv (hasB (⟨#[48, 49, 50, 51, 52, 53, 54, 55, 56, 57, 43, 45, 42, 47, 61, 40, 41, 46, 44]⟩ : ByteArray) (bAt s 0))) ∧ True] hB ⟨h1, ⟨(by omega), (by omega)⟩, ⟨(Zaq h2 (Zpc (bAt s 0))), trivial⟩, ⟨(Zwz (⟨#[48, 49, 50, 51, 52, 53, 54, 55, 56, 57, 43, 45, 42, 47, 61, 40, 41, 46, 44]⟩ : ByteArray) s (by omega)), trivial⟩, trivial⟩ ?_
   refine Zac ?_
   refine Zax ?_
   refine Zba hB (Bv (hasB (⟨#[48, 49, 50, 51, 52, 53, 54, 55, 56, 57, 43, 45, 42, 47, 61, 40, 41, 46, 44]⟩ : ByteArray) (bAt s 0))) (by kernel_rfl) (.inl (by first | (refine congrArg Bv ?_; simp_all [Zci, Zfk, inB]; done) | (refine congrArg Bv ?_; have hbd := Ydy s 0; rw [Bool.eq_iff_iff]; simp_all [Zci, hasB, Zfk, inB]; omega))) rfl (fun _ => trivial)
  refine Zby [(2, .dec false)] [2] [] [Bv false] [] [¬ ((s.size : Int) = 1)] hB ⟨h1, trivial⟩ ?_
  refine Zac ?_
  refine Zax ?_
  refine Zba hB (Bv false) (by kernel_rfl) (.inl (by first | (refine congrArg Bv ?_; simp_all [Zci, Zfk, inB]; done) | (refine congrArg Bv ?_; have hbd := Ydy s 0; rw [Bool.eq_iff_iff]; simp_all [Zci, hasB, Zfk, inB]; omega))) rfl (fun _ => trivial)
theorem Zgz (labels : List ByteArray) (ok : ∀ y ∈ labels, y.size ≤ 9223372036854775807) : Con Tryz.prog 37 [slS false labels] true (Bv (Zce labels)) := by
  refine Zdc (fn := Tryz.f37) (nt := 37) Tryz.func37 rfl rfl rfl rfl (by simp [Zah, Zak, Zer]) fun B hB => ?_
  refine Zcg (x := slS false labels) 0 rfl (fun len_labels => ?_)
  simp [Zdt, Zgj, cS, fS, slS] at len_labels
  refine aR [] [0] [] [slS false labels] [] [] hB trivial ?_
  refine Zal ?_
  refine aR [] [0, 5, 6, 7] [] [slS false labels, slS false labels, I (labels.length : Int), I 0] [] [] hB trivial ?_
  refine Zbo ?_
  refine Zdm (fun gn gσ => ∃ (t7 : Int), gn = ((labels.length : Int) - t7).toNat ∧ (0 ≤ t7 ∧ t7 ≤ (labels.length : Int)) ∧ (∀ j : Nat, (j : Int) < t7 → Zlj labels j = true) ∧ gσ = mkS [(0, slS false labels), (5, slS false labels), (6, I (labels.length : Int)), (7, I t7)] []) (((labels.length : Int) - 0).toNat) ⟨0, rfl, (by omega), (by intro j hj; omega), rfl⟩ (fun gn gσ hI => ?_)
  obtain ⟨t7, rfl, hi0, hall0, rfl⟩ := hI
  refine Zal ?_
  by_cases h1 : t7 < (labels.length : Int)
  ·have hi : t7.toNat < labels.length := by omega
   refine Zby [(0, .dec true)] [0, 5, 6, 7, 8] [] [slS false labels, slS false labels, I (labels.length : Int), I t7, Bv true] [] [t7 < (labels.length : Int)] hB ⟨h1, trivial⟩ ?_
   refine Zac ?_
   refine Zal ?_
   refine Zbc rfl ?_
   refine Zbf ?_
   refine Zac ?_
   refine Zal ?_
   refine Zbo ?_
   refine aR [] [0, 3, 4, 5, 6, 7] [] [slS false labels, I t7, Sv (at_ labels t7.toNat), slS false labels, I (labels.length : Int), I t7] [] [(0 : Int) ≤ t7 ∧ t7 < (labels.length : Int)] hB ⟨⟨(by omega), (by omega)⟩, trivial⟩ ?_
   refine Zal ?_
   rcases Bool.eq_false_or_eq_true (Zci (at_ labels t7.toNat)) with h2 | h2
   ·have hlb := h2
    by_cases h3 : 0 < t7
    ·by_cases h4 : Zey (at_ labels t7.toNat) (at_ labels ((t7 - 1).toNat)) = true ∨ (at_ labels t7.toNat) = (at_ labels ((t7 - 1).toNat))
     ·have hst := Zii hi (Ydz (by omega) (rise_yes h4))
      refine Zby [(1, .call [(true, .any)] true (Bv true)), (5, .dec true), (13, .dec true)] [0, 5, 6, 7, 27] [] [slS false labels, slS false labels, I (labels.length : Int), I t7, Bv true] [] [Con Tryz.prog 75 [Sv (at_ labels t7.toNat)] true (Bv true) ∧ True, 0 < t7, inR .i64 (t7 - 1), (0 : Int) ≤ (t7 - 1) ∧ (t7 - 1) < (labels.length : Int), Zey (at_ labels t7.toNat) (at_ labels ((t7 - 1).toNat)) = true ∨ (at_ labels t7.toNat) = (at_ labels ((t7 - 1).toNat))] hB ⟨⟨(Zaq h2 (Zeo (at_ labels t7.toNat) (ok _ (Zct hi)))), trivial⟩, h3, (Zam (by omega) (by omega)), ⟨(by omega), (by omega)⟩, h4, trivial⟩ ?_
      refine Zac ?_
      refine Zbc rfl ?_
      refine aR [] [2] [] [Bv false] [] [] hB trivial ?_
      refine Zax ?_
      refine Zat (Zai (Zai (Zat (Zai ?_))))
      refine Zba hB (Bv false) (by kernel_rfl) (.inl (by refine congrArg Bv ?_; first | exact hst.symm | (rw [hgo]; first | rfl | exact (decide_eq_false (by omega)).symm | exact (decide_eq_true (by omega)).symm | exact decide_eq_decide.2 (by omega) | (unfold inB; exact decide_eq_decide.2 (by omega))))) rfl (fun _ => trivial)
     have hok := Zfb hi0.1 hlb (.inr (rise_not h4))
     refine Zby [(1, .call [(true, .any)] true (Bv true)), (5, .dec true), (13, .dec false)] [0, 5, 6, 7, 27] [] [slS false labels, slS false labels, I (labels.length : Int), I t7, Bv false] [] [Con Tryz.prog 75 [Sv (at_ labels t7.toNat)] true (Bv true) ∧ True, 0 < t7, inR .i64 (t7 - 1), (0 : Int) ≤ (t7 - 1) ∧ (t7 - 1) < (labels.length : Int), ¬ (Zey (at_ labels t7.toNat) (at_ labels ((t7 - 1).toNat)) = true ∨ (at_ labels t7.toNat) = (at_ labels ((t7 - 1).toNat)))] hB ⟨⟨(Zaq h2 (Zeo (at_ labels t7.toNat) (ok _ (Zct hi)))), trivial⟩, h3, (Zam (by omega) (by omega)), ⟨(by omega), (by omega)⟩, h4, trivial⟩ ?_
     refine Zac ?_
     refine Zay rfl ?_
     refine Zbf ?_
     refine Zco 1 ?_
     refine Zac ?_
     refine Zby [] [0, 5, 6, 7] [] [slS false labels, slS false labels, I (labels.length : Int), I (t7 + 1)] [] [inR .i64 (t7 + 1)] hB ⟨(Zam (by omega) (by omega)), trivial⟩ ?_
     exact Zcr _ (by omega) ⟨(t7 + 1), rfl, (by omega), (by intro j hj; by_cases ej : j = t7.toNat; (subst ej; first | assumption | exact hok); exact hall0 j (by omega)), rfl⟩
    have hok := Zfb hi0.1 hlb (.inl (by omega))
    refine Zby [(1, .call [(true, .any)] true (Bv true)), (5, .dec false)] [0, 5, 6, 7, 27] [] [slS false labels, slS false labels, I (labels.length : Int), I t7, Bv false] [] [Con Tryz.prog 75 [Sv (at_ labels t7.toNat)] true (Bv true) ∧ True, ¬ (0 < t7)] hB ⟨⟨(Zaq h2 (Zeo (at_ labels t7.toNat) (ok _ (Zct hi)))), trivial⟩, h3, trivial⟩ ?_
    refine Zac ?_
    refine Zay rfl ?_
    refine Zbf ?_
    refine Zco 1 ?_
    refine Zac ?_
    refine Zby [] [0, 5, 6, 7] [] [slS false labels, slS false labels, I (labels.length : Int), I (t7 + 1)] [] [inR .i64 (t7 + 1)] hB ⟨(Zam (by omega) (by omega)), trivial⟩ ?_
    exact Zcr _ (by omega) ⟨(t7 + 1), rfl, (by omega), (by intro j hj; by_cases ej : j = t7.toNat; (subst ej; first | assumption | exact hok); exact hall0 j (by omega)), rfl⟩
   have hst := Zii hi (Yea h2)
   refine Zby [(1, .call [(true, .any)] true (Bv false))] [0, 5, 6, 7, 27] [] [slS false labels, slS false labels, I (labels.length : Int), I t7, Bv true] [] [Con Tryz.prog 75 [Sv (at_ labels t7.toNat)] true (Bv false) ∧ True] hB ⟨⟨(Zaq h2 (Zeo (at_ labels t7.toNat) (ok _ (Zct hi)))), trivial⟩, trivial⟩ ?_
   refine Zac ?_
   refine Zbc rfl ?_
   refine aR [] [2] [] [Bv false] [] [] hB trivial ?_
   refine Zax ?_
   refine Zat (Zai (Zai (Zat (Zai ?_))))
   refine Zba hB (Bv false) (by kernel_rfl) (.inl (by refine congrArg Bv ?_; first | exact hst.symm | (rw [hgo]; first | rfl | exact (decide_eq_false (by omega)).symm | exact (decide_eq_true (by omega)).symm | exact decide_eq_decide.2 (by omega) | (unfold inB; exact decide_eq_decide.2 (by omega))))) rfl (fun _ => trivial)
  have hgo := Zij (ls := labels) (fun j hj => hall0 j (by omega))
  refine Zby [(0, .dec false)] [0, 5, 6, 7, 8] [] [slS false labels, slS false labels, I (labels.length : Int), I t7, Bv false] [] [¬ (t7 < (labels.length : Int))] hB ⟨h1, trivial⟩ ?_
  refine Zac ?_
  refine Zal ?_
  refine Zay rfl ?_
  refine Zdn ?_
  refine Zas ?_
  refine Zas ?_
  refine Zbx ?_
  refine Zac ?_
  refine Zal ?_
  by_cases h5 : 1 ≤ (labels.length : Int)
  ·refine Zby [(2, .dec true)] [2] [] [Bv (decide ((labels.length : Int) ≤ 12))] [] [1 ≤ (labels.length : Int)] hB ⟨h5, trivial⟩ ?_
   refine Zac ?_
   refine Zax ?_
   refine Zba hB (Bv (decide ((labels.length : Int) ≤ 12))) (by kernel_rfl) (.inl (by refine congrArg Bv ?_; first | exact hst.symm | (rw [hgo]; first | rfl | exact (decide_eq_false (by omega)).symm | exact (decide_eq_true (by omega)).symm | exact decide_eq_decide.2 (by omega) | (unfold inB; exact decide_eq_decide.2 (by omega))))) rfl (fun _ => trivial)
  refine Zby [(2, .dec false)] [2] [] [Bv false] [] [¬ (1 ≤ (labels.length : Int))] hB ⟨h5, trivial⟩ ?_
  refine Zac ?_
  refine Zax ?_
  refine Zba hB (Bv false) (by kernel_rfl) (.inl (by refine congrArg Bv ?_; first | exact hst.symm | (rw [hgo]; first | rfl | exact (decide_eq_false (by omega)).symm | exact (decide_eq_true (by omega)).symm | exact decide_eq_decide.2 (by omega) | (unfold inB; exact decide_eq_decide.2 (by omega))))) rfl (fun _ => trivial)
theorem Zha (n : Int) (low : Int) (high : Int) : Con Tryz.prog 79 [I n, I low, I high] true (Bv (inB n low high)) := by
  refine Zdc (fn := Tryz.f79) (nt := 15) Tryz.func79 rfl rfl rfl rfl (by simp [Zah, Zak]) fun B hB => ?_
  refine aR [] [0, 1, 2] [] [I n, I low, I high] [] [] hB trivial ?_
  refine Zal ?_
  by_cases h1 : low ≤ n
  ·refine Zby [(2, .dec true)] [6] [] [Bv (decide (n ≤ high))] [] [low ≤ n] hB ⟨h1, trivial⟩ ?_
   refine Zac ?_
   refine Zax ?_
   refine Zba hB (Bv (decide (n ≤ high))) (by kernel_rfl) (.inl (by first | rfl | (refine congrArg Bv ?_; simp [inB, *]; done) | (refine congrArg Bv ?_; simp [inB, *]; omega) | (refine congrArg Bv ?_; simp_all [inB]; done) | (refine congrArg Bv ?_; simp_all [inB]; omega))) rfl (fun _ => trivial)
  refine Zby [(2, .dec false)] [6] [] [Bv false] [] [¬ (low ≤ n)] hB ⟨h1, trivial⟩ ?_
  refine Zac ?_
  refine Zax ?_
  refine Zba hB (Bv false) (by kernel_rfl) (.inl (by first | rfl | (refine congrArg Bv ?_; simp [inB, *]; done) | (refine congrArg Bv ?_; simp [inB, *]; omega) | (refine congrArg Bv ?_; simp_all [inB]; done) | (refine congrArg Bv ?_; simp_all [inB]; omega))) rfl (fun _ => trivial)
theorem Zmq (w : Int) : Con Tryz.prog 78 [I w] true (Bv (!(okW w))) := by
  refine Zdc (fn := Tryz.f78) (nt := 6) Tryz.func78 rfl rfl rfl rfl (by simp [Zah, Zak]) fun B hB => ?_
  refine aR [] [0] [] [I w] [] [] hB trivial ?_
  refine aR [(1, .call [(true, .any), (true, .any), (true, .any)] true (Bv (inB w (-1000000) 1000000)))] [2] [] [Bv (!(inB w (-1000000) 1000000))] [] [Con Tryz.prog 79 [I w, I (-1000000), I 1000000] true (Bv (inB w (-1000000) 1000000)) ∧ True] hB ⟨⟨(Zha w (-1000000) 1000000), trivial⟩, trivial⟩ ?_
  refine Zax ?_
  refine Zba hB (Bv (!(inB w (-1000000) 1000000))) (by kernel_rfl) (.inl (by first | rfl | (refine congrArg Bv ?_; simp [okW, *]; done) | (refine congrArg Bv ?_; simp [okW, *]; omega) | (refine congrArg Bv ?_; simp_all [okW]; done) | (refine congrArg Bv ?_; simp_all [okW]; omega))) rfl (fun _ => trivial)
theorem Zmv (s : List Int) : Con Tryz.prog 108 [slI false s, .fn 78 []] true (I (Zcm s.length (fun j => (!(okW (at_ s j)))))) := by
  refine Zdc (fn := Tryz.f108) (nt := 19) Tryz.func108 rfl rfl rfl rfl (by simp [Zah, Zak, Zpg]) fun B hB => ?_
  refine Zcg (x := slI false s) 0 rfl (fun len_s => ?_)
  simp [Zdt, Zgj, cI, fI, slI] at len_s
  refine aR [] [0, 1] [] [slI false s, .fn 78 []] [] [] hB trivial ?_
  refine Zal ?_
  refine aR [] [0, 1, 7, 8] [] [slI false s, .fn 78 [], I (s.length : Int), I 0] [] [] hB trivial ?_
  refine Zbo ?_
  refine Zdm (fun gn gσ => ∃ (t8 : Int), gn = ((s.length : Int) - t8).toNat ∧ (0 ≤ t8 ∧ t8 ≤ (s.length : Int)) ∧ (∀ j : Nat, (j : Int) < t8 → (!(okW (at_ s j))) = false) ∧ gσ = mkS [(0, slI false s), (1, .fn 78 []), (7, I (s.length : Int)), (8, I t8)] []) (((s.length : Int) - 0).toNat) ⟨0, rfl, (by omega), (by intro j hj; omega), rfl⟩ (fun gn gσ hI => ?_)
  obtain ⟨t8, rfl, hi0, hall0, rfl⟩ := hI
  refine Zal ?_
  by_cases h1 : t8 < (s.length : Int)
  ·have hi : t8.toNat < s.length := by omega
   refine Zby [(0, .dec true)] [0, 1, 7, 8, 9] [] [slI false s, .fn 78 [], I (s.length : Int), I t8, Bv true] [] [t8 < (s.length : Int)] hB ⟨h1, trivial⟩ ?_
   refine Zac ?_
   refine Zal ?_
   refine Zbc rfl ?_
   refine Zbf ?_
   refine Zac ?_
   refine Zal ?_
   refine Zbo ?_
   refine aR [] [0, 1, 5, 7, 8] [] [slI false s, .fn 78 [], I t8, I (s.length : Int), I t8] [] [] hB trivial ?_
   refine Zal ?_
   rcases Bool.eq_false_or_eq_true (!(okW (at_ s t8.toNat))) with h2 | h2
   ·have hfin : Zcm s.length (fun j => (!(okW (at_ s j)))) = t8.toNat := Zex hi h2 (fun j hj => hall0 j (by omega))
    refine Zby [(5, .call [(true, .any)] true (Bv true))] [0, 1, 5, 7, 8, 16] [] [slI false s, .fn 78 [], I t8, I (s.length : Int), I t8, Bv true] [] [(0 : Int) ≤ t8 ∧ t8 < (s.length : Int), Con Tryz.prog 78 [I (at_ s t8.toNat)] true (Bv true) ∧ True] hB ⟨⟨(by omega), (by omega)⟩, ⟨(Zaq h2 (Zmq (at_ s t8.toNat))), trivial⟩, trivial⟩ ?_
    refine Zac ?_
    refine Zbc rfl ?_
    refine aR [] [4] [] [I t8] [] [] hB trivial ?_
    refine Zax ?_
    refine Zat (Zai (Zai (Zat (Zai ?_))))
    refine Zba hB (I t8) (by kernel_rfl) (.inl (by refine congrArg I ?_; first | (rw [hfin]; done) | (rw [hfin]; omega))) rfl (fun _ => trivial)
   refine Zby [(5, .call [(true, .any)] true (Bv false))] [0, 1, 5, 7, 8, 16] [] [slI false s, .fn 78 [], I t8, I (s.length : Int), I t8, Bv false] [] [(0 : Int) ≤ t8 ∧ t8 < (s.length : Int), Con Tryz.prog 78 [I (at_ s t8.toNat)] true (Bv false) ∧ True] hB ⟨⟨(by omega), (by omega)⟩, ⟨(Zaq h2 (Zmq (at_ s t8.toNat))), trivial⟩, trivial⟩ ?_
   refine Zac ?_
   refine Zay rfl ?_
   refine Zbf ?_
   refine Zco 1 ?_
   refine Zac ?_
   refine Zby [] [0, 1, 7, 8] [] [slI false s, .fn 78 [], I (s.length : Int), I (t8 + 1)] [] [inR .i64 (t8 + 1)] hB ⟨(Zam (by omega) (by omega)), trivial⟩ ?_
   exact Zcr _ (by omega) ⟨(t8 + 1), rfl, (by omega), (by intro j hj; by_cases ej : j = t8.toNat; (subst ej; first | assumption | rfl); exact hall0 j (by omega)), rfl⟩
  have hfin : Zcm s.length (fun j => (!(okW (at_ s j)))) = -1 := Zen (fun j hj => hall0 j (by omega))
  refine Zby [(0, .dec false)] [0, 1, 7, 8, 9] [] [slI false s, .fn 78 [], I (s.length : Int), I t8, Bv false] [] [¬ (t8 < (s.length : Int))] hB ⟨h1, trivial⟩ ?_
  refine Zac ?_
  refine Zal ?_
  refine Zay rfl ?_
  refine Zdn ?_
  refine Zas ?_
  refine Zas ?_
  refine Zbx ?_
  refine Zac ?_
  refine aR [] [4] [] [I (-1)] [] [] hB trivial ?_
  refine Zax ?_
  refine Zba hB (I (-1)) (by kernel_rfl) (.inl (by refine congrArg I ?_; first | (rw [hfin]; done) | (rw [hfin]; omega))) rfl (fun _ => trivial)
theorem Zuy (s : List Int) : Con Tryz.prog 77 [slI false s, .fn 78 []] true (Bv (Zkj s.length (fun j => (!(okW (at_ s j)))))) := by
  refine Zdc (fn := Tryz.f77) (nt := 9) Tryz.func77 rfl rfl rfl rfl (by simp [Zah, Zak, Zpg]) fun B hB => ?_
  refine Zcg (x := slI false s) 0 rfl (fun len_s => ?_)
  simp [Zdt, Zgj, cI, fI, slI] at len_s
  refine aR [] [0, 1] [] [slI false s, .fn 78 []] [] [] hB trivial ?_
  refine aR [(2, .call [(true, .any), (true, .any)] true (I (Zcm s.length (fun j => (!(okW (at_ s j)))))))] [4] [] [Bv (decide (0 ≤ (Zcm s.length (fun j => (!(okW (at_ s j)))))))] [] [Con Tryz.prog 108 [slI false s, .fn 78 []] true (I (Zcm s.length (fun j => (!(okW (at_ s j)))))) ∧ True] hB ⟨⟨(Zmv s), trivial⟩, trivial⟩ ?_
  refine Zax ?_
  refine Zba hB (Bv (decide (0 ≤ (Zcm s.length (fun j => (!(okW (at_ s j)))))))) (by kernel_rfl) (.inl (by exact congrArg Bv (Zhv _ _))) rfl (fun _ => trivial)
theorem Zxa (row : List Int) : Con Tryz.prog 40 [slI false row] true (Bv (Zfl row)) := by
  refine Zdc (fn := Tryz.f40) (nt := 11) Tryz.func40 rfl rfl rfl rfl (by simp [Zah, Zak, Zpg]) fun B hB => ?_
  refine Zcg (x := slI false row) 0 rfl (fun len_row => ?_)
  simp [Zdt, Zgj, cI, fI, slI] at len_row
  refine aR [] [0] [] [slI false row] [] [] hB trivial ?_
  refine Zal ?_
  by_cases h1 : (row.length : Int) = 25
  ·refine Zby [(2, .dec true), (5, .call [(true, .any), (true, .any)] true (Bv (Zkj row.length (fun j => (!(okW (at_ row j)))))))] [2] [] [Bv (!(Zkj row.length (fun j => (!(okW (at_ row j))))))] [] [(row.length : Int) = 25, Con Tryz.prog 77 [slI false row, .fn 78 []] true (Bv (Zkj row.length (fun j => (!(okW (at_ row j)))))) ∧ True] hB ⟨h1, ⟨(Zuy row), trivial⟩, trivial⟩ ?_
   refine Zac ?_
   refine Zax ?_
   refine Zba hB (Bv (!(Zkj row.length (fun j => (!(okW (at_ row j))))))) (by kernel_rfl) (.inl (by refine congrArg Bv ?_; unfold Zfl; first | (rw [decide_eq_false (by omega)]; rfl) | (rw [Zdo, decide_eq_true (by omega)]; simp))) rfl (fun _ => trivial)
  refine Zby [(2, .dec false)] [2] [] [Bv false] [] [¬ ((row.length : Int) = 25)] hB ⟨h1, trivial⟩ ?_
  refine Zac ?_
  refine Zax ?_
  refine Zba hB (Bv false) (by kernel_rfl) (.inl (by refine congrArg Bv ?_; unfold Zfl; first | (rw [decide_eq_false (by omega)]; rfl) | (rw [Zdo, decide_eq_true (by omega)]; simp))) rfl (fun _ => trivial)
theorem Zlk (row : List Int) : Con Tryz.prog 39 [slI false row] true (Bv (!(Zfl row))) := by
  refine Zdc (fn := Tryz.f39) (nt := 6) Tryz.func39 rfl rfl rfl rfl (by simp [Zah, Zak, Zpg]) fun B hB => ?_
  refine Zcg (x := slI false row) 0 rfl (fun len_row => ?_)
  simp [Zdt, Zgj, cI, fI, slI] at len_row
  refine aR [] [0] [] [slI false row] [] [] hB trivial ?_
  refine aR [(1, .call [(true, .any)] true (Bv (Zfl row)))] [2] [] [Bv (!(Zfl row))] [] [Con Tryz.prog 40 [slI false row] true (Bv (Zfl row)) ∧ True] hB ⟨⟨(Zxa row), trivial⟩, trivial⟩ ?_
  refine Zax ?_
  refine Zba hB (Bv (!(Zfl row))) (by kernel_rfl) (.inl rfl) rfl (fun _ => trivial)
theorem Zll (s : List (List Int)) : Con Tryz.prog 76 [Zbg false s, .fn 39 []] true (I (Zcm s.length (fun j => (!(Zfl (at_ s j)))))) := by
  refine Zdc (fn := Tryz.f76) (nt := 19) Tryz.func76 rfl rfl rfl rfl (by simp [Zah, Zak, Zdd]) fun B hB => ?_
  refine Zcg (x := Zbg false s) 0 rfl (fun len_s => ?_)
  simp [Zdt, Zgj, cI, cLI, fI, fLI, slI, Zbg] at len_s
  refine aR [] [0, 1] [] [Zbg false s, .fn 39 []] [] [] hB trivial ?_
  refine Zal ?_
  refine aR [] [0, 1, 7, 8] [] [Zbg false s, .fn 39 [], I (s.length : Int), I 0] [] [] hB trivial ?_
  refine Zbo ?_
  refine Zdm (fun gn gσ => ∃ (t8 : Int), gn = ((s.length : Int) - t8).toNat ∧ (0 ≤ t8 ∧ t8 ≤ (s.length : Int)) ∧ (∀ j : Nat, (j : Int) < t8 → (!(Zfl (at_ s j))) = false) ∧ gσ = mkS [(0, Zbg false s), (1, .fn 39 []), (7, I (s.length : Int)), (8, I t8)] []) (((s.length : Int) - 0).toNat) ⟨0, rfl, (by omega), (by intro j hj; omega), rfl⟩ (fun gn gσ hI => ?_)
  obtain ⟨t8, rfl, hi0, hall0, rfl⟩ := hI
  refine Zal ?_
  by_cases h1 : t8 < (s.length : Int)
  ·have hi : t8.toNat < s.length := by omega
   refine Zby [(0, .dec true)] [0, 1, 7, 8, 9] [] [Zbg false s, .fn 39 [], I (s.length : Int), I t8, Bv true] [] [t8 < (s.length : Int)] hB ⟨h1, trivial⟩ ?_
   refine Zac ?_
   refine Zal ?_
   refine Zbc rfl ?_
   refine Zbf ?_
   refine Zac ?_
   refine Zal ?_
   refine Zbo ?_
   refine aR [] [0, 1, 5, 7, 8] [] [Zbg false s, .fn 39 [], I t8, I (s.length : Int), I t8] [] [] hB trivial ?_
   refine Zal ?_
   rcases Bool.eq_false_or_eq_true (!(Zfl (at_ s t8.toNat))) with h2 | h2
   ·have hfin : Zcm s.length (fun j => (!(Zfl (at_ s j)))) = t8.toNat := Zex hi h2 (fun j hj => hall0 j (by omega))
    refine Zby [(5, .call [(true, .any)] true (Bv true))] [0, 1, 5, 7, 8, 16] [] [Zbg false s, .fn 39 [], I t8, I (s.length : Int), I t8, Bv true] [] [(0 : Int) ≤ t8 ∧ t8 < (s.length : Int), Con Tryz.prog 39 [slI false (at_ s t8.toNat)] true (Bv true) ∧ True] hB ⟨⟨(by omega), (by omega)⟩, ⟨(Zaq h2 (Zlk (at_ s t8.toNat))), trivial⟩, trivial⟩ ?_
    refine Zac ?_
    refine Zbc rfl ?_
    refine aR [] [4] [] [I t8] [] [] hB trivial ?_
    refine Zax ?_
    refine Zat (Zai (Zai (Zat (Zai ?_))))
    refine Zba hB (I t8) (by kernel_rfl) (.inl (by refine congrArg I ?_; first | (rw [hfin]; done) | (rw [hfin]; omega))) rfl (fun _ => trivial)
   refine Zby [(5, .call [(true, .any)] true (Bv false))] [0, 1, 5, 7, 8, 16] [] [Zbg false s, .fn 39 [], I t8, I (s.length : Int), I t8, Bv false] [] [(0 : Int) ≤ t8 ∧ t8 < (s.length : Int), Con Tryz.prog 39 [slI false (at_ s t8.toNat)] true (Bv false) ∧ True] hB ⟨⟨(by omega), (by omega)⟩, ⟨(Zaq h2 (Zlk (at_ s t8.toNat))), trivial⟩, trivial⟩ ?_
   refine Zac ?_
   refine Zay rfl ?_
   refine Zbf ?_
   refine Zco 1 ?_
   refine Zac ?_
   refine Zby [] [0, 1, 7, 8] [] [Zbg false s, .fn 39 [], I (s.length : Int), I (t8 + 1)] [] [inR .i64 (t8 + 1)] hB ⟨(Zam (by omega) (by omega)), trivial⟩ ?_
   exact Zcr _ (by omega) ⟨(t8 + 1), rfl, (by omega), (by intro j hj; by_cases ej : j = t8.toNat; (subst ej; first | assumption | rfl); exact hall0 j (by omega)), rfl⟩
  have hfin : Zcm s.length (fun j => (!(Zfl (at_ s j)))) = -1 := Zen (fun j hj => hall0 j (by omega))
  refine Zby [(0, .dec false)] [0, 1, 7, 8, 9] [] [Zbg false s, .fn 39 [], I (s.length : Int), I t8, Bv false] [] [¬ (t8 < (s.length : Int))] hB ⟨h1, trivial⟩ ?_
  refine Zac ?_
  refine Zal ?_
  refine Zay rfl ?_
  refine Zdn ?_
  refine Zas ?_
  refine Zas ?_
  refine Zbx ?_
  refine Zac ?_
  refine aR [] [4] [] [I (-1)] [] [] hB trivial ?_
  refine Zax ?_
  refine Zba hB (I (-1)) (by kernel_rfl) (.inl (by refine congrArg I ?_; first | (rw [hfin]; done) | (rw [hfin]; omega))) rfl (fun _ => trivial)
theorem Zpx (s : List (List Int)) : Con Tryz.prog 38 [Zbg false s, .fn 39 []] true (Bv (Zkj s.length (fun j => (!(Zfl (at_ s j)))))) := by
  refine Zdc (fn := Tryz.f38) (nt := 9) Tryz.func38 rfl rfl rfl rfl (by simp [Zah, Zak, Zdd]) fun B hB => ?_
  refine Zcg (x := Zbg false s) 0 rfl (fun len_s => ?_)
  simp [Zdt, Zgj, cI, cLI, fI, fLI, slI, Zbg] at len_s
  refine aR [] [0, 1] [] [Zbg false s, .fn 39 []] [] [] hB trivial ?_
  refine aR [(2, .call [(true, .any), (true, .any)] true (I (Zcm s.length (fun j => (!(Zfl (at_ s j)))))))] [4] [] [Bv (decide (0 ≤ (Zcm s.length (fun j => (!(Zfl (at_ s j)))))))] [] [Con Tryz.prog 76 [Zbg false s, .fn 39 []] true (I (Zcm s.length (fun j => (!(Zfl (at_ s j)))))) ∧ True] hB ⟨⟨(Zll s), trivial⟩, trivial⟩ ?_
  refine Zax ?_
  refine Zba hB (Bv (decide (0 ≤ (Zcm s.length (fun j => (!(Zfl (at_ s j)))))))) (by kernel_rfl) (.inl (by exact congrArg Bv (Zhv _ _))) rfl (fun _ => trivial)
theorem Zbl (p : Perceptron) (ok : ∀ y ∈ p.Labels, y.size ≤ 9223372036854775807) : Con Tryz.prog 14 [Zae p] true (Bv (Zbb p)) := by
  refine Zdc (fn := Tryz.f14) (nt := 21) Tryz.func14 rfl rfl rfl rfl (by simp [Zah, Zak, Zdd, Zer]) fun B hB => ?_
  refine Zcg (x := Zae p) 0 rfl (fun len_p => ?_)
  simp [Zdt, Zgj, cI, cLI, cS, fI, fLI, fS, slI, Zbg, slS] at len_p
  refine aR [(0, .new 1)] [1] [1] [.ref 1 0] [some (Zag p)] [] hB trivial ?_
  refine Zal ?_
  rcases Bool.eq_false_or_eq_true (Zce p.Labels) with h1 | h1
  ·by_cases h2 : (p.Weights.length : Int) = (p.Labels.length : Int)
   ·refine Zby [(2, .call [(true, .any)] true (Bv true)), (10, .dec true), (15, .call [(true, .any), (true, .any)] true (Bv (Zkj p.Weights.length (fun j => (!(Zfl (at_ p.Weights j)))))))] [2] [] [Bv (!(Zkj p.Weights.length (fun j => (!(Zfl (at_ p.Weights j))))))] [] [Con Tryz.prog 37 [slS false p.Labels] true (Bv true) ∧ True, (p.Weights.length : Int) = (p.Labels.length : Int), Con Tryz.prog 38 [Zbg false p.Weights, .fn 39 []] true (Bv (Zkj p.Weights.length (fun j => (!(Zfl (at_ p.Weights j)))))) ∧ True] hB ⟨⟨(Zaq h1 (Zgz p.Labels ok)), trivial⟩, h2, ⟨(Zpx p.Weights), trivial⟩, trivial⟩ ?_
    refine Zac ?_
    refine Zax ?_
    refine Zba hB (Bv (!(Zkj p.Weights.length (fun j => (!(Zfl (at_ p.Weights j))))))) (by kernel_rfl) (.inl (by refine congrArg Bv ?_; unfold Zbb Zjn; first | (rw [show Zce p.Labels = false from by assumption]; rfl) | (rw [show Zce p.Labels = true from by assumption, decide_eq_false (by omega)]; rfl) | (rw [show Zce p.Labels = true from by assumption, decide_eq_true (by omega), Zdo]; simp))) rfl (fun _ => trivial)
   refine Zby [(2, .call [(true, .any)] true (Bv true)), (10, .dec false)] [2] [] [Bv false] [] [Con Tryz.prog 37 [slS false p.Labels] true (Bv true) ∧ True, ¬ ((p.Weights.length : Int) = (p.Labels.length : Int))] hB ⟨⟨(Zaq h1 (Zgz p.Labels ok)), trivial⟩, h2, trivial⟩ ?_
   refine Zac ?_
   refine Zax ?_
   refine Zba hB (Bv false) (by kernel_rfl) (.inl (by refine congrArg Bv ?_; unfold Zbb Zjn; first | (rw [show Zce p.Labels = false from by assumption]; rfl) | (rw [show Zce p.Labels = true from by assumption, decide_eq_false (by omega)]; rfl) | (rw [show Zce p.Labels = true from by assumption, decide_eq_true (by omega), Zdo]; simp))) rfl (fun _ => trivial)
  refine Zby [(2, .call [(true, .any)] true (Bv false))] [2] [] [Bv false] [] [Con Tryz.prog 37 [slS false p.Labels] true (Bv false) ∧ True] hB ⟨⟨(Zaq h1 (Zgz p.Labels ok)), trivial⟩, trivial⟩ ?_
  refine Zac ?_
  refine Zax ?_
  refine Zba hB (Bv false) (by kernel_rfl) (.inl (by refine congrArg Bv ?_; unfold Zbb Zjn; first | (rw [show Zce p.Labels = false from by assumption]; rfl) | (rw [show Zce p.Labels = true from by assumption, decide_eq_false (by omega)]; rfl) | (rw [show Zce p.Labels = true from by assumption, decide_eq_true (by omega), Zdo]; simp))) rfl (fun _ => trivial)
theorem Zuz (f : Feat) : Con Tryz.prog 131 [Zmo f] true (Bv (okF f)) := by
  refine Zdc (fn := Tryz.f131) (nt := 16) Tryz.func131 rfl rfl rfl rfl (by simp [Zah, Zak]) fun B hB => ?_
  refine aR [(0, .new 1)] [1] [1] [.ref 1 0] [some (Zlg f)] [] hB trivial ?_
  refine Zal ?_
  rcases Bool.eq_false_or_eq_true (inB f.X 0 255) with h1 | h1
  ·rcases Bool.eq_false_or_eq_true (inB f.Y 0 255) with h2 | h2
   ·refine Zby [(2, .call [(true, .any), (true, .any), (true, .any)] true (Bv true)), (6, .call [(true, .any), (true, .any), (true, .any)] true (Bv true)), (11, .call [(true, .any), (true, .any), (true, .any)] true (Bv (inB f.D 0 7)))] [2] [] [Bv (inB f.D 0 7)] [] [Con Tryz.prog 79 [I f.X, I 0, I 255] true (Bv true) ∧ True, Con Tryz.prog 79 [I f.Y, I 0, I 255] true (Bv true) ∧ True, Con Tryz.prog 79 [I f.D, I 0, I 7] true (Bv (inB f.D 0 7)) ∧ True] hB ⟨⟨(Zaq h1 (Zha f.X 0 255)), trivial⟩, ⟨(Zaq h2 (Zha f.Y 0 255)), trivial⟩, ⟨(Zha f.D 0 7), trivial⟩, trivial⟩ ?_
    refine Zac ?_
    refine Zax ?_
    refine Zba hB (Bv (inB f.D 0 7)) (by kernel_rfl) (.inl (by first | rfl | (refine congrArg Bv ?_; simp [okF, *]; done) | (refine congrArg Bv ?_; simp [okF, *]; omega) | (refine congrArg Bv ?_; simp_all [okF]; done) | (refine congrArg Bv ?_; simp_all [okF]; omega))) rfl (fun _ => trivial)
   refine Zby [(2, .call [(true, .any), (true, .any), (true, .any)] true (Bv true)), (6, .call [(true, .any), (true, .any), (true, .any)] true (Bv false))] [2] [] [Bv false] [] [Con Tryz.prog 79 [I f.X, I 0, I 255] true (Bv true) ∧ True, Con Tryz.prog 79 [I f.Y, I 0, I 255] true (Bv false) ∧ True] hB ⟨⟨(Zaq h1 (Zha f.X 0 255)), trivial⟩, ⟨(Zaq h2 (Zha f.Y 0 255)), trivial⟩, trivial⟩ ?_
   refine Zac ?_
   refine Zax ?_
   refine Zba hB (Bv false) (by kernel_rfl) (.inl (by first | rfl | (refine congrArg Bv ?_; simp [okF, *]; done) | (refine congrArg Bv ?_; simp [okF, *]; omega) | (refine congrArg Bv ?_; simp_all [okF]; done) | (refine congrArg Bv ?_; simp_all [okF]; omega))) rfl (fun _ => trivial)
  refine Zby [(2, .call [(true, .any), (true, .any), (true, .any)] true (Bv false))] [2] [] [Bv false] [] [Con Tryz.prog 79 [I f.X, I 0, I 255] true (Bv false) ∧ True] hB ⟨⟨(Zaq h1 (Zha f.X 0 255)), trivial⟩, trivial⟩ ?_
  refine Zac ?_
  refine Zax ?_
  refine Zba hB (Bv false) (by kernel_rfl) (.inl (by first | rfl | (refine congrArg Bv ?_; simp [okF, *]; done) | (refine congrArg Bv ?_; simp [okF, *]; omega) | (refine congrArg Bv ?_; simp_all [okF]; done) | (refine congrArg Bv ?_; simp_all [okF]; omega))) rfl (fun _ => trivial)
theorem Zmr (f : Feat) : Con Tryz.prog 130 [Zmo f] true (Bv (!(okF f))) := by
  refine Zdc (fn := Tryz.f130) (nt := 6) Tryz.func130 rfl rfl rfl rfl (by simp [Zah, Zak]) fun B hB => ?_
  refine aR [(0, .new 1)] [1] [1] [.ref 1 0] [some (Zlg f)] [] hB trivial ?_
  refine aR [(1, .call [(true, .any)] true (Bv (okF f)))] [2] [] [Bv (!(okF f))] [] [Con Tryz.prog 131 [Zmo f] true (Bv (okF f)) ∧ True] hB ⟨⟨(Zuz f), trivial⟩, trivial⟩ ?_
  refine Zax ?_
  refine Zba hB (Bv (!(okF f))) (by kernel_rfl) (.inl rfl) rfl (fun _ => trivial)
theorem Zkh (s : List Feat) : Con Tryz.prog 148 [Zau false s, .fn 130 []] true (I (Zcm s.length (fun j => (!(okF (at_ s j)))))) := by
  refine Zdc (fn := Tryz.f148) (nt := 19) Tryz.func148 rfl rfl rfl rfl (by simp [Zah, Zak, Zef]) fun B hB => ?_
  refine Zcg (x := Zau false s) 0 rfl (fun len_s => ?_)
  simp [Zdt, Zgj, Zhc, Zdr, Zau] at len_s
  refine aR [] [0, 1] [] [Zau false s, .fn 130 []] [] [] hB trivial ?_
  refine Zal ?_
  refine aR [] [0, 1, 7, 8] [] [Zau false s, .fn 130 [], I (s.length : Int), I 0] [] [] hB trivial ?_
  refine Zbo ?_
  refine Zdm (fun gn gσ => ∃ (t8 : Int), gn = ((s.length : Int) - t8).toNat ∧ (0 ≤ t8 ∧ t8 ≤ (s.length : Int)) ∧ (∀ j : Nat, (j : Int) < t8 → (!(okF (at_ s j))) = false) ∧ gσ = mkS [(0, Zau false s), (1, .fn 130 []), (7, I (s.length : Int)), (8, I t8)] []) (((s.length : Int) - 0).toNat) ⟨0, rfl, (by omega), (by intro j hj; omega), rfl⟩ (fun gn gσ hI => ?_)
  obtain ⟨t8, rfl, hi0, hall0, rfl⟩ := hI
  refine Zal ?_
  by_cases h1 : t8 < (s.length : Int)
  ·have hi : t8.toNat < s.length := by omega
   refine Zby [(0, .dec true)] [0, 1, 7, 8, 9] [] [Zau false s, .fn 130 [], I (s.length : Int), I t8, Bv true] [] [t8 < (s.length : Int)] hB ⟨h1, trivial⟩ ?_
   refine Zac ?_
   refine Zal ?_
   refine Zbc rfl ?_
   refine Zbf ?_
   refine Zac ?_
   refine Zal ?_
   refine Zbo ?_
   refine aR [] [0, 1, 5, 7, 8] [] [Zau false s, .fn 130 [], I t8, I (s.length : Int), I t8] [] [] hB trivial ?_
   refine Zal ?_
   rcases Bool.eq_false_or_eq_true (!(okF (at_ s t8.toNat))) with h2 | h2
   ·have hfin : Zcm s.length (fun j => (!(okF (at_ s j)))) = t8.toNat := Zex hi h2 (fun j hj => hall0 j (by omega))
    refine Zby [(5, .call [(true, .any)] true (Bv true))] [0, 1, 5, 7, 8, 16] [] [Zau false s, .fn 130 [], I t8, I (s.length : Int), I t8, Bv true] [] [(0 : Int) ≤ t8 ∧ t8 < (s.length : Int), Con Tryz.prog 130 [Zmo (at_ s t8.toNat)] true (Bv true) ∧ True] hB ⟨⟨(by omega), (by omega)⟩, ⟨(Zaq h2 (Zmr (at_ s t8.toNat))), trivial⟩, trivial⟩ ?_
    refine Zac ?_
    refine Zbc rfl ?_
    refine aR [] [4] [] [I t8] [] [] hB trivial ?_
    refine Zax ?_
    refine Zat (Zai (Zai (Zat (Zai ?_))))
    refine Zba hB (I t8) (by kernel_rfl) (.inl (by refine congrArg I ?_; first | (rw [hfin]; done) | (rw [hfin]; omega))) rfl (fun _ => trivial)
   refine Zby [(5, .call [(true, .any)] true (Bv false))] [0, 1, 5, 7, 8, 16] [] [Zau false s, .fn 130 [], I t8, I (s.length : Int), I t8, Bv false] [] [(0 : Int) ≤ t8 ∧ t8 < (s.length : Int), Con Tryz.prog 130 [Zmo (at_ s t8.toNat)] true (Bv false) ∧ True] hB ⟨⟨(by omega), (by omega)⟩, ⟨(Zaq h2 (Zmr (at_ s t8.toNat))), trivial⟩, trivial⟩ ?_
   refine Zac ?_
   refine Zay rfl ?_
   refine Zbf ?_
   refine Zco 1 ?_
   refine Zac ?_
   refine Zby [] [0, 1, 7, 8] [] [Zau false s, .fn 130 [], I (s.length : Int), I (t8 + 1)] [] [inR .i64 (t8 + 1)] hB ⟨(Zam (by omega) (by omega)), trivial⟩ ?_
   exact Zcr _ (by omega) ⟨(t8 + 1), rfl, (by omega), (by intro j hj; by_cases ej : j = t8.toNat; (subst ej; first | assumption | rfl); exact hall0 j (by omega)), rfl⟩
  have hfin : Zcm s.length (fun j => (!(okF (at_ s j)))) = -1 := Zen (fun j hj => hall0 j (by omega))
  refine Zby [(0, .dec false)] [0, 1, 7, 8, 9] [] [Zau false s, .fn 130 [], I (s.length : Int), I t8, Bv false] [] [¬ (t8 < (s.length : Int))] hB ⟨h1, trivial⟩ ?_
  refine Zac ?_
  refine Zal ?_
  refine Zay rfl ?_
  refine Zdn ?_
  refine Zas ?_
  refine Zas ?_
  refine Zbx ?_
  refine Zac ?_
  refine aR [] [4] [] [I (-1)] [] [] hB trivial ?_
  refine Zax ?_
  refine Zba hB (I (-1)) (by kernel_rfl) (.inl (by refine congrArg I ?_; first | (rw [hfin]; done) | (rw [hfin]; omega))) rfl (fun _ => trivial)
theorem Zpd (s : List Feat) : Con Tryz.prog 129 [Zau false s, .fn 130 []] true (Bv (Zkj s.length (fun j => (!(okF (at_ s j)))))) := by
  refine Zdc (fn := Tryz.f129) (nt := 9) Tryz.func129 rfl rfl rfl rfl (by simp [Zah, Zak, Zef]) fun B hB => ?_
  refine Zcg (x := Zau false s) 0 rfl (fun len_s => ?_)
  simp [Zdt, Zgj, Zhc, Zdr, Zau] at len_s
  refine aR [] [0, 1] [] [Zau false s, .fn 130 []] [] [] hB trivial ?_
  refine aR [(2, .call [(true, .any), (true, .any)] true (I (Zcm s.length (fun j => (!(okF (at_ s j)))))))] [4] [] [Bv (decide (0 ≤ (Zcm s.length (fun j => (!(okF (at_ s j)))))))] [] [Con Tryz.prog 148 [Zau false s, .fn 130 []] true (I (Zcm s.length (fun j => (!(okF (at_ s j)))))) ∧ True] hB ⟨⟨(Zkh s), trivial⟩, trivial⟩ ?_
  refine Zax ?_
  refine Zba hB (Bv (decide (0 ≤ (Zcm s.length (fun j => (!(okF (at_ s j)))))))) (by kernel_rfl) (.inl (by exact congrArg Bv (Zhv _ _))) rfl (fun _ => trivial)
theorem Zxb (list : List Feat) (most : Int) : Con Tryz.prog 109 [Zau false list, I most] true (Bv (Zbp list most)) := by
  refine Zdc (fn := Tryz.f109) (nt := 19) Tryz.func109 rfl rfl rfl rfl (by simp [Zah, Zak, Zef]) fun B hB => ?_
  refine Zcg (x := Zau false list) 0 rfl (fun len_list => ?_)
  simp [Zdt, Zgj, Zhc, Zdr, Zau] at len_list
  refine aR [] [0, 1] [] [Zau false list, I most] [] [] hB trivial ?_
  refine Zal ?_
  by_cases h1 : 1 ≤ (list.length : Int)
  ·by_cases h2 : (list.length : Int) ≤ most
   ·refine Zby [(2, .dec true), (7, .dec true), (11, .call [(true, .any), (true, .any)] true (Bv (Zkj list.length (fun j => (!(okF (at_ list j)))))))] [4] [] [Bv (!(Zkj list.length (fun j => (!(okF (at_ list j))))))] [] [1 ≤ (list.length : Int), (list.length : Int) ≤ most, Con Tryz.prog 129 [Zau false list, .fn 130 []] true (Bv (Zkj list.length (fun j => (!(okF (at_ list j)))))) ∧ True] hB ⟨h1, h2, ⟨(Zpd list), trivial⟩, trivial⟩ ?_
    refine Zac ?_
    refine Zax ?_
    refine Zba hB (Bv (!(Zkj list.length (fun j => (!(okF (at_ list j))))))) (by kernel_rfl) (.inl (by first | rfl | (refine congrArg Bv ?_; simp [Zbp, Zdo, *]; done) | (refine congrArg Bv ?_; simp [Zbp, Zdo, *]; omega) | (refine congrArg Bv ?_; simp_all [Zbp, Zdo]; done) | (refine congrArg Bv ?_; simp_all [Zbp, Zdo]; omega))) rfl (fun _ => trivial)
   refine Zby [(2, .dec true), (7, .dec false)] [4] [] [Bv false] [] [1 ≤ (list.length : Int), ¬ ((list.length : Int) ≤ most)] hB ⟨h1, h2, trivial⟩ ?_
   refine Zac ?_
   refine Zax ?_
   refine Zba hB (Bv false) (by kernel_rfl) (.inl (by first | rfl | (refine congrArg Bv ?_; simp [Zbp, Zdo, *]; done) | (refine congrArg Bv ?_; simp [Zbp, Zdo, *]; omega) | (refine congrArg Bv ?_; simp_all [Zbp, Zdo]; done) | (refine congrArg Bv ?_; simp_all [Zbp, Zdo]; omega))) rfl (fun _ => trivial)
  refine Zby [(2, .dec false)] [4] [] [Bv false] [] [¬ (1 ≤ (list.length : Int))] hB ⟨h1, trivial⟩ ?_
  refine Zac ?_
  refine Zax ?_
  refine Zba hB (Bv false) (by kernel_rfl) (.inl (by first | rfl | (refine congrArg Bv ?_; simp [Zbp, Zdo, *]; done) | (refine congrArg Bv ?_; simp [Zbp, Zdo, *]; omega) | (refine congrArg Bv ?_; simp_all [Zbp, Zdo]; done) | (refine congrArg Bv ?_; simp_all [Zbp, Zdo]; omega))) rfl (fun _ => trivial)
theorem Zif (list : List Feat) : Con Tryz.prog 80 [Zau false list] true (Bv (Zbp list 384)) := by
  refine Zdc (fn := Tryz.f80) (nt := 5) Tryz.func80 rfl rfl rfl rfl (by simp [Zah, Zak, Zef]) fun B hB => ?_
  refine Zcg (x := Zau false list) 0 rfl (fun len_list => ?_)
  simp [Zdt, Zgj, Zhc, Zdr, Zau] at len_list
  refine aR [] [0] [] [Zau false list] [] [] hB trivial ?_
  refine aR [(1, .call [(true, .any), (true, .any)] true (Bv (Zbp list 384)))] [2] [] [Bv (Zbp list 384)] [] [Con Tryz.prog 109 [Zau false list, I 384] true (Bv (Zbp list 384)) ∧ True] hB ⟨⟨(Zxb list 384), trivial⟩, trivial⟩ ?_
  refine Zax ?_
  refine Zba hB (Bv (Zbp list 384)) (by kernel_rfl) (.inl rfl) rfl (fun _ => trivial)
end Go.Proofs.YtblhhmcplocepaaGreatDoor.Ax
