/- Contracts that the statement FnExactLearnSample reaches, part 3. No conditions. -/
import Derived.Test.YtjiflhglbephbaaGreatAxELearnSample2
import Derived.Test.YtjiflhglbephbaaGreatAxR
import Derived.Test.YtjiflhglbephbaaGreatAxS
import Derived.Test.YtjiflhglbephbaaGreatAxY
import Derived.Test.YtjiflhglbephbaaGreatSortShelf
namespace Go.Proofs.YtjiflhglbephbaaGreat.Ax
open Go.RowKit Go.ChangeShapes Go.WideShapes
set_option linter.unusedVariables false
set_option linter.unusedSimpArgs false


-- impl.featCost
theorem featCost_ok (a : Feat) (b : Feat) (ha : okF a = true) (hb : okF b = true) : Con Tryz.prog 114 [agFeat a, agFeat b] true (I (costF a b)) := by
  have ha' := okF_iff.1 ha
  have hb' := okF_iff.1 hb
  refine fn_ok (fn := Tryz.f114) (nt := 31) Tryz.func114 rfl rfl rfl rfl (by simp [taggedL, tagged]) fun B hB => ?_
  refine aR [(0, .new 2), (1, .new 3)] [2, 3] [2, 3] [.ref 2 0, .ref 3 0] [some (bxFeat a), some (bxFeat b)] [] hB trivial ?_
  refine aR [(5, .call [(true, .any)] true (I ((a.D - b.D).natAbs : Int)))] [2, 3, 5] [2, 3] [.ref 2 0, .ref 3 0, I ((a.D - b.D).natAbs : Int)] [some (bxFeat a), some (bxFeat b)] [inR .i64 (a.D - b.D), Con Tryz.prog 101 [I (a.D - b.D)] true (I ((a.D - b.D).natAbs : Int)) ∧ True] hB ⟨(inR_i64 (by omega) (by omega)), ⟨(abs_ok (a.D - b.D) (by omega)), trivial⟩, trivial⟩ ?_
  refine aR [(5, .call [(true, .any)] true (I ((a.X - b.X).natAbs : Int))), (11, .call [(true, .any)] true (I ((a.Y - b.Y).natAbs : Int)))] [4] [] [I ((((a.X - b.X).natAbs : Int) + ((a.Y - b.Y).natAbs : Int)) + (16 * (min ((a.D - b.D).natAbs : Int) (8 - ((a.D - b.D).natAbs : Int)))))] [] [inR .i64 (a.X - b.X), Con Tryz.prog 101 [I (a.X - b.X)] true (I ((a.X - b.X).natAbs : Int)) ∧ True, inR .i64 (a.Y - b.Y), Con Tryz.prog 101 [I (a.Y - b.Y)] true (I ((a.Y - b.Y).natAbs : Int)) ∧ True, inR .i64 (((a.X - b.X).natAbs : Int) + ((a.Y - b.Y).natAbs : Int)), inR .i64 (8 - ((a.D - b.D).natAbs : Int)), inR .i64 (16 * (min ((a.D - b.D).natAbs : Int) (8 - ((a.D - b.D).natAbs : Int)))), inR .i64 ((((a.X - b.X).natAbs : Int) + ((a.Y - b.Y).natAbs : Int)) + (16 * (min ((a.D - b.D).natAbs : Int) (8 - ((a.D - b.D).natAbs : Int)))))] hB ⟨(inR_i64 (by omega) (by omega)), ⟨(abs_ok (a.X - b.X) (by omega)), trivial⟩, (inR_i64 (by omega) (by omega)), ⟨(abs_ok (a.Y - b.Y) (by omega)), trivial⟩, (inR_i64 (by omega) (by omega)), (inR_i64 (by omega) (by omega)), (inR_i64 (by omega) (by omega)), (inR_i64 (by omega) (by omega)), trivial⟩ ?_
  refine aw_ret ?_
  refine ae_ret hB (I ((((a.X - b.X).natAbs : Int) + ((a.Y - b.Y).natAbs : Int)) + (16 * (min ((a.D - b.D).natAbs : Int) (8 - ((a.D - b.D).natAbs : Int)))))) (by kernel_rfl) (.inl (by refine congrArg I ?_; first | rfl | (unfold costF; omega))) rfl (fun _ => trivial)


def oLIc (F : Nat) (x : List Int) (i : Nat) : List AV := [.row F i]
def oLI (F : Nat) (xs : List (List Int)) (i : Nat) : List AV := oLIc F (at_ xs i) i
def mLI (xs : List (List Int)) (p : Nat) : Nat := (at_ xs p).length
def gLI (xs : List (List Int)) (p : Nat) : Nat → List AV := fI (at_ xs p)
abbrev tOLI (F : Nat) (xs : List (List Int)) : Ob := .oar [F] 1 xs.length (oLI F xs)
abbrev tFLI (xs : List (List Int)) : Ob := .fam xs.length 1 (mLI xs) (gLI xs)
theorem oleLI {ob : Nat → Option Ob} {F : Nat} (fr : Bool) (xs : List (List Int)) (h : ob F = some (.fam xs.length 1 (mLI xs) (gLI xs))) : ∀ i, i < xs.length → AV.idsL (fLI fr xs i) = [] ∧ leL ob true (oLI F xs i) (fLI fr xs i) :=
  fun i hi => And.intro rfl (And.intro (le_row h hi rfl (fun q _ => .inl rfl)) rfl)
theorem olecatLI {ob : Nat → Option Ob} {F : Nat} (fr : Bool) (xs : List (List Int)) (x : List Int) {f : Nat → List AV} (h : ob F = some (.fam xs.length 1 (mLI xs) (gLI xs))) (hx : leL ob true (f 0) (cLI fr x)) : ∀ i, i < (xs ++ [x]).length → AV.idsL (fLI fr (xs ++ [x]) i) = [] ∧ leL ob true (catF xs.length (oLI F xs) f i) (fLI fr (xs ++ [x]) i) := by
  intro i hi
  by_cases hl : i < xs.length
  · have := oleLI fr xs h i hl
    rw [catF_lt hl]
    have e : fLI fr (xs ++ [x]) i = fLI fr xs i := by show cLI fr (at_ _ _) = cLI fr (at_ _ _); rw [at_left hl]
    rw [e]; exact this
  · have e : i = xs.length := by simp at hi; omega
    subst e
    rw [catF_ge (Nat.le_refl _), Nat.sub_self]
    have e : fLI fr (xs ++ [x]) xs.length = cLI fr x := by show cLI fr (at_ _ _) = _; rw [at_right (Nat.le_refl _)]; simp [at_]
    rw [e]; exact ⟨rfl, hx⟩
theorem ocatLI {F j N : Nat} (hF : Nat.beq F j = false) {xs : List (List Int)} {x : List Int} {g : Nat → List AV} (hN : N = xs.length) (hx : AV.joiL j F N (g 0) = oLIc F x N) : ∀ i, i < (xs ++ [x]).length → AV.joiL j F N (catF xs.length (oLI F xs) g i) = oLI F (xs ++ [x]) i := by
  subst hN
  intro i hi
  by_cases h : i < xs.length
  · rw [catF_lt h]
    simp [oLI, oLIc, at_left h, AV.joiL, AV.joi, hF]
  · have e : i = xs.length := by simp at hi; omega
    subst e
    rw [catF_ge (Nat.le_refl _), Nat.sub_self, hx]
    simp [oLI, at_right (Nat.le_refl _), at_]
theorem fcatLI {xs : List (List Int)} (x : List Int) {n : Nat} {f : Nat → List AV} (hn : n = x.length) (hf : ∀ i, i < n → f i = fI x i) : xs.length + 1 = (xs ++ [x]).length ∧ 1 = 1 ∧ ∀ p, p < (xs ++ [x]).length → famUp xs.length n (mLI xs) p = mLI (xs ++ [x]) p ∧ ∀ i, i < mLI (xs ++ [x]) p → famUpF xs.length f (gLI xs) p i = gLI (xs ++ [x]) p i ∨ (AV.idsL (gLI (xs ++ [x]) p i) = [] ∧ leL (fun _ => none) false (famUpF xs.length f (gLI xs) p i) (gLI (xs ++ [x]) p i)) := by
  refine ⟨by simp, rfl, fun p hp => ?_⟩
  by_cases h : p < xs.length
  · have e : Nat.beq p xs.length = false := Bool.eq_false_iff.2 fun e => by have := Nat.eq_of_beq_eq_true e; omega
    simp [famUp, famUpF, e, mLI, gLI, at_left h]
  · have e : p = xs.length := by simp at hp; omega
    subst e
    have e2 : at_ (xs ++ [x]) xs.length = x := by simp [at_right (Nat.le_refl _), at_]
    simp only [famUp, famUpF, Nat.beq_refl, cond_true, mLI, gLI, e2]
    exact ⟨hn, fun i hi => .inl (hf i (by omega))⟩
theorem osetLI (F P : Nat) (xs : List (List Int)) (ys : List Int) (i : Nat) : oLI F xs i = oLI F (xs.set P ys) i := by
  unfold oLI
  by_cases h : P = i
  · subst h
    by_cases hl : P < xs.length
    · simp [at_, hl, oLIc]
    · rw [List.set_eq_of_length_le (by omega)]
  · simp [at_, h]
theorem fnilLI (n : Nat) {g : Nat → Nat → List AV} : n = (List.replicate n ([] : List Int)).length ∧ 1 = 1 ∧ ∀ p, p < (List.replicate n ([] : List Int)).length → (fun _ : Nat => (0 : Nat)) p = mLI (List.replicate n ([] : List Int)) p ∧ ∀ i, i < mLI (List.replicate n ([] : List Int)) p → g p i = gLI (List.replicate n ([] : List Int)) p i ∨ (AV.idsL (gLI (List.replicate n ([] : List Int)) p i) = [] ∧ leL (fun _ => none) false (g p i) (gLI (List.replicate n ([] : List Int)) p i)) := by
  refine ⟨by simp, rfl, fun p hp => ?_⟩
  have e : mLI (List.replicate n ([] : List Int)) p = 0 := by simp only [List.length_replicate] at hp; simp [mLI, at_, hp]
  exact ⟨e.symm, fun i hi => by rw [e] at hi; exact absurd hi (Nat.not_lt_zero _)⟩
theorem fputLI {xs : List (List Int)} {P m1 : Nat} {ys : List Int} {f1 : Nat → List AV} (hP : P < xs.length) (hm : m1 = ys.length) (hf : ∀ i, i < m1 → f1 i = fI ys i) : xs.length = (xs.set P ys).length ∧ 1 = 1 ∧ ∀ p, p < (xs.set P ys).length → famUp P m1 (mLI xs) p = mLI (xs.set P ys) p ∧ ∀ i, i < mLI (xs.set P ys) p → famUpF P f1 (gLI xs) p i = gLI (xs.set P ys) p i ∨ (AV.idsL (gLI (xs.set P ys) p i) = [] ∧ leL (fun _ => none) false (famUpF P f1 (gLI xs) p i) (gLI (xs.set P ys) p i)) := by
  refine ⟨by simp, rfl, fun p hp => ?_⟩
  by_cases h : p = P
  · subst h
    have e : at_ (xs.set p ys) p = ys := at_set_eq hP
    refine ⟨?_, fun i hi => .inl ?_⟩
    · simp only [famUp, Nat.beq_refl, cond_true, mLI, e]; exact hm
    · simp only [mLI, e] at hi; simp only [famUpF, Nat.beq_refl, cond_true, gLI, e]; exact hf i (by omega)
  · have e : at_ (xs.set P ys) p = at_ xs p := at_set_ne h
    have b := beq_ne h
    refine ⟨?_, fun i hi => .inl ?_⟩
    · simp only [famUp, b, cond_false, mLI, e]
    · simp only [famUpF, b, cond_false, gLI, e]
theorem fsetLI {xs : List (List Int)} {P k : Nat} {c : Int} {g' : Nat → Nat → List AV} (hP : P < xs.length) (hk : k < (at_ xs P).length) (h1 : g' P k = cI c) (h2 : ∀ i, i ≠ k → g' P i = gLI xs P i) (h3 : ∀ p, p ≠ P → g' p = gLI xs p) : xs.length = (xs.set P ((at_ xs P).set k c)).length ∧ 1 = 1 ∧ ∀ p, p < (xs.set P ((at_ xs P).set k c)).length → mLI xs p = mLI (xs.set P ((at_ xs P).set k c)) p ∧ ∀ i, i < mLI (xs.set P ((at_ xs P).set k c)) p → g' p i = gLI (xs.set P ((at_ xs P).set k c)) p i ∨ (AV.idsL (gLI (xs.set P ((at_ xs P).set k c)) p i) = [] ∧ leL (fun _ => none) false (g' p i) (gLI (xs.set P ((at_ xs P).set k c)) p i)) := by
  refine ⟨by simp, rfl, fun p hp => ?_⟩
  by_cases h : p = P
  · subst h
    have e2 : at_ (xs.set p ((at_ xs p).set k c)) p = ((at_ xs p).set k c) := at_set_eq hP
    have e3 : ((at_ xs p).set k c) = (at_ xs p).set k c := rfl
    simp only [mLI, gLI, e2, e3]
    refine ⟨by simp, fun i hi => .inl ?_⟩
    by_cases hi2 : i = k
    · subst hi2
      rw [h1]
      show _ = cI (at_ _ _)
      rw [at_set_eq hk]
    · rw [h2 i hi2]
      show cI (at_ _ _) = cI (at_ _ _)
      rw [at_set_ne hi2]
  · have e : at_ (xs.set P ((at_ xs P).set k c)) p = at_ xs p := at_set_ne h
    simp only [mLI, gLI, e]
    refine ⟨trivial, fun i hi => .inl ?_⟩
    rw [h3 p h]; rfl

-- impl.costTable
theorem costTable_ok (a : List Feat) (b : List Feat) (band : Int) (hab : okAB a b) (hbd : 0 ≤ band ∧ band ≤ 1000) : ∃ (v : List (List Int)), (tbOk a b band v a.length) ∧ Con Tryz.prog 102 [slFeat false a, slFeat false b, I band] true (slLI true v) := by
  have hla := hab.2.2
  have hh : ∃ r : (List (List Int)), ((tbOk a b band r a.length) ∧ (True)) ∧ CallOK Tryz.prog 102 [slFeat false a, slFeat false b, I band] (lookO []) true (slLI true r) (lookO []) := by
    refine fn_okX (Φ := fun r : (List (List Int)) => (tbOk a b band r a.length) ∧ (True)) [] (fun r => []) (fn := Tryz.f102) (nt := 76) Tryz.func102 rfl rfl (args := [slFeat false a, slFeat false b, I band]) rfl (allcons (.inl ⟨rfl, tagFeat false _⟩) (allcons (.inl ⟨rfl, tagFeat false _⟩) (allcons (.inl ⟨rfl, trivial⟩) allnil))) (res := fun r => slLI true r) ?_
    refine xR [] [0, 1, 2] [] [slFeat false a, slFeat false b, I band] [] [] trivial ?_
    refine xR [(2, .new 13)] [0, 1, 2, 7] [13] [slFeat false a, slFeat false b, I band, .arr 13] [some (.arr 1 ((a.length : Int).toNat) (fun _ => [nilA]))] [(0 : Int) ≤ (a.length : Int) ∧ ((a.length : Int) : Int) ≤ (a.length : Int) ∧ (24 : Int) * (a.length : Int) ≤ 281474976710656 ∧ (a.length : Int) ≤ 9223372036854775807] ⟨⟨(by omega), (by omega), (by omega), (by omega)⟩, trivial⟩ ?_
    refine x_seq ?_
    refine xR [] [0, 1, 2, 7, 15, 16] [13] [slFeat false a, slFeat false b, I band, .arr 13, I (a.length : Int), I 0] [some (.arr 1 ((a.length : Int).toNat) (fun _ => [nilA]))] [] trivial ?_
    refine x_block ?_
    refine x_famN 13 8401 1 rfl (fun q _ => ⟨_, rfl, rfl⟩) (by kernel_rfl) ?_
    refine x_weak [] (T := [(0, slFeat false a), (1, slFeat false b), (2, I band), (7, .arr 13), (15, I (a.length : Int)), (16, I 0)]) (O := [(13, tOLI 8401 (List.replicate ((a.length : Int).toNat) ([] : List Int))), (8401, tFLI (List.replicate ((a.length : Int).toNat) ([] : List Int)))]) rfl (⟨.inl rfl, .inl rfl, .inl rfl, .inl rfl, .inl rfl, .inl rfl, trivial⟩) (⟨.inr ⟨rfl, rfl, (by simp), fun i hi => .inl rfl⟩, .inr (fnilLI ((a.length : Int).toNat)), trivial⟩) ?_
    refine x_loop (X := Int × (List (List Int))) (fun x => mkS [(0, slFeat false a), (1, slFeat false b), (2, I band), (7, .arr 13), (15, I (a.length : Int)), (16, I x.1)] [(13, tOLI 8401 x.2), (8401, tFLI x.2)]) (fun x => (0 ≤ x.1 ∧ x.1 ≤ (a.length : Int)) ∧ (tbOk a b band x.2 x.1.toNat) ∧ True) (fun x => ((a.length : Int) - x.1).toNat) (0, (List.replicate ((a.length : Int).toNat) ([] : List Int))) rfl (show (0 ≤ (0 : Int) ∧ (0 : Int) ≤ (a.length : Int)) ∧ (tbOk a b band (List.replicate ((a.length : Int).toNat) ([] : List Int)) (0 : Int).toNat) ∧ True from ⟨(by omega), (by exact tb_nil a b band (by first | rfl | omega | simp)), trivial⟩) (fun x hI => ?_)
    obtain ⟨t16, tb⟩ := x
    obtain ⟨hi0, htb, _⟩ : (0 ≤ t16 ∧ t16 ≤ (a.length : Int)) ∧ (tbOk a b band tb t16.toNat) ∧ True := hI
    show XW _ _ _ _ (mkS [(0, slFeat false a), (1, slFeat false b), (2, I band), (7, .arr 13), (15, I (a.length : Int)), (16, I t16)] [(13, tOLI 8401 tb), (8401, tFLI tb)]) _ _
    refine x_seq ?_
    by_cases h1 : t16 < (a.length : Int)
    ·have hi : t16.toNat < a.length := by omega
     have hix : ((t16.toNat : Nat) : Int) = t16 := by omega
     have htl := htb.1
     refine x_r [(0, .dec true)] [0, 1, 2, 7, 15, 16, 17] [13, 8401] [slFeat false a, slFeat false b, I band, .arr 13, I (a.length : Int), I t16, Bv true] [some (tOLI 8401 tb), some (tFLI tb)] [t16 < (a.length : Int)] ⟨h1, trivial⟩ ?_
     refine xe_then ?_
     refine x_seq ?_
     refine x_true rfl ?_
     refine x_skip ?_
     refine xe_then ?_
     refine x_seq ?_
     refine x_block ?_
     refine xR [] [0, 1, 2, 7, 8, 15, 16] [13, 8401] [slFeat false a, slFeat false b, I band, .arr 13, I t16, I (a.length : Int), I t16] [some (tOLI 8401 tb), some (tFLI tb)] [] trivial ?_
     refine xR [(4, .new 23)] [0, 1, 2, 7, 8, 15, 16] [13, 23, 8401] [slFeat false a, slFeat false b, I band, .arr 13, I t16, I (a.length : Int), I t16] [some (.oar [8401, 23] 1 tb.length (fun q => bif Nat.beq q t16.toNat then [.arr 23] else (oLI 8401 tb) q)), some (.arr 1 ((b.length : Int).toNat) (fun _ => [I 0])), some (tFLI tb)] [(0 : Int) ≤ (b.length : Int) ∧ ((b.length : Int) : Int) ≤ (b.length : Int) ∧ (8 : Int) * (b.length : Int) ≤ 281474976710656 ∧ (b.length : Int) ≤ 9223372036854775807, (0 : Int) ≤ t16 ∧ t16 < (tb.length : Int), t16.toNat < tb.length] ⟨⟨(by omega), (by omega), (by omega), (by omega)⟩, ⟨(by omega), (by omega)⟩, (by omega), trivial⟩ ?_
     refine x_seq ?_
     refine x_putrow 13 23 8401 t16.toNat rfl rfl rfl ((by omega)) (by first | exact Nat.le_refl _ | omega) (fun q _ => ⟨fun e => by subst e; simp only [Nat.beq_refl, cond_true], fun e => by simp only [beq_ne e, cond_false]; rfl⟩) (by kernel_rfl) ?_
     refine x_weak [] (T := [(0, slFeat false a), (1, slFeat false b), (2, I band), (7, .arr 13), (8, I t16), (15, I (a.length : Int)), (16, I t16)]) (O := [(13, tOLI 8401 (tb.set t16.toNat (List.replicate ((b.length : Int).toNat) (0 : Int)))), (8401, tFLI (tb.set t16.toNat (List.replicate ((b.length : Int).toNat) (0 : Int))))]) rfl (⟨.inl rfl, .inl rfl, .inl rfl, .inl rfl, .inl rfl, .inl rfl, .inl rfl, trivial⟩) (⟨.inr ⟨rfl, rfl, (by simp), fun i hi => .inl rfl⟩, .inr (fputLI ((by omega)) (by first | rfl | (simp; done) | (simp; omega)) (fun i_ h_ => (show ∀ i_ : Nat, i_ < ((List.replicate ((b.length : Int).toNat) (0 : Int)) : List Int).length → (fun _ => [I 0]) i_ = (fI (List.replicate ((b.length : Int).toNat) (0 : Int))) i_ from fun i_ hi_ => (const_enc (enc := cI) rfl i_ hi_)) i_ (by first | exact h_ | (simpa using h_)))), trivial⟩) ?_
     refine x_r [] [0, 1, 2, 7, 8, 15, 16, 26, 27] [13, 8401] [slFeat false a, slFeat false b, I band, .arr 13, I t16, I (a.length : Int), I t16, I (b.length : Int), I 0] [some (tOLI 8401 (tb.set t16.toNat (List.replicate ((b.length : Int).toNat) (0 : Int)))), some (tFLI (tb.set t16.toNat (List.replicate ((b.length : Int).toNat) (0 : Int))))] [] trivial ?_
     refine xe_then ?_
     refine x_block ?_
     refine x_loop (X := Int × (List (List Int))) (fun x => mkS [(0, slFeat false a), (1, slFeat false b), (2, I band), (7, .arr 13), (8, I t16), (15, I (a.length : Int)), (16, I t16), (26, I (b.length : Int)), (27, I x.1)] [(13, tOLI 8401 x.2), (8401, tFLI x.2)]) (fun x => (0 ≤ x.1 ∧ x.1 ≤ (b.length : Int)) ∧ (tbOk a b band x.2 t16.toNat ∧ rowOk a b band (at_ x.2 t16.toNat) t16.toNat x.1.toNat) ∧ True) (fun x => ((b.length : Int) - x.1).toNat) (0, (tb.set t16.toNat (List.replicate ((b.length : Int).toNat) (0 : Int)))) rfl (show (0 ≤ (0 : Int) ∧ (0 : Int) ≤ (b.length : Int)) ∧ (tbOk a b band (tb.set t16.toNat (List.replicate ((b.length : Int).toNat) (0 : Int))) t16.toNat ∧ rowOk a b band (at_ (tb.set t16.toNat (List.replicate ((b.length : Int).toNat) (0 : Int))) t16.toNat) t16.toNat (0 : Int).toNat) ∧ True from ⟨(by omega), (by exact tb_row htb hi (by first | rfl | omega | simp)), trivial⟩) (fun x hI => ?_)
     obtain ⟨t27, tb'⟩ := x
     obtain ⟨hj0, hin, _⟩ : (0 ≤ t27 ∧ t27 ≤ (b.length : Int)) ∧ (tbOk a b band tb' t16.toNat ∧ rowOk a b band (at_ tb' t16.toNat) t16.toNat t27.toNat) ∧ True := hI
     show XW _ _ _ _ (mkS [(0, slFeat false a), (1, slFeat false b), (2, I band), (7, .arr 13), (8, I t16), (15, I (a.length : Int)), (16, I t16), (26, I (b.length : Int)), (27, I t27)] [(13, tOLI 8401 tb'), (8401, tFLI tb')]) _ _
     refine x_seq ?_
     by_cases h2 : t27 < (b.length : Int)
     ·have hj : t27.toNat < b.length := by omega
      have hcb := costF_bd (hab.1 _ hi) (hab.2.1 _ hj)
      have hjx : ((t27.toNat : Nat) : Int) = t27 := by omega
      have htl2 := hin.1.1
      have htl3 := hin.2.1
      have hlb := lb_at hab hin.1 hin.2 hi hj
      rw [hix, hjx] at hlb
      have hrl : 1 ≤ t16 → ((at_ tb' (t16 - 1).toNat).length : Int) = b.length := fun q => by rw [(hin.1.2 (t16 - 1).toNat (by omega)).1]
      have hrz : (t16 - 0).toNat = t16.toNat := by omega
      refine x_r [(0, .dec true)] [0, 1, 2, 7, 8, 15, 16, 26, 27, 28] [13, 8401] [slFeat false a, slFeat false b, I band, .arr 13, I t16, I (a.length : Int), I t16, I (b.length : Int), I t27, Bv true] [some (tOLI 8401 tb'), some (tFLI tb')] [t27 < (b.length : Int)] ⟨h2, trivial⟩ ?_
      refine xe_then ?_
      refine x_seq ?_
      refine x_true rfl ?_
      refine x_skip ?_
      refine xe_then ?_
      refine x_seq ?_
      refine x_block ?_
      refine xR [] [0, 1, 2, 7, 8, 9, 15, 16, 26, 27] [13, 8401] [slFeat false a, slFeat false b, I band, .arr 13, I t16, I t27, I (a.length : Int), I t16, I (b.length : Int), I t27] [some (tOLI 8401 tb'), some (tFLI tb')] [] trivial ?_
      refine xR [(3, .call [(false, slLI false tb'), (true, .any), (true, .any)] true (I (lb3 tb' t16 t27)))] [0, 1, 2, 7, 8, 9, 10, 15, 16, 26, 27] [13, 8401] [slFeat false a, slFeat false b, I band, .arr 13, I t16, I t27, I (lb3 tb' t16 t27), I (a.length : Int), I t16, I (b.length : Int), I t27] [some (tOLI 8401 tb'), some (tFLI tb')] [Con Tryz.prog 104 [slLI false tb', I t16, I t27] true (I (lb3 tb' t16 t27)) ∧ ((false = true → true = true) ∧ 1 = 1 ∧ tb'.length = tb'.length ∧ ∀ i_, i_ < tb'.length → AV.idsL ((fLI false tb') i_) = [] ∧ leL (lookO [(8401, tFLI tb')]) true ((oLI 8401 tb') i_) ((fLI false tb') i_)) ∧ True] ⟨⟨(leastBefore_ok tb' t16 t27 (by omega) (by omega) (fun q => by have := hrl q; omega) (fun q => by rw [hrz]; omega)), ⟨(fun h => by cases h), rfl, rfl, oleLI _ _ rfl⟩, trivial⟩, trivial⟩ ?_
      refine x_seq ?_
      refine x_seq ?_
      by_cases h3 : t16 = 0
      ·by_cases h4 : t27 = 0
       ·refine x_r [(1, .dec true), (4, .dec true)] [0, 1, 2, 7, 8, 9, 10, 15, 16, 26, 27, 39] [13, 8401] [slFeat false a, slFeat false b, I band, .arr 13, I t16, I t27, I (lb3 tb' t16 t27), I (a.length : Int), I t16, I (b.length : Int), I t27, Bv true] [some (tOLI 8401 tb'), some (tFLI tb')] [t16 = 0, t27 = 0] ⟨h3, h4, trivial⟩ ?_
        refine xe_then ?_
        refine x_true rfl ?_
        refine x_r [] [0, 1, 2, 7, 8, 9, 10, 15, 16, 26, 27] [13, 8401] [slFeat false a, slFeat false b, I band, .arr 13, I t16, I t27, I 0, I (a.length : Int), I t16, I (b.length : Int), I t27] [some (tOLI 8401 tb'), some (tFLI tb')] [] trivial ?_
        refine xe_then ?_
        refine x_seq ?_
        by_cases h5 : band < ((t16 - t27).natAbs : Int)
        ·refine x_r [(3, .call [(true, .any)] true (I ((t16 - t27).natAbs : Int))), (5, .dec true)] [0, 1, 2, 7, 8, 9, 10, 15, 16, 26, 27, 49] [13, 8401] [slFeat false a, slFeat false b, I band, .arr 13, I t16, I t27, I 0, I (a.length : Int), I t16, I (b.length : Int), I t27, Bv true] [some (tOLI 8401 tb'), some (tFLI tb')] [inR .i64 (t16 - t27), Con Tryz.prog 101 [I (t16 - t27)] true (I ((t16 - t27).natAbs : Int)) ∧ True, band < ((t16 - t27).natAbs : Int)] ⟨(inR_i64 (by omega) (by omega)), ⟨(abs_ok (t16 - t27) (by omega)), trivial⟩, h5, trivial⟩ ?_
         refine xe_then ?_
         refine x_true rfl ?_
         refine x_r [] [0, 1, 2, 7, 8, 15, 16, 26, 27] [13, 8401] [slFeat false a, slFeat false b, I band, .arr 13, I t16, I (a.length : Int), I t16, I (b.length : Int), I t27] [some (tOLI 8401 tb'), some (.fam tb'.length 1 (mLI tb') (fun q => bif Nat.beq q t16.toNat then (fun q => bif Nat.beq q t27.toNat then [I 1099511627776] else (gLI tb') t16.toNat q) else (gLI tb') q))] [(0 : Int) ≤ t16 ∧ t16 < (tb'.length : Int), t16.toNat < tb'.length, t16.toNat < tb'.length ∧ (0 : Int) ≤ t27 ∧ t27 < (((at_ tb' t16.toNat).length) : Int), t16.toNat < tb'.length ∧ t27.toNat < (at_ tb' t16.toNat).length] ⟨⟨(by omega), (by omega)⟩, (by omega), ⟨(by omega), (by omega), (by omega)⟩, ⟨(by omega), (by omega)⟩, trivial⟩ ?_
         refine xe_block 3 ?_
         refine xe_then ?_
         refine x_weak [] (T := [(0, slFeat false a), (1, slFeat false b), (2, I band), (7, .arr 13), (8, I t16), (15, I (a.length : Int)), (16, I t16), (26, I (b.length : Int)), (27, I t27)]) (O := [(13, tOLI 8401 (tb'.set t16.toNat ((at_ tb' t16.toNat).set t27.toNat 1099511627776))), (8401, tFLI (tb'.set t16.toNat ((at_ tb' t16.toNat).set t27.toNat 1099511627776)))]) rfl (⟨.inl rfl, .inl rfl, .inl rfl, .inl rfl, .inl rfl, .inl rfl, .inl rfl, .inl rfl, .inl rfl, trivial⟩) (⟨.inr ⟨rfl, rfl, (by first | rfl | (simp; done) | omega), fun i_ hi_ => .inl (osetLI 8401 t16.toNat tb' ((at_ tb' t16.toNat).set t27.toNat 1099511627776) i_)⟩, .inr (fsetLI (P := t16.toNat) (k := t27.toNat) ((by omega)) ((by omega)) (by simp only [Nat.beq_refl, cond_true]; try rfl) (by intro i hi; simp only [Nat.beq_refl, cond_true, beq_ne hi, cond_false]; try rfl) (by intro p hp; simp only [beq_ne hp, cond_false])), trivial⟩) ?_
         refine x_r [] [0, 1, 2, 7, 8, 15, 16, 26, 27] [13, 8401] [slFeat false a, slFeat false b, I band, .arr 13, I t16, I (a.length : Int), I t16, I (b.length : Int), I (t27 + 1)] [some (tOLI 8401 (tb'.set t16.toNat ((at_ tb' t16.toNat).set t27.toNat 1099511627776))), some (tFLI (tb'.set t16.toNat ((at_ tb' t16.toNat).set t27.toNat 1099511627776)))] [inR .i64 (t27 + 1)] ⟨(inR_i64 (by omega) (by omega)), trivial⟩ ?_
         exact xe_again ((t27 + 1), (tb'.set t16.toNat ((at_ tb' t16.toNat).set t27.toNat 1099511627776))) rfl (show (0 ≤ (t27 + 1) ∧ (t27 + 1) ≤ (b.length : Int)) ∧ (tbOk a b band (tb'.set t16.toNat ((at_ tb' t16.toNat).set t27.toNat 1099511627776)) t16.toNat ∧ rowOk a b band (at_ (tb'.set t16.toNat ((at_ tb' t16.toNat).set t27.toNat 1099511627776)) t16.toNat) t16.toNat (t27 + 1).toNat) ∧ True from ⟨(by omega), (by rw [show (t27 + 1).toNat = t27.toNat + 1 from by omega]; exact tb_step hin.1 hin.2 hi hj (by rw [hlb.2]; first | exact (stp_far (by first | (left; rw [hix, hjx]; omega) | (right; (try rw [if_neg (by omega)]); (try rw [if_pos (by omega)]); omega))).symm | (rw [stp_add (by rw [hix, hjx]; omega) (by first | (rw [if_neg (by omega)]; omega) | (rw [if_pos (by omega)]; decide))]; first | rw [if_neg (by omega)] | rw [if_pos (by omega)]))), trivial⟩) (by first | (show (((b.length : Int) - (t27 + 1)).toNat : Nat) < ((b.length : Int) - t27).toNat; omega) | (dsimp only; omega))
        refine x_r [(3, .call [(true, .any)] true (I ((t16 - t27).natAbs : Int))), (5, .dec false), (8, .dec false)] [0, 1, 2, 7, 8, 9, 10, 15, 16, 26, 27, 49] [13, 8401] [slFeat false a, slFeat false b, I band, .arr 13, I t16, I t27, I 0, I (a.length : Int), I t16, I (b.length : Int), I t27, Bv false] [some (tOLI 8401 tb'), some (tFLI tb')] [inR .i64 (t16 - t27), Con Tryz.prog 101 [I (t16 - t27)] true (I ((t16 - t27).natAbs : Int)) ∧ True, ¬ (band < ((t16 - t27).natAbs : Int)), ¬ ((1099511627776 : Int) ≤ 0)] ⟨(inR_i64 (by omega) (by omega)), ⟨(abs_ok (t16 - t27) (by omega)), trivial⟩, h5, (by decide), trivial⟩ ?_
        refine xe_then ?_
        refine x_false rfl ?_
        refine x_r [(14, .call [(true, .any), (true, .any)] true (I (costF (at_ a t16.toNat) (at_ b t27.toNat))))] [0, 1, 2, 7, 8, 15, 16, 26, 27] [13, 8401] [slFeat false a, slFeat false b, I band, .arr 13, I t16, I (a.length : Int), I t16, I (b.length : Int), I t27] [some (tOLI 8401 tb'), some (.fam tb'.length 1 (mLI tb') (fun q => bif Nat.beq q t16.toNat then (fun q => bif Nat.beq q t27.toNat then [I (0 + (costF (at_ a t16.toNat) (at_ b t27.toNat)))] else (gLI tb') t16.toNat q) else (gLI tb') q))] [(0 : Int) ≤ t16 ∧ t16 < (tb'.length : Int), t16.toNat < tb'.length, (0 : Int) ≤ t16 ∧ t16 < (a.length : Int), (0 : Int) ≤ t27 ∧ t27 < (b.length : Int), Con Tryz.prog 114 [agFeat (at_ a t16.toNat), agFeat (at_ b t27.toNat)] true (I (costF (at_ a t16.toNat) (at_ b t27.toNat))) ∧ True, inR .i64 (0 + (costF (at_ a t16.toNat) (at_ b t27.toNat))), t16.toNat < tb'.length ∧ (0 : Int) ≤ t27 ∧ t27 < (((at_ tb' t16.toNat).length) : Int), t16.toNat < tb'.length ∧ t27.toNat < (at_ tb' t16.toNat).length] ⟨⟨(by omega), (by omega)⟩, (by omega), ⟨(by omega), (by omega)⟩, ⟨(by omega), (by omega)⟩, ⟨(featCost_ok (at_ a t16.toNat) (at_ b t27.toNat) (by first | exact hab.1 _ (by omega) | exact hab.2.1 _ (by omega)) (by first | exact hab.1 _ (by omega) | exact hab.2.1 _ (by omega))), trivial⟩, (inR_i64 (by omega) (by omega)), ⟨(by omega), (by omega), (by omega)⟩, ⟨(by omega), (by omega)⟩, trivial⟩ ?_
        refine xe_block 3 ?_
        refine xe_then ?_
        refine x_weak [] (T := [(0, slFeat false a), (1, slFeat false b), (2, I band), (7, .arr 13), (8, I t16), (15, I (a.length : Int)), (16, I t16), (26, I (b.length : Int)), (27, I t27)]) (O := [(13, tOLI 8401 (tb'.set t16.toNat ((at_ tb' t16.toNat).set t27.toNat (0 + (costF (at_ a t16.toNat) (at_ b t27.toNat)))))), (8401, tFLI (tb'.set t16.toNat ((at_ tb' t16.toNat).set t27.toNat (0 + (costF (at_ a t16.toNat) (at_ b t27.toNat))))))]) rfl (⟨.inl rfl, .inl rfl, .inl rfl, .inl rfl, .inl rfl, .inl rfl, .inl rfl, .inl rfl, .inl rfl, trivial⟩) (⟨.inr ⟨rfl, rfl, (by first | rfl | (simp; done) | omega), fun i_ hi_ => .inl (osetLI 8401 t16.toNat tb' ((at_ tb' t16.toNat).set t27.toNat (0 + (costF (at_ a t16.toNat) (at_ b t27.toNat)))) i_)⟩, .inr (fsetLI (P := t16.toNat) (k := t27.toNat) ((by omega)) ((by omega)) (by simp only [Nat.beq_refl, cond_true]; try rfl) (by intro i hi; simp only [Nat.beq_refl, cond_true, beq_ne hi, cond_false]; try rfl) (by intro p hp; simp only [beq_ne hp, cond_false])), trivial⟩) ?_
        refine x_r [] [0, 1, 2, 7, 8, 15, 16, 26, 27] [13, 8401] [slFeat false a, slFeat false b, I band, .arr 13, I t16, I (a.length : Int), I t16, I (b.length : Int), I (t27 + 1)] [some (tOLI 8401 (tb'.set t16.toNat ((at_ tb' t16.toNat).set t27.toNat (0 + (costF (at_ a t16.toNat) (at_ b t27.toNat)))))), some (tFLI (tb'.set t16.toNat ((at_ tb' t16.toNat).set t27.toNat (0 + (costF (at_ a t16.toNat) (at_ b t27.toNat))))))] [inR .i64 (t27 + 1)] ⟨(inR_i64 (by omega) (by omega)), trivial⟩ ?_
        exact xe_again ((t27 + 1), (tb'.set t16.toNat ((at_ tb' t16.toNat).set t27.toNat (0 + (costF (at_ a t16.toNat) (at_ b t27.toNat)))))) rfl (show (0 ≤ (t27 + 1) ∧ (t27 + 1) ≤ (b.length : Int)) ∧ (tbOk a b band (tb'.set t16.toNat ((at_ tb' t16.toNat).set t27.toNat (0 + (costF (at_ a t16.toNat) (at_ b t27.toNat))))) t16.toNat ∧ rowOk a b band (at_ (tb'.set t16.toNat ((at_ tb' t16.toNat).set t27.toNat (0 + (costF (at_ a t16.toNat) (at_ b t27.toNat))))) t16.toNat) t16.toNat (t27 + 1).toNat) ∧ True from ⟨(by omega), (by rw [show (t27 + 1).toNat = t27.toNat + 1 from by omega]; exact tb_step hin.1 hin.2 hi hj (by rw [hlb.2]; first | exact (stp_far (by first | (left; rw [hix, hjx]; omega) | (right; (try rw [if_neg (by omega)]); (try rw [if_pos (by omega)]); omega))).symm | (rw [stp_add (by rw [hix, hjx]; omega) (by first | (rw [if_neg (by omega)]; omega) | (rw [if_pos (by omega)]; decide))]; first | rw [if_neg (by omega)] | rw [if_pos (by omega)]))), trivial⟩) (by first | (show (((b.length : Int) - (t27 + 1)).toNat : Nat) < ((b.length : Int) - t27).toNat; omega) | (dsimp only; omega))
       refine x_r [(1, .dec true), (4, .dec false)] [0, 1, 2, 7, 8, 9, 10, 15, 16, 26, 27, 39] [13, 8401] [slFeat false a, slFeat false b, I band, .arr 13, I t16, I t27, I (lb3 tb' t16 t27), I (a.length : Int), I t16, I (b.length : Int), I t27, Bv false] [some (tOLI 8401 tb'), some (tFLI tb')] [t16 = 0, ¬ (t27 = 0)] ⟨h3, h4, trivial⟩ ?_
       refine xe_then ?_
       refine x_false rfl ?_
       refine x_skip ?_
       refine xe_then ?_
       refine x_seq ?_
       by_cases h6 : band < ((t16 - t27).natAbs : Int)
       ·refine x_r [(3, .call [(true, .any)] true (I ((t16 - t27).natAbs : Int))), (5, .dec true)] [0, 1, 2, 7, 8, 9, 10, 15, 16, 26, 27, 49] [13, 8401] [slFeat false a, slFeat false b, I band, .arr 13, I t16, I t27, I (lb3 tb' t16 t27), I (a.length : Int), I t16, I (b.length : Int), I t27, Bv true] [some (tOLI 8401 tb'), some (tFLI tb')] [inR .i64 (t16 - t27), Con Tryz.prog 101 [I (t16 - t27)] true (I ((t16 - t27).natAbs : Int)) ∧ True, band < ((t16 - t27).natAbs : Int)] ⟨(inR_i64 (by omega) (by omega)), ⟨(abs_ok (t16 - t27) (by omega)), trivial⟩, h6, trivial⟩ ?_
        refine xe_then ?_
        refine x_true rfl ?_
        refine x_r [] [0, 1, 2, 7, 8, 15, 16, 26, 27] [13, 8401] [slFeat false a, slFeat false b, I band, .arr 13, I t16, I (a.length : Int), I t16, I (b.length : Int), I t27] [some (tOLI 8401 tb'), some (.fam tb'.length 1 (mLI tb') (fun q => bif Nat.beq q t16.toNat then (fun q => bif Nat.beq q t27.toNat then [I 1099511627776] else (gLI tb') t16.toNat q) else (gLI tb') q))] [(0 : Int) ≤ t16 ∧ t16 < (tb'.length : Int), t16.toNat < tb'.length, t16.toNat < tb'.length ∧ (0 : Int) ≤ t27 ∧ t27 < (((at_ tb' t16.toNat).length) : Int), t16.toNat < tb'.length ∧ t27.toNat < (at_ tb' t16.toNat).length] ⟨⟨(by omega), (by omega)⟩, (by omega), ⟨(by omega), (by omega), (by omega)⟩, ⟨(by omega), (by omega)⟩, trivial⟩ ?_
        refine xe_block 3 ?_
        refine xe_then ?_
        refine x_weak [] (T := [(0, slFeat false a), (1, slFeat false b), (2, I band), (7, .arr 13), (8, I t16), (15, I (a.length : Int)), (16, I t16), (26, I (b.length : Int)), (27, I t27)]) (O := [(13, tOLI 8401 (tb'.set t16.toNat ((at_ tb' t16.toNat).set t27.toNat 1099511627776))), (8401, tFLI (tb'.set t16.toNat ((at_ tb' t16.toNat).set t27.toNat 1099511627776)))]) rfl (⟨.inl rfl, .inl rfl, .inl rfl, .inl rfl, .inl rfl, .inl rfl, .inl rfl, .inl rfl, .inl rfl, trivial⟩) (⟨.inr ⟨rfl, rfl, (by first | rfl | (simp; done) | omega), fun i_ hi_ => .inl (osetLI 8401 t16.toNat tb' ((at_ tb' t16.toNat).set t27.toNat 1099511627776) i_)⟩, .inr (fsetLI (P := t16.toNat) (k := t27.toNat) ((by omega)) ((by omega)) (by simp only [Nat.beq_refl, cond_true]; try rfl) (by intro i hi; simp only [Nat.beq_refl, cond_true, beq_ne hi, cond_false]; try rfl) (by intro p hp; simp only [beq_ne hp, cond_false])), trivial⟩) ?_
        refine x_r [] [0, 1, 2, 7, 8, 15, 16, 26, 27] [13, 8401] [slFeat false a, slFeat false b, I band, .arr 13, I t16, I (a.length : Int), I t16, I (b.length : Int), I (t27 + 1)] [some (tOLI 8401 (tb'.set t16.toNat ((at_ tb' t16.toNat).set t27.toNat 1099511627776))), some (tFLI (tb'.set t16.toNat ((at_ tb' t16.toNat).set t27.toNat 1099511627776)))] [inR .i64 (t27 + 1)] ⟨(inR_i64 (by omega) (by omega)), trivial⟩ ?_
        exact xe_again ((t27 + 1), (tb'.set t16.toNat ((at_ tb' t16.toNat).set t27.toNat 1099511627776))) rfl (show (0 ≤ (t27 + 1) ∧ (t27 + 1) ≤ (b.length : Int)) ∧ (tbOk a b band (tb'.set t16.toNat ((at_ tb' t16.toNat).set t27.toNat 1099511627776)) t16.toNat ∧ rowOk a b band (at_ (tb'.set t16.toNat ((at_ tb' t16.toNat).set t27.toNat 1099511627776)) t16.toNat) t16.toNat (t27 + 1).toNat) ∧ True from ⟨(by omega), (by rw [show (t27 + 1).toNat = t27.toNat + 1 from by omega]; exact tb_step hin.1 hin.2 hi hj (by rw [hlb.2]; first | exact (stp_far (by first | (left; rw [hix, hjx]; omega) | (right; (try rw [if_neg (by omega)]); (try rw [if_pos (by omega)]); omega))).symm | (rw [stp_add (by rw [hix, hjx]; omega) (by first | (rw [if_neg (by omega)]; omega) | (rw [if_pos (by omega)]; decide))]; first | rw [if_neg (by omega)] | rw [if_pos (by omega)]))), trivial⟩) (by first | (show (((b.length : Int) - (t27 + 1)).toNat : Nat) < ((b.length : Int) - t27).toNat; omega) | (dsimp only; omega))
       by_cases h7 : 1099511627776 ≤ (lb3 tb' t16 t27)
       ·refine x_r [(3, .call [(true, .any)] true (I ((t16 - t27).natAbs : Int))), (5, .dec false), (8, .dec true)] [0, 1, 2, 7, 8, 9, 10, 15, 16, 26, 27, 49] [13, 8401] [slFeat false a, slFeat false b, I band, .arr 13, I t16, I t27, I (lb3 tb' t16 t27), I (a.length : Int), I t16, I (b.length : Int), I t27, Bv true] [some (tOLI 8401 tb'), some (tFLI tb')] [inR .i64 (t16 - t27), Con Tryz.prog 101 [I (t16 - t27)] true (I ((t16 - t27).natAbs : Int)) ∧ True, ¬ (band < ((t16 - t27).natAbs : Int)), 1099511627776 ≤ (lb3 tb' t16 t27)] ⟨(inR_i64 (by omega) (by omega)), ⟨(abs_ok (t16 - t27) (by omega)), trivial⟩, h6, h7, trivial⟩ ?_
        refine xe_then ?_
        refine x_true rfl ?_
        refine x_r [] [0, 1, 2, 7, 8, 15, 16, 26, 27] [13, 8401] [slFeat false a, slFeat false b, I band, .arr 13, I t16, I (a.length : Int), I t16, I (b.length : Int), I t27] [some (tOLI 8401 tb'), some (.fam tb'.length 1 (mLI tb') (fun q => bif Nat.beq q t16.toNat then (fun q => bif Nat.beq q t27.toNat then [I 1099511627776] else (gLI tb') t16.toNat q) else (gLI tb') q))] [(0 : Int) ≤ t16 ∧ t16 < (tb'.length : Int), t16.toNat < tb'.length, t16.toNat < tb'.length ∧ (0 : Int) ≤ t27 ∧ t27 < (((at_ tb' t16.toNat).length) : Int), t16.toNat < tb'.length ∧ t27.toNat < (at_ tb' t16.toNat).length] ⟨⟨(by omega), (by omega)⟩, (by omega), ⟨(by omega), (by omega), (by omega)⟩, ⟨(by omega), (by omega)⟩, trivial⟩ ?_
        refine xe_block 3 ?_
        refine xe_then ?_
        refine x_weak [] (T := [(0, slFeat false a), (1, slFeat false b), (2, I band), (7, .arr 13), (8, I t16), (15, I (a.length : Int)), (16, I t16), (26, I (b.length : Int)), (27, I t27)]) (O := [(13, tOLI 8401 (tb'.set t16.toNat ((at_ tb' t16.toNat).set t27.toNat 1099511627776))), (8401, tFLI (tb'.set t16.toNat ((at_ tb' t16.toNat).set t27.toNat 1099511627776)))]) rfl (⟨.inl rfl, .inl rfl, .inl rfl, .inl rfl, .inl rfl, .inl rfl, .inl rfl, .inl rfl, .inl rfl, trivial⟩) (⟨.inr ⟨rfl, rfl, (by first | rfl | (simp; done) | omega), fun i_ hi_ => .inl (osetLI 8401 t16.toNat tb' ((at_ tb' t16.toNat).set t27.toNat 1099511627776) i_)⟩, .inr (fsetLI (P := t16.toNat) (k := t27.toNat) ((by omega)) ((by omega)) (by simp only [Nat.beq_refl, cond_true]; try rfl) (by intro i hi; simp only [Nat.beq_refl, cond_true, beq_ne hi, cond_false]; try rfl) (by intro p hp; simp only [beq_ne hp, cond_false])), trivial⟩) ?_
        refine x_r [] [0, 1, 2, 7, 8, 15, 16, 26, 27] [13, 8401] [slFeat false a, slFeat false b, I band, .arr 13, I t16, I (a.length : Int), I t16, I (b.length : Int), I (t27 + 1)] [some (tOLI 8401 (tb'.set t16.toNat ((at_ tb' t16.toNat).set t27.toNat 1099511627776))), some (tFLI (tb'.set t16.toNat ((at_ tb' t16.toNat).set t27.toNat 1099511627776)))] [inR .i64 (t27 + 1)] ⟨(inR_i64 (by omega) (by omega)), trivial⟩ ?_
        exact xe_again ((t27 + 1), (tb'.set t16.toNat ((at_ tb' t16.toNat).set t27.toNat 1099511627776))) rfl (show (0 ≤ (t27 + 1) ∧ (t27 + 1) ≤ (b.length : Int)) ∧ (tbOk a b band (tb'.set t16.toNat ((at_ tb' t16.toNat).set t27.toNat 1099511627776)) t16.toNat ∧ rowOk a b band (at_ (tb'.set t16.toNat ((at_ tb' t16.toNat).set t27.toNat 1099511627776)) t16.toNat) t16.toNat (t27 + 1).toNat) ∧ True from ⟨(by omega), (by rw [show (t27 + 1).toNat = t27.toNat + 1 from by omega]; exact tb_step hin.1 hin.2 hi hj (by rw [hlb.2]; first | exact (stp_far (by first | (left; rw [hix, hjx]; omega) | (right; (try rw [if_neg (by omega)]); (try rw [if_pos (by omega)]); omega))).symm | (rw [stp_add (by rw [hix, hjx]; omega) (by first | (rw [if_neg (by omega)]; omega) | (rw [if_pos (by omega)]; decide))]; first | rw [if_neg (by omega)] | rw [if_pos (by omega)]))), trivial⟩) (by first | (show (((b.length : Int) - (t27 + 1)).toNat : Nat) < ((b.length : Int) - t27).toNat; omega) | (dsimp only; omega))
       refine x_r [(3, .call [(true, .any)] true (I ((t16 - t27).natAbs : Int))), (5, .dec false), (8, .dec false)] [0, 1, 2, 7, 8, 9, 10, 15, 16, 26, 27, 49] [13, 8401] [slFeat false a, slFeat false b, I band, .arr 13, I t16, I t27, I (lb3 tb' t16 t27), I (a.length : Int), I t16, I (b.length : Int), I t27, Bv false] [some (tOLI 8401 tb'), some (tFLI tb')] [inR .i64 (t16 - t27), Con Tryz.prog 101 [I (t16 - t27)] true (I ((t16 - t27).natAbs : Int)) ∧ True, ¬ (band < ((t16 - t27).natAbs : Int)), ¬ (1099511627776 ≤ (lb3 tb' t16 t27))] ⟨(inR_i64 (by omega) (by omega)), ⟨(abs_ok (t16 - t27) (by omega)), trivial⟩, h6, h7, trivial⟩ ?_
       refine xe_then ?_
       refine x_false rfl ?_
       refine x_r [(14, .call [(true, .any), (true, .any)] true (I (costF (at_ a t16.toNat) (at_ b t27.toNat))))] [0, 1, 2, 7, 8, 15, 16, 26, 27] [13, 8401] [slFeat false a, slFeat false b, I band, .arr 13, I t16, I (a.length : Int), I t16, I (b.length : Int), I t27] [some (tOLI 8401 tb'), some (.fam tb'.length 1 (mLI tb') (fun q => bif Nat.beq q t16.toNat then (fun q => bif Nat.beq q t27.toNat then [I ((lb3 tb' t16 t27) + (costF (at_ a t16.toNat) (at_ b t27.toNat)))] else (gLI tb') t16.toNat q) else (gLI tb') q))] [(0 : Int) ≤ t16 ∧ t16 < (tb'.length : Int), t16.toNat < tb'.length, (0 : Int) ≤ t16 ∧ t16 < (a.length : Int), (0 : Int) ≤ t27 ∧ t27 < (b.length : Int), Con Tryz.prog 114 [agFeat (at_ a t16.toNat), agFeat (at_ b t27.toNat)] true (I (costF (at_ a t16.toNat) (at_ b t27.toNat))) ∧ True, inR .i64 ((lb3 tb' t16 t27) + (costF (at_ a t16.toNat) (at_ b t27.toNat))), t16.toNat < tb'.length ∧ (0 : Int) ≤ t27 ∧ t27 < (((at_ tb' t16.toNat).length) : Int), t16.toNat < tb'.length ∧ t27.toNat < (at_ tb' t16.toNat).length] ⟨⟨(by omega), (by omega)⟩, (by omega), ⟨(by omega), (by omega)⟩, ⟨(by omega), (by omega)⟩, ⟨(featCost_ok (at_ a t16.toNat) (at_ b t27.toNat) (by first | exact hab.1 _ (by omega) | exact hab.2.1 _ (by omega)) (by first | exact hab.1 _ (by omega) | exact hab.2.1 _ (by omega))), trivial⟩, (inR_i64 (by omega) (by omega)), ⟨(by omega), (by omega), (by omega)⟩, ⟨(by omega), (by omega)⟩, trivial⟩ ?_
       refine xe_block 3 ?_
       refine xe_then ?_
       refine x_weak [] (T := [(0, slFeat false a), (1, slFeat false b), (2, I band), (7, .arr 13), (8, I t16), (15, I (a.length : Int)), (16, I t16), (26, I (b.length : Int)), (27, I t27)]) (O := [(13, tOLI 8401 (tb'.set t16.toNat ((at_ tb' t16.toNat).set t27.toNat ((lb3 tb' t16 t27) + (costF (at_ a t16.toNat) (at_ b t27.toNat)))))), (8401, tFLI (tb'.set t16.toNat ((at_ tb' t16.toNat).set t27.toNat ((lb3 tb' t16 t27) + (costF (at_ a t16.toNat) (at_ b t27.toNat))))))]) rfl (⟨.inl rfl, .inl rfl, .inl rfl, .inl rfl, .inl rfl, .inl rfl, .inl rfl, .inl rfl, .inl rfl, trivial⟩) (⟨.inr ⟨rfl, rfl, (by first | rfl | (simp; done) | omega), fun i_ hi_ => .inl (osetLI 8401 t16.toNat tb' ((at_ tb' t16.toNat).set t27.toNat ((lb3 tb' t16 t27) + (costF (at_ a t16.toNat) (at_ b t27.toNat)))) i_)⟩, .inr (fsetLI (P := t16.toNat) (k := t27.toNat) ((by omega)) ((by omega)) (by simp only [Nat.beq_refl, cond_true]; try rfl) (by intro i hi; simp only [Nat.beq_refl, cond_true, beq_ne hi, cond_false]; try rfl) (by intro p hp; simp only [beq_ne hp, cond_false])), trivial⟩) ?_
       refine x_r [] [0, 1, 2, 7, 8, 15, 16, 26, 27] [13, 8401] [slFeat false a, slFeat false b, I band, .arr 13, I t16, I (a.length : Int), I t16, I (b.length : Int), I (t27 + 1)] [some (tOLI 8401 (tb'.set t16.toNat ((at_ tb' t16.toNat).set t27.toNat ((lb3 tb' t16 t27) + (costF (at_ a t16.toNat) (at_ b t27.toNat)))))), some (tFLI (tb'.set t16.toNat ((at_ tb' t16.toNat).set t27.toNat ((lb3 tb' t16 t27) + (costF (at_ a t16.toNat) (at_ b t27.toNat))))))] [inR .i64 (t27 + 1)] ⟨(inR_i64 (by omega) (by omega)), trivial⟩ ?_
       exact xe_again ((t27 + 1), (tb'.set t16.toNat ((at_ tb' t16.toNat).set t27.toNat ((lb3 tb' t16 t27) + (costF (at_ a t16.toNat) (at_ b t27.toNat)))))) rfl (show (0 ≤ (t27 + 1) ∧ (t27 + 1) ≤ (b.length : Int)) ∧ (tbOk a b band (tb'.set t16.toNat ((at_ tb' t16.toNat).set t27.toNat ((lb3 tb' t16 t27) + (costF (at_ a t16.toNat) (at_ b t27.toNat))))) t16.toNat ∧ rowOk a b band (at_ (tb'.set t16.toNat ((at_ tb' t16.toNat).set t27.toNat ((lb3 tb' t16 t27) + (costF (at_ a t16.toNat) (at_ b t27.toNat))))) t16.toNat) t16.toNat (t27 + 1).toNat) ∧ True from ⟨(by omega), (by rw [show (t27 + 1).toNat = t27.toNat + 1 from by omega]; exact tb_step hin.1 hin.2 hi hj (by rw [hlb.2]; first | exact (stp_far (by first | (left; rw [hix, hjx]; omega) | (right; (try rw [if_neg (by omega)]); (try rw [if_pos (by omega)]); omega))).symm | (rw [stp_add (by rw [hix, hjx]; omega) (by first | (rw [if_neg (by omega)]; omega) | (rw [if_pos (by omega)]; decide))]; first | rw [if_neg (by omega)] | rw [if_pos (by omega)]))), trivial⟩) (by first | (show (((b.length : Int) - (t27 + 1)).toNat : Nat) < ((b.length : Int) - t27).toNat; omega) | (dsimp only; omega))
      refine x_r [(1, .dec false)] [0, 1, 2, 7, 8, 9, 10, 15, 16, 26, 27, 39] [13, 8401] [slFeat false a, slFeat false b, I band, .arr 13, I t16, I t27, I (lb3 tb' t16 t27), I (a.length : Int), I t16, I (b.length : Int), I t27, Bv false] [some (tOLI 8401 tb'), some (tFLI tb')] [¬ (t16 = 0)] ⟨h3, trivial⟩ ?_
      refine xe_then ?_
      refine x_false rfl ?_
      refine x_skip ?_
      refine xe_then ?_
      refine x_seq ?_
      by_cases h8 : band < ((t16 - t27).natAbs : Int)
      ·refine x_r [(3, .call [(true, .any)] true (I ((t16 - t27).natAbs : Int))), (5, .dec true)] [0, 1, 2, 7, 8, 9, 10, 15, 16, 26, 27, 49] [13, 8401] [slFeat false a, slFeat false b, I band, .arr 13, I t16, I t27, I (lb3 tb' t16 t27), I (a.length : Int), I t16, I (b.length : Int), I t27, Bv true] [some (tOLI 8401 tb'), some (tFLI tb')] [inR .i64 (t16 - t27), Con Tryz.prog 101 [I (t16 - t27)] true (I ((t16 - t27).natAbs : Int)) ∧ True, band < ((t16 - t27).natAbs : Int)] ⟨(inR_i64 (by omega) (by omega)), ⟨(abs_ok (t16 - t27) (by omega)), trivial⟩, h8, trivial⟩ ?_
       refine xe_then ?_
       refine x_true rfl ?_
       refine x_r [] [0, 1, 2, 7, 8, 15, 16, 26, 27] [13, 8401] [slFeat false a, slFeat false b, I band, .arr 13, I t16, I (a.length : Int), I t16, I (b.length : Int), I t27] [some (tOLI 8401 tb'), some (.fam tb'.length 1 (mLI tb') (fun q => bif Nat.beq q t16.toNat then (fun q => bif Nat.beq q t27.toNat then [I 1099511627776] else (gLI tb') t16.toNat q) else (gLI tb') q))] [(0 : Int) ≤ t16 ∧ t16 < (tb'.length : Int), t16.toNat < tb'.length, t16.toNat < tb'.length ∧ (0 : Int) ≤ t27 ∧ t27 < (((at_ tb' t16.toNat).length) : Int), t16.toNat < tb'.length ∧ t27.toNat < (at_ tb' t16.toNat).length] ⟨⟨(by omega), (by omega)⟩, (by omega), ⟨(by omega), (by omega), (by omega)⟩, ⟨(by omega), (by omega)⟩, trivial⟩ ?_
       refine xe_block 3 ?_
       refine xe_then ?_
       refine x_weak [] (T := [(0, slFeat false a), (1, slFeat false b), (2, I band), (7, .arr 13), (8, I t16), (15, I (a.length : Int)), (16, I t16), (26, I (b.length : Int)), (27, I t27)]) (O := [(13, tOLI 8401 (tb'.set t16.toNat ((at_ tb' t16.toNat).set t27.toNat 1099511627776))), (8401, tFLI (tb'.set t16.toNat ((at_ tb' t16.toNat).set t27.toNat 1099511627776)))]) rfl (⟨.inl rfl, .inl rfl, .inl rfl, .inl rfl, .inl rfl, .inl rfl, .inl rfl, .inl rfl, .inl rfl, trivial⟩) (⟨.inr ⟨rfl, rfl, (by first | rfl | (simp; done) | omega), fun i_ hi_ => .inl (osetLI 8401 t16.toNat tb' ((at_ tb' t16.toNat).set t27.toNat 1099511627776) i_)⟩, .inr (fsetLI (P := t16.toNat) (k := t27.toNat) ((by omega)) ((by omega)) (by simp only [Nat.beq_refl, cond_true]; try rfl) (by intro i hi; simp only [Nat.beq_refl, cond_true, beq_ne hi, cond_false]; try rfl) (by intro p hp; simp only [beq_ne hp, cond_false])), trivial⟩) ?_
       refine x_r [] [0, 1, 2, 7, 8, 15, 16, 26, 27] [13, 8401] [slFeat false a, slFeat false b, I band, .arr 13, I t16, I (a.length : Int), I t16, I (b.length : Int), I (t27 + 1)] [some (tOLI 8401 (tb'.set t16.toNat ((at_ tb' t16.toNat).set t27.toNat 1099511627776))), some (tFLI (tb'.set t16.toNat ((at_ tb' t16.toNat).set t27.toNat 1099511627776)))] [inR .i64 (t27 + 1)] ⟨(inR_i64 (by omega) (by omega)), trivial⟩ ?_
       exact xe_again ((t27 + 1), (tb'.set t16.toNat ((at_ tb' t16.toNat).set t27.toNat 1099511627776))) rfl (show (0 ≤ (t27 + 1) ∧ (t27 + 1) ≤ (b.length : Int)) ∧ (tbOk a b band (tb'.set t16.toNat ((at_ tb' t16.toNat).set t27.toNat 1099511627776)) t16.toNat ∧ rowOk a b band (at_ (tb'.set t16.toNat ((at_ tb' t16.toNat).set t27.toNat 1099511627776)) t16.toNat) t16.toNat (t27 + 1).toNat) ∧ True from ⟨(by omega), (by rw [show (t27 + 1).toNat = t27.toNat + 1 from by omega]; exact tb_step hin.1 hin.2 hi hj (by rw [hlb.2]; first | exact (stp_far (by first | (left; rw [hix, hjx]; omega) | (right; (try rw [if_neg (by omega)]); (try rw [if_pos (by omega)]); omega))).symm | (rw [stp_add (by rw [hix, hjx]; omega) (by first | (rw [if_neg (by omega)]; omega) | (rw [if_pos (by omega)]; decide))]; first | rw [if_neg (by omega)] | rw [if_pos (by omega)]))), trivial⟩) (by first | (show (((b.length : Int) - (t27 + 1)).toNat : Nat) < ((b.length : Int) - t27).toNat; omega) | (dsimp only; omega))
      by_cases h9 : 1099511627776 ≤ (lb3 tb' t16 t27)
      ·refine x_r [(3, .call [(true, .any)] true (I ((t16 - t27).natAbs : Int))), (5, .dec false), (8, .dec true)] [0, 1, 2, 7, 8, 9, 10, 15, 16, 26, 27, 49] [13, 8401] [slFeat false a, slFeat false b, I band, .arr 13, I t16, I t27, I (lb3 tb' t16 t27), I (a.length : Int), I t16, I (b.length : Int), I t27, Bv true] [some (tOLI 8401 tb'), some (tFLI tb')] [inR .i64 (t16 - t27), Con Tryz.prog 101 [I (t16 - t27)] true (I ((t16 - t27).natAbs : Int)) ∧ True, ¬ (band < ((t16 - t27).natAbs : Int)), 1099511627776 ≤ (lb3 tb' t16 t27)] ⟨(inR_i64 (by omega) (by omega)), ⟨(abs_ok (t16 - t27) (by omega)), trivial⟩, h8, h9, trivial⟩ ?_
       refine xe_then ?_
       refine x_true rfl ?_
       refine x_r [] [0, 1, 2, 7, 8, 15, 16, 26, 27] [13, 8401] [slFeat false a, slFeat false b, I band, .arr 13, I t16, I (a.length : Int), I t16, I (b.length : Int), I t27] [some (tOLI 8401 tb'), some (.fam tb'.length 1 (mLI tb') (fun q => bif Nat.beq q t16.toNat then (fun q => bif Nat.beq q t27.toNat then [I 1099511627776] else (gLI tb') t16.toNat q) else (gLI tb') q))] [(0 : Int) ≤ t16 ∧ t16 < (tb'.length : Int), t16.toNat < tb'.length, t16.toNat < tb'.length ∧ (0 : Int) ≤ t27 ∧ t27 < (((at_ tb' t16.toNat).length) : Int), t16.toNat < tb'.length ∧ t27.toNat < (at_ tb' t16.toNat).length] ⟨⟨(by omega), (by omega)⟩, (by omega), ⟨(by omega), (by omega), (by omega)⟩, ⟨(by omega), (by omega)⟩, trivial⟩ ?_
       refine xe_block 3 ?_
       refine xe_then ?_
       refine x_weak [] (T := [(0, slFeat false a), (1, slFeat false b), (2, I band), (7, .arr 13), (8, I t16), (15, I (a.length : Int)), (16, I t16), (26, I (b.length : Int)), (27, I t27)]) (O := [(13, tOLI 8401 (tb'.set t16.toNat ((at_ tb' t16.toNat).set t27.toNat 1099511627776))), (8401, tFLI (tb'.set t16.toNat ((at_ tb' t16.toNat).set t27.toNat 1099511627776)))]) rfl (⟨.inl rfl, .inl rfl, .inl rfl, .inl rfl, .inl rfl, .inl rfl, .inl rfl, .inl rfl, .inl rfl, trivial⟩) (⟨.inr ⟨rfl, rfl, (by first | rfl | (simp; done) | omega), fun i_ hi_ => .inl (osetLI 8401 t16.toNat tb' ((at_ tb' t16.toNat).set t27.toNat 1099511627776) i_)⟩, .inr (fsetLI (P := t16.toNat) (k := t27.toNat) ((by omega)) ((by omega)) (by simp only [Nat.beq_refl, cond_true]; try rfl) (by intro i hi; simp only [Nat.beq_refl, cond_true, beq_ne hi, cond_false]; try rfl) (by intro p hp; simp only [beq_ne hp, cond_false])), trivial⟩) ?_
       refine x_r [] [0, 1, 2, 7, 8, 15, 16, 26, 27] [13, 8401] [slFeat false a, slFeat false b, I band, .arr 13, I t16, I (a.length : Int), I t16, I (b.length : Int), I (t27 + 1)] [some (tOLI 8401 (tb'.set t16.toNat ((at_ tb' t16.toNat).set t27.toNat 1099511627776))), some (tFLI (tb'.set t16.toNat ((at_ tb' t16.toNat).set t27.toNat 1099511627776)))] [inR .i64 (t27 + 1)] ⟨(inR_i64 (by omega) (by omega)), trivial⟩ ?_
       exact xe_again ((t27 + 1), (tb'.set t16.toNat ((at_ tb' t16.toNat).set t27.toNat 1099511627776))) rfl (show (0 ≤ (t27 + 1) ∧ (t27 + 1) ≤ (b.length : Int)) ∧ (tbOk a b band (tb'.set t16.toNat ((at_ tb' t16.toNat).set t27.toNat 1099511627776)) t16.toNat ∧ rowOk a b band (at_ (tb'.set t16.toNat ((at_ tb' t16.toNat).set t27.toNat 1099511627776)) t16.toNat) t16.toNat (t27 + 1).toNat) ∧ True from ⟨(by omega), (by rw [show (t27 + 1).toNat = t27.toNat + 1 from by omega]; exact tb_step hin.1 hin.2 hi hj (by rw [hlb.2]; first | exact (stp_far (by first | (left; rw [hix, hjx]; omega) | (right; (try rw [if_neg (by omega)]); (try rw [if_pos (by omega)]); omega))).symm | (rw [stp_add (by rw [hix, hjx]; omega) (by first | (rw [if_neg (by omega)]; omega) | (rw [if_pos (by omega)]; decide))]; first | rw [if_neg (by omega)] | rw [if_pos (by omega)]))), trivial⟩) (by first | (show (((b.length : Int) - (t27 + 1)).toNat : Nat) < ((b.length : Int) - t27).toNat; omega) | (dsimp only; omega))
      refine x_r [(3, .call [(true, .any)] true (I ((t16 - t27).natAbs : Int))), (5, .dec false), (8, .dec false)] [0, 1, 2, 7, 8, 9, 10, 15, 16, 26, 27, 49] [13, 8401] [slFeat false a, slFeat false b, I band, .arr 13, I t16, I t27, I (lb3 tb' t16 t27), I (a.length : Int), I t16, I (b.length : Int), I t27, Bv false] [some (tOLI 8401 tb'), some (tFLI tb')] [inR .i64 (t16 - t27), Con Tryz.prog 101 [I (t16 - t27)] true (I ((t16 - t27).natAbs : Int)) ∧ True, ¬ (band < ((t16 - t27).natAbs : Int)), ¬ (1099511627776 ≤ (lb3 tb' t16 t27))] ⟨(inR_i64 (by omega) (by omega)), ⟨(abs_ok (t16 - t27) (by omega)), trivial⟩, h8, h9, trivial⟩ ?_
      refine xe_then ?_
      refine x_false rfl ?_
      refine x_r [(14, .call [(true, .any), (true, .any)] true (I (costF (at_ a t16.toNat) (at_ b t27.toNat))))] [0, 1, 2, 7, 8, 15, 16, 26, 27] [13, 8401] [slFeat false a, slFeat false b, I band, .arr 13, I t16, I (a.length : Int), I t16, I (b.length : Int), I t27] [some (tOLI 8401 tb'), some (.fam tb'.length 1 (mLI tb') (fun q => bif Nat.beq q t16.toNat then (fun q => bif Nat.beq q t27.toNat then [I ((lb3 tb' t16 t27) + (costF (at_ a t16.toNat) (at_ b t27.toNat)))] else (gLI tb') t16.toNat q) else (gLI tb') q))] [(0 : Int) ≤ t16 ∧ t16 < (tb'.length : Int), t16.toNat < tb'.length, (0 : Int) ≤ t16 ∧ t16 < (a.length : Int), (0 : Int) ≤ t27 ∧ t27 < (b.length : Int), Con Tryz.prog 114 [agFeat (at_ a t16.toNat), agFeat (at_ b t27.toNat)] true (I (costF (at_ a t16.toNat) (at_ b t27.toNat))) ∧ True, inR .i64 ((lb3 tb' t16 t27) + (costF (at_ a t16.toNat) (at_ b t27.toNat))), t16.toNat < tb'.length ∧ (0 : Int) ≤ t27 ∧ t27 < (((at_ tb' t16.toNat).length) : Int), t16.toNat < tb'.length ∧ t27.toNat < (at_ tb' t16.toNat).length] ⟨⟨(by omega), (by omega)⟩, (by omega), ⟨(by omega), (by omega)⟩, ⟨(by omega), (by omega)⟩, ⟨(featCost_ok (at_ a t16.toNat) (at_ b t27.toNat) (by first | exact hab.1 _ (by omega) | exact hab.2.1 _ (by omega)) (by first | exact hab.1 _ (by omega) | exact hab.2.1 _ (by omega))), trivial⟩, (inR_i64 (by omega) (by omega)), ⟨(by omega), (by omega), (by omega)⟩, ⟨(by omega), (by omega)⟩, trivial⟩ ?_
      refine xe_block 3 ?_
      refine xe_then ?_
      refine x_weak [] (T := [(0, slFeat false a), (1, slFeat false b), (2, I band), (7, .arr 13), (8, I t16), (15, I (a.length : Int)), (16, I t16), (26, I (b.length : Int)), (27, I t27)]) (O := [(13, tOLI 8401 (tb'.set t16.toNat ((at_ tb' t16.toNat).set t27.toNat ((lb3 tb' t16 t27) + (costF (at_ a t16.toNat) (at_ b t27.toNat)))))), (8401, tFLI (tb'.set t16.toNat ((at_ tb' t16.toNat).set t27.toNat ((lb3 tb' t16 t27) + (costF (at_ a t16.toNat) (at_ b t27.toNat))))))]) rfl (⟨.inl rfl, .inl rfl, .inl rfl, .inl rfl, .inl rfl, .inl rfl, .inl rfl, .inl rfl, .inl rfl, trivial⟩) (⟨.inr ⟨rfl, rfl, (by first | rfl | (simp; done) | omega), fun i_ hi_ => .inl (osetLI 8401 t16.toNat tb' ((at_ tb' t16.toNat).set t27.toNat ((lb3 tb' t16 t27) + (costF (at_ a t16.toNat) (at_ b t27.toNat)))) i_)⟩, .inr (fsetLI (P := t16.toNat) (k := t27.toNat) ((by omega)) ((by omega)) (by simp only [Nat.beq_refl, cond_true]; try rfl) (by intro i hi; simp only [Nat.beq_refl, cond_true, beq_ne hi, cond_false]; try rfl) (by intro p hp; simp only [beq_ne hp, cond_false])), trivial⟩) ?_
      refine x_r [] [0, 1, 2, 7, 8, 15, 16, 26, 27] [13, 8401] [slFeat false a, slFeat false b, I band, .arr 13, I t16, I (a.length : Int), I t16, I (b.length : Int), I (t27 + 1)] [some (tOLI 8401 (tb'.set t16.toNat ((at_ tb' t16.toNat).set t27.toNat ((lb3 tb' t16 t27) + (costF (at_ a t16.toNat) (at_ b t27.toNat)))))), some (tFLI (tb'.set t16.toNat ((at_ tb' t16.toNat).set t27.toNat ((lb3 tb' t16 t27) + (costF (at_ a t16.toNat) (at_ b t27.toNat))))))] [inR .i64 (t27 + 1)] ⟨(inR_i64 (by omega) (by omega)), trivial⟩ ?_
      exact xe_again ((t27 + 1), (tb'.set t16.toNat ((at_ tb' t16.toNat).set t27.toNat ((lb3 tb' t16 t27) + (costF (at_ a t16.toNat) (at_ b t27.toNat)))))) rfl (show (0 ≤ (t27 + 1) ∧ (t27 + 1) ≤ (b.length : Int)) ∧ (tbOk a b band (tb'.set t16.toNat ((at_ tb' t16.toNat).set t27.toNat ((lb3 tb' t16 t27) + (costF (at_ a t16.toNat) (at_ b t27.toNat))))) t16.toNat ∧ rowOk a b band (at_ (tb'.set t16.toNat ((at_ tb' t16.toNat).set t27.toNat ((lb3 tb' t16 t27) + (costF (at_ a t16.toNat) (at_ b t27.toNat))))) t16.toNat) t16.toNat (t27 + 1).toNat) ∧ True from ⟨(by omega), (by rw [show (t27 + 1).toNat = t27.toNat + 1 from by omega]; exact tb_step hin.1 hin.2 hi hj (by rw [hlb.2]; first | exact (stp_far (by first | (left; rw [hix, hjx]; omega) | (right; (try rw [if_neg (by omega)]); (try rw [if_pos (by omega)]); omega))).symm | (rw [stp_add (by rw [hix, hjx]; omega) (by first | (rw [if_neg (by omega)]; omega) | (rw [if_pos (by omega)]; decide))]; first | rw [if_neg (by omega)] | rw [if_pos (by omega)]))), trivial⟩) (by first | (show (((b.length : Int) - (t27 + 1)).toNat : Nat) < ((b.length : Int) - t27).toNat; omega) | (dsimp only; omega))
     have hje : t27.toNat = b.length := by omega
     refine x_r [(0, .dec false)] [0, 1, 2, 7, 8, 15, 16, 26, 27, 28] [13, 8401] [slFeat false a, slFeat false b, I band, .arr 13, I t16, I (a.length : Int), I t16, I (b.length : Int), I t27, Bv false] [some (tOLI 8401 tb'), some (tFLI tb')] [¬ (t27 < (b.length : Int))] ⟨h2, trivial⟩ ?_
     refine xe_then ?_
     refine x_seq ?_
     refine x_false rfl ?_
     refine x_exit ?_
     refine xe_exit_then ?_
     refine xe_loop_exit ?_
     refine xe_exit_same ?_
     refine xe_block 1 ?_
     refine xe_then ?_
     refine x_r [] [0, 1, 2, 7, 15, 16] [13, 8401] [slFeat false a, slFeat false b, I band, .arr 13, I (a.length : Int), I (t16 + 1)] [some (tOLI 8401 tb'), some (tFLI tb')] [inR .i64 (t16 + 1)] ⟨(inR_i64 (by omega) (by omega)), trivial⟩ ?_
     exact xe_again ((t16 + 1), tb') rfl (show (0 ≤ (t16 + 1) ∧ (t16 + 1) ≤ (a.length : Int)) ∧ (tbOk a b band tb' (t16 + 1).toNat) ∧ True from ⟨(by omega), (by rw [show (t16 + 1).toNat = t16.toNat + 1 from by omega]; exact tb_done hin.1 hin.2 hje), trivial⟩) (by first | (show (((a.length : Int) - (t16 + 1)).toNat : Nat) < ((a.length : Int) - t16).toNat; omega) | (dsimp only; omega))
    have hie : t16.toNat = a.length := by omega
    rw [hie] at htb
    refine x_r [(0, .dec false)] [0, 1, 2, 7, 15, 16, 17] [13, 8401] [slFeat false a, slFeat false b, I band, .arr 13, I (a.length : Int), I t16, Bv false] [some (tOLI 8401 tb), some (tFLI tb)] [¬ (t16 < (a.length : Int))] ⟨h1, trivial⟩ ?_
    refine xe_then ?_
    refine x_seq ?_
    refine x_false rfl ?_
    refine x_exit ?_
    refine xe_exit_then ?_
    refine xe_loop_exit ?_
    refine xe_exit_same ?_
    refine xe_then ?_
    refine xR [] [6] [13, 8401] [.arr 13] [some (tOLI 8401 tb), some (tFLI tb)] [] trivial ?_
    refine x_ret ?_
    refine xe_end tb (show (tbOk a b band tb a.length) ∧ (True) from ⟨(by first | assumption | exact htb), trivial⟩) (trivial) (.arr 13) (by kernel_rfl) (.inr ⟨(fun _ => rfl), rfl, rfl, oleLI _ _ rfl⟩) (fun _ => rfl) (fun _ => (tagLI true _))
  obtain ⟨v, ⟨hh0, _⟩, hc⟩ := hh
  exact ⟨v, hh0, hc⟩


theorem tb_last {a b : List Feat} {band : Int} {tb : List (List Int)} (h : tbOk a b band tb a.length) (ha : 1 ≤ a.length) (hb : 1 ≤ b.length) : (tb.length = a.length ∧ (at_ tb (a.length - 1)).length = b.length) ∧ at_ (at_ tb (a.length - 1)) (b.length - 1) = cv farI a b band (a.length - 1) (b.length - 1) :=
  ⟨⟨h.1, (h.2 _ (by omega)).1⟩, (h.2 _ (by omega)).2 _ (by omega)⟩

-- impl.elastic
theorem elastic_ok (a : List Feat) (b : List Feat) (band : Int) (hab : okAB a b) (hbd : 0 ≤ band ∧ band ≤ 1000) (h1 : 1 ≤ a.length ∧ 1 ≤ b.length) : ∃ (v : Int), (v = cv farI a b band (a.length - 1) (b.length - 1)) ∧ Con Tryz.prog 70 [slFeat false a, slFeat false b, I band] true (I v) := by
  have hla := hab.2.2
  have hh : ∃ r : Int, ((r = cv farI a b band (a.length - 1) (b.length - 1)) ∧ (True)) ∧ CallOK Tryz.prog 70 [slFeat false a, slFeat false b, I band] (lookO []) true (I r) (lookO []) := by
    refine fn_okX (Φ := fun r : Int => (r = cv farI a b band (a.length - 1) (b.length - 1)) ∧ (True)) [] (fun r => []) (fn := Tryz.f70) (nt := 21) Tryz.func70 rfl rfl (args := [slFeat false a, slFeat false b, I band]) rfl (allcons (.inl ⟨rfl, tagFeat false _⟩) (allcons (.inl ⟨rfl, tagFeat false _⟩) (allcons (.inl ⟨rfl, trivial⟩) allnil))) (res := fun r => I r) ?_
    refine xR [] [0, 1, 2] [] [slFeat false a, slFeat false b, I band] [] [] trivial ?_
    refine x_seq ?_
    obtain ⟨v_1, hx1_0, hc1⟩ := costTable_ok a b band hab (by omega)
    have htl := tb_last hx1_0 h1.1 h1.2
    have hq1 : ((a.length : Int) - 1).toNat = a.length - 1 := by omega
    have hq2 : ((b.length : Int) - 1).toNat = b.length - 1 := by omega
    rw [← hq1] at htl
    refine x_r [(3, .call [(true, .any), (true, .any), (true, .any)] true (slLI true v_1))] [6] [] [I (at_ (at_ v_1 (((a.length : Int) - 1).toNat)) (((b.length : Int) - 1).toNat))] [] [Con Tryz.prog 102 [slFeat false a, slFeat false b, I band] true (slLI true v_1) ∧ True, inR .i64 ((a.length : Int) - 1), (0 : Int) ≤ ((a.length : Int) - 1) ∧ ((a.length : Int) - 1) < (v_1.length : Int), inR .i64 ((b.length : Int) - 1), (0 : Int) ≤ ((b.length : Int) - 1) ∧ ((b.length : Int) - 1) < (((at_ v_1 (((a.length : Int) - 1).toNat)).length) : Int)] ⟨⟨hc1, trivial⟩, (inR_i64 (by omega) (by omega)), ⟨(by omega), (by omega)⟩, (inR_i64 (by omega) (by omega)), ⟨(by omega), (by omega)⟩, trivial⟩ ?_
    refine xe_then ?_
    refine x_ret ?_
    refine xe_end (at_ (at_ v_1 (((a.length : Int) - 1).toNat)) (((b.length : Int) - 1).toNat)) (show ((at_ (at_ v_1 (((a.length : Int) - 1).toNat)) (((b.length : Int) - 1).toNat)) = cv farI a b band (a.length - 1) (b.length - 1)) ∧ (True) from ⟨(by (rw [hq2, htl.2, hq1])), trivial⟩) (trivial) (I (at_ (at_ v_1 (((a.length : Int) - 1).toNat)) (((b.length : Int) - 1).toNat))) (by kernel_rfl) (.inl rfl) (fun _ => rfl) (fun _ => trivial)
  obtain ⟨v, ⟨hh0, _⟩, hc⟩ := hh
  exact ⟨v, hh0, hc⟩


-- impl.learner
theorem learner_ok (w : Writer) (label : ByteArray) (sample : List Feat) (hw : (0 ≤ w.Band ∧ w.Band ≤ 72) ∧ w.Trained.length ≤ 40 ∧ ∀ j, j < w.Trained.length → okTrained' (at_ w.Trained j) = true) (oks : okFeats sample 72 = true) : ∃ (v : Int), (v = pkI w label sample) ∧ Con Tryz.prog 34 [agWriter w, Sv label, slFeat false sample] true (I v) := by
  have hh : ∃ r : Int, ((r = pkI w label sample) ∧ (True)) ∧ CallOK Tryz.prog 34 [agWriter w, Sv label, slFeat false sample] (lookO []) true (I r) (lookO []) := by
    refine fn_okX (Φ := fun r : Int => (r = pkI w label sample) ∧ (True)) [] (fun r => []) (fn := Tryz.f34) (nt := 57) Tryz.func34 rfl rfl (args := [agWriter w, Sv label, slFeat false sample]) rfl (allcons (.inl ⟨rfl, by simp [tagged, taggedL, tagTrained]⟩) (allcons (.inl ⟨rfl, trivial⟩) (allcons (.inl ⟨rfl, tagFeat false _⟩) allnil))) (res := fun r => I r) ?_
    refine xR [(0, .new 3)] [1, 2, 3] [3] [Sv label, slFeat false sample, .ref 3 0] [some (bxWriter w)] [] trivial ?_
    refine xR [] [1, 2, 3, 7, 8] [3] [Sv label, slFeat false sample, .ref 3 0, I (-1), I 0] [some (bxWriter w)] [] trivial ?_
    refine x_seq ?_
    refine xR [] [1, 2, 3, 7, 8, 13, 14, 15] [3] [Sv label, slFeat false sample, .ref 3 0, I (-1), I 0, slTrained false w.Trained, I (w.Trained.length : Int), I 0] [some (bxWriter w)] [] trivial ?_
    refine x_block ?_
    refine x_loop (X := Int × Int × Int) (fun x => mkS [(1, Sv label), (2, slFeat false sample), (3, .ref 3 0), (7, I x.1), (8, I x.2.1), (13, slTrained false w.Trained), (14, I (w.Trained.length : Int)), (15, I x.2.2)] [(3, bxWriter w)]) (fun x => (0 ≤ x.2.2 ∧ x.2.2 ≤ (w.Trained.length : Int)) ∧ (pkS w label sample x.2.2.toNat = (x.1, x.2.1)) ∧ True) (fun x => ((w.Trained.length : Int) - x.2.2).toNat) ((-1), 0, 0) rfl (show (0 ≤ (0 : Int) ∧ (0 : Int) ≤ (w.Trained.length : Int)) ∧ (pkS w label sample (0 : Int).toNat = ((-1), (0 : Int))) ∧ True from ⟨(by omega), (by rfl), trivial⟩) (fun x hI => ?_)
    obtain ⟨best, least, t15⟩ := x
    obtain ⟨hi0, hbs, _⟩ : (0 ≤ t15 ∧ t15 ≤ (w.Trained.length : Int)) ∧ (pkS w label sample t15.toNat = (best, least)) ∧ True := hI
    show XW _ _ _ _ (mkS [(1, Sv label), (2, slFeat false sample), (3, .ref 3 0), (7, I best), (8, I least), (13, slTrained false w.Trained), (14, I (w.Trained.length : Int)), (15, I t15)] [(3, bxWriter w)]) _ _
    refine x_seq ?_
    by_cases h1 : t15 < (w.Trained.length : Int)
    ·have hi : t15.toNat < w.Trained.length := by omega
     have hix : ((t15.toNat : Nat) : Int) = t15 := by omega
     have htr := hw.2.2 _ hi
     have htn := okFeats_n (okTr_iff.1 htr).2.2.1
     have hon := okFeats_n oks
     have hnx : (t15 + 1).toNat = t15.toNat + 1 := by omega
     refine x_r [(0, .dec true)] [1, 2, 3, 7, 8, 13, 14, 15, 16] [3] [Sv label, slFeat false sample, .ref 3 0, I best, I least, slTrained false w.Trained, I (w.Trained.length : Int), I t15, Bv true] [some (bxWriter w)] [t15 < (w.Trained.length : Int)] ⟨h1, trivial⟩ ?_
     refine xe_then ?_
     refine x_seq ?_
     refine x_true rfl ?_
     refine x_skip ?_
     refine xe_then ?_
     refine x_seq ?_
     refine x_block ?_
     refine xR [(3, .new 10)] [1, 2, 3, 7, 8, 9, 10, 13, 14, 15] [3, 10] [Sv label, slFeat false sample, .ref 3 0, I best, I least, I t15, .ref 10 0, slTrained false w.Trained, I (w.Trained.length : Int), I t15] [some (bxWriter w), some (bxTrained (at_ w.Trained t15.toNat))] [(0 : Int) ≤ t15 ∧ t15 < (w.Trained.length : Int)] ⟨⟨(by omega), (by omega)⟩, trivial⟩ ?_
     refine x_seq ?_
     refine x_seq ?_
     by_cases h2 : ((at_ w.Trained t15.toNat).Label) = label
     ·by_cases h3 : 100 ≤ ((at_ w.Trained t15.toNat).Count)
      ·have hpk := pk_no (label := label) (s := sample) (lrn_n2 h3)
       refine x_r [(3, .dec false), (7, .dec true)] [1, 2, 3, 7, 8, 9, 10, 13, 14, 15, 39] [3, 10] [Sv label, slFeat false sample, .ref 3 0, I best, I least, I t15, .ref 10 0, slTrained false w.Trained, I (w.Trained.length : Int), I t15, Bv true] [some (bxWriter w), some (bxTrained (at_ w.Trained t15.toNat))] [¬ (((at_ w.Trained t15.toNat).Label) ≠ label), 100 ≤ ((at_ w.Trained t15.toNat).Count)] ⟨(fun hq => hq h2), h3, trivial⟩ ?_
       refine xe_then ?_
       refine x_true rfl ?_
       refine x_exit ?_
       refine xe_exit_then ?_
       refine xe_exit_same ?_
       refine xe_then ?_
       refine x_r [] [1, 2, 3, 7, 8, 13, 14, 15] [3] [Sv label, slFeat false sample, .ref 3 0, I best, I least, slTrained false w.Trained, I (w.Trained.length : Int), I (t15 + 1)] [some (bxWriter w)] [inR .i64 (t15 + 1)] ⟨(inR_i64 (by omega) (by omega)), trivial⟩ ?_
       exact xe_again (best, least, (t15 + 1)) rfl (show (0 ≤ (t15 + 1) ∧ (t15 + 1) ≤ (w.Trained.length : Int)) ∧ (pkS w label sample (t15 + 1).toNat = (best, least)) ∧ True from ⟨(by omega), (by rw [hnx]; first | (rw [hpk]; exact hbs) | (rw [hpk, hix]) | exact hpk), trivial⟩) (by first | (show (((w.Trained.length : Int) - (t15 + 1)).toNat : Nat) < ((w.Trained.length : Int) - t15).toNat; omega) | (dsimp only; omega))
      rcases Bool.eq_false_or_eq_true (inB w.Band 0 72 && decide (((((((at_ w.Trained t15.toNat).Feats).length) : Int) - (sample.length : Int)).natAbs : Int) ≤ w.Band)) with h4 | h4
      ·have hlb : lrnB w label sample t15.toNat = true := lrn_mk (by assumption) (by omega) h4
       have hcvs := lrn_cv oks htr hlb
       refine x_r [(3, .dec false), (7, .dec false), (17, .call [(true, .any), (true, .any), (true, .any)] true (Bv true))] [1, 2, 3, 7, 8, 9, 10, 13, 14, 15, 39] [3, 10] [Sv label, slFeat false sample, .ref 3 0, I best, I least, I t15, .ref 10 0, slTrained false w.Trained, I (w.Trained.length : Int), I t15, Bv false] [some (bxWriter w), some (bxTrained (at_ w.Trained t15.toNat))] [¬ (((at_ w.Trained t15.toNat).Label) ≠ label), ¬ (100 ≤ ((at_ w.Trained t15.toNat).Count)), Con Tryz.prog 69 [I w.Band, I ((((at_ w.Trained t15.toNat).Feats).length) : Int), I (sample.length : Int)] true (Bv true) ∧ True] ⟨(fun hq => hq h2), h3, ⟨(con_bool h4 (isBand_ok w.Band ((((at_ w.Trained t15.toNat).Feats).length) : Int) (sample.length : Int) (by omega) (by omega))), trivial⟩, trivial⟩ ?_
       refine xe_then ?_
       refine x_false rfl ?_
       refine x_skip ?_
       refine xe_then ?_
       refine x_seq ?_
       obtain ⟨v_1, hx1_0, hc1⟩ := elastic_ok sample ((at_ w.Trained t15.toNat).Feats) w.Band (okAB_of oks (okTr_iff.1 htr).2.2.1) (by omega) (by omega)
       have hcvx : v_1 = cv farS sample (at_ w.Trained t15.toNat).Feats w.Band (sample.length - 1) ((at_ w.Trained t15.toNat).Feats.length - 1) := hx1_0.trans hcvs
       refine x_r [(5, .call [(true, .any), (true, .any), (true, .any)] true (I v_1))] [1, 2, 3, 7, 8, 9, 11, 13, 14, 15] [3] [Sv label, slFeat false sample, .ref 3 0, I best, I least, I t15, I v_1, slTrained false w.Trained, I (w.Trained.length : Int), I t15] [some (bxWriter w)] [Con Tryz.prog 70 [slFeat false sample, slFeat false ((at_ w.Trained t15.toNat).Feats), I w.Band] true (I v_1) ∧ True] ⟨⟨hc1, trivial⟩, trivial⟩ ?_
       refine xe_then ?_
       refine x_seq ?_
       by_cases h5 : best < 0
       ·have hpk := pk_yes (c := v_1) hlb hcvx hbs (.inl h5)
        refine x_r [(1, .dec true)] [1, 2, 3, 7, 8, 9, 11, 13, 14, 15, 52] [3] [Sv label, slFeat false sample, .ref 3 0, I best, I least, I t15, I v_1, slTrained false w.Trained, I (w.Trained.length : Int), I t15, Bv true] [some (bxWriter w)] [best < 0] ⟨h5, trivial⟩ ?_
        refine xe_then ?_
        refine x_true rfl ?_
        refine x_r [] [1, 2, 3, 7, 8, 13, 14, 15] [3] [Sv label, slFeat false sample, .ref 3 0, I t15, I v_1, slTrained false w.Trained, I (w.Trained.length : Int), I t15] [some (bxWriter w)] [] trivial ?_
        refine xe_block 1 ?_
        refine xe_then ?_
        refine x_r [] [1, 2, 3, 7, 8, 13, 14, 15] [3] [Sv label, slFeat false sample, .ref 3 0, I t15, I v_1, slTrained false w.Trained, I (w.Trained.length : Int), I (t15 + 1)] [some (bxWriter w)] [inR .i64 (t15 + 1)] ⟨(inR_i64 (by omega) (by omega)), trivial⟩ ?_
        exact xe_again (t15, v_1, (t15 + 1)) rfl (show (0 ≤ (t15 + 1) ∧ (t15 + 1) ≤ (w.Trained.length : Int)) ∧ (pkS w label sample (t15 + 1).toNat = (t15, v_1)) ∧ True from ⟨(by omega), (by rw [hnx]; first | (rw [hpk]; exact hbs) | (rw [hpk, hix]) | exact hpk), trivial⟩) (by first | (show (((w.Trained.length : Int) - (t15 + 1)).toNat : Nat) < ((w.Trained.length : Int) - t15).toNat; omega) | (dsimp only; omega))
       by_cases h6 : v_1 < least
       ·have hpk := pk_yes (c := v_1) hlb hcvx hbs (.inr h6)
        refine x_r [(1, .dec false), (5, .dec true)] [1, 2, 3, 7, 8, 9, 11, 13, 14, 15, 52] [3] [Sv label, slFeat false sample, .ref 3 0, I best, I least, I t15, I v_1, slTrained false w.Trained, I (w.Trained.length : Int), I t15, Bv true] [some (bxWriter w)] [¬ (best < 0), v_1 < least] ⟨h5, h6, trivial⟩ ?_
        refine xe_then ?_
        refine x_true rfl ?_
        refine x_r [] [1, 2, 3, 7, 8, 13, 14, 15] [3] [Sv label, slFeat false sample, .ref 3 0, I t15, I v_1, slTrained false w.Trained, I (w.Trained.length : Int), I t15] [some (bxWriter w)] [] trivial ?_
        refine xe_block 1 ?_
        refine xe_then ?_
        refine x_r [] [1, 2, 3, 7, 8, 13, 14, 15] [3] [Sv label, slFeat false sample, .ref 3 0, I t15, I v_1, slTrained false w.Trained, I (w.Trained.length : Int), I (t15 + 1)] [some (bxWriter w)] [inR .i64 (t15 + 1)] ⟨(inR_i64 (by omega) (by omega)), trivial⟩ ?_
        exact xe_again (t15, v_1, (t15 + 1)) rfl (show (0 ≤ (t15 + 1) ∧ (t15 + 1) ≤ (w.Trained.length : Int)) ∧ (pkS w label sample (t15 + 1).toNat = (t15, v_1)) ∧ True from ⟨(by omega), (by rw [hnx]; first | (rw [hpk]; exact hbs) | (rw [hpk, hix]) | exact hpk), trivial⟩) (by first | (show (((w.Trained.length : Int) - (t15 + 1)).toNat : Nat) < ((w.Trained.length : Int) - t15).toNat; omega) | (dsimp only; omega))
       have hpk := pk_same (c := v_1) hcvx hbs (by assumption) h6
       refine x_r [(1, .dec false), (5, .dec false)] [1, 2, 3, 7, 8, 9, 11, 13, 14, 15, 52] [3] [Sv label, slFeat false sample, .ref 3 0, I best, I least, I t15, I v_1, slTrained false w.Trained, I (w.Trained.length : Int), I t15, Bv false] [some (bxWriter w)] [¬ (best < 0), ¬ (v_1 < least)] ⟨h5, h6, trivial⟩ ?_
       refine xe_then ?_
       refine x_false rfl ?_
       refine x_skip ?_
       refine xe_block 1 ?_
       refine xe_then ?_
       refine x_r [] [1, 2, 3, 7, 8, 13, 14, 15] [3] [Sv label, slFeat false sample, .ref 3 0, I best, I least, slTrained false w.Trained, I (w.Trained.length : Int), I (t15 + 1)] [some (bxWriter w)] [inR .i64 (t15 + 1)] ⟨(inR_i64 (by omega) (by omega)), trivial⟩ ?_
       exact xe_again (best, least, (t15 + 1)) rfl (show (0 ≤ (t15 + 1) ∧ (t15 + 1) ≤ (w.Trained.length : Int)) ∧ (pkS w label sample (t15 + 1).toNat = (best, least)) ∧ True from ⟨(by omega), (by rw [hnx]; first | (rw [hpk]; exact hbs) | (rw [hpk, hix]) | exact hpk), trivial⟩) (by first | (show (((w.Trained.length : Int) - (t15 + 1)).toNat : Nat) < ((w.Trained.length : Int) - t15).toNat; omega) | (dsimp only; omega))
      have hpk := pk_no (label := label) (lrn_n3 h4)
      refine x_r [(3, .dec false), (7, .dec false), (17, .call [(true, .any), (true, .any), (true, .any)] true (Bv false))] [1, 2, 3, 7, 8, 9, 10, 13, 14, 15, 39] [3, 10] [Sv label, slFeat false sample, .ref 3 0, I best, I least, I t15, .ref 10 0, slTrained false w.Trained, I (w.Trained.length : Int), I t15, Bv true] [some (bxWriter w), some (bxTrained (at_ w.Trained t15.toNat))] [¬ (((at_ w.Trained t15.toNat).Label) ≠ label), ¬ (100 ≤ ((at_ w.Trained t15.toNat).Count)), Con Tryz.prog 69 [I w.Band, I ((((at_ w.Trained t15.toNat).Feats).length) : Int), I (sample.length : Int)] true (Bv false) ∧ True] ⟨(fun hq => hq h2), h3, ⟨(con_bool h4 (isBand_ok w.Band ((((at_ w.Trained t15.toNat).Feats).length) : Int) (sample.length : Int) (by omega) (by omega))), trivial⟩, trivial⟩ ?_
      refine xe_then ?_
      refine x_true rfl ?_
      refine x_exit ?_
      refine xe_exit_then ?_
      refine xe_exit_same ?_
      refine xe_then ?_
      refine x_r [] [1, 2, 3, 7, 8, 13, 14, 15] [3] [Sv label, slFeat false sample, .ref 3 0, I best, I least, slTrained false w.Trained, I (w.Trained.length : Int), I (t15 + 1)] [some (bxWriter w)] [inR .i64 (t15 + 1)] ⟨(inR_i64 (by omega) (by omega)), trivial⟩ ?_
      exact xe_again (best, least, (t15 + 1)) rfl (show (0 ≤ (t15 + 1) ∧ (t15 + 1) ≤ (w.Trained.length : Int)) ∧ (pkS w label sample (t15 + 1).toNat = (best, least)) ∧ True from ⟨(by omega), (by rw [hnx]; first | (rw [hpk]; exact hbs) | (rw [hpk, hix]) | exact hpk), trivial⟩) (by first | (show (((w.Trained.length : Int) - (t15 + 1)).toNat : Nat) < ((w.Trained.length : Int) - t15).toNat; omega) | (dsimp only; omega))
     have hpk := pk_no (lrn_n1 (s := sample) h2)
     refine x_r [(3, .dec true)] [1, 2, 3, 7, 8, 9, 10, 13, 14, 15, 39] [3, 10] [Sv label, slFeat false sample, .ref 3 0, I best, I least, I t15, .ref 10 0, slTrained false w.Trained, I (w.Trained.length : Int), I t15, Bv true] [some (bxWriter w), some (bxTrained (at_ w.Trained t15.toNat))] [((at_ w.Trained t15.toNat).Label) ≠ label] ⟨h2, trivial⟩ ?_
     refine xe_then ?_
     refine x_true rfl ?_
     refine x_exit ?_
     refine xe_exit_then ?_
     refine xe_exit_same ?_
     refine xe_then ?_
     refine x_r [] [1, 2, 3, 7, 8, 13, 14, 15] [3] [Sv label, slFeat false sample, .ref 3 0, I best, I least, slTrained false w.Trained, I (w.Trained.length : Int), I (t15 + 1)] [some (bxWriter w)] [inR .i64 (t15 + 1)] ⟨(inR_i64 (by omega) (by omega)), trivial⟩ ?_
     exact xe_again (best, least, (t15 + 1)) rfl (show (0 ≤ (t15 + 1) ∧ (t15 + 1) ≤ (w.Trained.length : Int)) ∧ (pkS w label sample (t15 + 1).toNat = (best, least)) ∧ True from ⟨(by omega), (by rw [hnx]; first | (rw [hpk]; exact hbs) | (rw [hpk, hix]) | exact hpk), trivial⟩) (by first | (show (((w.Trained.length : Int) - (t15 + 1)).toNat : Nat) < ((w.Trained.length : Int) - t15).toNat; omega) | (dsimp only; omega))
    have hie : t15.toNat = w.Trained.length := by omega
    refine x_r [(0, .dec false)] [1, 2, 3, 7, 8, 13, 14, 15, 16] [3] [Sv label, slFeat false sample, .ref 3 0, I best, I least, slTrained false w.Trained, I (w.Trained.length : Int), I t15, Bv false] [some (bxWriter w)] [¬ (t15 < (w.Trained.length : Int))] ⟨h1, trivial⟩ ?_
    refine xe_then ?_
    refine x_seq ?_
    refine x_false rfl ?_
    refine x_exit ?_
    refine xe_exit_then ?_
    refine xe_loop_exit ?_
    refine xe_exit_same ?_
    refine xe_then ?_
    refine xR [] [6] [] [I best] [] [] trivial ?_
    refine x_ret ?_
    refine xe_end best (show (best = pkI w label sample) ∧ (True) from ⟨(by (unfold pkI; rw [← hie, hbs])), trivial⟩) (trivial) (I best) (by kernel_rfl) (.inl rfl) (fun _ => rfl) (fun _ => trivial)
  obtain ⟨v, ⟨hh0, _⟩, hc⟩ := hh
  exact ⟨v, hh0, hc⟩


/-- Whether two lists may be matched: 0, or what is wrong. -/
def mtc (a b : List Feat) (band : Int) : Int := if okFeats a 72 = true ∧ okFeats b 72 = true then (if inB band 0 72 = true ∧ (((a.length : Int) - (b.length : Int)).natAbs : Int) ≤ band then 0 else 2) else 1
theorem mtc_ok {a b : List Feat} {band : Int} (ha : okFeats a 72 = true) (hb : okFeats b 72 = true) (h1 : 0 ≤ band ∧ band ≤ 72) (h2 : (((a.length : Int) - (b.length : Int)).natAbs : Int) ≤ band) : mtc a b band = 0 := by
  unfold mtc
  rw [if_pos ⟨ha, hb⟩, if_pos ⟨inB_iff.2 h1, h2⟩]

-- impl.matchable
theorem matchable_ok (a : List Feat) (b : List Feat) (band : Int) (hla : a.length ≤ 4611686018427387904) (hlb : b.length ≤ 4611686018427387904) : Con Tryz.prog 103 [slFeat false a, slFeat false b, I band] true (I (mtc a b band)) := by
  refine fn_ok (fn := Tryz.f103) (nt := 24) Tryz.func103 rfl rfl rfl rfl (by simp [taggedL, tagged, tagFeat]) fun B hB => ?_
  refine aw_lens (x := slFeat false a) 0 rfl (fun len_a => ?_)
  simp [LenOK, LenL, cFeat, fFeat, slFeat] at len_a
  refine aw_lens (x := slFeat false b) 1 rfl (fun len_b => ?_)
  simp [LenOK, LenL, cFeat, fFeat, slFeat] at len_b
  refine aR [] [0, 1, 2] [] [slFeat false a, slFeat false b, I band] [] [] hB trivial ?_
  refine aw_seq ?_
  refine aw_block ?_
  refine aw_seq ?_
  rcases Bool.eq_false_or_eq_true (okFeats a 72) with h1 | h1
  ·rcases Bool.eq_false_or_eq_true (okFeats b 72) with h2 | h2
   ·refine aw_r [(1, .call [(true, .any)] true (Bv true)), (5, .call [(true, .any)] true (Bv true))] [0, 1, 2, 7] [] [slFeat false a, slFeat false b, I band, Bv false] [] [Con Tryz.prog 31 [slFeat false a] true (Bv true) ∧ True, Con Tryz.prog 31 [slFeat false b] true (Bv true) ∧ True] hB ⟨⟨(con_bool h1 (ValidSeq_ok a)), trivial⟩, ⟨(con_bool h2 (ValidSeq_ok b)), trivial⟩, trivial⟩ ?_
    refine ae_then ?_
    refine aw_false rfl ?_
    refine aw_seq ?_
    rcases Bool.eq_false_or_eq_true (inB band 0 72 && decide ((((a.length : Int) - (b.length : Int)).natAbs : Int) ≤ band)) with h3 | h3
    ·refine aw_r [(5, .call [(true, .any), (true, .any), (true, .any)] true (Bv true))] [16] [] [Bv false] [] [Con Tryz.prog 69 [I band, I (a.length : Int), I (b.length : Int)] true (Bv true) ∧ True] hB ⟨⟨(con_bool h3 (isBand_ok band (a.length : Int) (b.length : Int) (by omega) (by omega))), trivial⟩, trivial⟩ ?_
     refine ae_then ?_
     refine aw_false rfl ?_
     refine aw_skip ?_
     refine ae_block 0 ?_
     refine ae_then ?_
     refine aR [] [6] [] [I 0] [] [] hB trivial ?_
     refine aw_ret ?_
     refine ae_ret hB (I 0) (by kernel_rfl) (.inl (by refine congrArg I ?_; unfold mtc; first | (simp [*]; done) | (simp_all; done) | (simp_all; omega))) rfl (fun _ => trivial)
    refine aw_r [(5, .call [(true, .any), (true, .any), (true, .any)] true (Bv false))] [16] [] [Bv true] [] [Con Tryz.prog 69 [I band, I (a.length : Int), I (b.length : Int)] true (Bv false) ∧ True] hB ⟨⟨(con_bool h3 (isBand_ok band (a.length : Int) (b.length : Int) (by omega) (by omega))), trivial⟩, trivial⟩ ?_
    refine ae_then ?_
    refine aw_true rfl ?_
    refine aR [] [6] [] [I 2] [] [] hB trivial ?_
    refine aw_ret ?_
    refine ae_ret_block (ae_ret_then ?_)
    refine ae_ret hB (I 2) (by kernel_rfl) (.inl (by refine congrArg I ?_; unfold mtc; first | (simp [*]; done) | (simp_all; done) | (simp_all; omega))) rfl (fun _ => trivial)
   refine aw_r [(1, .call [(true, .any)] true (Bv true)), (5, .call [(true, .any)] true (Bv false))] [0, 1, 2, 7] [] [slFeat false a, slFeat false b, I band, Bv true] [] [Con Tryz.prog 31 [slFeat false a] true (Bv true) ∧ True, Con Tryz.prog 31 [slFeat false b] true (Bv false) ∧ True] hB ⟨⟨(con_bool h1 (ValidSeq_ok a)), trivial⟩, ⟨(con_bool h2 (ValidSeq_ok b)), trivial⟩, trivial⟩ ?_
   refine ae_then ?_
   refine aw_true rfl ?_
   refine aR [] [6] [] [I 1] [] [] hB trivial ?_
   refine aw_ret ?_
   refine ae_ret_block (ae_ret_then ?_)
   refine ae_ret hB (I 1) (by kernel_rfl) (.inl (by refine congrArg I ?_; unfold mtc; first | (simp [*]; done) | (simp_all; done) | (simp_all; omega))) rfl (fun _ => trivial)
  refine aw_r [(1, .call [(true, .any)] true (Bv false))] [0, 1, 2, 7] [] [slFeat false a, slFeat false b, I band, Bv true] [] [Con Tryz.prog 31 [slFeat false a] true (Bv false) ∧ True] hB ⟨⟨(con_bool h1 (ValidSeq_ok a)), trivial⟩, trivial⟩ ?_
  refine ae_then ?_
  refine aw_true rfl ?_
  refine aR [] [6] [] [I 1] [] [] hB trivial ?_
  refine aw_ret ?_
  refine ae_ret_block (ae_ret_then ?_)
  refine ae_ret hB (I 1) (by kernel_rfl) (.inl (by refine congrArg I ?_; unfold mtc; first | (simp [*]; done) | (simp_all; done) | (simp_all; omega))) rfl (fun _ => trivial)


-- impl.ElasticPath
set_option maxHeartbeats 4000000 in
theorem ElasticPath_ok (a : List Feat) (b : List Feat) (band : Int) (oka : okFeats a 72 = true) (okb : okFeats b 72 = true) (hbd : 0 ≤ band ∧ band ≤ 72) (hnm : inBd band a.length b.length) : ∃ (v : List Pair) (c : Int), (v = (tot a b band).reverse) ∧ (c = 0) ∧ Con Tryz.prog 71 [slFeat false a, slFeat false b, I band] true (.tup [slPair true v, I c]) := by
  have hab := okAB_of oka okb
  have hla := hab.2.2
  have hna := okFeats_n oka
  have hnb := okFeats_n okb
  have hh : ∃ r : (List Pair) × Int, ((r.1 = (tot a b band).reverse) ∧ (r.2 = 0) ∧ (True)) ∧ CallOK Tryz.prog 71 [slFeat false a, slFeat false b, I band] (lookO []) true (.tup [slPair true r.1, I r.2]) (lookO []) := by
    refine fn_okX (Φ := fun r : (List Pair) × Int => (r.1 = (tot a b band).reverse) ∧ (r.2 = 0) ∧ (True)) [] (fun r => []) (fn := Tryz.f71) (nt := 116) Tryz.func71 rfl rfl (args := [slFeat false a, slFeat false b, I band]) rfl (allcons (.inl ⟨rfl, tagFeat false _⟩) (allcons (.inl ⟨rfl, tagFeat false _⟩) (allcons (.inl ⟨rfl, trivial⟩) allnil))) (res := fun r => .tup [slPair true r.1, I r.2]) ?_
    refine xR [] [0, 1, 2] [] [slFeat false a, slFeat false b, I band] [] [] trivial ?_
    refine x_seq ?_
    refine xR [(3, .call [(true, .any), (true, .any), (true, .any)] true (I (mtc a b band)))] [0, 1, 2, 8] [] [slFeat false a, slFeat false b, I band, I (mtc a b band)] [] [Con Tryz.prog 103 [slFeat false a, slFeat false b, I band] true (I (mtc a b band)) ∧ True] ⟨⟨(matchable_ok a b band (by omega) (by omega)), trivial⟩, trivial⟩ ?_
    refine xR [(1, .dec false)] [0, 1, 2, 8, 24] [] [slFeat false a, slFeat false b, I band, I (mtc a b band), Bv false] [] [¬ ((mtc a b band) ≠ 0)] ⟨(fun hq => hq (mtc_ok oka okb hbd hnm)), trivial⟩ ?_
    refine x_false rfl ?_
    refine x_skip ?_
    refine xe_then ?_
    refine x_seq ?_
    obtain ⟨v_1, hx1_0, hc1⟩ := costTable_ok a b band hab (by omega)
    have htb := hx1_0
    refine x_r [(3, .call [(true, .any), (true, .any), (true, .any)] true (slLI true v_1))] [0, 1, 9] [] [slFeat false a, slFeat false b, slLI true v_1] [] [Con Tryz.prog 102 [slFeat false a, slFeat false b, I band] true (slLI true v_1) ∧ True] ⟨⟨hc1, trivial⟩, trivial⟩ ?_
    refine xe_then ?_
    refine xR [] [9, 10, 11] [] [slLI true v_1, I ((a.length : Int) - 1), I ((b.length : Int) - 1)] [] [inR .i64 ((a.length : Int) - 1), inR .i64 ((b.length : Int) - 1)] ⟨(inR_i64 (by omega) (by omega)), (inR_i64 (by omega) (by omega)), trivial⟩ ?_
    refine xR [(3, .new 39)] [9, 10, 11, 12] [39] [slLI true v_1, I ((a.length : Int) - 1), I ((b.length : Int) - 1), .arr 39] [some (.arr 2 1 (litF [I ((a.length : Int) - 1), I ((b.length : Int) - 1)] 2))] [] trivial ?_
    refine x_seq ?_
    refine x_block ?_
    refine x_weak [] (T := [(9, slLI true v_1), (10, I ((a.length : Int) - 1)), (11, I ((b.length : Int) - 1)), (12, .arr 39)]) (O := [(39, tAPair ([(Pair.mk ((a.length : Int) - 1) ((b.length : Int) - 1))]))]) rfl (⟨.inl rfl, .inl rfl, .inl rfl, .inl rfl, trivial⟩) (⟨.inr ⟨rfl, (by first | rfl | (simp; done) | (simp; omega) | omega), fun i_ hi_ => .inl (match i_, hi_ with | 0, _ => rfl | (i + 1), h => absurd h (by simp))⟩, trivial⟩) ?_
    refine x_loop (X := Int × Int × (List Pair)) (fun x => mkS [(9, slLI true v_1), (10, I x.1), (11, I x.2.1), (12, .arr 39)] [(39, tAPair x.2.2)]) (fun x => (0 ≤ x.1 ∧ x.1 < (a.length : Int)) ∧ (0 ≤ x.2.1 ∧ x.2.1 < (b.length : Int)) ∧ (inBd band x.1.toNat x.2.1.toNat) ∧ (x.1 + x.2.1 + (x.2.2.length : Int) ≤ (a.length : Int) + (b.length : Int) - 1) ∧ (x.2.2 ++ (bk a b band (a.length + b.length - x.2.2.length) x.1.toNat x.2.1.toNat).tail = tot a b band) ∧ (1 ≤ x.2.2.length) ∧ True) (fun x => (x.1 + x.2.1).toNat) (((a.length : Int) - 1), ((b.length : Int) - 1), [(Pair.mk ((a.length : Int) - 1) ((b.length : Int) - 1))]) rfl (show (0 ≤ ((a.length : Int) - 1) ∧ ((a.length : Int) - 1) < (a.length : Int)) ∧ (0 ≤ ((b.length : Int) - 1) ∧ ((b.length : Int) - 1) < (b.length : Int)) ∧ (inBd band ((a.length : Int) - 1).toNat ((b.length : Int) - 1).toNat) ∧ (((a.length : Int) - 1) + ((b.length : Int) - 1) + (([(Pair.mk ((a.length : Int) - 1) ((b.length : Int) - 1))]).length : Int) ≤ (a.length : Int) + (b.length : Int) - 1) ∧ (([(Pair.mk ((a.length : Int) - 1) ((b.length : Int) - 1))]) ++ (bk a b band (a.length + b.length - ([(Pair.mk ((a.length : Int) - 1) ((b.length : Int) - 1))]).length) ((a.length : Int) - 1).toNat ((b.length : Int) - 1).toNat).tail = tot a b band) ∧ (1 ≤ ([(Pair.mk ((a.length : Int) - 1) ((b.length : Int) - 1))]).length) ∧ True from ⟨(by omega), (by omega), (by (rw [show ((a.length : Int) - 1).toNat = a.length - 1 from by omega, show ((b.length : Int) - 1).toNat = b.length - 1 from by omega]; exact inBd_end hnm hna.1 hnb.1)), (by (simp; omega)), (by exact tot_start rfl rfl hna.1 hnb.1), (by simp), trivial⟩) (fun x hI => ?_)
    obtain ⟨i, j, back⟩ := x
    obtain ⟨hi0, hj0, hbb, hsm, htt, hb1, _⟩ : (0 ≤ i ∧ i < (a.length : Int)) ∧ (0 ≤ j ∧ j < (b.length : Int)) ∧ (inBd band i.toNat j.toNat) ∧ (i + j + (back.length : Int) ≤ (a.length : Int) + (b.length : Int) - 1) ∧ (back ++ (bk a b band (a.length + b.length - back.length) i.toNat j.toNat).tail = tot a b band) ∧ (1 ≤ back.length) ∧ True := hI
    show XW _ _ _ _ (mkS [(9, slLI true v_1), (10, I i), (11, I j), (12, .arr 39)] [(39, tAPair back)]) _ _
    refine x_cut (X := Unit) (fun x => mkS [(9, slLI true v_1), (10, I i), (11, I j), (12, .arr 39)] [(39, tAPair back)]) (fun x => (¬ (i = 0 ∧ j = 0)) ∧ True) ?_ (fun x hI => ?_)
    ·refine x_seq ?_
     by_cases h1 : 0 < i
     ·refine x_r [(1, .dec true)] [9, 10, 11, 12, 45] [39] [slLI true v_1, I i, I j, .arr 39, Bv true] [some (tAPair back)] [0 < i] ⟨h1, trivial⟩ ?_
      refine xe_then ?_
      refine x_true rfl ?_
      refine x_skip ?_
      refine xe_weak [] (T := [(9, slLI true v_1), (10, I i), (11, I j), (12, .arr 39)]) (O := [(39, tAPair back)]) rfl (⟨.inl rfl, .inl rfl, .inl rfl, .inl rfl, trivial⟩) (⟨.inl rfl, trivial⟩) (xe_cut () rfl (show (¬ (i = 0 ∧ j = 0)) ∧ True from ⟨(by omega), trivial⟩))
     by_cases h2 : 0 < j
     ·refine x_r [(1, .dec false), (4, .dec true)] [9, 10, 11, 12, 45] [39] [slLI true v_1, I i, I j, .arr 39, Bv true] [some (tAPair back)] [¬ (0 < i), 0 < j] ⟨h1, h2, trivial⟩ ?_
      refine xe_then ?_
      refine x_true rfl ?_
      refine x_skip ?_
      refine xe_weak [] (T := [(9, slLI true v_1), (10, I i), (11, I j), (12, .arr 39)]) (O := [(39, tAPair back)]) rfl (⟨.inl rfl, .inl rfl, .inl rfl, .inl rfl, trivial⟩) (⟨.inl rfl, trivial⟩) (xe_cut () rfl (show (¬ (i = 0 ∧ j = 0)) ∧ True from ⟨(by omega), trivial⟩))
     have hfin := tot_end (by omega) htt
     have htn := tot_len a b band
     rw [← hfin] at htn
     refine x_r [(1, .dec false), (4, .dec false)] [9, 10, 11, 12, 45] [39] [slLI true v_1, I i, I j, .arr 39, Bv false] [some (tAPair back)] [¬ (0 < i), ¬ (0 < j)] ⟨h1, h2, trivial⟩ ?_
     refine xe_then ?_
     refine x_false rfl ?_
     refine x_exit ?_
     refine xe_cut_exit ?_
     refine xe_loop_exit ?_
     refine xe_exit_same ?_
     refine xe_then ?_
     refine xR [(2, .new 98)] [12, 16] [39, 98] [.arr 39, .arr 98] [some (tAPair back), some (.arr 2 ((back.length : Int).toNat) (fun _ => [I 0, I 0]))] [(0 : Int) ≤ (back.length : Int) ∧ ((back.length : Int) : Int) ≤ (back.length : Int) ∧ (16 : Int) * (back.length : Int) ≤ 281474976710656 ∧ (back.length : Int) ≤ 9223372036854775807] ⟨⟨(by omega), (by omega), (by omega), (by omega)⟩, trivial⟩ ?_
     refine x_seq ?_
     refine xR [] [12, 16, 99, 100, 101] [39, 98] [.arr 39, .arr 98, .arr 39, I (back.length : Int), I 0] [some (tAPair back), some (.arr 2 ((back.length : Int).toNat) (fun _ => [I 0, I 0]))] [] trivial ?_
     refine x_block ?_
     refine x_weak [] (T := [(12, .arr 39), (16, .arr 98), (99, .arr 39), (100, I (back.length : Int)), (101, I 0)]) (O := [(39, tAPair back), (98, tAPair (List.replicate ((back.length : Int).toNat) (Pair.mk 0 0)))]) rfl (⟨.inl rfl, .inl rfl, .inl rfl, .inl rfl, .inl rfl, trivial⟩) (⟨.inl rfl, .inr ⟨rfl, (by first | rfl | (simp; done) | (simp; omega) | omega), fun i_ hi_ => .inl (const_enc (enc := cPair) rfl i_ hi_)⟩, trivial⟩) ?_
     refine x_loop (X := Int × (List Pair)) (fun x => mkS [(12, .arr 39), (16, .arr 98), (99, .arr 39), (100, I (back.length : Int)), (101, I x.1)] [(39, tAPair back), (98, tAPair x.2)]) (fun x => (0 ≤ x.1 ∧ x.1 ≤ (back.length : Int)) ∧ (x.2.length = back.length ∧ ∀ q : Nat, (q : Int) < x.1 → at_ x.2 (back.length - 1 - q) = at_ back q) ∧ True) (fun x => ((back.length : Int) - x.1).toNat) (0, (List.replicate ((back.length : Int).toNat) (Pair.mk 0 0))) rfl (show (0 ≤ (0 : Int) ∧ (0 : Int) ≤ (back.length : Int)) ∧ ((List.replicate ((back.length : Int).toNat) (Pair.mk 0 0)).length = back.length ∧ ∀ q : Nat, (q : Int) < (0 : Int) → at_ (List.replicate ((back.length : Int).toNat) (Pair.mk 0 0)) (back.length - 1 - q) = at_ back q) ∧ True from ⟨(by omega), (by exact ⟨by simp, fun q hq => by omega⟩), trivial⟩) (fun x hI => ?_)
     obtain ⟨t101, ps⟩ := x
     obtain ⟨hk0, hrn, _⟩ : (0 ≤ t101 ∧ t101 ≤ (back.length : Int)) ∧ (ps.length = back.length ∧ ∀ q : Nat, (q : Int) < t101 → at_ ps (back.length - 1 - q) = at_ back q) ∧ True := hI
     show XW _ _ _ _ (mkS [(12, .arr 39), (16, .arr 98), (99, .arr 39), (100, I (back.length : Int)), (101, I t101)] [(39, tAPair back), (98, tAPair ps)]) _ _
     refine x_seq ?_
     by_cases h3 : t101 < (back.length : Int)
     ·have hk : t101.toNat < back.length := by omega
      refine x_r [(0, .dec true)] [12, 16, 99, 100, 101, 102] [39, 98] [.arr 39, .arr 98, .arr 39, I (back.length : Int), I t101, Bv true] [some (tAPair back), some (tAPair ps)] [t101 < (back.length : Int)] ⟨h3, trivial⟩ ?_
      refine xe_then ?_
      refine x_seq ?_
      refine x_true rfl ?_
      refine x_skip ?_
      refine xe_then ?_
      refine x_seq ?_
      refine x_block ?_
      refine xR [(3, .new 18)] [12, 16, 17, 18, 99, 100, 101] [18, 39, 98] [.arr 39, .arr 98, I t101, .ref 18 0, .arr 39, I (back.length : Int), I t101] [some (bxPair (at_ back t101.toNat)), some (tAPair back), some (tAPair ps)] [(0 : Int) ≤ t101 ∧ t101 < (back.length : Int), t101.toNat < back.length] ⟨⟨(by omega), (by omega)⟩, (by omega), trivial⟩ ?_
      refine x_r [] [12, 16, 99, 100, 101] [39, 98] [.arr 39, .arr 98, .arr 39, I (back.length : Int), I t101] [some (tAPair back), some (.arr 2 ps.length (fun q => bif Nat.beq q ((((back.length : Int) - 1) - t101).toNat) then [I ((at_ back t101.toNat).I), I ((at_ back t101.toNat).J)] else (fPair ps) q))] [inR .i64 ((back.length : Int) - 1), inR .i64 (((back.length : Int) - 1) - t101), (0 : Int) ≤ (((back.length : Int) - 1) - t101) ∧ (((back.length : Int) - 1) - t101) < (ps.length : Int), (((back.length : Int) - 1) - t101).toNat < ps.length] ⟨(inR_i64 (by omega) (by omega)), (inR_i64 (by omega) (by omega)), ⟨(by omega), (by omega)⟩, (by omega), trivial⟩ ?_
      refine xe_block 5 ?_
      refine xe_then ?_
      refine x_weak [] (T := [(12, .arr 39), (16, .arr 98), (99, .arr 39), (100, I (back.length : Int)), (101, I t101)]) (O := [(39, tAPair back), (98, tAPair (ps.set ((((back.length : Int) - 1) - t101).toNat) (at_ back t101.toNat)))]) rfl (⟨.inl rfl, .inl rfl, .inl rfl, .inl rfl, .inl rfl, trivial⟩) (⟨.inl rfl, .inr ⟨rfl, (by first | rfl | (simp; done) | (simp; omega) | omega), fun i_ hi_ => .inl (upd_enc (enc := cPair) rfl i_ hi_)⟩, trivial⟩) ?_
      refine x_r [] [12, 16, 99, 100, 101] [39, 98] [.arr 39, .arr 98, .arr 39, I (back.length : Int), I (t101 + 1)] [some (tAPair back), some (tAPair (ps.set ((((back.length : Int) - 1) - t101).toNat) (at_ back t101.toNat)))] [inR .i64 (t101 + 1)] ⟨(inR_i64 (by omega) (by omega)), trivial⟩ ?_
      exact xe_again ((t101 + 1), (ps.set ((((back.length : Int) - 1) - t101).toNat) (at_ back t101.toNat))) rfl (show (0 ≤ (t101 + 1) ∧ (t101 + 1) ≤ (back.length : Int)) ∧ ((ps.set ((((back.length : Int) - 1) - t101).toNat) (at_ back t101.toNat)).length = back.length ∧ ∀ q : Nat, (q : Int) < (t101 + 1) → at_ (ps.set ((((back.length : Int) - 1) - t101).toNat) (at_ back t101.toNat)) (back.length - 1 - q) = at_ back q) ∧ True from ⟨(by omega), (by exact rev_next hk0.1 hk hrn.1 hrn.2 (by first | rfl | (simp; done)) (by omega)), trivial⟩) (by first | (show (((back.length : Int) - (t101 + 1)).toNat : Nat) < ((back.length : Int) - t101).toNat; omega) | (dsimp only; omega))
     have hrv := rev_done (by omega) hrn.1 hrn.2
     rw [hfin] at hrv
     refine x_r [(0, .dec false)] [12, 16, 99, 100, 101, 102] [39, 98] [.arr 39, .arr 98, .arr 39, I (back.length : Int), I t101, Bv false] [some (tAPair back), some (tAPair ps)] [¬ (t101 < (back.length : Int))] ⟨h3, trivial⟩ ?_
     refine xe_then ?_
     refine x_seq ?_
     refine x_false rfl ?_
     refine x_exit ?_
     refine xe_exit_then ?_
     refine xe_loop_exit ?_
     refine xe_exit_same ?_
     refine xe_then ?_
     refine xR [] [6, 7] [98] [.arr 98, I 0] [some (tAPair ps)] [] trivial ?_
     refine x_ret ?_
     refine xe_end (ps, 0) (show (ps = (tot a b band).reverse) ∧ (0 = 0) ∧ (True) from ⟨(by first | exact hrv | rfl), (by first | exact hrv | rfl), trivial⟩) (trivial) (.tup [.arr 98, I 0]) (by kernel_rfl) (.inr ⟨⟨(fun _ => rfl), rfl, rfl, fun i _ => .inl rfl⟩, ⟨rfl, rfl⟩⟩) (fun _ => rfl) (fun _ => (by simp [tagged, taggedL, tagPair]))
    obtain ⟨h00, _⟩ : (¬ (i = 0 ∧ j = 0)) ∧ True := hI
    show XW _ _ _ _ (mkS [(9, slLI true v_1), (10, I i), (11, I j), (12, .arr 39)] [(39, tAPair back)]) _ _
    have hrl : 1 ≤ i → ((at_ v_1 (i - 1).toNat).length : Int) = b.length := fun q => by rw [(htb.2 (i - 1).toNat (by omega)).1]
    have hrz : ((at_ v_1 (i - 0).toNat).length : Int) = b.length := by rw [(htb.2 (i - 0).toNat (by omega)).1]
    have htl := htb.1
    refine x_block ?_
    refine xR [(3, .call [(false, slLI false v_1), (true, .any), (true, .any)] true (I (lb3 v_1 i j)))] [9, 10, 11, 12, 13] [39] [slLI true v_1, I i, I j, .arr 39, I (lb3 v_1 i j)] [some (tAPair back)] [Con Tryz.prog 104 [slLI false v_1, I i, I j] true (I (lb3 v_1 i j)) ∧ ((false = true → true = true) ∧ 1 = 1 ∧ v_1.length = v_1.length ∧ ∀ i_, i_ < v_1.length → (fLI true v_1) i_ = (fLI false v_1) i_ ∨ (AV.idsL ((fLI false v_1) i_) = [] ∧ leL (fun _ => none) false ((fLI true v_1) i_) ((fLI false v_1) i_))) ∧ True] ⟨⟨(leastBefore_ok v_1 i j (by omega) (by omega) (fun q => by have := hrl q; omega) (fun q => by rw [hrz]; omega)), ⟨(fun h => by cases h), rfl, rfl, fun i _ => .inr ⟨idsLI _ _, leLI _ _ _⟩⟩, trivial⟩, trivial⟩ ?_
    refine x_cut (X := Int × Int) (fun x => mkS [(9, slLI true v_1), (10, I x.1), (11, I x.2), (12, .arr 39)] [(39, tAPair back)]) (fun x => (isNx a b band i j x.1 x.2) ∧ True) ?_ (fun x hI => ?_)
    ·refine xR [(0, .call [] true (.agg [I 1, I 1, I 1, I 0, I 0, I 1]))] [9, 10, 11, 12, 13, 50, 51] [39] [slLI true v_1, I i, I j, .arr 39, I (lb3 v_1 i j), .agg [I 1, I 1, I 1, I 0, I 0, I 1], I 0] [some (tAPair back)] [Con Tryz.prog 105 [] true (.agg [I 1, I 1, I 1, I 0, I 0, I 1]) ∧ True] ⟨⟨(stepsBack_ok), trivial⟩, trivial⟩ ?_
     refine x_block ?_
     refine x_loop (X := Int × Int × Int) (fun x => mkS [(9, slLI true v_1), (10, I x.1), (11, I x.2.1), (12, .arr 39), (13, I (lb3 v_1 i j)), (50, .agg [I 1, I 1, I 1, I 0, I 0, I 1]), (51, I x.2.2)] [(39, tAPair back)]) (fun x => (0 ≤ x.2.2 ∧ x.2.2 ≤ 3) ∧ (i = x.1 ∧ j = x.2.1) ∧ (1 ≤ x.2.2 → ¬ (1 ≤ i ∧ 1 ≤ j ∧ at_ (at_ v_1 (i - 1).toNat) (j - 1).toNat = lb3 v_1 i j)) ∧ (2 ≤ x.2.2 → ¬ (1 ≤ i ∧ at_ (at_ v_1 (i - 1).toNat) (j - 0).toNat = lb3 v_1 i j)) ∧ (3 ≤ x.2.2 → False) ∧ True) (fun x => ((3 : Int) - x.2.2).toNat) (i, j, 0) rfl (show (0 ≤ (0 : Int) ∧ (0 : Int) ≤ 3) ∧ (i = i ∧ j = j) ∧ (1 ≤ (0 : Int) → ¬ (1 ≤ i ∧ 1 ≤ j ∧ at_ (at_ v_1 (i - 1).toNat) (j - 1).toNat = lb3 v_1 i j)) ∧ (2 ≤ (0 : Int) → ¬ (1 ≤ i ∧ at_ (at_ v_1 (i - 1).toNat) (j - 0).toNat = lb3 v_1 i j)) ∧ (3 ≤ (0 : Int) → False) ∧ True from ⟨(by omega), (by exact ⟨rfl, rfl⟩), (by exact fun q => absurd q (by decide)), (by exact fun q => absurd q (by decide)), (by exact fun q => absurd q (by decide)), trivial⟩) (fun x hI => ?_)
     obtain ⟨i', j', t51⟩ := x
     obtain ⟨ht0, hij, hno1, hno2, hno3, _⟩ : (0 ≤ t51 ∧ t51 ≤ 3) ∧ (i = i' ∧ j = j') ∧ (1 ≤ t51 → ¬ (1 ≤ i ∧ 1 ≤ j ∧ at_ (at_ v_1 (i - 1).toNat) (j - 1).toNat = lb3 v_1 i j)) ∧ (2 ≤ t51 → ¬ (1 ≤ i ∧ at_ (at_ v_1 (i - 1).toNat) (j - 0).toNat = lb3 v_1 i j)) ∧ (3 ≤ t51 → False) ∧ True := hI
     show XW _ _ _ _ (mkS [(9, slLI true v_1), (10, I i'), (11, I j'), (12, .arr 39), (13, I (lb3 v_1 i j)), (50, .agg [I 1, I 1, I 1, I 0, I 0, I 1]), (51, I t51)] [(39, tAPair back)]) _ _
     refine x_seq ?_
     by_cases h4 : t51 < 3
     ·obtain ⟨rfl, rfl⟩ := hij
      have hcs : t51 = 0 ∨ t51 = 1 ∨ t51 = 2 := by omega
      rcases hcs with rfl | rfl | rfl
      ·refine x_r [(0, .dec true)] [9, 10, 11, 12, 13, 50, 51, 52] [39] [slLI true v_1, I i, I j, .arr 39, I (lb3 v_1 i j), .agg [I 1, I 1, I 1, I 0, I 0, I 1], I 0, Bv true] [some (tAPair back)] [(0 : Int) < 3] ⟨(by decide), trivial⟩ ?_
       refine xe_then ?_
       refine x_seq ?_
       refine x_true rfl ?_
       refine x_skip ?_
       refine xe_then ?_
       refine x_seq ?_
       refine x_block ?_
       refine xR [(1, .new 15)] [9, 10, 11, 12, 13, 15, 50, 51] [15, 39] [slLI true v_1, I i, I j, .arr 39, I (lb3 v_1 i j), .ref 15 0, .agg [I 1, I 1, I 1, I 0, I 0, I 1], I 0] [some (.box [I 1, I 1]), some (tAPair back)] [(0 : Int) ≤ 0 ∧ 0 < (3 : Int)] ⟨⟨by decide, by decide⟩, trivial⟩ ?_
       refine x_seq ?_
       by_cases h5 : 1 ≤ i
       ·by_cases h6 : 1 ≤ j
        ·by_cases h7 : (at_ (at_ v_1 ((i - 1).toNat)) ((j - 1).toNat)) = (lb3 v_1 i j)
         ·have hnx := nx_1 hab htb (by omega) (by omega) hbb h00 ⟨by omega, by omega, h7⟩
          refine x_r [(3, .dec true), (8, .dec true), (25, .dec true)] [9, 10, 11, 12, 13, 15, 50, 51, 80] [15, 39] [slLI true v_1, I i, I j, .arr 39, I (lb3 v_1 i j), .ref 15 0, .agg [I 1, I 1, I 1, I 0, I 0, I 1], I 0, Bv true] [some (.box [I 1, I 1]), some (tAPair back)] [(0 : Int) ≤ 0 ∧ 0 < (2 : Int), 1 ≤ i, (0 : Int) ≤ 1 ∧ 1 < (2 : Int), 1 ≤ j, (0 : Int) ≤ 0 ∧ 0 < (2 : Int), inR .i64 (i - 1), (0 : Int) ≤ (i - 1) ∧ (i - 1) < (v_1.length : Int), (0 : Int) ≤ 1 ∧ 1 < (2 : Int), inR .i64 (j - 1), (0 : Int) ≤ (j - 1) ∧ (j - 1) < (((at_ v_1 ((i - 1).toNat)).length) : Int), (at_ (at_ v_1 ((i - 1).toNat)) ((j - 1).toNat)) = (lb3 v_1 i j)] ⟨⟨by decide, by decide⟩, h5, ⟨by decide, by decide⟩, h6, ⟨by decide, by decide⟩, (inR_i64 (by omega) (by omega)), ⟨(by omega), (by omega)⟩, ⟨by decide, by decide⟩, (inR_i64 (by omega) (by omega)), ⟨(by omega), (by omega)⟩, h7, trivial⟩ ?_
          refine xe_then ?_
          refine x_true rfl ?_
          refine xR [] [9, 10, 11, 12] [39] [slLI true v_1, I (i - 1), I (j - 1), .arr 39] [some (tAPair back)] [(0 : Int) ≤ 0 ∧ 0 < (2 : Int), inR .i64 (i - 1), (0 : Int) ≤ 1 ∧ 1 < (2 : Int), inR .i64 (j - 1)] ⟨⟨by decide, by decide⟩, (inR_i64 (by omega) (by omega)), ⟨by decide, by decide⟩, (inR_i64 (by omega) (by omega)), trivial⟩ ?_
          refine x_exit ?_
          refine xe_exit_other rfl ?_
          refine xe_exit_then ?_
          refine xe_loop_exit ?_
          refine xe_exit_same ?_
          exact xe_cut ((i - 1), (j - 1)) rfl (show (isNx a b band i j (i - 1) (j - 1)) ∧ True from ⟨(by exact hnx), trivial⟩)
         refine x_r [(3, .dec true), (8, .dec true), (25, .dec false)] [9, 10, 11, 12, 13, 15, 50, 51, 80] [15, 39] [slLI true v_1, I i, I j, .arr 39, I (lb3 v_1 i j), .ref 15 0, .agg [I 1, I 1, I 1, I 0, I 0, I 1], I 0, Bv false] [some (.box [I 1, I 1]), some (tAPair back)] [(0 : Int) ≤ 0 ∧ 0 < (2 : Int), 1 ≤ i, (0 : Int) ≤ 1 ∧ 1 < (2 : Int), 1 ≤ j, (0 : Int) ≤ 0 ∧ 0 < (2 : Int), inR .i64 (i - 1), (0 : Int) ≤ (i - 1) ∧ (i - 1) < (v_1.length : Int), (0 : Int) ≤ 1 ∧ 1 < (2 : Int), inR .i64 (j - 1), (0 : Int) ≤ (j - 1) ∧ (j - 1) < (((at_ v_1 ((i - 1).toNat)).length) : Int), ¬ ((at_ (at_ v_1 ((i - 1).toNat)) ((j - 1).toNat)) = (lb3 v_1 i j))] ⟨⟨by decide, by decide⟩, h5, ⟨by decide, by decide⟩, h6, ⟨by decide, by decide⟩, (inR_i64 (by omega) (by omega)), ⟨(by omega), (by omega)⟩, ⟨by decide, by decide⟩, (inR_i64 (by omega) (by omega)), ⟨(by omega), (by omega)⟩, h7, trivial⟩ ?_
         refine xe_then ?_
         refine x_false rfl ?_
         refine x_skip ?_
         refine xe_block 3 ?_
         refine xe_then ?_
         refine x_r [] [9, 10, 11, 12, 13, 50, 51] [39] [slLI true v_1, I i, I j, .arr 39, I (lb3 v_1 i j), .agg [I 1, I 1, I 1, I 0, I 0, I 1], I (0 + 1)] [some (tAPair back)] [inR .i64 (0 + 1)] ⟨(inR_i64 (by omega) (by omega)), trivial⟩ ?_
         exact xe_again (i, j, (0 + 1)) rfl (show (0 ≤ (0 + 1) ∧ (0 + 1) ≤ 3) ∧ (i = i ∧ j = j) ∧ (1 ≤ (0 + 1) → ¬ (1 ≤ i ∧ 1 ≤ j ∧ at_ (at_ v_1 (i - 1).toNat) (j - 1).toNat = lb3 v_1 i j)) ∧ (2 ≤ (0 + 1) → ¬ (1 ≤ i ∧ at_ (at_ v_1 (i - 1).toNat) (j - 0).toNat = lb3 v_1 i j)) ∧ (3 ≤ (0 + 1) → False) ∧ True from ⟨(by omega), (by exact ⟨rfl, rfl⟩), (by first | exact fun _ => hno1 (by omega) | exact fun _ q => absurd q.1 (by assumption) | exact fun _ q => absurd q.2.1 (by assumption) | exact fun _ q => absurd q.2.2 (by assumption)), (by first | exact fun q => absurd q (by decide) | exact fun _ => hno2 (by omega) | exact fun _ q => absurd q.1 (by assumption) | exact fun _ q => absurd q.2 (by assumption)), (by first | exact fun q => absurd q (by decide) | exact fun _ => absurd (nx_3 hab htb (by omega) (by omega) hbb h00 (hno1 (by omega)) (hno2 (by omega))).2.1 (by assumption) | exact fun _ => absurd (nx_3 hab htb (by omega) (by omega) hbb h00 (hno1 (by omega)) (hno2 (by omega))).2.2 (by assumption)), trivial⟩) (by first | (show (((3 : Int) - (0 + 1)).toNat : Nat) < ((3 : Int) - t51).toNat; omega) | (dsimp only; omega))
        refine x_r [(3, .dec true), (8, .dec false)] [9, 10, 11, 12, 13, 15, 50, 51, 80] [15, 39] [slLI true v_1, I i, I j, .arr 39, I (lb3 v_1 i j), .ref 15 0, .agg [I 1, I 1, I 1, I 0, I 0, I 1], I 0, Bv false] [some (.box [I 1, I 1]), some (tAPair back)] [(0 : Int) ≤ 0 ∧ 0 < (2 : Int), 1 ≤ i, (0 : Int) ≤ 1 ∧ 1 < (2 : Int), ¬ (1 ≤ j)] ⟨⟨by decide, by decide⟩, h5, ⟨by decide, by decide⟩, h6, trivial⟩ ?_
        refine xe_then ?_
        refine x_false rfl ?_
        refine x_skip ?_
        refine xe_block 3 ?_
        refine xe_then ?_
        refine x_r [] [9, 10, 11, 12, 13, 50, 51] [39] [slLI true v_1, I i, I j, .arr 39, I (lb3 v_1 i j), .agg [I 1, I 1, I 1, I 0, I 0, I 1], I (0 + 1)] [some (tAPair back)] [inR .i64 (0 + 1)] ⟨(inR_i64 (by omega) (by omega)), trivial⟩ ?_
        exact xe_again (i, j, (0 + 1)) rfl (show (0 ≤ (0 + 1) ∧ (0 + 1) ≤ 3) ∧ (i = i ∧ j = j) ∧ (1 ≤ (0 + 1) → ¬ (1 ≤ i ∧ 1 ≤ j ∧ at_ (at_ v_1 (i - 1).toNat) (j - 1).toNat = lb3 v_1 i j)) ∧ (2 ≤ (0 + 1) → ¬ (1 ≤ i ∧ at_ (at_ v_1 (i - 1).toNat) (j - 0).toNat = lb3 v_1 i j)) ∧ (3 ≤ (0 + 1) → False) ∧ True from ⟨(by omega), (by exact ⟨rfl, rfl⟩), (by first | exact fun _ => hno1 (by omega) | exact fun _ q => absurd q.1 (by assumption) | exact fun _ q => absurd q.2.1 (by assumption) | exact fun _ q => absurd q.2.2 (by assumption)), (by first | exact fun q => absurd q (by decide) | exact fun _ => hno2 (by omega) | exact fun _ q => absurd q.1 (by assumption) | exact fun _ q => absurd q.2 (by assumption)), (by first | exact fun q => absurd q (by decide) | exact fun _ => absurd (nx_3 hab htb (by omega) (by omega) hbb h00 (hno1 (by omega)) (hno2 (by omega))).2.1 (by assumption) | exact fun _ => absurd (nx_3 hab htb (by omega) (by omega) hbb h00 (hno1 (by omega)) (hno2 (by omega))).2.2 (by assumption)), trivial⟩) (by first | (show (((3 : Int) - (0 + 1)).toNat : Nat) < ((3 : Int) - t51).toNat; omega) | (dsimp only; omega))
       refine x_r [(3, .dec false)] [9, 10, 11, 12, 13, 15, 50, 51, 80] [15, 39] [slLI true v_1, I i, I j, .arr 39, I (lb3 v_1 i j), .ref 15 0, .agg [I 1, I 1, I 1, I 0, I 0, I 1], I 0, Bv false] [some (.box [I 1, I 1]), some (tAPair back)] [(0 : Int) ≤ 0 ∧ 0 < (2 : Int), ¬ (1 ≤ i)] ⟨⟨by decide, by decide⟩, h5, trivial⟩ ?_
       refine xe_then ?_
       refine x_false rfl ?_
       refine x_skip ?_
       refine xe_block 3 ?_
       refine xe_then ?_
       refine x_r [] [9, 10, 11, 12, 13, 50, 51] [39] [slLI true v_1, I i, I j, .arr 39, I (lb3 v_1 i j), .agg [I 1, I 1, I 1, I 0, I 0, I 1], I (0 + 1)] [some (tAPair back)] [inR .i64 (0 + 1)] ⟨(inR_i64 (by omega) (by omega)), trivial⟩ ?_
       exact xe_again (i, j, (0 + 1)) rfl (show (0 ≤ (0 + 1) ∧ (0 + 1) ≤ 3) ∧ (i = i ∧ j = j) ∧ (1 ≤ (0 + 1) → ¬ (1 ≤ i ∧ 1 ≤ j ∧ at_ (at_ v_1 (i - 1).toNat) (j - 1).toNat = lb3 v_1 i j)) ∧ (2 ≤ (0 + 1) → ¬ (1 ≤ i ∧ at_ (at_ v_1 (i - 1).toNat) (j - 0).toNat = lb3 v_1 i j)) ∧ (3 ≤ (0 + 1) → False) ∧ True from ⟨(by omega), (by exact ⟨rfl, rfl⟩), (by first | exact fun _ => hno1 (by omega) | exact fun _ q => absurd q.1 (by assumption) | exact fun _ q => absurd q.2.1 (by assumption) | exact fun _ q => absurd q.2.2 (by assumption)), (by first | exact fun q => absurd q (by decide) | exact fun _ => hno2 (by omega) | exact fun _ q => absurd q.1 (by assumption) | exact fun _ q => absurd q.2 (by assumption)), (by first | exact fun q => absurd q (by decide) | exact fun _ => absurd (nx_3 hab htb (by omega) (by omega) hbb h00 (hno1 (by omega)) (hno2 (by omega))).2.1 (by assumption) | exact fun _ => absurd (nx_3 hab htb (by omega) (by omega) hbb h00 (hno1 (by omega)) (hno2 (by omega))).2.2 (by assumption)), trivial⟩) (by first | (show (((3 : Int) - (0 + 1)).toNat : Nat) < ((3 : Int) - t51).toNat; omega) | (dsimp only; omega))
      ·refine x_r [(0, .dec true)] [9, 10, 11, 12, 13, 50, 51, 52] [39] [slLI true v_1, I i, I j, .arr 39, I (lb3 v_1 i j), .agg [I 1, I 1, I 1, I 0, I 0, I 1], I 1, Bv true] [some (tAPair back)] [(1 : Int) < 3] ⟨(by decide), trivial⟩ ?_
       refine xe_then ?_
       refine x_seq ?_
       refine x_true rfl ?_
       refine x_skip ?_
       refine xe_then ?_
       refine x_seq ?_
       refine x_block ?_
       refine xR [(1, .new 15)] [9, 10, 11, 12, 13, 15, 50, 51] [15, 39] [slLI true v_1, I i, I j, .arr 39, I (lb3 v_1 i j), .ref 15 0, .agg [I 1, I 1, I 1, I 0, I 0, I 1], I 1] [some (.box [I 1, I 0]), some (tAPair back)] [(0 : Int) ≤ 1 ∧ 1 < (3 : Int)] ⟨⟨by decide, by decide⟩, trivial⟩ ?_
       refine x_seq ?_
       by_cases h8 : 1 ≤ i
       ·by_cases h9 : (at_ (at_ v_1 ((i - 1).toNat)) ((j - 0).toNat)) = (lb3 v_1 i j)
        ·have hnx := nx_2 hab htb (by omega) (by omega) hbb h00 (hno1 (by omega)) ⟨by omega, h9⟩
         refine x_r [(3, .dec true), (8, .dec true), (25, .dec true)] [9, 10, 11, 12, 13, 15, 50, 51, 80] [15, 39] [slLI true v_1, I i, I j, .arr 39, I (lb3 v_1 i j), .ref 15 0, .agg [I 1, I 1, I 1, I 0, I 0, I 1], I 1, Bv true] [some (.box [I 1, I 0]), some (tAPair back)] [(0 : Int) ≤ 0 ∧ 0 < (2 : Int), 1 ≤ i, (0 : Int) ≤ 1 ∧ 1 < (2 : Int), 0 ≤ j, (0 : Int) ≤ 0 ∧ 0 < (2 : Int), inR .i64 (i - 1), (0 : Int) ≤ (i - 1) ∧ (i - 1) < (v_1.length : Int), (0 : Int) ≤ 1 ∧ 1 < (2 : Int), inR .i64 (j - 0), (0 : Int) ≤ (j - 0) ∧ (j - 0) < (((at_ v_1 ((i - 1).toNat)).length) : Int), (at_ (at_ v_1 ((i - 1).toNat)) ((j - 0).toNat)) = (lb3 v_1 i j)] ⟨⟨by decide, by decide⟩, h8, ⟨by decide, by decide⟩, (by omega), ⟨by decide, by decide⟩, (inR_i64 (by omega) (by omega)), ⟨(by omega), (by omega)⟩, ⟨by decide, by decide⟩, (inR_i64 (by omega) (by omega)), ⟨(by omega), (by omega)⟩, h9, trivial⟩ ?_
         refine xe_then ?_
         refine x_true rfl ?_
         refine xR [] [9, 10, 11, 12] [39] [slLI true v_1, I (i - 1), I (j - 0), .arr 39] [some (tAPair back)] [(0 : Int) ≤ 0 ∧ 0 < (2 : Int), inR .i64 (i - 1), (0 : Int) ≤ 1 ∧ 1 < (2 : Int), inR .i64 (j - 0)] ⟨⟨by decide, by decide⟩, (inR_i64 (by omega) (by omega)), ⟨by decide, by decide⟩, (inR_i64 (by omega) (by omega)), trivial⟩ ?_
         refine x_exit ?_
         refine xe_exit_other rfl ?_
         refine xe_exit_then ?_
         refine xe_loop_exit ?_
         refine xe_exit_same ?_
         exact xe_cut ((i - 1), (j - 0)) rfl (show (isNx a b band i j (i - 1) (j - 0)) ∧ True from ⟨(by exact hnx), trivial⟩)
        refine x_r [(3, .dec true), (8, .dec true), (25, .dec false)] [9, 10, 11, 12, 13, 15, 50, 51, 80] [15, 39] [slLI true v_1, I i, I j, .arr 39, I (lb3 v_1 i j), .ref 15 0, .agg [I 1, I 1, I 1, I 0, I 0, I 1], I 1, Bv false] [some (.box [I 1, I 0]), some (tAPair back)] [(0 : Int) ≤ 0 ∧ 0 < (2 : Int), 1 ≤ i, (0 : Int) ≤ 1 ∧ 1 < (2 : Int), 0 ≤ j, (0 : Int) ≤ 0 ∧ 0 < (2 : Int), inR .i64 (i - 1), (0 : Int) ≤ (i - 1) ∧ (i - 1) < (v_1.length : Int), (0 : Int) ≤ 1 ∧ 1 < (2 : Int), inR .i64 (j - 0), (0 : Int) ≤ (j - 0) ∧ (j - 0) < (((at_ v_1 ((i - 1).toNat)).length) : Int), ¬ ((at_ (at_ v_1 ((i - 1).toNat)) ((j - 0).toNat)) = (lb3 v_1 i j))] ⟨⟨by decide, by decide⟩, h8, ⟨by decide, by decide⟩, (by omega), ⟨by decide, by decide⟩, (inR_i64 (by omega) (by omega)), ⟨(by omega), (by omega)⟩, ⟨by decide, by decide⟩, (inR_i64 (by omega) (by omega)), ⟨(by omega), (by omega)⟩, h9, trivial⟩ ?_
        refine xe_then ?_
        refine x_false rfl ?_
        refine x_skip ?_
        refine xe_block 3 ?_
        refine xe_then ?_
        refine x_r [] [9, 10, 11, 12, 13, 50, 51] [39] [slLI true v_1, I i, I j, .arr 39, I (lb3 v_1 i j), .agg [I 1, I 1, I 1, I 0, I 0, I 1], I (1 + 1)] [some (tAPair back)] [inR .i64 (1 + 1)] ⟨(inR_i64 (by omega) (by omega)), trivial⟩ ?_
        exact xe_again (i, j, (1 + 1)) rfl (show (0 ≤ (1 + 1) ∧ (1 + 1) ≤ 3) ∧ (i = i ∧ j = j) ∧ (1 ≤ (1 + 1) → ¬ (1 ≤ i ∧ 1 ≤ j ∧ at_ (at_ v_1 (i - 1).toNat) (j - 1).toNat = lb3 v_1 i j)) ∧ (2 ≤ (1 + 1) → ¬ (1 ≤ i ∧ at_ (at_ v_1 (i - 1).toNat) (j - 0).toNat = lb3 v_1 i j)) ∧ (3 ≤ (1 + 1) → False) ∧ True from ⟨(by omega), (by exact ⟨rfl, rfl⟩), (by first | exact fun _ => hno1 (by omega) | exact fun _ q => absurd q.1 (by assumption) | exact fun _ q => absurd q.2.1 (by assumption) | exact fun _ q => absurd q.2.2 (by assumption)), (by first | exact fun q => absurd q (by decide) | exact fun _ => hno2 (by omega) | exact fun _ q => absurd q.1 (by assumption) | exact fun _ q => absurd q.2 (by assumption)), (by first | exact fun q => absurd q (by decide) | exact fun _ => absurd (nx_3 hab htb (by omega) (by omega) hbb h00 (hno1 (by omega)) (hno2 (by omega))).2.1 (by assumption) | exact fun _ => absurd (nx_3 hab htb (by omega) (by omega) hbb h00 (hno1 (by omega)) (hno2 (by omega))).2.2 (by assumption)), trivial⟩) (by first | (show (((3 : Int) - (1 + 1)).toNat : Nat) < ((3 : Int) - t51).toNat; omega) | (dsimp only; omega))
       refine x_r [(3, .dec false)] [9, 10, 11, 12, 13, 15, 50, 51, 80] [15, 39] [slLI true v_1, I i, I j, .arr 39, I (lb3 v_1 i j), .ref 15 0, .agg [I 1, I 1, I 1, I 0, I 0, I 1], I 1, Bv false] [some (.box [I 1, I 0]), some (tAPair back)] [(0 : Int) ≤ 0 ∧ 0 < (2 : Int), ¬ (1 ≤ i)] ⟨⟨by decide, by decide⟩, h8, trivial⟩ ?_
       refine xe_then ?_
       refine x_false rfl ?_
       refine x_skip ?_
       refine xe_block 3 ?_
       refine xe_then ?_
       refine x_r [] [9, 10, 11, 12, 13, 50, 51] [39] [slLI true v_1, I i, I j, .arr 39, I (lb3 v_1 i j), .agg [I 1, I 1, I 1, I 0, I 0, I 1], I (1 + 1)] [some (tAPair back)] [inR .i64 (1 + 1)] ⟨(inR_i64 (by omega) (by omega)), trivial⟩ ?_
       exact xe_again (i, j, (1 + 1)) rfl (show (0 ≤ (1 + 1) ∧ (1 + 1) ≤ 3) ∧ (i = i ∧ j = j) ∧ (1 ≤ (1 + 1) → ¬ (1 ≤ i ∧ 1 ≤ j ∧ at_ (at_ v_1 (i - 1).toNat) (j - 1).toNat = lb3 v_1 i j)) ∧ (2 ≤ (1 + 1) → ¬ (1 ≤ i ∧ at_ (at_ v_1 (i - 1).toNat) (j - 0).toNat = lb3 v_1 i j)) ∧ (3 ≤ (1 + 1) → False) ∧ True from ⟨(by omega), (by exact ⟨rfl, rfl⟩), (by first | exact fun _ => hno1 (by omega) | exact fun _ q => absurd q.1 (by assumption) | exact fun _ q => absurd q.2.1 (by assumption) | exact fun _ q => absurd q.2.2 (by assumption)), (by first | exact fun q => absurd q (by decide) | exact fun _ => hno2 (by omega) | exact fun _ q => absurd q.1 (by assumption) | exact fun _ q => absurd q.2 (by assumption)), (by first | exact fun q => absurd q (by decide) | exact fun _ => absurd (nx_3 hab htb (by omega) (by omega) hbb h00 (hno1 (by omega)) (hno2 (by omega))).2.1 (by assumption) | exact fun _ => absurd (nx_3 hab htb (by omega) (by omega) hbb h00 (hno1 (by omega)) (hno2 (by omega))).2.2 (by assumption)), trivial⟩) (by first | (show (((3 : Int) - (1 + 1)).toNat : Nat) < ((3 : Int) - t51).toNat; omega) | (dsimp only; omega))
      ·refine x_r [(0, .dec true)] [9, 10, 11, 12, 13, 50, 51, 52] [39] [slLI true v_1, I i, I j, .arr 39, I (lb3 v_1 i j), .agg [I 1, I 1, I 1, I 0, I 0, I 1], I 2, Bv true] [some (tAPair back)] [(2 : Int) < 3] ⟨(by decide), trivial⟩ ?_
       refine xe_then ?_
       refine x_seq ?_
       refine x_true rfl ?_
       refine x_skip ?_
       refine xe_then ?_
       refine x_seq ?_
       refine x_block ?_
       refine xR [(1, .new 15)] [9, 10, 11, 12, 13, 15, 50, 51] [15, 39] [slLI true v_1, I i, I j, .arr 39, I (lb3 v_1 i j), .ref 15 0, .agg [I 1, I 1, I 1, I 0, I 0, I 1], I 2] [some (.box [I 0, I 1]), some (tAPair back)] [(0 : Int) ≤ 2 ∧ 2 < (3 : Int)] ⟨⟨by decide, by decide⟩, trivial⟩ ?_
       refine x_seq ?_
       by_cases h10 : 1 ≤ j
       ·by_cases h11 : (at_ (at_ v_1 ((i - 0).toNat)) ((j - 1).toNat)) = (lb3 v_1 i j)
        ·have hnx := (nx_3 hab htb (by omega) (by omega) hbb h00 (hno1 (by omega)) (hno2 (by omega))).1
         refine x_r [(3, .dec true), (8, .dec true), (25, .dec true)] [9, 10, 11, 12, 13, 15, 50, 51, 80] [15, 39] [slLI true v_1, I i, I j, .arr 39, I (lb3 v_1 i j), .ref 15 0, .agg [I 1, I 1, I 1, I 0, I 0, I 1], I 2, Bv true] [some (.box [I 0, I 1]), some (tAPair back)] [(0 : Int) ≤ 0 ∧ 0 < (2 : Int), 0 ≤ i, (0 : Int) ≤ 1 ∧ 1 < (2 : Int), 1 ≤ j, (0 : Int) ≤ 0 ∧ 0 < (2 : Int), inR .i64 (i - 0), (0 : Int) ≤ (i - 0) ∧ (i - 0) < (v_1.length : Int), (0 : Int) ≤ 1 ∧ 1 < (2 : Int), inR .i64 (j - 1), (0 : Int) ≤ (j - 1) ∧ (j - 1) < (((at_ v_1 ((i - 0).toNat)).length) : Int), (at_ (at_ v_1 ((i - 0).toNat)) ((j - 1).toNat)) = (lb3 v_1 i j)] ⟨⟨by decide, by decide⟩, (by omega), ⟨by decide, by decide⟩, h10, ⟨by decide, by decide⟩, (inR_i64 (by omega) (by omega)), ⟨(by omega), (by omega)⟩, ⟨by decide, by decide⟩, (inR_i64 (by omega) (by omega)), ⟨(by omega), (by omega)⟩, h11, trivial⟩ ?_
         refine xe_then ?_
         refine x_true rfl ?_
         refine xR [] [9, 10, 11, 12] [39] [slLI true v_1, I (i - 0), I (j - 1), .arr 39] [some (tAPair back)] [(0 : Int) ≤ 0 ∧ 0 < (2 : Int), inR .i64 (i - 0), (0 : Int) ≤ 1 ∧ 1 < (2 : Int), inR .i64 (j - 1)] ⟨⟨by decide, by decide⟩, (inR_i64 (by omega) (by omega)), ⟨by decide, by decide⟩, (inR_i64 (by omega) (by omega)), trivial⟩ ?_
         refine x_exit ?_
         refine xe_exit_other rfl ?_
         refine xe_exit_then ?_
         refine xe_loop_exit ?_
         refine xe_exit_same ?_
         exact xe_cut ((i - 0), (j - 1)) rfl (show (isNx a b band i j (i - 0) (j - 1)) ∧ True from ⟨(by exact hnx), trivial⟩)
        refine x_r [(3, .dec true), (8, .dec true), (25, .dec false)] [9, 10, 11, 12, 13, 15, 50, 51, 80] [15, 39] [slLI true v_1, I i, I j, .arr 39, I (lb3 v_1 i j), .ref 15 0, .agg [I 1, I 1, I 1, I 0, I 0, I 1], I 2, Bv false] [some (.box [I 0, I 1]), some (tAPair back)] [(0 : Int) ≤ 0 ∧ 0 < (2 : Int), 0 ≤ i, (0 : Int) ≤ 1 ∧ 1 < (2 : Int), 1 ≤ j, (0 : Int) ≤ 0 ∧ 0 < (2 : Int), inR .i64 (i - 0), (0 : Int) ≤ (i - 0) ∧ (i - 0) < (v_1.length : Int), (0 : Int) ≤ 1 ∧ 1 < (2 : Int), inR .i64 (j - 1), (0 : Int) ≤ (j - 1) ∧ (j - 1) < (((at_ v_1 ((i - 0).toNat)).length) : Int), ¬ ((at_ (at_ v_1 ((i - 0).toNat)) ((j - 1).toNat)) = (lb3 v_1 i j))] ⟨⟨by decide, by decide⟩, (by omega), ⟨by decide, by decide⟩, h10, ⟨by decide, by decide⟩, (inR_i64 (by omega) (by omega)), ⟨(by omega), (by omega)⟩, ⟨by decide, by decide⟩, (inR_i64 (by omega) (by omega)), ⟨(by omega), (by omega)⟩, h11, trivial⟩ ?_
        refine xe_then ?_
        refine x_false rfl ?_
        refine x_skip ?_
        refine xe_block 3 ?_
        refine xe_then ?_
        refine x_r [] [9, 10, 11, 12, 13, 50, 51] [39] [slLI true v_1, I i, I j, .arr 39, I (lb3 v_1 i j), .agg [I 1, I 1, I 1, I 0, I 0, I 1], I (2 + 1)] [some (tAPair back)] [inR .i64 (2 + 1)] ⟨(inR_i64 (by omega) (by omega)), trivial⟩ ?_
        exact xe_again (i, j, (2 + 1)) rfl (show (0 ≤ (2 + 1) ∧ (2 + 1) ≤ 3) ∧ (i = i ∧ j = j) ∧ (1 ≤ (2 + 1) → ¬ (1 ≤ i ∧ 1 ≤ j ∧ at_ (at_ v_1 (i - 1).toNat) (j - 1).toNat = lb3 v_1 i j)) ∧ (2 ≤ (2 + 1) → ¬ (1 ≤ i ∧ at_ (at_ v_1 (i - 1).toNat) (j - 0).toNat = lb3 v_1 i j)) ∧ (3 ≤ (2 + 1) → False) ∧ True from ⟨(by omega), (by exact ⟨rfl, rfl⟩), (by first | exact fun _ => hno1 (by omega) | exact fun _ q => absurd q.1 (by assumption) | exact fun _ q => absurd q.2.1 (by assumption) | exact fun _ q => absurd q.2.2 (by assumption)), (by first | exact fun q => absurd q (by decide) | exact fun _ => hno2 (by omega) | exact fun _ q => absurd q.1 (by assumption) | exact fun _ q => absurd q.2 (by assumption)), (by first | exact fun q => absurd q (by decide) | exact fun _ => absurd (nx_3 hab htb (by omega) (by omega) hbb h00 (hno1 (by omega)) (hno2 (by omega))).2.1 (by assumption) | exact fun _ => absurd (nx_3 hab htb (by omega) (by omega) hbb h00 (hno1 (by omega)) (hno2 (by omega))).2.2 (by assumption)), trivial⟩) (by first | (show (((3 : Int) - (2 + 1)).toNat : Nat) < ((3 : Int) - t51).toNat; omega) | (dsimp only; omega))
       refine x_r [(3, .dec true), (8, .dec false)] [9, 10, 11, 12, 13, 15, 50, 51, 80] [15, 39] [slLI true v_1, I i, I j, .arr 39, I (lb3 v_1 i j), .ref 15 0, .agg [I 1, I 1, I 1, I 0, I 0, I 1], I 2, Bv false] [some (.box [I 0, I 1]), some (tAPair back)] [(0 : Int) ≤ 0 ∧ 0 < (2 : Int), 0 ≤ i, (0 : Int) ≤ 1 ∧ 1 < (2 : Int), ¬ (1 ≤ j)] ⟨⟨by decide, by decide⟩, (by omega), ⟨by decide, by decide⟩, h10, trivial⟩ ?_
       refine xe_then ?_
       refine x_false rfl ?_
       refine x_skip ?_
       refine xe_block 3 ?_
       refine xe_then ?_
       refine x_r [] [9, 10, 11, 12, 13, 50, 51] [39] [slLI true v_1, I i, I j, .arr 39, I (lb3 v_1 i j), .agg [I 1, I 1, I 1, I 0, I 0, I 1], I (2 + 1)] [some (tAPair back)] [inR .i64 (2 + 1)] ⟨(inR_i64 (by omega) (by omega)), trivial⟩ ?_
       exact xe_again (i, j, (2 + 1)) rfl (show (0 ≤ (2 + 1) ∧ (2 + 1) ≤ 3) ∧ (i = i ∧ j = j) ∧ (1 ≤ (2 + 1) → ¬ (1 ≤ i ∧ 1 ≤ j ∧ at_ (at_ v_1 (i - 1).toNat) (j - 1).toNat = lb3 v_1 i j)) ∧ (2 ≤ (2 + 1) → ¬ (1 ≤ i ∧ at_ (at_ v_1 (i - 1).toNat) (j - 0).toNat = lb3 v_1 i j)) ∧ (3 ≤ (2 + 1) → False) ∧ True from ⟨(by omega), (by exact ⟨rfl, rfl⟩), (by first | exact fun _ => hno1 (by omega) | exact fun _ q => absurd q.1 (by assumption) | exact fun _ q => absurd q.2.1 (by assumption) | exact fun _ q => absurd q.2.2 (by assumption)), (by first | exact fun q => absurd q (by decide) | exact fun _ => hno2 (by omega) | exact fun _ q => absurd q.1 (by assumption) | exact fun _ q => absurd q.2 (by assumption)), (by first | exact fun q => absurd q (by decide) | exact fun _ => absurd (nx_3 hab htb (by omega) (by omega) hbb h00 (hno1 (by omega)) (hno2 (by omega))).2.1 (by assumption) | exact fun _ => absurd (nx_3 hab htb (by omega) (by omega) hbb h00 (hno1 (by omega)) (hno2 (by omega))).2.2 (by assumption)), trivial⟩) (by first | (show (((3 : Int) - (2 + 1)).toNat : Nat) < ((3 : Int) - t51).toNat; omega) | (dsimp only; omega))
     exact (hno3 (by omega)).elim
    obtain ⟨i2, j2⟩ := x
    obtain ⟨hnx, _⟩ : (isNx a b band i j i2 j2) ∧ True := hI
    show XW _ _ _ _ (mkS [(9, slLI true v_1), (10, I i2), (11, I j2), (12, .arr 39)] [(39, tAPair back)]) _ _
    have hgo := (nx_go hab (by omega) (by omega) hbb h00 hnx (s := 0)).1
    have hr1 := hnx.1
    have hr2 := hnx.2.1
    have htx := tot_next hab (by omega) (by omega) hbb h00 hnx hsm htt
    refine x_r [(4, .new 94), (5, .new 95)] [9, 10, 11, 12] [95] [slLI true v_1, I i2, I j2, .arr 95] [some (.arr 2 (back.length + 1) (catF back.length (fPair back) (litF [I i2, I j2] 2)))] [(back.length + 1) * 16 ≤ 140737488355328] ⟨(by omega), trivial⟩ ?_
    refine xe_block 1 ?_
    refine xe_weak [(39, 95)] (T := [(9, slLI true v_1), (10, I i2), (11, I j2), (12, .arr 39)]) (O := [(39, tAPair (back ++ [(Pair.mk i2 j2)]))]) rfl (⟨.inl rfl, .inl rfl, .inl rfl, .inl rfl, trivial⟩) (⟨.inr ⟨rfl, (by first | rfl | (simp; done) | (simp; omega) | omega), fun i_ hi_ => .inl (cat_snoc (enc := cPair) (xs := back) rfl i_ hi_)⟩, trivial⟩) (xe_again (i2, j2, (back ++ [(Pair.mk i2 j2)])) rfl (show (0 ≤ i2 ∧ i2 < (a.length : Int)) ∧ (0 ≤ j2 ∧ j2 < (b.length : Int)) ∧ (inBd band i2.toNat j2.toNat) ∧ (i2 + j2 + ((back ++ [(Pair.mk i2 j2)]).length : Int) ≤ (a.length : Int) + (b.length : Int) - 1) ∧ ((back ++ [(Pair.mk i2 j2)]) ++ (bk a b band (a.length + b.length - (back ++ [(Pair.mk i2 j2)]).length) i2.toNat j2.toNat).tail = tot a b band) ∧ (1 ≤ (back ++ [(Pair.mk i2 j2)]).length) ∧ True from ⟨(by omega), (by omega), (by exact hgo.1), (by (simp; omega)), (by exact htx), (by (simp)), trivial⟩) (by first | (show ((i2 + j2).toNat : Nat) < (i + j).toNat; omega) | (dsimp only; omega)))
  obtain ⟨⟨v, c⟩, ⟨hh0, hh1, _⟩, hc⟩ := hh
  exact ⟨v, c, hh0, hh1, hc⟩


-- impl.Feat]
theorem cloneF0_ok (s : List Feat) (hl : s.length ≤ 100000) : ∃ (out : List Feat), (out = s) ∧ CallOK Tryz.prog 36 [slFeat false s] (lookO []) false (.arr 8311) (lookO [(8311, .arr 3 out.length (fFeat out))]) := by
  refine ⟨s, rfl, ?_⟩
  refine fn_okL [] [(8311, .arr 3 s.length (fFeat s))] (fn := Tryz.f36) (nt := 8) Tryz.func36 rfl rfl (args := [slFeat false s]) rfl (allcons (.inl ⟨rfl, tagFeat false _⟩) allnil) (res := .arr 8311) (fun B hB => ?_)
  refine aw_seq ?_
  refine aw_reg [] [0] [] [slFeat false s] [] [] (by kernel_rfl) hB trivial ?_
  refine ae_then ?_
  refine aw_seq ?_
  refine aw_seq ?_
  refine aw_reg [] [0, 4] [] [slFeat false s, .nilq s.length] [] [] (by kernel_rfl) hB trivial ?_
  refine ae_then ?_
  refine aw_nilq (n := s.length) rfl (fun h1 => ?_) ?_
  · refine aw_seq ?_
    refine aw_reg [] [2] [] [nilA] [] [] (by kernel_rfl) hB trivial ?_
    refine ae_then ?_
    refine aw_ret ?_
    refine ae_ret_then ?_
    refine ae_nil hB 2 8311 3 (fun _ => []) (by kernel_rfl) ?_
    refine ae_weak hB [] (T := [(2, .arr 8311)]) (O := [(8311, .arr 3 s.length (fFeat s))]) rfl (⟨.inl rfl, trivial⟩) (⟨.inr ⟨rfl, (by omega), fun i_ hi_ => absurd hi_ (by omega)⟩, trivial⟩) ?_
    refine ae_retL hB [(8311, .arr 3 s.length (fFeat s))] (⟨.inl rfl, trivial⟩) (.arr 8311) (by kernel_rfl) (.inl rfl) (fun h => by cases h) (fun h => by cases h)
  · refine aw_skip ?_
    refine ae_then ?_
    refine aw_seq ?_
    refine aw_reg [(0, .new 5), (2, .new 7)] [2] [7] [.arr 7] [some (.arr 3 (0 + s.length) (catF 0 (litF [] 3) (fFeat s)))] [(0 + s.length) * 24 ≤ 140737488355328] (by kernel_rfl) hB ⟨(by omega), trivial⟩ ?_
    refine ae_then ?_
    refine aw_ret ?_
    refine ae_weak hB [(8311, 7)] (T := [(2, .arr 8311)]) (O := [(8311, .arr 3 s.length (fFeat s))]) rfl (⟨.inl rfl, trivial⟩) (⟨.inr ⟨rfl, (by simp), fun i_ hi_ => .inl (cat_nil i_)⟩, trivial⟩) ?_
    refine ae_retL hB [(8311, .arr 3 s.length (fFeat s))] (⟨.inl rfl, trivial⟩) (.arr 8311) (by kernel_rfl) (.inl rfl) (fun h => by cases h) (fun h => by cases h)

theorem cloneF1_ok (s : List Feat) (hl : s.length ≤ 100000) : ∃ (out : List Feat), (out = s) ∧ CallOK Tryz.prog 36 [slFeat false s] (lookO []) false (.arr 8312) (lookO [(8312, .arr 3 out.length (fFeat out))]) := by
  refine ⟨s, rfl, ?_⟩
  refine fn_okL [] [(8312, .arr 3 s.length (fFeat s))] (fn := Tryz.f36) (nt := 8) Tryz.func36 rfl rfl (args := [slFeat false s]) rfl (allcons (.inl ⟨rfl, tagFeat false _⟩) allnil) (res := .arr 8312) (fun B hB => ?_)
  refine aw_seq ?_
  refine aw_reg [] [0] [] [slFeat false s] [] [] (by kernel_rfl) hB trivial ?_
  refine ae_then ?_
  refine aw_seq ?_
  refine aw_seq ?_
  refine aw_reg [] [0, 4] [] [slFeat false s, .nilq s.length] [] [] (by kernel_rfl) hB trivial ?_
  refine ae_then ?_
  refine aw_nilq (n := s.length) rfl (fun h1 => ?_) ?_
  · refine aw_seq ?_
    refine aw_reg [] [2] [] [nilA] [] [] (by kernel_rfl) hB trivial ?_
    refine ae_then ?_
    refine aw_ret ?_
    refine ae_ret_then ?_
    refine ae_nil hB 2 8312 3 (fun _ => []) (by kernel_rfl) ?_
    refine ae_weak hB [] (T := [(2, .arr 8312)]) (O := [(8312, .arr 3 s.length (fFeat s))]) rfl (⟨.inl rfl, trivial⟩) (⟨.inr ⟨rfl, (by omega), fun i_ hi_ => absurd hi_ (by omega)⟩, trivial⟩) ?_
    refine ae_retL hB [(8312, .arr 3 s.length (fFeat s))] (⟨.inl rfl, trivial⟩) (.arr 8312) (by kernel_rfl) (.inl rfl) (fun h => by cases h) (fun h => by cases h)
  · refine aw_skip ?_
    refine ae_then ?_
    refine aw_seq ?_
    refine aw_reg [(0, .new 5), (2, .new 7)] [2] [7] [.arr 7] [some (.arr 3 (0 + s.length) (catF 0 (litF [] 3) (fFeat s)))] [(0 + s.length) * 24 ≤ 140737488355328] (by kernel_rfl) hB ⟨(by omega), trivial⟩ ?_
    refine ae_then ?_
    refine aw_ret ?_
    refine ae_weak hB [(8312, 7)] (T := [(2, .arr 8312)]) (O := [(8312, .arr 3 s.length (fFeat s))]) rfl (⟨.inl rfl, trivial⟩) (⟨.inr ⟨rfl, (by simp), fun i_ hi_ => .inl (cat_nil i_)⟩, trivial⟩) ?_
    refine ae_retL hB [(8312, .arr 3 s.length (fFeat s))] (⟨.inl rfl, trivial⟩) (.arr 8312) (by kernel_rfl) (.inl rfl) (fun h => by cases h) (fun h => by cases h)


-- slices.Sort[[]int64,int64]
theorem sort_ok (list : List Int) (hl : list.length < 4611686018427387904) : ∃ (list' : List Int), (list' = sortL list) ∧ CallOK Tryz.prog 106 [.arr 7201] (lookO [(7201, .arr 1 list.length (fI list))]) false (.tup []) (lookO [(7201, .arr 1 list'.length (fI list'))]) :=
  ⟨sortL list, rfl, sort_callOK (fun blk off cap zs w h1 h2 h3 => AnyG.slices_Sort_int Tryz.laysSort blk off cap zs w h1 h2 h3) (fun p cap w => AnyG.slices_Sort_int_none Tryz.laysSort p cap w) 7201 list hl⟩


-- impl.medianOf
theorem medianOf_ok (list : List Int) (hl : 1 ≤ list.length ∧ list.length ≤ 1000) : ∃ (v : Int) (list' : List Int), (v = medI list) ∧ CallOK Tryz.prog 73 [.arr 7201] (lookO [(7201, tAI list)]) true (I v) (lookO [(7201, tAI list')]) := by
  have hh : ∃ r : Int × (List Int), ((r.1 = medI list) ∧ (True)) ∧ CallOK Tryz.prog 73 [.arr 7201] (lookO [(7201, tAI list)]) true (I r.1) (lookO [(7201, tAI r.2)]) := by
    refine fn_okX (Φ := fun r : Int × (List Int) => (r.1 = medI list) ∧ (True)) [(7201, tAI list)] (fun r => [(7201, tAI r.2)]) (fn := Tryz.f73) (nt := 12) Tryz.func73 rfl rfl (args := [.arr 7201]) rfl (allcons (.inr trivial) allnil) (res := fun r => I r.1) ?_
    refine xR [] [0] [7201] [.arr 7201] [some (tAI list)] [] trivial ?_
    refine x_seq ?_
    obtain ⟨list'_1, hx1_0, hc1⟩ := sort_ok list (by omega)
    have hsl : list'_1.length = list.length := by rw [hx1_0, sortL_len]
    refine x_r [(1, .lend [(7201, tAI list, tAI list'_1)] [] [(true, .any)] false (.tup []))] [0] [7201] [.arr 7201] [some (tAI list'_1)] [CallOK Tryz.prog 106 [.arr 7201] (lookO [(7201, tAI list)]) false (.tup []) (lookO [(7201, tAI list'_1)]) ∧ (((tAI list : Ob) = tAI list ∨ obLe noOb true (tAI list) (tAI list)) ∧ taggedO false (tAI list)) ∧ True] ⟨⟨hc1, ⟨.inl rfl, fun _ _ => tagcI false _⟩, trivial⟩, trivial⟩ ?_
    refine xe_then ?_
    refine xR [(4, .nn)] [2] [7201] [I (at_ list'_1 ((((list'_1.length : Int) - 1) / 2).toNat))] [some (tAI list'_1)] [inR .i64 ((list'_1.length : Int) - 1), (0 : Int) ≤ ((list'_1.length : Int) - 1) ∧ (0 : Int) < 2 ∧ inR .i64 ((list'_1.length : Int) - 1), (0 : Int) ≤ (((list'_1.length : Int) - 1) / 2) ∧ (((list'_1.length : Int) - 1) / 2) < (list'_1.length : Int), (((list'_1.length : Int) - 1) / 2).toNat < list'_1.length] ⟨(inR_i64 (by omega) (by omega)), ⟨(by omega), (by omega), (inR_i64 (by omega) (by omega))⟩, ⟨(by omega), (by omega)⟩, (by omega), trivial⟩ ?_
    refine x_ret ?_
    refine xe_end ((at_ list'_1 ((((list'_1.length : Int) - 1) / 2).toNat)), list'_1) (show ((at_ list'_1 ((((list'_1.length : Int) - 1) / 2).toNat)) = medI list) ∧ (True) from ⟨(by rw [hx1_0]; unfold medI; congr 1; rw [sortL_len]; omega), trivial⟩) (⟨.inl rfl, trivial⟩) (I (at_ list'_1 ((((list'_1.length : Int) - 1) / 2).toNat))) (by kernel_rfl) (.inl rfl) (fun _ => rfl) (fun _ => trivial)
  obtain ⟨⟨v, list'⟩, ⟨hh0, _⟩, hc⟩ := hh
  exact ⟨v, list', hh0, hc⟩


-- impl.towards
theorem towards_ok (x : Int) (m : Int) (base : Int) (share : Int) (hx : 0 ≤ x ∧ x ≤ 4095) (hm : 0 ≤ m ∧ m ≤ 4095) (hb : 0 ≤ base ∧ base ≤ 4095) (hs : 0 ≤ share ∧ share ≤ 100) : Con Tryz.prog 72 [I x, I m, I base, I share] true (I (towI x m base share)) := by
  have hq := tdiv_bd ((m - x) * share) 100
  have hml := Int.mul_le_mul_of_nonneg_right (show m - x ≤ 4095 by omega) hs.1
  have hmg := Int.mul_le_mul_of_nonneg_right (show -4095 ≤ m - x by omega) hs.1
  refine fn_ok (fn := Tryz.f72) (nt := 23) Tryz.func72 rfl rfl rfl rfl (by simp [taggedL, tagged]) fun B hB => ?_
  refine aR [] [0, 1, 2, 3] [] [I x, I m, I base, I share] [] [] hB trivial ?_
  refine aR [] [8] [] [I (min (max (x + (Int.tdiv ((m - x) * share) 100)) (base - 40)) (base + 40))] [] [inR .i64 (m - x), inR .i64 ((m - x) * share), (100 : Int) ≠ 0 ∧ inR .i64 (Int.tdiv ((m - x) * share) 100), inR .i64 (x + (Int.tdiv ((m - x) * share) 100)), inR .i64 (base - 40), inR .i64 (base + 40)] hB ⟨(inR_i64 (by omega) (by omega)), (inR_i64 (by omega) (by omega)), ⟨by omega, (inR_i64 (by omega) (by omega))⟩, (inR_i64 (by omega) (by omega)), (inR_i64 (by omega) (by omega)), (inR_i64 (by omega) (by omega)), trivial⟩ ?_
  refine aw_ret ?_
  refine ae_ret hB (I (min (max (x + (Int.tdiv ((m - x) * share) 100)) (base - 40)) (base + 40))) (by kernel_rfl) (.inl (by refine congrArg I ?_; unfold towI; first | rfl | omega)) rfl (fun _ => trivial)


-- impl.adapted
set_option maxHeartbeats 4000000 in
theorem adapted_ok (t : Trained) (sample : List Feat) (band : Int) (share : Int) (okt : okTrained' t = true) (oks : okFeats sample 72 = true) (hbd : 0 ≤ band ∧ band ≤ 72) (hnm : inBd band t.Feats.length sample.length) (hsh : 0 ≤ share ∧ share ≤ 100) (hct : t.Count < 100) : ∃ (v : Trained), (v = adpT t sample band share) ∧ Con Tryz.prog 35 [agTrained t, slFeat false sample, I band, I share] true (agTrainedT v) := by
  have oka := (okTr_iff.1 okt).2.2.1
  have okb := (okTr_iff.1 okt).2.1
  have hlen := (okTr_iff.1 okt).2.2.2.1.1
  have hcn := inB_iff.1 (okTr_iff.1 okt).2.2.2.2
  have hna := okFeats_n oka
  have hns := okFeats_n oks
  have hpl := path_bd oka oks band
  have hh : ∃ r : Trained, ((r = adpT t sample band share) ∧ (True)) ∧ CallOK Tryz.prog 35 [agTrained t, slFeat false sample, I band, I share] (lookO []) true (agTrainedT r) (lookO []) := by
    refine fn_okX (Φ := fun r : Trained => (r = adpT t sample band share) ∧ (True)) [] (fun r => []) (fn := Tryz.f35) (nt := 132) Tryz.func35 rfl rfl (args := [agTrained t, slFeat false sample, I band, I share]) rfl (allcons (.inl ⟨rfl, by simp [tagged, taggedL, tagFeat]⟩) (allcons (.inl ⟨rfl, tagFeat false _⟩) (allcons (.inl ⟨rfl, trivial⟩) (allcons (.inl ⟨rfl, trivial⟩) allnil)))) (res := fun r => agTrainedT r) ?_
    refine xR [(0, .new 4), (1, .new 8)] [1, 2, 3, 4, 8] [4, 8] [slFeat false sample, I band, I share, .ref 4 0, .ref 8 0] [some (bxTrained t), some (.box [Sv (⟨#[]⟩ : ByteArray), nilA, nilA, I 0])] [] trivial ?_
    refine x_seq ?_
    obtain ⟨v_1, c_1, hx1_0, hx1_1, hc1⟩ := ElasticPath_ok t.Feats sample band oka oks hbd hnm
    have hpv : v_1 = pathOf t.Feats sample band := hx1_0
    have hpl : v_1.length ≤ 145 := by rw [hpv]; exact path_bd oka oks band
    have hpa : ∀ k, k < v_1.length → (0 ≤ (at_ v_1 k).I ∧ (at_ v_1 k).I < (t.Feats.length : Int)) ∧ 0 ≤ (at_ v_1 k).J ∧ (at_ v_1 k).J < (sample.length : Int) := by rw [hpv]; exact fun k hk => path_at oka oks hk
    have hxp : ∀ (f : Feat → Int) (i : Nat), i < t.Feats.length → 1 ≤ (xsF f v_1 sample i).length ∧ (xsF f v_1 sample i).length ≤ 145 := by rw [hpv]; exact fun f i hi => xs_pos oka oks hnm f hi
    have hmX : ∀ i : Nat, i < t.Feats.length → 0 ≤ medI (xsF Feat.X v_1 sample i) ∧ medI (xsF Feat.X v_1 sample i) ≤ 255 := by rw [hpv]; exact fun i hi => med_bd oka oks hnm okF_X hi
    have hmY : ∀ i : Nat, i < t.Feats.length → 0 ≤ medI (xsF Feat.Y v_1 sample i) ∧ medI (xsF Feat.Y v_1 sample i) ≤ 255 := by rw [hpv]; exact fun i hi => med_bd oka oks hnm okF_Y hi
    have had : ∀ i : Nat, adpF t sample band share i = ⟨towI (at_ t.Feats i).X (medI (xsF Feat.X v_1 sample i)) (at_ t.Base i).X share, towI (at_ t.Feats i).Y (medI (xsF Feat.Y v_1 sample i)) (at_ t.Base i).Y share, (at_ t.Feats i).D⟩ := by rw [hpv]; exact fun _ => rfl
    refine x_r [(4, .call [(true, .any), (true, .any), (true, .any)] true (.tup [slPair true v_1, I c_1]))] [1, 3, 4, 8, 9] [4, 8] [slFeat false sample, I share, .ref 4 0, .ref 8 0, slPair true v_1] [some (bxTrained t), some (.box [Sv (⟨#[]⟩ : ByteArray), nilA, nilA, I 0])] [Con Tryz.prog 71 [slFeat false t.Feats, slFeat false sample, I band] true (.tup [slPair true v_1, I c_1]) ∧ True] ⟨⟨hc1, trivial⟩, trivial⟩ ?_
    refine xe_then ?_
    refine xR [(3, .new 29), (7, .new 33)] [1, 3, 4, 8, 9, 11, 12] [4, 8, 29, 33] [slFeat false sample, I share, .ref 4 0, .ref 8 0, slPair true v_1, .arr 29, .arr 33] [some (bxTrained t), some (.box [Sv (⟨#[]⟩ : ByteArray), nilA, nilA, I 0]), some (.arr 1 ((t.Feats.length : Int).toNat) (fun _ => [nilA])), some (.arr 1 ((t.Feats.length : Int).toNat) (fun _ => [nilA]))] [(0 : Int) ≤ (t.Feats.length : Int) ∧ ((t.Feats.length : Int) : Int) ≤ (t.Feats.length : Int) ∧ (24 : Int) * (t.Feats.length : Int) ≤ 281474976710656 ∧ (t.Feats.length : Int) ≤ 9223372036854775807, (0 : Int) ≤ (t.Feats.length : Int) ∧ ((t.Feats.length : Int) : Int) ≤ (t.Feats.length : Int) ∧ (24 : Int) * (t.Feats.length : Int) ≤ 281474976710656 ∧ (t.Feats.length : Int) ≤ 9223372036854775807] ⟨⟨(by omega), (by omega), (by omega), (by omega)⟩, ⟨(by omega), (by omega), (by omega), (by omega)⟩, trivial⟩ ?_
    refine x_seq ?_
    refine xR [] [1, 3, 4, 8, 11, 12, 34, 35, 36] [4, 8, 29, 33] [slFeat false sample, I share, .ref 4 0, .ref 8 0, .arr 29, .arr 33, slPair true v_1, I (v_1.length : Int), I 0] [some (bxTrained t), some (.box [Sv (⟨#[]⟩ : ByteArray), nilA, nilA, I 0]), some (.arr 1 ((t.Feats.length : Int).toNat) (fun _ => [nilA])), some (.arr 1 ((t.Feats.length : Int).toNat) (fun _ => [nilA]))] [] trivial ?_
    refine x_block ?_
    refine x_famN 29 8401 1 rfl (fun q _ => ⟨_, rfl, rfl⟩) (by kernel_rfl) ?_
    refine x_famN 33 8402 1 rfl (fun q _ => ⟨_, rfl, rfl⟩) (by kernel_rfl) ?_
    refine x_weak [] (T := [(1, slFeat false sample), (3, I share), (4, .ref 4 0), (8, .ref 8 0), (11, .arr 29), (12, .arr 33), (34, slPair true v_1), (35, I (v_1.length : Int)), (36, I 0)]) (O := [(4, bxTrained t), (8, .box [Sv (⟨#[]⟩ : ByteArray), nilA, nilA, I 0]), (29, tOLI 8401 (List.replicate ((t.Feats.length : Int).toNat) ([] : List Int))), (33, tOLI 8402 (List.replicate ((t.Feats.length : Int).toNat) ([] : List Int))), (8401, tFLI (List.replicate ((t.Feats.length : Int).toNat) ([] : List Int))), (8402, tFLI (List.replicate ((t.Feats.length : Int).toNat) ([] : List Int)))]) rfl (⟨.inl rfl, .inl rfl, .inl rfl, .inl rfl, .inl rfl, .inl rfl, .inl rfl, .inl rfl, .inl rfl, trivial⟩) (⟨.inl rfl, .inl rfl, .inr ⟨rfl, rfl, (by simp), fun i hi => .inl rfl⟩, .inr ⟨rfl, rfl, (by simp), fun i hi => .inl rfl⟩, .inr (fnilLI ((t.Feats.length : Int).toNat)), .inr (fnilLI ((t.Feats.length : Int).toNat)), trivial⟩) ?_
    refine x_loop (X := Int × (List (List Int)) × (List (List Int))) (fun x => mkS [(1, slFeat false sample), (3, I share), (4, .ref 4 0), (8, .ref 8 0), (11, .arr 29), (12, .arr 33), (34, slPair true v_1), (35, I (v_1.length : Int)), (36, I x.1)] [(4, bxTrained t), (8, .box [Sv (⟨#[]⟩ : ByteArray), nilA, nilA, I 0]), (29, tOLI 8401 x.2.1), (33, tOLI 8402 x.2.2), (8401, tFLI x.2.1), (8402, tFLI x.2.2)]) (fun x => (0 ≤ x.1 ∧ x.1 ≤ (v_1.length : Int)) ∧ (tabOk Feat.X v_1 sample x.1.toNat t.Feats.length x.2.1) ∧ (tabOk Feat.Y v_1 sample x.1.toNat t.Feats.length x.2.2) ∧ True) (fun x => ((v_1.length : Int) - x.1).toNat) (0, (List.replicate ((t.Feats.length : Int).toNat) ([] : List Int)), (List.replicate ((t.Feats.length : Int).toNat) ([] : List Int))) rfl (show (0 ≤ (0 : Int) ∧ (0 : Int) ≤ (v_1.length : Int)) ∧ (tabOk Feat.X v_1 sample (0 : Int).toNat t.Feats.length (List.replicate ((t.Feats.length : Int).toNat) ([] : List Int))) ∧ (tabOk Feat.Y v_1 sample (0 : Int).toNat t.Feats.length (List.replicate ((t.Feats.length : Int).toNat) ([] : List Int))) ∧ True from ⟨(by omega), (by exact tab_nil _ _ _ (by first | rfl | omega | simp)), (by exact tab_nil _ _ _ (by first | rfl | omega | simp)), trivial⟩) (fun x hI => ?_)
    obtain ⟨t36, xt, yt⟩ := x
    obtain ⟨hp0, hxt, hyt, _⟩ : (0 ≤ t36 ∧ t36 ≤ (v_1.length : Int)) ∧ (tabOk Feat.X v_1 sample t36.toNat t.Feats.length xt) ∧ (tabOk Feat.Y v_1 sample t36.toNat t.Feats.length yt) ∧ True := hI
    show XW _ _ _ _ (mkS [(1, slFeat false sample), (3, I share), (4, .ref 4 0), (8, .ref 8 0), (11, .arr 29), (12, .arr 33), (34, slPair true v_1), (35, I (v_1.length : Int)), (36, I t36)] [(4, bxTrained t), (8, .box [Sv (⟨#[]⟩ : ByteArray), nilA, nilA, I 0]), (29, tOLI 8401 xt), (33, tOLI 8402 yt), (8401, tFLI xt), (8402, tFLI yt)]) _ _
    refine x_seq ?_
    by_cases h1 : t36 < (v_1.length : Int)
    ·have hp : t36.toNat < v_1.length := by omega
     have hpp := hpa t36.toNat hp
     have hxl := hxt.1
     have hyl := hyt.1
     have hxw := tab_row hxt (i := (at_ v_1 t36.toNat).I.toNat) (by omega)
     have hyw := tab_row hyt (i := (at_ v_1 t36.toNat).I.toNat) (by omega)
     have hs1 := okF_iff.1 (okFeats_at oks (show (at_ v_1 t36.toNat).J.toNat < sample.length by omega))
     refine x_r [(0, .dec true)] [1, 3, 4, 8, 11, 12, 34, 35, 36, 37] [4, 8, 29, 33, 8401, 8402] [slFeat false sample, I share, .ref 4 0, .ref 8 0, .arr 29, .arr 33, slPair true v_1, I (v_1.length : Int), I t36, Bv true] [some (bxTrained t), some (.box [Sv (⟨#[]⟩ : ByteArray), nilA, nilA, I 0]), some (tOLI 8401 xt), some (tOLI 8402 yt), some (tFLI xt), some (tFLI yt)] [t36 < (v_1.length : Int)] ⟨h1, trivial⟩ ?_
     refine xe_then ?_
     refine x_seq ?_
     refine x_true rfl ?_
     refine x_skip ?_
     refine xe_then ?_
     refine x_seq ?_
     refine x_block ?_
     refine xR [(2, .new 14)] [1, 3, 4, 8, 11, 12, 14, 34, 35, 36] [4, 8, 14, 29, 33, 8401, 8402] [slFeat false sample, I share, .ref 4 0, .ref 8 0, .arr 29, .arr 33, .ref 14 0, slPair true v_1, I (v_1.length : Int), I t36] [some (bxTrained t), some (.box [Sv (⟨#[]⟩ : ByteArray), nilA, nilA, I 0]), some (bxPair (at_ v_1 t36.toNat)), some (tOLI 8401 xt), some (tOLI 8402 yt), some (tFLI xt), some (tFLI yt)] [(0 : Int) ≤ t36 ∧ t36 < (v_1.length : Int)] ⟨⟨(by omega), (by omega)⟩, trivial⟩ ?_
     refine x_seq ?_
     refine x_takerow 29 8501 8401 (((at_ v_1 t36.toNat).I).toNat) rfl rfl ((by omega)) (fun q _ => rfl) (by kernel_rfl) ?_
     refine x_weak [] (T := [(1, slFeat false sample), (3, I share), (4, .ref 4 0), (8, .ref 8 0), (11, .arr 29), (12, .arr 33), (14, .ref 14 0), (34, slPair true v_1), (35, I (v_1.length : Int)), (36, I t36)]) (O := [(4, bxTrained t), (8, .box [Sv (⟨#[]⟩ : ByteArray), nilA, nilA, I 0]), (14, bxPair (at_ v_1 t36.toNat)), (29, .oar [8501, 8401] 1 ((xt.set (((at_ v_1 t36.toNat).I).toNat) ([] : List Int)).length) (fun q => bif Nat.beq q (((at_ v_1 t36.toNat).I).toNat) then [.arr 8501] else (oLI 8401 (xt.set (((at_ v_1 t36.toNat).I).toNat) ([] : List Int))) q)), (33, tOLI 8402 yt), (8401, tFLI (xt.set (((at_ v_1 t36.toNat).I).toNat) ([] : List Int))), (8402, tFLI yt), (8501, tAI (at_ xt (((at_ v_1 t36.toNat).I).toNat)))]) rfl (⟨.inl rfl, .inl rfl, .inl rfl, .inl rfl, .inl rfl, .inl rfl, .inl rfl, .inl rfl, .inl rfl, .inl rfl, trivial⟩) (⟨.inl rfl, .inl rfl, .inl rfl, .inr ⟨rfl, rfl, (by first | rfl | (simp; done)), fun i hi => .inl (by dsimp only; cases Nat.beq i (((at_ v_1 t36.toNat).I).toNat) <;> rfl)⟩, .inl rfl, .inr (fputLI ((by omega)) (by first | rfl | (simp; done) | (simp; omega)) (fun i_ h_ => absurd h_ (Nat.not_lt_zero _))), .inl rfl, .inl rfl, trivial⟩) ?_
     refine x_r [(7, .as (.arr 8501)), (14, .new 54), (15, .new 55)] [1, 3, 4, 8, 11, 12, 14, 34, 35, 36] [4, 8, 14, 29, 33, 55, 8401, 8402] [slFeat false sample, I share, .ref 4 0, .ref 8 0, .arr 29, .arr 33, .ref 14 0, slPair true v_1, I (v_1.length : Int), I t36] [some (bxTrained t), some (.box [Sv (⟨#[]⟩ : ByteArray), nilA, nilA, I 0]), some (bxPair (at_ v_1 t36.toNat)), some (.oar [8501, 8401, 55] 1 ((xt.set (((at_ v_1 t36.toNat).I).toNat) ([] : List Int)).length) (fun q => bif Nat.beq q (((at_ v_1 t36.toNat).I).toNat) then spl ((fun q => bif Nat.beq q (((at_ v_1 t36.toNat).I).toNat) then [.arr 8501] else (oLI 8401 (xt.set (((at_ v_1 t36.toNat).I).toNat) ([] : List Int))) q) (((at_ v_1 t36.toNat).I).toNat)) 0 [.arr 55] else (fun q => bif Nat.beq q (((at_ v_1 t36.toNat).I).toNat) then [.arr 8501] else (oLI 8401 (xt.set (((at_ v_1 t36.toNat).I).toNat) ([] : List Int))) q) q)), some (tOLI 8402 yt), some (.arr 1 (((at_ xt (((at_ v_1 t36.toNat).I).toNat)).length) + 1) (catF ((at_ xt (((at_ v_1 t36.toNat).I).toNat)).length) (fI (at_ xt (((at_ v_1 t36.toNat).I).toNat))) (litF [I ((at_ sample (((at_ v_1 t36.toNat).J).toNat)).X)] 1))), some (tFLI (xt.set (((at_ v_1 t36.toNat).I).toNat) ([] : List Int))), some (tFLI yt)] [(0 : Int) ≤ ((at_ v_1 t36.toNat).I) ∧ ((at_ v_1 t36.toNat).I) < (((xt.set (((at_ v_1 t36.toNat).I).toNat) ([] : List Int)).length) : Int), ((at_ v_1 t36.toNat).I).toNat < (xt.set (((at_ v_1 t36.toNat).I).toNat) ([] : List Int)).length ∧ List.drop 0 ((fun q => bif Nat.beq q (((at_ v_1 t36.toNat).I).toNat) then [.arr 8501] else (oLI 8401 (xt.set (((at_ v_1 t36.toNat).I).toNat) ([] : List Int))) q) (((at_ v_1 t36.toNat).I).toNat)) = [.arr 8501], (0 : Int) ≤ ((at_ v_1 t36.toNat).J) ∧ ((at_ v_1 t36.toNat).J) < (sample.length : Int), (((at_ xt (((at_ v_1 t36.toNat).I).toNat)).length) + 1) * 8 ≤ 140737488355328, (0 : Int) ≤ ((at_ v_1 t36.toNat).I) ∧ ((at_ v_1 t36.toNat).I) < (((xt.set (((at_ v_1 t36.toNat).I).toNat) ([] : List Int)).length) : Int), ((at_ v_1 t36.toNat).I).toNat < (xt.set (((at_ v_1 t36.toNat).I).toNat) ([] : List Int)).length] ⟨⟨(by first | omega | (simp only [List.length_set]; omega)), (by first | omega | (simp only [List.length_set]; omega))⟩, ⟨(by first | omega | (simp only [List.length_set]; omega)), (by simp only [Nat.beq_refl, cond_true]; rfl)⟩, ⟨(by omega), (by omega)⟩, (by omega), ⟨(by first | omega | (simp only [List.length_set]; omega)), (by first | omega | (simp only [List.length_set]; omega))⟩, (by first | omega | (simp only [List.length_set]; omega)), trivial⟩ ?_
     refine xe_then ?_
     refine x_putrow 29 55 8401 (((at_ v_1 t36.toNat).I).toNat) rfl rfl rfl ((by first | omega | (simp only [List.length_set]; omega))) (by first | exact Nat.le_refl _ | omega) (fun q _ => ⟨fun e => by subst e; simp only [Nat.beq_refl, cond_true]; rfl, fun e => by simp only [beq_ne e, cond_false]; rfl⟩) (by kernel_rfl) ?_
     refine x_weak [] (T := [(1, slFeat false sample), (3, I share), (4, .ref 4 0), (8, .ref 8 0), (11, .arr 29), (12, .arr 33), (14, .ref 14 0), (34, slPair true v_1), (35, I (v_1.length : Int)), (36, I t36)]) (O := [(4, bxTrained t), (8, .box [Sv (⟨#[]⟩ : ByteArray), nilA, nilA, I 0]), (14, bxPair (at_ v_1 t36.toNat)), (29, tOLI 8401 ((xt.set (((at_ v_1 t36.toNat).I).toNat) ([] : List Int)).set (((at_ v_1 t36.toNat).I).toNat) ((at_ xt (((at_ v_1 t36.toNat).I).toNat)) ++ [(at_ sample (((at_ v_1 t36.toNat).J).toNat)).X]))), (33, tOLI 8402 yt), (8401, tFLI ((xt.set (((at_ v_1 t36.toNat).I).toNat) ([] : List Int)).set (((at_ v_1 t36.toNat).I).toNat) ((at_ xt (((at_ v_1 t36.toNat).I).toNat)) ++ [(at_ sample (((at_ v_1 t36.toNat).J).toNat)).X]))), (8402, tFLI yt)]) rfl (⟨.inl rfl, .inl rfl, .inl rfl, .inl rfl, .inl rfl, .inl rfl, .inl rfl, .inl rfl, .inl rfl, .inl rfl, trivial⟩) (⟨.inl rfl, .inl rfl, .inl rfl, .inr ⟨rfl, rfl, (by simp), fun i hi => .inl rfl⟩, .inl rfl, .inr (fputLI ((by first | omega | (simp only [List.length_set]; omega))) (by first | rfl | (simp; done) | (simp; omega)) (fun i_ h_ => (show ∀ i_ : Nat, i_ < (((at_ xt (((at_ v_1 t36.toNat).I).toNat)) ++ [(at_ sample (((at_ v_1 t36.toNat).J).toNat)).X]) : List Int).length → (catF ((at_ xt (((at_ v_1 t36.toNat).I).toNat)).length) (fI (at_ xt (((at_ v_1 t36.toNat).I).toNat))) (litF [I ((at_ sample (((at_ v_1 t36.toNat).J).toNat)).X)] 1)) i_ = (fI ((at_ xt (((at_ v_1 t36.toNat).I).toNat)) ++ [(at_ sample (((at_ v_1 t36.toNat).J).toNat)).X])) i_ from fun i_ hi_ => (cat_snoc (enc := cI) (xs := (at_ xt (((at_ v_1 t36.toNat).I).toNat))) rfl i_ hi_)) i_ (by first | exact h_ | (simpa using h_)))), .inl rfl, trivial⟩) ?_
     refine x_takerow 33 8502 8402 (((at_ v_1 t36.toNat).I).toNat) rfl rfl ((by omega)) (fun q _ => rfl) (by kernel_rfl) ?_
     refine x_weak [] (T := [(1, slFeat false sample), (3, I share), (4, .ref 4 0), (8, .ref 8 0), (11, .arr 29), (12, .arr 33), (14, .ref 14 0), (34, slPair true v_1), (35, I (v_1.length : Int)), (36, I t36)]) (O := [(4, bxTrained t), (8, .box [Sv (⟨#[]⟩ : ByteArray), nilA, nilA, I 0]), (14, bxPair (at_ v_1 t36.toNat)), (29, tOLI 8401 ((xt.set (((at_ v_1 t36.toNat).I).toNat) ([] : List Int)).set (((at_ v_1 t36.toNat).I).toNat) ((at_ xt (((at_ v_1 t36.toNat).I).toNat)) ++ [(at_ sample (((at_ v_1 t36.toNat).J).toNat)).X]))), (33, .oar [8502, 8402] 1 ((yt.set (((at_ v_1 t36.toNat).I).toNat) ([] : List Int)).length) (fun q => bif Nat.beq q (((at_ v_1 t36.toNat).I).toNat) then [.arr 8502] else (oLI 8402 (yt.set (((at_ v_1 t36.toNat).I).toNat) ([] : List Int))) q)), (8401, tFLI ((xt.set (((at_ v_1 t36.toNat).I).toNat) ([] : List Int)).set (((at_ v_1 t36.toNat).I).toNat) ((at_ xt (((at_ v_1 t36.toNat).I).toNat)) ++ [(at_ sample (((at_ v_1 t36.toNat).J).toNat)).X]))), (8402, tFLI (yt.set (((at_ v_1 t36.toNat).I).toNat) ([] : List Int))), (8502, tAI (at_ yt (((at_ v_1 t36.toNat).I).toNat)))]) rfl (⟨.inl rfl, .inl rfl, .inl rfl, .inl rfl, .inl rfl, .inl rfl, .inl rfl, .inl rfl, .inl rfl, .inl rfl, trivial⟩) (⟨.inl rfl, .inl rfl, .inl rfl, .inl rfl, .inr ⟨rfl, rfl, (by first | rfl | (simp; done)), fun i hi => .inl (by dsimp only; cases Nat.beq i (((at_ v_1 t36.toNat).I).toNat) <;> rfl)⟩, .inl rfl, .inr (fputLI ((by omega)) (by first | rfl | (simp; done) | (simp; omega)) (fun i_ h_ => absurd h_ (Nat.not_lt_zero _))), .inl rfl, trivial⟩) ?_
     refine x_r [(7, .as (.arr 8502)), (14, .new 71), (15, .new 72)] [1, 3, 4, 8, 11, 12, 34, 35, 36] [4, 8, 29, 33, 72, 8401, 8402] [slFeat false sample, I share, .ref 4 0, .ref 8 0, .arr 29, .arr 33, slPair true v_1, I (v_1.length : Int), I t36] [some (bxTrained t), some (.box [Sv (⟨#[]⟩ : ByteArray), nilA, nilA, I 0]), some (tOLI 8401 ((xt.set (((at_ v_1 t36.toNat).I).toNat) ([] : List Int)).set (((at_ v_1 t36.toNat).I).toNat) ((at_ xt (((at_ v_1 t36.toNat).I).toNat)) ++ [(at_ sample (((at_ v_1 t36.toNat).J).toNat)).X]))), some (.oar [8502, 8402, 72] 1 ((yt.set (((at_ v_1 t36.toNat).I).toNat) ([] : List Int)).length) (fun q => bif Nat.beq q (((at_ v_1 t36.toNat).I).toNat) then spl ((fun q => bif Nat.beq q (((at_ v_1 t36.toNat).I).toNat) then [.arr 8502] else (oLI 8402 (yt.set (((at_ v_1 t36.toNat).I).toNat) ([] : List Int))) q) (((at_ v_1 t36.toNat).I).toNat)) 0 [.arr 72] else (fun q => bif Nat.beq q (((at_ v_1 t36.toNat).I).toNat) then [.arr 8502] else (oLI 8402 (yt.set (((at_ v_1 t36.toNat).I).toNat) ([] : List Int))) q) q)), some (.arr 1 (((at_ yt (((at_ v_1 t36.toNat).I).toNat)).length) + 1) (catF ((at_ yt (((at_ v_1 t36.toNat).I).toNat)).length) (fI (at_ yt (((at_ v_1 t36.toNat).I).toNat))) (litF [I ((at_ sample (((at_ v_1 t36.toNat).J).toNat)).Y)] 1))), some (tFLI ((xt.set (((at_ v_1 t36.toNat).I).toNat) ([] : List Int)).set (((at_ v_1 t36.toNat).I).toNat) ((at_ xt (((at_ v_1 t36.toNat).I).toNat)) ++ [(at_ sample (((at_ v_1 t36.toNat).J).toNat)).X]))), some (tFLI (yt.set (((at_ v_1 t36.toNat).I).toNat) ([] : List Int)))] [(0 : Int) ≤ ((at_ v_1 t36.toNat).I) ∧ ((at_ v_1 t36.toNat).I) < (((yt.set (((at_ v_1 t36.toNat).I).toNat) ([] : List Int)).length) : Int), ((at_ v_1 t36.toNat).I).toNat < (yt.set (((at_ v_1 t36.toNat).I).toNat) ([] : List Int)).length ∧ List.drop 0 ((fun q => bif Nat.beq q (((at_ v_1 t36.toNat).I).toNat) then [.arr 8502] else (oLI 8402 (yt.set (((at_ v_1 t36.toNat).I).toNat) ([] : List Int))) q) (((at_ v_1 t36.toNat).I).toNat)) = [.arr 8502], (0 : Int) ≤ ((at_ v_1 t36.toNat).J) ∧ ((at_ v_1 t36.toNat).J) < (sample.length : Int), (((at_ yt (((at_ v_1 t36.toNat).I).toNat)).length) + 1) * 8 ≤ 140737488355328, (0 : Int) ≤ ((at_ v_1 t36.toNat).I) ∧ ((at_ v_1 t36.toNat).I) < (((yt.set (((at_ v_1 t36.toNat).I).toNat) ([] : List Int)).length) : Int), ((at_ v_1 t36.toNat).I).toNat < (yt.set (((at_ v_1 t36.toNat).I).toNat) ([] : List Int)).length] ⟨⟨(by first | omega | (simp only [List.length_set]; omega)), (by first | omega | (simp only [List.length_set]; omega))⟩, ⟨(by first | omega | (simp only [List.length_set]; omega)), (by simp only [Nat.beq_refl, cond_true]; rfl)⟩, ⟨(by omega), (by omega)⟩, (by omega), ⟨(by first | omega | (simp only [List.length_set]; omega)), (by first | omega | (simp only [List.length_set]; omega))⟩, (by first | omega | (simp only [List.length_set]; omega)), trivial⟩ ?_
     refine xe_block 1 ?_
     refine xe_then ?_
     refine x_putrow 33 72 8402 (((at_ v_1 t36.toNat).I).toNat) rfl rfl rfl ((by first | omega | (simp only [List.length_set]; omega))) (by first | exact Nat.le_refl _ | omega) (fun q _ => ⟨fun e => by subst e; simp only [Nat.beq_refl, cond_true]; rfl, fun e => by simp only [beq_ne e, cond_false]; rfl⟩) (by kernel_rfl) ?_
     refine x_weak [] (T := [(1, slFeat false sample), (3, I share), (4, .ref 4 0), (8, .ref 8 0), (11, .arr 29), (12, .arr 33), (34, slPair true v_1), (35, I (v_1.length : Int)), (36, I t36)]) (O := [(4, bxTrained t), (8, .box [Sv (⟨#[]⟩ : ByteArray), nilA, nilA, I 0]), (29, tOLI 8401 ((xt.set (((at_ v_1 t36.toNat).I).toNat) ([] : List Int)).set (((at_ v_1 t36.toNat).I).toNat) ((at_ xt (((at_ v_1 t36.toNat).I).toNat)) ++ [(at_ sample (((at_ v_1 t36.toNat).J).toNat)).X]))), (33, tOLI 8402 ((yt.set (((at_ v_1 t36.toNat).I).toNat) ([] : List Int)).set (((at_ v_1 t36.toNat).I).toNat) ((at_ yt (((at_ v_1 t36.toNat).I).toNat)) ++ [(at_ sample (((at_ v_1 t36.toNat).J).toNat)).Y]))), (8401, tFLI ((xt.set (((at_ v_1 t36.toNat).I).toNat) ([] : List Int)).set (((at_ v_1 t36.toNat).I).toNat) ((at_ xt (((at_ v_1 t36.toNat).I).toNat)) ++ [(at_ sample (((at_ v_1 t36.toNat).J).toNat)).X]))), (8402, tFLI ((yt.set (((at_ v_1 t36.toNat).I).toNat) ([] : List Int)).set (((at_ v_1 t36.toNat).I).toNat) ((at_ yt (((at_ v_1 t36.toNat).I).toNat)) ++ [(at_ sample (((at_ v_1 t36.toNat).J).toNat)).Y])))]) rfl (⟨.inl rfl, .inl rfl, .inl rfl, .inl rfl, .inl rfl, .inl rfl, .inl rfl, .inl rfl, .inl rfl, trivial⟩) (⟨.inl rfl, .inl rfl, .inl rfl, .inr ⟨rfl, rfl, (by simp), fun i hi => .inl rfl⟩, .inl rfl, .inr (fputLI ((by first | omega | (simp only [List.length_set]; omega))) (by first | rfl | (simp; done) | (simp; omega)) (fun i_ h_ => (show ∀ i_ : Nat, i_ < (((at_ yt (((at_ v_1 t36.toNat).I).toNat)) ++ [(at_ sample (((at_ v_1 t36.toNat).J).toNat)).Y]) : List Int).length → (catF ((at_ yt (((at_ v_1 t36.toNat).I).toNat)).length) (fI (at_ yt (((at_ v_1 t36.toNat).I).toNat))) (litF [I ((at_ sample (((at_ v_1 t36.toNat).J).toNat)).Y)] 1)) i_ = (fI ((at_ yt (((at_ v_1 t36.toNat).I).toNat)) ++ [(at_ sample (((at_ v_1 t36.toNat).J).toNat)).Y])) i_ from fun i_ hi_ => (cat_snoc (enc := cI) (xs := (at_ yt (((at_ v_1 t36.toNat).I).toNat))) rfl i_ hi_)) i_ (by first | exact h_ | (simpa using h_)))), trivial⟩) ?_
     refine x_r [] [1, 3, 4, 8, 11, 12, 34, 35, 36] [4, 8, 29, 33, 8401, 8402] [slFeat false sample, I share, .ref 4 0, .ref 8 0, .arr 29, .arr 33, slPair true v_1, I (v_1.length : Int), I (t36 + 1)] [some (bxTrained t), some (.box [Sv (⟨#[]⟩ : ByteArray), nilA, nilA, I 0]), some (tOLI 8401 ((xt.set (((at_ v_1 t36.toNat).I).toNat) ([] : List Int)).set (((at_ v_1 t36.toNat).I).toNat) ((at_ xt (((at_ v_1 t36.toNat).I).toNat)) ++ [(at_ sample (((at_ v_1 t36.toNat).J).toNat)).X]))), some (tOLI 8402 ((yt.set (((at_ v_1 t36.toNat).I).toNat) ([] : List Int)).set (((at_ v_1 t36.toNat).I).toNat) ((at_ yt (((at_ v_1 t36.toNat).I).toNat)) ++ [(at_ sample (((at_ v_1 t36.toNat).J).toNat)).Y]))), some (tFLI ((xt.set (((at_ v_1 t36.toNat).I).toNat) ([] : List Int)).set (((at_ v_1 t36.toNat).I).toNat) ((at_ xt (((at_ v_1 t36.toNat).I).toNat)) ++ [(at_ sample (((at_ v_1 t36.toNat).J).toNat)).X]))), some (tFLI ((yt.set (((at_ v_1 t36.toNat).I).toNat) ([] : List Int)).set (((at_ v_1 t36.toNat).I).toNat) ((at_ yt (((at_ v_1 t36.toNat).I).toNat)) ++ [(at_ sample (((at_ v_1 t36.toNat).J).toNat)).Y])))] [inR .i64 (t36 + 1)] ⟨(inR_i64 (by omega) (by omega)), trivial⟩ ?_
     exact xe_again ((t36 + 1), ((xt.set (((at_ v_1 t36.toNat).I).toNat) ([] : List Int)).set (((at_ v_1 t36.toNat).I).toNat) ((at_ xt (((at_ v_1 t36.toNat).I).toNat)) ++ [(at_ sample (((at_ v_1 t36.toNat).J).toNat)).X])), ((yt.set (((at_ v_1 t36.toNat).I).toNat) ([] : List Int)).set (((at_ v_1 t36.toNat).I).toNat) ((at_ yt (((at_ v_1 t36.toNat).I).toNat)) ++ [(at_ sample (((at_ v_1 t36.toNat).J).toNat)).Y]))) rfl (show (0 ≤ (t36 + 1) ∧ (t36 + 1) ≤ (v_1.length : Int)) ∧ (tabOk Feat.X v_1 sample (t36 + 1).toNat t.Feats.length ((xt.set (((at_ v_1 t36.toNat).I).toNat) ([] : List Int)).set (((at_ v_1 t36.toNat).I).toNat) ((at_ xt (((at_ v_1 t36.toNat).I).toNat)) ++ [(at_ sample (((at_ v_1 t36.toNat).J).toNat)).X]))) ∧ (tabOk Feat.Y v_1 sample (t36 + 1).toNat t.Feats.length ((yt.set (((at_ v_1 t36.toNat).I).toNat) ([] : List Int)).set (((at_ v_1 t36.toNat).I).toNat) ((at_ yt (((at_ v_1 t36.toNat).I).toNat)) ++ [(at_ sample (((at_ v_1 t36.toNat).J).toNat)).Y]))) ∧ True from ⟨(by omega), (by rw [show (t36 + 1).toNat = t36.toNat + 1 from by omega]; exact tab_next hxt hp hpp.1 rfl rfl), (by rw [show (t36 + 1).toNat = t36.toNat + 1 from by omega]; exact tab_next hyt hp hpp.1 rfl rfl), trivial⟩) (by first | (show (((v_1.length : Int) - (t36 + 1)).toNat : Nat) < ((v_1.length : Int) - t36).toNat; omega) | (dsimp only; omega))
    have hpe : t36.toNat = v_1.length := by omega
    have hxl := hxt.1
    have hyl := hyt.1
    refine x_r [(0, .dec false)] [1, 3, 4, 8, 11, 12, 34, 35, 36, 37] [4, 8, 29, 33, 8401, 8402] [slFeat false sample, I share, .ref 4 0, .ref 8 0, .arr 29, .arr 33, slPair true v_1, I (v_1.length : Int), I t36, Bv false] [some (bxTrained t), some (.box [Sv (⟨#[]⟩ : ByteArray), nilA, nilA, I 0]), some (tOLI 8401 xt), some (tOLI 8402 yt), some (tFLI xt), some (tFLI yt)] [¬ (t36 < (v_1.length : Int))] ⟨h1, trivial⟩ ?_
    refine xe_then ?_
    refine x_seq ?_
    refine x_false rfl ?_
    refine x_exit ?_
    refine xe_exit_then ?_
    refine xe_loop_exit ?_
    refine xe_exit_same ?_
    refine xe_then ?_
    refine x_seq ?_
    obtain ⟨out_2, hx2_0, hc2⟩ := cloneF0_ok t.Base (by omega)
    refine x_r [(4, .lend [] [(8311, tAFeat out_2)] [(true, .any)] false (.arr 8311)), (9, .new 15)] [3, 4, 8, 11, 12, 15] [4, 8, 15, 29, 33, 8311, 8401, 8402] [I share, .ref 4 0, .ref 8 0, .arr 29, .arr 33, .ref 15 0] [some (bxTrained t), some (.box [Sv (⟨#[]⟩ : ByteArray), nilA, nilA, I 0]), some (.box [Sv t.Label, .arr 8311, nilA, I (t.Count + 1)]), some (tOLI 8401 xt), some (tOLI 8402 yt), some (tAFeat out_2), some (tFLI xt), some (tFLI yt)] [CallOK Tryz.prog 36 [slFeat false t.Base] (lookO []) false (.arr 8311) (lookO [(8311, tAFeat out_2)]) ∧ True, inR .i64 (t.Count + 1)] ⟨⟨hc2, trivial⟩, (inR_i64 (by omega) (by omega)), trivial⟩ ?_
    refine xe_then ?_
    refine x_seq ?_
    refine xR [] [3, 4, 8, 11, 12, 15, 85, 86, 87] [4, 8, 15, 29, 33, 8311, 8401, 8402] [I share, .ref 4 0, .ref 8 0, .arr 29, .arr 33, .ref 15 0, slFeat false t.Feats, I (t.Feats.length : Int), I 0] [some (bxTrained t), some (.box [Sv (⟨#[]⟩ : ByteArray), nilA, nilA, I 0]), some (.box [Sv t.Label, .arr 8311, nilA, I (t.Count + 1)]), some (tOLI 8401 xt), some (tOLI 8402 yt), some (tAFeat out_2), some (tFLI xt), some (tFLI yt)] [] trivial ?_
    refine x_block ?_
    refine x_nilC 15 2 852 3 (fun _ => []) rfl (by kernel_rfl) ?_
    refine x_weak [] (T := [(3, I share), (4, .ref 4 0), (8, .ref 8 0), (11, .arr 29), (12, .arr 33), (15, .ref 15 0), (85, slFeat false t.Feats), (86, I (t.Feats.length : Int)), (87, I 0)]) (O := [(4, bxTrained t), (8, .box [Sv (⟨#[]⟩ : ByteArray), nilA, nilA, I 0]), (15, .box [Sv t.Label, .arr 8311, .arr 852, I (t.Count + 1)]), (29, tOLI 8401 xt), (33, tOLI 8402 yt), (852, tAFeat ([] : List Feat)), (8311, tAFeat out_2), (8401, tFLI xt), (8402, tFLI yt)]) rfl (⟨.inl rfl, .inl rfl, .inl rfl, .inl rfl, .inl rfl, .inl rfl, .inl rfl, .inl rfl, .inl rfl, trivial⟩) (⟨.inl rfl, .inl rfl, .inl rfl, .inl rfl, .inl rfl, .inr ⟨rfl, (by first | rfl | (simp; done) | (simp; omega) | omega), fun i_ hi_ => absurd hi_ (Nat.not_lt_zero _)⟩, .inl rfl, .inl rfl, .inl rfl, trivial⟩) ?_
    refine x_loop (X := Int × (List Feat) × (List (List Int)) × (List (List Int))) (fun x => mkS [(3, I share), (4, .ref 4 0), (8, .ref 8 0), (11, .arr 29), (12, .arr 33), (15, .ref 15 0), (85, slFeat false t.Feats), (86, I (t.Feats.length : Int)), (87, I x.1)] [(4, bxTrained t), (8, .box [Sv (⟨#[]⟩ : ByteArray), nilA, nilA, I 0]), (15, .box [Sv t.Label, .arr 8311, .arr 852, I (t.Count + 1)]), (29, tOLI 8401 x.2.2.1), (33, tOLI 8402 x.2.2.2), (852, tAFeat x.2.1), (8311, tAFeat out_2), (8401, tFLI x.2.2.1), (8402, tFLI x.2.2.2)]) (fun x => (0 ≤ x.1 ∧ x.1 ≤ (t.Feats.length : Int)) ∧ (tabR Feat.X v_1 sample x.1.toNat t.Feats.length x.2.2.1) ∧ (tabR Feat.Y v_1 sample x.1.toNat t.Feats.length x.2.2.2) ∧ (x.2.1 = adpN t sample band share x.1.toNat) ∧ True) (fun x => ((t.Feats.length : Int) - x.1).toNat) (0, ([] : List Feat), xt, yt) rfl (show (0 ≤ (0 : Int) ∧ (0 : Int) ≤ (t.Feats.length : Int)) ∧ (tabR Feat.X v_1 sample (0 : Int).toNat t.Feats.length xt) ∧ (tabR Feat.Y v_1 sample (0 : Int).toNat t.Feats.length yt) ∧ (([] : List Feat) = adpN t sample band share (0 : Int).toNat) ∧ True from ⟨(by omega), (by exact tabR_start hxt hpe), (by exact tabR_start hyt hpe), (by rfl), trivial⟩) (fun x hI => ?_)
    obtain ⟨t87, fs, xt', yt'⟩ := x
    obtain ⟨hi0, hxt', hyt', hfs, _⟩ : (0 ≤ t87 ∧ t87 ≤ (t.Feats.length : Int)) ∧ (tabR Feat.X v_1 sample t87.toNat t.Feats.length xt') ∧ (tabR Feat.Y v_1 sample t87.toNat t.Feats.length yt') ∧ (fs = adpN t sample band share t87.toNat) ∧ True := hI
    show XW _ _ _ _ (mkS [(3, I share), (4, .ref 4 0), (8, .ref 8 0), (11, .arr 29), (12, .arr 33), (15, .ref 15 0), (85, slFeat false t.Feats), (86, I (t.Feats.length : Int)), (87, I t87)] [(4, bxTrained t), (8, .box [Sv (⟨#[]⟩ : ByteArray), nilA, nilA, I 0]), (15, .box [Sv t.Label, .arr 8311, .arr 852, I (t.Count + 1)]), (29, tOLI 8401 xt'), (33, tOLI 8402 yt'), (852, tAFeat fs), (8311, tAFeat out_2), (8401, tFLI xt'), (8402, tFLI yt')]) _ _
    refine x_seq ?_
    by_cases h2 : t87 < (t.Feats.length : Int)
    ·have hi : t87.toNat < t.Feats.length := by omega
     have hix : ((t87.toNat : Nat) : Int) = t87 := by omega
     have hfo := okF_iff.1 (okFeats_at oka hi)
     have hbo := okF_iff.1 (okFeats_at okb (show t87.toNat < t.Base.length by omega))
     have hfl : fs.length = t87.toNat := by rw [hfs, adpN_len]
     have hxl' := hxt'.1
     have hyl' := hyt'.1
     have hxr := hxt'.2 t87.toNat (Nat.le_refl _) hi
     have hyr := hyt'.2 t87.toNat (Nat.le_refl _) hi
     have hxq := hxp Feat.X t87.toNat hi
     have hyq := hxp Feat.Y t87.toNat hi
     rw [← hxr] at hxq
     rw [← hyr] at hyq
     refine x_r [(0, .dec true)] [3, 4, 8, 11, 12, 15, 85, 86, 87, 88] [4, 8, 15, 29, 33, 852, 8311, 8401, 8402] [I share, .ref 4 0, .ref 8 0, .arr 29, .arr 33, .ref 15 0, slFeat false t.Feats, I (t.Feats.length : Int), I t87, Bv true] [some (bxTrained t), some (.box [Sv (⟨#[]⟩ : ByteArray), nilA, nilA, I 0]), some (.box [Sv t.Label, .arr 8311, .arr 852, I (t.Count + 1)]), some (tOLI 8401 xt'), some (tOLI 8402 yt'), some (tAFeat fs), some (tAFeat out_2), some (tFLI xt'), some (tFLI yt')] [t87 < (t.Feats.length : Int)] ⟨h2, trivial⟩ ?_
     refine xe_then ?_
     refine x_seq ?_
     refine x_true rfl ?_
     refine x_skip ?_
     refine xe_then ?_
     refine x_seq ?_
     refine x_block ?_
     refine xR [(3, .new 17)] [3, 4, 8, 11, 12, 15, 16, 17, 85, 86, 87] [4, 8, 15, 17, 29, 33, 852, 8311, 8401, 8402] [I share, .ref 4 0, .ref 8 0, .arr 29, .arr 33, .ref 15 0, I t87, .ref 17 0, slFeat false t.Feats, I (t.Feats.length : Int), I t87] [some (bxTrained t), some (.box [Sv (⟨#[]⟩ : ByteArray), nilA, nilA, I 0]), some (.box [Sv t.Label, .arr 8311, .arr 852, I (t.Count + 1)]), some (bxFeat (at_ t.Feats t87.toNat)), some (tOLI 8401 xt'), some (tOLI 8402 yt'), some (tAFeat fs), some (tAFeat out_2), some (tFLI xt'), some (tFLI yt')] [(0 : Int) ≤ t87 ∧ t87 < (t.Feats.length : Int)] ⟨⟨(by omega), (by omega)⟩, trivial⟩ ?_
     refine x_seq ?_
     refine x_takerow 29 7201 8401 t87.toNat rfl rfl ((by omega)) (fun q _ => rfl) (by kernel_rfl) ?_
     refine x_weak [] (T := [(3, I share), (4, .ref 4 0), (8, .ref 8 0), (11, .arr 29), (12, .arr 33), (15, .ref 15 0), (16, I t87), (17, .ref 17 0), (85, slFeat false t.Feats), (86, I (t.Feats.length : Int)), (87, I t87)]) (O := [(4, bxTrained t), (8, .box [Sv (⟨#[]⟩ : ByteArray), nilA, nilA, I 0]), (15, .box [Sv t.Label, .arr 8311, .arr 852, I (t.Count + 1)]), (17, bxFeat (at_ t.Feats t87.toNat)), (29, .oar [7201, 8401] 1 ((xt'.set t87.toNat ([] : List Int)).length) (fun q => bif Nat.beq q t87.toNat then [.arr 7201] else (oLI 8401 (xt'.set t87.toNat ([] : List Int))) q)), (33, tOLI 8402 yt'), (852, tAFeat fs), (7201, tAI (at_ xt' t87.toNat)), (8311, tAFeat out_2), (8401, tFLI (xt'.set t87.toNat ([] : List Int))), (8402, tFLI yt')]) rfl (⟨.inl rfl, .inl rfl, .inl rfl, .inl rfl, .inl rfl, .inl rfl, .inl rfl, .inl rfl, .inl rfl, .inl rfl, .inl rfl, trivial⟩) (⟨.inl rfl, .inl rfl, .inl rfl, .inl rfl, .inr ⟨rfl, rfl, (by first | rfl | (simp; done)), fun i hi => .inl (by dsimp only; cases Nat.beq i t87.toNat <;> rfl)⟩, .inl rfl, .inl rfl, .inl rfl, .inl rfl, .inr (fputLI ((by omega)) (by first | rfl | (simp; done) | (simp; omega)) (fun i_ h_ => absurd h_ (Nat.not_lt_zero _))), .inl rfl, trivial⟩) ?_
     obtain ⟨v_3, list'_3, hx3_0, hc3⟩ := medianOf_ok (at_ xt' t87.toNat) (by omega)
     have hMX : medI (xsF Feat.X v_1 sample t87) = v_3 := by rw [← hix, ← hxr]; exact hx3_0.symm
     have hmX2 : 0 ≤ v_3 ∧ v_3 ≤ 255 := by have q := hmX t87.toNat hi; rw [hix, hMX] at q; exact q
     refine x_r [(5, .as (.arr 7201)), (6, .lend [(7201, tAI (at_ xt' t87.toNat), tAI list'_3)] [] [(true, .any)] true (I v_3)), (14, .call [(true, .any), (true, .any), (true, .any), (true, .any)] true (I (towI ((at_ t.Feats t87.toNat).X) v_3 ((at_ t.Base t87.toNat).X) share)))] [3, 4, 8, 11, 12, 15, 16, 17, 85, 86, 87] [4, 8, 15, 17, 29, 33, 852, 7201, 8311, 8401, 8402] [I share, .ref 4 0, .ref 8 0, .arr 29, .arr 33, .ref 15 0, I t87, .ref 17 0, slFeat false t.Feats, I (t.Feats.length : Int), I t87] [some (bxTrained t), some (.box [Sv (⟨#[]⟩ : ByteArray), nilA, nilA, I 0]), some (.box [Sv t.Label, .arr 8311, .arr 852, I (t.Count + 1)]), some (.box [I (towI ((at_ t.Feats t87.toNat).X) v_3 ((at_ t.Base t87.toNat).X) share), I ((at_ t.Feats t87.toNat).Y), I ((at_ t.Feats t87.toNat).D)]), some (.oar [7201, 8401] 1 ((xt'.set t87.toNat ([] : List Int)).length) (fun q => bif Nat.beq q t87.toNat then [.arr 7201] else (oLI 8401 (xt'.set t87.toNat ([] : List Int))) q)), some (tOLI 8402 yt'), some (tAFeat fs), some (tAI list'_3), some (tAFeat out_2), some (tFLI (xt'.set t87.toNat ([] : List Int))), some (tFLI yt')] [(0 : Int) ≤ t87 ∧ t87 < (((xt'.set t87.toNat ([] : List Int)).length) : Int), t87.toNat < (xt'.set t87.toNat ([] : List Int)).length ∧ List.drop 0 ((fun q => bif Nat.beq q t87.toNat then [.arr 7201] else (oLI 8401 (xt'.set t87.toNat ([] : List Int))) q) t87.toNat) = [.arr 7201], CallOK Tryz.prog 73 [.arr 7201] (lookO [(7201, tAI (at_ xt' t87.toNat))]) true (I v_3) (lookO [(7201, tAI list'_3)]) ∧ (((tAI (at_ xt' t87.toNat) : Ob) = tAI (at_ xt' t87.toNat) ∨ obLe noOb true (tAI (at_ xt' t87.toNat)) (tAI (at_ xt' t87.toNat))) ∧ taggedO false (tAI (at_ xt' t87.toNat))) ∧ True, (0 : Int) ≤ t87 ∧ t87 < (t.Base.length : Int), Con Tryz.prog 72 [I ((at_ t.Feats t87.toNat).X), I v_3, I ((at_ t.Base t87.toNat).X), I share] true (I (towI ((at_ t.Feats t87.toNat).X) v_3 ((at_ t.Base t87.toNat).X) share)) ∧ True] ⟨⟨(by first | omega | (simp only [List.length_set]; omega)), (by first | omega | (simp only [List.length_set]; omega))⟩, ⟨(by first | omega | (simp only [List.length_set]; omega)), (by simp only [Nat.beq_refl, cond_true]; rfl)⟩, ⟨hc3, ⟨.inl rfl, fun _ _ => tagcI false _⟩, trivial⟩, ⟨(by omega), (by omega)⟩, ⟨(towards_ok ((at_ t.Feats t87.toNat).X) v_3 ((at_ t.Base t87.toNat).X) share (by omega) (by omega) (by omega) (by omega)), trivial⟩, trivial⟩ ?_
     refine xe_then ?_
     refine x_seq ?_
     refine x_putrow 29 7201 8401 t87.toNat rfl rfl rfl ((by first | omega | (simp only [List.length_set]; omega))) (by first | exact Nat.le_refl _ | omega) (fun q _ => ⟨fun e => by subst e; simp only [Nat.beq_refl, cond_true], fun e => by simp only [beq_ne e, cond_false]; rfl⟩) (by kernel_rfl) ?_
     refine x_weak [] (T := [(3, I share), (4, .ref 4 0), (8, .ref 8 0), (11, .arr 29), (12, .arr 33), (15, .ref 15 0), (16, I t87), (17, .ref 17 0), (85, slFeat false t.Feats), (86, I (t.Feats.length : Int)), (87, I t87)]) (O := [(4, bxTrained t), (8, .box [Sv (⟨#[]⟩ : ByteArray), nilA, nilA, I 0]), (15, .box [Sv t.Label, .arr 8311, .arr 852, I (t.Count + 1)]), (17, .box [I (towI ((at_ t.Feats t87.toNat).X) v_3 ((at_ t.Base t87.toNat).X) share), I ((at_ t.Feats t87.toNat).Y), I ((at_ t.Feats t87.toNat).D)]), (29, tOLI 8401 ((xt'.set t87.toNat ([] : List Int)).set t87.toNat list'_3)), (33, tOLI 8402 yt'), (852, tAFeat fs), (8311, tAFeat out_2), (8401, tFLI ((xt'.set t87.toNat ([] : List Int)).set t87.toNat list'_3)), (8402, tFLI yt')]) rfl (⟨.inl rfl, .inl rfl, .inl rfl, .inl rfl, .inl rfl, .inl rfl, .inl rfl, .inl rfl, .inl rfl, .inl rfl, .inl rfl, trivial⟩) (⟨.inl rfl, .inl rfl, .inl rfl, .inl rfl, .inr ⟨rfl, rfl, (by simp), fun i hi => .inl rfl⟩, .inl rfl, .inl rfl, .inl rfl, .inr (fputLI ((by first | omega | (simp only [List.length_set]; omega))) (by first | rfl | (simp; done) | (simp; omega)) (fun i _ => rfl)), .inl rfl, trivial⟩) ?_
     refine x_takerow 33 7201 8402 t87.toNat rfl rfl ((by omega)) (fun q _ => rfl) (by kernel_rfl) ?_
     refine x_weak [] (T := [(3, I share), (4, .ref 4 0), (8, .ref 8 0), (11, .arr 29), (12, .arr 33), (15, .ref 15 0), (16, I t87), (17, .ref 17 0), (85, slFeat false t.Feats), (86, I (t.Feats.length : Int)), (87, I t87)]) (O := [(4, bxTrained t), (8, .box [Sv (⟨#[]⟩ : ByteArray), nilA, nilA, I 0]), (15, .box [Sv t.Label, .arr 8311, .arr 852, I (t.Count + 1)]), (17, .box [I (towI ((at_ t.Feats t87.toNat).X) v_3 ((at_ t.Base t87.toNat).X) share), I ((at_ t.Feats t87.toNat).Y), I ((at_ t.Feats t87.toNat).D)]), (29, tOLI 8401 ((xt'.set t87.toNat ([] : List Int)).set t87.toNat list'_3)), (33, .oar [7201, 8402] 1 ((yt'.set t87.toNat ([] : List Int)).length) (fun q => bif Nat.beq q t87.toNat then [.arr 7201] else (oLI 8402 (yt'.set t87.toNat ([] : List Int))) q)), (852, tAFeat fs), (7201, tAI (at_ yt' t87.toNat)), (8311, tAFeat out_2), (8401, tFLI ((xt'.set t87.toNat ([] : List Int)).set t87.toNat list'_3)), (8402, tFLI (yt'.set t87.toNat ([] : List Int)))]) rfl (⟨.inl rfl, .inl rfl, .inl rfl, .inl rfl, .inl rfl, .inl rfl, .inl rfl, .inl rfl, .inl rfl, .inl rfl, .inl rfl, trivial⟩) (⟨.inl rfl, .inl rfl, .inl rfl, .inl rfl, .inl rfl, .inr ⟨rfl, rfl, (by first | rfl | (simp; done)), fun i hi => .inl (by dsimp only; cases Nat.beq i t87.toNat <;> rfl)⟩, .inl rfl, .inl rfl, .inl rfl, .inl rfl, .inr (fputLI ((by omega)) (by first | rfl | (simp; done) | (simp; omega)) (fun i_ h_ => absurd h_ (Nat.not_lt_zero _))), trivial⟩) ?_
     obtain ⟨v_4, list'_4, hx4_0, hc4⟩ := medianOf_ok (at_ yt' t87.toNat) (by omega)
     have hMY : medI (xsF Feat.Y v_1 sample t87) = v_4 := by rw [← hix, ← hyr]; exact hx4_0.symm
     have hmY2 : 0 ≤ v_4 ∧ v_4 ≤ 255 := by have q := hmY t87.toNat hi; rw [hix, hMY] at q; exact q
     refine x_r [(5, .as (.arr 7201)), (6, .lend [(7201, tAI (at_ yt' t87.toNat), tAI list'_4)] [] [(true, .any)] true (I v_4)), (14, .call [(true, .any), (true, .any), (true, .any), (true, .any)] true (I (towI ((at_ t.Feats t87.toNat).Y) v_4 ((at_ t.Base t87.toNat).Y) share)))] [3, 4, 8, 11, 12, 15, 17, 85, 86, 87] [4, 8, 15, 17, 29, 33, 852, 7201, 8311, 8401, 8402] [I share, .ref 4 0, .ref 8 0, .arr 29, .arr 33, .ref 15 0, .ref 17 0, slFeat false t.Feats, I (t.Feats.length : Int), I t87] [some (bxTrained t), some (.box [Sv (⟨#[]⟩ : ByteArray), nilA, nilA, I 0]), some (.box [Sv t.Label, .arr 8311, .arr 852, I (t.Count + 1)]), some (.box [I (towI ((at_ t.Feats t87.toNat).X) v_3 ((at_ t.Base t87.toNat).X) share), I (towI ((at_ t.Feats t87.toNat).Y) v_4 ((at_ t.Base t87.toNat).Y) share), I ((at_ t.Feats t87.toNat).D)]), some (tOLI 8401 ((xt'.set t87.toNat ([] : List Int)).set t87.toNat list'_3)), some (.oar [7201, 8402] 1 ((yt'.set t87.toNat ([] : List Int)).length) (fun q => bif Nat.beq q t87.toNat then [.arr 7201] else (oLI 8402 (yt'.set t87.toNat ([] : List Int))) q)), some (tAFeat fs), some (tAI list'_4), some (tAFeat out_2), some (tFLI ((xt'.set t87.toNat ([] : List Int)).set t87.toNat list'_3)), some (tFLI (yt'.set t87.toNat ([] : List Int)))] [(0 : Int) ≤ t87 ∧ t87 < (((yt'.set t87.toNat ([] : List Int)).length) : Int), t87.toNat < (yt'.set t87.toNat ([] : List Int)).length ∧ List.drop 0 ((fun q => bif Nat.beq q t87.toNat then [.arr 7201] else (oLI 8402 (yt'.set t87.toNat ([] : List Int))) q) t87.toNat) = [.arr 7201], CallOK Tryz.prog 73 [.arr 7201] (lookO [(7201, tAI (at_ yt' t87.toNat))]) true (I v_4) (lookO [(7201, tAI list'_4)]) ∧ (((tAI (at_ yt' t87.toNat) : Ob) = tAI (at_ yt' t87.toNat) ∨ obLe noOb true (tAI (at_ yt' t87.toNat)) (tAI (at_ yt' t87.toNat))) ∧ taggedO false (tAI (at_ yt' t87.toNat))) ∧ True, (0 : Int) ≤ t87 ∧ t87 < (t.Base.length : Int), Con Tryz.prog 72 [I ((at_ t.Feats t87.toNat).Y), I v_4, I ((at_ t.Base t87.toNat).Y), I share] true (I (towI ((at_ t.Feats t87.toNat).Y) v_4 ((at_ t.Base t87.toNat).Y) share)) ∧ True] ⟨⟨(by first | omega | (simp only [List.length_set]; omega)), (by first | omega | (simp only [List.length_set]; omega))⟩, ⟨(by first | omega | (simp only [List.length_set]; omega)), (by simp only [Nat.beq_refl, cond_true]; rfl)⟩, ⟨hc4, ⟨.inl rfl, fun _ _ => tagcI false _⟩, trivial⟩, ⟨(by omega), (by omega)⟩, ⟨(towards_ok ((at_ t.Feats t87.toNat).Y) v_4 ((at_ t.Base t87.toNat).Y) share (by omega) (by omega) (by omega) (by omega)), trivial⟩, trivial⟩ ?_
     refine xe_then ?_
     refine x_putrow 33 7201 8402 t87.toNat rfl rfl rfl ((by first | omega | (simp only [List.length_set]; omega))) (by first | exact Nat.le_refl _ | omega) (fun q _ => ⟨fun e => by subst e; simp only [Nat.beq_refl, cond_true], fun e => by simp only [beq_ne e, cond_false]; rfl⟩) (by kernel_rfl) ?_
     refine x_weak [] (T := [(3, I share), (4, .ref 4 0), (8, .ref 8 0), (11, .arr 29), (12, .arr 33), (15, .ref 15 0), (17, .ref 17 0), (85, slFeat false t.Feats), (86, I (t.Feats.length : Int)), (87, I t87)]) (O := [(4, bxTrained t), (8, .box [Sv (⟨#[]⟩ : ByteArray), nilA, nilA, I 0]), (15, .box [Sv t.Label, .arr 8311, .arr 852, I (t.Count + 1)]), (17, .box [I (towI ((at_ t.Feats t87.toNat).X) v_3 ((at_ t.Base t87.toNat).X) share), I (towI ((at_ t.Feats t87.toNat).Y) v_4 ((at_ t.Base t87.toNat).Y) share), I ((at_ t.Feats t87.toNat).D)]), (29, tOLI 8401 ((xt'.set t87.toNat ([] : List Int)).set t87.toNat list'_3)), (33, tOLI 8402 ((yt'.set t87.toNat ([] : List Int)).set t87.toNat list'_4)), (852, tAFeat fs), (8311, tAFeat out_2), (8401, tFLI ((xt'.set t87.toNat ([] : List Int)).set t87.toNat list'_3)), (8402, tFLI ((yt'.set t87.toNat ([] : List Int)).set t87.toNat list'_4))]) rfl (⟨.inl rfl, .inl rfl, .inl rfl, .inl rfl, .inl rfl, .inl rfl, .inl rfl, .inl rfl, .inl rfl, .inl rfl, trivial⟩) (⟨.inl rfl, .inl rfl, .inl rfl, .inl rfl, .inl rfl, .inr ⟨rfl, rfl, (by simp), fun i hi => .inl rfl⟩, .inl rfl, .inl rfl, .inl rfl, .inr (fputLI ((by first | omega | (simp only [List.length_set]; omega))) (by first | rfl | (simp; done) | (simp; omega)) (fun i _ => rfl)), trivial⟩) ?_
     refine x_r [(3, .new 127), (4, .new 128)] [3, 4, 8, 11, 12, 15, 85, 86, 87] [4, 8, 15, 29, 33, 128, 8311, 8401, 8402] [I share, .ref 4 0, .ref 8 0, .arr 29, .arr 33, .ref 15 0, slFeat false t.Feats, I (t.Feats.length : Int), I t87] [some (bxTrained t), some (.box [Sv (⟨#[]⟩ : ByteArray), nilA, nilA, I 0]), some (.box [Sv t.Label, .arr 8311, .arr 128, I (t.Count + 1)]), some (tOLI 8401 ((xt'.set t87.toNat ([] : List Int)).set t87.toNat list'_3)), some (tOLI 8402 ((yt'.set t87.toNat ([] : List Int)).set t87.toNat list'_4)), some (.arr 3 (fs.length + 1) (catF fs.length (fFeat fs) (litF [I (towI ((at_ t.Feats t87.toNat).X) v_3 ((at_ t.Base t87.toNat).X) share), I (towI ((at_ t.Feats t87.toNat).Y) v_4 ((at_ t.Base t87.toNat).Y) share), I ((at_ t.Feats t87.toNat).D)] 3))), some (tAFeat out_2), some (tFLI ((xt'.set t87.toNat ([] : List Int)).set t87.toNat list'_3)), some (tFLI ((yt'.set t87.toNat ([] : List Int)).set t87.toNat list'_4))] [(fs.length + 1) * 24 ≤ 140737488355328] ⟨(by omega), trivial⟩ ?_
     refine xe_block 3 ?_
     refine xe_then ?_
     refine x_r [] [3, 4, 8, 11, 12, 15, 85, 86, 87] [4, 8, 15, 29, 33, 128, 8311, 8401, 8402] [I share, .ref 4 0, .ref 8 0, .arr 29, .arr 33, .ref 15 0, slFeat false t.Feats, I (t.Feats.length : Int), I (t87 + 1)] [some (bxTrained t), some (.box [Sv (⟨#[]⟩ : ByteArray), nilA, nilA, I 0]), some (.box [Sv t.Label, .arr 8311, .arr 128, I (t.Count + 1)]), some (tOLI 8401 ((xt'.set t87.toNat ([] : List Int)).set t87.toNat list'_3)), some (tOLI 8402 ((yt'.set t87.toNat ([] : List Int)).set t87.toNat list'_4)), some (.arr 3 (fs.length + 1) (catF fs.length (fFeat fs) (litF [I (towI ((at_ t.Feats t87.toNat).X) v_3 ((at_ t.Base t87.toNat).X) share), I (towI ((at_ t.Feats t87.toNat).Y) v_4 ((at_ t.Base t87.toNat).Y) share), I ((at_ t.Feats t87.toNat).D)] 3))), some (tAFeat out_2), some (tFLI ((xt'.set t87.toNat ([] : List Int)).set t87.toNat list'_3)), some (tFLI ((yt'.set t87.toNat ([] : List Int)).set t87.toNat list'_4))] [inR .i64 (t87 + 1)] ⟨(inR_i64 (by omega) (by omega)), trivial⟩ ?_
     refine xe_weak [(852, 128)] (T := [(3, I share), (4, .ref 4 0), (8, .ref 8 0), (11, .arr 29), (12, .arr 33), (15, .ref 15 0), (85, slFeat false t.Feats), (86, I (t.Feats.length : Int)), (87, I (t87 + 1))]) (O := [(4, bxTrained t), (8, .box [Sv (⟨#[]⟩ : ByteArray), nilA, nilA, I 0]), (15, .box [Sv t.Label, .arr 8311, .arr 852, I (t.Count + 1)]), (29, tOLI 8401 ((xt'.set t87.toNat ([] : List Int)).set t87.toNat list'_3)), (33, tOLI 8402 ((yt'.set t87.toNat ([] : List Int)).set t87.toNat list'_4)), (852, tAFeat (fs ++ [(Feat.mk (towI ((at_ t.Feats t87.toNat).X) v_3 ((at_ t.Base t87.toNat).X) share) (towI ((at_ t.Feats t87.toNat).Y) v_4 ((at_ t.Base t87.toNat).Y) share) ((at_ t.Feats t87.toNat).D))])), (8311, tAFeat out_2), (8401, tFLI ((xt'.set t87.toNat ([] : List Int)).set t87.toNat list'_3)), (8402, tFLI ((yt'.set t87.toNat ([] : List Int)).set t87.toNat list'_4))]) rfl (⟨.inl rfl, .inl rfl, .inl rfl, .inl rfl, .inl rfl, .inl rfl, .inl rfl, .inl rfl, .inl rfl, trivial⟩) (⟨.inl rfl, .inl rfl, .inl rfl, .inl rfl, .inl rfl, .inr ⟨rfl, (by first | rfl | (simp; done) | (simp; omega) | omega), fun i_ hi_ => .inl (cat_snoc (enc := cFeat) (xs := fs) rfl i_ hi_)⟩, .inl rfl, .inl rfl, .inl rfl, trivial⟩) (xe_again ((t87 + 1), (fs ++ [(Feat.mk (towI ((at_ t.Feats t87.toNat).X) v_3 ((at_ t.Base t87.toNat).X) share) (towI ((at_ t.Feats t87.toNat).Y) v_4 ((at_ t.Base t87.toNat).Y) share) ((at_ t.Feats t87.toNat).D))]), ((xt'.set t87.toNat ([] : List Int)).set t87.toNat list'_3), ((yt'.set t87.toNat ([] : List Int)).set t87.toNat list'_4)) rfl (show (0 ≤ (t87 + 1) ∧ (t87 + 1) ≤ (t.Feats.length : Int)) ∧ (tabR Feat.X v_1 sample (t87 + 1).toNat t.Feats.length ((xt'.set t87.toNat ([] : List Int)).set t87.toNat list'_3)) ∧ (tabR Feat.Y v_1 sample (t87 + 1).toNat t.Feats.length ((yt'.set t87.toNat ([] : List Int)).set t87.toNat list'_4)) ∧ ((fs ++ [(Feat.mk (towI ((at_ t.Feats t87.toNat).X) v_3 ((at_ t.Base t87.toNat).X) share) (towI ((at_ t.Feats t87.toNat).Y) v_4 ((at_ t.Base t87.toNat).Y) share) ((at_ t.Feats t87.toNat).D))]) = adpN t sample band share (t87 + 1).toNat) ∧ True from ⟨(by omega), (by rw [show (t87 + 1).toNat = t87.toNat + 1 from by omega]; exact tabR_next hxt'), (by rw [show (t87 + 1).toNat = t87.toNat + 1 from by omega]; exact tabR_next hyt'), (by (rw [show (t87 + 1).toNat = t87.toNat + 1 from by omega, hfs]; exact adpN_succ (by rw [had, hix, hMX, hMY]))), trivial⟩) (by first | (show (((t.Feats.length : Int) - (t87 + 1)).toNat : Nat) < ((t.Feats.length : Int) - t87).toNat; omega) | (dsimp only; omega)))
    have hie : t87.toNat = t.Feats.length := by omega
    refine x_r [(0, .dec false)] [3, 4, 8, 11, 12, 15, 85, 86, 87, 88] [4, 8, 15, 29, 33, 852, 8311, 8401, 8402] [I share, .ref 4 0, .ref 8 0, .arr 29, .arr 33, .ref 15 0, slFeat false t.Feats, I (t.Feats.length : Int), I t87, Bv false] [some (bxTrained t), some (.box [Sv (⟨#[]⟩ : ByteArray), nilA, nilA, I 0]), some (.box [Sv t.Label, .arr 8311, .arr 852, I (t.Count + 1)]), some (tOLI 8401 xt'), some (tOLI 8402 yt'), some (tAFeat fs), some (tAFeat out_2), some (tFLI xt'), some (tFLI yt')] [¬ (t87 < (t.Feats.length : Int))] ⟨h2, trivial⟩ ?_
    refine xe_then ?_
    refine x_seq ?_
    refine x_false rfl ?_
    refine x_exit ?_
    refine xe_exit_then ?_
    refine xe_loop_exit ?_
    refine xe_exit_same ?_
    refine xe_then ?_
    refine xR [] [8] [8, 852, 8311] [.ref 8 0] [some (.box [Sv t.Label, .arr 8311, .arr 852, I (t.Count + 1)]), some (tAFeat fs), some (tAFeat out_2)] [] trivial ?_
    refine x_ret ?_
    refine xe_end (Trained.mk t.Label out_2 fs (t.Count + 1)) (show ((Trained.mk t.Label out_2 fs (t.Count + 1)) = adpT t sample band share) ∧ (True) from ⟨(by first | (unfold adpT; rw [hfs, hie]; done) | (unfold adpT; rw [hfs, hie]; subst_vars; rfl) | (unfold adpT; rw [hfs, hie]; simp [*]; done)), trivial⟩) (trivial) (.agg [Sv t.Label, .arr 8311, .arr 852, I (t.Count + 1)]) (by kernel_rfl) (.inr ⟨rfl, ⟨⟨(fun _ => rfl), rfl, rfl, fun i _ => .inl rfl⟩, ⟨⟨(fun _ => rfl), rfl, rfl, fun i _ => .inl rfl⟩, ⟨rfl, rfl⟩⟩⟩⟩) (fun _ => rfl) (fun _ => (by simp [tagged, taggedL, tagFeat]))
  obtain ⟨v, ⟨hh0, _⟩, hc⟩ := hh
  exact ⟨v, hh0, hc⟩


-- impl.startTrained
theorem startTrained_ok (t : Template) (hl : t.Feats.length ≤ 72) : ∃ (bs : List Feat) (fs : List Feat), (bs = t.Feats) ∧ (fs = t.Feats) ∧ CallOK Tryz.prog 37 [agTemplate t] (lookO []) false (.agg [Sv t.Label, .arr 8311, .arr 8312, I 0]) (lookO [(8311, tAFeat bs), (8312, tAFeat fs)]) := by
  have hh : ∃ r : (List Feat) × (List Feat), ((r.1 = t.Feats) ∧ (r.2 = t.Feats) ∧ (True)) ∧ CallOK Tryz.prog 37 [agTemplate t] (lookO []) false (.agg [Sv t.Label, .arr 8311, .arr 8312, I 0]) (lookO [(8311, tAFeat r.1), (8312, tAFeat r.2)]) := by
    refine fn_okX (Φ := fun r : (List Feat) × (List Feat) => (r.1 = t.Feats) ∧ (r.2 = t.Feats) ∧ (True)) [] (fun r => [(8311, tAFeat r.1), (8312, tAFeat r.2)]) (fn := Tryz.f37) (nt := 12) Tryz.func37 rfl rfl (args := [agTemplate t]) rfl (allcons (.inl ⟨rfl, by simp [tagged, taggedL, tagFeat]⟩) allnil) (res := fun r => .agg [Sv t.Label, .arr 8311, .arr 8312, I 0]) ?_
    refine xR [(0, .new 1), (1, .new 2)] [1, 2] [1, 2] [.ref 1 0, .ref 2 0] [some (bxTemplate t), some (.box [Sv (⟨#[]⟩ : ByteArray), nilA, nilA, I 0])] [] trivial ?_
    refine x_seq ?_
    obtain ⟨out_1, hx1_0, hc1⟩ := cloneF0_ok t.Feats (by omega)
    obtain ⟨out_2, hx2_0, hc2⟩ := cloneF1_ok t.Feats (by omega)
    refine x_r [(4, .lend [] [(8311, tAFeat out_1)] [(true, .any)] false (.arr 8311)), (7, .lend [] [(8312, tAFeat out_2)] [(true, .any)] false (.arr 8312))] [2] [2, 8311, 8312] [.ref 2 0] [some (.box [Sv t.Label, .arr 8311, .arr 8312, I 0]), some (tAFeat out_1), some (tAFeat out_2)] [CallOK Tryz.prog 36 [slFeat false t.Feats] (lookO []) false (.arr 8311) (lookO [(8311, tAFeat out_1)]) ∧ True, CallOK Tryz.prog 36 [slFeat false t.Feats] (lookO []) false (.arr 8312) (lookO [(8312, tAFeat out_2)]) ∧ True] ⟨⟨hc1, trivial⟩, ⟨hc2, trivial⟩, trivial⟩ ?_
    refine xe_then ?_
    refine x_ret ?_
    refine xe_end (out_1, out_2) (show (out_1 = t.Feats) ∧ (out_2 = t.Feats) ∧ (True) from ⟨(by assumption), (by assumption), trivial⟩) (⟨.inl rfl, .inl rfl, trivial⟩) (.agg [Sv t.Label, .arr 8311, .arr 8312, I 0]) (by kernel_rfl) (.inl rfl) (fun h => by cases h) (fun h => by cases h)
  obtain ⟨⟨bs, fs⟩, ⟨hh0, hh1, _⟩, hc⟩ := hh
  exact ⟨bs, fs, hh0, hh1, hc⟩

end Go.Proofs.YtjiflhglbephbaaGreat.Ax
