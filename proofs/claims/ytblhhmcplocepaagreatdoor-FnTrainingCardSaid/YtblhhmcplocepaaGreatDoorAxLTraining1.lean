/- Contracts that the statement FnTraining reaches, part 1. No conditions. -/
import Derived.Test.YtblhhmcplocepaaGreatDoorAxO
import Derived.Test.YtblhhmcplocepaaGreatDoorShelf
import Derived.Test.YtblhhmcplocepaaGreatDoorTie
import Derived.Test.YtblhhmcplocepaaGreatDoorCards
import Derived.LaidMore
import Derived.Lay
import Derived.Lib.IndexBytes
import Derived.Lib.ItoaNum
import Derived.Lib.ParseIntBCases
import Derived.Lib.ParseIntBTie
import Derived.Lib.SplitLaws
import Derived.OpenShut
import Derived.SevenTiedAt
import Derived.Stop.Joined
import Derived.Test.YtblhhmcplocepaaGreatDoorAxBd
import Derived.Test.YtblhhmcplocepaaGreatDoorAxQ
import Derived.Test.YtblhhmcplocepaaGreatDoorAxR
import Derived.Test.YtblhhmcplocepaaGreatDoorAxS
import Derived.Test.YtblhhmcplocepaaGreatDoorAxY
import Derived.Test.YtblhhmcplocepaaGreatDoorDelShelf
namespace Go.Proofs.YtblhhmcplocepaaGreatDoor.Ax
open Go.RowKit Go.ChangeShapes Go.WideShapes
set_option linter.unusedVariables false
set_option linter.unusedSimpArgs false
def cU8 (x : Int) : List AV := [.val (.int .u8 x)]
def fU8 (xs : List Int) (i : Nat) : List AV := cU8 (at_ xs i)
def Zgk (fr : Bool) (xs : List Int) : AV := .sl fr 1 xs.length (fU8 xs)
theorem tagcU8 (t : Bool) (x : Int) : Zah t (cU8 x) := by simp [cU8, Zah, Zak]
theorem Zdj (t : Bool) (xs : List Int) : Zak t (Zgk t xs) := by simp only [Zgk, Zak]; exact ⟨trivial, fun i _ => tagcU8 t _⟩
abbrev Zne (xs : List Int) : Ob := .arr 1 xs.length (fU8 xs)
def cS (x : ByteArray) : List AV := [Sv x]
def fS (xs : List ByteArray) (i : Nat) : List AV := cS (at_ xs i)
def slS (fr : Bool) (xs : List ByteArray) : AV := .sl fr 1 xs.length (fS xs)
theorem tagcS (t : Bool) (x : ByteArray) : Zah t (cS x) := by simp [cS, Zah, Zak]
theorem Zer (t : Bool) (xs : List ByteArray) : Zak t (slS t xs) := by simp only [slS, Zak]; exact ⟨trivial, fun i _ => tagcS t _⟩
abbrev tAS (xs : List ByteArray) : Ob := .arr 1 xs.length (fS xs)
def cI (x : Int) : List AV := [I x]
def fI (xs : List Int) (i : Nat) : List AV := cI (at_ xs i)
def slI (fr : Bool) (xs : List Int) : AV := .sl fr 1 xs.length (fI xs)
theorem tagcI (t : Bool) (x : Int) : Zah t (cI x) := by simp [cI, Zah, Zak]
theorem Zpg (t : Bool) (xs : List Int) : Zak t (slI t xs) := by simp only [slI, Zak]; exact ⟨trivial, fun i _ => tagcI t _⟩
abbrev tAI (xs : List Int) : Ob := .arr 1 xs.length (fI xs)
def cLI (fr : Bool) (x : List Int) : List AV := [slI fr x]
def fLI (fr : Bool) (xs : List (List Int)) (i : Nat) : List AV := cLI fr (at_ xs i)
def Zbg (fr : Bool) (xs : List (List Int)) : AV := .sl fr 1 xs.length (fLI fr xs)
theorem tagcLI (t : Bool) (x : List Int) : Zah t (cLI t x) := by simp [cLI, Zah, Zak, Zpg]
theorem Zdd (t : Bool) (xs : List (List Int)) : Zak t (Zbg t xs) := by simp only [Zbg, Zak]; exact ⟨trivial, fun i _ => tagcLI t _⟩
theorem Zev (fr : Bool) (x : List Int) : AV.idsL (cLI fr x) = [] := rfl
theorem Zjp (fr : Bool) (x : List Int) (ob : Nat → Option Ob) : leL ob false (cLI fr x) (cLI false x) := (And.intro (And.intro (fun h => by cases h) (And.intro rfl (And.intro rfl (fun i _ => .inl rfl)))) rfl)
structure Perceptron where
  Labels : List ByteArray
  Weights : List (List Int)
deriving DecidableEq, Inhabited
abbrev Zag (x : Perceptron) : Ob := .box [slS false x.Labels, Zbg false x.Weights]
abbrev Zae (x : Perceptron) : AV := .agg [slS false x.Labels, Zbg false x.Weights]
abbrev Zad (x : Perceptron) : Ob := .box [slS true x.Labels, Zbg true x.Weights]
abbrev Zan (x : Perceptron) : AV := .agg [slS true x.Labels, Zbg true x.Weights]
structure Feat where
  X : Int
  Y : Int
  D : Int
deriving DecidableEq, Inhabited
def Zhc (x : Feat) : List AV := [I x.X, I x.Y, I x.D]
def Zdr (xs : List Feat) (i : Nat) : List AV := Zhc (at_ xs i)
def Zau (fr : Bool) (xs : List Feat) : AV := .sl fr 3 xs.length (Zdr xs)
theorem tagcFeat (t : Bool) (x : Feat) : Zah t (Zhc x) := by simp [Zhc, Zah, Zak]
theorem Zef (t : Bool) (xs : List Feat) : Zak t (Zau t xs) := by simp only [Zau, Zak]; exact ⟨trivial, fun i _ => tagcFeat t _⟩
abbrev Zlg (x : Feat) : Ob := .box [I x.X, I x.Y, I x.D]
abbrev Zmo (x : Feat) : AV := .agg [I x.X, I x.Y, I x.D]
abbrev Zdz (xs : List Feat) : Ob := .arr 3 xs.length (Zdr xs)
structure Sample where
  Label : ByteArray
  Feats : List Feat
deriving DecidableEq, Inhabited
def Zec (fr : Bool) (x : Sample) : List AV := [Sv x.Label, Zau fr x.Feats]
def Zcq (fr : Bool) (xs : List Sample) (i : Nat) : List AV := Zec fr (at_ xs i)
def Zaj (fr : Bool) (xs : List Sample) : AV := .sl fr 2 xs.length (Zcq fr xs)
theorem Yab (t : Bool) (x : Sample) : Zah t (Zec t x) := by simp [Zec, Zah, Zak, Zef]
theorem Zdq (t : Bool) (xs : List Sample) : Zak t (Zaj t xs) := by simp only [Zaj, Zak]; exact ⟨trivial, fun i _ => Yab t _⟩
theorem Ydv (fr : Bool) (x : Sample) : AV.idsL (Zec fr x) = [] := rfl
theorem leSample (fr : Bool) (x : Sample) (ob : Nat → Option Ob) : leL ob false (Zec fr x) (Zec false x) := (And.intro rfl (And.intro (And.intro (fun h => by cases h) (And.intro rfl (And.intro rfl (fun i _ => .inl rfl)))) rfl))
abbrev Zfq (x : Sample) : Ob := .box [Sv x.Label, Zau false x.Feats]
abbrev Zcy (x : Sample) : AV := .agg [Sv x.Label, Zau false x.Feats]
abbrev Zdk (x : Sample) : Ob := .box [Sv x.Label, Zau true x.Feats]
abbrev Zho (x : Sample) : AV := .agg [Sv x.Label, Zau true x.Feats]
abbrev Zcb (fr : Bool) (xs : List Sample) : Ob := .arr 2 xs.length (Zcq fr xs)
def cLU8 (fr : Bool) (x : List Int) : List AV := [Zgk fr x]
structure l00Src where
  code : List Int
  atx : Int
  seed : Int
deriving DecidableEq, Inhabited
abbrev Zaa (x : l00Src) : Ob := .box [Zgk false x.code, I x.atx, .val (.int .u64 x.seed)]
theorem Zxh (code : List Int) : Con Tryz.prog 4 [Zgk false code] true (Bv (decide (4096 < (code.length : Int)))) := by
  refine Zdc (fn := Tryz.f4) (nt := 6) Tryz.func4 rfl rfl rfl rfl (by simp [Zah, Zak, Zdj]) fun B hB => ?_
  refine Zcg (x := Zgk false code) 0 rfl (fun len_code => ?_)
  simp [Zdt, Zgj, cU8, fU8, Zgk] at len_code
  refine aR [] [0] [] [Zgk false code] [] [] hB trivial ?_
  refine aR [] [2] [] [Bv (decide (4096 < (code.length : Int)))] [] [] hB trivial ?_
  refine Zax ?_
  refine Zba hB (Bv (decide (4096 < (code.length : Int)))) (by kernel_rfl) (.inl rfl) rfl (fun _ => trivial)
def same {α : Type} [DecidableEq α] (x y : α) : Bool := decide (x = y)
theorem Yda {α : Type} [Inhabited α] {xs ys : List α} (hl : xs.length = ys.length) (h : ∀ j : Nat, j < xs.length → at_ xs j = at_ ys j) : xs = ys := by
  apply List.ext_getElem hl
  intro i h1 h2
  rw [← Zez h1, ← Zez h2]
  exact h i h1
theorem Zct {α : Type} [Inhabited α] {xs : List α} {i : Nat} (h : i < xs.length) : at_ xs i ∈ xs := by rw [Zez h]; exact List.getElem_mem h
def Zim (n : Nat) (p : Nat → Bool) : Bool := (List.range n).all p
def Zkj (n : Nat) (p : Nat → Bool) : Bool := !(Zim n fun j => !(p j))
theorem Zjv {n : Nat} {p : Nat → Bool} : Zim n p = true ↔ ∀ j, j < n → p j = true := by simp [Zim, List.all_eq_true]
theorem Zff {n : Nat} {p : Nat → Bool} (h : ∀ j, j < n → p j = true) : Zim n p = true := Zjv.2 h
theorem Zhh {n : Nat} {p : Nat → Bool} (h : Zim n p = true) {k : Nat} (hk : k < n) : p k = true := Zjv.1 h k hk
theorem Zfx {n : Nat} {p : Nat → Bool} {k : Nat} (hk : k < n) (h : p k = false) : Zim n p = false := by
  rw [← Bool.not_eq_true, Zjv]; intro h'; rw [h' k hk] at h; cases h
theorem Zdo (n : Nat) (p : Nat → Bool) : Zkj n (fun j => !(p j)) = !(Zim n p) := by simp [Zkj]
theorem anyN_at {n : Nat} {p : Nat → Bool} {k : Nat} (hk : k < n) (h : p k = true) : Zkj n p = true := by
  unfold Zkj; rw [Zfx hk (by simp [h])]; rfl
theorem Yeb {n : Nat} {p : Nat → Bool} (h : ∀ j, j < n → p j = false) : Zkj n p = false := by
  unfold Zkj; rw [Zff (fun j hj => by simp [h j hj])]; rfl
def Zbj (s : l00Src) : Prop := (∀ j, j < s.code.length → 0 ≤ at_ s.code j ∧ at_ s.code j ≤ 255) ∧ 0 ≤ s.atx ∧ s.code.length ≤ 4611686018427387904
theorem Yec (a : Int) : 0 ≤ Zhl .and .u64 a 255 ∧ Zhl .and .u64 a 255 ≤ 255 := by
  obtain ⟨n, hn⟩ : ∃ n : Nat, n = (BitVec.ofInt 64 a &&& BitVec.ofInt 64 255).toNat := ⟨_, rfl⟩
  have h : n ≤ 255 := by rw [hn, BitVec.toNat_and]; exact Nat.and_le_right
  have e : Zhl .and .u64 a 255 = IntKind.u64.wrap (n : Int) := by rw [hn]; rfl
  have w : IntKind.u64.wrap (n : Int) = n := Zid (Zvf (by omega) (by omega))
  rw [e, w]; omega
theorem Zqo (code : List Int) : ∃ (s' : l00Src), (s'.code = code ∧ s'.atx = 0) ∧ Zaz Tryz.prog 17 [Zgk false code] (Zaf []) false (.ref 7001 0) (Zaf [(7001, Zaa s')]) := by
  have hh : ∃ r : l00Src, ((r.code = code ∧ r.atx = 0) ∧ (True)) ∧ Zaz Tryz.prog 17 [Zgk false code] (Zaf []) false (.ref 7001 0) (Zaf [(7001, Zaa r)]) := by
    refine Zde (Φ := fun r : l00Src => (r.code = code ∧ r.atx = 0) ∧ (True)) [] (fun r => [(7001, Zaa r)]) (fn := Tryz.f17) (nt := 6) Tryz.func17 rfl rfl (args := [Zgk false code]) rfl (Zbw (.inl ⟨rfl, Zdj false _⟩) Zdb) (res := fun r => .ref 7001 0) ?_
    refine xR [] [0] [] [Zgk false code] [] [] trivial ?_
    refine xR [(2, .new 7001)] [2] [7001] [.ref 7001 0] [some (.box [Zgk false code, I 0, .val (.int .u64 0)])] [] trivial ?_
    refine Zcf ?_
    refine Zbn (l00Src.mk code 0 0) (show ((l00Src.mk code 0 0).code = code ∧ (l00Src.mk code 0 0).atx = 0) ∧ (True) from ⟨(by first | rfl | (exact ⟨rfl, rfl⟩)), trivial⟩) (⟨.inl rfl, trivial⟩) (.ref 7001 0) (by kernel_rfl) (.inl rfl) (fun h => by cases h) (fun h => by cases h)
  obtain ⟨s', ⟨hh0, _⟩, hc⟩ := hh
  exact ⟨s', hh0, hc⟩
theorem Yed (s : l00Src) (hs : Zbj s) (ha : s.atx ≤ 4000000000000000000) : ∃ (v : Int) (s' : l00Src), (0 ≤ v ∧ v ≤ 255) ∧ (Zbj s') ∧ (s'.code = s.code) ∧ (s.atx + 1 ≤ s'.atx ∧ s'.atx ≤ s.atx + 1) ∧ Zaz Tryz.prog 86 [.ref 7001 0] (Zaf [(7001, Zaa s)]) true (I v) (Zaf [(7001, Zaa s')]) := by
  have hs0 := hs.2.1
  have hs1 := hs.2.2
  have hh : ∃ r : Int × l00Src, ((0 ≤ r.1 ∧ r.1 ≤ 255) ∧ (Zbj r.2) ∧ (r.2.code = s.code) ∧ (s.atx + 1 ≤ r.2.atx ∧ r.2.atx ≤ s.atx + 1) ∧ (True)) ∧ Zaz Tryz.prog 86 [.ref 7001 0] (Zaf [(7001, Zaa s)]) true (I r.1) (Zaf [(7001, Zaa r.2)]) := by
    refine Zde (Φ := fun r : Int × l00Src => (0 ≤ r.1 ∧ r.1 ≤ 255) ∧ (Zbj r.2) ∧ (r.2.code = s.code) ∧ (s.atx + 1 ≤ r.2.atx ∧ r.2.atx ≤ s.atx + 1) ∧ (True)) [(7001, Zaa s)] (fun r => [(7001, Zaa r.2)]) (fn := Tryz.f86) (nt := 62) Tryz.func86 rfl rfl (args := [.ref 7001 0]) rfl (Zbw (.inr trivial) Zdb) (res := fun r => I r.1) ?_
    refine xR [] [0] [7001] [.ref 7001 0] [some (Zaa s)] [] trivial ?_
    refine xR [] [0, 3] [7001] [.ref 7001 0, I 0] [some (Zaa s)] [] trivial ?_
    refine Zap ?_
    refine Zap ?_
    by_cases h1 : s.atx < (s.code.length : Int)
    ·have hbt := hs.1 s.atx.toNat (by omega)
     refine x_r [(9, .dec true)] [0, 3, 13] [7001] [.ref 7001 0, I 0, Bv true] [some (Zaa s)] [s.atx < (s.code.length : Int)] ⟨h1, trivial⟩ ?_
     refine Zab ?_
     refine Zbq rfl ?_
     refine x_r [] [0, 3] [7001] [.ref 7001 0, I (at_ s.code s.atx.toNat)] [some (Zaa s)] [(0 : Int) ≤ s.atx ∧ s.atx < (s.code.length : Int), inR .i64 (at_ s.code s.atx.toNat)] ⟨⟨(by omega), (by omega)⟩, (Zam (by omega) (by omega)), trivial⟩ ?_
     refine Zab ?_
     refine xR [] [0, 3] [7001] [.ref 7001 0, I (at_ s.code s.atx.toNat)] [some (.box [Zgk false s.code, I (s.atx + 1), .val (.int .u64 s.seed)])] [inR .i64 (s.atx + 1)] ⟨(Zam (by omega) (by omega)), trivial⟩ ?_
     refine xR [(5, .wrap), (8, .wrap), (9, .wrap)] [0, 3] [7001] [.ref 7001 0, I (at_ s.code s.atx.toNat)] [some (.box [Zgk false s.code, I (s.atx + 1), .val (.int .u64 (IntKind.u64.wrap ((IntKind.u64.wrap ((IntKind.u64.wrap (s.seed * 6364136223846793005)) + (at_ s.code s.atx.toNat))) + 1442695040888963407)))])] [inR .u64 (at_ s.code s.atx.toNat)] ⟨(Zvf (by omega) (by omega)), trivial⟩ ?_
     refine Zap ?_
     refine Zap ?_
     by_cases h2 : (s.atx + 1) ≤ (s.code.length : Int)
     ·refine x_r [(9, .dec true)] [0, 3, 53] [7001] [.ref 7001 0, I (at_ s.code s.atx.toNat), Bv true] [some (.box [Zgk false s.code, I (s.atx + 1), .val (.int .u64 (IntKind.u64.wrap ((IntKind.u64.wrap ((IntKind.u64.wrap (s.seed * 6364136223846793005)) + (at_ s.code s.atx.toNat))) + 1442695040888963407)))])] [(s.atx + 1) ≤ (s.code.length : Int)] ⟨h2, trivial⟩ ?_
      refine Zab ?_
      refine Zbq rfl ?_
      refine xR [] [2] [7001] [I (at_ s.code s.atx.toNat)] [some (.box [Zgk false s.code, I (s.atx + 1), .val (.int .u64 (IntKind.u64.wrap ((IntKind.u64.wrap ((IntKind.u64.wrap (s.seed * 6364136223846793005)) + (at_ s.code s.atx.toNat))) + 1442695040888963407)))])] [] trivial ?_
      refine Zcf ?_
      refine Zbd ?_
      refine Zbn ((at_ s.code s.atx.toNat), (l00Src.mk s.code (s.atx + 1) (IntKind.u64.wrap ((IntKind.u64.wrap ((IntKind.u64.wrap (s.seed * 6364136223846793005)) + (at_ s.code s.atx.toNat))) + 1442695040888963407)))) (show (0 ≤ (at_ s.code s.atx.toNat) ∧ (at_ s.code s.atx.toNat) ≤ 255) ∧ (Zbj (l00Src.mk s.code (s.atx + 1) (IntKind.u64.wrap ((IntKind.u64.wrap ((IntKind.u64.wrap (s.seed * 6364136223846793005)) + (at_ s.code s.atx.toNat))) + 1442695040888963407)))) ∧ ((l00Src.mk s.code (s.atx + 1) (IntKind.u64.wrap ((IntKind.u64.wrap ((IntKind.u64.wrap (s.seed * 6364136223846793005)) + (at_ s.code s.atx.toNat))) + 1442695040888963407))).code = s.code) ∧ (s.atx + 1 ≤ (l00Src.mk s.code (s.atx + 1) (IntKind.u64.wrap ((IntKind.u64.wrap ((IntKind.u64.wrap (s.seed * 6364136223846793005)) + (at_ s.code s.atx.toNat))) + 1442695040888963407))).atx ∧ (l00Src.mk s.code (s.atx + 1) (IntKind.u64.wrap ((IntKind.u64.wrap ((IntKind.u64.wrap (s.seed * 6364136223846793005)) + (at_ s.code s.atx.toNat))) + 1442695040888963407))).atx ≤ s.atx + 1) ∧ (True) from ⟨(by first | omega | rfl | assumption | (dsimp only; first | omega | rfl | assumption) | (simp only [*]; done) | exact ⟨hs.1, (by dsimp only; omega), hs1⟩), (by first | omega | rfl | assumption | (dsimp only; first | omega | rfl | assumption) | (simp only [*]; done) | exact ⟨hs.1, (by dsimp only; omega), hs1⟩), (by first | omega | rfl | assumption | (dsimp only; first | omega | rfl | assumption) | (simp only [*]; done) | exact ⟨hs.1, (by dsimp only; omega), hs1⟩), (by first | omega | rfl | assumption | (dsimp only; first | omega | rfl | assumption) | (simp only [*]; done) | exact ⟨hs.1, (by dsimp only; omega), hs1⟩), trivial⟩) (⟨.inl rfl, trivial⟩) (I (at_ s.code s.atx.toNat)) (by kernel_rfl) (.inl rfl) (fun _ => rfl) (fun _ => trivial)
     refine x_r [(9, .dec false)] [0, 3, 53] [7001] [.ref 7001 0, I (at_ s.code s.atx.toNat), Bv false] [some (.box [Zgk false s.code, I (s.atx + 1), .val (.int .u64 (IntKind.u64.wrap ((IntKind.u64.wrap ((IntKind.u64.wrap (s.seed * 6364136223846793005)) + (at_ s.code s.atx.toNat))) + 1442695040888963407)))])] [¬ ((s.atx + 1) ≤ (s.code.length : Int))] ⟨h2, trivial⟩ ?_
     refine Zab ?_
     refine Zbe rfl ?_
     refine Zca ?_
     refine Zab ?_
     refine Zap ?_
     have hb1 := Yec ((IntKind.u64.wrap ((IntKind.u64.wrap ((IntKind.u64.wrap (s.seed * 6364136223846793005)) + (at_ s.code s.atx.toNat))) + 1442695040888963407)) / 1099511627776)
     refine x_r [] [2] [7001] [I (Zhl .and .u64 ((IntKind.u64.wrap ((IntKind.u64.wrap ((IntKind.u64.wrap (s.seed * 6364136223846793005)) + (at_ s.code s.atx.toNat))) + 1442695040888963407)) / 1099511627776) 255)] [some (.box [Zgk false s.code, I (s.atx + 1), .val (.int .u64 (IntKind.u64.wrap ((IntKind.u64.wrap ((IntKind.u64.wrap (s.seed * 6364136223846793005)) + (at_ s.code s.atx.toNat))) + 1442695040888963407)))])] [(0 : Int) ≤ 40 ∧ (40 : Int) ≤ ((IntKind.bits .u64 : Nat) : Int), inR .i64 (Zhl .and .u64 ((IntKind.u64.wrap ((IntKind.u64.wrap ((IntKind.u64.wrap (s.seed * 6364136223846793005)) + (at_ s.code s.atx.toNat))) + 1442695040888963407)) / 1099511627776) 255)] ⟨⟨(by decide), (by decide)⟩, (Zam (by omega) (by omega)), trivial⟩ ?_
     refine Zab ?_
     refine Zcf ?_
     refine Zbn ((Zhl .and .u64 ((IntKind.u64.wrap ((IntKind.u64.wrap ((IntKind.u64.wrap (s.seed * 6364136223846793005)) + (at_ s.code s.atx.toNat))) + 1442695040888963407)) / 1099511627776) 255), (l00Src.mk s.code (s.atx + 1) (IntKind.u64.wrap ((IntKind.u64.wrap ((IntKind.u64.wrap (s.seed * 6364136223846793005)) + (at_ s.code s.atx.toNat))) + 1442695040888963407)))) (show (0 ≤ (Zhl .and .u64 ((IntKind.u64.wrap ((IntKind.u64.wrap ((IntKind.u64.wrap (s.seed * 6364136223846793005)) + (at_ s.code s.atx.toNat))) + 1442695040888963407)) / 1099511627776) 255) ∧ (Zhl .and .u64 ((IntKind.u64.wrap ((IntKind.u64.wrap ((IntKind.u64.wrap (s.seed * 6364136223846793005)) + (at_ s.code s.atx.toNat))) + 1442695040888963407)) / 1099511627776) 255) ≤ 255) ∧ (Zbj (l00Src.mk s.code (s.atx + 1) (IntKind.u64.wrap ((IntKind.u64.wrap ((IntKind.u64.wrap (s.seed * 6364136223846793005)) + (at_ s.code s.atx.toNat))) + 1442695040888963407)))) ∧ ((l00Src.mk s.code (s.atx + 1) (IntKind.u64.wrap ((IntKind.u64.wrap ((IntKind.u64.wrap (s.seed * 6364136223846793005)) + (at_ s.code s.atx.toNat))) + 1442695040888963407))).code = s.code) ∧ (s.atx + 1 ≤ (l00Src.mk s.code (s.atx + 1) (IntKind.u64.wrap ((IntKind.u64.wrap ((IntKind.u64.wrap (s.seed * 6364136223846793005)) + (at_ s.code s.atx.toNat))) + 1442695040888963407))).atx ∧ (l00Src.mk s.code (s.atx + 1) (IntKind.u64.wrap ((IntKind.u64.wrap ((IntKind.u64.wrap (s.seed * 6364136223846793005)) + (at_ s.code s.atx.toNat))) + 1442695040888963407))).atx ≤ s.atx + 1) ∧ (True) from ⟨(by first | omega | rfl | assumption | (dsimp only; first | omega | rfl | assumption) | (simp only [*]; done) | exact ⟨hs.1, (by dsimp only; omega), hs1⟩), (by first | omega | rfl | assumption | (dsimp only; first | omega | rfl | assumption) | (simp only [*]; done) | exact ⟨hs.1, (by dsimp only; omega), hs1⟩), (by first | omega | rfl | assumption | (dsimp only; first | omega | rfl | assumption) | (simp only [*]; done) | exact ⟨hs.1, (by dsimp only; omega), hs1⟩), (by first | omega | rfl | assumption | (dsimp only; first | omega | rfl | assumption) | (simp only [*]; done) | exact ⟨hs.1, (by dsimp only; omega), hs1⟩), trivial⟩) (⟨.inl rfl, trivial⟩) (I (Zhl .and .u64 ((IntKind.u64.wrap ((IntKind.u64.wrap ((IntKind.u64.wrap (s.seed * 6364136223846793005)) + (at_ s.code s.atx.toNat))) + 1442695040888963407)) / 1099511627776) 255)) (by kernel_rfl) (.inl rfl) (fun _ => rfl) (fun _ => trivial)
    refine x_r [(9, .dec false)] [0, 3, 13] [7001] [.ref 7001 0, I 0, Bv false] [some (Zaa s)] [¬ (s.atx < (s.code.length : Int))] ⟨h1, trivial⟩ ?_
    refine Zab ?_
    refine Zbe rfl ?_
    refine Zca ?_
    refine Zab ?_
    refine xR [] [0, 3] [7001] [.ref 7001 0, I 0] [some (.box [Zgk false s.code, I (s.atx + 1), .val (.int .u64 s.seed)])] [inR .i64 (s.atx + 1)] ⟨(Zam (by omega) (by omega)), trivial⟩ ?_
    refine xR [(5, .wrap), (8, .wrap), (9, .wrap)] [0, 3] [7001] [.ref 7001 0, I 0] [some (.box [Zgk false s.code, I (s.atx + 1), .val (.int .u64 (IntKind.u64.wrap ((IntKind.u64.wrap ((IntKind.u64.wrap (s.seed * 6364136223846793005)) + 0)) + 1442695040888963407)))])] [inR .u64 0] ⟨(Zvf (by omega) (by omega)), trivial⟩ ?_
    refine Zap ?_
    refine Zap ?_
    by_cases h3 : (s.atx + 1) ≤ (s.code.length : Int)
    ·refine x_r [(9, .dec true)] [0, 3, 53] [7001] [.ref 7001 0, I 0, Bv true] [some (.box [Zgk false s.code, I (s.atx + 1), .val (.int .u64 (IntKind.u64.wrap ((IntKind.u64.wrap ((IntKind.u64.wrap (s.seed * 6364136223846793005)) + 0)) + 1442695040888963407)))])] [(s.atx + 1) ≤ (s.code.length : Int)] ⟨h3, trivial⟩ ?_
     refine Zab ?_
     refine Zbq rfl ?_
     refine xR [] [2] [7001] [I 0] [some (.box [Zgk false s.code, I (s.atx + 1), .val (.int .u64 (IntKind.u64.wrap ((IntKind.u64.wrap ((IntKind.u64.wrap (s.seed * 6364136223846793005)) + 0)) + 1442695040888963407)))])] [] trivial ?_
     refine Zcf ?_
     refine Zbd ?_
     refine Zbn (0, (l00Src.mk s.code (s.atx + 1) (IntKind.u64.wrap ((IntKind.u64.wrap ((IntKind.u64.wrap (s.seed * 6364136223846793005)) + 0)) + 1442695040888963407)))) (show (0 ≤ 0 ∧ 0 ≤ 255) ∧ (Zbj (l00Src.mk s.code (s.atx + 1) (IntKind.u64.wrap ((IntKind.u64.wrap ((IntKind.u64.wrap (s.seed * 6364136223846793005)) + 0)) + 1442695040888963407)))) ∧ ((l00Src.mk s.code (s.atx + 1) (IntKind.u64.wrap ((IntKind.u64.wrap ((IntKind.u64.wrap (s.seed * 6364136223846793005)) + 0)) + 1442695040888963407))).code = s.code) ∧ (s.atx + 1 ≤ (l00Src.mk s.code (s.atx + 1) (IntKind.u64.wrap ((IntKind.u64.wrap ((IntKind.u64.wrap (s.seed * 6364136223846793005)) + 0)) + 1442695040888963407))).atx ∧ (l00Src.mk s.code (s.atx + 1) (IntKind.u64.wrap ((IntKind.u64.wrap ((IntKind.u64.wrap (s.seed * 6364136223846793005)) + 0)) + 1442695040888963407))).atx ≤ s.atx + 1) ∧ (True) from ⟨(by first | omega | rfl | assumption | (dsimp only; first | omega | rfl | assumption) | (simp only [*]; done) | exact ⟨hs.1, (by dsimp only; omega), hs1⟩), (by first | omega | rfl | assumption | (dsimp only; first | omega | rfl | assumption) | (simp only [*]; done) | exact ⟨hs.1, (by dsimp only; omega), hs1⟩), (by first | omega | rfl | assumption | (dsimp only; first | omega | rfl | assumption) | (simp only [*]; done) | exact ⟨hs.1, (by dsimp only; omega), hs1⟩), (by first | omega | rfl | assumption | (dsimp only; first | omega | rfl | assumption) | (simp only [*]; done) | exact ⟨hs.1, (by dsimp only; omega), hs1⟩), trivial⟩) (⟨.inl rfl, trivial⟩) (I 0) (by kernel_rfl) (.inl rfl) (fun _ => rfl) (fun _ => trivial)
    refine x_r [(9, .dec false)] [0, 3, 53] [7001] [.ref 7001 0, I 0, Bv false] [some (.box [Zgk false s.code, I (s.atx + 1), .val (.int .u64 (IntKind.u64.wrap ((IntKind.u64.wrap ((IntKind.u64.wrap (s.seed * 6364136223846793005)) + 0)) + 1442695040888963407)))])] [¬ ((s.atx + 1) ≤ (s.code.length : Int))] ⟨h3, trivial⟩ ?_
    refine Zab ?_
    refine Zbe rfl ?_
    refine Zca ?_
    refine Zab ?_
    refine Zap ?_
    have hb2 := Yec ((IntKind.u64.wrap ((IntKind.u64.wrap ((IntKind.u64.wrap (s.seed * 6364136223846793005)) + 0)) + 1442695040888963407)) / 1099511627776)
    refine x_r [] [2] [7001] [I (Zhl .and .u64 ((IntKind.u64.wrap ((IntKind.u64.wrap ((IntKind.u64.wrap (s.seed * 6364136223846793005)) + 0)) + 1442695040888963407)) / 1099511627776) 255)] [some (.box [Zgk false s.code, I (s.atx + 1), .val (.int .u64 (IntKind.u64.wrap ((IntKind.u64.wrap ((IntKind.u64.wrap (s.seed * 6364136223846793005)) + 0)) + 1442695040888963407)))])] [(0 : Int) ≤ 40 ∧ (40 : Int) ≤ ((IntKind.bits .u64 : Nat) : Int), inR .i64 (Zhl .and .u64 ((IntKind.u64.wrap ((IntKind.u64.wrap ((IntKind.u64.wrap (s.seed * 6364136223846793005)) + 0)) + 1442695040888963407)) / 1099511627776) 255)] ⟨⟨(by decide), (by decide)⟩, (Zam (by omega) (by omega)), trivial⟩ ?_
    refine Zab ?_
    refine Zcf ?_
    refine Zbn ((Zhl .and .u64 ((IntKind.u64.wrap ((IntKind.u64.wrap ((IntKind.u64.wrap (s.seed * 6364136223846793005)) + 0)) + 1442695040888963407)) / 1099511627776) 255), (l00Src.mk s.code (s.atx + 1) (IntKind.u64.wrap ((IntKind.u64.wrap ((IntKind.u64.wrap (s.seed * 6364136223846793005)) + 0)) + 1442695040888963407)))) (show (0 ≤ (Zhl .and .u64 ((IntKind.u64.wrap ((IntKind.u64.wrap ((IntKind.u64.wrap (s.seed * 6364136223846793005)) + 0)) + 1442695040888963407)) / 1099511627776) 255) ∧ (Zhl .and .u64 ((IntKind.u64.wrap ((IntKind.u64.wrap ((IntKind.u64.wrap (s.seed * 6364136223846793005)) + 0)) + 1442695040888963407)) / 1099511627776) 255) ≤ 255) ∧ (Zbj (l00Src.mk s.code (s.atx + 1) (IntKind.u64.wrap ((IntKind.u64.wrap ((IntKind.u64.wrap (s.seed * 6364136223846793005)) + 0)) + 1442695040888963407)))) ∧ ((l00Src.mk s.code (s.atx + 1) (IntKind.u64.wrap ((IntKind.u64.wrap ((IntKind.u64.wrap (s.seed * 6364136223846793005)) + 0)) + 1442695040888963407))).code = s.code) ∧ (s.atx + 1 ≤ (l00Src.mk s.code (s.atx + 1) (IntKind.u64.wrap ((IntKind.u64.wrap ((IntKind.u64.wrap (s.seed * 6364136223846793005)) + 0)) + 1442695040888963407))).atx ∧ (l00Src.mk s.code (s.atx + 1) (IntKind.u64.wrap ((IntKind.u64.wrap ((IntKind.u64.wrap (s.seed * 6364136223846793005)) + 0)) + 1442695040888963407))).atx ≤ s.atx + 1) ∧ (True) from ⟨(by first | omega | rfl | assumption | (dsimp only; first | omega | rfl | assumption) | (simp only [*]; done) | exact ⟨hs.1, (by dsimp only; omega), hs1⟩), (by first | omega | rfl | assumption | (dsimp only; first | omega | rfl | assumption) | (simp only [*]; done) | exact ⟨hs.1, (by dsimp only; omega), hs1⟩), (by first | omega | rfl | assumption | (dsimp only; first | omega | rfl | assumption) | (simp only [*]; done) | exact ⟨hs.1, (by dsimp only; omega), hs1⟩), (by first | omega | rfl | assumption | (dsimp only; first | omega | rfl | assumption) | (simp only [*]; done) | exact ⟨hs.1, (by dsimp only; omega), hs1⟩), trivial⟩) (⟨.inl rfl, trivial⟩) (I (Zhl .and .u64 ((IntKind.u64.wrap ((IntKind.u64.wrap ((IntKind.u64.wrap (s.seed * 6364136223846793005)) + 0)) + 1442695040888963407)) / 1099511627776) 255)) (by kernel_rfl) (.inl rfl) (fun _ => rfl) (fun _ => trivial)
  obtain ⟨⟨v, s'⟩, ⟨hh0, hh1, hh2, hh3, _⟩, hc⟩ := hh
  exact ⟨v, s', hh0, hh1, hh2, hh3, hc⟩
theorem Zdu (s : l00Src) (n : Int) (hs : Zbj s) (ha : s.atx ≤ 3999999999999999990) : ∃ (v : Int) (s' : l00Src), (0 ≤ v ∧ (v < n ∨ v = 0)) ∧ (Zbj s') ∧ (s'.code = s.code) ∧ (s.atx + 0 ≤ s'.atx ∧ s'.atx ≤ s.atx + 2) ∧ Zaz Tryz.prog 48 [.ref 7001 0, I n] (Zaf [(7001, Zaa s)]) true (I v) (Zaf [(7001, Zaa s')]) := by
  have hs0 := hs.2.1
  have hs1 := hs.2.2
  have hh : ∃ r : Int × l00Src, ((0 ≤ r.1 ∧ (r.1 < n ∨ r.1 = 0)) ∧ (Zbj r.2) ∧ (r.2.code = s.code) ∧ (s.atx + 0 ≤ r.2.atx ∧ r.2.atx ≤ s.atx + 2) ∧ (True)) ∧ Zaz Tryz.prog 48 [.ref 7001 0, I n] (Zaf [(7001, Zaa s)]) true (I r.1) (Zaf [(7001, Zaa r.2)]) := by
    refine Zde (Φ := fun r : Int × l00Src => (0 ≤ r.1 ∧ (r.1 < n ∨ r.1 = 0)) ∧ (Zbj r.2) ∧ (r.2.code = s.code) ∧ (s.atx + 0 ≤ r.2.atx ∧ r.2.atx ≤ s.atx + 2) ∧ (True)) [(7001, Zaa s)] (fun r => [(7001, Zaa r.2)]) (fn := Tryz.f48) (nt := 20) Tryz.func48 rfl rfl (args := [.ref 7001 0, I n]) rfl (Zbw (.inr trivial) (Zbw (.inl ⟨rfl, trivial⟩) Zdb)) (res := fun r => I r.1) ?_
    refine xR [] [0, 1] [7001] [.ref 7001 0, I n] [some (Zaa s)] [] trivial ?_
    refine Zap ?_
    refine Zap ?_
    by_cases h1 : n ≤ 1
    ·refine x_r [(1, .dec true)] [0, 1, 7] [7001] [.ref 7001 0, I n, Bv true] [some (Zaa s)] [n ≤ 1] ⟨h1, trivial⟩ ?_
     refine Zab ?_
     refine Zbq rfl ?_
     refine xR [] [4] [7001] [I 0] [some (Zaa s)] [] trivial ?_
     refine Zcf ?_
     refine Zbd ?_
     refine Zbn (0, s) (show (0 ≤ 0 ∧ (0 < n ∨ 0 = 0)) ∧ (Zbj s) ∧ (s.code = s.code) ∧ (s.atx + 0 ≤ s.atx ∧ s.atx ≤ s.atx + 2) ∧ (True) from ⟨(by first | omega | rfl | assumption | (dsimp only; first | omega | rfl | assumption) | (simp only [*]; done) | exact ⟨Int.emod_nonneg _ (by omega), .inl (Int.emod_lt_of_pos _ (by omega))⟩), (by first | omega | rfl | assumption | (dsimp only; first | omega | rfl | assumption) | (simp only [*]; done) | exact ⟨Int.emod_nonneg _ (by omega), .inl (Int.emod_lt_of_pos _ (by omega))⟩), (by first | omega | rfl | assumption | (dsimp only; first | omega | rfl | assumption) | (simp only [*]; done) | exact ⟨Int.emod_nonneg _ (by omega), .inl (Int.emod_lt_of_pos _ (by omega))⟩), (by first | omega | rfl | assumption | (dsimp only; first | omega | rfl | assumption) | (simp only [*]; done) | exact ⟨Int.emod_nonneg _ (by omega), .inl (Int.emod_lt_of_pos _ (by omega))⟩), trivial⟩) (⟨.inl rfl, trivial⟩) (I 0) (by kernel_rfl) (.inl rfl) (fun _ => rfl) (fun _ => trivial)
    refine x_r [(1, .dec false)] [0, 1, 7] [7001] [.ref 7001 0, I n, Bv false] [some (Zaa s)] [¬ (n ≤ 1)] ⟨h1, trivial⟩ ?_
    refine Zab ?_
    refine Zbe rfl ?_
    refine Zca ?_
    refine Zab ?_
    refine Zap ?_
    obtain ⟨v_1, s'_1, hx1_0, hx1_1, hx1_2, hx1_3, hc1⟩ := Yed s (by first | assumption | (simp only [Zbj] at *; simp_all; done)) (by omega)
    refine x_r [(1, .lend [(7001, Zaa s, Zaa s'_1)] [] [(true, .any)] true (I v_1))] [0, 1, 5] [7001] [.ref 7001 0, I n, I v_1] [some (Zaa s'_1)] [Zaz Tryz.prog 86 [.ref 7001 0] (Zaf [(7001, Zaa s)]) true (I v_1) (Zaf [(7001, Zaa s'_1)]) ∧ (((Zaa s : Ob) = Zaa s ∨ Zeu Zel true (Zaa s) (Zaa s)) ∧ Zar false (Zaa s)) ∧ True] ⟨⟨hc1, ⟨.inl rfl, (by simp [Zar, Zah, Zak, Zdj])⟩, trivial⟩, trivial⟩ ?_
    refine Zab ?_
    refine Zap ?_
    refine Zap ?_
    by_cases h2 : 200 < n
    ·refine x_r [(1, .dec true)] [0, 1, 5, 11] [7001] [.ref 7001 0, I n, I v_1, Bv true] [some (Zaa s'_1)] [200 < n] ⟨h2, trivial⟩ ?_
     refine Zab ?_
     refine Zbq rfl ?_
     obtain ⟨v_2, s'_2, hx2_0, hx2_1, hx2_2, hx2_3, hc2⟩ := Yed s'_1 (by first | assumption | (simp only [Zbj] at *; simp_all; done)) (by omega)
     refine x_r [(3, .lend [(7001, Zaa s'_1, Zaa s'_2)] [] [(true, .any)] true (I v_2))] [1, 5] [7001] [I n, I ((v_1 * 256) + v_2)] [some (Zaa s'_2)] [inR .i64 (v_1 * 256), Zaz Tryz.prog 86 [.ref 7001 0] (Zaf [(7001, Zaa s'_1)]) true (I v_2) (Zaf [(7001, Zaa s'_2)]) ∧ (((Zaa s'_1 : Ob) = Zaa s'_1 ∨ Zeu Zel true (Zaa s'_1) (Zaa s'_1)) ∧ Zar false (Zaa s'_1)) ∧ True, inR .i64 ((v_1 * 256) + v_2)] ⟨(Zam (by omega) (by omega)), ⟨hc2, ⟨.inl rfl, (by simp [Zar, Zah, Zak, Zdj])⟩, trivial⟩, (Zam (by omega) (by omega)), trivial⟩ ?_
     refine Zab ?_
     refine xR [(2, .nn)] [4] [7001] [I (((v_1 * 256) + v_2) % n)] [some (Zaa s'_2)] [(0 : Int) ≤ ((v_1 * 256) + v_2) ∧ (0 : Int) < n] ⟨⟨(by omega), (by omega)⟩, trivial⟩ ?_
     refine Zcf ?_
     refine Zbn ((((v_1 * 256) + v_2) % n), s'_2) (show (0 ≤ (((v_1 * 256) + v_2) % n) ∧ ((((v_1 * 256) + v_2) % n) < n ∨ (((v_1 * 256) + v_2) % n) = 0)) ∧ (Zbj s'_2) ∧ (s'_2.code = s.code) ∧ (s.atx + 0 ≤ s'_2.atx ∧ s'_2.atx ≤ s.atx + 2) ∧ (True) from ⟨(by first | omega | rfl | assumption | (dsimp only; first | omega | rfl | assumption) | (simp only [*]; done) | exact ⟨Int.emod_nonneg _ (by omega), .inl (Int.emod_lt_of_pos _ (by omega))⟩), (by first | omega | rfl | assumption | (dsimp only; first | omega | rfl | assumption) | (simp only [*]; done) | exact ⟨Int.emod_nonneg _ (by omega), .inl (Int.emod_lt_of_pos _ (by omega))⟩), (by first | omega | rfl | assumption | (dsimp only; first | omega | rfl | assumption) | (simp only [*]; done) | exact ⟨Int.emod_nonneg _ (by omega), .inl (Int.emod_lt_of_pos _ (by omega))⟩), (by first | omega | rfl | assumption | (dsimp only; first | omega | rfl | assumption) | (simp only [*]; done) | exact ⟨Int.emod_nonneg _ (by omega), .inl (Int.emod_lt_of_pos _ (by omega))⟩), trivial⟩) (⟨.inl rfl, trivial⟩) (I (((v_1 * 256) + v_2) % n)) (by kernel_rfl) (.inl rfl) (fun _ => rfl) (fun _ => trivial)
    refine x_r [(1, .dec false)] [0, 1, 5, 11] [7001] [.ref 7001 0, I n, I v_1, Bv false] [some (Zaa s'_1)] [¬ (200 < n)] ⟨h2, trivial⟩ ?_
    refine Zab ?_
    refine Zbe rfl ?_
    refine Zca ?_
    refine Zab ?_
    refine xR [(2, .nn)] [4] [7001] [I (v_1 % n)] [some (Zaa s'_1)] [(0 : Int) ≤ v_1 ∧ (0 : Int) < n] ⟨⟨(by omega), (by omega)⟩, trivial⟩ ?_
    refine Zcf ?_
    refine Zbn ((v_1 % n), s'_1) (show (0 ≤ (v_1 % n) ∧ ((v_1 % n) < n ∨ (v_1 % n) = 0)) ∧ (Zbj s'_1) ∧ (s'_1.code = s.code) ∧ (s.atx + 0 ≤ s'_1.atx ∧ s'_1.atx ≤ s.atx + 2) ∧ (True) from ⟨(by first | omega | rfl | assumption | (dsimp only; first | omega | rfl | assumption) | (simp only [*]; done) | exact ⟨Int.emod_nonneg _ (by omega), .inl (Int.emod_lt_of_pos _ (by omega))⟩), (by first | omega | rfl | assumption | (dsimp only; first | omega | rfl | assumption) | (simp only [*]; done) | exact ⟨Int.emod_nonneg _ (by omega), .inl (Int.emod_lt_of_pos _ (by omega))⟩), (by first | omega | rfl | assumption | (dsimp only; first | omega | rfl | assumption) | (simp only [*]; done) | exact ⟨Int.emod_nonneg _ (by omega), .inl (Int.emod_lt_of_pos _ (by omega))⟩), (by first | omega | rfl | assumption | (dsimp only; first | omega | rfl | assumption) | (simp only [*]; done) | exact ⟨Int.emod_nonneg _ (by omega), .inl (Int.emod_lt_of_pos _ (by omega))⟩), trivial⟩) (⟨.inl rfl, trivial⟩) (I (v_1 % n)) (by kernel_rfl) (.inl rfl) (fun _ => rfl) (fun _ => trivial)
  obtain ⟨⟨v, s'⟩, ⟨hh0, hh1, hh2, hh3, _⟩, hc⟩ := hh
  exact ⟨v, s', hh0, hh1, hh2, hh3, hc⟩
theorem Zyn (s : l00Src) (n : Int) (hs : Zbj s) (ha : s.atx ≤ 3999999999999999980) : ∃ (v : Bool) (s' : l00Src), (Zbj s') ∧ (s'.code = s.code) ∧ (s.atx + 0 ≤ s'.atx ∧ s'.atx ≤ s.atx + 2) ∧ Zaz Tryz.prog 31 [.ref 7001 0, I n] (Zaf [(7001, Zaa s)]) true (Bv v) (Zaf [(7001, Zaa s')]) := by
  have hh : ∃ r : Bool × l00Src, ((Zbj r.2) ∧ (r.2.code = s.code) ∧ (s.atx + 0 ≤ r.2.atx ∧ r.2.atx ≤ s.atx + 2) ∧ (True)) ∧ Zaz Tryz.prog 31 [.ref 7001 0, I n] (Zaf [(7001, Zaa s)]) true (Bv r.1) (Zaf [(7001, Zaa r.2)]) := by
    refine Zde (Φ := fun r : Bool × l00Src => (Zbj r.2) ∧ (r.2.code = s.code) ∧ (s.atx + 0 ≤ r.2.atx ∧ r.2.atx ≤ s.atx + 2) ∧ (True)) [(7001, Zaa s)] (fun r => [(7001, Zaa r.2)]) (fn := Tryz.f31) (nt := 9) Tryz.func31 rfl rfl (args := [.ref 7001 0, I n]) rfl (Zbw (.inr trivial) (Zbw (.inl ⟨rfl, trivial⟩) Zdb)) (res := fun r => Bv r.1) ?_
    refine xR [] [0, 1] [7001] [.ref 7001 0, I n] [some (Zaa s)] [] trivial ?_
    refine Zap ?_
    obtain ⟨v_1, s'_1, hx1_0, hx1_1, hx1_2, hx1_3, hc1⟩ := Zdu s n (by first | assumption | (simp only [Zbj] at *; simp_all; done)) (by omega)
    refine x_r [(2, .lend [(7001, Zaa s, Zaa s'_1)] [] [(true, .any), (true, .any)] true (I v_1))] [4] [7001] [Bv (decide (v_1 = 0))] [some (Zaa s'_1)] [Zaz Tryz.prog 48 [.ref 7001 0, I n] (Zaf [(7001, Zaa s)]) true (I v_1) (Zaf [(7001, Zaa s'_1)]) ∧ (((Zaa s : Ob) = Zaa s ∨ Zeu Zel true (Zaa s) (Zaa s)) ∧ Zar false (Zaa s)) ∧ True] ⟨⟨hc1, ⟨.inl rfl, (by simp [Zar, Zah, Zak, Zdj])⟩, trivial⟩, trivial⟩ ?_
    refine Zab ?_
    refine Zcf ?_
    refine Zbn (decide (v_1 = 0), s'_1) (show (Zbj s'_1) ∧ (s'_1.code = s.code) ∧ (s.atx + 0 ≤ s'_1.atx ∧ s'_1.atx ≤ s.atx + 2) ∧ (True) from ⟨(by first | omega | rfl | assumption | (dsimp only; first | omega | rfl | assumption) | (simp only [*]; done) | (simp_all; done)), (by first | omega | rfl | assumption | (dsimp only; first | omega | rfl | assumption) | (simp only [*]; done) | (simp_all; done)), (by first | omega | rfl | assumption | (dsimp only; first | omega | rfl | assumption) | (simp only [*]; done) | (simp_all; done)), trivial⟩) (⟨.inl rfl, trivial⟩) (Bv (decide (v_1 = 0))) (by kernel_rfl) (.inl rfl) (fun _ => rfl) (fun _ => trivial)
  obtain ⟨⟨v, s'⟩, ⟨hh0, hh1, hh2, _⟩, hc⟩ := hh
  exact ⟨v, s', hh0, hh1, hh2, hc⟩
def inB (a l h : Int) : Bool := decide (l ≤ a ∧ a ≤ h)
theorem Zwm {a l h : Int} : inB a l h = true ↔ l ≤ a ∧ a ≤ h := by simp [inB]
theorem Ydy (s : ByteArray) (i : Nat) : 0 ≤ bAt s i ∧ bAt s i ≤ 255 := by
  unfold bAt
  have := (s.data.toList.getD i 0).toNat_lt
  omega
def Zfk (n : Int) : Bool := decide ((97 ≤ n ∧ n ≤ 122) ∨ (48 ≤ n ∧ n ≤ 57) ∨ n = 43 ∨ n = 45 ∨ n = 42 ∨ n = 47 ∨ n = 61 ∨ n = 40 ∨ n = 41 ∨ n = 46 ∨ n = 44)
def Zci (s : ByteArray) : Bool := decide (s.size = 1) && Zfk (bAt s 0)
def okF (p : Feat) : Bool := inB p.X 0 255 && (inB p.Y 0 255 && inB p.D 0 7)
theorem Zox {p : Feat} : okF p = true ↔ (0 ≤ p.X ∧ p.X ≤ 255) ∧ (0 ≤ p.Y ∧ p.Y ≤ 255) ∧ (0 ≤ p.D ∧ p.D ≤ 7) := by simp [okF, inB, and_assoc]
def Zbp (xs : List Feat) (m : Int) : Bool := decide (1 ≤ (xs.length : Int) ∧ (xs.length : Int) ≤ m) && Zim xs.length (fun j => okF (at_ xs j))
theorem Zjk {xs : List Feat} {m : Int} (h : Zbp xs m = true) : 1 ≤ xs.length ∧ (xs.length : Int) ≤ m := by
  simp only [Zbp, Bool.and_eq_true, decide_eq_true_eq] at h; omega
theorem Zqs {xs : List Feat} {m : Int} (h : Zbp xs m = true) {j : Nat} (hj : j < xs.length) : okF (at_ xs j) = true := by
  simp only [Zbp, Bool.and_eq_true] at h
  exact Zhh h.2 hj
theorem Zuo (n : Int) {d : Int} (hd : 0 < d) : (Int.tmod n d < 0 → Int.tdiv n d - 1 = n / d) ∧ (¬ Int.tmod n d < 0 → Int.tdiv n d = n / d) := by
  have h1 := Int.mul_tdiv_add_tmod n d
  have h2 := Int.tmod_lt_of_pos n hd
  have h3 := Int.lt_tmod_of_pos n hd
  generalize Int.tdiv n d = q at *
  generalize Int.tmod n d = r at *
  subst h1
  constructor
  · intro h
    have e : d * q + r = (r + d) + d * (q - 1) := by rw [Int.mul_sub, Int.mul_one]; omega
    rw [e, Int.add_mul_ediv_left _ _ (by omega), Int.ediv_eq_zero_of_lt (by omega) (by omega)]; omega
  · intro h
    rw [Int.add_comm, Int.add_mul_ediv_left _ _ (by omega), Int.ediv_eq_zero_of_lt (by omega) (by omega)]; omega
theorem Ydi (n d : Int) : ((Int.tdiv n d).natAbs : Int) ≤ (n.natAbs : Int) := by
  rw [Int.natAbs_tdiv]
  exact Int.ofNat_le.2 (Nat.div_le_self _ _)
def Zgf (n d : Int) : Int := (2 * n + d) / (2 * d)
theorem Ydj (n : Int) {d : Int} (hd : 0 < d) : (d - (n - n / d * d) ≤ n - n / d * d → n / d + 1 = Zgf n d) ∧ (¬ d - (n - n / d * d) ≤ n - n / d * d → n / d = Zgf n d) := by
  have h1 := Int.mul_ediv_add_emod n d
  have h2 := Int.emod_nonneg n (b := d) (by omega)
  have h3 := Int.emod_lt_of_pos n hd
  unfold Zgf
  generalize n / d = q at *
  generalize n % d = r at *
  have e0 : q * d = d * q := Int.mul_comm _ _
  have e3 : 2 * d * q = 2 * (d * q) := Int.mul_assoc _ _ _
  constructor
  · intro h
    have e : 2 * n + d = (2 * r - d) + 2 * d * (q + 1) := by rw [Int.mul_add, e3]; omega
    rw [e, Int.add_mul_ediv_left _ _ (by omega), Int.ediv_eq_zero_of_lt (by omega) (by omega)]; omega
  · intro h
    have e : 2 * n + d = (2 * r + d) + 2 * d * q := by rw [e3]; omega
    rw [e, Int.add_mul_ediv_left _ _ (by omega), Int.ediv_eq_zero_of_lt (by omega) (by omega)]; omega
theorem rest_bd (n : Int) {d : Int} (hd : 0 < d) : 0 ≤ n - n / d * d ∧ n - n / d * d < d := by
  have h1 := Int.mul_ediv_add_emod n d
  have h2 := Int.emod_nonneg n (b := d) (by omega)
  have h3 := Int.emod_lt_of_pos n hd
  rw [Int.mul_comm] at h1
  omega
theorem ediv_bd (n : Int) {d : Int} (hd : 0 < d) : -(n.natAbs : Int) ≤ n / d ∧ n / d ≤ (n.natAbs : Int) := by
  constructor
  · rw [Int.le_ediv_iff_mul_le hd]
    have : (n.natAbs : Int) * 1 ≤ (n.natAbs : Int) * d := Int.mul_le_mul_of_nonneg_left (by omega) (by omega)
    rw [Int.neg_mul]; omega
  · have h1 : (n.natAbs : Int) * 1 ≤ (n.natAbs : Int) * d := Int.mul_le_mul_of_nonneg_left (by omega) (by omega)
    have b : n / d < (n.natAbs : Int) + 1 := Int.ediv_lt_of_lt_mul hd (by rw [Int.add_mul, Int.one_mul]; omega)
    omega
theorem Yee {x y A B : Int} (h0 : 0 ≤ x) (h1 : x ≤ A) (h2 : 0 ≤ y) (h3 : y ≤ B) : 0 ≤ x * y ∧ x * y ≤ A * B :=
  ⟨Int.mul_nonneg h0 h2, Int.mul_le_mul h1 h3 h2 (by omega)⟩
theorem mulS_bd {x y A B : Int} (h0 : -A ≤ x) (h1 : x ≤ A) (h2 : 0 ≤ y) (h3 : y ≤ B) : -(A * B) ≤ x * y ∧ x * y ≤ A * B := by
  rcases Int.le_total 0 x with h | h
  · have := Yee h h1 h2 h3; omega
  · have := Yee (x := -x) (by omega) (by omega : -x ≤ A) h2 h3
    rw [Int.neg_mul] at this; omega
def sumN : Nat → (Nat → Int) → Int
  | 0, _ => 0
  | n + 1, f => sumN n f + f n
theorem Yef {n : Int} (h : 0 ≤ n) (f : Nat → Int) : sumN (n + 1).toNat f = sumN n.toNat f + f n.toNat := by
  have : (n + 1).toNat = n.toNat + 1 := by omega
  rw [this]; rfl
def Zcm (n : Nat) (p : Nat → Bool) : Int := match (List.range n).find? p with
  | some i => i
  | none => -1
theorem Zex {n : Nat} {p : Nat → Bool} {k : Nat} (hk : k < n) (hp : p k = true) (hn : ∀ i, i < k → p i = false) : Zcm n p = k := by
  have h : (List.range n).find? p = some k := by
    rw [List.find?_range_eq_some]
    exact ⟨hp, List.mem_range.2 hk, fun j hj => by simpa using hn j hj⟩
  simp [Zcm, h]
theorem Zen {n : Nat} {p : Nat → Bool} (hn : ∀ i, i < n → p i = false) : Zcm n p = -1 := by
  have h : (List.range n).find? p = none := by
    rw [List.find?_range_eq_none]
    intro i hi; simpa using hn i hi
  simp [Zcm, h]
theorem Zhi (n : Nat) (p : Nat → Bool) : (Zcm n p = -1 ∧ ∀ i, i < n → p i = false) ∨ ∃ k : Nat, Zcm n p = k ∧ k < n ∧ p k = true ∧ ∀ i, i < k → p i = false := by
  by_cases h : ∃ k, k < n ∧ p k = true
  · right
    obtain ⟨k, hk, hp⟩ := h
    cases e : (List.range n).find? p with
    | none => rw [List.find?_range_eq_none] at e; exact absurd hp (by simpa using e k hk)
    | some i =>
      have e' := e
      rw [List.find?_range_eq_some] at e
      exact ⟨i, by simp [Zcm, e'], List.mem_range.1 e.2.1, e.1, fun j hj => by simpa using e.2.2 j hj⟩
  · left
    have h' : ∀ i, i < n → p i = false := fun i hi => by rw [← Bool.not_eq_true]; exact fun hp => h ⟨i, hi, hp⟩
    exact ⟨Zen h', h'⟩
theorem Zhv (n : Nat) (p : Nat → Bool) : decide (0 ≤ Zcm n p) = Zkj n p := by
  rcases Zhi n p with ⟨h1, h2⟩ | ⟨k, h1, h2, h3, _⟩
  · rw [h1, Yeb h2]; decide
  · rw [h1, anyN_at h2 h3]; simp
structure CmpW {α : Type} (c : α → α → Int) : Prop where
  anti : ∀ x y, c x y < 0 ↔ 0 < c y x
  trans : ∀ x y z, c x y ≤ 0 → c y z < 0 → c x z < 0
theorem CmpW.refl {α : Type} {c : α → α → Int} (h : CmpW c) (x : α) : c x x = 0 := by have := h.anti x x; omega
theorem CmpW.zero {α : Type} {c : α → α → Int} (h : CmpW c) {x y : α} (e : c x y = 0) : c y x = 0 := by have h1 := h.anti x y; have h2 := h.anti y x; omega
theorem CmpW.le {α : Type} {c : α → α → Int} (h : CmpW c) {x y z : α} (h1 : c x y ≤ 0) (h2 : c y z ≤ 0) : c x z ≤ 0 := by
  rcases Int.lt_or_le 0 (c x z) with g | g
  · have q := (h.anti z x).2 g
    have q2 : c y x < 0 := h.trans y z x h2 q
    have := (h.anti y x).1 q2; omega
  · exact g
theorem bl_irr : ∀ x : List UInt8, Op.bytesLess x x = false
  | [] => rfl
  | a :: x => by
    have h : ¬ a < a := fun q => by have := UInt8.lt_iff_toNat_lt.1 q; omega
    simp [Op.bytesLess, bl_irr x, h]
theorem Yeg : ∀ x y : List UInt8, Op.bytesLess x y = true → Op.bytesLess y x = false
  | [], [], h => by simp [Op.bytesLess] at h
  | [], _ :: _, _ => by simp [Op.bytesLess]
  | _ :: _, [], h => by simp [Op.bytesLess] at h
  | a :: x, b :: y, h => by
    simp only [Op.bytesLess, Bool.or_eq_true, Bool.and_eq_true, decide_eq_true_eq, beq_iff_eq] at h
    rcases h with h | ⟨h, h2⟩
    · have q := UInt8.lt_iff_toNat_lt.1 h
      have n1 : ¬ b < a := fun z => by have := UInt8.lt_iff_toNat_lt.1 z; omega
      have n2 : ¬ b = a := fun z => by subst z; omega
      simp [Op.bytesLess, n1, n2]
    · subst h
      have n1 : ¬ a < a := fun z => by have := UInt8.lt_iff_toNat_lt.1 z; omega
      simp [Op.bytesLess, n1, Yeg x y h2]
theorem Zyx : ∀ x y z : List UInt8, Op.bytesLess x y = true → Op.bytesLess y z = true → Op.bytesLess x z = true
  | _, _, [], _, h => by simp [Op.bytesLess] at h
  | _, [], _ :: _, h, _ => by simp [Op.bytesLess] at h
  | [], _ :: _, _ :: _, _, _ => by simp [Op.bytesLess]
  | a :: x, b :: y, c :: z, h1, h2 => by
    simp only [Op.bytesLess, Bool.or_eq_true, Bool.and_eq_true, decide_eq_true_eq, beq_iff_eq] at h1 h2 ⊢
    rcases h1 with h1 | ⟨h1, g1⟩ <;> rcases h2 with h2 | ⟨h2, g2⟩
    · left; have := UInt8.lt_iff_toNat_lt.1 h1; have := UInt8.lt_iff_toNat_lt.1 h2; exact UInt8.lt_iff_toNat_lt.2 (by omega)
    · left; rw [← h2]; exact h1
    · left; rw [h1]; exact h2
    · right; exact ⟨h1.trans h2, Zyx x y z g1 g2⟩
theorem bl_tri : ∀ x y : List UInt8, Op.bytesLess x y = false → x ≠ y → Op.bytesLess y x = true
  | [], [], _, h => absurd rfl h
  | [], _ :: _, h, _ => by simp [Op.bytesLess] at h
  | _ :: _, [], _, _ => by simp [Op.bytesLess]
  | a :: x, b :: y, h, hn => by
    simp only [Op.bytesLess, Bool.or_eq_false_iff, decide_eq_false_iff_not] at h
    simp only [Op.bytesLess, Bool.or_eq_true, Bool.and_eq_true, decide_eq_true_eq, beq_iff_eq]
    by_cases e : a = b
    · subst e
      right
      refine ⟨rfl, bl_tri x y ?_ fun q => hn (by rw [q])⟩
      have := h.2
      simpa using this
    · left
      have q : ¬ a.toNat < b.toNat := fun z => h.1 (UInt8.lt_iff_toNat_lt.2 z)
      have q2 : a.toNat ≠ b.toNat := fun z => e (UInt8.toNat_inj.1 z)
      exact UInt8.lt_iff_toNat_lt.2 (by omega)
theorem sl_tri {a b : ByteArray} (h : Zey a b = false) (hn : a ≠ b) : Zey b a = true := by
  unfold Zey at *
  refine bl_tri _ _ h fun q => hn ?_
  rw [Lib.toList_data, Lib.toList_data] at q
  cases a; cases b
  simp only [ByteArray.mk.injEq]
  exact Array.toList_inj.1 q
theorem sl_asym {a b : ByteArray} (h : Zey a b = true) : Zey b a = false := Yeg _ _ h
theorem Ydf (a : ByteArray) : Zey a a = false := bl_irr _
theorem sl_trans {a b c : ByteArray} (h1 : Zey a b = true) (h2 : Zey b c = true) : Zey a c = true := Zyx _ _ _ h1 h2
theorem CmpW.map {α β : Type} {c : α → α → Int} (hc : CmpW c) (f : β → α) : CmpW fun x y : β => c (f x) (f y) := ⟨fun x y => hc.anti _ _, fun x y z => hc.trans _ _ _⟩
def Zin {α : Type} [Inhabited α] [DecidableEq α] (a b : List α) : Bool := decide (a.length = b.length) && Zim a.length (fun j => decide (at_ a j = at_ b j))
theorem Yac {α : Type} [Inhabited α] [DecidableEq α] (a : List α) : Zin a a = true := by simp [Zin, Zjv]
theorem Zju {α : Type} [Inhabited α] {l : List α} {k : Nat} (h : k < l.length) : l.take (k + 1) = l.take k ++ [at_ l k] := by
  rw [List.take_succ_eq_append_getElem h, Zez h]
theorem Zil {α : Type} [Inhabited α] (xs : List α) (k i : Nat) (v : α) : at_ (xs.set k v) i = if i = k ∧ k < xs.length then v else at_ xs i := by
  by_cases h : i = k
  · subst h
    by_cases h2 : i < xs.length
    · simp [at_, h2]
    · have : xs.set i v = xs := List.set_eq_of_length_le (by omega)
      simp [this, h2]
  · have h' : ¬ k = i := fun e => h e.symm
    simp [at_, h', h, List.getElem?_set]
theorem Zyy {xs : List Int} {i : Nat} (h : xs.length ≤ i) : at_ xs i = 0 := by simp [at_, h]
theorem Yeh (n i : Nat) : at_ (List.replicate n (0 : Int)) i = 0 := by
  by_cases h : i < n
  · rw [Zez (by simpa using h)]; simp
  · exact Zyy (by simp; omega)
def Zlj (ls : List ByteArray) (k : Nat) : Bool := Zci (at_ ls k) && (decide (k = 0) || Zey (at_ ls (k - 1)) (at_ ls k))
def Zce (ls : List ByteArray) : Bool := Zim ls.length (Zlj ls) && decide (1 ≤ (ls.length : Int) ∧ (ls.length : Int) ≤ 12)
def okW (x : Int) : Bool := inB x (-1000000) 1000000
def Zfl (r : List Int) : Bool := decide ((r.length : Int) = 25) && Zim r.length (fun k => okW (at_ r k))
def Zjn (W : List (List Int)) : Bool := Zim W.length (fun j => Zfl (at_ W j))
def Zbb (p : Perceptron) : Bool := Zce p.Labels && (decide ((p.Weights.length : Int) = (p.Labels.length : Int)) && Zjn p.Weights)
theorem Zfb {ls : List ByteArray} {i : Int} (h0 : 0 ≤ i) (h1 : Zci (at_ ls i.toNat) = true) (h2 : i ≤ 0 ∨ Zey (at_ ls (i - 1).toNat) (at_ ls i.toNat) = true) : Zlj ls i.toNat = true := by
  unfold Zlj
  rw [h1, Bool.true_and, Bool.or_eq_true, decide_eq_true_eq]
  rcases h2 with h2 | h2
  · left; omega
  · right; rw [show i.toNat - 1 = (i - 1).toNat from by omega]; exact h2
theorem Yea {ls : List ByteArray} {k : Nat} (h1 : Zci (at_ ls k) = false) : Zlj ls k = false := by unfold Zlj; rw [h1]; rfl
theorem Ydz {ls : List ByteArray} {i : Int} (h0 : 0 < i) (h2 : Zey (at_ ls (i - 1).toNat) (at_ ls i.toNat) = false) : Zlj ls i.toNat = false := by
  unfold Zlj
  rw [show i.toNat - 1 = (i - 1).toNat from by omega, h2, decide_eq_false (by omega)]
  simp
theorem Zij {ls : List ByteArray} (h : ∀ j, j < ls.length → Zlj ls j = true) : Zce ls = decide (1 ≤ (ls.length : Int) ∧ (ls.length : Int) ≤ 12) := by unfold Zce; rw [Zff h, Bool.true_and]
theorem Zii {ls : List ByteArray} {k : Nat} (hk : k < ls.length) (h : Zlj ls k = false) : Zce ls = false := by unfold Zce; rw [Zfx hk h, Bool.false_and]
theorem rise_not {a b : ByteArray} (h : ¬ (Zey b a = true ∨ b = a)) : Zey a b = true := sl_tri (Bool.eq_false_iff.2 fun q => h (.inl q)) fun e => h (.inr e)
theorem rise_yes {a b : ByteArray} (h : Zey b a = true ∨ b = a) : Zey a b = false := by
  rcases h with h | h
  · exact sl_asym h
  · subst h; exact Ydf _
theorem Zfi {ls : List ByteArray} (h : Zce ls = true) : 1 ≤ ls.length ∧ ls.length ≤ 12 := by
  simp only [Zce, Bool.and_eq_true, decide_eq_true_eq] at h; omega
theorem Zem {ls : List ByteArray} (h : Zce ls = true) {j : Nat} (hj : j < ls.length) : Zci (at_ ls j) = true := by
  simp only [Zce, Bool.and_eq_true] at h
  have := Zhh h.1 hj
  unfold Zlj at this
  rw [Bool.and_eq_true] at this
  exact this.1
theorem Zcd {p : Perceptron} : Zbb p = true ↔ Zce p.Labels = true ∧ p.Weights.length = p.Labels.length ∧ Zjn p.Weights = true := by
  simp only [Zbb, Bool.and_eq_true, decide_eq_true_eq]
  constructor
  · rintro ⟨h1, h2, h3⟩; exact ⟨h1, by omega, h3⟩
  · rintro ⟨h1, h2, h3⟩; exact ⟨h1, by omega, h3⟩
theorem Zlm {r : List Int} : Zfl r = true ↔ r.length = 25 ∧ ∀ k, k < 25 → -1000000 ≤ at_ r k ∧ at_ r k ≤ 1000000 := by
  simp only [Zfl, Bool.and_eq_true, decide_eq_true_eq, Zjv, okW, Zwm]
  constructor
  · rintro ⟨h1, h2⟩; exact ⟨by omega, fun k hk => h2 k (by omega)⟩
  · rintro ⟨h1, h2⟩; exact ⟨by omega, fun k hk => h2 k (by omega)⟩
theorem Zcu {W : List (List Int)} (h : Zjn W = true) {j : Nat} (hj : j < W.length) : (at_ W j).length = 25 ∧ ∀ k, k < 25 → -1000000 ≤ at_ (at_ W j) k ∧ at_ (at_ W j) k ≤ 1000000 := Zlm.1 (Zhh h hj)
theorem Zva {W : List (List Int)} {j : Nat} (hj : j < W.length) (h : Zfl (at_ W j) = false) : Zjn W = false := Zfx hj h
def celK (f : Feat) : Int := 8 + f.Y / 64 * 4 + f.X / 64
def Zio (fs : List Feat) : Nat → List Int
  | 0 => List.replicate 25 0
  | k + 1 => ((Zio fs k).set (at_ fs k).D.toNat (at_ (Zio fs k) (at_ fs k).D.toNat + 1)).set (celK (at_ fs k)).toNat (at_ ((Zio fs k).set (at_ fs k).D.toNat (at_ (Zio fs k) (at_ fs k).D.toNat + 1)) (celK (at_ fs k)).toNat + 1)
theorem Zsu (fs : List Feat) : ∀ k, (Zio fs k).length = 25
  | 0 => rfl
  | k + 1 => by simp only [Zio, List.length_set]; exact Zsu fs k
theorem Zjl (fs : List Feat) : ∀ k i, 0 ≤ at_ (Zio fs k) i ∧ at_ (Zio fs k) i ≤ 2 * (k : Int)
  | 0, i => by rw [Zio, Yeh]; omega
  | k + 1, i => by
    have ih := Zjl fs k
    have h1 := ih i
    have h2 := ih (at_ fs k).D.toNat
    have h3 := ih (celK (at_ fs k)).toNat
    simp only [Zio, Zil]
    split <;> (try split) <;> (try split) <;> omega
theorem inpC_1 {fs : List Feat} {k : Int} (h : 0 ≤ k) : Zio fs (k + 1).toNat = ((Zio fs k.toNat).set (at_ fs k.toNat).D.toNat (at_ (Zio fs k.toNat) (at_ fs k.toNat).D.toNat + 1)).set (celK (at_ fs k.toNat)).toNat (at_ ((Zio fs k.toNat).set (at_ fs k.toNat).D.toNat (at_ (Zio fs k.toNat) (at_ fs k.toNat).D.toNat + 1)) (celK (at_ fs k.toNat)).toNat + 1) := by
  have : (k + 1).toNat = k.toNat + 1 := by omega
  rw [this]; rfl
def Zni (c : List Int) (n : Int) : Nat → List Int
  | 0 => c
  | k + 1 => (Zni c n k).set k (Zgf (at_ (Zni c n k) k * 256) n)
theorem Znj (c : List Int) (n : Int) : ∀ k, (Zni c n k).length = c.length
  | 0 => rfl
  | k + 1 => by simp only [Zni, List.length_set]; exact Znj c n k
theorem Zyq {c : List Int} {n k : Int} (h : 0 ≤ k) : Zni c n (k + 1).toNat = (Zni c n k.toNat).set k.toNat (Zgf (at_ (Zni c n k.toNat) k.toNat * 256) n) := by
  have : (k + 1).toNat = k.toNat + 1 := by omega
  rw [this]; rfl
theorem nearI_bd {x n : Int} (hn : 0 < n) (h0 : 0 ≤ x) (h1 : x ≤ 2 * n) : 0 ≤ Zgf (x * 256) n ∧ Zgf (x * 256) n ≤ 512 := by
  unfold Zgf
  have hd : 0 < 2 * n := by omega
  refine ⟨Int.ediv_nonneg (by omega) (by omega), ?_⟩
  have : (2 * (x * 256) + n) / (2 * n) < 513 := Int.ediv_lt_of_lt_mul hd (by omega)
  omega
theorem Zsq {c : List Int} {n : Int} (hn : 0 < n) (hc : ∀ i, 0 ≤ at_ c i ∧ at_ c i ≤ 2 * n) : ∀ k i, (k ≤ i → at_ (Zni c n k) i = at_ c i) ∧ (i < k → 0 ≤ at_ (Zni c n k) i ∧ at_ (Zni c n k) i ≤ 512)
  | 0, i => ⟨fun _ => rfl, fun h => by omega⟩
  | k + 1, i => by
    have ih := Zsq hn hc k
    constructor
    · intro h
      simp only [Zni, Zil]
      rw [if_neg (by omega)]
      exact (ih i).1 (by omega)
    · intro h
      simp only [Zni, Zil]
      split
      · rw [(ih k).1 (Nat.le_refl _)]
        exact nearI_bd hn (hc k).1 (hc k).2
      · rename_i h2
        by_cases e : i = k
        · subst e
          rw [(ih i).1 (Nat.le_refl _), Zyy (by rw [← Znj c n i]; omega)]; omega
        · exact (ih i).2 (by omega)
def Zed (fs : List Feat) : List Int := (Zni (Zio fs fs.length) fs.length 24).set 24 256
theorem inpR_len (fs : List Feat) : (Zed fs).length = 25 := by unfold Zed; rw [List.length_set, Znj, Zsu]
theorem inpR_def (fs : List Feat) : (Zni (Zio fs fs.length) fs.length 24).set 24 256 = Zed fs := by unfold Zed; rfl
theorem inpR_alt (fs : List Feat) : (Zni (Zio fs fs.length) fs.length 25).set 24 256 = Zed fs := by
  unfold Zed
  rw [Zni, List.set_set]
theorem Zwq {fs : List Feat} (h : 1 ≤ fs.length) (i : Nat) : 0 ≤ at_ (Zed fs) i ∧ at_ (Zed fs) i ≤ 512 := by
  unfold Zed
  rw [Zil]
  split
  · omega
  · rename_i h2
    by_cases e : i < 24
    · exact (Zsq (by omega) (Zjl fs fs.length) 24 i).2 e
    · rw [Zyy]
      · omega
      · rw [Znj, Zsu] at *; omega
def scT (r x : List Int) (k : Nat) : Int := sumN k fun j => at_ r j * at_ x j
theorem scT_1 {r x : List Int} {k : Int} (h : 0 ≤ k) : scT r x (k + 1).toNat = scT r x k.toNat + at_ r k.toNat * at_ x k.toNat := Yef h _
def scR (W : List (List Int)) (x : List Int) : List Int := W.map fun r => scT r x 25
theorem Zma (W : List (List Int)) (x : List Int) : (scR W x).length = W.length := by simp [scR]
theorem Zyr {W : List (List Int)} {x : List Int} {i : Int} (h0 : 0 ≤ i) (h : i.toNat < W.length) : (W.take (i + 1).toNat).map (fun r => scT r x 25) = (W.take i.toNat).map (fun r => scT r x 25) ++ [scT (at_ W i.toNat) x 25] := by
  have : (i + 1).toNat = i.toNat + 1 := by omega
  rw [this, List.take_succ_eq_append_getElem h, ← Zez h, List.map_append]; rfl
theorem Zwt {a b : Int} (h1 : -1000000 ≤ a ∧ a ≤ 1000000) (h2 : 0 ≤ b ∧ b ≤ 512) : -512000000 ≤ a * b ∧ a * b ≤ 512000000 := by
  have := mulS_bd h1.1 h1.2 h2.1 h2.2
  omega
theorem Zyp {r x : List Int} (hr : ∀ k, k < 25 → -1000000 ≤ at_ r k ∧ at_ r k ≤ 1000000) (hx : ∀ i, 0 ≤ at_ x i ∧ at_ x i ≤ 512) : ∀ k : Nat, k ≤ 25 → -512000000 * (k : Int) ≤ scT r x k ∧ scT r x k ≤ 512000000 * (k : Int)
  | 0, _ => by simp [scT, sumN]
  | k + 1, h => by
    have ih := Zyp hr hx k (by omega)
    have := Zwt (hr k (by omega)) (hx k)
    unfold scT at ih ⊢
    simp only [sumN]
    omega
def bst (l : List Int) : Nat → Int
  | 0 => 0
  | k + 1 => if at_ l (bst l k).toNat < at_ l k then (k : Int) else bst l k
def Zbk (l : List Int) : Int := bst l l.length
theorem bst_one (l : List Int) : bst l 1 = 0 := by simp [bst]
theorem bst_1 {l : List Int} {k : Int} (h : 0 ≤ k) : bst l (k + 1).toNat = if at_ l (bst l k.toNat).toNat < at_ l k.toNat then k else bst l k.toNat := by
  have e : (k + 1).toNat = k.toNat + 1 := by omega
  have e2 : ((k.toNat : Nat) : Int) = k := by omega
  rw [e, bst, e2]
theorem Zvb (l : List Int) : ∀ k, 0 ≤ bst l k ∧ (bst l k < (k : Int) ∨ k = 0) ∧ (∀ j, j < k → at_ l j ≤ at_ l (bst l k).toNat) ∧ (∀ j : Nat, (j : Int) < bst l k → at_ l j < at_ l (bst l k).toNat)
  | 0 => ⟨Int.le_refl _, .inr rfl, fun j hj => by omega, fun j hj => by simp [bst] at hj; omega⟩
  | k + 1 => by
    obtain ⟨h1, h2, h3, h4⟩ := Zvb l k
    rw [bst]
    split
    · rename_i h
      refine ⟨by omega, .inl (by omega), fun j hj => ?_, fun j hj => ?_⟩
      · by_cases e : j = k
        · subst e; simp
        · have := h3 j (by omega); simp only [Int.toNat_natCast]; omega
      · have := h3 j (by omega); simp only [Int.toNat_natCast]; omega
    · rename_i h
      refine ⟨h1, .inl (by rcases h2 with h2 | h2; omega; (subst h2; simp [bst])), fun j hj => ?_, h4⟩
      by_cases e : j = k
      · subst e; omega
      · exact h3 j (by omega)
theorem Zjj {l : List Int} (h : 1 ≤ l.length) : 0 ≤ Zbk l ∧ Zbk l < (l.length : Int) := by
  have := Zvb l l.length
  unfold Zbk; omega
theorem Yei {l : List Int} {j : Nat} (h : j < l.length) : at_ l j ≤ at_ l (Zbk l).toNat := (Zvb l l.length).2.2.1 j h
theorem Yej {l : List Int} {M : Int} (h : 1 ≤ l.length) (hm : ∃ j, j < l.length ∧ at_ l j = M) (hx : ∀ j, j < l.length → at_ l j ≤ M) : Zcm l.length (fun j => decide (at_ l j = M)) = Zbk l := by
  obtain ⟨h1, h2, h3, h4⟩ := Zvb l l.length
  obtain ⟨j, hj, e⟩ := hm
  have hM : at_ l (bst l l.length).toNat = M := Int.le_antisymm (hx _ (by omega)) (by rw [← e]; exact h3 j hj)
  have hh := Zex (n := l.length) (p := fun j => decide (at_ l j = M)) (k := (bst l l.length).toNat) (by omega) (by simp [hM]) (fun i hi => by
    have := h4 i (by omega)
    rw [hM] at this
    exact decide_eq_false (by omega))
  rw [hh]; unfold Zbk; omega
def mgn (l : List Int) (b : Int) : Nat → Int
  | 0 => -1
  | k + 1 => if (k : Int) ≠ b ∧ (mgn l b k < 0 ∨ at_ l b.toNat - at_ l k < mgn l b k) then at_ l b.toNat - at_ l k else mgn l b k
theorem Yek {l : List Int} {b : Int} (hb : ∀ j, j < l.length → at_ l j ≤ at_ l b.toNat) : ∀ k, k ≤ l.length → (mgn l b k = -1 ∧ ∀ j : Nat, j < k → (j : Int) = b) ∨ (0 ≤ mgn l b k ∧ (∃ j : Nat, j < k ∧ (j : Int) ≠ b ∧ mgn l b k = at_ l b.toNat - at_ l j) ∧ ∀ j : Nat, j < k → (j : Int) ≠ b → mgn l b k ≤ at_ l b.toNat - at_ l j)
  | 0, _ => .inl ⟨rfl, fun j hj => by omega⟩
  | k + 1, hk => by
    have ih := Yek hb k (by omega)
    have hbk := hb k (by omega)
    rw [mgn]
    split
    · rename_i h
      right
      refine ⟨by omega, ⟨k, by omega, h.1, rfl⟩, fun j hj hn => ?_⟩
      by_cases e : j = k
      · subst e; exact Int.le_refl _
      · rcases ih with ih | ih
        · exact absurd (ih.2 j (by omega)) hn
        · have := ih.2.2 j (by omega) hn
          omega
    · rename_i h
      rcases ih with ih | ih
      · by_cases e : (k : Int) = b
        · refine .inl ⟨ih.1, fun j hj => ?_⟩
          by_cases e2 : j = k
          · subst e2; exact e
          · exact ih.2 j (by omega)
        · exact absurd ⟨e, .inl (by omega)⟩ h
      · right
        obtain ⟨j0, a1, a2, a3⟩ := ih.2.1
        refine ⟨ih.1, ⟨j0, by omega, a2, a3⟩, fun j hj hn => ?_⟩
        by_cases e : j = k
        · subst e
          by_cases e2 : at_ l b.toNat - at_ l j < mgn l b j
          · exact absurd ⟨hn, .inr e2⟩ h
          · omega
        · exact ih.2.2 j (by omega) hn
def mgI (l : List Int) : Int := max (mgn l (Zbk l) l.length) 0
theorem Zxc {l : List Int} {b i : Nat} (hb : b < l.length) : at_ (l.take b ++ l.drop (b + 1)) i = if i < b then at_ l i else at_ l (i + 1) := by
  by_cases h : i < b
  · rw [if_pos h, Zit (by simp; omega)]; simp [at_, h]
  · rw [if_neg h]
    simp only [at_, List.getD_eq_getElem?_getD, List.getElem?_append, List.length_take, List.getElem?_drop]
    rw [if_neg (by omega), show b + 1 + (i - min b l.length) = i + 1 from by omega]
theorem mg_some {l : List Int} {M : Int} (h : 2 ≤ l.length) (hm : ∃ j, j < (l.take (Zbk l).toNat ++ l.drop ((Zbk l).toNat + 1)).length ∧ at_ (l.take (Zbk l).toNat ++ l.drop ((Zbk l).toNat + 1)) j = M) (hx : ∀ j, j < (l.take (Zbk l).toNat ++ l.drop ((Zbk l).toNat + 1)).length → at_ (l.take (Zbk l).toNat ++ l.drop ((Zbk l).toNat + 1)) j ≤ M) : at_ l (Zbk l).toNat - M = mgI l := by
  obtain ⟨j9, hj9, e9⟩ := hm
  have hi := Zjj (l := l) (by clear e9 hx hj9; omega)
  have hlen : (l.take (Zbk l).toNat ++ l.drop ((Zbk l).toNat + 1)).length = l.length - 1 := by clear e9 hx hj9; simp; omega
  rw [hlen] at hj9 hx
  have hb : (Zbk l).toNat < l.length := by omega
  have hx' : ∀ j : Nat, j < l.length → (j : Int) ≠ Zbk l → at_ l j ≤ M := fun j hj hn => by
    by_cases e : j < (Zbk l).toNat
    · have := hx j (by omega)
      rw [Zxc hb, if_pos e] at this; exact this
    · have := hx (j - 1) (by omega)
      rw [Zxc hb, if_neg (by omega), show j - 1 + 1 = j from by omega] at this; exact this
  have hm' : ∃ j : Nat, j < l.length ∧ (j : Int) ≠ Zbk l ∧ at_ l j = M := by
    rw [Zxc hb] at e9
    split at e9
    · exact ⟨j9, by omega, by omega, e9⟩
    · exact ⟨j9 + 1, by omega, by omega, e9⟩
  obtain ⟨j, a1, a2, a3⟩ := hm'
  have hk := Yek (l := l) (b := Zbk l) (fun j hj => Yei hj) l.length (Nat.le_refl _)
  unfold mgI
  rcases hk with hk | hk
  · exact absurd (hk.2 j a1) a2
  · obtain ⟨i, b1, b2, b3⟩ := hk.2.1
    have c1 := hk.2.2 j a1 a2
    have c2 := hx' i b1 b2
    omega
theorem mg_none {l : List Int} (h : l.length = 1) : mgI l = 0 := by
  have hk := Yek (l := l) (b := Zbk l) (fun j hj => Yei hj) l.length (Nat.le_refl _)
  have hi := Zjj (l := l) (by omega)
  unfold mgI
  rcases hk with hk | hk
  · rw [hk.1]; rfl
  · obtain ⟨i, b1, b2, b3⟩ := hk.2.1
    omega
def Ycv (p : Perceptron) (fs : List Feat) : (ByteArray × Int) × Int := if Zbb p = true ∧ Zbp fs 384 = true then ((at_ p.Labels (Zbk (scR p.Weights (Zed fs))).toNat, mgI (scR p.Weights (Zed fs))), 0) else ((⟨#[]⟩, 0), 1)
def Zzt (p : Perceptron) (fs : List Feat) : List Int × Int := if Zbb p = true ∧ Zbp fs 384 = true then (scR p.Weights (Zed fs), 0) else ([], 1)
theorem Zsm {p : Perceptron} {fs : List Feat} (h1 : Zbb p = true) (h2 : Zbp fs 384 = true) : Zzt p fs = (scR p.Weights (Zed fs), 0) := if_pos ⟨h1, h2⟩
theorem Zwn {p : Perceptron} {fs : List Feat} (h1 : Zbb p = false) : Zzt p fs = ([], 1) := if_neg fun h => by rw [h1] at h; cases h.1
theorem Zwo {p : Perceptron} {fs : List Feat} (h1 : Zbp fs 384 = false) : Zzt p fs = ([], 1) := if_neg fun h => by rw [h1] at h; cases h.2
theorem Zsn {p : Perceptron} {fs : List Feat} (h1 : Zbb p = true) (h2 : Zbp fs 384 = true) : Ycv p fs = ((at_ p.Labels (Zbk (scR p.Weights (Zed fs))).toNat, mgI (scR p.Weights (Zed fs))), 0) := if_pos ⟨h1, h2⟩
def Ydu (ls : List ByteArray) : Perceptron × Int := if Zce ls = true then (⟨ls, List.replicate ls.length (List.replicate 25 0)⟩, 0) else (⟨[], []⟩, 1)
def Zla (a b : Perceptron) : Bool := Zin a.Labels b.Labels && (decide (a.Weights.length = b.Weights.length) && Zim a.Weights.length (fun j => Zin (at_ a.Weights j) (at_ b.Weights j)))
theorem Zzv (a : Perceptron) : Zla a a = true := by simp [Zla, Yac, Zjv]
def Zwp (l : List Int) (k : Int) (m : Int) : Prop := (∃ j : Nat, (j : Int) < k ∧ at_ l j = m) ∧ ∀ j : Nat, (j : Int) < k → at_ l j ≤ m
theorem isMx_1 (l : List Int) : Zwp l 1 (at_ l 0) := ⟨⟨0, by decide, rfl⟩, fun j hj => by rw [show j = 0 from by omega]; exact Int.le_refl _⟩
theorem Ydk {l : List Int} {k m : Int} (h0 : 0 ≤ k) (h : Zwp l k m) : Zwp l (k + 1) (max m (at_ l k.toNat)) := by
  obtain ⟨⟨j, h1, h2⟩, h3⟩ := h
  refine ⟨?_, fun i hi => ?_⟩
  · by_cases e : at_ l k.toNat ≤ m
    · exact ⟨j, by omega, by omega⟩
    · exact ⟨k.toNat, by omega, by omega⟩
  · by_cases e : i = k.toNat
    · subst e; omega
    · have := h3 i (by omega); omega
theorem bst_win {l : List Int} {M : Int} (h : 1 ≤ l.length) (hm : Zwp l l.length M) : Zcm l.length (fun j => decide (at_ l j = M)) = Zbk l := by
  obtain ⟨⟨j, h1, h2⟩, h3⟩ := hm
  exact Yej h ⟨j, by omega, h2⟩ fun i hi => h3 i (by omega)
theorem mg_mx {l : List Int} {M : Int} (h : 2 ≤ l.length) (hm : Zwp (l.take (Zbk l).toNat ++ l.drop ((Zbk l).toNat + 1)) (l.take (Zbk l).toNat ++ l.drop ((Zbk l).toNat + 1)).length M) : at_ l (Zbk l).toNat - M = mgI l := by
  obtain ⟨⟨j, h1, h2⟩, h3⟩ := hm
  exact mg_some h ⟨j, by omega, h2⟩ fun i hi => h3 i (by omega)
theorem Zvc {ls : List ByteArray} {W : List (List Int)} (h1 : Zce ls = true) (h2 : W.length = ls.length) (h3 : Zjn W = true) : Zbb ⟨ls, W⟩ = true := Zcd.2 ⟨h1, h2, h3⟩
theorem Ycu {v : List Int} {feats : List Feat} (h : Zbp feats 384 = true) (e : v = Zed feats) : (∀ i, 0 ≤ at_ v i ∧ at_ v i ≤ 512) ∧ v.length = 25 := by rw [e]; exact ⟨Zwq (fs := feats) (Zjk h).1, inpR_len feats⟩
def Zgi (W : List (List Int)) (x : List Int) (w g : Nat) : Nat → List (List Int)
  | 0 => W
  | k + 1 => ((Zgi W x w g k).set w ((at_ (Zgi W x w g k) w).set k (at_ (at_ (Zgi W x w g k) w) k + at_ x k))).set g ((at_ ((Zgi W x w g k).set w ((at_ (Zgi W x w g k) w).set k (at_ (at_ (Zgi W x w g k) w) k + at_ x k))) g).set k (at_ (at_ ((Zgi W x w g k).set w ((at_ (Zgi W x w g k) w).set k (at_ (at_ (Zgi W x w g k) w) k + at_ x k))) g) k - at_ x k))
theorem updW_1 {W : List (List Int)} {x : List Int} {w g : Nat} {k : Int} (h : 0 ≤ k) : Zgi W x w g (k + 1).toNat = ((Zgi W x w g k.toNat).set w ((at_ (Zgi W x w g k.toNat) w).set k.toNat (at_ (at_ (Zgi W x w g k.toNat) w) k.toNat + at_ x k.toNat))).set g ((at_ ((Zgi W x w g k.toNat).set w ((at_ (Zgi W x w g k.toNat) w).set k.toNat (at_ (at_ (Zgi W x w g k.toNat) w) k.toNat + at_ x k.toNat))) g).set k.toNat (at_ (at_ ((Zgi W x w g k.toNat).set w ((at_ (Zgi W x w g k.toNat) w).set k.toNat (at_ (at_ (Zgi W x w g k.toNat) w) k.toNat + at_ x k.toNat))) g) k.toNat - at_ x k.toNat)) := by
  have : (k + 1).toNat = k.toNat + 1 := by omega
  rw [this]; rfl
theorem Zlh (W : List (List Int)) (x : List Int) (w g : Nat) : ∀ k, (Zgi W x w g k).length = W.length
  | 0 => rfl
  | k + 1 => by simp only [Zgi, List.length_set]; exact Zlh W x w g k
theorem Zav {V : List (List Int)} {a : Nat} {r : List Int} (h : r.length = (at_ V a).length) (j : Nat) : (at_ (V.set a r) j).length = (at_ V j).length := by
  rw [Zil]
  split
  · rename_i h2; rw [h2.1]; exact h
  · rfl
theorem Zig (W : List (List Int)) (x : List Int) (w g : Nat) : ∀ k j, (at_ (Zgi W x w g k) j).length = (at_ W j).length
  | 0, _ => rfl
  | k + 1, j => (Zav (by rw [List.length_set]) j).trans ((Zav (by rw [List.length_set]) j).trans (Zig W x w g k j))
theorem Zss {W : List (List Int)} {x : List Int} {w g : Nat} (hw : w < W.length) (hg : g < W.length) (hne : w ≠ g) (hl : ∀ j, j < W.length → (at_ W j).length = 25) : ∀ k, k ≤ 25 → ∀ j i, at_ (at_ (Zgi W x w g k) j) i = at_ (at_ W j) i + (if i < k then (if j = w then at_ x i else if j = g then - at_ x i else 0) else 0)
  | 0, _, j, i => by simp [Zgi]
  | k + 1, hk, j, i => by
    have ih := Zss (x := x) hw hg hne hl k (by omega)
    have hL := Zlh W x w g k
    have hR := Zig W x w g k
    have h1 := ih j i
    simp only [Zgi, Zil, List.length_set, hL, hR]
    have hne' : ¬ g = w := fun e => hne e.symm
    by_cases e1 : j = g
    · subst e1
      have e1' : ¬ j = w := hne'
      simp only [e1', hg, hw, hl j hg, false_and, if_false, and_self, if_true, Zil, hR, true_and]
      by_cases e2 : i = k
      · subst e2
        rw [if_pos ⟨rfl, by omega⟩, ih j i, if_neg (by omega), if_pos (by omega)]; omega
      · rw [if_neg (fun h => e2 h.1), h1]
        simp only [e1', if_false, if_true]
        by_cases e3 : i < k
        · rw [if_pos e3, if_pos (by omega)]
        · rw [if_neg e3, if_neg (by omega)]
    · by_cases e4 : j = w
      · subst e4
        simp only [e1, hw, hl j hw, false_and, if_false, and_self, if_true, Zil, hR, true_and]
        by_cases e2 : i = k
        · subst e2
          rw [if_pos ⟨rfl, by omega⟩, ih j i, if_neg (by omega), if_pos (by omega)]; simp
        · rw [if_neg (fun h => e2 h.1), h1]
          simp only [if_true]
          by_cases e3 : i < k
          · rw [if_pos e3, if_pos (by omega)]
          · rw [if_neg e3, if_neg (by omega)]
      · simp only [e1, e4, false_and, if_false]
        rw [h1]; simp only [e1, e4, if_false, ite_self]
def Zaw (ls : List ByteArray) (l : ByteArray) : Int := Zcm ls.length fun j => decide (at_ ls j = l)
theorem Zso {ls : List ByteArray} {l : ByteArray} (h : l ∈ ls) : 0 ≤ Zaw ls l ∧ Zaw ls l < (ls.length : Int) := by
  unfold Zaw
  rcases Zhi ls.length (fun j => decide (at_ ls j = l)) with ⟨_, h2⟩ | ⟨k, h1, h2, _⟩
  · obtain ⟨j, hj, e⟩ := List.getElem_of_mem h
    have := h2 j hj
    rw [Zez hj, decide_eq_false_iff_not] at this
    exact absurd e this
  · omega
def Zdv (p : Perceptron) (s : Sample) : Perceptron × Bool × Int := if Zbk (scR p.Weights (Zed s.Feats)) = Zaw p.Labels s.Label then (p, false, 0) else if Zbb ⟨p.Labels, Zgi p.Weights (Zed s.Feats) (Zaw p.Labels s.Label).toNat (Zbk (scR p.Weights (Zed s.Feats))).toNat 25⟩ = true then (⟨p.Labels, Zgi p.Weights (Zed s.Feats) (Zaw p.Labels s.Label).toNat (Zbk (scR p.Weights (Zed s.Feats))).toNat 25⟩, true, 0) else (⟨[], []⟩, false, 5)
theorem Zjz {p : Perceptron} {s : Sample} (h : Zbk (scR p.Weights (Zed s.Feats)) = Zaw p.Labels s.Label) : Zdv p s = (p, false, 0) := if_pos h
theorem Zlb {p : Perceptron} {s : Sample} (h : ¬ Zbk (scR p.Weights (Zed s.Feats)) = Zaw p.Labels s.Label) (h2 : Zbb ⟨p.Labels, Zgi p.Weights (Zed s.Feats) (Zaw p.Labels s.Label).toNat (Zbk (scR p.Weights (Zed s.Feats))).toNat 25⟩ = true) : Zdv p s = (⟨p.Labels, Zgi p.Weights (Zed s.Feats) (Zaw p.Labels s.Label).toNat (Zbk (scR p.Weights (Zed s.Feats))).toNat 25⟩, true, 0) := by unfold Zdv; rw [if_neg h, if_pos h2]
theorem Zmn {p : Perceptron} {s : Sample} (h : ¬ Zbk (scR p.Weights (Zed s.Feats)) = Zaw p.Labels s.Label) (h2 : ¬ Zbb ⟨p.Labels, Zgi p.Weights (Zed s.Feats) (Zaw p.Labels s.Label).toNat (Zbk (scR p.Weights (Zed s.Feats))).toNat 25⟩ = true) : Zdv p s = (⟨[], []⟩, false, 5) := by unfold Zdv; rw [if_neg h, if_neg h2]
def Zxd (W : List (List Int)) (B : Int) : Prop := ∀ j i, -B ≤ at_ (at_ W j) i ∧ at_ (at_ W j) i ≤ B
theorem rows_ok {W : List (List Int)} {B : Int} (hl : ∀ j, j < W.length → (at_ W j).length = 25) (hb : Zxd W B) (hB : B ≤ 1000000) : Zjn W = true := Zff fun j hj => Zlm.2 ⟨hl j hj, fun k _ => by have := hb j k; omega⟩
theorem Zqy {p : Perceptron} {s : Sample} (hp : Zbb p = true) (hs : s.Label ∈ p.Labels) : (0 ≤ Zaw p.Labels s.Label ∧ Zaw p.Labels s.Label < (p.Weights.length : Int)) ∧ 0 ≤ Zbk (scR p.Weights (Zed s.Feats)) ∧ Zbk (scR p.Weights (Zed s.Feats)) < (p.Weights.length : Int) := by
  obtain ⟨h1, h2, h3⟩ := Zcd.1 hp
  have a := Zso hs
  have b := Zjj (l := scR p.Weights (Zed s.Feats)) (by rw [Zma]; have := Zfi h1; omega)
  rw [Zma] at b
  omega
theorem Ydp {p : Perceptron} {s : Sample} (hp : Zbb p = true) (h : (Zdv p s).2.2 = 0) : Zbb (Zdv p s).1 = true ∧ (Zdv p s).1.Labels = p.Labels := by
  by_cases h1 : Zbk (scR p.Weights (Zed s.Feats)) = Zaw p.Labels s.Label
  · rw [Zjz h1]; exact ⟨hp, rfl⟩
  · by_cases h2 : Zbb ⟨p.Labels, Zgi p.Weights (Zed s.Feats) (Zaw p.Labels s.Label).toNat (Zbk (scR p.Weights (Zed s.Feats))).toNat 25⟩ = true
    · rw [Zlb h1 h2]; exact ⟨h2, rfl⟩
    · rw [Zmn h1 h2] at h; cases h
theorem step_bd {p : Perceptron} {s : Sample} {B : Int} (hp : Zbb p = true) (hs : s.Label ∈ p.Labels) (hf : Zbp s.Feats 384 = true) (hB : Zxd p.Weights B) (h0 : 0 ≤ B) (hm : B ≤ 999000) : (Zdv p s).2.2 = 0 ∧ Zxd (Zdv p s).1.Weights (B + 512) := by
  obtain ⟨q1, q2, q3⟩ := Zcd.1 hp
  have hx := Zwq (fs := s.Feats) (Zjk hf).1
  by_cases h1 : Zbk (scR p.Weights (Zed s.Feats)) = Zaw p.Labels s.Label
  · rw [Zjz h1]; exact ⟨rfl, fun j i => by have := hB j i; show -(B + 512) ≤ at_ (at_ p.Weights j) i ∧ at_ (at_ p.Weights j) i ≤ B + 512; omega⟩
  · have hi := Zqy hp hs
    have hat := Zss (W := p.Weights) (x := Zed s.Feats) (w := (Zaw p.Labels s.Label).toNat) (g := (Zbk (scR p.Weights (Zed s.Feats))).toNat) (by omega) (by omega) (by omega) (fun j hj => (Zcu q3 hj).1) 25 (Nat.le_refl _)
    have hb : Zxd (Zgi p.Weights (Zed s.Feats) (Zaw p.Labels s.Label).toNat (Zbk (scR p.Weights (Zed s.Feats))).toNat 25) (B + 512) := by
      intro j i
      have e := hat j i
      have b1 := hB j i
      have b2 := hx i
      generalize at_ (at_ (Zgi p.Weights (Zed s.Feats) (Zaw p.Labels s.Label).toNat (Zbk (scR p.Weights (Zed s.Feats))).toNat 25) j) i = z at e ⊢
      generalize at_ (Zed s.Feats) i = y at e b2
      rw [e]
      split <;> (try split) <;> (try split) <;> omega
    have hl := Zlh p.Weights (Zed s.Feats) (Zaw p.Labels s.Label).toNat (Zbk (scR p.Weights (Zed s.Feats))).toNat 25
    have hr := Zig p.Weights (Zed s.Feats) (Zaw p.Labels s.Label).toNat (Zbk (scR p.Weights (Zed s.Feats))).toNat 25
    have h3 := Zlb h1
    generalize Zgi p.Weights (Zed s.Feats) (Zaw p.Labels s.Label).toNat (Zbk (scR p.Weights (Zed s.Feats))).toNat 25 = V at hl hr hb h3
    have h2 : Zbb ⟨p.Labels, V⟩ = true := Zvc q1 (hl.trans q2) (rows_ok (fun j hj => (hr j).trans (Zcu q3 (hl ▸ hj)).1) hb (by omega))
    rw [h3 h2]
    exact ⟨rfl, hb⟩
def epR (p : Perceptron) (list : List Sample) : Nat → Perceptron × Int × Int
  | 0 => (p, 0, 0)
  | k + 1 => if (epR p list k).2.2 = 0 then (if (Zdv (epR p list k).1 (at_ list k)).2.2 = 0 then ((Zdv (epR p list k).1 (at_ list k)).1, (epR p list k).2.1 + (if (Zdv (epR p list k).1 (at_ list k)).2.1 = true then 1 else 0), 0) else (⟨[], []⟩, 0, (Zdv (epR p list k).1 (at_ list k)).2.2)) else epR p list k
theorem Ydm {p q : Perceptron} {list : List Sample} {k n : Int} (h0 : 0 ≤ k) (h : epR p list k.toNat = (q, n, 0)) (hs : (Zdv q (at_ list k.toNat)).2.2 = 0) : epR p list (k + 1).toNat = ((Zdv q (at_ list k.toNat)).1, n + (if (Zdv q (at_ list k.toNat)).2.1 = true then 1 else 0), 0) := by
  have e : (k + 1).toNat = k.toNat + 1 := by omega
  rw [e, epR, h, if_pos rfl, if_pos hs]
theorem Zsr {p q : Perceptron} {list : List Sample} {n : Int} {k m : Nat} (h : epR p list k = (q, n, 0)) (hs : ¬ (Zdv q (at_ list k)).2.2 = 0) (hm : k < m) : epR p list m = (⟨[], []⟩, 0, (Zdv q (at_ list k)).2.2) := by
  induction m with
  | zero => omega
  | succ m ih =>
    by_cases e : k = m
    · subst e; rw [epR, h, if_pos rfl, if_neg hs]
    · have := ih (by omega)
      rw [epR, this, if_neg hs]
theorem ep_ok {p : Perceptron} {list : List Sample} (hp : Zbb p = true) : ∀ k, (epR p list k).2.2 = 0 → Zbb (epR p list k).1 = true ∧ (epR p list k).1.Labels = p.Labels
  | 0, _ => ⟨hp, rfl⟩
  | k + 1, h => by
    by_cases h1 : (epR p list k).2.2 = 0
    · obtain ⟨a, b⟩ := ep_ok hp k h1
      by_cases h2 : (Zdv (epR p list k).1 (at_ list k)).2.2 = 0
      · have := Ydp a h2
        rw [epR, if_pos h1, if_pos h2]
        exact ⟨this.1, this.2.trans b⟩
      · rw [epR, if_pos h1, if_neg h2] at h; exact absurd h h2
    · rw [epR, if_neg h1] at h; exact absurd h h1
theorem ep_bd {p : Perceptron} {list : List Sample} (hp : Zbb p = true) (hl : ∀ j, j < list.length → (at_ list j).Label ∈ p.Labels ∧ Zbp (at_ list j).Feats 384 = true) (h8 : list.length ≤ 100) (h0 : Zxd p.Weights 0) : ∀ k, k ≤ list.length → (epR p list k).2.2 = 0 ∧ Zxd (epR p list k).1.Weights (512 * (k : Int))
  | 0, _ => ⟨rfl, h0⟩
  | k + 1, hk => by
    obtain ⟨a, b⟩ := ep_bd hp hl h8 h0 k (by omega)
    have c := ep_ok (list := list) hp k a
    have d := hl k (by omega)
    have e := step_bd (s := at_ list k) c.1 (by rw [c.2]; exact d.1) d.2 b (by omega) (by omega)
    rw [epR, if_pos a, if_pos e.1]
    refine ⟨rfl, ?_⟩
    have e2 := e.2
    intro j i
    have := e2 j i
    show -(512 * ((k + 1 : Nat) : Int)) ≤ at_ (at_ (Zdv (epR p list k).1 (at_ list k)).1.Weights j) i ∧ at_ (at_ (Zdv (epR p list k).1 (at_ list k)).1.Weights j) i ≤ 512 * ((k + 1 : Nat) : Int)
    omega
theorem new_ok {ls : List ByteArray} (h : Zce ls = true) : Zbb ⟨ls, List.replicate ls.length (List.replicate 25 0)⟩ = true := by
  refine Zcd.2 ⟨h, by simp, Zff fun j hj => Zlm.2 ?_⟩
  have hj' : j < ls.length := by simpa using hj
  have e : at_ (List.replicate ls.length (List.replicate 25 (0 : Int))) j = List.replicate 25 0 := by rw [Zez hj]; simp
  show (at_ (List.replicate ls.length (List.replicate 25 (0 : Int))) j).length = 25 ∧ ∀ k, k < 25 → -1000000 ≤ at_ (at_ (List.replicate ls.length (List.replicate 25 (0 : Int))) j) k ∧ at_ (at_ (List.replicate ls.length (List.replicate 25 (0 : Int))) j) k ≤ 1000000
  rw [e]
  exact ⟨rfl, fun k hk => by rw [Yeh]; omega⟩
theorem new_bd (n : Nat) : Zxd (List.replicate n (List.replicate 25 0)) 0 := fun j i => by
  by_cases h : j < n
  · rw [show at_ (List.replicate n (List.replicate 25 (0 : Int))) j = List.replicate 25 0 from by rw [Zez (by simpa using h)]; simp, Yeh]; omega
  · rw [show at_ (List.replicate n (List.replicate 25 (0 : Int))) j = [] from by unfold at_; rw [List.getD_eq_getElem?_getD, List.getElem?_eq_none (by simp; omega)]; rfl]
    rw [Zyy (Nat.zero_le _)]; omega
theorem Zno {p : Perceptron} (h : Zbb p = true) : ∀ y ∈ p.Labels, y.size ≤ 9223372036854775807 := fun y hy => by
  obtain ⟨j, hj, e⟩ := List.getElem_of_mem hy
  have := Zem (Zcd.1 h).1 hj
  rw [Zez hj, e] at this
  simp only [Zci, Bool.and_eq_true, decide_eq_true_eq] at this
  omega
theorem Ydn {p : Perceptron} (h : Zbb p = true) : (p.Labels.length ≤ 100 ∧ p.Weights.length ≤ 100) ∧ ∀ j, j < p.Weights.length → (at_ p.Weights j).length ≤ 100 := by
  obtain ⟨h1, h2, h3⟩ := Zcd.1 h
  have := Zfi h1
  exact ⟨by omega, fun j hj => by have := (Zcu h3 hj).1; omega⟩
theorem Zkk {p : Perceptron} (h : Zbb p = true) : 1 ≤ p.Labels.length ∧ p.Labels.length ≤ 12 ∧ p.Weights.length = p.Labels.length := by
  obtain ⟨h1, h2, h3⟩ := Zcd.1 h
  have := Zfi h1
  omega
theorem Zys {p : Perceptron} {x : List Int} {w g : Nat} (h : Zbb p = true) (hx : ∀ i, 0 ≤ at_ x i ∧ at_ x i ≤ 512) (hw : w < p.Weights.length) (hg : g < p.Weights.length) (hne : w ≠ g) {k : Nat} (hk : k ≤ 25) {j i : Nat} (hj : j < p.Weights.length) (hi : i < 25) : -1000512 ≤ at_ (at_ (Zgi p.Weights x w g k) j) i ∧ at_ (at_ (Zgi p.Weights x w g k) j) i ≤ 1000512 := by
  have h3 := (Zcd.1 h).2.2
  have e := Zss (W := p.Weights) (x := x) hw hg hne (fun j hj => (Zcu h3 hj).1) k hk j i
  have a := (Zcu h3 hj).2 i hi
  have b := hx i
  rw [e]
  split <;> (try split) <;> (try split) <;> omega
theorem rep_1 {α : Type} {x : α} {i : Int} (h : 0 ≤ i) : List.replicate (i + 1).toNat x = List.replicate i.toNat x ++ [x] := by
  rw [show (i + 1).toNat = i.toNat + 1 from by omega, List.replicate_succ']
theorem Zih {ls : List ByteArray} (h : Zce ls = true) : Ydu ls = (⟨ls, List.replicate ls.length (List.replicate 25 0)⟩, 0) := if_pos h
theorem Yel {ls : List ByteArray} (h : ¬ Zce ls = true) : Ydu ls = (⟨[], []⟩, 1) := if_neg h
theorem Ycs {α : Type} [Inhabited α] {enc : α → List AV} {x : α} {xs : List α} {g : Nat → List AV} (hx : g 0 = enc x) (i : Nat) (hi : i < ([x] ++ xs).length) : Zdf 1 g (fun i => enc (at_ xs i)) i = enc (at_ ([x] ++ xs) i) := by
  cases i with
  | zero => rw [Zib (by decide), hx]; rfl
  | succ i => rw [Zhj (by omega), Zia (by simp)]; simp
def Zgn (xs : List Int) : ByteArray := ⟨(xs.map fun n => UInt8.ofNat n.toNat).toArray⟩
theorem Zhu (xs : List Int) : (Zgn xs).size = xs.length := by simp [Zgn, ByteArray.size]
theorem strB_at {xs : List Int} {i : Nat} (h : i < xs.length) (hb : 0 ≤ at_ xs i ∧ at_ xs i ≤ 255) : bAt (Zgn xs) i = at_ xs i := by
  have e : (Zgn xs).data.toList[i]? = some (UInt8.ofNat (at_ xs i).toNat) := by simp [Zgn, at_, List.getElem?_eq_getElem h]
  rw [bAt, List.getD_eq_getElem?_getD, e]
  simp
  omega
theorem Zyv {xs : List Int} (h : ∀ x ∈ xs, 0 ≤ x ∧ x ≤ 255) {n : Nat} {f : Nat → List AV} (hn : n = xs.length) (hf : ∀ i, i < xs.length → f i = fU8 xs i ∨ False) : (Zgn xs).size = n ∧ ∀ i, i < n → f i = Zhk (Zgn xs) i := by
  subst hn
  refine ⟨Zhu xs, fun i hi => ?_⟩
  rw [(hf i hi).resolve_right id]
  unfold Zhk
  rw [strB_at hi (h _ (Zct hi))]
  rfl
theorem Zwk {xs : List Int} (h : ∀ x ∈ xs, 0 ≤ x ∧ x ≤ 255) : (Zgn xs).size = xs.length ∧ ∀ i, i < xs.length → fU8 xs i = Zhk (Zgn xs) i := Zyv h rfl fun i _ => .inl rfl
def Zgy (s : ByteArray) : List Int := s.data.toList.map fun b => (b.toNat : Int)
@[simp] theorem bytesL_len (s : ByteArray) : (Zgy s).length = s.size := by unfold Zgy; rw [List.length_map, Array.length_toList]; rfl
theorem Zug {s : ByteArray} (i : Nat) (h : i < (Zgy s).length) : Zhk s i = fU8 (Zgy s) i := by
  unfold Zhk fU8 cU8
  have h' : i < s.data.toList.length := by simpa [Zgy] using h
  congr 3
  simp only [bAt, at_, Zgy, List.getD_eq_getElem?_getD, List.getElem?_map, List.getElem?_eq_getElem h', Option.map_some, Option.getD_some]
def labs6 : List ByteArray := [⟨#[49]⟩, ⟨#[55]⟩, ⟨#[97]⟩, ⟨#[98]⟩, ⟨#[99]⟩, ⟨#[120]⟩]
theorem Zpe (a b : UInt8) (h : decide (a < b) = true) : Zey ⟨#[a]⟩ ⟨#[b]⟩ = true := by
  unfold Zey
  rw [ByteArray.toList_eq, ByteArray.toList_eq]
  show (decide (a < b) || _) = true
  rw [h]; rfl
theorem labs6_ok : Zce labs6 = true := by
  rw [Zij (fun j hj => ?_)]
  · rfl
  · have : j = 0 ∨ j = 1 ∨ j = 2 ∨ j = 3 ∨ j = 4 ∨ j = 5 := by have : labs6.length = 6 := rfl; omega
    rcases this with e | e | e | e | e | e <;> subst e
    · exact Zfb (ls := labs6) (i := 0) (by decide) (by decide) (.inl (by decide))
    · exact Zfb (ls := labs6) (i := 1) (by decide) (by decide) (.inr (Zpe 49 55 (by decide)))
    · exact Zfb (ls := labs6) (i := 2) (by decide) (by decide) (.inr (Zpe 55 97 (by decide)))
    · exact Zfb (ls := labs6) (i := 3) (by decide) (by decide) (.inr (Zpe 97 98 (by decide)))
    · exact Zfb (ls := labs6) (i := 4) (by decide) (by decide) (.inr (Zpe 98 99 (by decide)))
    · exact Zfb (ls := labs6) (i := 5) (by decide) (by decide) (.inr (Zpe 99 120 (by decide)))
theorem Yem {α : Type} [Inhabited α] {out xs : List α} {i : Int} (h : out.Sublist (xs.take i.toNat)) (h0 : 0 ≤ i) (hi : i.toNat < xs.length) : (out ++ [at_ xs i.toNat]).Sublist (xs.take (i + 1).toNat) := by
  rw [show (i + 1).toNat = i.toNat + 1 from by omega, Zju hi]
  exact h.append (List.Sublist.refl _)
theorem sub_no {α : Type} [Inhabited α] {out xs : List α} {i : Int} (h : out.Sublist (xs.take i.toNat)) (h0 : 0 ≤ i) (hi : i.toNat < xs.length) : out.Sublist (xs.take (i + 1).toNat) := by
  rw [show (i + 1).toNat = i.toNat + 1 from by omega, Zju hi]
  exact h.trans (List.sublist_append_left _ _)
theorem Zkg {ls : List ByteArray} (h : Zce ls = true) : (∀ l ∈ ls, Zci l = true) ∧ ls.Pairwise fun a b => Zey a b = true := by
  refine ⟨fun l hl => ?_, ?_⟩
  · obtain ⟨j, hj, e⟩ := List.getElem_of_mem hl
    rw [← e, ← Zez hj]; exact Zem h hj
  · rw [List.pairwise_iff_getElem]
    have step : ∀ k, k + 1 < ls.length → Zey (at_ ls k) (at_ ls (k + 1)) = true := fun k hk => by
      simp only [Zce, Bool.and_eq_true] at h
      have := Zhh h.1 hk
      unfold Zlj at this
      simp only [Bool.and_eq_true, Bool.or_eq_true, decide_eq_true_eq] at this
      rcases this.2 with q | q
      · omega
      · exact q
    have all : ∀ d i, i + d + 1 < ls.length → Zey (at_ ls i) (at_ ls (i + d + 1)) = true := fun d => by
      induction d with
      | zero => intro i hi; exact step i hi
      | succ d ih => intro i hi; exact sl_trans (ih i (by omega)) (step (i + d + 1) (by omega))
    intro i j hi hj hij
    have := all (j - i - 1) i (by omega)
    rw [show i + (j - i - 1) + 1 = j from by omega] at this
    rw [← Zez hi, ← Zez hj]; exact this
theorem Zxe {ls : List ByteArray} (h1 : ∀ l ∈ ls, Zci l = true) (h2 : ls.Pairwise fun a b => Zey a b = true) (h3 : 1 ≤ ls.length ∧ ls.length ≤ 12) : Zce ls = true := by
  rw [Zij (fun j hj => ?_)]
  · exact decide_eq_true (by omega)
  · unfold Zlj
    rw [h1 _ (Zct hj), Bool.true_and, Bool.or_eq_true, decide_eq_true_eq]
    by_cases e : j = 0
    · exact .inl e
    · right
      have := List.pairwise_iff_getElem.1 h2 (j - 1) j (by omega) hj (by omega)
      rw [Zez hj, Zez (show j - 1 < ls.length by omega)]; exact this
theorem Zfj {v : List ByteArray} (h : v.Sublist labs6) (hn : 1 ≤ v.length) : Zce v = true := by
  have hp := Zkg labs6_ok
  have hl := h.length_le
  exact Zxe (fun l hl => hp.1 l (h.subset hl)) (hp.2.sublist h) ⟨hn, by have : labs6.length = 6 := rfl; omega⟩
def okSm (ls : List ByteArray) (x : Sample) : Prop := x.Label ∈ ls ∧ Zbp x.Feats 384 = true
theorem Zjw {fs : List Feat} (h1 : ∀ f ∈ fs, okF f = true) (h2 : 1 ≤ fs.length ∧ (fs.length : Int) ≤ 384) : Zbp fs 384 = true := by
  unfold Zbp
  rw [decide_eq_true (by omega), Zff (fun j hj => h1 _ (Zct hj))]; rfl
theorem okF_mk {x y d : Int} (hx : 0 ≤ x ∧ x ≤ 255) (hy : 0 ≤ y ∧ y ≤ 255) (hd : 0 ≤ d ∧ d ≤ 7) : okF ⟨x, y, d⟩ = true := Zox.2 ⟨hx, hy, hd⟩
theorem Zjo {α : Type} {P : α → Prop} {xs : List α} {x : α} (h : ∀ y ∈ xs, P y) (hx : P x) : ∀ y ∈ xs ++ [x], P y := by
  intro y hy
  rcases List.mem_append.1 hy with h1 | h1
  · exact h y h1
  · simp at h1; subst h1; exact hx
theorem ep_new {ls : List ByteArray} {list : List Sample} (h : Zce ls = true) (hl : ∀ x ∈ list, okSm ls x) (hn : list.length ≤ 100) : (epR (Ydu ls).1 list list.length).2.2 = 0 ∧ Zbb (epR (Ydu ls).1 list list.length).1 = true ∧ (epR (Ydu ls).1 list list.length).1.Labels = ls := by
  rw [Zih h]
  have hp := new_ok h
  have hb := ep_bd (p := ⟨ls, List.replicate ls.length (List.replicate 25 0)⟩) (list := list) hp (fun j hj => hl _ (Zct hj)) hn (new_bd _) list.length (Nat.le_refl _)
  exact ⟨hb.1, ep_ok hp _ hb.1⟩
def drP (p : Perceptron) : Prop := p.Labels.length ≤ 20 ∧ (∀ l ∈ p.Labels, l.size ≤ 64) ∧ p.Weights.length ≤ 20
theorem Zcc {p : Perceptron} (h : Zbb p = true) : drP p := by
  have := Zkk h
  refine ⟨by omega, fun y hy => ?_, by omega⟩
  obtain ⟨j, hj, e⟩ := List.getElem_of_mem hy
  have := Zem (Zcd.1 h).1 hj
  rw [Zez hj, e] at this
  simp only [Zci, Bool.and_eq_true, decide_eq_true_eq] at this
  omega
theorem Zgq {ls : List ByteArray} {W V : List (List Int)} (h : drP ⟨ls, W⟩) (hl : V.length ≤ W.length) : drP ⟨ls, V⟩ := ⟨h.1, h.2.1, Nat.le_trans hl h.2.2⟩
theorem Zgp {ls : List ByteArray} {W : List (List Int)} {k : Nat} {t : ByteArray} (h : drP ⟨ls, W⟩) (ht : t.size ≤ 16) : drP ⟨ls.set k t, W⟩ := by
  refine ⟨by show (ls.set k t).length ≤ 20; rw [List.length_set]; exact h.1, fun l hl => ?_, h.2.2⟩
  rcases List.mem_or_eq_of_mem_set hl with q | q
  · exact h.2.1 l q
  · rw [q]; omega
theorem Zmu (s : l00Src) (hs : Zbj s) (ha : s.atx ≤ 3999999999999999900) : ∃ (v : List ByteArray) (s' : l00Src), (Zbj s') ∧ (s'.code = s.code) ∧ (s.atx + 0 ≤ s'.atx ∧ s'.atx ≤ s.atx + 20) ∧ (Zce v = true) ∧ Zaz Tryz.prog 68 [.ref 7001 0] (Zaf [(7001, Zaa s)]) true (slS true v) (Zaf [(7001, Zaa s')]) := by
  have hh : ∃ r : (List ByteArray) × l00Src, ((Zbj r.2) ∧ (r.2.code = s.code) ∧ (s.atx + 0 ≤ r.2.atx ∧ r.2.atx ≤ s.atx + 20) ∧ (Zce r.1 = true) ∧ (True)) ∧ Zaz Tryz.prog 68 [.ref 7001 0] (Zaf [(7001, Zaa s)]) true (slS true r.1) (Zaf [(7001, Zaa r.2)]) := by
    refine Zde (Φ := fun r : (List ByteArray) × l00Src => (Zbj r.2) ∧ (r.2.code = s.code) ∧ (s.atx + 0 ≤ r.2.atx ∧ r.2.atx ≤ s.atx + 20) ∧ (Zce r.1 = true) ∧ (True)) [(7001, Zaa s)] (fun r => [(7001, Zaa r.2)]) (fn := Tryz.f68) (nt := 29) Tryz.func68 rfl rfl (args := [.ref 7001 0]) rfl (Zbw (.inr trivial) Zdb) (res := fun r => slS true r.1) ?_
    refine xR [] [0] [7001] [.ref 7001 0] [some (Zaa s)] [] trivial ?_
    refine xR [(0, .new 6)] [0, 3] [6, 7001] [.ref 7001 0, .arr 6] [some (.arr 1 6 (Zcw [Sv (⟨#[49]⟩ : ByteArray), Sv (⟨#[55]⟩ : ByteArray), Sv (⟨#[97]⟩ : ByteArray), Sv (⟨#[98]⟩ : ByteArray), Sv (⟨#[99]⟩ : ByteArray), Sv (⟨#[120]⟩ : ByteArray)] 1)), some (Zaa s)] [] trivial ?_
    refine xR [(0, .new 7)] [0, 3, 4] [6, 7, 7001] [.ref 7001 0, .arr 6, .arr 7] [some (.arr 1 6 (Zcw [Sv (⟨#[49]⟩ : ByteArray), Sv (⟨#[55]⟩ : ByteArray), Sv (⟨#[97]⟩ : ByteArray), Sv (⟨#[98]⟩ : ByteArray), Sv (⟨#[99]⟩ : ByteArray), Sv (⟨#[120]⟩ : ByteArray)] 1)), some (.arr 1 0 (Zcw [] 1)), some (Zaa s)] [] trivial ?_
    refine Zap ?_
    refine xR [] [0, 3, 4, 5] [6, 7, 7001] [.ref 7001 0, .arr 6, .arr 7, I 0] [some (.arr 1 6 (Zcw [Sv (⟨#[49]⟩ : ByteArray), Sv (⟨#[55]⟩ : ByteArray), Sv (⟨#[97]⟩ : ByteArray), Sv (⟨#[98]⟩ : ByteArray), Sv (⟨#[99]⟩ : ByteArray), Sv (⟨#[120]⟩ : ByteArray)] 1)), some (.arr 1 0 (Zcw [] 1)), some (Zaa s)] [] trivial ?_
    refine Zbz ?_
    refine Zcz [] (T := [(0, .ref 7001 0), (3, slS true ([(⟨#[49]⟩ : ByteArray), (⟨#[55]⟩ : ByteArray), (⟨#[97]⟩ : ByteArray), (⟨#[98]⟩ : ByteArray), (⟨#[99]⟩ : ByteArray), (⟨#[120]⟩ : ByteArray)])), (4, .arr 7), (5, I 0)]) (O := [(7, tAS ([] : List ByteArray)), (7001, Zaa s)]) rfl (⟨.inl rfl, .inr ⟨(fun _ => rfl), rfl, (by first | rfl | (simp; done) | (simp; omega) | omega), fun i_ hi_ => .inl (match i_, hi_ with | 0, _ => rfl | 1, _ => rfl | 2, _ => rfl | 3, _ => rfl | 4, _ => rfl | 5, _ => rfl | (i + 6), h => absurd h (by simp))⟩, .inl rfl, .inl rfl, trivial⟩) (⟨.inr ⟨rfl, (by first | rfl | (simp; done) | (simp; omega) | omega), fun i_ hi_ => absurd hi_ (Nat.not_lt_zero _)⟩, .inl rfl, trivial⟩) ?_
    refine Zeh (X := (List ByteArray) × Int × l00Src) (fun x => mkS [(0, .ref 7001 0), (3, slS true ([(⟨#[49]⟩ : ByteArray), (⟨#[55]⟩ : ByteArray), (⟨#[97]⟩ : ByteArray), (⟨#[98]⟩ : ByteArray), (⟨#[99]⟩ : ByteArray), (⟨#[120]⟩ : ByteArray)])), (4, .arr 7), (5, I x.2.1)] [(7, tAS x.1), (7001, Zaa x.2.2)]) (fun x => (Zbj x.2.2 ∧ x.2.2.code = s.code ∧ s.atx ≤ x.2.2.atx ∧ x.2.2.atx ≤ s.atx + 2 * x.2.1) ∧ (0 ≤ x.2.1 ∧ x.2.1 ≤ 6) ∧ (x.1.Sublist (labs6.take x.2.1.toNat)) ∧ ((x.1.length : Int) ≤ x.2.1) ∧ True) (fun x => (6 - x.2.1).toNat) (([] : List ByteArray), 0, s) rfl (show (Zbj s ∧ s.code = s.code ∧ s.atx ≤ s.atx ∧ s.atx ≤ s.atx + 2 * (0 : Int)) ∧ (0 ≤ (0 : Int) ∧ (0 : Int) ≤ 6) ∧ (([] : List ByteArray).Sublist (labs6.take (0 : Int).toNat)) ∧ ((([] : List ByteArray).length : Int) ≤ (0 : Int)) ∧ True from ⟨(by exact ⟨by assumption, by first | assumption | rfl | (simp only [*]; done), by omega, by omega⟩), (by omega), (by exact List.Sublist.refl _), (by simp), trivial⟩) (fun x hI => ?_)
    obtain ⟨out, i, src⟩ := x
    obtain ⟨hs0, hi0, hsu, hol, _⟩ : (Zbj src ∧ src.code = s.code ∧ s.atx ≤ src.atx ∧ src.atx ≤ s.atx + 2 * i) ∧ (0 ≤ i ∧ i ≤ 6) ∧ (out.Sublist (labs6.take i.toNat)) ∧ ((out.length : Int) ≤ i) ∧ True := hI
    show XW _ _ _ _ (mkS [(0, .ref 7001 0), (3, slS true ([(⟨#[49]⟩ : ByteArray), (⟨#[55]⟩ : ByteArray), (⟨#[97]⟩ : ByteArray), (⟨#[98]⟩ : ByteArray), (⟨#[99]⟩ : ByteArray), (⟨#[120]⟩ : ByteArray)])), (4, .arr 7), (5, I i)] [(7, tAS out), (7001, Zaa src)]) _ _
    refine Zap ?_
    refine Zap ?_
    by_cases h1 : i < ((([(⟨#[49]⟩ : ByteArray), (⟨#[55]⟩ : ByteArray), (⟨#[97]⟩ : ByteArray), (⟨#[98]⟩ : ByteArray), (⟨#[99]⟩ : ByteArray), (⟨#[120]⟩ : ByteArray)]).length) : Int)
    ·have hl6 : i < 6 := h1
     refine x_r [(3, .dec true)] [0, 3, 4, 5, 11] [7, 7001] [.ref 7001 0, slS true ([(⟨#[49]⟩ : ByteArray), (⟨#[55]⟩ : ByteArray), (⟨#[97]⟩ : ByteArray), (⟨#[98]⟩ : ByteArray), (⟨#[99]⟩ : ByteArray), (⟨#[120]⟩ : ByteArray)]), .arr 7, I i, Bv true] [some (tAS out), some (Zaa src)] [i < ((([(⟨#[49]⟩ : ByteArray), (⟨#[55]⟩ : ByteArray), (⟨#[97]⟩ : ByteArray), (⟨#[98]⟩ : ByteArray), (⟨#[99]⟩ : ByteArray), (⟨#[120]⟩ : ByteArray)]).length) : Int)] ⟨h1, trivial⟩ ?_
     refine Zab ?_
     refine Zbq rfl ?_
     refine Zca ?_
     refine Zab ?_
     refine Zap ?_
     refine Zbz ?_
     refine Zap ?_
     obtain ⟨v_1, s'_1, hx1_0, hx1_1, hx1_2, hc1⟩ := Zyn src 3 (by first | assumption | (simp only [Zbj] at *; simp_all; done)) (by omega)
     rcases Bool.eq_false_or_eq_true v_1 with h2 | h2
     ·subst h2
      refine x_r [(1, .lend [(7001, Zaa src, Zaa s'_1)] [] [(true, .any), (true, .any)] true (Bv true))] [0, 3, 4, 5, 16] [7, 7001] [.ref 7001 0, slS true ([(⟨#[49]⟩ : ByteArray), (⟨#[55]⟩ : ByteArray), (⟨#[97]⟩ : ByteArray), (⟨#[98]⟩ : ByteArray), (⟨#[99]⟩ : ByteArray), (⟨#[120]⟩ : ByteArray)]), .arr 7, I i, Bv false] [some (tAS out), some (Zaa s'_1)] [Zaz Tryz.prog 31 [.ref 7001 0, I 3] (Zaf [(7001, Zaa src)]) true (Bv true) (Zaf [(7001, Zaa s'_1)]) ∧ (((Zaa src : Ob) = Zaa src ∨ Zeu Zel true (Zaa src) (Zaa src)) ∧ Zar false (Zaa src)) ∧ True] ⟨⟨hc1, ⟨.inl rfl, (by simp [Zar, Zah, Zak, Zdj])⟩, trivial⟩, trivial⟩ ?_
      refine Zab ?_
      refine Zbe rfl ?_
      refine Zca ?_
      refine Zbr 1 ?_
      refine Zab ?_
      refine x_r [] [0, 3, 4, 5] [7, 7001] [.ref 7001 0, slS true ([(⟨#[49]⟩ : ByteArray), (⟨#[55]⟩ : ByteArray), (⟨#[97]⟩ : ByteArray), (⟨#[98]⟩ : ByteArray), (⟨#[99]⟩ : ByteArray), (⟨#[120]⟩ : ByteArray)]), .arr 7, I (i + 1)] [some (tAS out), some (Zaa s'_1)] [inR .i64 (i + 1)] ⟨(Zam (by first | omega | (simp only [List.length_cons, List.length_nil]; omega)) (by first | omega | (simp only [List.length_cons, List.length_nil]; omega))), trivial⟩ ?_
      exact Zcj (out, (i + 1), s'_1) rfl (show (Zbj s'_1 ∧ s'_1.code = s.code ∧ s.atx ≤ s'_1.atx ∧ s'_1.atx ≤ s.atx + 2 * (i + 1)) ∧ (0 ≤ (i + 1) ∧ (i + 1) ≤ 6) ∧ (out.Sublist (labs6.take (i + 1).toNat)) ∧ ((out.length : Int) ≤ (i + 1)) ∧ True from ⟨(by exact ⟨by assumption, by first | assumption | rfl | (simp only [*]; done), by omega, by omega⟩), (by omega), (by first | exact Yem hsu hi0.1 (show i.toNat < 6 by omega) | exact sub_no hsu hi0.1 (show i.toNat < 6 by omega)), (by first | omega | (simp; omega)), trivial⟩) (by first | (show ((6 - (i + 1)).toNat : Nat) < (6 - i).toNat; omega) | (dsimp only; omega))
     subst h2
     refine x_r [(1, .lend [(7001, Zaa src, Zaa s'_1)] [] [(true, .any), (true, .any)] true (Bv false))] [0, 3, 4, 5, 16] [7, 7001] [.ref 7001 0, slS true ([(⟨#[49]⟩ : ByteArray), (⟨#[55]⟩ : ByteArray), (⟨#[97]⟩ : ByteArray), (⟨#[98]⟩ : ByteArray), (⟨#[99]⟩ : ByteArray), (⟨#[120]⟩ : ByteArray)]), .arr 7, I i, Bv true] [some (tAS out), some (Zaa s'_1)] [Zaz Tryz.prog 31 [.ref 7001 0, I 3] (Zaf [(7001, Zaa src)]) true (Bv false) (Zaf [(7001, Zaa s'_1)]) ∧ (((Zaa src : Ob) = Zaa src ∨ Zeu Zel true (Zaa src) (Zaa src)) ∧ Zar false (Zaa src)) ∧ True] ⟨⟨hc1, ⟨.inl rfl, (by simp [Zar, Zah, Zak, Zdj])⟩, trivial⟩, trivial⟩ ?_
     refine Zab ?_
     refine Zbq rfl ?_
     refine x_r [(5, .new 22), (6, .new 23)] [0, 3, 4, 5] [23, 7001] [.ref 7001 0, slS true ([(⟨#[49]⟩ : ByteArray), (⟨#[55]⟩ : ByteArray), (⟨#[97]⟩ : ByteArray), (⟨#[98]⟩ : ByteArray), (⟨#[99]⟩ : ByteArray), (⟨#[120]⟩ : ByteArray)]), .arr 23, I i] [some (.arr 1 (out.length + 1) (Zdf out.length (fS out) (Zcw [Sv (at_ ([(⟨#[49]⟩ : ByteArray), (⟨#[55]⟩ : ByteArray), (⟨#[97]⟩ : ByteArray), (⟨#[98]⟩ : ByteArray), (⟨#[99]⟩ : ByteArray), (⟨#[120]⟩ : ByteArray)]) i.toNat)] 1))), some (Zaa s'_1)] [(0 : Int) ≤ i ∧ i < ((([(⟨#[49]⟩ : ByteArray), (⟨#[55]⟩ : ByteArray), (⟨#[97]⟩ : ByteArray), (⟨#[98]⟩ : ByteArray), (⟨#[99]⟩ : ByteArray), (⟨#[120]⟩ : ByteArray)]).length) : Int), (out.length + 1) * 16 ≤ 140737488355328] ⟨⟨(by first | omega | (simp only [List.length_cons, List.length_nil]; omega)), (by first | omega | (simp only [List.length_cons, List.length_nil]; omega))⟩, (by first | omega | (simp only [List.length_cons, List.length_nil]; omega)), trivial⟩ ?_
     refine Zbr 1 ?_
     refine Zab ?_
     refine x_r [] [0, 3, 4, 5] [23, 7001] [.ref 7001 0, slS true ([(⟨#[49]⟩ : ByteArray), (⟨#[55]⟩ : ByteArray), (⟨#[97]⟩ : ByteArray), (⟨#[98]⟩ : ByteArray), (⟨#[99]⟩ : ByteArray), (⟨#[120]⟩ : ByteArray)]), .arr 23, I (i + 1)] [some (.arr 1 (out.length + 1) (Zdf out.length (fS out) (Zcw [Sv (at_ ([(⟨#[49]⟩ : ByteArray), (⟨#[55]⟩ : ByteArray), (⟨#[97]⟩ : ByteArray), (⟨#[98]⟩ : ByteArray), (⟨#[99]⟩ : ByteArray), (⟨#[120]⟩ : ByteArray)]) i.toNat)] 1))), some (Zaa s'_1)] [inR .i64 (i + 1)] ⟨(Zam (by first | omega | (simp only [List.length_cons, List.length_nil]; omega)) (by first | omega | (simp only [List.length_cons, List.length_nil]; omega))), trivial⟩ ?_
     refine Zcx [(7, 23)] (T := [(0, .ref 7001 0), (3, slS true ([(⟨#[49]⟩ : ByteArray), (⟨#[55]⟩ : ByteArray), (⟨#[97]⟩ : ByteArray), (⟨#[98]⟩ : ByteArray), (⟨#[99]⟩ : ByteArray), (⟨#[120]⟩ : ByteArray)])), (4, .arr 7), (5, I (i + 1))]) (O := [(7, tAS (out ++ [(at_ ([(⟨#[49]⟩ : ByteArray), (⟨#[55]⟩ : ByteArray), (⟨#[97]⟩ : ByteArray), (⟨#[98]⟩ : ByteArray), (⟨#[99]⟩ : ByteArray), (⟨#[120]⟩ : ByteArray)]) i.toNat)])), (7001, Zaa s'_1)]) rfl (⟨.inl rfl, .inl rfl, .inl rfl, .inl rfl, trivial⟩) (⟨.inr ⟨rfl, (by first | rfl | (simp; done) | (simp; omega) | omega), fun i_ hi_ => .inl (Zee (enc := cS) (xs := out) rfl i_ hi_)⟩, .inl rfl, trivial⟩) (Zcj ((out ++ [(at_ ([(⟨#[49]⟩ : ByteArray), (⟨#[55]⟩ : ByteArray), (⟨#[97]⟩ : ByteArray), (⟨#[98]⟩ : ByteArray), (⟨#[99]⟩ : ByteArray), (⟨#[120]⟩ : ByteArray)]) i.toNat)]), (i + 1), s'_1) rfl (show (Zbj s'_1 ∧ s'_1.code = s.code ∧ s.atx ≤ s'_1.atx ∧ s'_1.atx ≤ s.atx + 2 * (i + 1)) ∧ (0 ≤ (i + 1) ∧ (i + 1) ≤ 6) ∧ ((out ++ [(at_ ([(⟨#[49]⟩ : ByteArray), (⟨#[55]⟩ : ByteArray), (⟨#[97]⟩ : ByteArray), (⟨#[98]⟩ : ByteArray), (⟨#[99]⟩ : ByteArray), (⟨#[120]⟩ : ByteArray)]) i.toNat)]).Sublist (labs6.take (i + 1).toNat)) ∧ (((out ++ [(at_ ([(⟨#[49]⟩ : ByteArray), (⟨#[55]⟩ : ByteArray), (⟨#[97]⟩ : ByteArray), (⟨#[98]⟩ : ByteArray), (⟨#[99]⟩ : ByteArray), (⟨#[120]⟩ : ByteArray)]) i.toNat)]).length : Int) ≤ (i + 1)) ∧ True from ⟨(by exact ⟨by assumption, by first | assumption | rfl | (simp only [*]; done), by omega, by omega⟩), (by omega), (by first | exact Yem hsu hi0.1 (show i.toNat < 6 by omega) | exact sub_no hsu hi0.1 (show i.toNat < 6 by omega)), (by first | omega | (simp; omega)), trivial⟩) (by first | (show ((6 - (i + 1)).toNat : Nat) < (6 - i).toNat; omega) | (dsimp only; omega)))
    have hl6 : ¬ i < 6 := h1
    refine x_r [(3, .dec false)] [0, 3, 4, 5, 11] [7, 7001] [.ref 7001 0, slS true ([(⟨#[49]⟩ : ByteArray), (⟨#[55]⟩ : ByteArray), (⟨#[97]⟩ : ByteArray), (⟨#[98]⟩ : ByteArray), (⟨#[99]⟩ : ByteArray), (⟨#[120]⟩ : ByteArray)]), .arr 7, I i, Bv false] [some (tAS out), some (Zaa src)] [¬ (i < ((([(⟨#[49]⟩ : ByteArray), (⟨#[55]⟩ : ByteArray), (⟨#[97]⟩ : ByteArray), (⟨#[98]⟩ : ByteArray), (⟨#[99]⟩ : ByteArray), (⟨#[120]⟩ : ByteArray)]).length) : Int))] ⟨h1, trivial⟩ ?_
    refine Zab ?_
    refine Zbe rfl ?_
    refine Zeg ?_
    refine Zbs ?_
    refine Zbu ?_
    refine Zbt ?_
    refine Zab ?_
    refine Zap ?_
    refine Zap ?_
    by_cases h3 : (out.length : Int) = 0
    ·refine x_r [(2, .dec true)] [4, 26] [7, 7001] [.arr 7, Bv true] [some (tAS out), some (Zaa src)] [(out.length : Int) = 0] ⟨h3, trivial⟩ ?_
     refine Zab ?_
     refine Zbq rfl ?_
     refine xR [(0, .new 27)] [2] [27, 7001] [.arr 27] [some (.arr 1 1 (Zcw [Sv (⟨#[97]⟩ : ByteArray)] 1)), some (Zaa src)] [] trivial ?_
     refine Zcf ?_
     refine Zbd ?_
     refine Zbn ([(⟨#[97]⟩ : ByteArray)], src) (show (Zbj src) ∧ (src.code = s.code) ∧ (s.atx + 0 ≤ src.atx ∧ src.atx ≤ s.atx + 20) ∧ (Zce ([(⟨#[97]⟩ : ByteArray)]) = true) ∧ (True) from ⟨(by first | omega | exact hs0.1 | exact hs0.2.1 | (decide) | exact Zfj (hsu.trans (List.take_sublist _ _)) (by omega)), (by first | omega | exact hs0.1 | exact hs0.2.1 | (decide) | exact Zfj (hsu.trans (List.take_sublist _ _)) (by omega)), (by first | omega | exact hs0.1 | exact hs0.2.1 | (decide) | exact Zfj (hsu.trans (List.take_sublist _ _)) (by omega)), (by first | omega | exact hs0.1 | exact hs0.2.1 | (decide) | exact Zfj (hsu.trans (List.take_sublist _ _)) (by omega)), trivial⟩) (⟨.inl rfl, trivial⟩) (.arr 27) (by kernel_rfl) (.inr ⟨(fun _ => rfl), rfl, (by first | rfl | (simp; done) | (simp; omega) | omega), fun i_ hi_ => .inl (match i_, hi_ with | 0, _ => rfl | (i + 1), h => absurd h (by simp))⟩) (fun _ => rfl) (fun _ => (Zer true _))
    refine x_r [(2, .dec false)] [4, 26] [7, 7001] [.arr 7, Bv false] [some (tAS out), some (Zaa src)] [¬ ((out.length : Int) = 0)] ⟨h3, trivial⟩ ?_
    refine Zab ?_
    refine Zbe rfl ?_
    refine Zca ?_
    refine Zab ?_
    refine xR [] [2] [7, 7001] [.arr 7] [some (tAS out), some (Zaa src)] [] trivial ?_
    refine Zcf ?_
    refine Zbn (out, src) (show (Zbj src) ∧ (src.code = s.code) ∧ (s.atx + 0 ≤ src.atx ∧ src.atx ≤ s.atx + 20) ∧ (Zce out = true) ∧ (True) from ⟨(by first | omega | exact hs0.1 | exact hs0.2.1 | (decide) | exact Zfj (hsu.trans (List.take_sublist _ _)) (by omega)), (by first | omega | exact hs0.1 | exact hs0.2.1 | (decide) | exact Zfj (hsu.trans (List.take_sublist _ _)) (by omega)), (by first | omega | exact hs0.1 | exact hs0.2.1 | (decide) | exact Zfj (hsu.trans (List.take_sublist _ _)) (by omega)), (by first | omega | exact hs0.1 | exact hs0.2.1 | (decide) | exact Zfj (hsu.trans (List.take_sublist _ _)) (by omega)), trivial⟩) (⟨.inl rfl, trivial⟩) (.arr 7) (by kernel_rfl) (.inr ⟨(fun _ => rfl), rfl, rfl, fun i _ => .inl rfl⟩) (fun _ => rfl) (fun _ => (Zer true _))
  obtain ⟨⟨v, s'⟩, ⟨hh0, hh1, hh2, hh3, _⟩, hc⟩ := hh
  exact ⟨v, s', hh0, hh1, hh2, hh3, hc⟩
theorem Zki (c : Int) : Con Tryz.prog 133 [.val (.int .u8 c)] true (Bv (inB c 97 122)) := by
  refine Zdc (fn := Tryz.f133) (nt := 9) Tryz.func133 rfl rfl rfl rfl (by simp [Zah, Zak]) fun B hB => ?_
  refine aR [] [0] [] [.val (.int .u8 c)] [] [] hB trivial ?_
  refine Zal ?_
  by_cases h1 : 97 ≤ c
  ·refine Zby [(1, .dec true)] [2] [] [Bv (decide (c ≤ 122))] [] [97 ≤ c] hB ⟨h1, trivial⟩ ?_
   refine Zac ?_
   refine Zax ?_
   refine Zba hB (Bv (decide (c ≤ 122))) (by kernel_rfl) (.inl (by first | rfl | (refine congrArg Bv ?_; simp [inB, *]; done) | (refine congrArg Bv ?_; simp [inB, *]; omega) | (refine congrArg Bv ?_; simp_all [inB]; done) | (refine congrArg Bv ?_; simp_all [inB]; omega))) rfl (fun _ => trivial)
  refine Zby [(1, .dec false)] [2] [] [Bv false] [] [¬ (97 ≤ c)] hB ⟨h1, trivial⟩ ?_
  refine Zac ?_
  refine Zax ?_
  refine Zba hB (Bv false) (by kernel_rfl) (.inl (by first | rfl | (refine congrArg Bv ?_; simp [inB, *]; done) | (refine congrArg Bv ?_; simp [inB, *]; omega) | (refine congrArg Bv ?_; simp_all [inB]; done) | (refine congrArg Bv ?_; simp_all [inB]; omega))) rfl (fun _ => trivial)
theorem Zxf (c : Int) : Con Tryz.prog 113 [.val (.int .u8 c)] true (Bv (Zfk c)) := by
  refine Zdc (fn := Tryz.f113) (nt := 24) Tryz.func113 rfl rfl rfl rfl (by simp [Zah, Zak]) fun B hB => ?_
  refine aR [] [0] [] [.val (.int .u8 c)] [] [] hB trivial ?_
  refine Zal ?_
  refine aR [] [0, 3] [] [.val (.int .u8 c), .val (.int .u8 c)] [] [] hB trivial ?_
  refine Zbo ?_
  refine Zal ?_
  refine Zal ?_
  by_cases h1 : c = 43
  ·refine Zby [(0, .dec true)] [0, 3, 4] [] [.val (.int .u8 c), .val (.int .u8 c), Bv true] [] [c = 43] hB ⟨h1, trivial⟩ ?_
   refine Zac ?_
   refine Zbc rfl ?_
   refine Zbf ?_
   refine Zac ?_
   refine Zbc rfl ?_
   refine aR [] [2] [] [Bv true] [] [] hB trivial ?_
   refine Zax ?_
   refine Zat (Zai ?_)
   refine Zba hB (Bv true) (by kernel_rfl) (.inl (by first | rfl | (refine congrArg Bv ?_; simp [Zfk, inB, *]; done) | (refine congrArg Bv ?_; simp [Zfk, inB, *]; omega) | (refine congrArg Bv ?_; simp_all [Zfk, inB]; done) | (refine congrArg Bv ?_; simp_all [Zfk, inB]; omega))) rfl (fun _ => trivial)
  refine Zby [(0, .dec false)] [0, 3, 4] [] [.val (.int .u8 c), .val (.int .u8 c), Bv false] [] [¬ (c = 43)] hB ⟨h1, trivial⟩ ?_
  refine Zac ?_
  refine Zay rfl ?_
  refine Zal ?_
  by_cases h2 : c = 45
  ·refine Zby [(0, .dec true)] [0, 3, 4] [] [.val (.int .u8 c), .val (.int .u8 c), Bv true] [] [c = 45] hB ⟨h2, trivial⟩ ?_
   refine Zac ?_
   refine Zbc rfl ?_
   refine Zbf ?_
   refine Zac ?_
   refine Zbc rfl ?_
   refine aR [] [2] [] [Bv true] [] [] hB trivial ?_
   refine Zax ?_
   refine Zat (Zai ?_)
   refine Zba hB (Bv true) (by kernel_rfl) (.inl (by first | rfl | (refine congrArg Bv ?_; simp [Zfk, inB, *]; done) | (refine congrArg Bv ?_; simp [Zfk, inB, *]; omega) | (refine congrArg Bv ?_; simp_all [Zfk, inB]; done) | (refine congrArg Bv ?_; simp_all [Zfk, inB]; omega))) rfl (fun _ => trivial)
  refine Zby [(0, .dec false)] [0, 3, 4] [] [.val (.int .u8 c), .val (.int .u8 c), Bv false] [] [¬ (c = 45)] hB ⟨h2, trivial⟩ ?_
  refine Zac ?_
  refine Zay rfl ?_
  refine Zal ?_
  by_cases h3 : c = 42
  ·refine Zby [(0, .dec true)] [0, 3, 4] [] [.val (.int .u8 c), .val (.int .u8 c), Bv true] [] [c = 42] hB ⟨h3, trivial⟩ ?_
   refine Zac ?_
   refine Zbc rfl ?_
   refine Zbf ?_
   refine Zac ?_
   refine Zbc rfl ?_
   refine aR [] [2] [] [Bv true] [] [] hB trivial ?_
   refine Zax ?_
   refine Zat (Zai ?_)
   refine Zba hB (Bv true) (by kernel_rfl) (.inl (by first | rfl | (refine congrArg Bv ?_; simp [Zfk, inB, *]; done) | (refine congrArg Bv ?_; simp [Zfk, inB, *]; omega) | (refine congrArg Bv ?_; simp_all [Zfk, inB]; done) | (refine congrArg Bv ?_; simp_all [Zfk, inB]; omega))) rfl (fun _ => trivial)
  refine Zby [(0, .dec false)] [0, 3, 4] [] [.val (.int .u8 c), .val (.int .u8 c), Bv false] [] [¬ (c = 42)] hB ⟨h3, trivial⟩ ?_
  refine Zac ?_
  refine Zay rfl ?_
  refine Zal ?_
  by_cases h4 : c = 47
  ·refine Zby [(0, .dec true)] [0, 3, 4] [] [.val (.int .u8 c), .val (.int .u8 c), Bv true] [] [c = 47] hB ⟨h4, trivial⟩ ?_
   refine Zac ?_
   refine Zbc rfl ?_
   refine Zbf ?_
   refine Zac ?_
   refine Zbc rfl ?_
   refine aR [] [2] [] [Bv true] [] [] hB trivial ?_
   refine Zax ?_
   refine Zat (Zai ?_)
   refine Zba hB (Bv true) (by kernel_rfl) (.inl (by first | rfl | (refine congrArg Bv ?_; simp [Zfk, inB, *]; done) | (refine congrArg Bv ?_; simp [Zfk, inB, *]; omega) | (refine congrArg Bv ?_; simp_all [Zfk, inB]; done) | (refine congrArg Bv ?_; simp_all [Zfk, inB]; omega))) rfl (fun _ => trivial)
  refine Zby [(0, .dec false)] [0, 3, 4] [] [.val (.int .u8 c), .val (.int .u8 c), Bv false] [] [¬ (c = 47)] hB ⟨h4, trivial⟩ ?_
  refine Zac ?_
  refine Zay rfl ?_
  refine Zal ?_
  by_cases h5 : c = 61
  ·refine Zby [(0, .dec true)] [0, 3, 4] [] [.val (.int .u8 c), .val (.int .u8 c), Bv true] [] [c = 61] hB ⟨h5, trivial⟩ ?_
   refine Zac ?_
   refine Zbc rfl ?_
   refine Zbf ?_
   refine Zac ?_
   refine Zbc rfl ?_
   refine aR [] [2] [] [Bv true] [] [] hB trivial ?_
   refine Zax ?_
   refine Zat (Zai ?_)
   refine Zba hB (Bv true) (by kernel_rfl) (.inl (by first | rfl | (refine congrArg Bv ?_; simp [Zfk, inB, *]; done) | (refine congrArg Bv ?_; simp [Zfk, inB, *]; omega) | (refine congrArg Bv ?_; simp_all [Zfk, inB]; done) | (refine congrArg Bv ?_; simp_all [Zfk, inB]; omega))) rfl (fun _ => trivial)
  refine Zby [(0, .dec false)] [0, 3, 4] [] [.val (.int .u8 c), .val (.int .u8 c), Bv false] [] [¬ (c = 61)] hB ⟨h5, trivial⟩ ?_
  refine Zac ?_
  refine Zay rfl ?_
  refine Zal ?_
  by_cases h6 : c = 40
  ·refine Zby [(0, .dec true)] [0, 3, 4] [] [.val (.int .u8 c), .val (.int .u8 c), Bv true] [] [c = 40] hB ⟨h6, trivial⟩ ?_
   refine Zac ?_
   refine Zbc rfl ?_
   refine Zbf ?_
   refine Zac ?_
   refine Zbc rfl ?_
   refine aR [] [2] [] [Bv true] [] [] hB trivial ?_
   refine Zax ?_
   refine Zat (Zai ?_)
   refine Zba hB (Bv true) (by kernel_rfl) (.inl (by first | rfl | (refine congrArg Bv ?_; simp [Zfk, inB, *]; done) | (refine congrArg Bv ?_; simp [Zfk, inB, *]; omega) | (refine congrArg Bv ?_; simp_all [Zfk, inB]; done) | (refine congrArg Bv ?_; simp_all [Zfk, inB]; omega))) rfl (fun _ => trivial)
  refine Zby [(0, .dec false)] [0, 3, 4] [] [.val (.int .u8 c), .val (.int .u8 c), Bv false] [] [¬ (c = 40)] hB ⟨h6, trivial⟩ ?_
  refine Zac ?_
  refine Zay rfl ?_
  refine Zal ?_
  by_cases h7 : c = 41
  ·refine Zby [(0, .dec true)] [0, 3, 4] [] [.val (.int .u8 c), .val (.int .u8 c), Bv true] [] [c = 41] hB ⟨h7, trivial⟩ ?_
   refine Zac ?_
   refine Zbc rfl ?_
   refine Zbf ?_
   refine Zac ?_
   refine Zbc rfl ?_
   refine aR [] [2] [] [Bv true] [] [] hB trivial ?_
   refine Zax ?_
   refine Zat (Zai ?_)
   refine Zba hB (Bv true) (by kernel_rfl) (.inl (by first | rfl | (refine congrArg Bv ?_; simp [Zfk, inB, *]; done) | (refine congrArg Bv ?_; simp [Zfk, inB, *]; omega) | (refine congrArg Bv ?_; simp_all [Zfk, inB]; done) | (refine congrArg Bv ?_; simp_all [Zfk, inB]; omega))) rfl (fun _ => trivial)
  refine Zby [(0, .dec false)] [0, 3, 4] [] [.val (.int .u8 c), .val (.int .u8 c), Bv false] [] [¬ (c = 41)] hB ⟨h7, trivial⟩ ?_
  refine Zac ?_
  refine Zay rfl ?_
  refine Zal ?_
  by_cases h8 : c = 46
  ·refine Zby [(0, .dec true)] [0, 3, 4] [] [.val (.int .u8 c), .val (.int .u8 c), Bv true] [] [c = 46] hB ⟨h8, trivial⟩ ?_
   refine Zac ?_
   refine Zbc rfl ?_
   refine Zbf ?_
   refine Zac ?_
   refine Zbc rfl ?_
   refine aR [] [2] [] [Bv true] [] [] hB trivial ?_
   refine Zax ?_
   refine Zat (Zai ?_)
   refine Zba hB (Bv true) (by kernel_rfl) (.inl (by first | rfl | (refine congrArg Bv ?_; simp [Zfk, inB, *]; done) | (refine congrArg Bv ?_; simp [Zfk, inB, *]; omega) | (refine congrArg Bv ?_; simp_all [Zfk, inB]; done) | (refine congrArg Bv ?_; simp_all [Zfk, inB]; omega))) rfl (fun _ => trivial)
  refine Zby [(0, .dec false)] [0, 3, 4] [] [.val (.int .u8 c), .val (.int .u8 c), Bv false] [] [¬ (c = 46)] hB ⟨h8, trivial⟩ ?_
  refine Zac ?_
  refine Zay rfl ?_
  by_cases h9 : c = 44
  ·refine Zby [(0, .dec true)] [0, 4] [] [.val (.int .u8 c), Bv true] [] [c = 44] hB ⟨h9, trivial⟩ ?_
   refine Zac ?_
   refine Zbc rfl ?_
   refine aR [] [2] [] [Bv true] [] [] hB trivial ?_
   refine Zax ?_
   refine Zat (Zai ?_)
   refine Zba hB (Bv true) (by kernel_rfl) (.inl (by first | rfl | (refine congrArg Bv ?_; simp [Zfk, inB, *]; done) | (refine congrArg Bv ?_; simp [Zfk, inB, *]; omega) | (refine congrArg Bv ?_; simp_all [Zfk, inB]; done) | (refine congrArg Bv ?_; simp_all [Zfk, inB]; omega))) rfl (fun _ => trivial)
  refine Zby [(0, .dec false)] [0, 4] [] [.val (.int .u8 c), Bv false] [] [¬ (c = 44)] hB ⟨h9, trivial⟩ ?_
  refine Zac ?_
  refine Zay rfl ?_
  refine Zbf ?_
  refine Zco 0 ?_
  refine Zac ?_
  refine Zal ?_
  rcases Bool.eq_false_or_eq_true (inB c 97 122) with h10 | h10
  ·refine Zby [(1, .call [(true, .any)] true (Bv true))] [2] [] [Bv true] [] [Con Tryz.prog 133 [.val (.int .u8 c)] true (Bv true) ∧ True] hB ⟨⟨(Zaq h10 (Zki c)), trivial⟩, trivial⟩ ?_
   refine Zac ?_
   refine Zax ?_
   refine Zba hB (Bv true) (by kernel_rfl) (.inl (by first | rfl | (refine congrArg Bv ?_; simp [Zfk, inB, *]; done) | (refine congrArg Bv ?_; simp [Zfk, inB, *]; omega) | (refine congrArg Bv ?_; simp_all [Zfk, inB]; done) | (refine congrArg Bv ?_; simp_all [Zfk, inB]; omega))) rfl (fun _ => trivial)
  by_cases h11 : 48 ≤ c
  ·refine Zby [(1, .call [(true, .any)] true (Bv false)), (4, .dec true)] [2] [] [Bv (decide (c ≤ 57))] [] [Con Tryz.prog 133 [.val (.int .u8 c)] true (Bv false) ∧ True, 48 ≤ c] hB ⟨⟨(Zaq h10 (Zki c)), trivial⟩, h11, trivial⟩ ?_
   refine Zac ?_
   refine Zax ?_
   refine Zba hB (Bv (decide (c ≤ 57))) (by kernel_rfl) (.inl (by first | rfl | (refine congrArg Bv ?_; simp [Zfk, inB, *]; done) | (refine congrArg Bv ?_; simp [Zfk, inB, *]; omega) | (refine congrArg Bv ?_; simp_all [Zfk, inB]; done) | (refine congrArg Bv ?_; simp_all [Zfk, inB]; omega))) rfl (fun _ => trivial)
  refine Zby [(1, .call [(true, .any)] true (Bv false)), (4, .dec false)] [2] [] [Bv false] [] [Con Tryz.prog 133 [.val (.int .u8 c)] true (Bv false) ∧ True, ¬ (48 ≤ c)] hB ⟨⟨(Zaq h10 (Zki c)), trivial⟩, h11, trivial⟩ ?_
  refine Zac ?_
  refine Zax ?_
  refine Zba hB (Bv false) (by kernel_rfl) (.inl (by first | rfl | (refine congrArg Bv ?_; simp [Zfk, inB, *]; done) | (refine congrArg Bv ?_; simp [Zfk, inB, *]; omega) | (refine congrArg Bv ?_; simp_all [Zfk, inB]; done) | (refine congrArg Bv ?_; simp_all [Zfk, inB]; omega))) rfl (fun _ => trivial)
theorem Zep (s : ByteArray) (ok : s.size ≤ 9223372036854775807) : Con Tryz.prog 94 [Sv s] true (Bv (Zci s)) := by
  refine Zdc (fn := Tryz.f94) (nt := 11) Tryz.func94 rfl rfl rfl rfl (by simp [Zah, Zak]) fun B hB => ?_
  refine aR [] [0] [] [Sv s] [] [] hB trivial ?_
  refine Zal ?_
  by_cases h1 : (s.size : Int) = 1
  ·refine Zby [(2, .dec true), (6, .call [(true, .any)] true (Bv (Zfk (bAt s 0))))] [2] [] [Bv (Zfk (bAt s 0))] [] [(s.size : Int) = 1, (0 : Int) ≤ 0 ∧ 0 < (s.size : Int), Con Tryz.prog 113 [.val (.int .u8 (bAt s 0))] true (Bv (Zfk (bAt s 0))) ∧ True] hB ⟨h1, ⟨(by omega), (by omega)⟩, ⟨(Zxf (bAt s 0)), trivial⟩, trivial⟩ ?_
   refine Zac ?_
   refine Zax ?_
   refine Zba hB (Bv (Zfk (bAt s 0))) (by kernel_rfl) (.inl (by first | rfl | (refine congrArg Bv ?_; simp [Zci, *]; done) | (refine congrArg Bv ?_; simp [Zci, *]; omega) | (refine congrArg Bv ?_; simp_all [Zci]; done) | (refine congrArg Bv ?_; simp_all [Zci]; omega))) rfl (fun _ => trivial)
  refine Zby [(2, .dec false)] [2] [] [Bv false] [] [¬ ((s.size : Int) = 1)] hB ⟨h1, trivial⟩ ?_
  refine Zac ?_
  refine Zax ?_
  refine Zba hB (Bv false) (by kernel_rfl) (.inl (by first | rfl | (refine congrArg Bv ?_; simp [Zci, *]; done) | (refine congrArg Bv ?_; simp [Zci, *]; omega) | (refine congrArg Bv ?_; simp_all [Zci]; done) | (refine congrArg Bv ?_; simp_all [Zci]; omega))) rfl (fun _ => trivial)
theorem Zfy (n : Int) (low : Int) (high : Int) : Con Tryz.prog 74 [I n, I low, I high] true (Bv (inB n low high)) := by
  refine Zdc (fn := Tryz.f74) (nt := 15) Tryz.func74 rfl rfl rfl rfl (by simp [Zah, Zak]) fun B hB => ?_
  refine aR [] [0, 1, 2] [] [I n, I low, I high] [] [] hB trivial ?_
  refine Zal ?_
  by_cases h1 : low ≤ n
  ·refine Zby [(2, .dec true)] [6] [] [Bv (decide (n ≤ high))] [] [low ≤ n] hB ⟨h1, trivial⟩ ?_
   refine Zac ?_
   refine Zax ?_
   refine Zba hB (Bv (decide (n ≤ high))) (by kernel_rfl) (.inl (by first | rfl | (refine congrArg Bv ?_; simp [inB, *]; done) | (refine congrArg Bv ?_; simp [inB, *]; omega) | (refine congrArg Bv ?_; simp_all [inB]; done) | (refine congrArg Bv ?_; simp_all [inB]; omega))) rfl (fun _ => trivial)
  refine Zby [(2, .dec false)] [6] [] [Bv false] [] [¬ (low ≤ n)] hB ⟨h1, trivial⟩ ?_
  refine Zac ?_
  refine Zax ?_
  refine Zba hB (Bv false) (by kernel_rfl) (.inl (by first | rfl | (refine congrArg Bv ?_; simp [inB, *]; done) | (refine congrArg Bv ?_; simp [inB, *]; omega) | (refine congrArg Bv ?_; simp_all [inB]; done) | (refine congrArg Bv ?_; simp_all [inB]; omega))) rfl (fun _ => trivial)
theorem Zgh (labels : List ByteArray) (ok : ∀ y ∈ labels, y.size ≤ 9223372036854775807) : Con Tryz.prog 73 [slS false labels] true (Bv (Zce labels)) := by
  refine Zdc (fn := Tryz.f73) (nt := 35) Tryz.func73 rfl rfl rfl rfl (by simp [Zah, Zak, Zer]) fun B hB => ?_
  refine Zcg (x := slS false labels) 0 rfl (fun len_labels => ?_)
  simp [Zdt, Zgj, cS, fS, slS] at len_labels
  refine aR [] [0] [] [slS false labels] [] [] hB trivial ?_
  refine Zal ?_
  refine aR [] [0, 3] [] [slS false labels, I 0] [] [] hB trivial ?_
  refine Zbo ?_
  refine Zdm (fun gn gσ => ∃ (i : Int), gn = ((labels.length : Int) - i).toNat ∧ (0 ≤ i ∧ i ≤ (labels.length : Int)) ∧ (∀ j : Nat, (j : Int) < i → Zlj labels j = true) ∧ gσ = mkS [(0, slS false labels), (3, I i)] []) (((labels.length : Int) - 0).toNat) ⟨0, rfl, (by omega), (by intro j hj; omega), rfl⟩ (fun gn gσ hI => ?_)
  obtain ⟨i, rfl, hi0, hall0, rfl⟩ := hI
  refine Zal ?_
  refine Zal ?_
  by_cases h1 : i < (labels.length : Int)
  ·have hi : i.toNat < labels.length := by omega
   refine Zby [(3, .dec true)] [0, 3, 7] [] [slS false labels, I i, Bv true] [] [i < (labels.length : Int)] hB ⟨h1, trivial⟩ ?_
   refine Zac ?_
   refine Zbc rfl ?_
   refine Zbf ?_
   refine Zac ?_
   refine Zal ?_
   refine Zbo ?_
   refine Zal ?_
   rcases Bool.eq_false_or_eq_true (Zci (at_ labels i.toNat)) with h2 | h2
   ·have hlb := h2
    by_cases h3 : 0 < i
    ·by_cases h4 : Zey (at_ labels ((i - 1).toNat)) (at_ labels i.toNat) = false
     ·have hst := Zii hi (Ydz (by omega) h4)
      refine Zby [(4, .call [(true, .any)] true (Bv true)), (8, .dec true), (19, .dec true)] [0, 3, 31] [] [slS false labels, I i, Bv true] [] [(0 : Int) ≤ i ∧ i < (labels.length : Int), Con Tryz.prog 94 [Sv (at_ labels i.toNat)] true (Bv true) ∧ True, 0 < i, inR .i64 (i - 1), (0 : Int) ≤ (i - 1) ∧ (i - 1) < (labels.length : Int), (0 : Int) ≤ i ∧ i < (labels.length : Int), Zey (at_ labels ((i - 1).toNat)) (at_ labels i.toNat) = false] hB ⟨⟨(by omega), (by omega)⟩, ⟨(Zaq h2 (Zep (at_ labels i.toNat) (ok _ (Zct hi)))), trivial⟩, h3, (Zam (by omega) (by omega)), ⟨(by omega), (by omega)⟩, ⟨(by omega), (by omega)⟩, h4, trivial⟩ ?_
      refine Zac ?_
      refine Zbc rfl ?_
      refine aR [] [2] [] [Bv false] [] [] hB trivial ?_
      refine Zax ?_
      refine Zat (Zai (Zai (Zat (Zai ?_))))
      refine Zba hB (Bv false) (by kernel_rfl) (.inl (by refine congrArg Bv ?_; first | exact hst.symm | (rw [hgo]; first | rfl | exact (decide_eq_false (by omega)).symm | exact (decide_eq_true (by omega)).symm | exact decide_eq_decide.2 (by omega) | (unfold inB; exact decide_eq_decide.2 (by omega))))) rfl (fun _ => trivial)
     have hok := Zfb hi0.1 hlb (.inr (by simpa using h4))
     refine Zby [(4, .call [(true, .any)] true (Bv true)), (8, .dec true), (19, .dec false)] [0, 3, 31] [] [slS false labels, I i, Bv false] [] [(0 : Int) ≤ i ∧ i < (labels.length : Int), Con Tryz.prog 94 [Sv (at_ labels i.toNat)] true (Bv true) ∧ True, 0 < i, inR .i64 (i - 1), (0 : Int) ≤ (i - 1) ∧ (i - 1) < (labels.length : Int), (0 : Int) ≤ i ∧ i < (labels.length : Int), ¬ (Zey (at_ labels ((i - 1).toNat)) (at_ labels i.toNat) = false)] hB ⟨⟨(by omega), (by omega)⟩, ⟨(Zaq h2 (Zep (at_ labels i.toNat) (ok _ (Zct hi)))), trivial⟩, h3, (Zam (by omega) (by omega)), ⟨(by omega), (by omega)⟩, ⟨(by omega), (by omega)⟩, h4, trivial⟩ ?_
     refine Zac ?_
     refine Zay rfl ?_
     refine Zbf ?_
     refine Zco 1 ?_
     refine Zac ?_
     refine Zby [] [0, 3] [] [slS false labels, I (i + 1)] [] [inR .i64 (i + 1)] hB ⟨(Zam (by omega) (by omega)), trivial⟩ ?_
     exact Zcr _ (by omega) ⟨(i + 1), rfl, (by omega), (by intro j hj; by_cases ej : j = i.toNat; (subst ej; first | assumption | exact hok); exact hall0 j (by omega)), rfl⟩
    have hok := Zfb hi0.1 hlb (.inl (by omega))
    refine Zby [(4, .call [(true, .any)] true (Bv true)), (8, .dec false)] [0, 3, 31] [] [slS false labels, I i, Bv false] [] [(0 : Int) ≤ i ∧ i < (labels.length : Int), Con Tryz.prog 94 [Sv (at_ labels i.toNat)] true (Bv true) ∧ True, ¬ (0 < i)] hB ⟨⟨(by omega), (by omega)⟩, ⟨(Zaq h2 (Zep (at_ labels i.toNat) (ok _ (Zct hi)))), trivial⟩, h3, trivial⟩ ?_
    refine Zac ?_
    refine Zay rfl ?_
    refine Zbf ?_
    refine Zco 1 ?_
    refine Zac ?_
    refine Zby [] [0, 3] [] [slS false labels, I (i + 1)] [] [inR .i64 (i + 1)] hB ⟨(Zam (by omega) (by omega)), trivial⟩ ?_
    exact Zcr _ (by omega) ⟨(i + 1), rfl, (by omega), (by intro j hj; by_cases ej : j = i.toNat; (subst ej; first | assumption | exact hok); exact hall0 j (by omega)), rfl⟩
   have hst := Zii hi (Yea h2)
   refine Zby [(4, .call [(true, .any)] true (Bv false))] [0, 3, 31] [] [slS false labels, I i, Bv true] [] [(0 : Int) ≤ i ∧ i < (labels.length : Int), Con Tryz.prog 94 [Sv (at_ labels i.toNat)] true (Bv false) ∧ True] hB ⟨⟨(by omega), (by omega)⟩, ⟨(Zaq h2 (Zep (at_ labels i.toNat) (ok _ (Zct hi)))), trivial⟩, trivial⟩ ?_
   refine Zac ?_
   refine Zbc rfl ?_
   refine aR [] [2] [] [Bv false] [] [] hB trivial ?_
   refine Zax ?_
   refine Zat (Zai (Zai (Zat (Zai ?_))))
   refine Zba hB (Bv false) (by kernel_rfl) (.inl (by refine congrArg Bv ?_; first | exact hst.symm | (rw [hgo]; first | rfl | exact (decide_eq_false (by omega)).symm | exact (decide_eq_true (by omega)).symm | exact decide_eq_decide.2 (by omega) | (unfold inB; exact decide_eq_decide.2 (by omega))))) rfl (fun _ => trivial)
  have hgo := Zij (ls := labels) (fun j hj => hall0 j (by omega))
  refine Zby [(3, .dec false)] [0, 3, 7] [] [slS false labels, I i, Bv false] [] [¬ (i < (labels.length : Int))] hB ⟨h1, trivial⟩ ?_
  refine Zac ?_
  refine Zay rfl ?_
  refine Zdn ?_
  refine Zas ?_
  refine Zas ?_
  refine Zbx ?_
  refine Zac ?_
  refine aR [(2, .call [(true, .any), (true, .any), (true, .any)] true (Bv (inB (labels.length : Int) 1 12)))] [2] [] [Bv (inB (labels.length : Int) 1 12)] [] [Con Tryz.prog 74 [I (labels.length : Int), I 1, I 12] true (Bv (inB (labels.length : Int) 1 12)) ∧ True] hB ⟨⟨(Zfy (labels.length : Int) 1 12), trivial⟩, trivial⟩ ?_
  refine Zax ?_
  refine Zba hB (Bv (inB (labels.length : Int) 1 12)) (by kernel_rfl) (.inl (by refine congrArg Bv ?_; first | exact hst.symm | (rw [hgo]; first | rfl | exact (decide_eq_false (by omega)).symm | exact (decide_eq_true (by omega)).symm | exact decide_eq_decide.2 (by omega) | (unfold inB; exact decide_eq_decide.2 (by omega))))) rfl (fun _ => trivial)
theorem Zjm {i k : Nat} (h : i ≠ k) : Nat.beq i k = false := Bool.eq_false_iff.2 fun e => h (Nat.eq_of_beq_eq_true e)
theorem Zpa {α : Type} [Inhabited α] {xs : List α} {k : Nat} {c : α} (h : k < xs.length) : at_ (xs.set k c) k = c := by simp [at_, h]
theorem Zpb {α : Type} [Inhabited α] {xs : List α} {k i : Nat} {c : α} (h : i ≠ k) : at_ (xs.set k c) i = at_ xs i := by
  have : ¬ k = i := fun e => h e.symm
  simp [at_, this]
theorem le_row {ob : Nat → Option Ob} {F N sz p n : Nat} {m : Nat → Nat} {g : Nat → Nat → List AV} {fr : Bool} {f : Nat → List AV} (h : ob F = some (.fam N sz m g)) (hp : p < N) (hn : m p = n)
    (hf : ∀ i, i < n → g p i = f i ∨ (AV.idsL (f i) = [] ∧ leL (fun _ => none) false (g p i) (f i))) : le ob true (.row F p) (.sl fr sz n f) := by
  simp only [le, h]
  exact ⟨fun _ => trivial, hp, trivial, hn, hf⟩
def oLIc (F : Nat) (x : List Int) (i : Nat) : List AV := [.row F i]
def oLI (F : Nat) (xs : List (List Int)) (i : Nat) : List AV := oLIc F (at_ xs i) i
def mLI (xs : List (List Int)) (p : Nat) : Nat := (at_ xs p).length
def gLI (xs : List (List Int)) (p : Nat) : Nat → List AV := fI (at_ xs p)
abbrev Zbv (F : Nat) (xs : List (List Int)) : Ob := .oar [F] 1 xs.length (oLI F xs)
abbrev Zbm (xs : List (List Int)) : Ob := .fam xs.length 1 (mLI xs) (gLI xs)
theorem Zfw {ob : Nat → Option Ob} {F : Nat} (fr : Bool) (xs : List (List Int)) (h : ob F = some (.fam xs.length 1 (mLI xs) (gLI xs))) : ∀ i, i < xs.length → AV.idsL (fLI fr xs i) = [] ∧ leL ob true (oLI F xs i) (fLI fr xs i) :=
  fun i hi => And.intro rfl (And.intro (le_row h hi rfl (fun q _ => .inl rfl)) rfl)
theorem Zqk {F j N : Nat} (hF : Nat.beq F j = false) {xs : List (List Int)} {x : List Int} {g : Nat → List AV} (hN : N = xs.length) (hx : AV.joiL j F N (g 0) = oLIc F x N) : ∀ i, i < (xs ++ [x]).length → AV.joiL j F N (Zdf xs.length (oLI F xs) g i) = oLI F (xs ++ [x]) i := by
  subst hN
  intro i hi
  by_cases h : i < xs.length
  · rw [Zib h]
    simp [oLI, oLIc, Zit h, AV.joiL, AV.joi, hF]
  · have e : i = xs.length := by simp at hi; omega
    subst e
    rw [Zhj (Nat.le_refl _), Nat.sub_self, hx]
    simp [oLI, Zia (Nat.le_refl _), at_]
theorem Zql {xs : List (List Int)} (x : List Int) {n : Nat} {f : Nat → List AV} (hn : n = x.length) (hf : ∀ i, i < n → f i = fI x i) : xs.length + 1 = (xs ++ [x]).length ∧ 1 = 1 ∧ ∀ p, p < (xs ++ [x]).length → Zkn xs.length n (mLI xs) p = mLI (xs ++ [x]) p ∧ ∀ i, i < mLI (xs ++ [x]) p → Zgu xs.length f (gLI xs) p i = gLI (xs ++ [x]) p i ∨ (AV.idsL (gLI (xs ++ [x]) p i) = [] ∧ leL (fun _ => none) false (Zgu xs.length f (gLI xs) p i) (gLI (xs ++ [x]) p i)) := by
  refine ⟨by simp, rfl, fun p hp => ?_⟩
  by_cases h : p < xs.length
  · have e : Nat.beq p xs.length = false := Bool.eq_false_iff.2 fun e => by have := Nat.eq_of_beq_eq_true e; omega
    simp [Zkn, Zgu, e, mLI, gLI, Zit h]
  · have e : p = xs.length := by simp at hp; omega
    subst e
    have e2 : at_ (xs ++ [x]) xs.length = x := by simp [Zia (Nat.le_refl _), at_]
    simp only [Zkn, Zgu, Nat.beq_refl, cond_true, mLI, gLI, e2]
    exact ⟨hn, fun i hi => .inl (hf i (by omega))⟩
theorem Zuq (F P : Nat) (xs : List (List Int)) (ys : List Int) (i : Nat) : oLI F xs i = oLI F (xs.set P ys) i := by
  unfold oLI
  by_cases h : P = i
  · subst h
    by_cases hl : P < xs.length
    · simp [at_, hl, oLIc]
    · rw [List.set_eq_of_length_le (by omega)]
  · simp [at_, h]
theorem Zup {xs : List (List Int)} {P k : Nat} {c : Int} {g' : Nat → Nat → List AV} (hP : P < xs.length) (hk : k < (at_ xs P).length) (h1 : g' P k = cI c) (h2 : ∀ i, i ≠ k → g' P i = gLI xs P i) (h3 : ∀ p, p ≠ P → g' p = gLI xs p) : xs.length = (xs.set P ((at_ xs P).set k c)).length ∧ 1 = 1 ∧ ∀ p, p < (xs.set P ((at_ xs P).set k c)).length → mLI xs p = mLI (xs.set P ((at_ xs P).set k c)) p ∧ ∀ i, i < mLI (xs.set P ((at_ xs P).set k c)) p → g' p i = gLI (xs.set P ((at_ xs P).set k c)) p i ∨ (AV.idsL (gLI (xs.set P ((at_ xs P).set k c)) p i) = [] ∧ leL (fun _ => none) false (g' p i) (gLI (xs.set P ((at_ xs P).set k c)) p i)) := by
  refine ⟨by simp, rfl, fun p hp => ?_⟩
  by_cases h : p = P
  · subst h
    have e2 : at_ (xs.set p ((at_ xs p).set k c)) p = ((at_ xs p).set k c) := Zpa hP
    have e3 : ((at_ xs p).set k c) = (at_ xs p).set k c := rfl
    simp only [mLI, gLI, e2, e3]
    refine ⟨by simp, fun i hi => .inl ?_⟩
    by_cases hi2 : i = k
    · subst hi2
      rw [h1]
      show _ = cI (at_ _ _)
      rw [Zpa hk]
    · rw [h2 i hi2]
      show cI (at_ _ _) = cI (at_ _ _)
      rw [Zpb hi2]
  · have e : at_ (xs.set P ((at_ xs P).set k c)) p = at_ xs p := Zpb h
    simp only [mLI, gLI, e]
    refine ⟨trivial, fun i hi => .inl ?_⟩
    rw [h3 p h]; rfl
theorem Zjx (labels : List ByteArray) (ok : ∀ y ∈ labels, y.size ≤ 9223372036854775807) : ∃ (v : Perceptron) (c : Int), ((v, c) = Ydu labels) ∧ Con Tryz.prog 67 [slS false labels] true (.tup [Zan v, I c]) := by
  have hh : ∃ r : Perceptron × Int, (((r.1, r.2) = Ydu labels) ∧ (True)) ∧ Zaz Tryz.prog 67 [slS false labels] (Zaf []) true (.tup [Zan r.1, I r.2]) (Zaf []) := by
    refine Zde (Φ := fun r : Perceptron × Int => ((r.1, r.2) = Ydu labels) ∧ (True)) [] (fun r => []) (fn := Tryz.f67) (nt := 25) Tryz.func67 rfl rfl (args := [slS false labels]) rfl (Zbw (.inl ⟨rfl, Zer false _⟩) Zdb) (res := fun r => .tup [Zan r.1, I r.2]) ?_
    refine xR [(0, .new 2)] [0, 2] [2] [slS false labels, .ref 2 0] [some (.box [Zao, Zao])] [] trivial ?_
    refine Zap ?_
    refine Zap ?_
    rcases Bool.eq_false_or_eq_true (Zce labels) with h1 | h1
    ·have hln := Zfi h1
     refine x_r [(1, .call [(true, .any)] true (Bv true))] [0, 2, 7] [2] [slS false labels, .ref 2 0, Bv false] [some (.box [Zao, Zao])] [Con Tryz.prog 73 [slS false labels] true (Bv true) ∧ True] ⟨⟨(Zaq h1 (Zgh labels ok)), trivial⟩, trivial⟩ ?_
     refine Zab ?_
     refine Zbe rfl ?_
     refine Zca ?_
     refine Zab ?_
     refine xR [(0, .new 9), (2, .new 11), (4, .new 4)] [0, 2, 4] [2, 4, 11] [slS false labels, .ref 2 0, .ref 4 0] [some (.box [Zao, Zao]), some (.box [.arr 11, Zao]), some (.arr 1 (0 + labels.length) (Zdf 0 (Zcw [] 1) (fS labels)))] [(0 + labels.length) * 16 ≤ 140737488355328] ⟨(by omega), trivial⟩ ?_
     refine Zap ?_
     refine xR [] [2, 4, 14, 15] [2, 4, 11] [.ref 2 0, .ref 4 0, I (labels.length : Int), I 0] [some (.box [Zao, Zao]), some (.box [.arr 11, Zao]), some (.arr 1 (0 + labels.length) (Zdf 0 (Zcw [] 1) (fS labels)))] [] trivial ?_
     refine Zbz ?_
     refine Zkm 4 1 741 1 (fun _ => []) rfl (by kernel_rfl) ?_
     refine Zzc 9253 1 (fun _ => 0) (fun _ _ => []) (by kernel_rfl) ?_
     refine Zcz [] (T := [(2, .ref 2 0), (4, .ref 4 0), (14, I (labels.length : Int)), (15, I 0)]) (O := [(2, .box [Zao, Zao]), (4, .box [.arr 11, .arr 741]), (11, .arr 1 (0 + labels.length) (Zdf 0 (Zcw [] 1) (fS labels))), (741, Zbv 9253 ([] : List (List Int))), (9253, Zbm ([] : List (List Int)))]) rfl (⟨.inl rfl, .inl rfl, .inl rfl, .inl rfl, trivial⟩) (⟨.inl rfl, .inl rfl, .inl rfl, .inr ⟨rfl, rfl, fun i hi => absurd hi (Nat.not_lt_zero _)⟩, .inr ⟨rfl, rfl, fun p hp => absurd hp (Nat.not_lt_zero _)⟩, trivial⟩) ?_
     refine Zeh (X := Int × (List (List Int))) (fun x => mkS [(2, .ref 2 0), (4, .ref 4 0), (14, I (labels.length : Int)), (15, I x.1)] [(2, .box [Zao, Zao]), (4, .box [.arr 11, .arr 741]), (11, .arr 1 (0 + labels.length) (Zdf 0 (Zcw [] 1) (fS labels))), (741, Zbv 9253 x.2), (9253, Zbm x.2)]) (fun x => (0 ≤ x.1 ∧ x.1 ≤ (labels.length : Int)) ∧ (x.2 = List.replicate x.1.toNat (List.replicate 25 0)) ∧ ((x.2.length : Int) = x.1) ∧ True) (fun x => ((labels.length : Int) - x.1).toNat) (0, ([] : List (List Int))) rfl (show (0 ≤ (0 : Int) ∧ (0 : Int) ≤ (labels.length : Int)) ∧ (([] : List (List Int)) = List.replicate (0 : Int).toNat (List.replicate 25 0)) ∧ ((([] : List (List Int)).length : Int) = (0 : Int)) ∧ True from ⟨(by omega), (by rfl), (by rfl), trivial⟩) (fun x hI => ?_)
     obtain ⟨t15, ws⟩ := x
     obtain ⟨hi0, hws, hwl, _⟩ : (0 ≤ t15 ∧ t15 ≤ (labels.length : Int)) ∧ (ws = List.replicate t15.toNat (List.replicate 25 0)) ∧ ((ws.length : Int) = t15) ∧ True := hI
     show XW _ _ _ _ (mkS [(2, .ref 2 0), (4, .ref 4 0), (14, I (labels.length : Int)), (15, I t15)] [(2, .box [Zao, Zao]), (4, .box [.arr 11, .arr 741]), (11, .arr 1 (0 + labels.length) (Zdf 0 (Zcw [] 1) (fS labels))), (741, Zbv 9253 ws), (9253, Zbm ws)]) _ _
     refine Zap ?_
     by_cases h2 : t15 < (labels.length : Int)
     ·refine x_r [(0, .dec true)] [2, 4, 14, 15, 16] [2, 4, 11, 741, 9253] [.ref 2 0, .ref 4 0, I (labels.length : Int), I t15, Bv true] [some (.box [Zao, Zao]), some (.box [.arr 11, .arr 741]), some (.arr 1 (0 + labels.length) (Zdf 0 (Zcw [] 1) (fS labels))), some (Zbv 9253 ws), some (Zbm ws)] [t15 < (labels.length : Int)] ⟨h2, trivial⟩ ?_
      refine Zab ?_
      refine Zap ?_
      refine Zbq rfl ?_
      refine Zca ?_
      refine Zab ?_
      refine Zap ?_
      refine Zbz ?_
      refine x_r [(2, .new 19), (3, .new 20), (4, .new 21)] [2, 4, 14, 15] [2, 4, 11, 19, 21, 9253] [.ref 2 0, .ref 4 0, I (labels.length : Int), I t15] [some (.box [Zao, Zao]), some (.box [.arr 11, .arr 21]), some (.arr 1 (0 + labels.length) (Zdf 0 (Zcw [] 1) (fS labels))), some (.arr 1 25 (fun _ => [I 0])), some (.oar [9253, 19] 1 (ws.length + 1) (Zdf ws.length (oLI 9253 ws) (Zcw [.arr 19] 1))), some (Zbm ws)] [(0 : Int) ≤ 25 ∧ (25 : Int) ≤ 25 ∧ (8 : Int) * 25 ≤ 281474976710656 ∧ (25 : Int) ≤ 9223372036854775807, (ws.length + 1) * 24 ≤ 140737488355328] ⟨⟨(by omega), (by omega), (by omega), (by omega)⟩, (by omega), trivial⟩ ?_
      refine Zbr 1 ?_
      refine Zab ?_
      refine x_r [] [2, 4, 14, 15] [2, 4, 11, 19, 21, 9253] [.ref 2 0, .ref 4 0, I (labels.length : Int), I (t15 + 1)] [some (.box [Zao, Zao]), some (.box [.arr 11, .arr 21]), some (.arr 1 (0 + labels.length) (Zdf 0 (Zcw [] 1) (fS labels))), some (.arr 1 25 (fun _ => [I 0])), some (.oar [9253, 19] 1 (ws.length + 1) (Zdf ws.length (oLI 9253 ws) (Zcw [.arr 19] 1))), some (Zbm ws)] [inR .i64 (t15 + 1)] ⟨(Zam (by omega) (by omega)), trivial⟩ ?_
      refine Zlo 19 9253 rfl rfl rfl ?_
      refine Zcx [(741, 21)] (T := [(2, .ref 2 0), (4, .ref 4 0), (14, I (labels.length : Int)), (15, I (t15 + 1))]) (O := [(2, .box [Zao, Zao]), (4, .box [.arr 11, .arr 741]), (11, .arr 1 (0 + labels.length) (Zdf 0 (Zcw [] 1) (fS labels))), (741, Zbv 9253 (ws ++ [(List.replicate 25 (0 : Int))])), (9253, Zbm (ws ++ [(List.replicate 25 (0 : Int))]))]) rfl (⟨.inl rfl, .inl rfl, .inl rfl, .inl rfl, trivial⟩) (⟨.inl rfl, .inl rfl, .inl rfl, .inr ⟨rfl, rfl, (by simp), fun i hi => .inl (Zqk rfl rfl rfl i hi)⟩, .inr (Zql (List.replicate 25 (0 : Int)) (xs := ws) (f := (fun _ => [I 0])) (n := 25) (by first | rfl | (simp; done)) (fun i_ hi_ => Zkp (enc := cI) rfl i_ (by simpa using hi_))), trivial⟩) (Zcj ((t15 + 1), (ws ++ [(List.replicate 25 (0 : Int))])) rfl (show (0 ≤ (t15 + 1) ∧ (t15 + 1) ≤ (labels.length : Int)) ∧ ((ws ++ [(List.replicate 25 (0 : Int))]) = List.replicate (t15 + 1).toNat (List.replicate 25 0)) ∧ (((ws ++ [(List.replicate 25 (0 : Int))]).length : Int) = (t15 + 1)) ∧ True from ⟨(by omega), (by rw [rep_1 hi0.1, ← hws]), (by simp; omega), trivial⟩) (by first | (show (((labels.length : Int) - (t15 + 1)).toNat : Nat) < ((labels.length : Int) - t15).toNat; omega) | (dsimp only; omega)))
     have hie : t15.toNat = labels.length := by omega
     rw [hie] at hws
     refine x_r [(0, .dec false)] [2, 4, 14, 15, 16] [2, 4, 11, 741, 9253] [.ref 2 0, .ref 4 0, I (labels.length : Int), I t15, Bv false] [some (.box [Zao, Zao]), some (.box [.arr 11, .arr 741]), some (.arr 1 (0 + labels.length) (Zdf 0 (Zcw [] 1) (fS labels))), some (Zbv 9253 ws), some (Zbm ws)] [¬ (t15 < (labels.length : Int))] ⟨h2, trivial⟩ ?_
     refine Zab ?_
     refine Zap ?_
     refine Zbe rfl ?_
     refine Zeg ?_
     refine Zbs ?_
     refine Zbu ?_
     refine Zbt ?_
     refine Zab ?_
     refine xR [] [2, 3] [2, 11, 741, 9253] [.ref 2 0, I 0] [some (.box [.arr 11, .arr 741]), some (.arr 1 (0 + labels.length) (Zdf 0 (Zcw [] 1) (fS labels))), some (Zbv 9253 ws), some (Zbm ws)] [] trivial ?_
     refine Zcf ?_
     refine Zbn ((Perceptron.mk labels ws), 0) (show (((Perceptron.mk labels ws), 0) = Ydu labels) ∧ (True) from ⟨(by first | exact (Yel (by simp_all)).symm | (rw [Zih (by assumption), ← hws, hcs]) | (rw [Zih (by assumption), ← hws])), trivial⟩) (trivial) (.tup [.agg [.arr 11, .arr 741], I 0]) (by kernel_rfl) (.inr ⟨⟨⟨(fun _ => rfl), rfl, (by first | rfl | (simp; done) | (simp; omega) | omega), fun i_ hi_ => .inl (Znq i_)⟩, ⟨⟨(fun _ => rfl), rfl, rfl, Zfw _ _ rfl⟩, rfl⟩⟩, ⟨rfl, rfl⟩⟩) (fun _ => rfl) (fun _ => (by simp [Zak, Zah, Zdd, Zer]))
    refine x_r [(1, .call [(true, .any)] true (Bv false))] [0, 2, 7] [2] [slS false labels, .ref 2 0, Bv true] [some (.box [Zao, Zao])] [Con Tryz.prog 73 [slS false labels] true (Bv false) ∧ True] ⟨⟨(Zaq h1 (Zgh labels ok)), trivial⟩, trivial⟩ ?_
    refine Zab ?_
    refine Zbq rfl ?_
    refine xR [] [2, 3] [2] [.ref 2 0, I 1] [some (.box [Zao, Zao])] [] trivial ?_
    refine Zcf ?_
    refine Zbd ?_
    refine Zbn ((Perceptron.mk ([] : List ByteArray) ([] : List (List Int))), 1) (show (((Perceptron.mk ([] : List ByteArray) ([] : List (List Int))), 1) = Ydu labels) ∧ (True) from ⟨(by first | exact (Yel (by simp_all)).symm | (rw [Zih (by assumption), ← hws, hcs]) | (rw [Zih (by assumption), ← hws])), trivial⟩) (trivial) (.tup [.agg [Zao, Zao], I 1]) (by kernel_rfl) (.inr ⟨⟨⟨rfl, rfl⟩, ⟨⟨rfl, rfl⟩, rfl⟩⟩, ⟨rfl, rfl⟩⟩) (fun _ => rfl) (fun _ => (by simp [Zak, Zah, Zdd, Zer]))
  obtain ⟨⟨v, c⟩, ⟨hh0, _⟩, hc⟩ := hh
  exact ⟨v, c, hh0, hc⟩
theorem Zxg (s : l00Src) (kind : Int) (hs : Zbj s) (ha : s.atx ≤ 3999999999999999800) (hk : 0 ≤ kind ∧ kind ≤ 100) : ∃ (v : List Feat) (s' : l00Src), (Zbj s') ∧ (s'.code = s.code) ∧ (s.atx + 0 ≤ s'.atx ∧ s'.atx ≤ s.atx + 60) ∧ (Zbp v 384 = true) ∧ Zaz Tryz.prog 85 [.ref 7001 0, I kind] (Zaf [(7001, Zaa s)]) true (Zau true v) (Zaf [(7001, Zaa s')]) := by
  have hh : ∃ r : (List Feat) × l00Src, ((Zbj r.2) ∧ (r.2.code = s.code) ∧ (s.atx + 0 ≤ r.2.atx ∧ r.2.atx ≤ s.atx + 60) ∧ (Zbp r.1 384 = true) ∧ (True)) ∧ Zaz Tryz.prog 85 [.ref 7001 0, I kind] (Zaf [(7001, Zaa s)]) true (Zau true r.1) (Zaf [(7001, Zaa r.2)]) := by
    refine Zde (Φ := fun r : (List Feat) × l00Src => (Zbj r.2) ∧ (r.2.code = s.code) ∧ (s.atx + 0 ≤ r.2.atx ∧ r.2.atx ≤ s.atx + 60) ∧ (Zbp r.1 384 = true) ∧ (True)) [(7001, Zaa s)] (fun r => [(7001, Zaa r.2)]) (fn := Tryz.f85) (nt := 49) Tryz.func85 rfl rfl (args := [.ref 7001 0, I kind]) rfl (Zbw (.inr trivial) (Zbw (.inl ⟨rfl, trivial⟩) Zdb)) (res := fun r => Zau true r.1) ?_
    refine xR [] [0, 1] [7001] [.ref 7001 0, I kind] [some (Zaa s)] [] trivial ?_
    refine xR [(0, .new 8)] [0, 1, 5] [8, 7001] [.ref 7001 0, I kind, .arr 8] [some (.arr 3 0 (Zcw [] 3)), some (Zaa s)] [] trivial ?_
    refine xR [(1, .nn)] [0, 1, 5, 6] [8, 7001] [.ref 7001 0, I kind, .arr 8, I (kind % 8)] [some (.arr 3 0 (Zcw [] 3)), some (Zaa s)] [(0 : Int) ≤ kind ∧ (0 : Int) < 8] ⟨⟨(by omega), (by omega)⟩, trivial⟩ ?_
    refine Zap ?_
    refine xR [] [0, 1, 5, 6, 7] [8, 7001] [.ref 7001 0, I kind, .arr 8, I (kind % 8), I 0] [some (.arr 3 0 (Zcw [] 3)), some (Zaa s)] [] trivial ?_
    refine Zbz ?_
    refine Zcz [] (T := [(0, .ref 7001 0), (1, I kind), (5, .arr 8), (6, I (kind % 8)), (7, I 0)]) (O := [(8, Zdz ([] : List Feat)), (7001, Zaa s)]) rfl (⟨.inl rfl, .inl rfl, .inl rfl, .inl rfl, .inl rfl, trivial⟩) (⟨.inr ⟨rfl, (by first | rfl | (simp; done) | (simp; omega) | omega), fun i_ hi_ => absurd hi_ (Nat.not_lt_zero _)⟩, .inl rfl, trivial⟩) ?_
    refine Zeh (X := (List Feat) × Int × Int × l00Src) (fun x => mkS [(0, .ref 7001 0), (1, I kind), (5, .arr 8), (6, I x.2.1), (7, I x.2.2.1)] [(8, Zdz x.1), (7001, Zaa x.2.2.2)]) (fun x => (Zbj x.2.2.2 ∧ x.2.2.2.code = s.code ∧ s.atx ≤ x.2.2.2.atx ∧ x.2.2.2.atx ≤ s.atx + 8 * x.2.2.1) ∧ (0 ≤ x.2.2.1 ∧ x.2.2.1 ≤ 4 + kind % 3) ∧ ((x.1.length : Int) = x.2.2.1) ∧ (∀ f ∈ x.1, okF f = true) ∧ (0 ≤ x.2.1 ∧ x.2.1 ≤ 7) ∧ True) (fun x => (4 + kind % 3 - x.2.2.1).toNat) (([] : List Feat), (kind % 8), 0, s) rfl (show (Zbj s ∧ s.code = s.code ∧ s.atx ≤ s.atx ∧ s.atx ≤ s.atx + 8 * (0 : Int)) ∧ (0 ≤ (0 : Int) ∧ (0 : Int) ≤ 4 + kind % 3) ∧ ((([] : List Feat).length : Int) = (0 : Int)) ∧ (∀ f ∈ ([] : List Feat), okF f = true) ∧ (0 ≤ (kind % 8) ∧ (kind % 8) ≤ 7) ∧ True from ⟨(by exact ⟨by assumption, by first | assumption | rfl | (simp only [*]; done), by omega, by omega⟩), (by omega), (by rfl), (by (intro z hz; simp at hz)), (by omega), trivial⟩) (fun x hI => ?_)
    obtain ⟨out, d, k, src⟩ := x
    obtain ⟨hs0, hk0, hol, hfs, hd0, _⟩ : (Zbj src ∧ src.code = s.code ∧ s.atx ≤ src.atx ∧ src.atx ≤ s.atx + 8 * k) ∧ (0 ≤ k ∧ k ≤ 4 + kind % 3) ∧ ((out.length : Int) = k) ∧ (∀ f ∈ out, okF f = true) ∧ (0 ≤ d ∧ d ≤ 7) ∧ True := hI
    show XW _ _ _ _ (mkS [(0, .ref 7001 0), (1, I kind), (5, .arr 8), (6, I d), (7, I k)] [(8, Zdz out), (7001, Zaa src)]) _ _
    refine Zap ?_
    refine Zap ?_
    by_cases h1 : k < (4 + (kind % 3))
    ·have hq2 : kind % 2 = 0 ∨ kind % 2 = 1 := by omega
     have hnl : 0 ≤ (40 * k) * (1 + kind % 2) ∧ (40 * k) * (1 + kind % 2) ≤ 1000 := by rcases hq2 with q | q <;> rw [q] <;> omega
     refine x_r [(2, .nn), (4, .dec true)] [0, 1, 5, 6, 7, 15] [8, 7001] [.ref 7001 0, I kind, .arr 8, I d, I k, Bv true] [some (Zdz out), some (Zaa src)] [(0 : Int) ≤ kind ∧ (0 : Int) < 3, inR .i64 (4 + (kind % 3)), k < (4 + (kind % 3))] ⟨⟨(by omega), (by omega)⟩, (Zam (by omega) (by omega)), h1, trivial⟩ ?_
     refine Zab ?_
     refine Zbq rfl ?_
     refine Zca ?_
     refine Zab ?_
     refine Zap ?_
     refine Zbz ?_
     refine Zap ?_
     obtain ⟨v_1, s'_1, hx1_0, hx1_1, hx1_2, hx1_3, hc1⟩ := Zdu src 20 (by first | assumption | (simp only [Zbj] at *; simp_all; done)) (by omega)
     obtain ⟨v_2, s'_2, hx2_0, hx2_1, hx2_2, hx2_3, hc2⟩ := Zdu s'_1 20 (by first | assumption | (simp only [Zbj] at *; simp_all; done)) (by omega)
     refine x_r [(7, .lend [(7001, Zaa src, Zaa s'_1)] [] [(true, .any), (true, .any)] true (I v_1)), (9, .nn), (13, .nn), (17, .lend [(7001, Zaa s'_1, Zaa s'_2)] [] [(true, .any), (true, .any)] true (I v_2)), (19, .nn), (22, .new 40), (23, .new 41)] [0, 1, 5, 6, 7] [41, 7001] [.ref 7001 0, I kind, .arr 41, I d, I k] [some (.arr 3 (out.length + 1) (Zdf out.length (Zdr out) (Zcw [I ((((60 * k) + (30 * kind)) + v_1) % 256), I ((((40 * k) * (1 + (kind % 2))) + v_2) % 256), I d] 3))), some (Zaa s'_2)] [inR .i64 (60 * k), inR .i64 (30 * kind), inR .i64 ((60 * k) + (30 * kind)), Zaz Tryz.prog 48 [.ref 7001 0, I 20] (Zaf [(7001, Zaa src)]) true (I v_1) (Zaf [(7001, Zaa s'_1)]) ∧ (((Zaa src : Ob) = Zaa src ∨ Zeu Zel true (Zaa src) (Zaa src)) ∧ Zar false (Zaa src)) ∧ True, inR .i64 (((60 * k) + (30 * kind)) + v_1), (0 : Int) ≤ (((60 * k) + (30 * kind)) + v_1) ∧ (0 : Int) < 256, inR .i64 (40 * k), (0 : Int) ≤ kind ∧ (0 : Int) < 2, inR .i64 (1 + (kind % 2)), inR .i64 ((40 * k) * (1 + (kind % 2))), Zaz Tryz.prog 48 [.ref 7001 0, I 20] (Zaf [(7001, Zaa s'_1)]) true (I v_2) (Zaf [(7001, Zaa s'_2)]) ∧ (((Zaa s'_1 : Ob) = Zaa s'_1 ∨ Zeu Zel true (Zaa s'_1) (Zaa s'_1)) ∧ Zar false (Zaa s'_1)) ∧ True, inR .i64 (((40 * k) * (1 + (kind % 2))) + v_2), (0 : Int) ≤ (((40 * k) * (1 + (kind % 2))) + v_2) ∧ (0 : Int) < 256, (out.length + 1) * 24 ≤ 140737488355328] ⟨(Zam (by omega) (by omega)), (Zam (by omega) (by omega)), (Zam (by omega) (by omega)), ⟨hc1, ⟨.inl rfl, (by simp [Zar, Zah, Zak, Zdj])⟩, trivial⟩, (Zam (by omega) (by omega)), ⟨(by omega), (by omega)⟩, (Zam (by omega) (by omega)), ⟨(by omega), (by omega)⟩, (Zam (by omega) (by omega)), (Zam (by omega) (by omega)), ⟨hc2, ⟨.inl rfl, (by simp [Zar, Zah, Zak, Zdj])⟩, trivial⟩, (Zam (by omega) (by omega)), ⟨(by omega), (by omega)⟩, (by omega), trivial⟩ ?_
     refine Zab ?_
     refine Zap ?_
     obtain ⟨v_3, s'_3, hx3_0, hx3_1, hx3_2, hc3⟩ := Zyn s'_2 3 (by first | assumption | (simp only [Zbj] at *; simp_all; done)) (by omega)
     rcases Bool.eq_false_or_eq_true v_3 with h2 | h2
     ·subst h2
      refine x_r [(1, .lend [(7001, Zaa s'_2, Zaa s'_3)] [] [(true, .any), (true, .any)] true (Bv true))] [0, 1, 5, 6, 7, 43] [41, 7001] [.ref 7001 0, I kind, .arr 41, I d, I k, Bv true] [some (.arr 3 (out.length + 1) (Zdf out.length (Zdr out) (Zcw [I ((((60 * k) + (30 * kind)) + v_1) % 256), I ((((40 * k) * (1 + (kind % 2))) + v_2) % 256), I d] 3))), some (Zaa s'_3)] [Zaz Tryz.prog 31 [.ref 7001 0, I 3] (Zaf [(7001, Zaa s'_2)]) true (Bv true) (Zaf [(7001, Zaa s'_3)]) ∧ (((Zaa s'_2 : Ob) = Zaa s'_2 ∨ Zeu Zel true (Zaa s'_2) (Zaa s'_2)) ∧ Zar false (Zaa s'_2)) ∧ True] ⟨⟨hc3, ⟨.inl rfl, (by simp [Zar, Zah, Zak, Zdj])⟩, trivial⟩, trivial⟩ ?_
      refine Zab ?_
      refine Zbq rfl ?_
      refine x_r [(3, .nn)] [0, 1, 5, 6, 7] [41, 7001] [.ref 7001 0, I kind, .arr 41, I ((d + kind) % 8), I k] [some (.arr 3 (out.length + 1) (Zdf out.length (Zdr out) (Zcw [I ((((60 * k) + (30 * kind)) + v_1) % 256), I ((((40 * k) * (1 + (kind % 2))) + v_2) % 256), I d] 3))), some (Zaa s'_3)] [inR .i64 (d + kind), (0 : Int) ≤ (d + kind) ∧ (0 : Int) < 8] ⟨(Zam (by omega) (by omega)), ⟨(by omega), (by omega)⟩, trivial⟩ ?_
      refine Zbr 1 ?_
      refine Zab ?_
      refine x_r [] [0, 1, 5, 6, 7] [41, 7001] [.ref 7001 0, I kind, .arr 41, I ((d + kind) % 8), I (k + 1)] [some (.arr 3 (out.length + 1) (Zdf out.length (Zdr out) (Zcw [I ((((60 * k) + (30 * kind)) + v_1) % 256), I ((((40 * k) * (1 + (kind % 2))) + v_2) % 256), I d] 3))), some (Zaa s'_3)] [inR .i64 (k + 1)] ⟨(Zam (by omega) (by omega)), trivial⟩ ?_
      refine Zcx [(8, 41)] (T := [(0, .ref 7001 0), (1, I kind), (5, .arr 8), (6, I ((d + kind) % 8)), (7, I (k + 1))]) (O := [(8, Zdz (out ++ [(Feat.mk ((((60 * k) + (30 * kind)) + v_1) % 256) ((((40 * k) * (1 + (kind % 2))) + v_2) % 256) d)])), (7001, Zaa s'_3)]) rfl (⟨.inl rfl, .inl rfl, .inl rfl, .inl rfl, .inl rfl, trivial⟩) (⟨.inr ⟨rfl, (by first | rfl | (simp; done) | (simp; omega) | omega), fun i_ hi_ => .inl (Zee (enc := Zhc) (xs := out) rfl i_ hi_)⟩, .inl rfl, trivial⟩) (Zcj ((out ++ [(Feat.mk ((((60 * k) + (30 * kind)) + v_1) % 256) ((((40 * k) * (1 + (kind % 2))) + v_2) % 256) d)]), ((d + kind) % 8), (k + 1), s'_3) rfl (show (Zbj s'_3 ∧ s'_3.code = s.code ∧ s.atx ≤ s'_3.atx ∧ s'_3.atx ≤ s.atx + 8 * (k + 1)) ∧ (0 ≤ (k + 1) ∧ (k + 1) ≤ 4 + kind % 3) ∧ (((out ++ [(Feat.mk ((((60 * k) + (30 * kind)) + v_1) % 256) ((((40 * k) * (1 + (kind % 2))) + v_2) % 256) d)]).length : Int) = (k + 1)) ∧ (∀ f ∈ (out ++ [(Feat.mk ((((60 * k) + (30 * kind)) + v_1) % 256) ((((40 * k) * (1 + (kind % 2))) + v_2) % 256) d)]), okF f = true) ∧ (0 ≤ ((d + kind) % 8) ∧ ((d + kind) % 8) ≤ 7) ∧ True from ⟨(by exact ⟨by assumption, by first | assumption | rfl | (simp only [*]; done), by omega, by omega⟩), (by omega), (by simp; omega), (by exact Zjo hfs (okF_mk (by omega) (by omega) (by omega))), (by omega), trivial⟩) (by first | (show ((4 + kind % 3 - (k + 1)).toNat : Nat) < (4 + kind % 3 - k).toNat; omega) | (dsimp only; omega)))
     subst h2
     refine x_r [(1, .lend [(7001, Zaa s'_2, Zaa s'_3)] [] [(true, .any), (true, .any)] true (Bv false))] [0, 1, 5, 6, 7, 43] [41, 7001] [.ref 7001 0, I kind, .arr 41, I d, I k, Bv false] [some (.arr 3 (out.length + 1) (Zdf out.length (Zdr out) (Zcw [I ((((60 * k) + (30 * kind)) + v_1) % 256), I ((((40 * k) * (1 + (kind % 2))) + v_2) % 256), I d] 3))), some (Zaa s'_3)] [Zaz Tryz.prog 31 [.ref 7001 0, I 3] (Zaf [(7001, Zaa s'_2)]) true (Bv false) (Zaf [(7001, Zaa s'_3)]) ∧ (((Zaa s'_2 : Ob) = Zaa s'_2 ∨ Zeu Zel true (Zaa s'_2) (Zaa s'_2)) ∧ Zar false (Zaa s'_2)) ∧ True] ⟨⟨hc3, ⟨.inl rfl, (by simp [Zar, Zah, Zak, Zdj])⟩, trivial⟩, trivial⟩ ?_
     refine Zab ?_
     refine Zbe rfl ?_
     refine Zca ?_
     refine Zbr 1 ?_
     refine Zab ?_
     refine x_r [] [0, 1, 5, 6, 7] [41, 7001] [.ref 7001 0, I kind, .arr 41, I d, I (k + 1)] [some (.arr 3 (out.length + 1) (Zdf out.length (Zdr out) (Zcw [I ((((60 * k) + (30 * kind)) + v_1) % 256), I ((((40 * k) * (1 + (kind % 2))) + v_2) % 256), I d] 3))), some (Zaa s'_3)] [inR .i64 (k + 1)] ⟨(Zam (by omega) (by omega)), trivial⟩ ?_
     refine Zcx [(8, 41)] (T := [(0, .ref 7001 0), (1, I kind), (5, .arr 8), (6, I d), (7, I (k + 1))]) (O := [(8, Zdz (out ++ [(Feat.mk ((((60 * k) + (30 * kind)) + v_1) % 256) ((((40 * k) * (1 + (kind % 2))) + v_2) % 256) d)])), (7001, Zaa s'_3)]) rfl (⟨.inl rfl, .inl rfl, .inl rfl, .inl rfl, .inl rfl, trivial⟩) (⟨.inr ⟨rfl, (by first | rfl | (simp; done) | (simp; omega) | omega), fun i_ hi_ => .inl (Zee (enc := Zhc) (xs := out) rfl i_ hi_)⟩, .inl rfl, trivial⟩) (Zcj ((out ++ [(Feat.mk ((((60 * k) + (30 * kind)) + v_1) % 256) ((((40 * k) * (1 + (kind % 2))) + v_2) % 256) d)]), d, (k + 1), s'_3) rfl (show (Zbj s'_3 ∧ s'_3.code = s.code ∧ s.atx ≤ s'_3.atx ∧ s'_3.atx ≤ s.atx + 8 * (k + 1)) ∧ (0 ≤ (k + 1) ∧ (k + 1) ≤ 4 + kind % 3) ∧ (((out ++ [(Feat.mk ((((60 * k) + (30 * kind)) + v_1) % 256) ((((40 * k) * (1 + (kind % 2))) + v_2) % 256) d)]).length : Int) = (k + 1)) ∧ (∀ f ∈ (out ++ [(Feat.mk ((((60 * k) + (30 * kind)) + v_1) % 256) ((((40 * k) * (1 + (kind % 2))) + v_2) % 256) d)]), okF f = true) ∧ (0 ≤ d ∧ d ≤ 7) ∧ True from ⟨(by exact ⟨by assumption, by first | assumption | rfl | (simp only [*]; done), by omega, by omega⟩), (by omega), (by simp; omega), (by exact Zjo hfs (okF_mk (by omega) (by omega) (by omega))), (by omega), trivial⟩) (by first | (show ((4 + kind % 3 - (k + 1)).toNat : Nat) < (4 + kind % 3 - k).toNat; omega) | (dsimp only; omega)))
    refine x_r [(2, .nn), (4, .dec false)] [0, 1, 5, 6, 7, 15] [8, 7001] [.ref 7001 0, I kind, .arr 8, I d, I k, Bv false] [some (Zdz out), some (Zaa src)] [(0 : Int) ≤ kind ∧ (0 : Int) < 3, inR .i64 (4 + (kind % 3)), ¬ (k < (4 + (kind % 3)))] ⟨⟨(by omega), (by omega)⟩, (Zam (by omega) (by omega)), h1, trivial⟩ ?_
    refine Zab ?_
    refine Zbe rfl ?_
    refine Zeg ?_
    refine Zbs ?_
    refine Zbu ?_
    refine Zbt ?_
    refine Zab ?_
    refine xR [] [4] [8, 7001] [.arr 8] [some (Zdz out), some (Zaa src)] [] trivial ?_
    refine Zcf ?_
    refine Zbn (out, src) (show (Zbj src) ∧ (src.code = s.code) ∧ (s.atx + 0 ≤ src.atx ∧ src.atx ≤ s.atx + 60) ∧ (Zbp out 384 = true) ∧ (True) from ⟨(by first | omega | exact hs0.1 | exact hs0.2.1 | exact Zjw hfs (by omega)), (by first | omega | exact hs0.1 | exact hs0.2.1 | exact Zjw hfs (by omega)), (by first | omega | exact hs0.1 | exact hs0.2.1 | exact Zjw hfs (by omega)), (by first | omega | exact hs0.1 | exact hs0.2.1 | exact Zjw hfs (by omega)), trivial⟩) (⟨.inl rfl, trivial⟩) (.arr 8) (by kernel_rfl) (.inr ⟨(fun _ => rfl), rfl, rfl, fun i _ => .inl rfl⟩) (fun _ => rfl) (fun _ => (Zef true _))
  obtain ⟨⟨v, s'⟩, ⟨hh0, hh1, hh2, hh3, _⟩, hc⟩ := hh
  exact ⟨v, s', hh0, hh1, hh2, hh3, hc⟩
theorem Zhw (s : l00Src) (p : Perceptron) (most : Int) (hs : Zbj s) (ha : s.atx ≤ 3999999999999998000) (hp : 1 ≤ p.Labels.length ∧ p.Labels.length ≤ 12) (hm : 0 ≤ most ∧ most ≤ 8) : ∃ (s' : l00Src) (sm : List Sample), (Zbj s') ∧ (s'.code = s.code) ∧ (s.atx + 0 ≤ s'.atx ∧ s'.atx ≤ s.atx + 700) ∧ ((sm.length : Int) ≤ most) ∧ (∀ x_ ∈ sm, okSm p.Labels x_) ∧ Zaz Tryz.prog 47 [.ref 7001 0, .ptr false [slS false p.Labels, Zbg false p.Weights], I most] (Zaf [(7001, Zaa s)]) false (.arr 9311) (Zaf [(7001, Zaa s'), (9311, Zcb true sm)]) := by
  have hh : ∃ r : l00Src × (List Sample), ((Zbj r.1) ∧ (r.1.code = s.code) ∧ (s.atx + 0 ≤ r.1.atx ∧ r.1.atx ≤ s.atx + 700) ∧ ((r.2.length : Int) ≤ most) ∧ (∀ x_ ∈ r.2, okSm p.Labels x_) ∧ (True)) ∧ Zaz Tryz.prog 47 [.ref 7001 0, .ptr false [slS false p.Labels, Zbg false p.Weights], I most] (Zaf [(7001, Zaa s)]) false (.arr 9311) (Zaf [(7001, Zaa r.1), (9311, Zcb true r.2)]) := by
    refine Zde (Φ := fun r : l00Src × (List Sample) => (Zbj r.1) ∧ (r.1.code = s.code) ∧ (s.atx + 0 ≤ r.1.atx ∧ r.1.atx ≤ s.atx + 700) ∧ ((r.2.length : Int) ≤ most) ∧ (∀ x_ ∈ r.2, okSm p.Labels x_) ∧ (True)) [(7001, Zaa s)] (fun r => [(7001, Zaa r.1), (9311, Zcb true r.2)]) (fn := Tryz.f47) (nt := 45) Tryz.func47 rfl rfl (args := [.ref 7001 0, .ptr false [slS false p.Labels, Zbg false p.Weights], I most]) rfl (Zbw (.inr trivial) (Zbw (.inl ⟨rfl, by simp [Zak, Zah, Zdd, Zer]⟩) (Zbw (.inl ⟨rfl, trivial⟩) Zdb))) (res := fun r => .arr 9311) ?_
    refine xR [] [0, 1, 2] [7001] [.ref 7001 0, .ptr false [slS false p.Labels, Zbg false p.Weights], I most] [some (Zaa s)] [] trivial ?_
    refine xR [(0, .new 10)] [0, 1, 2, 7] [10, 7001] [.ref 7001 0, .ptr false [slS false p.Labels, Zbg false p.Weights], I most, .arr 10] [some (.arr 2 0 (Zcw [] 2)), some (Zaa s)] [] trivial ?_
    refine Zap ?_
    refine Zap ?_
    obtain ⟨v_1, s'_1, hx1_0, hx1_1, hx1_2, hx1_3, hc1⟩ := Zdu s (most + 1) (by first | assumption | (simp only [Zbj] at *; simp_all; done)) (by omega)
    refine x_r [(3, .lend [(7001, Zaa s, Zaa s'_1)] [] [(true, .any), (true, .any)] true (I v_1))] [0, 1, 7, 8] [10, 7001] [.ref 7001 0, .ptr false [slS false p.Labels, Zbg false p.Weights], .arr 10, I v_1] [some (.arr 2 0 (Zcw [] 2)), some (Zaa s'_1)] [inR .i64 (most + 1), Zaz Tryz.prog 48 [.ref 7001 0, I (most + 1)] (Zaf [(7001, Zaa s)]) true (I v_1) (Zaf [(7001, Zaa s'_1)]) ∧ (((Zaa s : Ob) = Zaa s ∨ Zeu Zel true (Zaa s) (Zaa s)) ∧ Zar false (Zaa s)) ∧ True] ⟨(Zam (by omega) (by omega)), ⟨hc1, ⟨.inl rfl, (by simp [Zar, Zah, Zak, Zdj])⟩, trivial⟩, trivial⟩ ?_
    refine Zab ?_
    refine Zbz ?_
    refine Zcz [] (T := [(0, .ref 7001 0), (1, .ptr false [slS false p.Labels, Zbg false p.Weights]), (7, .arr 10), (8, I v_1)]) (O := [(10, Zcb true ([] : List Sample)), (7001, Zaa s'_1)]) rfl (⟨.inl rfl, .inl rfl, .inl rfl, .inl rfl, trivial⟩) (⟨.inr ⟨rfl, (by first | rfl | (simp; done) | (simp; omega) | omega), fun i_ hi_ => absurd hi_ (Nat.not_lt_zero _)⟩, .inl rfl, trivial⟩) ?_
    refine Zeh (X := (List Sample) × Int × l00Src) (fun x => mkS [(0, .ref 7001 0), (1, .ptr false [slS false p.Labels, Zbg false p.Weights]), (7, .arr 10), (8, I x.2.1)] [(10, Zcb true x.1), (7001, Zaa x.2.2)]) (fun x => (Zbj x.2.2 ∧ x.2.2.code = s.code ∧ s.atx ≤ x.2.2.atx ∧ x.2.2.atx ≤ s.atx + 2 + 80 * (most - x.2.1)) ∧ (0 ≤ x.2.1 ∧ x.2.1 ≤ most) ∧ ((x.1.length : Int) + x.2.1 ≤ most) ∧ (∀ x_ ∈ x.1, okSm p.Labels x_) ∧ True) (fun x => x.2.1.toNat) (([] : List Sample), v_1, s'_1) rfl (show (Zbj s'_1 ∧ s'_1.code = s.code ∧ s.atx ≤ s'_1.atx ∧ s'_1.atx ≤ s.atx + 2 + 80 * (most - v_1)) ∧ (0 ≤ v_1 ∧ v_1 ≤ most) ∧ ((([] : List Sample).length : Int) + v_1 ≤ most) ∧ (∀ x_ ∈ ([] : List Sample), okSm p.Labels x_) ∧ True from ⟨(by exact ⟨by assumption, by first | assumption | rfl | (simp only [*]; done), by omega, by omega⟩), (by omega), (by simp; omega), (by (intro z hz; simp at hz)), trivial⟩) (fun x hI => ?_)
    obtain ⟨out, k, src⟩ := x
    obtain ⟨hs0, hk0, hol, hsm, _⟩ : (Zbj src ∧ src.code = s.code ∧ s.atx ≤ src.atx ∧ src.atx ≤ s.atx + 2 + 80 * (most - k)) ∧ (0 ≤ k ∧ k ≤ most) ∧ ((out.length : Int) + k ≤ most) ∧ (∀ x_ ∈ out, okSm p.Labels x_) ∧ True := hI
    show XW _ _ _ _ (mkS [(0, .ref 7001 0), (1, .ptr false [slS false p.Labels, Zbg false p.Weights]), (7, .arr 10), (8, I k)] [(10, Zcb true out), (7001, Zaa src)]) _ _
    refine Zap ?_
    refine Zap ?_
    by_cases h1 : 0 < k
    ·refine x_r [(1, .dec true)] [0, 1, 7, 8, 16] [10, 7001] [.ref 7001 0, .ptr false [slS false p.Labels, Zbg false p.Weights], .arr 10, I k, Bv true] [some (Zcb true out), some (Zaa src)] [0 < k] ⟨h1, trivial⟩ ?_
     refine Zab ?_
     refine Zbq rfl ?_
     refine Zca ?_
     refine Zab ?_
     refine Zap ?_
     refine Zbz ?_
     refine Zap ?_
     obtain ⟨v_2, s'_2, hx2_0, hx2_1, hx2_2, hx2_3, hc2⟩ := Zdu src (p.Labels.length : Int) (by first | assumption | (simp only [Zbj] at *; simp_all; done)) (by omega)
     refine x_r [(6, .lend [(7001, Zaa src, Zaa s'_2)] [] [(true, .any), (true, .any)] true (I v_2))] [0, 1, 7, 8, 9] [10, 7001] [.ref 7001 0, .ptr false [slS false p.Labels, Zbg false p.Weights], .arr 10, I k, I v_2] [some (Zcb true out), some (Zaa s'_2)] [Zaz Tryz.prog 48 [.ref 7001 0, I (p.Labels.length : Int)] (Zaf [(7001, Zaa src)]) true (I v_2) (Zaf [(7001, Zaa s'_2)]) ∧ (((Zaa src : Ob) = Zaa src ∨ Zeu Zel true (Zaa src) (Zaa src)) ∧ Zar false (Zaa src)) ∧ True] ⟨⟨hc2, ⟨.inl rfl, (by simp [Zar, Zah, Zak, Zdj])⟩, trivial⟩, trivial⟩ ?_
     refine Zab ?_
     obtain ⟨v_3, s'_3, hx3_0, hx3_1, hx3_2, hx3_3, hc3⟩ := Zdu s'_2 8 (by first | assumption | (simp only [Zbj] at *; simp_all; done)) (by omega)
     obtain ⟨v_4, s'_4, hx4_0, hx4_1, hx4_2, hx4_3, hc4⟩ := Zxg s'_3 (v_2 + (v_3 / 7)) (by first | assumption | (simp only [Zbj] at *; simp_all; done)) (by omega) (by omega)
     have hsh := hx4_3
     refine x_r [(11, .lend [(7001, Zaa s'_2, Zaa s'_3)] [] [(true, .any), (true, .any)] true (I v_3)), (12, .nn), (14, .lend [(7001, Zaa s'_3, Zaa s'_4)] [] [(true, .any), (true, .any)] true (Zau true v_4)), (16, .new 42), (17, .new 43)] [0, 1, 7, 8] [43, 7001] [.ref 7001 0, .ptr false [slS false p.Labels, Zbg false p.Weights], .arr 43, I k] [some (.arr 2 (out.length + 1) (Zdf out.length (Zcq true out) (Zcw [Sv (at_ p.Labels v_2.toNat), Zau true v_4] 2))), some (Zaa s'_4)] [(0 : Int) ≤ v_2 ∧ v_2 < (p.Labels.length : Int), Zaz Tryz.prog 48 [.ref 7001 0, I 8] (Zaf [(7001, Zaa s'_2)]) true (I v_3) (Zaf [(7001, Zaa s'_3)]) ∧ (((Zaa s'_2 : Ob) = Zaa s'_2 ∨ Zeu Zel true (Zaa s'_2) (Zaa s'_2)) ∧ Zar false (Zaa s'_2)) ∧ True, (0 : Int) ≤ v_3 ∧ (0 : Int) < 7 ∧ inR .i64 v_3, inR .i64 (v_2 + (v_3 / 7)), Zaz Tryz.prog 85 [.ref 7001 0, I (v_2 + (v_3 / 7))] (Zaf [(7001, Zaa s'_3)]) true (Zau true v_4) (Zaf [(7001, Zaa s'_4)]) ∧ (((Zaa s'_3 : Ob) = Zaa s'_3 ∨ Zeu Zel true (Zaa s'_3) (Zaa s'_3)) ∧ Zar false (Zaa s'_3)) ∧ True, (out.length + 1) * 40 ≤ 140737488355328] ⟨⟨(by omega), (by omega)⟩, ⟨hc3, ⟨.inl rfl, (by simp [Zar, Zah, Zak, Zdj])⟩, trivial⟩, ⟨(by omega), (by omega), (Zam (by omega) (by omega))⟩, (Zam (by omega) (by omega)), ⟨hc4, ⟨.inl rfl, (by simp [Zar, Zah, Zak, Zdj])⟩, trivial⟩, (by omega), trivial⟩ ?_
     refine Zbr 1 ?_
     refine Zab ?_
     refine x_r [] [0, 1, 7, 8] [43, 7001] [.ref 7001 0, .ptr false [slS false p.Labels, Zbg false p.Weights], .arr 43, I (k - 1)] [some (.arr 2 (out.length + 1) (Zdf out.length (Zcq true out) (Zcw [Sv (at_ p.Labels v_2.toNat), Zau true v_4] 2))), some (Zaa s'_4)] [inR .i64 (k - 1)] ⟨(Zam (by omega) (by omega)), trivial⟩ ?_
     refine Zcx [(10, 43)] (T := [(0, .ref 7001 0), (1, .ptr false [slS false p.Labels, Zbg false p.Weights]), (7, .arr 10), (8, I (k - 1))]) (O := [(10, Zcb true (out ++ [(Sample.mk (at_ p.Labels v_2.toNat) v_4)])), (7001, Zaa s'_4)]) rfl (⟨.inl rfl, .inl rfl, .inl rfl, .inl rfl, trivial⟩) (⟨.inr ⟨rfl, (by first | rfl | (simp; done) | (simp; omega) | omega), fun i_ hi_ => .inl (Zee (enc := (Zec true)) (xs := out) rfl i_ hi_)⟩, .inl rfl, trivial⟩) (Zcj ((out ++ [(Sample.mk (at_ p.Labels v_2.toNat) v_4)]), (k - 1), s'_4) rfl (show (Zbj s'_4 ∧ s'_4.code = s.code ∧ s.atx ≤ s'_4.atx ∧ s'_4.atx ≤ s.atx + 2 + 80 * (most - (k - 1))) ∧ (0 ≤ (k - 1) ∧ (k - 1) ≤ most) ∧ (((out ++ [(Sample.mk (at_ p.Labels v_2.toNat) v_4)]).length : Int) + (k - 1) ≤ most) ∧ (∀ x_ ∈ (out ++ [(Sample.mk (at_ p.Labels v_2.toNat) v_4)]), okSm p.Labels x_) ∧ True from ⟨(by exact ⟨by assumption, by first | assumption | rfl | (simp only [*]; done), by omega, by omega⟩), (by omega), (by simp; omega), (by exact Zjo hsm ⟨Zct (by omega), hsh⟩), trivial⟩) (by first | (show ((k - 1).toNat : Nat) < k.toNat; omega) | (dsimp only; omega)))
    refine x_r [(1, .dec false)] [0, 1, 7, 8, 16] [10, 7001] [.ref 7001 0, .ptr false [slS false p.Labels, Zbg false p.Weights], .arr 10, I k, Bv false] [some (Zcb true out), some (Zaa src)] [¬ (0 < k)] ⟨h1, trivial⟩ ?_
    refine Zab ?_
    refine Zbe rfl ?_
    refine Zeg ?_
    refine Zbs ?_
    refine Zbu ?_
    refine Zbt ?_
    refine Zab ?_
    refine xR [] [6] [10, 7001] [.arr 10] [some (Zcb true out), some (Zaa src)] [] trivial ?_
    refine Zcf ?_
    refine Zcx [(9311, 10)] (T := [(6, .arr 9311)]) (O := [(7001, Zaa src), (9311, Zcb true out)]) rfl (⟨.inl rfl, trivial⟩) (⟨.inl rfl, .inl rfl, trivial⟩) ?_
    refine Zbn (src, out) (show (Zbj src) ∧ (src.code = s.code) ∧ (s.atx + 0 ≤ src.atx ∧ src.atx ≤ s.atx + 700) ∧ ((out.length : Int) ≤ most) ∧ (∀ x_ ∈ out, okSm p.Labels x_) ∧ (True) from ⟨(by first | omega | exact hs0.1 | exact hs0.2.1 | exact hsm), (by first | omega | exact hs0.1 | exact hs0.2.1 | exact hsm), (by first | omega | exact hs0.1 | exact hs0.2.1 | exact hsm), (by first | omega | exact hs0.1 | exact hs0.2.1 | exact hsm), (by first | omega | exact hs0.1 | exact hs0.2.1 | exact hsm), trivial⟩) (⟨.inl rfl, .inl rfl, trivial⟩) (.arr 9311) (by kernel_rfl) (.inl rfl) (fun h => by cases h) (fun h => by cases h)
  obtain ⟨⟨s', sm⟩, ⟨hh0, hh1, hh2, hh3, hh4, _⟩, hc⟩ := hh
  exact ⟨s', sm, hh0, hh1, hh2, hh3, hh4, hc⟩
theorem Yen (list : List Int) (hl : list.length ≤ 100000) : ∃ (out : List Int), (out = list) ∧ Zaz Tryz.prog 97 [slI false list] (Zaf []) false (.arr 8201) (Zaf [(8201, tAI out)]) := by
  have hh : ∃ r : (List Int), ((r = list) ∧ (True)) ∧ Zaz Tryz.prog 97 [slI false list] (Zaf []) false (.arr 8201) (Zaf [(8201, tAI r)]) := by
    refine Zde (Φ := fun r : (List Int) => (r = list) ∧ (True)) [] (fun r => [(8201, tAI r)]) (fn := Tryz.f97) (nt := 6) Tryz.func97 rfl rfl (args := [slI false list]) rfl (Zbw (.inl ⟨rfl, Zpg false _⟩) Zdb) (res := fun r => .arr 8201) ?_
    refine xR [] [0] [] [slI false list] [] [] trivial ?_
    refine xR [(0, .new 3), (2, .new 5)] [2] [5] [.arr 5] [some (.arr 1 (0 + list.length) (Zdf 0 (Zcw [] 1) (fI list)))] [(0 + list.length) * 8 ≤ 140737488355328] ⟨(by omega), trivial⟩ ?_
    refine Zcf ?_
    refine Zcx [(8201, 5)] (T := [(2, .arr 8201)]) (O := [(8201, tAI list)]) rfl (⟨.inl rfl, trivial⟩) (⟨.inr ⟨rfl, (by first | rfl | (simp; done) | (simp; omega) | omega), fun i_ hi_ => .inl (Znq i_)⟩, trivial⟩) ?_
    refine Zbn list (show (list = list) ∧ (True) from ⟨(by first | rfl | simp), trivial⟩) (⟨.inl rfl, trivial⟩) (.arr 8201) (by kernel_rfl) (.inl rfl) (fun h => by cases h) (fun h => by cases h)
  obtain ⟨out, ⟨hh0, _⟩, hc⟩ := hh
  exact ⟨out, hh0, hc⟩
theorem Zuv (p : Perceptron) (hb : (p.Labels.length ≤ 100 ∧ p.Weights.length ≤ 100) ∧ ∀ j, j < p.Weights.length → (at_ p.Weights j).length ≤ 100) : ∃ (ls : List ByteArray) (ws : List (List Int)), (ls = p.Labels) ∧ (ws = p.Weights) ∧ Zaz Tryz.prog 59 [.ptr false [slS false p.Labels, Zbg false p.Weights]] (Zaf []) false (.agg [.arr 9201, .arr 9202]) (Zaf [(9201, tAS ls), (9202, Zbv 9203 ws), (9203, Zbm ws)]) := by
  have hh : ∃ r : (List ByteArray) × (List (List Int)), ((r.1 = p.Labels) ∧ (r.2 = p.Weights) ∧ (True)) ∧ Zaz Tryz.prog 59 [.ptr false [slS false p.Labels, Zbg false p.Weights]] (Zaf []) false (.agg [.arr 9201, .arr 9202]) (Zaf [(9201, tAS r.1), (9202, Zbv 9203 r.2), (9203, Zbm r.2)]) := by
    refine Zde (Φ := fun r : (List ByteArray) × (List (List Int)) => (r.1 = p.Labels) ∧ (r.2 = p.Weights) ∧ (True)) [] (fun r => [(9201, tAS r.1), (9202, Zbv 9203 r.2), (9203, Zbm r.2)]) (fn := Tryz.f59) (nt := 35) Tryz.func59 rfl rfl (args := [.ptr false [slS false p.Labels, Zbg false p.Weights]]) rfl (Zbw (.inl ⟨rfl, by simp [Zak, Zah, Zdd, Zer]⟩) Zdb) (res := fun r => .agg [.arr 9201, .arr 9202]) ?_
    refine xR [(0, .new 2)] [0, 2] [2] [.ptr false [slS false p.Labels, Zbg false p.Weights], .ref 2 0] [some (.box [Zao, Zao])] [] trivial ?_
    refine xR [(0, .new 5), (5, .new 10), (7, .new 3)] [0, 2, 3] [2, 3, 10] [.ptr false [slS false p.Labels, Zbg false p.Weights], .ref 2 0, .ref 3 0] [some (.box [Zao, Zao]), some (.box [.arr 10, Zao]), some (.arr 1 (0 + p.Labels.length) (Zdf 0 (Zcw [] 1) (fS p.Labels)))] [(0 + p.Labels.length) * 16 ≤ 140737488355328] ⟨(by omega), trivial⟩ ?_
    refine Zap ?_
    refine xR [] [0, 2, 3, 4] [2, 3, 10] [.ptr false [slS false p.Labels, Zbg false p.Weights], .ref 2 0, .ref 3 0, I 0] [some (.box [Zao, Zao]), some (.box [.arr 10, Zao]), some (.arr 1 (0 + p.Labels.length) (Zdf 0 (Zcw [] 1) (fS p.Labels)))] [] trivial ?_
    refine Zbz ?_
    refine Zkm 3 1 731 1 (fun _ => []) rfl (by kernel_rfl) ?_
    refine Zzc 9203 1 (fun _ => 0) (fun _ _ => []) (by kernel_rfl) ?_
    refine Zcz [] (T := [(0, .ptr false [slS false p.Labels, Zbg false p.Weights]), (2, .ref 2 0), (3, .ref 3 0), (4, I 0)]) (O := [(2, .box [Zao, Zao]), (3, .box [.arr 10, .arr 731]), (10, .arr 1 (0 + p.Labels.length) (Zdf 0 (Zcw [] 1) (fS p.Labels))), (731, Zbv 9203 ([] : List (List Int))), (9203, Zbm ([] : List (List Int)))]) rfl (⟨.inl rfl, .inl rfl, .inl rfl, .inl rfl, trivial⟩) (⟨.inl rfl, .inl rfl, .inl rfl, .inr ⟨rfl, rfl, fun i hi => absurd hi (Nat.not_lt_zero _)⟩, .inr ⟨rfl, rfl, fun p hp => absurd hp (Nat.not_lt_zero _)⟩, trivial⟩) ?_
    refine Zeh (X := Int × (List (List Int))) (fun x => mkS [(0, .ptr false [slS false p.Labels, Zbg false p.Weights]), (2, .ref 2 0), (3, .ref 3 0), (4, I x.1)] [(2, .box [Zao, Zao]), (3, .box [.arr 10, .arr 731]), (10, .arr 1 (0 + p.Labels.length) (Zdf 0 (Zcw [] 1) (fS p.Labels))), (731, Zbv 9203 x.2), (9203, Zbm x.2)]) (fun x => (0 ≤ x.1 ∧ x.1 ≤ (p.Weights.length : Int)) ∧ (x.2 = p.Weights.take x.1.toNat) ∧ ((x.2.length : Int) = x.1) ∧ True) (fun x => ((p.Weights.length : Int) - x.1).toNat) (0, ([] : List (List Int))) rfl (show (0 ≤ (0 : Int) ∧ (0 : Int) ≤ (p.Weights.length : Int)) ∧ (([] : List (List Int)) = p.Weights.take (0 : Int).toNat) ∧ ((([] : List (List Int)).length : Int) = (0 : Int)) ∧ True from ⟨(by omega), (by rfl), (by rfl), trivial⟩) (fun x hI => ?_)
    obtain ⟨i, ws⟩ := x
    obtain ⟨hi0, hws, hwl, _⟩ : (0 ≤ i ∧ i ≤ (p.Weights.length : Int)) ∧ (ws = p.Weights.take i.toNat) ∧ ((ws.length : Int) = i) ∧ True := hI
    show XW _ _ _ _ (mkS [(0, .ptr false [slS false p.Labels, Zbg false p.Weights]), (2, .ref 2 0), (3, .ref 3 0), (4, I i)] [(2, .box [Zao, Zao]), (3, .box [.arr 10, .arr 731]), (10, .arr 1 (0 + p.Labels.length) (Zdf 0 (Zcw [] 1) (fS p.Labels))), (731, Zbv 9203 ws), (9203, Zbm ws)]) _ _
    refine Zap ?_
    refine Zap ?_
    by_cases h1 : i < (p.Weights.length : Int)
    ·have hi : i.toNat < p.Weights.length := by omega
     refine x_r [(6, .dec true)] [0, 2, 3, 4, 18] [2, 3, 10, 731, 9203] [.ptr false [slS false p.Labels, Zbg false p.Weights], .ref 2 0, .ref 3 0, I i, Bv true] [some (.box [Zao, Zao]), some (.box [.arr 10, .arr 731]), some (.arr 1 (0 + p.Labels.length) (Zdf 0 (Zcw [] 1) (fS p.Labels))), some (Zbv 9203 ws), some (Zbm ws)] [i < (p.Weights.length : Int)] ⟨h1, trivial⟩ ?_
     refine Zab ?_
     refine Zbq rfl ?_
     refine Zca ?_
     refine Zab ?_
     refine Zap ?_
     refine Zbz ?_
     obtain ⟨out_1, hx1_0, hc1⟩ := Yen (at_ p.Weights i.toNat) (by have := hb.2 i.toNat hi; omega)
     have how := hx1_0
     refine x_r [(9, .lend [] [(8201, tAI out_1)] [(true, .any)] false (.arr 8201)), (10, .new 31), (11, .new 32)] [0, 2, 3, 4] [2, 3, 10, 32, 8201, 9203] [.ptr false [slS false p.Labels, Zbg false p.Weights], .ref 2 0, .ref 3 0, I i] [some (.box [Zao, Zao]), some (.box [.arr 10, .arr 32]), some (.arr 1 (0 + p.Labels.length) (Zdf 0 (Zcw [] 1) (fS p.Labels))), some (.oar [9203, 8201] 1 (ws.length + 1) (Zdf ws.length (oLI 9203 ws) (Zcw [.arr 8201] 1))), some (tAI out_1), some (Zbm ws)] [(0 : Int) ≤ i ∧ i < (p.Weights.length : Int), Zaz Tryz.prog 97 [slI false (at_ p.Weights i.toNat)] (Zaf []) false (.arr 8201) (Zaf [(8201, tAI out_1)]) ∧ True, (ws.length + 1) * 24 ≤ 140737488355328] ⟨⟨(by omega), (by omega)⟩, ⟨hc1, trivial⟩, (by omega), trivial⟩ ?_
     refine Zbr 1 ?_
     refine Zab ?_
     refine x_r [] [0, 2, 3, 4] [2, 3, 10, 32, 8201, 9203] [.ptr false [slS false p.Labels, Zbg false p.Weights], .ref 2 0, .ref 3 0, I (i + 1)] [some (.box [Zao, Zao]), some (.box [.arr 10, .arr 32]), some (.arr 1 (0 + p.Labels.length) (Zdf 0 (Zcw [] 1) (fS p.Labels))), some (.oar [9203, 8201] 1 (ws.length + 1) (Zdf ws.length (oLI 9203 ws) (Zcw [.arr 8201] 1))), some (tAI out_1), some (Zbm ws)] [inR .i64 (i + 1)] ⟨(Zam (by omega) (by omega)), trivial⟩ ?_
     refine Zlo 8201 9203 rfl rfl rfl ?_
     refine Zcx [(731, 32)] (T := [(0, .ptr false [slS false p.Labels, Zbg false p.Weights]), (2, .ref 2 0), (3, .ref 3 0), (4, I (i + 1))]) (O := [(2, .box [Zao, Zao]), (3, .box [.arr 10, .arr 731]), (10, .arr 1 (0 + p.Labels.length) (Zdf 0 (Zcw [] 1) (fS p.Labels))), (731, Zbv 9203 (ws ++ [out_1])), (9203, Zbm (ws ++ [out_1]))]) rfl (⟨.inl rfl, .inl rfl, .inl rfl, .inl rfl, trivial⟩) (⟨.inl rfl, .inl rfl, .inl rfl, .inr ⟨rfl, rfl, (by simp), fun i hi => .inl (Zqk rfl rfl rfl i hi)⟩, .inr (Zql out_1 (by first | rfl | (simp; done)) (fun i _ => rfl)), trivial⟩) (Zcj ((i + 1), (ws ++ [out_1])) rfl (show (0 ≤ (i + 1) ∧ (i + 1) ≤ (p.Weights.length : Int)) ∧ ((ws ++ [out_1]) = p.Weights.take (i + 1).toNat) ∧ (((ws ++ [out_1]).length : Int) = (i + 1)) ∧ True from ⟨(by omega), (by rw [hws, how, show (i + 1).toNat = i.toNat + 1 from by omega, Zju hi]), (by simp; omega), trivial⟩) (by first | (show (((p.Weights.length : Int) - (i + 1)).toNat : Nat) < ((p.Weights.length : Int) - i).toNat; omega) | (dsimp only; omega)))
    have hie : i.toNat = p.Weights.length := by omega
    rw [hie, List.take_of_length_le (Nat.le_refl _)] at hws
    refine x_r [(6, .dec false)] [0, 2, 3, 4, 18] [2, 3, 10, 731, 9203] [.ptr false [slS false p.Labels, Zbg false p.Weights], .ref 2 0, .ref 3 0, I i, Bv false] [some (.box [Zao, Zao]), some (.box [.arr 10, .arr 731]), some (.arr 1 (0 + p.Labels.length) (Zdf 0 (Zcw [] 1) (fS p.Labels))), some (Zbv 9203 ws), some (Zbm ws)] [¬ (i < (p.Weights.length : Int))] ⟨h1, trivial⟩ ?_
    refine Zab ?_
    refine Zbe rfl ?_
    refine Zeg ?_
    refine Zbs ?_
    refine Zbu ?_
    refine Zbt ?_
    refine Zab ?_
    refine xR [] [2] [2, 10, 731, 9203] [.ref 2 0] [some (.box [.arr 10, .arr 731]), some (.arr 1 (0 + p.Labels.length) (Zdf 0 (Zcw [] 1) (fS p.Labels))), some (Zbv 9203 ws), some (Zbm ws)] [] trivial ?_
    refine Zcf ?_
    refine Zcx [(9201, 10), (9202, 731)] (T := [(2, .ref 2 0)]) (O := [(2, .box [.arr 9201, .arr 9202]), (9201, tAS p.Labels), (9202, Zbv 9203 ws), (9203, Zbm ws)]) rfl (⟨.inl rfl, trivial⟩) (⟨.inl rfl, .inr ⟨rfl, (by first | rfl | (simp; done) | (simp; omega) | omega), fun i_ hi_ => .inl (Znq i_)⟩, .inl rfl, .inl rfl, trivial⟩) ?_
    refine Zbn (p.Labels, ws) (show (p.Labels = p.Labels) ∧ (ws = p.Weights) ∧ (True) from ⟨(by first | rfl | exact hws | (simp; done)), (by first | rfl | exact hws | (simp; done)), trivial⟩) (⟨.inl rfl, .inl rfl, .inl rfl, trivial⟩) (.agg [.arr 9201, .arr 9202]) (by kernel_rfl) (.inl rfl) (fun h => by cases h) (fun h => by cases h)
  obtain ⟨⟨ls, ws⟩, ⟨hh0, hh1, _⟩, hc⟩ := hh
  exact ⟨ls, ws, hh0, hh1, hc⟩
theorem Yad (n : Int) (d : Int) (hn : (-4611686018427387904 ≤ n ∧ n ≤ 4611686018427387904) ∧ 0 < d) : Con Tryz.prog 115 [I n, I d] true (I (n / d)) := by
  have hq := Ydi n d
  have hs := Zuo n hn.2
  refine Zdc (fn := Tryz.f115) (nt := 16) Tryz.func115 rfl rfl rfl rfl (by simp [Zah, Zak]) fun B hB => ?_
  refine aR [] [0, 1] [] [I n, I d] [] [] hB trivial ?_
  refine aR [] [0, 1, 5] [] [I n, I d, I (Int.tdiv n d)] [] [(d : Int) ≠ 0 ∧ inR .i64 (Int.tdiv n d)] hB ⟨⟨by omega, (Zam (by omega) (by omega))⟩, trivial⟩ ?_
  refine Zal ?_
  refine Zal ?_
  by_cases h1 : (Int.tmod n d) < 0
  ·refine Zby [(3, .dec true)] [5, 12] [] [I (Int.tdiv n d), Bv true] [] [(d : Int) ≠ 0, (Int.tmod n d) < 0] hB ⟨(by omega), h1, trivial⟩ ?_
   refine Zac ?_
   refine Zbc rfl ?_
   refine Zby [] [5] [] [I ((Int.tdiv n d) - 1)] [] [inR .i64 ((Int.tdiv n d) - 1)] hB ⟨(Zam (by omega) (by omega)), trivial⟩ ?_
   refine Zac ?_
   refine aR [] [4] [] [I ((Int.tdiv n d) - 1)] [] [] hB trivial ?_
   refine Zax ?_
   refine Zba hB (I ((Int.tdiv n d) - 1)) (by kernel_rfl) (.inl (by refine congrArg I ?_; first | exact hs.1 (by assumption) | exact hs.2 (by assumption))) rfl (fun _ => trivial)
  refine Zby [(3, .dec false)] [5, 12] [] [I (Int.tdiv n d), Bv false] [] [(d : Int) ≠ 0, ¬ ((Int.tmod n d) < 0)] hB ⟨(by omega), h1, trivial⟩ ?_
  refine Zac ?_
  refine Zay rfl ?_
  refine Zbf ?_
  refine Zac ?_
  refine aR [] [4] [] [I (Int.tdiv n d)] [] [] hB trivial ?_
  refine Zax ?_
  refine Zba hB (I (Int.tdiv n d)) (by kernel_rfl) (.inl (by refine congrArg I ?_; first | exact hs.1 (by assumption) | exact hs.2 (by assumption))) rfl (fun _ => trivial)
theorem Yae (n : Int) (d : Int) (hn : (-1000000000000000000 ≤ n ∧ n ≤ 1000000000000000000) ∧ 0 < d ∧ d ≤ 1000000000000000000) : Con Tryz.prog 96 [I n, I d] true (I (Zgf n d)) := by
  refine Zdc (fn := Tryz.f96) (nt := 12) Tryz.func96 rfl rfl rfl rfl (by simp [Zah, Zak]) fun B hB => ?_
  refine aR [] [0, 1] [] [I n, I d] [] [] hB trivial ?_
  refine aR [(6, .call [(true, .any), (true, .any)] true (I (((2 * n) + d) / (2 * d))))] [4] [] [I (((2 * n) + d) / (2 * d))] [] [inR .i64 (2 * n), inR .i64 ((2 * n) + d), inR .i64 (2 * d), Con Tryz.prog 115 [I ((2 * n) + d), I (2 * d)] true (I (((2 * n) + d) / (2 * d))) ∧ True] hB ⟨(Zam (by omega) (by omega)), (Zam (by omega) (by omega)), (Zam (by omega) (by omega)), ⟨(Yad ((2 * n) + d) (2 * d) (by omega)), trivial⟩, trivial⟩ ?_
  refine Zax ?_
  refine Zba hB (I (((2 * n) + d) / (2 * d))) (by kernel_rfl) (.inl (by rfl)) rfl (fun _ => trivial)
theorem Zwx (feats : List Feat) (hok : Zbp feats 384 = true) : ∃ (v : List Int), (v = Zed feats) ∧ Con Tryz.prog 56 [Zau false feats] true (slI true v) := by
  have hfn := Zjk hok
  have hh : ∃ r : (List Int), ((r = Zed feats) ∧ (True)) ∧ Zaz Tryz.prog 56 [Zau false feats] (Zaf []) true (slI true r) (Zaf []) := by
    refine Zde (Φ := fun r : (List Int) => (r = Zed feats) ∧ (True)) [] (fun r => []) (fn := Tryz.f56) (nt := 59) Tryz.func56 rfl rfl (args := [Zau false feats]) rfl (Zbw (.inl ⟨rfl, Zef false _⟩) Zdb) (res := fun r => slI true r) ?_
    refine xR [] [0] [] [Zau false feats] [] [] trivial ?_
    refine xR [(0, .new 8)] [0, 3] [8] [Zau false feats, .arr 8] [some (.arr 1 25 (fun _ => [I 0]))] [(0 : Int) ≤ 25 ∧ (25 : Int) ≤ 25 ∧ (8 : Int) * 25 ≤ 281474976710656 ∧ (25 : Int) ≤ 9223372036854775807] ⟨⟨(by omega), (by omega), (by omega), (by omega)⟩, trivial⟩ ?_
    refine Zap ?_
    refine xR [] [0, 3, 4] [8] [Zau false feats, .arr 8, I 0] [some (.arr 1 25 (fun _ => [I 0]))] [] trivial ?_
    refine Zbz ?_
    refine Zcz [] (T := [(0, Zau false feats), (3, .arr 8), (4, I 0)]) (O := [(8, tAI (List.replicate 25 (0 : Int)))]) rfl (⟨.inl rfl, .inl rfl, .inl rfl, trivial⟩) (⟨.inr ⟨rfl, (by first | rfl | (simp; done) | (simp; omega) | omega), fun i_ hi_ => .inl (Zkp (enc := cI) rfl i_ hi_)⟩, trivial⟩) ?_
    refine Zeh (X := Int × (List Int)) (fun x => mkS [(0, Zau false feats), (3, .arr 8), (4, I x.1)] [(8, tAI x.2)]) (fun x => (0 ≤ x.1 ∧ x.1 ≤ (feats.length : Int)) ∧ (x.2 = Zio feats x.1.toNat) ∧ (x.2.length = 25) ∧ True) (fun x => ((feats.length : Int) - x.1).toNat) (0, (List.replicate 25 (0 : Int))) rfl (show (0 ≤ (0 : Int) ∧ (0 : Int) ≤ (feats.length : Int)) ∧ ((List.replicate 25 (0 : Int)) = Zio feats (0 : Int).toNat) ∧ ((List.replicate 25 (0 : Int)).length = 25) ∧ True from ⟨(by omega), (by rfl), (by rfl), trivial⟩) (fun x hI => ?_)
    obtain ⟨i, ys⟩ := x
    obtain ⟨hi0, hys, hyl, _⟩ : (0 ≤ i ∧ i ≤ (feats.length : Int)) ∧ (ys = Zio feats i.toNat) ∧ (ys.length = 25) ∧ True := hI
    show XW _ _ _ _ (mkS [(0, Zau false feats), (3, .arr 8), (4, I i)] [(8, tAI ys)]) _ _
    refine Zap ?_
    refine Zap ?_
    by_cases h1 : i < (feats.length : Int)
    ·have hi : i.toNat < feats.length := by omega
     have hf := Zox.1 (Zqs hok hi)
     have hbb : ∀ j_, 0 ≤ at_ ys j_ ∧ at_ ys j_ ≤ 2 * i := fun j_ => by rw [hys]; have := Zjl feats i.toNat j_; omega
     have hb1 := hbb (at_ feats i.toNat).D.toNat
     refine x_r [(3, .dec true)] [0, 3, 4, 12] [8] [Zau false feats, .arr 8, I i, Bv true] [some (tAI ys)] [i < (feats.length : Int)] ⟨h1, trivial⟩ ?_
     refine Zab ?_
     refine Zbq rfl ?_
     refine Zca ?_
     refine Zab ?_
     refine Zap ?_
     refine Zbz ?_
     refine xR [(4, .new 5)] [0, 3, 4, 5] [5, 8] [Zau false feats, .arr 8, I i, .ref 5 0] [some (Zlg (at_ feats i.toNat)), some (tAI ys)] [(0 : Int) ≤ i ∧ i < (feats.length : Int)] ⟨⟨(by omega), (by omega)⟩, trivial⟩ ?_
     refine xR [] [0, 3, 4, 5] [5, 8] [Zau false feats, .arr 8, I i, .ref 5 0] [some (Zlg (at_ feats i.toNat)), some (.arr 1 ys.length (fun q => bif Nat.beq q (((at_ feats i.toNat).D).toNat) then [I ((at_ ys (((at_ feats i.toNat).D).toNat)) + 1)] else (fI ys) q))] [(0 : Int) ≤ ((at_ feats i.toNat).D) ∧ ((at_ feats i.toNat).D) < (ys.length : Int), ((at_ feats i.toNat).D).toNat < ys.length, inR .i64 ((at_ ys (((at_ feats i.toNat).D).toNat)) + 1), (0 : Int) ≤ ((at_ feats i.toNat).D) ∧ ((at_ feats i.toNat).D) < (ys.length : Int), ((at_ feats i.toNat).D).toNat < ys.length] ⟨⟨(by omega), (by omega)⟩, (by omega), (Zam (by omega) (by omega)), ⟨(by omega), (by omega)⟩, (by omega), trivial⟩ ?_
     refine Zcz [] (T := [(0, Zau false feats), (3, .arr 8), (4, I i), (5, .ref 5 0)]) (O := [(5, Zlg (at_ feats i.toNat)), (8, tAI (ys.set (((at_ feats i.toNat).D).toNat) ((at_ ys (((at_ feats i.toNat).D).toNat)) + 1)))]) rfl (⟨.inl rfl, .inl rfl, .inl rfl, .inl rfl, trivial⟩) (⟨.inl rfl, .inr ⟨rfl, (by first | rfl | (simp; done) | (simp; omega) | omega), fun i_ hi_ => .inl (Zic (enc := cI) rfl i_ hi_)⟩, trivial⟩) ?_
     refine x_r [(3, .nn), (8, .nn)] [0, 3, 4] [8] [Zau false feats, .arr 8, I i] [some (.arr 1 ((ys.set (((at_ feats i.toNat).D).toNat) ((at_ ys (((at_ feats i.toNat).D).toNat)) + 1)).length) (fun q => bif Nat.beq q (((8 + ((((at_ feats i.toNat).Y) / 64) * 4)) + (((at_ feats i.toNat).X) / 64)).toNat) then [I ((at_ (ys.set (((at_ feats i.toNat).D).toNat) ((at_ ys (((at_ feats i.toNat).D).toNat)) + 1)) (((8 + ((((at_ feats i.toNat).Y) / 64) * 4)) + (((at_ feats i.toNat).X) / 64)).toNat)) + 1)] else (fI (ys.set (((at_ feats i.toNat).D).toNat) ((at_ ys (((at_ feats i.toNat).D).toNat)) + 1))) q))] [(0 : Int) ≤ ((at_ feats i.toNat).Y) ∧ (0 : Int) < 64 ∧ inR .i64 ((at_ feats i.toNat).Y), inR .i64 ((((at_ feats i.toNat).Y) / 64) * 4), inR .i64 (8 + ((((at_ feats i.toNat).Y) / 64) * 4)), (0 : Int) ≤ ((at_ feats i.toNat).X) ∧ (0 : Int) < 64 ∧ inR .i64 ((at_ feats i.toNat).X), inR .i64 ((8 + ((((at_ feats i.toNat).Y) / 64) * 4)) + (((at_ feats i.toNat).X) / 64)), (0 : Int) ≤ ((8 + ((((at_ feats i.toNat).Y) / 64) * 4)) + (((at_ feats i.toNat).X) / 64)) ∧ ((8 + ((((at_ feats i.toNat).Y) / 64) * 4)) + (((at_ feats i.toNat).X) / 64)) < (((ys.set (((at_ feats i.toNat).D).toNat) ((at_ ys (((at_ feats i.toNat).D).toNat)) + 1)).length : Nat) : Int), ((8 + ((((at_ feats i.toNat).Y) / 64) * 4)) + (((at_ feats i.toNat).X) / 64)).toNat < (ys.set (((at_ feats i.toNat).D).toNat) ((at_ ys (((at_ feats i.toNat).D).toNat)) + 1)).length, inR .i64 ((at_ (ys.set (((at_ feats i.toNat).D).toNat) ((at_ ys (((at_ feats i.toNat).D).toNat)) + 1)) (((8 + ((((at_ feats i.toNat).Y) / 64) * 4)) + (((at_ feats i.toNat).X) / 64)).toNat)) + 1), (0 : Int) ≤ ((8 + ((((at_ feats i.toNat).Y) / 64) * 4)) + (((at_ feats i.toNat).X) / 64)) ∧ ((8 + ((((at_ feats i.toNat).Y) / 64) * 4)) + (((at_ feats i.toNat).X) / 64)) < (((ys.set (((at_ feats i.toNat).D).toNat) ((at_ ys (((at_ feats i.toNat).D).toNat)) + 1)).length : Nat) : Int), ((8 + ((((at_ feats i.toNat).Y) / 64) * 4)) + (((at_ feats i.toNat).X) / 64)).toNat < (ys.set (((at_ feats i.toNat).D).toNat) ((at_ ys (((at_ feats i.toNat).D).toNat)) + 1)).length] ⟨⟨(by omega), (by omega), (Zam (by omega) (by omega))⟩, (Zam (by omega) (by omega)), (Zam (by omega) (by omega)), ⟨(by omega), (by omega), (Zam (by omega) (by omega))⟩, (Zam (by omega) (by omega)), ⟨(by first | omega | (simp only [List.length_set]; omega)), (by first | omega | (simp only [List.length_set]; omega))⟩, (by first | omega | (simp only [List.length_set]; omega)), (by have q1 := hbb (((8 + ((((at_ feats i.toNat).Y) / 64) * 4)) + (((at_ feats i.toNat).X) / 64)).toNat); have q2 := hbb (at_ feats i.toNat).D.toNat; simp only [Zil]; split <;> exact Zam (by omega) (by omega)), ⟨(by first | omega | (simp only [List.length_set]; omega)), (by first | omega | (simp only [List.length_set]; omega))⟩, (by first | omega | (simp only [List.length_set]; omega)), trivial⟩ ?_
     refine Zbr 1 ?_
     refine Zab ?_
     refine Zcz [] (T := [(0, Zau false feats), (3, .arr 8), (4, I i)]) (O := [(8, tAI ((ys.set (((at_ feats i.toNat).D).toNat) ((at_ ys (((at_ feats i.toNat).D).toNat)) + 1)).set (((8 + ((((at_ feats i.toNat).Y) / 64) * 4)) + (((at_ feats i.toNat).X) / 64)).toNat) ((at_ (ys.set (((at_ feats i.toNat).D).toNat) ((at_ ys (((at_ feats i.toNat).D).toNat)) + 1)) (((8 + ((((at_ feats i.toNat).Y) / 64) * 4)) + (((at_ feats i.toNat).X) / 64)).toNat)) + 1)))]) rfl (⟨.inl rfl, .inl rfl, .inl rfl, trivial⟩) (⟨.inr ⟨rfl, (by first | rfl | (simp; done) | (simp; omega) | omega), fun i_ hi_ => .inl (Zic (enc := cI) rfl i_ hi_)⟩, trivial⟩) ?_
     refine x_r [] [0, 3, 4] [8] [Zau false feats, .arr 8, I (i + 1)] [some (tAI ((ys.set (((at_ feats i.toNat).D).toNat) ((at_ ys (((at_ feats i.toNat).D).toNat)) + 1)).set (((8 + ((((at_ feats i.toNat).Y) / 64) * 4)) + (((at_ feats i.toNat).X) / 64)).toNat) ((at_ (ys.set (((at_ feats i.toNat).D).toNat) ((at_ ys (((at_ feats i.toNat).D).toNat)) + 1)) (((8 + ((((at_ feats i.toNat).Y) / 64) * 4)) + (((at_ feats i.toNat).X) / 64)).toNat)) + 1)))] [inR .i64 (i + 1)] ⟨(Zam (by omega) (by omega)), trivial⟩ ?_
     exact Zcj ((i + 1), ((ys.set (((at_ feats i.toNat).D).toNat) ((at_ ys (((at_ feats i.toNat).D).toNat)) + 1)).set (((8 + ((((at_ feats i.toNat).Y) / 64) * 4)) + (((at_ feats i.toNat).X) / 64)).toNat) ((at_ (ys.set (((at_ feats i.toNat).D).toNat) ((at_ ys (((at_ feats i.toNat).D).toNat)) + 1)) (((8 + ((((at_ feats i.toNat).Y) / 64) * 4)) + (((at_ feats i.toNat).X) / 64)).toNat)) + 1))) rfl (show (0 ≤ (i + 1) ∧ (i + 1) ≤ (feats.length : Int)) ∧ (((ys.set (((at_ feats i.toNat).D).toNat) ((at_ ys (((at_ feats i.toNat).D).toNat)) + 1)).set (((8 + ((((at_ feats i.toNat).Y) / 64) * 4)) + (((at_ feats i.toNat).X) / 64)).toNat) ((at_ (ys.set (((at_ feats i.toNat).D).toNat) ((at_ ys (((at_ feats i.toNat).D).toNat)) + 1)) (((8 + ((((at_ feats i.toNat).Y) / 64) * 4)) + (((at_ feats i.toNat).X) / 64)).toNat)) + 1)) = Zio feats (i + 1).toNat) ∧ (((ys.set (((at_ feats i.toNat).D).toNat) ((at_ ys (((at_ feats i.toNat).D).toNat)) + 1)).set (((8 + ((((at_ feats i.toNat).Y) / 64) * 4)) + (((at_ feats i.toNat).X) / 64)).toNat) ((at_ (ys.set (((at_ feats i.toNat).D).toNat) ((at_ ys (((at_ feats i.toNat).D).toNat)) + 1)) (((8 + ((((at_ feats i.toNat).Y) / 64) * 4)) + (((at_ feats i.toNat).X) / 64)).toNat)) + 1)).length = 25) ∧ True from ⟨(by omega), (by rw [inpC_1 hi0.1, ← hys]; rfl), (by simp only [List.length_set]; exact hyl), trivial⟩) (by first | (show (((feats.length : Int) - (i + 1)).toNat : Nat) < ((feats.length : Int) - i).toNat; omega) | (dsimp only; omega))
    have hie : i.toNat = feats.length := by omega
    rw [hie] at hys
    refine x_r [(3, .dec false)] [0, 3, 4, 12] [8] [Zau false feats, .arr 8, I i, Bv false] [some (tAI ys)] [¬ (i < (feats.length : Int))] ⟨h1, trivial⟩ ?_
    refine Zab ?_
    refine Zbe rfl ?_
    refine Zeg ?_
    refine Zbs ?_
    refine Zbu ?_
    refine Zbt ?_
    refine Zab ?_
    refine xR [] [3, 6] [8] [.arr 8, I (feats.length : Int)] [some (tAI ys)] [] trivial ?_
    refine Zap ?_
    refine xR [] [3, 6, 7] [8] [.arr 8, I (feats.length : Int), I 0] [some (tAI ys)] [] trivial ?_
    refine Zbz ?_
    refine Zeh (X := Int × (List Int)) (fun x => mkS [(3, .arr 8), (6, I (feats.length : Int)), (7, I x.1)] [(8, tAI x.2)]) (fun x => (0 ≤ x.1 ∧ x.1 ≤ (24 : Int)) ∧ (x.2 = Zni (Zio feats feats.length) (feats.length : Int) x.1.toNat) ∧ (x.2.length = 25) ∧ True) (fun x => ((24 : Int) - x.1).toNat) (0, ys) rfl (show (0 ≤ (0 : Int) ∧ (0 : Int) ≤ (24 : Int)) ∧ (ys = Zni (Zio feats feats.length) (feats.length : Int) (0 : Int).toNat) ∧ (ys.length = 25) ∧ True from ⟨(by omega), (by exact hys), (by exact hyl), trivial⟩) (fun x hI => ?_)
    obtain ⟨i', zs⟩ := x
    obtain ⟨hj0, hzs, hzl, _⟩ : (0 ≤ i' ∧ i' ≤ (24 : Int)) ∧ (zs = Zni (Zio feats feats.length) (feats.length : Int) i'.toNat) ∧ (zs.length = 25) ∧ True := hI
    show XW _ _ _ _ (mkS [(3, .arr 8), (6, I (feats.length : Int)), (7, I i')] [(8, tAI zs)]) _ _
    refine Zap ?_
    refine Zap ?_
    by_cases h2 : i' < 24
    ·have hi2 : i'.toNat < zs.length := by omega
     have hzb := Zjl feats feats.length i'.toNat
     have hze : at_ zs i'.toNat = at_ (Zio feats feats.length) i'.toNat := by rw [hzs]; exact (Zsq (n := (feats.length : Int)) (by omega) (Zjl feats feats.length) i'.toNat i'.toNat).1 (Nat.le_refl _)
     refine x_r [(1, .dec true)] [3, 6, 7, 43] [8] [.arr 8, I (feats.length : Int), I i', Bv true] [some (tAI zs)] [i' < 24] ⟨h2, trivial⟩ ?_
     refine Zab ?_
     refine Zbq rfl ?_
     refine Zca ?_
     refine Zab ?_
     refine Zap ?_
     refine Zbz ?_
     refine x_r [(8, .call [(true, .any), (true, .any)] true (I (Zgf (256 * (at_ zs i'.toNat)) (feats.length : Int))))] [3, 6, 7] [8] [.arr 8, I (feats.length : Int), I i'] [some (.arr 1 zs.length (fun q => bif Nat.beq q i'.toNat then [I (Zgf (256 * (at_ zs i'.toNat)) (feats.length : Int))] else (fI zs) q))] [(0 : Int) ≤ i' ∧ i' < (zs.length : Int), i'.toNat < zs.length, inR .i64 (256 * (at_ zs i'.toNat)), Con Tryz.prog 96 [I (256 * (at_ zs i'.toNat)), I (feats.length : Int)] true (I (Zgf (256 * (at_ zs i'.toNat)) (feats.length : Int))) ∧ True, (0 : Int) ≤ i' ∧ i' < (zs.length : Int), i'.toNat < zs.length] ⟨⟨(by omega), (by omega)⟩, (by omega), (Zam (by omega) (by omega)), ⟨(Yae (256 * (at_ zs i'.toNat)) (feats.length : Int) (by omega)), trivial⟩, ⟨(by omega), (by omega)⟩, (by omega), trivial⟩ ?_
     refine Zbr 3 ?_
     refine Zab ?_
     refine Zcz [] (T := [(3, .arr 8), (6, I (feats.length : Int)), (7, I i')]) (O := [(8, tAI (zs.set i'.toNat (Zgf (256 * (at_ zs i'.toNat)) (feats.length : Int))))]) rfl (⟨.inl rfl, .inl rfl, .inl rfl, trivial⟩) (⟨.inr ⟨rfl, (by first | rfl | (simp; done) | (simp; omega) | omega), fun i_ hi_ => .inl (Zic (enc := cI) rfl i_ hi_)⟩, trivial⟩) ?_
     refine x_r [] [3, 6, 7] [8] [.arr 8, I (feats.length : Int), I (i' + 1)] [some (tAI (zs.set i'.toNat (Zgf (256 * (at_ zs i'.toNat)) (feats.length : Int))))] [inR .i64 (i' + 1)] ⟨(Zam (by omega) (by omega)), trivial⟩ ?_
     exact Zcj ((i' + 1), (zs.set i'.toNat (Zgf (256 * (at_ zs i'.toNat)) (feats.length : Int)))) rfl (show (0 ≤ (i' + 1) ∧ (i' + 1) ≤ (24 : Int)) ∧ ((zs.set i'.toNat (Zgf (256 * (at_ zs i'.toNat)) (feats.length : Int))) = Zni (Zio feats feats.length) (feats.length : Int) (i' + 1).toNat) ∧ ((zs.set i'.toNat (Zgf (256 * (at_ zs i'.toNat)) (feats.length : Int))).length = 25) ∧ True from ⟨(by omega), (by first | (rw [Zyq hj0.1, ← hzs]; done) | (rw [Zyq hj0.1, ← hzs, Int.mul_comm 256])), (by simp only [List.length_set]; exact hzl), trivial⟩) (by first | (show (((24 : Int) - (i' + 1)).toNat : Nat) < ((24 : Int) - i').toNat; omega) | (dsimp only; omega))
    have hie2 : i'.toNat = 24 := by omega
    rw [hie2] at hzs
    refine x_r [(1, .dec false)] [3, 6, 7, 43] [8] [.arr 8, I (feats.length : Int), I i', Bv false] [some (tAI zs)] [¬ (i' < 24)] ⟨h2, trivial⟩ ?_
    refine Zab ?_
    refine Zbe rfl ?_
    refine Zeg ?_
    refine Zbs ?_
    refine Zbu ?_
    refine Zbt ?_
    refine Zab ?_
    refine xR [] [3] [8] [.arr 8] [some (.arr 1 zs.length (fun q => bif Nat.beq q 24 then [I 256] else (fI zs) q))] [(0 : Int) ≤ 24 ∧ 24 < (zs.length : Int), 24 < zs.length] ⟨⟨(by omega), (by omega)⟩, (by omega), trivial⟩ ?_
    refine Zap ?_
    refine Zcz [] (T := [(3, .arr 8)]) (O := [(8, tAI (zs.set 24 256))]) rfl (⟨.inl rfl, trivial⟩) (⟨.inr ⟨rfl, (by first | rfl | (simp; done) | (simp; omega) | omega), fun i_ hi_ => .inl (Zic (enc := cI) rfl i_ hi_)⟩, trivial⟩) ?_
    refine x_r [] [2] [8] [.arr 8] [some (tAI (zs.set 24 256))] [] trivial ?_
    refine Zab ?_
    refine Zcf ?_
    refine Zbn (zs.set 24 256) (show ((zs.set 24 256) = Zed feats) ∧ (True) from ⟨(by rw [hzs, inpR_def]), trivial⟩) (trivial) (.arr 8) (by kernel_rfl) (.inr ⟨(fun _ => rfl), rfl, rfl, fun i _ => .inl rfl⟩) (fun _ => rfl) (fun _ => (Zpg true _))
  obtain ⟨v, ⟨hh0, _⟩, hc⟩ := hh
  exact ⟨v, hh0, hc⟩
theorem Zmf (p : Perceptron) (label : ByteArray) : Con Tryz.prog 55 [.ptr false [slS false p.Labels, Zbg false p.Weights], Sv label] true (I (Zaw p.Labels label)) := by
  refine Zdc (fn := Tryz.f55) (nt := 25) Tryz.func55 rfl rfl rfl rfl (by simp [Zah, Zak, Zdd, Zer]) fun B hB => ?_
  refine Zcg (x := .ptr false [slS false p.Labels, Zbg false p.Weights]) 0 rfl (fun len_p => ?_)
  simp [Zdt, Zgj, cI, cLI, cS, fI, fLI, fS, slI, Zbg, slS] at len_p
  refine aR [] [0, 1] [] [.ptr false [slS false p.Labels, Zbg false p.Weights], Sv label] [] [] hB trivial ?_
  refine Zal ?_
  refine aR [] [0, 1, 5] [] [.ptr false [slS false p.Labels, Zbg false p.Weights], Sv label, I 0] [] [] hB trivial ?_
  refine Zbo ?_
  refine Zdm (fun gn gσ => ∃ (i : Int), gn = ((p.Labels.length : Int) - i).toNat ∧ (0 ≤ i ∧ i ≤ (p.Labels.length : Int)) ∧ (∀ j : Nat, (j : Int) < i → ¬ at_ p.Labels j = label) ∧ gσ = mkS [(0, .ptr false [slS false p.Labels, Zbg false p.Weights]), (1, Sv label), (5, I i)] []) (((p.Labels.length : Int) - 0).toNat) ⟨0, rfl, (by omega), (by intro j hj; omega), rfl⟩ (fun gn gσ hI => ?_)
  obtain ⟨i, rfl, hi0, hne, rfl⟩ := hI
  refine Zal ?_
  refine Zal ?_
  by_cases h1 : i < (p.Labels.length : Int)
  ·have hi : i.toNat < p.Labels.length := by omega
   refine Zby [(6, .dec true)] [0, 1, 5, 12] [] [.ptr false [slS false p.Labels, Zbg false p.Weights], Sv label, I i, Bv true] [] [i < (p.Labels.length : Int)] hB ⟨h1, trivial⟩ ?_
   refine Zac ?_
   refine Zbc rfl ?_
   refine Zbf ?_
   refine Zac ?_
   refine Zal ?_
   refine Zbo ?_
   refine Zal ?_
   by_cases h2 : (at_ p.Labels i.toNat) = label
   ·have hfin : Zaw p.Labels label = i.toNat := Zex hi (decide_eq_true h2) (fun j hj => decide_eq_false (hne j (by omega)))
    refine Zby [(8, .dec true)] [0, 1, 5, 23] [] [.ptr false [slS false p.Labels, Zbg false p.Weights], Sv label, I i, Bv true] [] [(0 : Int) ≤ i ∧ i < (p.Labels.length : Int), (at_ p.Labels i.toNat) = label] hB ⟨⟨(by omega), (by omega)⟩, h2, trivial⟩ ?_
    refine Zac ?_
    refine Zbc rfl ?_
    refine aR [] [4] [] [I i] [] [] hB trivial ?_
    refine Zax ?_
    refine Zat (Zai (Zai (Zat (Zai ?_))))
    refine Zba hB (I i) (by kernel_rfl) (.inl (by refine congrArg I ?_; first | (rw [hfin]; done) | (rw [hfin]; omega))) rfl (fun _ => trivial)
   refine Zby [(8, .dec false)] [0, 1, 5, 23] [] [.ptr false [slS false p.Labels, Zbg false p.Weights], Sv label, I i, Bv false] [] [(0 : Int) ≤ i ∧ i < (p.Labels.length : Int), ¬ ((at_ p.Labels i.toNat) = label)] hB ⟨⟨(by omega), (by omega)⟩, h2, trivial⟩ ?_
   refine Zac ?_
   refine Zay rfl ?_
   refine Zbf ?_
   refine Zco 1 ?_
   refine Zac ?_
   refine Zby [] [0, 1, 5] [] [.ptr false [slS false p.Labels, Zbg false p.Weights], Sv label, I (i + 1)] [] [inR .i64 (i + 1)] hB ⟨(Zam (by omega) (by omega)), trivial⟩ ?_
   exact Zcr _ (by omega) ⟨(i + 1), rfl, (by omega), (by intro j hj; by_cases ej : j = i.toNat; (subst ej; assumption); exact hne j (by omega)), rfl⟩
  have hfin : Zaw p.Labels label = -1 := Zen (fun j hj => decide_eq_false (hne j (by omega)))
  refine Zby [(6, .dec false)] [0, 1, 5, 12] [] [.ptr false [slS false p.Labels, Zbg false p.Weights], Sv label, I i, Bv false] [] [¬ (i < (p.Labels.length : Int))] hB ⟨h1, trivial⟩ ?_
  refine Zac ?_
  refine Zay rfl ?_
  refine Zdn ?_
  refine Zas ?_
  refine Zas ?_
  refine Zbx ?_
  refine Zac ?_
  refine aR [] [4] [] [I (-1)] [] [] hB trivial ?_
  refine Zax ?_
  refine Zba hB (I (-1)) (by kernel_rfl) (.inl (by refine congrArg I ?_; first | (rw [hfin]; done) | (rw [hfin]; omega))) rfl (fun _ => trivial)
theorem Zuu (p : Perceptron) (xs : List Int) (hp : Zbb p = true) (hx : (∀ i, 0 ≤ at_ xs i ∧ at_ xs i ≤ 512) ∧ xs.length = 25) : ∃ (v : List Int), (v = scR p.Weights xs) ∧ Con Tryz.prog 58 [.ptr false [slS false p.Labels, Zbg false p.Weights], slI false xs] true (slI true v) := by
  have hq := Zcd.1 hp
  have hln := Zfi hq.1
  have hxl := hx.2
  have hh : ∃ r : (List Int), ((r = scR p.Weights xs) ∧ (True)) ∧ Zaz Tryz.prog 58 [.ptr false [slS false p.Labels, Zbg false p.Weights], slI false xs] (Zaf []) true (slI true r) (Zaf []) := by
    refine Zde (Φ := fun r : (List Int) => (r = scR p.Weights xs) ∧ (True)) [] (fun r => []) (fn := Tryz.f58) (nt := 47) Tryz.func58 rfl rfl (args := [.ptr false [slS false p.Labels, Zbg false p.Weights], slI false xs]) rfl (Zbw (.inl ⟨rfl, by simp [Zak, Zah, Zdd, Zer]⟩) (Zbw (.inl ⟨rfl, Zpg false _⟩) Zdb)) (res := fun r => slI true r) ?_
    refine xR [] [0, 1] [] [.ptr false [slS false p.Labels, Zbg false p.Weights], slI false xs] [] [] trivial ?_
    refine xR [(0, .new 9)] [0, 1, 5] [9] [.ptr false [slS false p.Labels, Zbg false p.Weights], slI false xs, .arr 9] [some (.arr 1 0 (Zcw [] 1))] [] trivial ?_
    refine Zap ?_
    refine xR [] [0, 1, 5, 6] [9] [.ptr false [slS false p.Labels, Zbg false p.Weights], slI false xs, .arr 9, I 0] [some (.arr 1 0 (Zcw [] 1))] [] trivial ?_
    refine Zbz ?_
    refine Zcz [] (T := [(0, .ptr false [slS false p.Labels, Zbg false p.Weights]), (1, slI false xs), (5, .arr 9), (6, I 0)]) (O := [(9, tAI ([] : List Int))]) rfl (⟨.inl rfl, .inl rfl, .inl rfl, .inl rfl, trivial⟩) (⟨.inr ⟨rfl, (by first | rfl | (simp; done) | (simp; omega) | omega), fun i_ hi_ => absurd hi_ (Nat.not_lt_zero _)⟩, trivial⟩) ?_
    refine Zeh (X := (List Int) × Int) (fun x => mkS [(0, .ptr false [slS false p.Labels, Zbg false p.Weights]), (1, slI false xs), (5, .arr 9), (6, I x.2)] [(9, tAI x.1)]) (fun x => (0 ≤ x.2 ∧ x.2 ≤ (p.Weights.length : Int)) ∧ (x.1 = (p.Weights.take x.2.toNat).map fun r => scT r xs 25) ∧ ((x.1.length : Int) = x.2) ∧ True) (fun x => ((p.Weights.length : Int) - x.2).toNat) (([] : List Int), 0) rfl (show (0 ≤ (0 : Int) ∧ (0 : Int) ≤ (p.Weights.length : Int)) ∧ (([] : List Int) = (p.Weights.take (0 : Int).toNat).map fun r => scT r xs 25) ∧ ((([] : List Int).length : Int) = (0 : Int)) ∧ True from ⟨(by omega), (by rfl), (by rfl), trivial⟩) (fun x hI => ?_)
    obtain ⟨out, i⟩ := x
    obtain ⟨hi0, hsc, hsl, _⟩ : (0 ≤ i ∧ i ≤ (p.Weights.length : Int)) ∧ (out = (p.Weights.take i.toNat).map fun r => scT r xs 25) ∧ ((out.length : Int) = i) ∧ True := hI
    show XW _ _ _ _ (mkS [(0, .ptr false [slS false p.Labels, Zbg false p.Weights]), (1, slI false xs), (5, .arr 9), (6, I i)] [(9, tAI out)]) _ _
    refine Zap ?_
    refine Zap ?_
    by_cases h1 : i < (p.Weights.length : Int)
    ·have hi : i.toNat < p.Weights.length := by omega
     have hr := Zcu hq.2.2 hi
     refine x_r [(6, .dec true)] [0, 1, 5, 6, 16] [9] [.ptr false [slS false p.Labels, Zbg false p.Weights], slI false xs, .arr 9, I i, Bv true] [some (tAI out)] [i < (p.Weights.length : Int)] ⟨h1, trivial⟩ ?_
     refine Zab ?_
     refine Zbq rfl ?_
     refine Zca ?_
     refine Zab ?_
     refine Zap ?_
     refine Zbz ?_
     refine xR [] [0, 1, 5, 6, 7] [9] [.ptr false [slS false p.Labels, Zbg false p.Weights], slI false xs, .arr 9, I i, I 0] [some (tAI out)] [] trivial ?_
     refine Zap ?_
     refine xR [] [0, 1, 5, 6, 7, 8] [9] [.ptr false [slS false p.Labels, Zbg false p.Weights], slI false xs, .arr 9, I i, I 0, I 0] [some (tAI out)] [] trivial ?_
     refine Zbz ?_
     refine Zeh (X := Int × Int) (fun x => mkS [(0, .ptr false [slS false p.Labels, Zbg false p.Weights]), (1, slI false xs), (5, .arr 9), (6, I i), (7, I x.1), (8, I x.2)] [(9, tAI out)]) (fun x => (0 ≤ x.2 ∧ x.2 ≤ 25) ∧ (x.1 = scT (at_ p.Weights i.toNat) xs x.2.toNat) ∧ True) (fun x => ((25 : Int) - x.2).toNat) (0, 0) rfl (show (0 ≤ (0 : Int) ∧ (0 : Int) ≤ 25) ∧ ((0 : Int) = scT (at_ p.Weights i.toNat) xs (0 : Int).toNat) ∧ True from ⟨(by omega), (by rfl), trivial⟩) (fun x hI => ?_)
     obtain ⟨sum, k⟩ := x
     obtain ⟨hk0, hsum, _⟩ : (0 ≤ k ∧ k ≤ 25) ∧ (sum = scT (at_ p.Weights i.toNat) xs k.toNat) ∧ True := hI
     show XW _ _ _ _ (mkS [(0, .ptr false [slS false p.Labels, Zbg false p.Weights]), (1, slI false xs), (5, .arr 9), (6, I i), (7, I sum), (8, I k)] [(9, tAI out)]) _ _
     refine Zap ?_
     refine Zap ?_
     by_cases h2 : k < (xs.length : Int)
     ·have hk : k.toNat < 25 := by omega
      have hrk := hr.2 k.toNat hk
      have hxk := hx.1 k.toNat
      have hmx := Zwt hrk hxk
      have hsb := Zyp hr.2 hx.1 k.toNat (by omega)
      refine x_r [(3, .dec true)] [0, 1, 5, 6, 7, 8, 22] [9] [.ptr false [slS false p.Labels, Zbg false p.Weights], slI false xs, .arr 9, I i, I sum, I k, Bv true] [some (tAI out)] [k < (xs.length : Int)] ⟨h2, trivial⟩ ?_
      refine Zab ?_
      refine Zbq rfl ?_
      refine Zca ?_
      refine Zab ?_
      refine Zap ?_
      refine Zbz ?_
      refine x_r [] [0, 1, 5, 6, 7, 8] [9] [.ptr false [slS false p.Labels, Zbg false p.Weights], slI false xs, .arr 9, I i, I (sum + ((at_ (at_ p.Weights i.toNat) k.toNat) * (at_ xs k.toNat))), I k] [some (tAI out)] [(0 : Int) ≤ i ∧ i < (p.Weights.length : Int), (0 : Int) ≤ k ∧ k < (((at_ p.Weights i.toNat).length) : Int), (0 : Int) ≤ k ∧ k < (xs.length : Int), inR .i64 ((at_ (at_ p.Weights i.toNat) k.toNat) * (at_ xs k.toNat)), inR .i64 (sum + ((at_ (at_ p.Weights i.toNat) k.toNat) * (at_ xs k.toNat)))] ⟨⟨(by omega), (by omega)⟩, ⟨(by omega), (by omega)⟩, ⟨(by omega), (by omega)⟩, (Zam (by omega) (by omega)), (Zam (by omega) (by omega)), trivial⟩ ?_
      refine Zbr 3 ?_
      refine Zab ?_
      refine x_r [] [0, 1, 5, 6, 7, 8] [9] [.ptr false [slS false p.Labels, Zbg false p.Weights], slI false xs, .arr 9, I i, I (sum + ((at_ (at_ p.Weights i.toNat) k.toNat) * (at_ xs k.toNat))), I (k + 1)] [some (tAI out)] [inR .i64 (k + 1)] ⟨(Zam (by omega) (by omega)), trivial⟩ ?_
      exact Zcj ((sum + ((at_ (at_ p.Weights i.toNat) k.toNat) * (at_ xs k.toNat))), (k + 1)) rfl (show (0 ≤ (k + 1) ∧ (k + 1) ≤ 25) ∧ ((sum + ((at_ (at_ p.Weights i.toNat) k.toNat) * (at_ xs k.toNat))) = scT (at_ p.Weights i.toNat) xs (k + 1).toNat) ∧ True from ⟨(by omega), (by rw [scT_1 hk0.1, ← hsum]), trivial⟩) (by first | (show (((25 : Int) - (k + 1)).toNat : Nat) < ((25 : Int) - k).toNat; omega) | (dsimp only; omega))
     have hie2 : k.toNat = 25 := by omega
     rw [hie2] at hsum
     refine x_r [(3, .dec false)] [0, 1, 5, 6, 7, 8, 22] [9] [.ptr false [slS false p.Labels, Zbg false p.Weights], slI false xs, .arr 9, I i, I sum, I k, Bv false] [some (tAI out)] [¬ (k < (xs.length : Int))] ⟨h2, trivial⟩ ?_
     refine Zab ?_
     refine Zbe rfl ?_
     refine Zeg ?_
     refine Zbs ?_
     refine Zbu ?_
     refine Zbt ?_
     refine Zab ?_
     refine x_r [(2, .new 44), (3, .new 45)] [0, 1, 5, 6] [45] [.ptr false [slS false p.Labels, Zbg false p.Weights], slI false xs, .arr 45, I i] [some (.arr 1 (out.length + 1) (Zdf out.length (fI out) (Zcw [I sum] 1)))] [(out.length + 1) * 8 ≤ 140737488355328] ⟨(by omega), trivial⟩ ?_
     refine Zbr 1 ?_
     refine Zab ?_
     refine x_r [] [0, 1, 5, 6] [45] [.ptr false [slS false p.Labels, Zbg false p.Weights], slI false xs, .arr 45, I (i + 1)] [some (.arr 1 (out.length + 1) (Zdf out.length (fI out) (Zcw [I sum] 1)))] [inR .i64 (i + 1)] ⟨(Zam (by omega) (by omega)), trivial⟩ ?_
     refine Zcx [(9, 45)] (T := [(0, .ptr false [slS false p.Labels, Zbg false p.Weights]), (1, slI false xs), (5, .arr 9), (6, I (i + 1))]) (O := [(9, tAI (out ++ [sum]))]) rfl (⟨.inl rfl, .inl rfl, .inl rfl, .inl rfl, trivial⟩) (⟨.inr ⟨rfl, (by first | rfl | (simp; done) | (simp; omega) | omega), fun i_ hi_ => .inl (Zee (enc := cI) (xs := out) rfl i_ hi_)⟩, trivial⟩) (Zcj ((out ++ [sum]), (i + 1)) rfl (show (0 ≤ (i + 1) ∧ (i + 1) ≤ (p.Weights.length : Int)) ∧ ((out ++ [sum]) = (p.Weights.take (i + 1).toNat).map fun r => scT r xs 25) ∧ (((out ++ [sum]).length : Int) = (i + 1)) ∧ True from ⟨(by omega), (by rw [Zyr hi0.1 hi, ← hsc, ← hsum]), (by simp; omega), trivial⟩) (by first | (show (((p.Weights.length : Int) - (i + 1)).toNat : Nat) < ((p.Weights.length : Int) - i).toNat; omega) | (dsimp only; omega)))
    have hie : i.toNat = p.Weights.length := by omega
    rw [hie, List.take_of_length_le (Nat.le_refl _)] at hsc
    refine x_r [(6, .dec false)] [0, 1, 5, 6, 16] [9] [.ptr false [slS false p.Labels, Zbg false p.Weights], slI false xs, .arr 9, I i, Bv false] [some (tAI out)] [¬ (i < (p.Weights.length : Int))] ⟨h1, trivial⟩ ?_
    refine Zab ?_
    refine Zbe rfl ?_
    refine Zeg ?_
    refine Zbs ?_
    refine Zbu ?_
    refine Zbt ?_
    refine Zab ?_
    refine xR [] [4] [9] [.arr 9] [some (tAI out)] [] trivial ?_
    refine Zcf ?_
    refine Zbn out (show (out = scR p.Weights xs) ∧ (True) from ⟨(by exact hsc), trivial⟩) (trivial) (.arr 9) (by kernel_rfl) (.inr ⟨(fun _ => rfl), rfl, rfl, fun i _ => .inl rfl⟩) (fun _ => rfl) (fun _ => (Zpg true _))
  obtain ⟨v, ⟨hh0, _⟩, hc⟩ := hh
  exact ⟨v, hh0, hc⟩
theorem Zzz (list : List Int) (hl : 1 ≤ list.length) : Con Tryz.prog 57 [slI false list] true (I (Zbk list)) := by
  refine Zdc (fn := Tryz.f57) (nt := 22) Tryz.func57 rfl rfl rfl rfl (by simp [Zah, Zak, Zpg]) fun B hB => ?_
  refine Zcg (x := slI false list) 0 rfl (fun len_list => ?_)
  simp [Zdt, Zgj, cI, fI, slI] at len_list
  refine aR [] [0] [] [slI false list] [] [] hB trivial ?_
  refine aR [] [0, 3] [] [slI false list, I 0] [] [] hB trivial ?_
  refine Zal ?_
  refine aR [] [0, 3, 4] [] [slI false list, I 0, I 1] [] [] hB trivial ?_
  refine Zbo ?_
  refine Zdm (fun gn gσ => ∃ (best : Int) (i : Int), gn = ((list.length : Int) - i).toNat ∧ (1 ≤ i ∧ i ≤ (list.length : Int)) ∧ (best = bst list i.toNat) ∧ (0 ≤ best ∧ best < (list.length : Int)) ∧ gσ = mkS [(0, slI false list), (3, I best), (4, I i)] []) (((list.length : Int) - 1).toNat) ⟨0, 1, rfl, (by omega), (by exact (bst_one list).symm), (by omega), rfl⟩ (fun gn gσ hI => ?_)
  obtain ⟨best, i, rfl, hi0, hb0, hbb, rfl⟩ := hI
  refine Zal ?_
  refine Zal ?_
  by_cases h1 : i < (list.length : Int)
  ·have hi : i.toNat < list.length := by omega
   have hbo := Zvb list i.toNat
   refine Zby [(3, .dec true)] [0, 3, 4, 8] [] [slI false list, I best, I i, Bv true] [] [i < (list.length : Int)] hB ⟨h1, trivial⟩ ?_
   refine Zac ?_
   refine Zbc rfl ?_
   refine Zbf ?_
   refine Zac ?_
   refine Zal ?_
   refine Zbo ?_
   refine Zal ?_
   by_cases h2 : (at_ list best.toNat) < (at_ list i.toNat)
   ·refine Zby [(8, .dec true)] [0, 3, 4, 19] [] [slI false list, I best, I i, Bv true] [] [(0 : Int) ≤ i ∧ i < (list.length : Int), (0 : Int) ≤ best ∧ best < (list.length : Int), (at_ list best.toNat) < (at_ list i.toNat)] hB ⟨⟨(by omega), (by omega)⟩, ⟨(by omega), (by omega)⟩, h2, trivial⟩ ?_
    refine Zac ?_
    refine Zbc rfl ?_
    refine Zby [] [0, 3, 4] [] [slI false list, I i, I i] [] [] hB trivial ?_
    refine Zco 1 ?_
    refine Zac ?_
    refine Zby [] [0, 3, 4] [] [slI false list, I i, I (i + 1)] [] [inR .i64 (i + 1)] hB ⟨(Zam (by omega) (by omega)), trivial⟩ ?_
    exact Zcr _ (by omega) ⟨i, (i + 1), rfl, (by omega), (by first | (rw [bst_1 (by omega), ← hb0, if_pos (by assumption)]; done) | (rw [bst_1 (by omega), ← hb0, if_neg (by assumption)])), (by omega), rfl⟩
   refine Zby [(8, .dec false)] [0, 3, 4, 19] [] [slI false list, I best, I i, Bv false] [] [(0 : Int) ≤ i ∧ i < (list.length : Int), (0 : Int) ≤ best ∧ best < (list.length : Int), ¬ ((at_ list best.toNat) < (at_ list i.toNat))] hB ⟨⟨(by omega), (by omega)⟩, ⟨(by omega), (by omega)⟩, h2, trivial⟩ ?_
   refine Zac ?_
   refine Zay rfl ?_
   refine Zbf ?_
   refine Zco 1 ?_
   refine Zac ?_
   refine Zby [] [0, 3, 4] [] [slI false list, I best, I (i + 1)] [] [inR .i64 (i + 1)] hB ⟨(Zam (by omega) (by omega)), trivial⟩ ?_
   exact Zcr _ (by omega) ⟨best, (i + 1), rfl, (by omega), (by first | (rw [bst_1 (by omega), ← hb0, if_pos (by assumption)]; done) | (rw [bst_1 (by omega), ← hb0, if_neg (by assumption)])), (by omega), rfl⟩
  have hie : i.toNat = list.length := by omega
  rw [hie] at hb0
  refine Zby [(3, .dec false)] [0, 3, 4, 8] [] [slI false list, I best, I i, Bv false] [] [¬ (i < (list.length : Int))] hB ⟨h1, trivial⟩ ?_
  refine Zac ?_
  refine Zay rfl ?_
  refine Zdn ?_
  refine Zas ?_
  refine Zas ?_
  refine Zbx ?_
  refine Zac ?_
  refine aR [] [2] [] [I best] [] [] hB trivial ?_
  refine Zax ?_
  refine Zba hB (I best) (by kernel_rfl) (.inl (by exact congrArg I hb0)) rfl (fun _ => trivial)
theorem Zew (p : Perceptron) (ok : ∀ y ∈ p.Labels, y.size ≤ 9223372036854775807) : Con Tryz.prog 35 [.ptr false [slS false p.Labels, Zbg false p.Weights]] true (Bv (Zbb p)) := by
  refine Zdc (fn := Tryz.f35) (nt := 58) Tryz.func35 rfl rfl rfl rfl (by simp [Zah, Zak, Zdd, Zer]) fun B hB => ?_
  refine Zcg (x := .ptr false [slS false p.Labels, Zbg false p.Weights]) 0 rfl (fun len_p => ?_)
  simp [Zdt, Zgj, cI, cLI, cS, fI, fLI, fS, slI, Zbg, slS] at len_p
  refine aR [] [0] [] [.ptr false [slS false p.Labels, Zbg false p.Weights]] [] [] hB trivial ?_
  refine Zal ?_
  refine Zal ?_
  rcases Bool.eq_false_or_eq_true (Zce p.Labels) with h1 | h1
  ·have hol := h1
   by_cases h2 : (p.Weights.length : Int) = (p.Labels.length : Int)
   ·have hll : p.Weights.length = p.Labels.length := by omega
    refine Zby [(4, .call [(true, .any)] true (Bv true)), (17, .dec false)] [0, 23] [] [.ptr false [slS false p.Labels, Zbg false p.Weights], Bv false] [] [Con Tryz.prog 73 [slS false p.Labels] true (Bv true) ∧ True, ¬ ((p.Weights.length : Int) ≠ (p.Labels.length : Int))] hB ⟨⟨(Zaq h1 (Zgh p.Labels ok)), trivial⟩, (fun hq => hq h2), trivial⟩ ?_
    refine Zac ?_
    refine Zay rfl ?_
    refine Zbf ?_
    refine Zac ?_
    refine Zal ?_
    refine aR [] [0, 3] [] [.ptr false [slS false p.Labels, Zbg false p.Weights], I 0] [] [] hB trivial ?_
    refine Zbo ?_
    refine Zdm (fun gn gσ => ∃ (i : Int), gn = ((p.Weights.length : Int) - i).toNat ∧ (0 ≤ i ∧ i ≤ (p.Weights.length : Int)) ∧ (∀ j : Nat, (j : Int) < i → Zfl (at_ p.Weights j) = true) ∧ gσ = mkS [(0, .ptr false [slS false p.Labels, Zbg false p.Weights]), (3, I i)] []) (((p.Weights.length : Int) - 0).toNat) ⟨0, rfl, (by omega), (by intro j hj; omega), rfl⟩ (fun gn gσ hI => ?_)
    obtain ⟨i, rfl, hi0, hall0, rfl⟩ := hI
    refine Zal ?_
    refine Zal ?_
    by_cases h3 : i < (p.Weights.length : Int)
    ·have hi : i.toNat < p.Weights.length := by omega
     refine Zby [(6, .dec true)] [0, 3, 30] [] [.ptr false [slS false p.Labels, Zbg false p.Weights], I i, Bv true] [] [i < (p.Weights.length : Int)] hB ⟨h3, trivial⟩ ?_
     refine Zac ?_
     refine Zbc rfl ?_
     refine Zbf ?_
     refine Zac ?_
     refine Zal ?_
     refine Zbo ?_
     refine Zal ?_
     refine Zal ?_
     by_cases h4 : (((at_ p.Weights i.toNat).length) : Int) = 25
     ·have hrl : (at_ p.Weights i.toNat).length = 25 := by omega
      refine Zby [(8, .dec false)] [0, 3, 41] [] [.ptr false [slS false p.Labels, Zbg false p.Weights], I i, Bv false] [] [(0 : Int) ≤ i ∧ i < (p.Weights.length : Int), ¬ ((((at_ p.Weights i.toNat).length) : Int) ≠ 25)] hB ⟨⟨(by omega), (by omega)⟩, (fun hq => hq h4), trivial⟩ ?_
      refine Zac ?_
      refine Zay rfl ?_
      refine Zbf ?_
      refine Zac ?_
      refine aR [] [0, 3, 4] [] [.ptr false [slS false p.Labels, Zbg false p.Weights], I i, I 0] [] [] hB trivial ?_
      refine Zbo ?_
      refine Zdm (fun gn gσ => ∃ (k : Int), gn = ((25 : Int) - k).toNat ∧ (0 ≤ k ∧ k ≤ 25) ∧ (∀ j : Nat, (j : Int) < k → okW (at_ (at_ p.Weights i.toNat) j) = true) ∧ gσ = mkS [(0, .ptr false [slS false p.Labels, Zbg false p.Weights]), (3, I i), (4, I k)] []) (((25 : Int) - 0).toNat) ⟨0, rfl, (by omega), (by intro j hj; omega), rfl⟩ (fun gn gσ hI => ?_)
      obtain ⟨k, rfl, hk0, hrow0, rfl⟩ := hI
      refine Zal ?_
      refine Zal ?_
      by_cases h5 : k < 25
      ·have hk : k.toNat < (at_ p.Weights i.toNat).length := by omega
       refine Zby [(1, .dec true)] [0, 3, 4, 43] [] [.ptr false [slS false p.Labels, Zbg false p.Weights], I i, I k, Bv true] [] [k < 25] hB ⟨h5, trivial⟩ ?_
       refine Zac ?_
       refine Zbc rfl ?_
       refine Zbf ?_
       refine Zac ?_
       refine Zal ?_
       refine Zbo ?_
       refine Zal ?_
       rcases Bool.eq_false_or_eq_true (inB (at_ (at_ p.Weights i.toNat) k.toNat) (-1000000) 1000000) with h6 | h6
       ·have hok2 := h6
        refine Zby [(10, .call [(true, .any), (true, .any), (true, .any)] true (Bv true))] [0, 3, 4, 57] [] [.ptr false [slS false p.Labels, Zbg false p.Weights], I i, I k, Bv false] [] [(0 : Int) ≤ i ∧ i < (p.Weights.length : Int), (0 : Int) ≤ k ∧ k < (((at_ p.Weights i.toNat).length) : Int), Con Tryz.prog 74 [I (at_ (at_ p.Weights i.toNat) k.toNat), I (-1000000), I 1000000] true (Bv true) ∧ True] hB ⟨⟨(by omega), (by omega)⟩, ⟨(by omega), (by omega)⟩, ⟨(Zaq h6 (Zfy (at_ (at_ p.Weights i.toNat) k.toNat) (-1000000) 1000000)), trivial⟩, trivial⟩ ?_
        refine Zac ?_
        refine Zay rfl ?_
        refine Zbf ?_
        refine Zco 3 ?_
        refine Zac ?_
        refine Zby [] [0, 3, 4] [] [.ptr false [slS false p.Labels, Zbg false p.Weights], I i, I (k + 1)] [] [inR .i64 (k + 1)] hB ⟨(Zam (by omega) (by omega)), trivial⟩ ?_
        exact Zcr _ (by omega) ⟨(k + 1), rfl, (by omega), (by intro j hj; by_cases ej : j = k.toNat; (subst ej; exact hok2); exact hrow0 j (by omega)), rfl⟩
       have hst : Zbb p = false := by unfold Zbb; rw [Zva hi (by unfold Zfl; rw [Zfx hk (show okW _ = false from h6)]; simp)]; simp
       refine Zby [(10, .call [(true, .any), (true, .any), (true, .any)] true (Bv false))] [0, 3, 4, 57] [] [.ptr false [slS false p.Labels, Zbg false p.Weights], I i, I k, Bv true] [] [(0 : Int) ≤ i ∧ i < (p.Weights.length : Int), (0 : Int) ≤ k ∧ k < (((at_ p.Weights i.toNat).length) : Int), Con Tryz.prog 74 [I (at_ (at_ p.Weights i.toNat) k.toNat), I (-1000000), I 1000000] true (Bv false) ∧ True] hB ⟨⟨(by omega), (by omega)⟩, ⟨(by omega), (by omega)⟩, ⟨(Zaq h6 (Zfy (at_ (at_ p.Weights i.toNat) k.toNat) (-1000000) 1000000)), trivial⟩, trivial⟩ ?_
       refine Zac ?_
       refine Zbc rfl ?_
       refine aR [] [2] [] [Bv false] [] [] hB trivial ?_
       refine Zax ?_
       refine Zat (Zai (Zai (Zat (Zat (Zai (Zai (Zat (Zai ?_))))))))
       refine Zba hB (Bv false) (by kernel_rfl) (.inl (by exact congrArg Bv hst.symm)) rfl (fun _ => trivial)
      have hok : Zfl (at_ p.Weights i.toNat) = true := by unfold Zfl; rw [decide_eq_true (by omega), Zff (fun j hj => hrow0 j (by omega))]; rfl
      refine Zby [(1, .dec false)] [0, 3, 4, 43] [] [.ptr false [slS false p.Labels, Zbg false p.Weights], I i, I k, Bv false] [] [¬ (k < 25)] hB ⟨h5, trivial⟩ ?_
      refine Zac ?_
      refine Zay rfl ?_
      refine Zdn ?_
      refine Zas ?_
      refine Zas ?_
      refine Zbx ?_
      refine Zco 1 ?_
      refine Zac ?_
      refine Zby [] [0, 3] [] [.ptr false [slS false p.Labels, Zbg false p.Weights], I (i + 1)] [] [inR .i64 (i + 1)] hB ⟨(Zam (by omega) (by omega)), trivial⟩ ?_
      exact Zcr _ (by omega) ⟨(i + 1), rfl, (by omega), (by intro j hj; by_cases ej : j = i.toNat; (subst ej; exact hok); exact hall0 j (by omega)), rfl⟩
     have hst : Zbb p = false := by unfold Zbb; rw [Zva hi (Bool.eq_false_iff.2 fun q => h4 (by have := (Zlm.1 q).1; omega))]; simp
     refine Zby [(8, .dec true)] [0, 3, 41] [] [.ptr false [slS false p.Labels, Zbg false p.Weights], I i, Bv true] [] [(0 : Int) ≤ i ∧ i < (p.Weights.length : Int), (((at_ p.Weights i.toNat).length) : Int) ≠ 25] hB ⟨⟨(by omega), (by omega)⟩, h4, trivial⟩ ?_
     refine Zac ?_
     refine Zbc rfl ?_
     refine aR [] [2] [] [Bv false] [] [] hB trivial ?_
     refine Zax ?_
     refine Zai (Zat (Zai (Zai (Zat (Zai ?_)))))
     refine Zba hB (Bv false) (by kernel_rfl) (.inl (by exact congrArg Bv hst.symm)) rfl (fun _ => trivial)
    have hst : Zbb p = true := Zvc hol hll (Zff fun j hj => hall0 j (by omega))
    refine Zby [(6, .dec false)] [0, 3, 30] [] [.ptr false [slS false p.Labels, Zbg false p.Weights], I i, Bv false] [] [¬ (i < (p.Weights.length : Int))] hB ⟨h3, trivial⟩ ?_
    refine Zac ?_
    refine Zay rfl ?_
    refine Zdn ?_
    refine Zas ?_
    refine Zas ?_
    refine Zbx ?_
    refine Zac ?_
    refine aR [] [2] [] [Bv true] [] [] hB trivial ?_
    refine Zax ?_
    refine Zba hB (Bv true) (by kernel_rfl) (.inl (by exact congrArg Bv hst.symm)) rfl (fun _ => trivial)
   have hst : Zbb p = false := by unfold Zbb; rw [decide_eq_false h2]; simp
   refine Zby [(4, .call [(true, .any)] true (Bv true)), (17, .dec true)] [0, 23] [] [.ptr false [slS false p.Labels, Zbg false p.Weights], Bv true] [] [Con Tryz.prog 73 [slS false p.Labels] true (Bv true) ∧ True, (p.Weights.length : Int) ≠ (p.Labels.length : Int)] hB ⟨⟨(Zaq h1 (Zgh p.Labels ok)), trivial⟩, h2, trivial⟩ ?_
   refine Zac ?_
   refine Zbc rfl ?_
   refine aR [] [2] [] [Bv false] [] [] hB trivial ?_
   refine Zax ?_
   refine Zai ?_
   refine Zba hB (Bv false) (by kernel_rfl) (.inl (by exact congrArg Bv hst.symm)) rfl (fun _ => trivial)
  have hst : Zbb p = false := by unfold Zbb; rw [h1]; rfl
  refine Zby [(4, .call [(true, .any)] true (Bv false))] [0, 23] [] [.ptr false [slS false p.Labels, Zbg false p.Weights], Bv true] [] [Con Tryz.prog 73 [slS false p.Labels] true (Bv false) ∧ True] hB ⟨⟨(Zaq h1 (Zgh p.Labels ok)), trivial⟩, trivial⟩ ?_
  refine Zac ?_
  refine Zbc rfl ?_
  refine aR [] [2] [] [Bv false] [] [] hB trivial ?_
  refine Zax ?_
  refine Zai ?_
  refine Zba hB (Bv false) (by kernel_rfl) (.inl (by exact congrArg Bv hst.symm)) rfl (fun _ => trivial)
end Go.Proofs.YtblhhmcplocepaaGreatDoor.Ax
