/- Contracts that the statement FnFound reaches, part 1. No conditions. -/
import Derived.Test.YtdinloamhmdgjaaGreatDoorAxO
import Derived.Test.YtdinloamhmdgjaaGreatDoorShelf
import Derived.Test.YtdinloamhmdgjaaGreatDoorTie
import Derived.Test.YtdinloamhmdgjaaGreatDoorCards
import Derived.LaidMore
import Derived.Lay
import Derived.Lib.IndexBytes
import Derived.Lib.ItoaNum
import Derived.Lib.ParseIntBCases
import Derived.Lib.SplitLaws
import Derived.OpenShut
import Derived.SevenTiedAt
import Derived.Stop.Joined
import Derived.Test.YtdinloamhmdgjaaGreatDoorAxBd
import Derived.Test.YtdinloamhmdgjaaGreatDoorAxIN
import Derived.Test.YtdinloamhmdgjaaGreatDoorAxR
import Derived.Test.YtdinloamhmdgjaaGreatDoorAxS
import Derived.Test.YtdinloamhmdgjaaGreatDoorAxSF
import Derived.Test.YtdinloamhmdgjaaGreatDoorAxVc
import Derived.Test.YtdinloamhmdgjaaGreatDoorSfFndShelf
import Derived.Test.YtdinloamhmdgjaaGreatDoorSfRdgShelf
namespace Go.Proofs.YtdinloamhmdgjaaGreatDoor.Ax
open Go.RowKit Go.ChangeShapes Go.WideShapes
set_option linter.unusedVariables false
set_option linter.unusedSimpArgs false
def cU8 (x : Int) : List AV := [.val (.int .u8 x)]
def fU8 (xs : List Int) (i : Nat) : List AV := cU8 (at_ xs i)
def Zdf (fr : Bool) (xs : List Int) : AV := .sl fr 1 xs.length (fU8 xs)
theorem tagcU8 (t : Bool) (x : Int) : Zaj t (cU8 x) := by simp [cU8, Zaj, Zan]
theorem Zgz (t : Bool) (xs : List Int) : Zan t (Zdf t xs) := by simp only [Zdf, Zan]; exact ⟨trivial, fun i _ => tagcU8 t _⟩
def cI (x : Int) : List AV := [I x]
def fI (xs : List Int) (i : Nat) : List AV := cI (at_ xs i)
def slI (fr : Bool) (xs : List Int) : AV := .sl fr 1 xs.length (fI xs)
theorem tagcI (t : Bool) (x : Int) : Zaj t (cI x) := by simp [cI, Zaj, Zan]
theorem tagI (t : Bool) (xs : List Int) : Zan t (slI t xs) := by simp only [slI, Zan]; exact ⟨trivial, fun i _ => tagcI t _⟩
abbrev tAI (xs : List Int) : Ob := .arr 1 xs.length (fI xs)
def cS (x : ByteArray) : List AV := [Sv x]
def fS (xs : List ByteArray) (i : Nat) : List AV := cS (at_ xs i)
def slS (fr : Bool) (xs : List ByteArray) : AV := .sl fr 1 xs.length (fS xs)
theorem tagcS (t : Bool) (x : ByteArray) : Zaj t (cS x) := by simp [cS, Zaj, Zan]
theorem tagS (t : Bool) (xs : List ByteArray) : Zan t (slS t xs) := by simp only [slS, Zan]; exact ⟨trivial, fun i _ => tagcS t _⟩
structure Edge where
  From : Int
  To : Int
  Label : ByteArray
  Cost : Int
deriving DecidableEq, Inhabited
def Zie (x : Edge) : List AV := [I x.From, I x.To, Sv x.Label, I x.Cost]
def Zcv (xs : List Edge) (i : Nat) : List AV := Zie (at_ xs i)
def Zag (fr : Bool) (xs : List Edge) : AV := .sl fr 4 xs.length (Zcv xs)
theorem tagcEdge (t : Bool) (x : Edge) : Zaj t (Zie x) := by simp [Zie, Zaj, Zan]
theorem Zdv (t : Bool) (xs : List Edge) : Zan t (Zag t xs) := by simp only [Zag, Zan]; exact ⟨trivial, fun i _ => tagcEdge t _⟩
abbrev Zbj (x : Edge) : Ob := .box [I x.From, I x.To, Sv x.Label, I x.Cost]
abbrev Zgj (x : Edge) : AV := .agg [I x.From, I x.To, Sv x.Label, I x.Cost]
structure Lattice where
  Nodes : Int
  Edges : List Edge
deriving DecidableEq, Inhabited
abbrev Zac (x : Lattice) : Ob := .box [I x.Nodes, Zag false x.Edges]
abbrev Zbh (x : Lattice) : AV := .agg [I x.Nodes, Zag false x.Edges]
abbrev Zak (x : Lattice) : Ob := .box [I x.Nodes, Zag true x.Edges]
abbrev Zcn (x : Lattice) : AV := .agg [I x.Nodes, Zag true x.Edges]
structure Entry where
  Word : ByteArray
  Cost : Int
deriving DecidableEq, Inhabited
def Zej (x : Entry) : List AV := [Sv x.Word, I x.Cost]
def Zap (xs : List Entry) (i : Nat) : List AV := Zej (at_ xs i)
def Zaa (fr : Bool) (xs : List Entry) : AV := .sl fr 2 xs.length (Zap xs)
theorem Zmt (t : Bool) (x : Entry) : Zaj t (Zej x) := by simp [Zej, Zaj, Zan]
theorem Zcf (t : Bool) (xs : List Entry) : Zan t (Zaa t xs) := by simp only [Zaa, Zan]; exact ⟨trivial, fun i _ => Zmt t _⟩
abbrev Zcy (x : Entry) : Ob := .box [Sv x.Word, I x.Cost]
abbrev Zgo (x : Entry) : AV := .agg [Sv x.Word, I x.Cost]
abbrev Zbl (xs : List Entry) : Ob := .arr 2 xs.length (Zap xs)
structure Lexicon where
  Entries : List Entry
deriving DecidableEq, Inhabited
def cLU8 (fr : Bool) (x : List Int) : List AV := [Zdf fr x]
structure l00Src where
  code : List Int
  atx : Int
  seed : Int
deriving DecidableEq, Inhabited
abbrev Zab (x : l00Src) : Ob := .box [Zdf false x.code, I x.atx, .val (.int .u64 x.seed)]
structure Reading where
  Text : ByteArray
  Cost : Int
deriving DecidableEq, Inhabited
def Zhz (x : Reading) : List AV := [Sv x.Text, I x.Cost]
def Zeg (xs : List Reading) (i : Nat) : List AV := Zhz (at_ xs i)
def Zas (fr : Bool) (xs : List Reading) : AV := .sl fr 2 xs.length (Zeg xs)
theorem Zhf (t : Bool) (x : Reading) : Zaj t (Zhz x) := by simp [Zhz, Zaj, Zan]
theorem Zoi (t : Bool) (xs : List Reading) : Zan t (Zas t xs) := by simp only [Zas, Zan]; exact ⟨trivial, fun i _ => Zhf t _⟩
abbrev Zdk (x : Reading) : Ob := .box [Sv x.Text, I x.Cost]
abbrev Zai (xs : List Reading) : Ob := .arr 2 xs.length (Zeg xs)
structure Bigram where
  First : ByteArray
  Second : ByteArray
  Cost : Int
deriving DecidableEq, Inhabited
structure Model where
  Default : Int
  Bigrams : List Bigram
deriving DecidableEq, Inhabited
structure Found where
  Word : ByteArray
  Path : Int
  Own : Int
deriving DecidableEq, Inhabited
def Ztf (x : Found) : List AV := [Sv x.Word, I x.Path, I x.Own]
def Zos (xs : List Found) (i : Nat) : List AV := Ztf (at_ xs i)
def Zbc (fr : Bool) (xs : List Found) : AV := .sl fr 3 xs.length (Zos xs)
theorem Ztg (t : Bool) (x : Found) : Zaj t (Ztf x) := by simp [Ztf, Zaj, Zan]
theorem Zwq (t : Bool) (xs : List Found) : Zan t (Zbc t xs) := by simp only [Zbc, Zan]; exact ⟨trivial, fun i _ => Ztg t _⟩
abbrev Zdg (xs : List Found) : Ob := .arr 3 xs.length (Zos xs)
structure wordAt where
  word : ByteArray
  cost : Int
deriving DecidableEq, Inhabited
def Ybz (fr : Bool) (x : List Reading) : List AV := [Zas fr x]
def Zjh (fr : Bool) (xs : List (List Reading)) (i : Nat) : List AV := Ybz fr (at_ xs i)
theorem Zre (code : List Int) (more : List Int) : Con Tryz.prog 6 [Zdf false code, Zdf false more] true (Bv (decide (3000 < (code.length : Int) ∨ 3000 < (more.length : Int)))) := by
  refine Zeb (fn := Tryz.f6) (nt := 13) Tryz.func6 rfl rfl rfl rfl (by simp [Zaj, Zan, Zgz]) fun B hB => ?_
  refine Zea (x := Zdf false code) 0 rfl (fun len_code => ?_)
  simp [Zfx, Zkq, cU8, fU8, Zdf] at len_code
  refine Zea (x := Zdf false more) 1 rfl (fun len_more => ?_)
  simp [Zfx, Zkq, cU8, fU8, Zdf] at len_more
  refine aR [] [0, 1] [] [Zdf false code, Zdf false more] [] [] hB trivial ?_
  refine Zam ?_
  by_cases h1 : 3000 < (code.length : Int)
  ·refine Zbs [(2, .dec true)] [4] [] [Bv true] [] [3000 < (code.length : Int)] hB ⟨h1, trivial⟩ ?_
   refine Zae ?_
   refine Zba ?_
   refine Zbb hB (Bv true) (by kernel_rfl) (.inl (by refine congrArg Bv ?_; simp [*])) rfl (fun _ => trivial)
  refine Zbs [(2, .dec false)] [4] [] [Bv (decide (3000 < (more.length : Int)))] [] [¬ (3000 < (code.length : Int))] hB ⟨h1, trivial⟩ ?_
  refine Zae ?_
  refine Zba ?_
  refine Zbb hB (Bv (decide (3000 < (more.length : Int)))) (by kernel_rfl) (.inl (by refine congrArg Bv ?_; simp [*])) rfl (fun _ => trivial)
def same {α : Type} [DecidableEq α] (x y : α) : Bool := decide (x = y)
theorem Zcx {α : Type} [Inhabited α] {xs : List α} {i : Nat} (h : i < xs.length) : at_ xs i ∈ xs := by rw [Zcz h]; exact List.getElem_mem h
def allN (n : Nat) (p : Nat → Bool) : Bool := (List.range n).all p
def anyN (n : Nat) (p : Nat → Bool) : Bool := !(allN n fun j => !(p j))
theorem Zqx {n : Nat} {p : Nat → Bool} : allN n p = true ↔ ∀ j, j < n → p j = true := by simp [allN, List.all_eq_true]
theorem Zva {n : Nat} {p : Nat → Bool} (h : ∀ j, j < n → p j = true) : allN n p = true := Zqx.2 h
theorem allN_get {n : Nat} {p : Nat → Bool} (h : allN n p = true) {k : Nat} (hk : k < n) : p k = true := Zqx.1 h k hk
theorem allN_not {n : Nat} {p : Nat → Bool} {k : Nat} (hk : k < n) (h : p k = false) : allN n p = false := by
  rw [← Bool.not_eq_true, Zqx]; intro h'; rw [h' k hk] at h; cases h
theorem Ybm {n : Nat} {p : Nat → Bool} {k : Nat} (hk : k < n) (h : p k = true) : anyN n p = true := by
  unfold anyN; rw [allN_not hk (by simp [h])]; rfl
theorem Zna {n : Nat} {p : Nat → Bool} (h : ∀ j, j < n → p j = false) : anyN n p = false := by
  unfold anyN; rw [Zva (fun j hj => by simp [h j hj])]; rfl
def Zcq (s : l00Src) : Prop := (∀ j, j < s.code.length → 0 ≤ at_ s.code j ∧ at_ s.code j ≤ 255) ∧ 0 ≤ s.atx ∧ s.code.length ≤ 4611686018427387904
theorem Yca (a : Int) : 0 ≤ Zgm .and .u64 a 255 ∧ Zgm .and .u64 a 255 ≤ 255 := by
  obtain ⟨n, hn⟩ : ∃ n : Nat, n = (BitVec.ofInt 64 a &&& BitVec.ofInt 64 255).toNat := ⟨_, rfl⟩
  have h : n ≤ 255 := by rw [hn, BitVec.toNat_and]; exact Nat.and_le_right
  have e : Zgm .and .u64 a 255 = IntKind.u64.wrap (n : Int) := by rw [hn]; rfl
  have w : IntKind.u64.wrap (n : Int) = n := Zgl (Zpl (by omega) (by omega))
  rw [e, w]; omega
theorem Zoj (code : List Int) : ∃ (s' : l00Src), (s'.code = code ∧ s'.atx = 0) ∧ Zbi Tryz.prog 38 [Zdf false code] (Zaf []) false (.ref 7001 0) (Zaf [(7001, Zab s')]) := by
  have hh : ∃ r : l00Src, ((r.code = code ∧ r.atx = 0) ∧ (True)) ∧ Zbi Tryz.prog 38 [Zdf false code] (Zaf []) false (.ref 7001 0) (Zaf [(7001, Zab r)]) := by
    refine Zdl (Φ := fun r : l00Src => (r.code = code ∧ r.atx = 0) ∧ (True)) [] (fun r => [(7001, Zab r)]) (fn := Tryz.f38) (nt := 6) Tryz.func38 rfl rfl (args := [Zdf false code]) rfl (Zbe (.inl ⟨rfl, Zgz false _⟩) Zdj) (res := fun r => .ref 7001 0) ?_
    refine xR [] [0] [] [Zdf false code] [] [] trivial ?_
    refine xR [(2, .new 7001)] [2] [7001] [.ref 7001 0] [some (.box [Zdf false code, I 0, .val (.int .u64 0)])] [] trivial ?_
    refine Zdh ?_
    refine Zce (l00Src.mk code 0 0) (show ((l00Src.mk code 0 0).code = code ∧ (l00Src.mk code 0 0).atx = 0) ∧ (True) from ⟨(by first | rfl | (exact ⟨rfl, rfl⟩)), trivial⟩) (⟨.inl rfl, trivial⟩) (.ref 7001 0) (by kernel_rfl) (.inl rfl) (fun h => by cases h) (fun h => by cases h)
  obtain ⟨s', ⟨hh0, _⟩, hc⟩ := hh
  exact ⟨s', hh0, hc⟩
theorem Ycb (s : l00Src) (hs : Zcq s) (ha : s.atx ≤ 4000000000000000000) : ∃ (v : Int) (s' : l00Src), (0 ≤ v ∧ v ≤ 255) ∧ (Zcq s') ∧ (s'.code = s.code) ∧ (s.atx + 1 ≤ s'.atx ∧ s'.atx ≤ s.atx + 1) ∧ Zbi Tryz.prog 120 [.ref 7001 0] (Zaf [(7001, Zab s)]) true (I v) (Zaf [(7001, Zab s')]) := by
  have hs0 := hs.2.1
  have hs1 := hs.2.2
  have hh : ∃ r : Int × l00Src, ((0 ≤ r.1 ∧ r.1 ≤ 255) ∧ (Zcq r.2) ∧ (r.2.code = s.code) ∧ (s.atx + 1 ≤ r.2.atx ∧ r.2.atx ≤ s.atx + 1) ∧ (True)) ∧ Zbi Tryz.prog 120 [.ref 7001 0] (Zaf [(7001, Zab s)]) true (I r.1) (Zaf [(7001, Zab r.2)]) := by
    refine Zdl (Φ := fun r : Int × l00Src => (0 ≤ r.1 ∧ r.1 ≤ 255) ∧ (Zcq r.2) ∧ (r.2.code = s.code) ∧ (s.atx + 1 ≤ r.2.atx ∧ r.2.atx ≤ s.atx + 1) ∧ (True)) [(7001, Zab s)] (fun r => [(7001, Zab r.2)]) (fn := Tryz.f120) (nt := 62) Tryz.func120 rfl rfl (args := [.ref 7001 0]) rfl (Zbe (.inr trivial) Zdj) (res := fun r => I r.1) ?_
    refine xR [] [0] [7001] [.ref 7001 0] [some (Zab s)] [] trivial ?_
    refine xR [] [0, 3] [7001] [.ref 7001 0, I 0] [some (Zab s)] [] trivial ?_
    refine Zar ?_
    refine Zar ?_
    by_cases h1 : s.atx < (s.code.length : Int)
    ·have hbt := hs.1 s.atx.toNat (by omega)
     refine x_r [(9, .dec true)] [0, 3, 13] [7001] [.ref 7001 0, I 0, Bv true] [some (Zab s)] [s.atx < (s.code.length : Int)] ⟨h1, trivial⟩ ?_
     refine Zad ?_
     refine Zcb rfl ?_
     refine x_r [] [0, 3] [7001] [.ref 7001 0, I (at_ s.code s.atx.toNat)] [some (Zab s)] [(0 : Int) ≤ s.atx ∧ s.atx < (s.code.length : Int), inR .i64 (at_ s.code s.atx.toNat)] ⟨⟨(by omega), (by omega)⟩, (Zah (by omega) (by omega)), trivial⟩ ?_
     refine Zad ?_
     refine xR [] [0, 3] [7001] [.ref 7001 0, I (at_ s.code s.atx.toNat)] [some (.box [Zdf false s.code, I (s.atx + 1), .val (.int .u64 s.seed)])] [inR .i64 (s.atx + 1)] ⟨(Zah (by omega) (by omega)), trivial⟩ ?_
     refine xR [(5, .wrap), (8, .wrap), (9, .wrap)] [0, 3] [7001] [.ref 7001 0, I (at_ s.code s.atx.toNat)] [some (.box [Zdf false s.code, I (s.atx + 1), .val (.int .u64 (IntKind.u64.wrap ((IntKind.u64.wrap ((IntKind.u64.wrap (s.seed * 6364136223846793005)) + (at_ s.code s.atx.toNat))) + 1442695040888963407)))])] [inR .u64 (at_ s.code s.atx.toNat)] ⟨(Zpl (by omega) (by omega)), trivial⟩ ?_
     refine Zar ?_
     refine Zar ?_
     by_cases h2 : (s.atx + 1) ≤ (s.code.length : Int)
     ·refine x_r [(9, .dec true)] [0, 3, 53] [7001] [.ref 7001 0, I (at_ s.code s.atx.toNat), Bv true] [some (.box [Zdf false s.code, I (s.atx + 1), .val (.int .u64 (IntKind.u64.wrap ((IntKind.u64.wrap ((IntKind.u64.wrap (s.seed * 6364136223846793005)) + (at_ s.code s.atx.toNat))) + 1442695040888963407)))])] [(s.atx + 1) ≤ (s.code.length : Int)] ⟨h2, trivial⟩ ?_
      refine Zad ?_
      refine Zcb rfl ?_
      refine xR [] [2] [7001] [I (at_ s.code s.atx.toNat)] [some (.box [Zdf false s.code, I (s.atx + 1), .val (.int .u64 (IntKind.u64.wrap ((IntKind.u64.wrap ((IntKind.u64.wrap (s.seed * 6364136223846793005)) + (at_ s.code s.atx.toNat))) + 1442695040888963407)))])] [] trivial ?_
      refine Zdh ?_
      refine Zcl ?_
      refine Zce ((at_ s.code s.atx.toNat), (l00Src.mk s.code (s.atx + 1) (IntKind.u64.wrap ((IntKind.u64.wrap ((IntKind.u64.wrap (s.seed * 6364136223846793005)) + (at_ s.code s.atx.toNat))) + 1442695040888963407)))) (show (0 ≤ (at_ s.code s.atx.toNat) ∧ (at_ s.code s.atx.toNat) ≤ 255) ∧ (Zcq (l00Src.mk s.code (s.atx + 1) (IntKind.u64.wrap ((IntKind.u64.wrap ((IntKind.u64.wrap (s.seed * 6364136223846793005)) + (at_ s.code s.atx.toNat))) + 1442695040888963407)))) ∧ ((l00Src.mk s.code (s.atx + 1) (IntKind.u64.wrap ((IntKind.u64.wrap ((IntKind.u64.wrap (s.seed * 6364136223846793005)) + (at_ s.code s.atx.toNat))) + 1442695040888963407))).code = s.code) ∧ (s.atx + 1 ≤ (l00Src.mk s.code (s.atx + 1) (IntKind.u64.wrap ((IntKind.u64.wrap ((IntKind.u64.wrap (s.seed * 6364136223846793005)) + (at_ s.code s.atx.toNat))) + 1442695040888963407))).atx ∧ (l00Src.mk s.code (s.atx + 1) (IntKind.u64.wrap ((IntKind.u64.wrap ((IntKind.u64.wrap (s.seed * 6364136223846793005)) + (at_ s.code s.atx.toNat))) + 1442695040888963407))).atx ≤ s.atx + 1) ∧ (True) from ⟨(by first | omega | rfl | assumption | (dsimp only; first | omega | rfl | assumption) | (simp only [*]; done) | exact ⟨hs.1, (by dsimp only; omega), hs1⟩), (by first | omega | rfl | assumption | (dsimp only; first | omega | rfl | assumption) | (simp only [*]; done) | exact ⟨hs.1, (by dsimp only; omega), hs1⟩), (by first | omega | rfl | assumption | (dsimp only; first | omega | rfl | assumption) | (simp only [*]; done) | exact ⟨hs.1, (by dsimp only; omega), hs1⟩), (by first | omega | rfl | assumption | (dsimp only; first | omega | rfl | assumption) | (simp only [*]; done) | exact ⟨hs.1, (by dsimp only; omega), hs1⟩), trivial⟩) (⟨.inl rfl, trivial⟩) (I (at_ s.code s.atx.toNat)) (by kernel_rfl) (.inl rfl) (fun _ => rfl) (fun _ => trivial)
     refine x_r [(9, .dec false)] [0, 3, 53] [7001] [.ref 7001 0, I (at_ s.code s.atx.toNat), Bv false] [some (.box [Zdf false s.code, I (s.atx + 1), .val (.int .u64 (IntKind.u64.wrap ((IntKind.u64.wrap ((IntKind.u64.wrap (s.seed * 6364136223846793005)) + (at_ s.code s.atx.toNat))) + 1442695040888963407)))])] [¬ ((s.atx + 1) ≤ (s.code.length : Int))] ⟨h2, trivial⟩ ?_
     refine Zad ?_
     refine Zav rfl ?_
     refine Zbk ?_
     refine Zad ?_
     refine Zar ?_
     have hb1 := Yca ((IntKind.u64.wrap ((IntKind.u64.wrap ((IntKind.u64.wrap (s.seed * 6364136223846793005)) + (at_ s.code s.atx.toNat))) + 1442695040888963407)) / 1099511627776)
     refine x_r [] [2] [7001] [I (Zgm .and .u64 ((IntKind.u64.wrap ((IntKind.u64.wrap ((IntKind.u64.wrap (s.seed * 6364136223846793005)) + (at_ s.code s.atx.toNat))) + 1442695040888963407)) / 1099511627776) 255)] [some (.box [Zdf false s.code, I (s.atx + 1), .val (.int .u64 (IntKind.u64.wrap ((IntKind.u64.wrap ((IntKind.u64.wrap (s.seed * 6364136223846793005)) + (at_ s.code s.atx.toNat))) + 1442695040888963407)))])] [(0 : Int) ≤ 40 ∧ (40 : Int) ≤ ((IntKind.bits .u64 : Nat) : Int), inR .i64 (Zgm .and .u64 ((IntKind.u64.wrap ((IntKind.u64.wrap ((IntKind.u64.wrap (s.seed * 6364136223846793005)) + (at_ s.code s.atx.toNat))) + 1442695040888963407)) / 1099511627776) 255)] ⟨⟨(by decide), (by decide)⟩, (Zah (by omega) (by omega)), trivial⟩ ?_
     refine Zad ?_
     refine Zdh ?_
     refine Zce ((Zgm .and .u64 ((IntKind.u64.wrap ((IntKind.u64.wrap ((IntKind.u64.wrap (s.seed * 6364136223846793005)) + (at_ s.code s.atx.toNat))) + 1442695040888963407)) / 1099511627776) 255), (l00Src.mk s.code (s.atx + 1) (IntKind.u64.wrap ((IntKind.u64.wrap ((IntKind.u64.wrap (s.seed * 6364136223846793005)) + (at_ s.code s.atx.toNat))) + 1442695040888963407)))) (show (0 ≤ (Zgm .and .u64 ((IntKind.u64.wrap ((IntKind.u64.wrap ((IntKind.u64.wrap (s.seed * 6364136223846793005)) + (at_ s.code s.atx.toNat))) + 1442695040888963407)) / 1099511627776) 255) ∧ (Zgm .and .u64 ((IntKind.u64.wrap ((IntKind.u64.wrap ((IntKind.u64.wrap (s.seed * 6364136223846793005)) + (at_ s.code s.atx.toNat))) + 1442695040888963407)) / 1099511627776) 255) ≤ 255) ∧ (Zcq (l00Src.mk s.code (s.atx + 1) (IntKind.u64.wrap ((IntKind.u64.wrap ((IntKind.u64.wrap (s.seed * 6364136223846793005)) + (at_ s.code s.atx.toNat))) + 1442695040888963407)))) ∧ ((l00Src.mk s.code (s.atx + 1) (IntKind.u64.wrap ((IntKind.u64.wrap ((IntKind.u64.wrap (s.seed * 6364136223846793005)) + (at_ s.code s.atx.toNat))) + 1442695040888963407))).code = s.code) ∧ (s.atx + 1 ≤ (l00Src.mk s.code (s.atx + 1) (IntKind.u64.wrap ((IntKind.u64.wrap ((IntKind.u64.wrap (s.seed * 6364136223846793005)) + (at_ s.code s.atx.toNat))) + 1442695040888963407))).atx ∧ (l00Src.mk s.code (s.atx + 1) (IntKind.u64.wrap ((IntKind.u64.wrap ((IntKind.u64.wrap (s.seed * 6364136223846793005)) + (at_ s.code s.atx.toNat))) + 1442695040888963407))).atx ≤ s.atx + 1) ∧ (True) from ⟨(by first | omega | rfl | assumption | (dsimp only; first | omega | rfl | assumption) | (simp only [*]; done) | exact ⟨hs.1, (by dsimp only; omega), hs1⟩), (by first | omega | rfl | assumption | (dsimp only; first | omega | rfl | assumption) | (simp only [*]; done) | exact ⟨hs.1, (by dsimp only; omega), hs1⟩), (by first | omega | rfl | assumption | (dsimp only; first | omega | rfl | assumption) | (simp only [*]; done) | exact ⟨hs.1, (by dsimp only; omega), hs1⟩), (by first | omega | rfl | assumption | (dsimp only; first | omega | rfl | assumption) | (simp only [*]; done) | exact ⟨hs.1, (by dsimp only; omega), hs1⟩), trivial⟩) (⟨.inl rfl, trivial⟩) (I (Zgm .and .u64 ((IntKind.u64.wrap ((IntKind.u64.wrap ((IntKind.u64.wrap (s.seed * 6364136223846793005)) + (at_ s.code s.atx.toNat))) + 1442695040888963407)) / 1099511627776) 255)) (by kernel_rfl) (.inl rfl) (fun _ => rfl) (fun _ => trivial)
    refine x_r [(9, .dec false)] [0, 3, 13] [7001] [.ref 7001 0, I 0, Bv false] [some (Zab s)] [¬ (s.atx < (s.code.length : Int))] ⟨h1, trivial⟩ ?_
    refine Zad ?_
    refine Zav rfl ?_
    refine Zbk ?_
    refine Zad ?_
    refine xR [] [0, 3] [7001] [.ref 7001 0, I 0] [some (.box [Zdf false s.code, I (s.atx + 1), .val (.int .u64 s.seed)])] [inR .i64 (s.atx + 1)] ⟨(Zah (by omega) (by omega)), trivial⟩ ?_
    refine xR [(5, .wrap), (8, .wrap), (9, .wrap)] [0, 3] [7001] [.ref 7001 0, I 0] [some (.box [Zdf false s.code, I (s.atx + 1), .val (.int .u64 (IntKind.u64.wrap ((IntKind.u64.wrap ((IntKind.u64.wrap (s.seed * 6364136223846793005)) + 0)) + 1442695040888963407)))])] [inR .u64 0] ⟨(Zpl (by omega) (by omega)), trivial⟩ ?_
    refine Zar ?_
    refine Zar ?_
    by_cases h3 : (s.atx + 1) ≤ (s.code.length : Int)
    ·refine x_r [(9, .dec true)] [0, 3, 53] [7001] [.ref 7001 0, I 0, Bv true] [some (.box [Zdf false s.code, I (s.atx + 1), .val (.int .u64 (IntKind.u64.wrap ((IntKind.u64.wrap ((IntKind.u64.wrap (s.seed * 6364136223846793005)) + 0)) + 1442695040888963407)))])] [(s.atx + 1) ≤ (s.code.length : Int)] ⟨h3, trivial⟩ ?_
     refine Zad ?_
     refine Zcb rfl ?_
     refine xR [] [2] [7001] [I 0] [some (.box [Zdf false s.code, I (s.atx + 1), .val (.int .u64 (IntKind.u64.wrap ((IntKind.u64.wrap ((IntKind.u64.wrap (s.seed * 6364136223846793005)) + 0)) + 1442695040888963407)))])] [] trivial ?_
     refine Zdh ?_
     refine Zcl ?_
     refine Zce (0, (l00Src.mk s.code (s.atx + 1) (IntKind.u64.wrap ((IntKind.u64.wrap ((IntKind.u64.wrap (s.seed * 6364136223846793005)) + 0)) + 1442695040888963407)))) (show (0 ≤ 0 ∧ 0 ≤ 255) ∧ (Zcq (l00Src.mk s.code (s.atx + 1) (IntKind.u64.wrap ((IntKind.u64.wrap ((IntKind.u64.wrap (s.seed * 6364136223846793005)) + 0)) + 1442695040888963407)))) ∧ ((l00Src.mk s.code (s.atx + 1) (IntKind.u64.wrap ((IntKind.u64.wrap ((IntKind.u64.wrap (s.seed * 6364136223846793005)) + 0)) + 1442695040888963407))).code = s.code) ∧ (s.atx + 1 ≤ (l00Src.mk s.code (s.atx + 1) (IntKind.u64.wrap ((IntKind.u64.wrap ((IntKind.u64.wrap (s.seed * 6364136223846793005)) + 0)) + 1442695040888963407))).atx ∧ (l00Src.mk s.code (s.atx + 1) (IntKind.u64.wrap ((IntKind.u64.wrap ((IntKind.u64.wrap (s.seed * 6364136223846793005)) + 0)) + 1442695040888963407))).atx ≤ s.atx + 1) ∧ (True) from ⟨(by first | omega | rfl | assumption | (dsimp only; first | omega | rfl | assumption) | (simp only [*]; done) | exact ⟨hs.1, (by dsimp only; omega), hs1⟩), (by first | omega | rfl | assumption | (dsimp only; first | omega | rfl | assumption) | (simp only [*]; done) | exact ⟨hs.1, (by dsimp only; omega), hs1⟩), (by first | omega | rfl | assumption | (dsimp only; first | omega | rfl | assumption) | (simp only [*]; done) | exact ⟨hs.1, (by dsimp only; omega), hs1⟩), (by first | omega | rfl | assumption | (dsimp only; first | omega | rfl | assumption) | (simp only [*]; done) | exact ⟨hs.1, (by dsimp only; omega), hs1⟩), trivial⟩) (⟨.inl rfl, trivial⟩) (I 0) (by kernel_rfl) (.inl rfl) (fun _ => rfl) (fun _ => trivial)
    refine x_r [(9, .dec false)] [0, 3, 53] [7001] [.ref 7001 0, I 0, Bv false] [some (.box [Zdf false s.code, I (s.atx + 1), .val (.int .u64 (IntKind.u64.wrap ((IntKind.u64.wrap ((IntKind.u64.wrap (s.seed * 6364136223846793005)) + 0)) + 1442695040888963407)))])] [¬ ((s.atx + 1) ≤ (s.code.length : Int))] ⟨h3, trivial⟩ ?_
    refine Zad ?_
    refine Zav rfl ?_
    refine Zbk ?_
    refine Zad ?_
    refine Zar ?_
    have hb2 := Yca ((IntKind.u64.wrap ((IntKind.u64.wrap ((IntKind.u64.wrap (s.seed * 6364136223846793005)) + 0)) + 1442695040888963407)) / 1099511627776)
    refine x_r [] [2] [7001] [I (Zgm .and .u64 ((IntKind.u64.wrap ((IntKind.u64.wrap ((IntKind.u64.wrap (s.seed * 6364136223846793005)) + 0)) + 1442695040888963407)) / 1099511627776) 255)] [some (.box [Zdf false s.code, I (s.atx + 1), .val (.int .u64 (IntKind.u64.wrap ((IntKind.u64.wrap ((IntKind.u64.wrap (s.seed * 6364136223846793005)) + 0)) + 1442695040888963407)))])] [(0 : Int) ≤ 40 ∧ (40 : Int) ≤ ((IntKind.bits .u64 : Nat) : Int), inR .i64 (Zgm .and .u64 ((IntKind.u64.wrap ((IntKind.u64.wrap ((IntKind.u64.wrap (s.seed * 6364136223846793005)) + 0)) + 1442695040888963407)) / 1099511627776) 255)] ⟨⟨(by decide), (by decide)⟩, (Zah (by omega) (by omega)), trivial⟩ ?_
    refine Zad ?_
    refine Zdh ?_
    refine Zce ((Zgm .and .u64 ((IntKind.u64.wrap ((IntKind.u64.wrap ((IntKind.u64.wrap (s.seed * 6364136223846793005)) + 0)) + 1442695040888963407)) / 1099511627776) 255), (l00Src.mk s.code (s.atx + 1) (IntKind.u64.wrap ((IntKind.u64.wrap ((IntKind.u64.wrap (s.seed * 6364136223846793005)) + 0)) + 1442695040888963407)))) (show (0 ≤ (Zgm .and .u64 ((IntKind.u64.wrap ((IntKind.u64.wrap ((IntKind.u64.wrap (s.seed * 6364136223846793005)) + 0)) + 1442695040888963407)) / 1099511627776) 255) ∧ (Zgm .and .u64 ((IntKind.u64.wrap ((IntKind.u64.wrap ((IntKind.u64.wrap (s.seed * 6364136223846793005)) + 0)) + 1442695040888963407)) / 1099511627776) 255) ≤ 255) ∧ (Zcq (l00Src.mk s.code (s.atx + 1) (IntKind.u64.wrap ((IntKind.u64.wrap ((IntKind.u64.wrap (s.seed * 6364136223846793005)) + 0)) + 1442695040888963407)))) ∧ ((l00Src.mk s.code (s.atx + 1) (IntKind.u64.wrap ((IntKind.u64.wrap ((IntKind.u64.wrap (s.seed * 6364136223846793005)) + 0)) + 1442695040888963407))).code = s.code) ∧ (s.atx + 1 ≤ (l00Src.mk s.code (s.atx + 1) (IntKind.u64.wrap ((IntKind.u64.wrap ((IntKind.u64.wrap (s.seed * 6364136223846793005)) + 0)) + 1442695040888963407))).atx ∧ (l00Src.mk s.code (s.atx + 1) (IntKind.u64.wrap ((IntKind.u64.wrap ((IntKind.u64.wrap (s.seed * 6364136223846793005)) + 0)) + 1442695040888963407))).atx ≤ s.atx + 1) ∧ (True) from ⟨(by first | omega | rfl | assumption | (dsimp only; first | omega | rfl | assumption) | (simp only [*]; done) | exact ⟨hs.1, (by dsimp only; omega), hs1⟩), (by first | omega | rfl | assumption | (dsimp only; first | omega | rfl | assumption) | (simp only [*]; done) | exact ⟨hs.1, (by dsimp only; omega), hs1⟩), (by first | omega | rfl | assumption | (dsimp only; first | omega | rfl | assumption) | (simp only [*]; done) | exact ⟨hs.1, (by dsimp only; omega), hs1⟩), (by first | omega | rfl | assumption | (dsimp only; first | omega | rfl | assumption) | (simp only [*]; done) | exact ⟨hs.1, (by dsimp only; omega), hs1⟩), trivial⟩) (⟨.inl rfl, trivial⟩) (I (Zgm .and .u64 ((IntKind.u64.wrap ((IntKind.u64.wrap ((IntKind.u64.wrap (s.seed * 6364136223846793005)) + 0)) + 1442695040888963407)) / 1099511627776) 255)) (by kernel_rfl) (.inl rfl) (fun _ => rfl) (fun _ => trivial)
  obtain ⟨⟨v, s'⟩, ⟨hh0, hh1, hh2, hh3, _⟩, hc⟩ := hh
  exact ⟨v, s', hh0, hh1, hh2, hh3, hc⟩
theorem Ziu (s : l00Src) (n : Int) (hs : Zcq s) (ha : s.atx ≤ 3999999999999999990) : ∃ (v : Int) (s' : l00Src), (0 ≤ v ∧ (v < n ∨ v = 0)) ∧ (Zcq s') ∧ (s'.code = s.code) ∧ (s.atx + 0 ≤ s'.atx ∧ s'.atx ≤ s.atx + 2) ∧ Zbi Tryz.prog 70 [.ref 7001 0, I n] (Zaf [(7001, Zab s)]) true (I v) (Zaf [(7001, Zab s')]) := by
  have hs0 := hs.2.1
  have hs1 := hs.2.2
  have hh : ∃ r : Int × l00Src, ((0 ≤ r.1 ∧ (r.1 < n ∨ r.1 = 0)) ∧ (Zcq r.2) ∧ (r.2.code = s.code) ∧ (s.atx + 0 ≤ r.2.atx ∧ r.2.atx ≤ s.atx + 2) ∧ (True)) ∧ Zbi Tryz.prog 70 [.ref 7001 0, I n] (Zaf [(7001, Zab s)]) true (I r.1) (Zaf [(7001, Zab r.2)]) := by
    refine Zdl (Φ := fun r : Int × l00Src => (0 ≤ r.1 ∧ (r.1 < n ∨ r.1 = 0)) ∧ (Zcq r.2) ∧ (r.2.code = s.code) ∧ (s.atx + 0 ≤ r.2.atx ∧ r.2.atx ≤ s.atx + 2) ∧ (True)) [(7001, Zab s)] (fun r => [(7001, Zab r.2)]) (fn := Tryz.f70) (nt := 20) Tryz.func70 rfl rfl (args := [.ref 7001 0, I n]) rfl (Zbe (.inr trivial) (Zbe (.inl ⟨rfl, trivial⟩) Zdj)) (res := fun r => I r.1) ?_
    refine xR [] [0, 1] [7001] [.ref 7001 0, I n] [some (Zab s)] [] trivial ?_
    refine Zar ?_
    refine Zar ?_
    by_cases h1 : n ≤ 1
    ·refine x_r [(1, .dec true)] [0, 1, 7] [7001] [.ref 7001 0, I n, Bv true] [some (Zab s)] [n ≤ 1] ⟨h1, trivial⟩ ?_
     refine Zad ?_
     refine Zcb rfl ?_
     refine xR [] [4] [7001] [I 0] [some (Zab s)] [] trivial ?_
     refine Zdh ?_
     refine Zcl ?_
     refine Zce (0, s) (show (0 ≤ 0 ∧ (0 < n ∨ 0 = 0)) ∧ (Zcq s) ∧ (s.code = s.code) ∧ (s.atx + 0 ≤ s.atx ∧ s.atx ≤ s.atx + 2) ∧ (True) from ⟨(by first | omega | rfl | assumption | (dsimp only; first | omega | rfl | assumption) | (simp only [*]; done) | exact ⟨Int.emod_nonneg _ (by omega), .inl (Int.emod_lt_of_pos _ (by omega))⟩), (by first | omega | rfl | assumption | (dsimp only; first | omega | rfl | assumption) | (simp only [*]; done) | exact ⟨Int.emod_nonneg _ (by omega), .inl (Int.emod_lt_of_pos _ (by omega))⟩), (by first | omega | rfl | assumption | (dsimp only; first | omega | rfl | assumption) | (simp only [*]; done) | exact ⟨Int.emod_nonneg _ (by omega), .inl (Int.emod_lt_of_pos _ (by omega))⟩), (by first | omega | rfl | assumption | (dsimp only; first | omega | rfl | assumption) | (simp only [*]; done) | exact ⟨Int.emod_nonneg _ (by omega), .inl (Int.emod_lt_of_pos _ (by omega))⟩), trivial⟩) (⟨.inl rfl, trivial⟩) (I 0) (by kernel_rfl) (.inl rfl) (fun _ => rfl) (fun _ => trivial)
    refine x_r [(1, .dec false)] [0, 1, 7] [7001] [.ref 7001 0, I n, Bv false] [some (Zab s)] [¬ (n ≤ 1)] ⟨h1, trivial⟩ ?_
    refine Zad ?_
    refine Zav rfl ?_
    refine Zbk ?_
    refine Zad ?_
    refine Zar ?_
    obtain ⟨v_1, s'_1, hx1_0, hx1_1, hx1_2, hx1_3, hc1⟩ := Ycb s (by first | assumption | (simp only [Zcq] at *; simp_all; done)) (by omega)
    refine x_r [(1, .lend [(7001, Zab s, Zab s'_1)] [] [(true, .any)] true (I v_1))] [0, 1, 5] [7001] [.ref 7001 0, I n, I v_1] [some (Zab s'_1)] [Zbi Tryz.prog 120 [.ref 7001 0] (Zaf [(7001, Zab s)]) true (I v_1) (Zaf [(7001, Zab s'_1)]) ∧ (((Zab s : Ob) = Zab s ∨ Zih Zgf true (Zab s) (Zab s)) ∧ Zbu false (Zab s)) ∧ True] ⟨⟨hc1, ⟨.inl rfl, (by simp [Zbu, Zaj, Zan, Zgz])⟩, trivial⟩, trivial⟩ ?_
    refine Zad ?_
    refine Zar ?_
    refine Zar ?_
    by_cases h2 : 200 < n
    ·refine x_r [(1, .dec true)] [0, 1, 5, 11] [7001] [.ref 7001 0, I n, I v_1, Bv true] [some (Zab s'_1)] [200 < n] ⟨h2, trivial⟩ ?_
     refine Zad ?_
     refine Zcb rfl ?_
     obtain ⟨v_2, s'_2, hx2_0, hx2_1, hx2_2, hx2_3, hc2⟩ := Ycb s'_1 (by first | assumption | (simp only [Zcq] at *; simp_all; done)) (by omega)
     refine x_r [(3, .lend [(7001, Zab s'_1, Zab s'_2)] [] [(true, .any)] true (I v_2))] [1, 5] [7001] [I n, I ((v_1 * 256) + v_2)] [some (Zab s'_2)] [inR .i64 (v_1 * 256), Zbi Tryz.prog 120 [.ref 7001 0] (Zaf [(7001, Zab s'_1)]) true (I v_2) (Zaf [(7001, Zab s'_2)]) ∧ (((Zab s'_1 : Ob) = Zab s'_1 ∨ Zih Zgf true (Zab s'_1) (Zab s'_1)) ∧ Zbu false (Zab s'_1)) ∧ True, inR .i64 ((v_1 * 256) + v_2)] ⟨(Zah (by omega) (by omega)), ⟨hc2, ⟨.inl rfl, (by simp [Zbu, Zaj, Zan, Zgz])⟩, trivial⟩, (Zah (by omega) (by omega)), trivial⟩ ?_
     refine Zad ?_
     refine xR [(2, .nn)] [4] [7001] [I (((v_1 * 256) + v_2) % n)] [some (Zab s'_2)] [(0 : Int) ≤ ((v_1 * 256) + v_2) ∧ (0 : Int) < n] ⟨⟨(by omega), (by omega)⟩, trivial⟩ ?_
     refine Zdh ?_
     refine Zce ((((v_1 * 256) + v_2) % n), s'_2) (show (0 ≤ (((v_1 * 256) + v_2) % n) ∧ ((((v_1 * 256) + v_2) % n) < n ∨ (((v_1 * 256) + v_2) % n) = 0)) ∧ (Zcq s'_2) ∧ (s'_2.code = s.code) ∧ (s.atx + 0 ≤ s'_2.atx ∧ s'_2.atx ≤ s.atx + 2) ∧ (True) from ⟨(by first | omega | rfl | assumption | (dsimp only; first | omega | rfl | assumption) | (simp only [*]; done) | exact ⟨Int.emod_nonneg _ (by omega), .inl (Int.emod_lt_of_pos _ (by omega))⟩), (by first | omega | rfl | assumption | (dsimp only; first | omega | rfl | assumption) | (simp only [*]; done) | exact ⟨Int.emod_nonneg _ (by omega), .inl (Int.emod_lt_of_pos _ (by omega))⟩), (by first | omega | rfl | assumption | (dsimp only; first | omega | rfl | assumption) | (simp only [*]; done) | exact ⟨Int.emod_nonneg _ (by omega), .inl (Int.emod_lt_of_pos _ (by omega))⟩), (by first | omega | rfl | assumption | (dsimp only; first | omega | rfl | assumption) | (simp only [*]; done) | exact ⟨Int.emod_nonneg _ (by omega), .inl (Int.emod_lt_of_pos _ (by omega))⟩), trivial⟩) (⟨.inl rfl, trivial⟩) (I (((v_1 * 256) + v_2) % n)) (by kernel_rfl) (.inl rfl) (fun _ => rfl) (fun _ => trivial)
    refine x_r [(1, .dec false)] [0, 1, 5, 11] [7001] [.ref 7001 0, I n, I v_1, Bv false] [some (Zab s'_1)] [¬ (200 < n)] ⟨h2, trivial⟩ ?_
    refine Zad ?_
    refine Zav rfl ?_
    refine Zbk ?_
    refine Zad ?_
    refine xR [(2, .nn)] [4] [7001] [I (v_1 % n)] [some (Zab s'_1)] [(0 : Int) ≤ v_1 ∧ (0 : Int) < n] ⟨⟨(by omega), (by omega)⟩, trivial⟩ ?_
    refine Zdh ?_
    refine Zce ((v_1 % n), s'_1) (show (0 ≤ (v_1 % n) ∧ ((v_1 % n) < n ∨ (v_1 % n) = 0)) ∧ (Zcq s'_1) ∧ (s'_1.code = s.code) ∧ (s.atx + 0 ≤ s'_1.atx ∧ s'_1.atx ≤ s.atx + 2) ∧ (True) from ⟨(by first | omega | rfl | assumption | (dsimp only; first | omega | rfl | assumption) | (simp only [*]; done) | exact ⟨Int.emod_nonneg _ (by omega), .inl (Int.emod_lt_of_pos _ (by omega))⟩), (by first | omega | rfl | assumption | (dsimp only; first | omega | rfl | assumption) | (simp only [*]; done) | exact ⟨Int.emod_nonneg _ (by omega), .inl (Int.emod_lt_of_pos _ (by omega))⟩), (by first | omega | rfl | assumption | (dsimp only; first | omega | rfl | assumption) | (simp only [*]; done) | exact ⟨Int.emod_nonneg _ (by omega), .inl (Int.emod_lt_of_pos _ (by omega))⟩), (by first | omega | rfl | assumption | (dsimp only; first | omega | rfl | assumption) | (simp only [*]; done) | exact ⟨Int.emod_nonneg _ (by omega), .inl (Int.emod_lt_of_pos _ (by omega))⟩), trivial⟩) (⟨.inl rfl, trivial⟩) (I (v_1 % n)) (by kernel_rfl) (.inl rfl) (fun _ => rfl) (fun _ => trivial)
  obtain ⟨⟨v, s'⟩, ⟨hh0, hh1, hh2, hh3, _⟩, hc⟩ := hh
  exact ⟨v, s', hh0, hh1, hh2, hh3, hc⟩
theorem Ycc (a : Int) (b : Int) : Con Tryz.prog 89 [I a, I b] true (I (min a b)) := by
  refine Zeb (fn := Tryz.f89) (nt := 10) Tryz.func89 rfl rfl rfl rfl (by simp [Zaj, Zan]) fun B hB => ?_
  refine aR [] [0, 1] [] [I a, I b] [] [] hB trivial ?_
  refine Zam ?_
  refine Zam ?_
  by_cases h1 : a < b
  ·refine Zbs [(2, .dec true)] [0, 1, 7] [] [I a, I b, Bv true] [] [a < b] hB ⟨h1, trivial⟩ ?_
   refine Zae ?_
   refine Zbg rfl ?_
   refine aR [] [4] [] [I a] [] [] hB trivial ?_
   refine Zba ?_
   refine Zaq ?_
   refine Zbb hB (I a) (by kernel_rfl) (.inl (by refine congrArg I ?_; omega)) rfl (fun _ => trivial)
  refine Zbs [(2, .dec false)] [0, 1, 7] [] [I a, I b, Bv false] [] [¬ (a < b)] hB ⟨h1, trivial⟩ ?_
  refine Zae ?_
  refine Zat rfl ?_
  refine Zaz ?_
  refine Zae ?_
  refine aR [] [4] [] [I b] [] [] hB trivial ?_
  refine Zba ?_
  refine Zbb hB (I b) (by kernel_rfl) (.inl (by refine congrArg I ?_; omega)) rfl (fun _ => trivial)
theorem Zup (s : l00Src) (list : List ByteArray) (hs : Zcq s) (ha : s.atx ≤ 3999999999999999980) (hl : (0 < list.length ∧ list.length ≤ 1000) ∧ ∀ z ∈ list, z.size ≤ 16) : ∃ (v : ByteArray) (s' : l00Src), (v.size ≤ 16) ∧ (Zcq s') ∧ (s'.code = s.code) ∧ (s.atx + 0 ≤ s'.atx ∧ s'.atx ≤ s.atx + 2) ∧ (v ∈ list) ∧ Zbi Tryz.prog 59 [.ref 7001 0, slS false list] (Zaf [(7001, Zab s)]) true (Sv v) (Zaf [(7001, Zab s')]) := by
  have hh : ∃ r : ByteArray × l00Src, ((r.1.size ≤ 16) ∧ (Zcq r.2) ∧ (r.2.code = s.code) ∧ (s.atx + 0 ≤ r.2.atx ∧ r.2.atx ≤ s.atx + 2) ∧ (r.1 ∈ list) ∧ (True)) ∧ Zbi Tryz.prog 59 [.ref 7001 0, slS false list] (Zaf [(7001, Zab s)]) true (Sv r.1) (Zaf [(7001, Zab r.2)]) := by
    refine Zdl (Φ := fun r : ByteArray × l00Src => (r.1.size ≤ 16) ∧ (Zcq r.2) ∧ (r.2.code = s.code) ∧ (s.atx + 0 ≤ r.2.atx ∧ r.2.atx ≤ s.atx + 2) ∧ (r.1 ∈ list) ∧ (True)) [(7001, Zab s)] (fun r => [(7001, Zab r.2)]) (fn := Tryz.f59) (nt := 12) Tryz.func59 rfl rfl (args := [.ref 7001 0, slS false list]) rfl (Zbe (.inr trivial) (Zbe (.inl ⟨rfl, tagS false _⟩) Zdj)) (res := fun r => Sv r.1) ?_
    refine xR [] [0, 1] [7001] [.ref 7001 0, slS false list] [some (Zab s)] [] trivial ?_
    refine Zar ?_
    obtain ⟨v_1, s'_1, hx1_0, hx1_1, hx1_2, hx1_3, hc1⟩ := Ziu s (list.length : Int) (by first | assumption | (simp only [Zcq] at *; simp_all; done)) (by omega)
    refine x_r [(4, .lend [(7001, Zab s, Zab s'_1)] [] [(true, .any), (true, .any)] true (I v_1))] [4] [7001] [Sv (at_ list v_1.toNat)] [some (Zab s'_1)] [Zbi Tryz.prog 70 [.ref 7001 0, I (list.length : Int)] (Zaf [(7001, Zab s)]) true (I v_1) (Zaf [(7001, Zab s'_1)]) ∧ (((Zab s : Ob) = Zab s ∨ Zih Zgf true (Zab s) (Zab s)) ∧ Zbu false (Zab s)) ∧ True, (0 : Int) ≤ v_1 ∧ v_1 < (list.length : Int)] ⟨⟨hc1, ⟨.inl rfl, (by simp [Zbu, Zaj, Zan, Zgz])⟩, trivial⟩, ⟨(by omega), (by omega)⟩, trivial⟩ ?_
    refine Zad ?_
    refine Zdh ?_
    refine Zce ((at_ list v_1.toNat), s'_1) (show ((at_ list v_1.toNat).size ≤ 16) ∧ (Zcq s'_1) ∧ (s'_1.code = s.code) ∧ (s.atx + 0 ≤ s'_1.atx ∧ s'_1.atx ≤ s.atx + 2) ∧ ((at_ list v_1.toNat) ∈ list) ∧ (True) from ⟨(by first | omega | rfl | assumption | (dsimp only; first | omega | rfl | assumption) | (simp only [*]; done) | (exact Zcx (by omega)) | (exact hl.2 _ (Zcx (by omega))) | (simp_all; done)), (by first | omega | rfl | assumption | (dsimp only; first | omega | rfl | assumption) | (simp only [*]; done) | (exact Zcx (by omega)) | (exact hl.2 _ (Zcx (by omega))) | (simp_all; done)), (by first | omega | rfl | assumption | (dsimp only; first | omega | rfl | assumption) | (simp only [*]; done) | (exact Zcx (by omega)) | (exact hl.2 _ (Zcx (by omega))) | (simp_all; done)), (by first | omega | rfl | assumption | (dsimp only; first | omega | rfl | assumption) | (simp only [*]; done) | (exact Zcx (by omega)) | (exact hl.2 _ (Zcx (by omega))) | (simp_all; done)), (by first | omega | rfl | assumption | (dsimp only; first | omega | rfl | assumption) | (simp only [*]; done) | (exact Zcx (by omega)) | (exact hl.2 _ (Zcx (by omega))) | (simp_all; done)), trivial⟩) (⟨.inl rfl, trivial⟩) (Sv (at_ list v_1.toNat)) (by kernel_rfl) (.inl rfl) (fun _ => rfl) (fun _ => trivial)
  obtain ⟨⟨v, s'⟩, ⟨hh0, hh1, hh2, hh3, hh4, _⟩, hc⟩ := hh
  exact ⟨v, s', hh0, hh1, hh2, hh3, hh4, hc⟩
def inB (a l h : Int) : Bool := decide (l ≤ a ∧ a ≤ h)
theorem Zgn {a l h : Int} : inB a l h = true ↔ l ≤ a ∧ a ≤ h := by simp [inB]
theorem Ybk (s : ByteArray) (i : Nat) : 0 ≤ bAt s i ∧ bAt s i ≤ 255 := by
  unfold bAt
  have := (s.data.toList.getD i 0).toNat_lt
  omega
theorem Zjj (n : Int) (low : Int) (high : Int) : Con Tryz.prog 107 [I n, I low, I high] true (Bv (inB n low high)) := by
  refine Zeb (fn := Tryz.f107) (nt := 15) Tryz.func107 rfl rfl rfl rfl (by simp [Zaj, Zan]) fun B hB => ?_
  refine aR [] [0, 1, 2] [] [I n, I low, I high] [] [] hB trivial ?_
  refine Zam ?_
  by_cases h1 : low ≤ n
  ·refine Zbs [(2, .dec true)] [6] [] [Bv (decide (n ≤ high))] [] [low ≤ n] hB ⟨h1, trivial⟩ ?_
   refine Zae ?_
   refine Zba ?_
   refine Zbb hB (Bv (decide (n ≤ high))) (by kernel_rfl) (.inl (by first | rfl | (refine congrArg Bv ?_; simp [inB, *]; done) | (refine congrArg Bv ?_; simp [inB, *]; omega) | (refine congrArg Bv ?_; simp_all [inB]; done) | (refine congrArg Bv ?_; simp_all [inB]; omega))) rfl (fun _ => trivial)
  refine Zbs [(2, .dec false)] [6] [] [Bv false] [] [¬ (low ≤ n)] hB ⟨h1, trivial⟩ ?_
  refine Zae ?_
  refine Zba ?_
  refine Zbb hB (Bv false) (by kernel_rfl) (.inl (by first | rfl | (refine congrArg Bv ?_; simp [inB, *]; done) | (refine congrArg Bv ?_; simp [inB, *]; omega) | (refine congrArg Bv ?_; simp_all [inB]; done) | (refine congrArg Bv ?_; simp_all [inB]; omega))) rfl (fun _ => trivial)
def Zdm (a b : ByteArray) : Int := if Zds a b = true then -1 else if Zds a b = false ∧ a ≠ b then 1 else 0
def orL : List Int → Int
  | [] => 0
  | x :: r => if x = 0 then orL r else x
theorem Ztc [Inhabited Int] {xs : List Int} : ∀ {k : Nat}, k < xs.length → (∀ j, j < k → at_ xs j = 0) → at_ xs k ≠ 0 → orL xs = at_ xs k := by
  induction xs with
  | nil => intro k h; simp at h
  | cons x r ih =>
    intro k h h0 hk
    cases k with
    | zero => have e : at_ (x :: r) 0 = x := rfl; rw [e] at hk ⊢; exact if_neg hk
    | succ k =>
      have e : at_ (x :: r) (k + 1) = at_ r k := by simp [at_]
      have e0 : x = 0 := h0 0 (by omega)
      rw [e] at hk ⊢
      unfold orL; rw [if_pos e0]
      refine ih (by simpa using h) (fun j hj => ?_) hk
      have := h0 (j + 1) (by omega)
      simpa [at_] using this
theorem Zqq [Inhabited Int] {xs : List Int} : (∀ j, j < xs.length → at_ xs j = 0) → orL xs = 0 := by
  induction xs with
  | nil => intro _; rfl
  | cons x r ih =>
    intro h
    have e0 : x = 0 := h 0 (by simp)
    unfold orL; rw [if_pos e0]
    refine ih fun j hj => ?_
    have := h (j + 1) (by simp; omega)
    simpa [at_] using this
theorem Zcm {α : Type} [Inhabited α] {xs : List α} {i : Nat} {x : α} (h : i < xs.length) : at_ (xs.set i x) i = x := by simp [at_, h]
theorem Zcw {α : Type} [Inhabited α] {xs : List α} {i j : Nat} {x : α} (h : i ≠ j) : at_ (xs.set j x) i = at_ xs i := by
  have h' : ¬ j = i := fun e => h e.symm
  simp [at_, List.getElem?_set, h']
def Zdd (a b : Int) : Int := if a < b then -1 else if b < a then 1 else 0
theorem Zjo {a b : Int} : Zdd a b < 0 ↔ a < b := by unfold Zdd; split <;> (try split) <;> omega
theorem Zez {a b : Int} : Zdd a b = 0 ↔ a = b := by unfold Zdd; split <;> (try split) <;> omega
def shfL {α : Type} (p : List α) (x : α) (j : Nat) : List α := p.take j ++ x :: p.drop j
theorem shf_len {α : Type} {p : List α} {x : α} {j : Nat} (h : j ≤ p.length) : (shfL p x j).length = p.length + 1 := by
  simp [shfL]; omega
def posL {α : Type} [Inhabited α] (c : α → α → Int) (x : α) (p : List α) : Nat → Nat
  | 0 => 0
  | j + 1 => if c x (at_ p j) < 0 then posL c x p j else j + 1
theorem Zvb {α : Type} [Inhabited α] (c : α → α → Int) (x : α) (p : List α) : ∀ j : Nat, posL c x p j ≤ j
  | 0 => Nat.le_refl _
  | j + 1 => by unfold posL; split; exact Nat.le_succ_of_le (Zvb c x p j); exact Nat.le_refl _
def insL {α : Type} [Inhabited α] (c : α → α → Int) (p : List α) (x : α) : List α := shfL p x (posL c x p p.length)
def Zuv {α : Type} [Inhabited α] (c : α → α → Int) (xs : List α) : Nat → List α
  | 0 => []
  | k + 1 => insL c (Zuv c xs k) (at_ xs k)
theorem Zjr {α : Type} [Inhabited α] (c : α → α → Int) (xs : List α) : ∀ k : Nat, (Zuv c xs k).length = k
  | 0 => rfl
  | k + 1 => by unfold Zuv insL; rw [shf_len (Zvb _ _ _ _), Zjr c xs k]
theorem shf_perm {α : Type} (p : List α) (x : α) (j : Nat) : List.Perm (shfL p x j) (p ++ [x]) := by
  unfold shfL
  refine List.perm_middle.trans ?_
  rw [List.take_append_drop]
  exact (List.perm_append_singleton x p).symm
theorem Zjp {α : Type} [Inhabited α] (c : α → α → Int) (xs : List α) : ∀ k : Nat, k ≤ xs.length → List.Perm (Zuv c xs k) (xs.take k)
  | 0, _ => by simp [Zuv]
  | k + 1, h => by
    rw [List.take_succ_eq_append_getElem (by omega), ← Zcz (by omega)]
    exact (shf_perm _ _ _).trans ((Zjp c xs k (by omega)).append_right _)
def ordR {α : Type} (c : α → α → Int) (B : α → α → Prop) (x y : α) : Prop := c x y < 0 ∨ c x y = 0 ∧ B x y
structure CmpW {α : Type} (c : α → α → Int) : Prop where
  anti : ∀ x y, c x y < 0 ↔ 0 < c y x
  trans : ∀ x y z, c x y ≤ 0 → c y z < 0 → c x z < 0
theorem CmpW.refl {α : Type} {c : α → α → Int} (h : CmpW c) (x : α) : c x x = 0 := by have := h.anti x x; omega
theorem CmpW.zero {α : Type} {c : α → α → Int} (h : CmpW c) {x y : α} (e : c x y = 0) : c y x = 0 := by have h1 := h.anti x y; have h2 := h.anti y x; omega
theorem CmpW.le {α : Type} {c : α → α → Int} (h : CmpW c) {x y z : α} (h1 : c x y ≤ 0) (h2 : c y z ≤ 0) : c x z ≤ 0 := by
  rcases Int.lt_or_le 0 (c x z) with g | g
  · have q := (h.anti z x).2 g
    have q2 : c y x < 0 := h.trans y z x h2 q
    have := (h.anti y x).1 q2; omega
  · exact g
theorem pos_lo {α : Type} [Inhabited α] {c : α → α → Int} {x : α} {p : List α} : ∀ (n k : Nat), posL c x p n ≤ k → k < n → c x (at_ p k) < 0
  | 0, k, _, h => absurd h (Nat.not_lt_zero _)
  | n + 1, k, h1, h2 => by
    unfold posL at h1
    split at h1
    · rename_i g
      by_cases e : k = n
      · subst e; exact g
      · exact pos_lo n k h1 (by omega)
    · omega
theorem pos_at {α : Type} [Inhabited α] {c : α → α → Int} {x : α} {p : List α} : ∀ n : Nat, posL c x p n = 0 ∨ ¬ c x (at_ p (posL c x p n - 1)) < 0
  | 0 => .inl rfl
  | n + 1 => by
    unfold posL
    split
    · exact pos_at n
    · right; assumption
theorem Zqv {α : Type} [Inhabited α] {c : α → α → Int} (hc : CmpW c) {B : α → α → Prop} {xs : List α} (hB : xs.Pairwise B) : ∀ k : Nat, k ≤ xs.length → (Zuv c xs k).Pairwise (ordR c B)
  | 0, _ => by simp [Zuv]
  | k + 1, h => by
    have ih := Zqv hc hB k (by omega)
    have hp := Zjp c xs k (by omega)
    have hl := Zjr c xs k
    obtain ⟨p, hpe⟩ : ∃ p, p = Zuv c xs k := ⟨_, rfl⟩
    obtain ⟨x, hx⟩ : ∃ x, x = at_ xs k := ⟨_, rfl⟩
    rw [Zuv, ← hpe, ← hx]
    rw [← hpe] at ih hp hl
    have hbx : ∀ y ∈ p, B y x := fun y hy => by
      have hm := hp.mem_iff.1 hy
      obtain ⟨i, hi, e⟩ := List.getElem_of_mem hm
      rw [List.length_take] at hi
      rw [List.getElem_take] at e
      rw [← e, hx, Zcz (by omega)]
      exact (List.pairwise_iff_getElem.1 hB) i k (by omega) (by omega) (by omega)
    unfold insL shfL
    have hj := Zvb c x p p.length
    have lo := fun k hk hk2 => pos_lo (c := c) (x := x) (p := p) p.length k hk hk2
    have hi := pos_at (c := c) (x := x) (p := p) p.length
    generalize posL c x p p.length = j at hj lo hi ⊢
    have hle : ∀ y ∈ p.take j, c y x ≤ 0 := fun y hy => by
      obtain ⟨i, hi2, e⟩ := List.getElem_of_mem hy
      rw [List.length_take] at hi2
      rw [List.getElem_take] at e
      rcases hi with e0 | e0
      · omega
      · have h3 : c (at_ p (j - 1)) x ≤ 0 := by
          rcases Int.lt_or_le 0 (c (at_ p (j - 1)) x) with g | g
          · exact absurd ((hc.anti _ _).2 g) e0
          · exact g
        rw [← e]
        by_cases ei : i = j - 1
        · have : p[i] = at_ p (j - 1) := by rw [Zcz (by omega)]; congr 1
          rw [this]; exact h3
        · have q := (List.pairwise_iff_getElem.1 ih) i (j - 1) (by omega) (by omega) (by omega)
          rw [← Zcz (show j - 1 < p.length by omega)] at q
          refine hc.le ?_ h3
          rcases q with q | q
          · omega
          · omega
    have hgt : ∀ y ∈ p.drop j, c x y < 0 := fun y hy => by
      obtain ⟨i, hi2, e⟩ := List.getElem_of_mem hy
      rw [List.length_drop] at hi2
      rw [List.getElem_drop] at e
      rw [← e, ← Zcz (by omega)]
      exact lo _ (by omega) (by omega)
    rw [List.pairwise_append]
    refine ⟨ih.sublist (List.take_sublist _ _), List.pairwise_cons.2 ⟨fun y hy => .inl (hgt y hy), ih.sublist (List.drop_sublist _ _)⟩, fun a ha b hb => ?_⟩
    rcases List.mem_cons.1 hb with e | e
    · subst e
      have := hle a ha
      by_cases z : c a b = 0
      · exact .inr ⟨z, hbx a (List.mem_of_mem_take ha)⟩
      · exact .inl (by omega)
    · exact .inl (hc.trans a x b (hle a ha) (hgt b e))
theorem bl_irr : ∀ x : List UInt8, Op.bytesLess x x = false
  | [] => rfl
  | a :: x => by
    have h : ¬ a < a := fun q => by have := UInt8.lt_iff_toNat_lt.1 q; omega
    simp [Op.bytesLess, bl_irr x, h]
theorem Ycd : ∀ x y : List UInt8, Op.bytesLess x y = true → Op.bytesLess y x = false
  | [], [], h => by simp [Op.bytesLess] at h
  | [], _ :: _, _ => by simp [Op.bytesLess]
  | _ :: _, [], h => by simp [Op.bytesLess] at h
  | a :: x, b :: y, h => by
    simp only [Op.bytesLess, Bool.or_eq_true, Bool.and_eq_true, decide_eq_true_eq, beq_iff_eq] at h
    rcases h with h | ⟨h, h2⟩
    · have q := UInt8.lt_iff_toNat_lt.1 h
      have n1 : ¬ b < a := fun z => by have := UInt8.lt_iff_toNat_lt.1 z; omega
      have n2 : ¬ b = a := fun z => by subst z; omega
      simp [Op.bytesLess, n1, n2]
    · subst h
      have n1 : ¬ a < a := fun z => by have := UInt8.lt_iff_toNat_lt.1 z; omega
      simp [Op.bytesLess, n1, Ycd x y h2]
theorem Zww : ∀ x y z : List UInt8, Op.bytesLess x y = true → Op.bytesLess y z = true → Op.bytesLess x z = true
  | _, _, [], _, h => by simp [Op.bytesLess] at h
  | _, [], _ :: _, h, _ => by simp [Op.bytesLess] at h
  | [], _ :: _, _ :: _, _, _ => by simp [Op.bytesLess]
  | a :: x, b :: y, c :: z, h1, h2 => by
    simp only [Op.bytesLess, Bool.or_eq_true, Bool.and_eq_true, decide_eq_true_eq, beq_iff_eq] at h1 h2 ⊢
    rcases h1 with h1 | ⟨h1, g1⟩ <;> rcases h2 with h2 | ⟨h2, g2⟩
    · left; have := UInt8.lt_iff_toNat_lt.1 h1; have := UInt8.lt_iff_toNat_lt.1 h2; exact UInt8.lt_iff_toNat_lt.2 (by omega)
    · left; rw [← h2]; exact h1
    · left; rw [h1]; exact h2
    · right; exact ⟨h1.trans h2, Zww x y z g1 g2⟩
theorem bl_tri : ∀ x y : List UInt8, Op.bytesLess x y = false → x ≠ y → Op.bytesLess y x = true
  | [], [], _, h => absurd rfl h
  | [], _ :: _, h, _ => by simp [Op.bytesLess] at h
  | _ :: _, [], _, _ => by simp [Op.bytesLess]
  | a :: x, b :: y, h, hn => by
    simp only [Op.bytesLess, Bool.or_eq_false_iff, decide_eq_false_iff_not] at h
    simp only [Op.bytesLess, Bool.or_eq_true, Bool.and_eq_true, decide_eq_true_eq, beq_iff_eq]
    by_cases e : a = b
    · subst e
      right
      refine ⟨rfl, bl_tri x y ?_ fun q => hn (by rw [q])⟩
      have := h.2
      simpa using this
    · left
      have q : ¬ a.toNat < b.toNat := fun z => h.1 (UInt8.lt_iff_toNat_lt.2 z)
      have q2 : a.toNat ≠ b.toNat := fun z => e (UInt8.toNat_inj.1 z)
      exact UInt8.lt_iff_toNat_lt.2 (by omega)
theorem sl_tri {a b : ByteArray} (h : Zds a b = false) (hn : a ≠ b) : Zds b a = true := by
  unfold Zds at *
  refine bl_tri _ _ h fun q => hn ?_
  rw [Lib.toList_data, Lib.toList_data] at q
  cases a; cases b
  simp only [ByteArray.mk.injEq]
  exact Array.toList_inj.1 q
theorem Zmq {a b : ByteArray} (h : Zds a b = true) : Zds b a = false := Ycd _ _ h
theorem sl_irr (a : ByteArray) : Zds a a = false := bl_irr _
theorem sl_trans {a b c : ByteArray} (h1 : Zds a b = true) (h2 : Zds b c = true) : Zds a c = true := Zww _ _ _ h1 h2
theorem Ybc {a b : ByteArray} (h : Zds a b = true) : a ≠ b := fun e => by subst e; rw [sl_irr] at h; cases h
theorem Zfe {a b : ByteArray} : Zdm a b < 0 ↔ Zds a b = true := by
  unfold Zdm
  by_cases h : Zds a b = true
  · rw [if_pos h]; simp [h]
  · rw [if_neg h]; split <;> simp [h]
theorem Zdc {a b : ByteArray} : Zdm a b = 0 ↔ a = b := by
  unfold Zdm
  by_cases h : Zds a b = true
  · rw [if_pos h]; have := Ybc h; simp [this]
  · rw [if_neg h]
    have h' : Zds a b = false := by simpa using h
    by_cases e : a = b
    · subst e; simp
    · rw [if_pos ⟨h', e⟩]; simp [e]
theorem Zll {a b : ByteArray} : 0 < Zdm a b ↔ Zds b a = true := by
  constructor
  · intro h
    have n1 : ¬ Zdm a b < 0 := by omega
    have n2 : ¬ Zdm a b = 0 := by omega
    rw [Zfe] at n1; rw [Zdc] at n2
    exact sl_tri (by simpa using n1) n2
  · intro h
    have n1 : ¬ Zdm a b < 0 := fun q => by rw [Zfe] at q; have := Zmq q; rw [h] at this; cases this
    have n2 : ¬ Zdm a b = 0 := fun q => by rw [Zdc] at q; exact Ybc h q.symm
    omega
theorem cmpS_w : CmpW Zdm := ⟨fun x y => by rw [Zfe, Zll], fun x y z h1 h2 => by
  rw [Zfe] at *
  by_cases e : Zdm x y = 0
  · rw [Zdc] at e; subst e; exact h2
  · exact sl_trans (Zfe.1 (by omega)) h2⟩
theorem Zoq : CmpW Zdd := ⟨fun x y => by unfold Zdd; split <;> (try split) <;> (try split) <;> omega, fun x y z h1 h2 => by
  rw [Zjo] at *
  have := @Zjo y x
  have := @Zez x y
  have := @Zjo x y
  omega⟩
theorem CmpW.lex {α β : Type} {f : β → α} {c : α → α → Int} {d : β → β → Int} (hc : CmpW c) (hd : CmpW d) : CmpW fun x y : β => if c (f x) (f y) = 0 then d x y else c (f x) (f y) := ⟨fun x y => by
    have a1 := hc.anti (f x) (f y)
    have a2 := hc.anti (f y) (f x)
    have b1 := hd.anti x y
    show (if c (f x) (f y) = 0 then d x y else c (f x) (f y)) < 0 ↔ 0 < (if c (f y) (f x) = 0 then d y x else c (f y) (f x))
    by_cases e : c (f x) (f y) = 0
    · rw [if_pos e, if_pos (hc.zero e)]; exact b1
    · rw [if_neg e, if_neg (fun q => e (hc.zero q))]; exact a1, fun x y z h1 h2 => by
    replace h1 : (if c (f x) (f y) = 0 then d x y else c (f x) (f y)) ≤ 0 := h1
    replace h2 : (if c (f y) (f z) = 0 then d y z else c (f y) (f z)) < 0 := h2
    show (if c (f x) (f z) = 0 then d x z else c (f x) (f z)) < 0
    by_cases e1 : c (f x) (f y) = 0
    · rw [if_pos e1] at h1
      by_cases e2 : c (f y) (f z) = 0
      · rw [if_pos e2] at h2
        have l1 := hc.le (x := f x) (y := f y) (z := f z) (by omega) (by omega)
        have l2 := hc.le (x := f z) (y := f y) (z := f x) (by have := hc.zero e2; omega) (by have := hc.zero e1; omega)
        have a := hc.anti (f x) (f z)
        have a2 := hc.anti (f z) (f x)
        rw [if_pos (by omega)]
        exact hd.trans x y z h1 h2
      · rw [if_neg e2] at h2
        have := hc.trans (f x) (f y) (f z) (by omega) h2
        rw [if_neg (by omega)]; exact this
    · rw [if_neg e1] at h1
      have h1' : c (f x) (f y) < 0 := by omega
      have hz : c (f y) (f z) ≤ 0 := by
        by_cases e2 : c (f y) (f z) = 0
        · omega
        · rw [if_neg e2] at h2; omega
      have l := hc.le (x := f x) (y := f y) (z := f z) (by omega) hz
      have n : c (f x) (f z) ≠ 0 := fun q => by
        have q2 := hc.zero q
        have := hc.trans (f z) (f x) (f y) (by omega) h1'
        have a := hc.anti (f z) (f y)
        omega
      rw [if_neg n]; omega⟩
theorem CmpW.map {α β : Type} {c : α → α → Int} (hc : CmpW c) (f : β → α) : CmpW fun x y : β => c (f x) (f y) := ⟨fun x y => hc.anti _ _, fun x y z => hc.trans _ _ _⟩
theorem Zgq {α : Type} [Inhabited α] {R : α → α → Prop} {xs : List α} (h : xs.Pairwise R) {i j : Nat} (hij : i < j) (hj : j < xs.length) : R (at_ xs i) (at_ xs j) := by
  rw [Zcz (by omega), Zcz hj]
  exact (List.pairwise_iff_getElem.1 h) i j (by omega) hj hij
theorem Zgx {α : Type} [Inhabited α] {c : α → α → Int} (hw : CmpW c) {xs : List α} (hp : xs.Pairwise fun x y => c x y < 0) {e : α} {k : Nat} (hk : k ≤ xs.length) (hlo : k = 0 ∨ ¬ 0 < c (at_ xs (k - 1)) e) (hhi : ∀ j : Nat, k ≤ j → j < xs.length → 0 < c (at_ xs j) e) (hne : ∀ x ∈ xs, c x e ≠ 0) :
    (xs.take k ++ [e] ++ xs.drop k).Pairwise fun x y => c x y < 0 := by
  have hle : ∀ x ∈ xs.take k, c x e < 0 := fun x hx => by
    obtain ⟨i, hi, q⟩ := List.getElem_of_mem hx
    rw [List.length_take] at hi
    rw [List.getElem_take] at q
    rcases hlo with e0 | e0
    · omega
    · have hm := hne _ (Zcx (show k - 1 < xs.length by omega))
      have h1 : c (at_ xs (k - 1)) e < 0 := by omega
      rw [← q, ← Zcz (by omega)]
      by_cases ei : i = k - 1
      · rw [ei]; exact h1
      · exact hw.trans _ _ _ (by have := Zgq hp (show i < k - 1 by omega) (by omega); omega) h1
  have hgt : ∀ y ∈ xs.drop k, c e y < 0 := fun y hy => by
    obtain ⟨i, hi, q⟩ := List.getElem_of_mem hy
    rw [List.length_drop] at hi
    rw [List.getElem_drop] at q
    rw [← q, ← Zcz (by omega)]
    exact (hw.anti _ _).2 (hhi _ (by omega) (by omega))
  rw [List.append_assoc, List.pairwise_append]
  refine ⟨hp.sublist (List.take_sublist _ _), ?_, fun a ha b hb => ?_⟩
  · rw [List.singleton_append]
    exact List.pairwise_cons.2 ⟨hgt, hp.sublist (List.drop_sublist _ _)⟩
  · rw [List.singleton_append] at hb
    rcases List.mem_cons.1 hb with q | q
    · subst q; exact hle a ha
    · have h1 := hle a ha
      exact hw.trans a e b (by omega) (hgt b q)
theorem Zep {α : Type} {xs : List α} {e x : α} {k : Nat} : x ∈ xs.take k ++ [e] ++ xs.drop k ↔ x = e ∨ x ∈ xs := by
  constructor
  · intro h
    rw [List.append_assoc, List.mem_append, List.singleton_append, List.mem_cons] at h
    rcases h with h | h | h
    · exact .inr (List.mem_of_mem_take h)
    · exact .inl h
    · exact .inr (List.mem_of_mem_drop h)
  · intro h
    rw [List.append_assoc, List.mem_append, List.singleton_append, List.mem_cons]
    rcases h with h | h
    · exact .inr (.inl h)
    · rw [← List.take_append_drop k xs, List.mem_append] at h
      rcases h with h | h
      · exact .inl h
      · exact .inr (.inr h)
theorem Zfd {α : Type} {xs : List α} {e : α} {k : Nat} (hk : k ≤ xs.length) : (xs.take k ++ [e] ++ xs.drop k).length = xs.length + 1 := by simp; omega
def Zev (n : Int) : Bool := decide ((97 ≤ n ∧ n ≤ 122) ∨ (48 ≤ n ∧ n ≤ 57) ∨ n = 43 ∨ n = 45 ∨ n = 42 ∨ n = 47 ∨ n = 61 ∨ n = 40 ∨ n = 41 ∨ n = 46 ∨ n = 44)
def Zdt (s : ByteArray) : Bool := decide (s.size = 1) && Zev (bAt s 0)
def Zfu (a b : Edge) : Int := orL [Zdd a.From b.From, Zdd a.To b.To, Zdm a.Label b.Label]
theorem Zke (a b : Edge) : Zfu a b = if Zdd a.From b.From = 0 then (if Zdd a.To b.To = 0 then Zdm a.Label b.Label else Zdd a.To b.To) else Zdd a.From b.From := by
  unfold Zfu orL orL orL orL
  by_cases h1 : Zdd a.From b.From = 0
  · rw [if_pos h1, if_pos h1]
    by_cases h2 : Zdd a.To b.To = 0
    · rw [if_pos h2, if_pos h2]; split
      · rename_i h3; exact h3.symm
      · rfl
    · rw [if_neg h2, if_neg h2]
  · rw [if_neg h1, if_neg h1]
theorem cmpE_w : CmpW Zfu := by
  have h : Zfu = fun x y => if Zdd x.From y.From = 0 then (fun x y : Edge => if Zdd x.To y.To = 0 then (fun x y : Edge => Zdm x.Label y.Label) x y else Zdd x.To y.To) x y else Zdd x.From y.From := funext fun a => funext fun b => Zke a b
  rw [h]
  exact CmpW.lex (f := Edge.From) Zoq (CmpW.lex (f := Edge.To) Zoq (cmpS_w.map Edge.Label))
def okEd (l : Lattice) (e : Edge) : Prop := (0 ≤ e.From ∧ e.From < e.To ∧ e.To < l.Nodes) ∧ (0 ≤ e.Cost ∧ e.Cost ≤ 1000000) ∧ Zdt e.Label = true
def Zcg (l : Lattice) : Prop := (1 ≤ l.Nodes ∧ l.Nodes ≤ 20) ∧ l.Edges.length ≤ 200 ∧ (∀ i : Nat, i < l.Edges.length → okEd l (at_ l.Edges i)) ∧ l.Edges.Pairwise fun x y => Zfu x y < 0
theorem Zeh {s : ByteArray} (h : Zdt s = true) : s.size = 1 := by simp only [Zdt, Bool.and_eq_true, decide_eq_true_eq] at h; exact h.1
theorem Zkf (l : Lattice) (e : Edge) (he : okEd l e) (hn : l.Nodes ≤ 20) : Con Tryz.prog 108 [.ptr false [I l.Nodes, Zag false l.Edges], .ptr false [I e.From, I e.To, Sv e.Label, I e.Cost]] true (Bv true) := by
  have h1 := he.1
  have h2 := he.2.1
  refine Zeb (fn := Tryz.f108) (nt := 40) Tryz.func108 rfl rfl rfl rfl (by simp [Zaj, Zan, Zdv]) fun B hB => ?_
  refine Zea (x := .ptr false [I l.Nodes, Zag false l.Edges]) 0 rfl (fun len_l => ?_)
  simp [Zfx, Zkq, Zie, Zcv, Zag] at len_l
  refine aR [] [0, 1] [] [.ptr false [I l.Nodes, Zag false l.Edges], .ptr false [I e.From, I e.To, Sv e.Label, I e.Cost]] [] [] hB trivial ?_
  refine aR [(4, .dec true), (14, .dec true), (26, .dec true), (33, .call [(true, .any), (true, .any), (true, .any)] true (Bv (inB e.Cost 0 1000000)))] [4] [] [Bv (inB e.Cost 0 1000000)] [] [0 ≤ e.From, e.From < e.To, inR .i64 (l.Nodes - 1), e.To ≤ (l.Nodes - 1), Con Tryz.prog 107 [I e.Cost, I 0, I 1000000] true (Bv (inB e.Cost 0 1000000)) ∧ True] hB ⟨(by omega), (by omega), (Zah (by omega) (by omega)), (by omega), ⟨(Zjj e.Cost 0 1000000), trivial⟩, trivial⟩ ?_
  refine Zba ?_
  refine Zbb hB (Bv (inB e.Cost 0 1000000)) (by kernel_rfl) (.inl (by first | rfl | (simp [inB]; omega))) rfl (fun _ => trivial)
theorem Zhg (c : Int) : Con Tryz.prog 163 [.val (.int .u8 c)] true (Bv (inB c 97 122)) := by
  refine Zeb (fn := Tryz.f163) (nt := 9) Tryz.func163 rfl rfl rfl rfl (by simp [Zaj, Zan]) fun B hB => ?_
  refine aR [] [0] [] [.val (.int .u8 c)] [] [] hB trivial ?_
  refine Zam ?_
  by_cases h1 : 97 ≤ c
  ·refine Zbs [(1, .dec true)] [2] [] [Bv (decide (c ≤ 122))] [] [97 ≤ c] hB ⟨h1, trivial⟩ ?_
   refine Zae ?_
   refine Zba ?_
   refine Zbb hB (Bv (decide (c ≤ 122))) (by kernel_rfl) (.inl (by first | rfl | (refine congrArg Bv ?_; simp [inB, *]; done) | (refine congrArg Bv ?_; simp [inB, *]; omega) | (refine congrArg Bv ?_; simp_all [inB]; done) | (refine congrArg Bv ?_; simp_all [inB]; omega))) rfl (fun _ => trivial)
  refine Zbs [(1, .dec false)] [2] [] [Bv false] [] [¬ (97 ≤ c)] hB ⟨h1, trivial⟩ ?_
  refine Zae ?_
  refine Zba ?_
  refine Zbb hB (Bv false) (by kernel_rfl) (.inl (by first | rfl | (refine congrArg Bv ?_; simp [inB, *]; done) | (refine congrArg Bv ?_; simp [inB, *]; omega) | (refine congrArg Bv ?_; simp_all [inB]; done) | (refine congrArg Bv ?_; simp_all [inB]; omega))) rfl (fun _ => trivial)
theorem Zvc (c : Int) : Con Tryz.prog 161 [.val (.int .u8 c)] true (Bv (Zev c)) := by
  refine Zeb (fn := Tryz.f161) (nt := 24) Tryz.func161 rfl rfl rfl rfl (by simp [Zaj, Zan]) fun B hB => ?_
  refine aR [] [0] [] [.val (.int .u8 c)] [] [] hB trivial ?_
  refine Zam ?_
  refine aR [] [0, 3] [] [.val (.int .u8 c), .val (.int .u8 c)] [] [] hB trivial ?_
  refine Zbo ?_
  refine Zam ?_
  refine Zam ?_
  by_cases h1 : c = 43
  ·refine Zbs [(0, .dec true)] [0, 3, 4] [] [.val (.int .u8 c), .val (.int .u8 c), Bv true] [] [c = 43] hB ⟨h1, trivial⟩ ?_
   refine Zae ?_
   refine Zbg rfl ?_
   refine Zaz ?_
   refine Zae ?_
   refine Zbg rfl ?_
   refine aR [] [2] [] [Bv true] [] [] hB trivial ?_
   refine Zba ?_
   refine Zay (Zaq ?_)
   refine Zbb hB (Bv true) (by kernel_rfl) (.inl (by first | rfl | (refine congrArg Bv ?_; simp [Zev, inB, *]; done) | (refine congrArg Bv ?_; simp [Zev, inB, *]; omega) | (refine congrArg Bv ?_; simp_all [Zev, inB]; done) | (refine congrArg Bv ?_; simp_all [Zev, inB]; omega))) rfl (fun _ => trivial)
  refine Zbs [(0, .dec false)] [0, 3, 4] [] [.val (.int .u8 c), .val (.int .u8 c), Bv false] [] [¬ (c = 43)] hB ⟨h1, trivial⟩ ?_
  refine Zae ?_
  refine Zat rfl ?_
  refine Zam ?_
  by_cases h2 : c = 45
  ·refine Zbs [(0, .dec true)] [0, 3, 4] [] [.val (.int .u8 c), .val (.int .u8 c), Bv true] [] [c = 45] hB ⟨h2, trivial⟩ ?_
   refine Zae ?_
   refine Zbg rfl ?_
   refine Zaz ?_
   refine Zae ?_
   refine Zbg rfl ?_
   refine aR [] [2] [] [Bv true] [] [] hB trivial ?_
   refine Zba ?_
   refine Zay (Zaq ?_)
   refine Zbb hB (Bv true) (by kernel_rfl) (.inl (by first | rfl | (refine congrArg Bv ?_; simp [Zev, inB, *]; done) | (refine congrArg Bv ?_; simp [Zev, inB, *]; omega) | (refine congrArg Bv ?_; simp_all [Zev, inB]; done) | (refine congrArg Bv ?_; simp_all [Zev, inB]; omega))) rfl (fun _ => trivial)
  refine Zbs [(0, .dec false)] [0, 3, 4] [] [.val (.int .u8 c), .val (.int .u8 c), Bv false] [] [¬ (c = 45)] hB ⟨h2, trivial⟩ ?_
  refine Zae ?_
  refine Zat rfl ?_
  refine Zam ?_
  by_cases h3 : c = 42
  ·refine Zbs [(0, .dec true)] [0, 3, 4] [] [.val (.int .u8 c), .val (.int .u8 c), Bv true] [] [c = 42] hB ⟨h3, trivial⟩ ?_
   refine Zae ?_
   refine Zbg rfl ?_
   refine Zaz ?_
   refine Zae ?_
   refine Zbg rfl ?_
   refine aR [] [2] [] [Bv true] [] [] hB trivial ?_
   refine Zba ?_
   refine Zay (Zaq ?_)
   refine Zbb hB (Bv true) (by kernel_rfl) (.inl (by first | rfl | (refine congrArg Bv ?_; simp [Zev, inB, *]; done) | (refine congrArg Bv ?_; simp [Zev, inB, *]; omega) | (refine congrArg Bv ?_; simp_all [Zev, inB]; done) | (refine congrArg Bv ?_; simp_all [Zev, inB]; omega))) rfl (fun _ => trivial)
  refine Zbs [(0, .dec false)] [0, 3, 4] [] [.val (.int .u8 c), .val (.int .u8 c), Bv false] [] [¬ (c = 42)] hB ⟨h3, trivial⟩ ?_
  refine Zae ?_
  refine Zat rfl ?_
  refine Zam ?_
  by_cases h4 : c = 47
  ·refine Zbs [(0, .dec true)] [0, 3, 4] [] [.val (.int .u8 c), .val (.int .u8 c), Bv true] [] [c = 47] hB ⟨h4, trivial⟩ ?_
   refine Zae ?_
   refine Zbg rfl ?_
   refine Zaz ?_
   refine Zae ?_
   refine Zbg rfl ?_
   refine aR [] [2] [] [Bv true] [] [] hB trivial ?_
   refine Zba ?_
   refine Zay (Zaq ?_)
   refine Zbb hB (Bv true) (by kernel_rfl) (.inl (by first | rfl | (refine congrArg Bv ?_; simp [Zev, inB, *]; done) | (refine congrArg Bv ?_; simp [Zev, inB, *]; omega) | (refine congrArg Bv ?_; simp_all [Zev, inB]; done) | (refine congrArg Bv ?_; simp_all [Zev, inB]; omega))) rfl (fun _ => trivial)
  refine Zbs [(0, .dec false)] [0, 3, 4] [] [.val (.int .u8 c), .val (.int .u8 c), Bv false] [] [¬ (c = 47)] hB ⟨h4, trivial⟩ ?_
  refine Zae ?_
  refine Zat rfl ?_
  refine Zam ?_
  by_cases h5 : c = 61
  ·refine Zbs [(0, .dec true)] [0, 3, 4] [] [.val (.int .u8 c), .val (.int .u8 c), Bv true] [] [c = 61] hB ⟨h5, trivial⟩ ?_
   refine Zae ?_
   refine Zbg rfl ?_
   refine Zaz ?_
   refine Zae ?_
   refine Zbg rfl ?_
   refine aR [] [2] [] [Bv true] [] [] hB trivial ?_
   refine Zba ?_
   refine Zay (Zaq ?_)
   refine Zbb hB (Bv true) (by kernel_rfl) (.inl (by first | rfl | (refine congrArg Bv ?_; simp [Zev, inB, *]; done) | (refine congrArg Bv ?_; simp [Zev, inB, *]; omega) | (refine congrArg Bv ?_; simp_all [Zev, inB]; done) | (refine congrArg Bv ?_; simp_all [Zev, inB]; omega))) rfl (fun _ => trivial)
  refine Zbs [(0, .dec false)] [0, 3, 4] [] [.val (.int .u8 c), .val (.int .u8 c), Bv false] [] [¬ (c = 61)] hB ⟨h5, trivial⟩ ?_
  refine Zae ?_
  refine Zat rfl ?_
  refine Zam ?_
  by_cases h6 : c = 40
  ·refine Zbs [(0, .dec true)] [0, 3, 4] [] [.val (.int .u8 c), .val (.int .u8 c), Bv true] [] [c = 40] hB ⟨h6, trivial⟩ ?_
   refine Zae ?_
   refine Zbg rfl ?_
   refine Zaz ?_
   refine Zae ?_
   refine Zbg rfl ?_
   refine aR [] [2] [] [Bv true] [] [] hB trivial ?_
   refine Zba ?_
   refine Zay (Zaq ?_)
   refine Zbb hB (Bv true) (by kernel_rfl) (.inl (by first | rfl | (refine congrArg Bv ?_; simp [Zev, inB, *]; done) | (refine congrArg Bv ?_; simp [Zev, inB, *]; omega) | (refine congrArg Bv ?_; simp_all [Zev, inB]; done) | (refine congrArg Bv ?_; simp_all [Zev, inB]; omega))) rfl (fun _ => trivial)
  refine Zbs [(0, .dec false)] [0, 3, 4] [] [.val (.int .u8 c), .val (.int .u8 c), Bv false] [] [¬ (c = 40)] hB ⟨h6, trivial⟩ ?_
  refine Zae ?_
  refine Zat rfl ?_
  refine Zam ?_
  by_cases h7 : c = 41
  ·refine Zbs [(0, .dec true)] [0, 3, 4] [] [.val (.int .u8 c), .val (.int .u8 c), Bv true] [] [c = 41] hB ⟨h7, trivial⟩ ?_
   refine Zae ?_
   refine Zbg rfl ?_
   refine Zaz ?_
   refine Zae ?_
   refine Zbg rfl ?_
   refine aR [] [2] [] [Bv true] [] [] hB trivial ?_
   refine Zba ?_
   refine Zay (Zaq ?_)
   refine Zbb hB (Bv true) (by kernel_rfl) (.inl (by first | rfl | (refine congrArg Bv ?_; simp [Zev, inB, *]; done) | (refine congrArg Bv ?_; simp [Zev, inB, *]; omega) | (refine congrArg Bv ?_; simp_all [Zev, inB]; done) | (refine congrArg Bv ?_; simp_all [Zev, inB]; omega))) rfl (fun _ => trivial)
  refine Zbs [(0, .dec false)] [0, 3, 4] [] [.val (.int .u8 c), .val (.int .u8 c), Bv false] [] [¬ (c = 41)] hB ⟨h7, trivial⟩ ?_
  refine Zae ?_
  refine Zat rfl ?_
  refine Zam ?_
  by_cases h8 : c = 46
  ·refine Zbs [(0, .dec true)] [0, 3, 4] [] [.val (.int .u8 c), .val (.int .u8 c), Bv true] [] [c = 46] hB ⟨h8, trivial⟩ ?_
   refine Zae ?_
   refine Zbg rfl ?_
   refine Zaz ?_
   refine Zae ?_
   refine Zbg rfl ?_
   refine aR [] [2] [] [Bv true] [] [] hB trivial ?_
   refine Zba ?_
   refine Zay (Zaq ?_)
   refine Zbb hB (Bv true) (by kernel_rfl) (.inl (by first | rfl | (refine congrArg Bv ?_; simp [Zev, inB, *]; done) | (refine congrArg Bv ?_; simp [Zev, inB, *]; omega) | (refine congrArg Bv ?_; simp_all [Zev, inB]; done) | (refine congrArg Bv ?_; simp_all [Zev, inB]; omega))) rfl (fun _ => trivial)
  refine Zbs [(0, .dec false)] [0, 3, 4] [] [.val (.int .u8 c), .val (.int .u8 c), Bv false] [] [¬ (c = 46)] hB ⟨h8, trivial⟩ ?_
  refine Zae ?_
  refine Zat rfl ?_
  by_cases h9 : c = 44
  ·refine Zbs [(0, .dec true)] [0, 4] [] [.val (.int .u8 c), Bv true] [] [c = 44] hB ⟨h9, trivial⟩ ?_
   refine Zae ?_
   refine Zbg rfl ?_
   refine aR [] [2] [] [Bv true] [] [] hB trivial ?_
   refine Zba ?_
   refine Zay (Zaq ?_)
   refine Zbb hB (Bv true) (by kernel_rfl) (.inl (by first | rfl | (refine congrArg Bv ?_; simp [Zev, inB, *]; done) | (refine congrArg Bv ?_; simp [Zev, inB, *]; omega) | (refine congrArg Bv ?_; simp_all [Zev, inB]; done) | (refine congrArg Bv ?_; simp_all [Zev, inB]; omega))) rfl (fun _ => trivial)
  refine Zbs [(0, .dec false)] [0, 4] [] [.val (.int .u8 c), Bv false] [] [¬ (c = 44)] hB ⟨h9, trivial⟩ ?_
  refine Zae ?_
  refine Zat rfl ?_
  refine Zaz ?_
  refine Zbz 0 ?_
  refine Zae ?_
  refine Zam ?_
  rcases Bool.eq_false_or_eq_true (inB c 97 122) with h10 | h10
  ·refine Zbs [(1, .call [(true, .any)] true (Bv true))] [2] [] [Bv true] [] [Con Tryz.prog 163 [.val (.int .u8 c)] true (Bv true) ∧ True] hB ⟨⟨(Zbv h10 (Zhg c)), trivial⟩, trivial⟩ ?_
   refine Zae ?_
   refine Zba ?_
   refine Zbb hB (Bv true) (by kernel_rfl) (.inl (by first | rfl | (refine congrArg Bv ?_; simp [Zev, inB, *]; done) | (refine congrArg Bv ?_; simp [Zev, inB, *]; omega) | (refine congrArg Bv ?_; simp_all [Zev, inB]; done) | (refine congrArg Bv ?_; simp_all [Zev, inB]; omega))) rfl (fun _ => trivial)
  by_cases h11 : 48 ≤ c
  ·refine Zbs [(1, .call [(true, .any)] true (Bv false)), (4, .dec true)] [2] [] [Bv (decide (c ≤ 57))] [] [Con Tryz.prog 163 [.val (.int .u8 c)] true (Bv false) ∧ True, 48 ≤ c] hB ⟨⟨(Zbv h10 (Zhg c)), trivial⟩, h11, trivial⟩ ?_
   refine Zae ?_
   refine Zba ?_
   refine Zbb hB (Bv (decide (c ≤ 57))) (by kernel_rfl) (.inl (by first | rfl | (refine congrArg Bv ?_; simp [Zev, inB, *]; done) | (refine congrArg Bv ?_; simp [Zev, inB, *]; omega) | (refine congrArg Bv ?_; simp_all [Zev, inB]; done) | (refine congrArg Bv ?_; simp_all [Zev, inB]; omega))) rfl (fun _ => trivial)
  refine Zbs [(1, .call [(true, .any)] true (Bv false)), (4, .dec false)] [2] [] [Bv false] [] [Con Tryz.prog 163 [.val (.int .u8 c)] true (Bv false) ∧ True, ¬ (48 ≤ c)] hB ⟨⟨(Zbv h10 (Zhg c)), trivial⟩, h11, trivial⟩ ?_
  refine Zae ?_
  refine Zba ?_
  refine Zbb hB (Bv false) (by kernel_rfl) (.inl (by first | rfl | (refine congrArg Bv ?_; simp [Zev, inB, *]; done) | (refine congrArg Bv ?_; simp [Zev, inB, *]; omega) | (refine congrArg Bv ?_; simp_all [Zev, inB]; done) | (refine congrArg Bv ?_; simp_all [Zev, inB]; omega))) rfl (fun _ => trivial)
theorem Zgp (s : ByteArray) (ok : s.size ≤ 9223372036854775807) : Con Tryz.prog 109 [Sv s] true (Bv (Zdt s)) := by
  refine Zeb (fn := Tryz.f109) (nt := 11) Tryz.func109 rfl rfl rfl rfl (by simp [Zaj, Zan]) fun B hB => ?_
  refine aR [] [0] [] [Sv s] [] [] hB trivial ?_
  refine Zam ?_
  by_cases h1 : (s.size : Int) = 1
  ·refine Zbs [(2, .dec true), (6, .call [(true, .any)] true (Bv (Zev (bAt s 0))))] [2] [] [Bv (Zev (bAt s 0))] [] [(s.size : Int) = 1, (0 : Int) ≤ 0 ∧ 0 < (s.size : Int), Con Tryz.prog 161 [.val (.int .u8 (bAt s 0))] true (Bv (Zev (bAt s 0))) ∧ True] hB ⟨h1, ⟨(by omega), (by omega)⟩, ⟨(Zvc (bAt s 0)), trivial⟩, trivial⟩ ?_
   refine Zae ?_
   refine Zba ?_
   refine Zbb hB (Bv (Zev (bAt s 0))) (by kernel_rfl) (.inl (by first | rfl | (refine congrArg Bv ?_; simp [Zdt, *]; done) | (refine congrArg Bv ?_; simp [Zdt, *]; omega) | (refine congrArg Bv ?_; simp_all [Zdt]; done) | (refine congrArg Bv ?_; simp_all [Zdt]; omega))) rfl (fun _ => trivial)
  refine Zbs [(2, .dec false)] [2] [] [Bv false] [] [¬ ((s.size : Int) = 1)] hB ⟨h1, trivial⟩ ?_
  refine Zae ?_
  refine Zba ?_
  refine Zbb hB (Bv false) (by kernel_rfl) (.inl (by first | rfl | (refine congrArg Bv ?_; simp [Zdt, *]; done) | (refine congrArg Bv ?_; simp [Zdt, *]; omega) | (refine congrArg Bv ?_; simp_all [Zdt]; done) | (refine congrArg Bv ?_; simp_all [Zdt]; omega))) rfl (fun _ => trivial)
theorem Zou (a : Int) (b : Int) : Con Tryz.prog 162 [I a, I b] true (I (Zdd a b)) := by
  refine Zeb (fn := Tryz.f162) (nt := 13) Tryz.func162 rfl rfl rfl rfl (by simp [Zaj, Zan]) fun B hB => ?_
  refine aR [] [0, 1] [] [I a, I b] [] [] hB trivial ?_
  refine Zam ?_
  refine Zbo ?_
  refine Zam ?_
  by_cases h1 : a < b
  ·refine Zbs [(2, .dec true)] [0, 1, 5] [] [I a, I b, Bv true] [] [a < b] hB ⟨h1, trivial⟩ ?_
   refine Zae ?_
   refine Zbg rfl ?_
   refine aR [] [4] [] [I (-1)] [] [] hB trivial ?_
   refine Zba ?_
   refine Zay (Zaq ?_)
   refine Zbb hB (I (-1)) (by kernel_rfl) (.inl (by refine congrArg I ?_; unfold Zdd; first | (rw [if_pos (by omega)]; done) | (rw [if_neg (by omega), if_pos (by omega)]; done) | (rw [if_neg (by omega), if_neg (by omega)]; done))) rfl (fun _ => trivial)
  refine Zbs [(2, .dec false)] [0, 1, 5] [] [I a, I b, Bv false] [] [¬ (a < b)] hB ⟨h1, trivial⟩ ?_
  refine Zae ?_
  refine Zat rfl ?_
  refine Zam ?_
  by_cases h2 : b < a
  ·refine Zbs [(2, .dec true)] [9] [] [Bv true] [] [b < a] hB ⟨h2, trivial⟩ ?_
   refine Zae ?_
   refine Zbg rfl ?_
   refine aR [] [4] [] [I 1] [] [] hB trivial ?_
   refine Zba ?_
   refine Zay (Zaq ?_)
   refine Zbb hB (I 1) (by kernel_rfl) (.inl (by refine congrArg I ?_; unfold Zdd; first | (rw [if_pos (by omega)]; done) | (rw [if_neg (by omega), if_pos (by omega)]; done) | (rw [if_neg (by omega), if_neg (by omega)]; done))) rfl (fun _ => trivial)
  refine Zbs [(2, .dec false)] [9] [] [Bv false] [] [¬ (b < a)] hB ⟨h2, trivial⟩ ?_
  refine Zae ?_
  refine Zat rfl ?_
  refine Zaz ?_
  refine Zbz 0 ?_
  refine Zae ?_
  refine aR [] [4] [] [I 0] [] [] hB trivial ?_
  refine Zba ?_
  refine Zbb hB (I 0) (by kernel_rfl) (.inl (by refine congrArg I ?_; unfold Zdd; first | (rw [if_pos (by omega)]; done) | (rw [if_neg (by omega), if_pos (by omega)]; done) | (rw [if_neg (by omega), if_neg (by omega)]; done))) rfl (fun _ => trivial)
theorem Zgc (a : Edge) (b : Edge) : Con Tryz.prog 110 [.ptr false [I a.From, I a.To, Sv a.Label, I a.Cost], .ptr false [I b.From, I b.To, Sv b.Label, I b.Cost]] true (I (Zfu a b)) := by
  refine Zeb (fn := Tryz.f110) (nt := 61) Tryz.func110 rfl rfl rfl rfl (by simp [Zaj, Zan]) fun B hB => ?_
  refine aR [] [0, 1] [] [.ptr false [I a.From, I a.To, Sv a.Label, I a.Cost], .ptr false [I b.From, I b.To, Sv b.Label, I b.Cost]] [] [] hB trivial ?_
  refine Zam ?_
  refine Zam ?_
  by_cases h1 : a.From = b.From
  ·refine Zbs [(8, .dec false)] [0, 1, 13] [] [.ptr false [I a.From, I a.To, Sv a.Label, I a.Cost], .ptr false [I b.From, I b.To, Sv b.Label, I b.Cost], Bv false] [] [¬ (a.From ≠ b.From)] hB ⟨(fun hq => hq h1), trivial⟩ ?_
   refine Zae ?_
   refine Zat rfl ?_
   refine Zaz ?_
   refine Zae ?_
   refine Zam ?_
   refine Zam ?_
   by_cases h2 : a.To = b.To
   ·refine Zbs [(8, .dec false)] [0, 1, 31] [] [.ptr false [I a.From, I a.To, Sv a.Label, I a.Cost], .ptr false [I b.From, I b.To, Sv b.Label, I b.Cost], Bv false] [] [¬ (a.To ≠ b.To)] hB ⟨(fun hq => hq h2), trivial⟩ ?_
    refine Zae ?_
    refine Zat rfl ?_
    refine Zaz ?_
    refine Zae ?_
    refine Zam ?_
    refine Zbo ?_
    refine Zam ?_
    by_cases h3 : Zds a.Label b.Label = true
    ·refine Zbs [(8, .dec true)] [0, 1, 41] [] [.ptr false [I a.From, I a.To, Sv a.Label, I a.Cost], .ptr false [I b.From, I b.To, Sv b.Label, I b.Cost], Bv true] [] [Zds a.Label b.Label = true] hB ⟨h3, trivial⟩ ?_
     refine Zae ?_
     refine Zbg rfl ?_
     refine aR [] [4] [] [I (-1)] [] [] hB trivial ?_
     refine Zba ?_
     refine Zay (Zaq ?_)
     refine Zbb hB (I (-1)) (by kernel_rfl) (.inl (by refine congrArg I ?_; rw [Zke]; simp only [Zez, *]; first | rfl | (simp; done) | (unfold Zdm; simp [*]; done) | (have hq : a.Label = b.Label := by (by_cases q : a.Label = b.Label; (exact q); (simp_all))); (simp [Zdc.2 hq]))) rfl (fun _ => trivial)
    refine Zbs [(8, .dec false)] [0, 1, 41] [] [.ptr false [I a.From, I a.To, Sv a.Label, I a.Cost], .ptr false [I b.From, I b.To, Sv b.Label, I b.Cost], Bv false] [] [¬ (Zds a.Label b.Label = true)] hB ⟨h3, trivial⟩ ?_
    refine Zae ?_
    refine Zat rfl ?_
    refine Zam ?_
    by_cases h4 : Zds a.Label b.Label = false ∧ a.Label ≠ b.Label
    ·refine Zbs [(8, .dec true)] [51] [] [Bv true] [] [Zds a.Label b.Label = false ∧ a.Label ≠ b.Label] hB ⟨h4, trivial⟩ ?_
     refine Zae ?_
     refine Zbg rfl ?_
     refine aR [] [4] [] [I 1] [] [] hB trivial ?_
     refine Zba ?_
     refine Zay (Zaq ?_)
     refine Zbb hB (I 1) (by kernel_rfl) (.inl (by refine congrArg I ?_; rw [Zke]; simp only [Zez, *]; first | rfl | (simp; done) | (unfold Zdm; simp [*]; done) | (have hq : a.Label = b.Label := by (by_cases q : a.Label = b.Label; (exact q); (simp_all))); (simp [Zdc.2 hq]))) rfl (fun _ => trivial)
    refine Zbs [(8, .dec false)] [51] [] [Bv false] [] [¬ (Zds a.Label b.Label = false ∧ a.Label ≠ b.Label)] hB ⟨h4, trivial⟩ ?_
    refine Zae ?_
    refine Zat rfl ?_
    refine Zaz ?_
    refine Zbz 0 ?_
    refine Zae ?_
    refine aR [] [4] [] [I 0] [] [] hB trivial ?_
    refine Zba ?_
    refine Zbb hB (I 0) (by kernel_rfl) (.inl (by refine congrArg I ?_; rw [Zke]; simp only [Zez, *]; first | rfl | (simp; done) | (unfold Zdm; simp [*]; done) | (have hq : a.Label = b.Label := by (by_cases q : a.Label = b.Label; (exact q); (simp_all))); (simp [Zdc.2 hq]))) rfl (fun _ => trivial)
   refine Zbs [(8, .dec true)] [0, 1, 31] [] [.ptr false [I a.From, I a.To, Sv a.Label, I a.Cost], .ptr false [I b.From, I b.To, Sv b.Label, I b.Cost], Bv true] [] [a.To ≠ b.To] hB ⟨h2, trivial⟩ ?_
   refine Zae ?_
   refine Zbg rfl ?_
   refine aR [(8, .call [(true, .any), (true, .any)] true (I (Zdd a.To b.To)))] [4] [] [I (Zdd a.To b.To)] [] [Con Tryz.prog 162 [I a.To, I b.To] true (I (Zdd a.To b.To)) ∧ True] hB ⟨⟨(Zou a.To b.To), trivial⟩, trivial⟩ ?_
   refine Zba ?_
   refine Zaq ?_
   refine Zbb hB (I (Zdd a.To b.To)) (by kernel_rfl) (.inl (by refine congrArg I ?_; rw [Zke]; simp only [Zez, *]; first | rfl | (simp; done) | (unfold Zdm; simp [*]; done) | (have hq : a.Label = b.Label := by (by_cases q : a.Label = b.Label; (exact q); (simp_all))); (simp [Zdc.2 hq]))) rfl (fun _ => trivial)
  refine Zbs [(8, .dec true)] [0, 1, 13] [] [.ptr false [I a.From, I a.To, Sv a.Label, I a.Cost], .ptr false [I b.From, I b.To, Sv b.Label, I b.Cost], Bv true] [] [a.From ≠ b.From] hB ⟨h1, trivial⟩ ?_
  refine Zae ?_
  refine Zbg rfl ?_
  refine aR [(8, .call [(true, .any), (true, .any)] true (I (Zdd a.From b.From)))] [4] [] [I (Zdd a.From b.From)] [] [Con Tryz.prog 162 [I a.From, I b.From] true (I (Zdd a.From b.From)) ∧ True] hB ⟨⟨(Zou a.From b.From), trivial⟩, trivial⟩ ?_
  refine Zba ?_
  refine Zaq ?_
  refine Zbb hB (I (Zdd a.From b.From)) (by kernel_rfl) (.inl (by refine congrArg I ?_; rw [Zke]; simp only [Zez, *]; first | rfl | (simp; done) | (unfold Zdm; simp [*]; done) | (have hq : a.Label = b.Label := by (by_cases q : a.Label = b.Label; (exact q); (simp_all))); (simp [Zdc.2 hq]))) rfl (fun _ => trivial)
theorem Zwl (l : Lattice) (hl : Zcg l) : Con Tryz.prog 55 [.ptr false [I l.Nodes, Zag false l.Edges]] true (Bv true) := by
  have hn := hl.1
  have hc := hl.2.1
  refine Zeb (fn := Tryz.f55) (nt := 69) Tryz.func55 rfl rfl rfl rfl (by simp [Zaj, Zan, Zdv]) fun B hB => ?_
  refine Zea (x := .ptr false [I l.Nodes, Zag false l.Edges]) 0 rfl (fun len_l => ?_)
  simp [Zfx, Zkq, Zie, Zcv, Zag] at len_l
  refine aR [] [0] [] [.ptr false [I l.Nodes, Zag false l.Edges]] [] [] hB trivial ?_
  refine Zam ?_
  refine aR [(4, .call [(true, .any), (true, .any), (true, .any)] true (Bv true)), (12, .dec false)] [0, 17] [] [.ptr false [I l.Nodes, Zag false l.Edges], Bv false] [] [Con Tryz.prog 107 [I l.Nodes, I 1, I 20] true (Bv true) ∧ True, ¬ (200 < (l.Edges.length : Int))] hB ⟨⟨(Zbv (Zgn.2 hl.1) (Zjj l.Nodes 1 20)), trivial⟩, (by omega), trivial⟩ ?_
  refine Zat rfl ?_
  refine Zaz ?_
  refine Zae ?_
  refine Zam ?_
  refine aR [] [0, 3] [] [.ptr false [I l.Nodes, Zag false l.Edges], I 0] [] [] hB trivial ?_
  refine Zbo ?_
  refine Zed (fun gn gσ => ∃ (i : Int), gn = ((l.Edges.length : Int) - i).toNat ∧ (0 ≤ i ∧ i ≤ (l.Edges.length : Int)) ∧ gσ = mkS [(0, .ptr false [I l.Nodes, Zag false l.Edges]), (3, I i)] []) (((l.Edges.length : Int) - 0).toNat) ⟨0, rfl, (by omega), rfl⟩ (fun gn gσ hI => ?_)
  obtain ⟨i, rfl, hi0, rfl⟩ := hI
  refine Zam ?_
  refine Zam ?_
  by_cases h1 : i < (l.Edges.length : Int)
  ·have hi : i.toNat < l.Edges.length := by omega
   have hed := hl.2.2.1 _ hi
   refine Zbs [(6, .dec true)] [0, 3, 24] [] [.ptr false [I l.Nodes, Zag false l.Edges], I i, Bv true] [] [i < (l.Edges.length : Int)] hB ⟨h1, trivial⟩ ?_
   refine Zae ?_
   refine Zbg rfl ?_
   refine Zaz ?_
   refine Zae ?_
   refine Zam ?_
   refine Zbo ?_
   refine Zam ?_
   by_cases h2 : 0 < i
   ·have hpr := Zgq hl.2.2.2 (show (i - 1).toNat < i.toNat by omega) hi
    refine Zbs [(7, .call [(true, .any), (true, .any)] true (Bv true)), (18, .call [(true, .any)] true (Bv true)), (23, .dec true), (38, .call [(true, .any), (true, .any)] true (I (Zfu (at_ l.Edges ((i - 1).toNat)) (at_ l.Edges i.toNat)))), (39, .dec false)] [0, 3, 68] [] [.ptr false [I l.Nodes, Zag false l.Edges], I i, Bv false] [] [(0 : Int) ≤ i ∧ i < (l.Edges.length : Int), Con Tryz.prog 108 [.ptr false [I l.Nodes, Zag false l.Edges], .ptr false [I ((at_ l.Edges i.toNat).From), I ((at_ l.Edges i.toNat).To), Sv ((at_ l.Edges i.toNat).Label), I ((at_ l.Edges i.toNat).Cost)]] true (Bv true) ∧ True, (0 : Int) ≤ i ∧ i < (l.Edges.length : Int), Con Tryz.prog 109 [Sv ((at_ l.Edges i.toNat).Label)] true (Bv true) ∧ True, 0 < i, inR .i64 (i - 1), (0 : Int) ≤ (i - 1) ∧ (i - 1) < (l.Edges.length : Int), (0 : Int) ≤ i ∧ i < (l.Edges.length : Int), Con Tryz.prog 110 [.ptr false [I ((at_ l.Edges ((i - 1).toNat)).From), I ((at_ l.Edges ((i - 1).toNat)).To), Sv ((at_ l.Edges ((i - 1).toNat)).Label), I ((at_ l.Edges ((i - 1).toNat)).Cost)], .ptr false [I ((at_ l.Edges i.toNat).From), I ((at_ l.Edges i.toNat).To), Sv ((at_ l.Edges i.toNat).Label), I ((at_ l.Edges i.toNat).Cost)]] true (I (Zfu (at_ l.Edges ((i - 1).toNat)) (at_ l.Edges i.toNat))) ∧ True, ¬ (0 ≤ (Zfu (at_ l.Edges ((i - 1).toNat)) (at_ l.Edges i.toNat)))] hB ⟨⟨(by omega), (by omega)⟩, ⟨(Zkf l (at_ l.Edges i.toNat) hed (by omega)), trivial⟩, ⟨(by omega), (by omega)⟩, ⟨(Zbv hed.2.2 (Zgp ((at_ l.Edges i.toNat).Label) (by have := Zeh hed.2.2; omega))), trivial⟩, h2, (Zah (by omega) (by omega)), ⟨(by omega), (by omega)⟩, ⟨(by omega), (by omega)⟩, ⟨(Zgc (at_ l.Edges ((i - 1).toNat)) (at_ l.Edges i.toNat)), trivial⟩, (by omega), trivial⟩ ?_
    refine Zae ?_
    refine Zat rfl ?_
    refine Zaz ?_
    refine Zbz 1 ?_
    refine Zae ?_
    refine Zbs [] [0, 3] [] [.ptr false [I l.Nodes, Zag false l.Edges], I (i + 1)] [] [inR .i64 (i + 1)] hB ⟨(Zah (by omega) (by omega)), trivial⟩ ?_
    exact Zcc _ (by omega) ⟨(i + 1), rfl, (by omega), rfl⟩
   refine Zbs [(7, .call [(true, .any), (true, .any)] true (Bv true)), (18, .call [(true, .any)] true (Bv true)), (23, .dec false)] [0, 3, 68] [] [.ptr false [I l.Nodes, Zag false l.Edges], I i, Bv false] [] [(0 : Int) ≤ i ∧ i < (l.Edges.length : Int), Con Tryz.prog 108 [.ptr false [I l.Nodes, Zag false l.Edges], .ptr false [I ((at_ l.Edges i.toNat).From), I ((at_ l.Edges i.toNat).To), Sv ((at_ l.Edges i.toNat).Label), I ((at_ l.Edges i.toNat).Cost)]] true (Bv true) ∧ True, (0 : Int) ≤ i ∧ i < (l.Edges.length : Int), Con Tryz.prog 109 [Sv ((at_ l.Edges i.toNat).Label)] true (Bv true) ∧ True, ¬ (0 < i)] hB ⟨⟨(by omega), (by omega)⟩, ⟨(Zkf l (at_ l.Edges i.toNat) hed (by omega)), trivial⟩, ⟨(by omega), (by omega)⟩, ⟨(Zbv hed.2.2 (Zgp ((at_ l.Edges i.toNat).Label) (by have := Zeh hed.2.2; omega))), trivial⟩, h2, trivial⟩ ?_
   refine Zae ?_
   refine Zat rfl ?_
   refine Zaz ?_
   refine Zbz 1 ?_
   refine Zae ?_
   refine Zbs [] [0, 3] [] [.ptr false [I l.Nodes, Zag false l.Edges], I (i + 1)] [] [inR .i64 (i + 1)] hB ⟨(Zah (by omega) (by omega)), trivial⟩ ?_
   exact Zcc _ (by omega) ⟨(i + 1), rfl, (by omega), rfl⟩
  refine Zbs [(6, .dec false)] [0, 3, 24] [] [.ptr false [I l.Nodes, Zag false l.Edges], I i, Bv false] [] [¬ (i < (l.Edges.length : Int))] hB ⟨h1, trivial⟩ ?_
  refine Zae ?_
  refine Zat rfl ?_
  refine Zee ?_
  refine Zau ?_
  refine Zau ?_
  refine Zca ?_
  refine Zae ?_
  refine aR [] [2] [] [Bv true] [] [] hB trivial ?_
  refine Zba ?_
  refine Zbb hB (Bv true) (by kernel_rfl) (.inl rfl) rfl (fun _ => trivial)
theorem Yce {l : Lattice} {e : Edge} {v : List Edge} (h : Zcg l) (he : okEd l e) (hl : v.length = l.Edges.length + 1) (h2 : l.Edges.length < 200) (hm : ∀ x ∈ v, x = e ∨ x ∈ l.Edges) (hp : v.Pairwise fun x y => Zfu x y < 0) : Zcg ⟨l.Nodes, v⟩ := by
  refine ⟨h.1, by show v.length ≤ 200; omega, fun i hi => ?_, hp⟩
  rcases hm _ (Zcx hi) with q | q
  · show okEd _ (at_ v i); rw [q]; exact he
  · obtain ⟨j, hj, e2⟩ := List.getElem_of_mem q
    have := h.2.2.1 j hj
    rw [Zcz hj, e2] at this
    exact this
theorem Ycf {n : Int} (h : 1 ≤ n ∧ n ≤ 20) : Zcg ⟨n, []⟩ := ⟨h, Nat.zero_le _, fun i hi => absurd hi (Nat.not_lt_zero _), List.Pairwise.nil⟩
theorem Ycg (list : List Edge) (e : Edge) (hp : list.Pairwise fun x_ y_ => Zfu x_ y_ < 0) (hne : ∀ x ∈ list, Zfu x e ≠ 0) (hll : list.length ≤ 1000) : ∃ (v : List Edge), (v.length = list.length + 1) ∧ (∀ x ∈ v, x = e ∨ x ∈ list) ∧ (v.Pairwise fun x_ y_ => Zfu x_ y_ < 0) ∧ Con Tryz.prog 145 [Zag false list, Zgj e] true (Zag true v) := by
  have hh : ∃ r : (List Edge), ((r.length = list.length + 1) ∧ (∀ x ∈ r, x = e ∨ x ∈ list) ∧ (r.Pairwise fun x_ y_ => Zfu x_ y_ < 0) ∧ (True)) ∧ Zbi Tryz.prog 145 [Zag false list, Zgj e] (Zaf []) true (Zag true r) (Zaf []) := by
    refine Zdl (Φ := fun r : (List Edge) => (r.length = list.length + 1) ∧ (∀ x ∈ r, x = e ∨ x ∈ list) ∧ (r.Pairwise fun x_ y_ => Zfu x_ y_ < 0) ∧ (True)) [] (fun r => []) (fn := Tryz.f145) (nt := 35) Tryz.func145 rfl rfl (args := [Zag false list, Zgj e]) rfl (Zbe (.inl ⟨rfl, Zdv false _⟩) (Zbe (.inl ⟨rfl, by simp [Zan, Zaj]⟩) Zdj)) (res := fun r => Zag true r) ?_
    refine xR [(0, .new 3)] [0, 3] [3] [Zag false list, .ref 3 0] [some (Zbj e)] [] trivial ?_
    refine xR [] [0, 3, 5] [3] [Zag false list, .ref 3 0, I (list.length : Int)] [some (Zbj e)] [] trivial ?_
    refine Zar ?_
    refine Zbp ?_
    refine Zel (X := Int) (fun x => mkS [(0, Zag false list), (3, .ref 3 0), (5, I x)] [(3, Zbj e)]) (fun x => (0 ≤ x ∧ x ≤ (list.length : Int)) ∧ (∀ j : Nat, x ≤ (j : Int) → j < list.length → 0 < Zfu (at_ list j) e) ∧ True) (fun x => x.toNat) (list.length : Int) rfl (show (0 ≤ (list.length : Int) ∧ (list.length : Int) ≤ (list.length : Int)) ∧ (∀ j : Nat, (list.length : Int) ≤ (j : Int) → j < list.length → 0 < Zfu (at_ list j) e) ∧ True from ⟨(by omega), (by intro j h1 h2; omega), trivial⟩) (fun x hI => ?_)
    obtain ⟨k, hxx⟩ : ∃ k : Int, k = x := ⟨x, rfl⟩
    subst hxx
    obtain ⟨hk0, hhi, _⟩ : (0 ≤ k ∧ k ≤ (list.length : Int)) ∧ (∀ j : Nat, k ≤ (j : Int) → j < list.length → 0 < Zfu (at_ list j) e) ∧ True := hI
    show XW _ _ _ _ (mkS [(0, Zag false list), (3, .ref 3 0), (5, I k)] [(3, Zbj e)]) _ _
    refine Zar ?_
    refine Zar ?_
    by_cases h1 : 0 < k
    ·have hkl : (k - 1).toNat < list.length := by omega
     by_cases h2 : 0 < (Zfu (at_ list ((k - 1).toNat)) e)
     ·have hgn : ∀ j : Nat, k - 1 ≤ (j : Int) → j < list.length → 0 < Zfu (at_ list j) e := fun j q1 q2 => by by_cases q : (j : Int) = k - 1; (rw [show j = (k - 1).toNat from by omega]; exact h2); (exact hhi j (by omega) q2)
      refine x_r [(1, .dec true), (7, .call [(true, .any), (false, .ptr false [I e.From, I e.To, Sv e.Label, I e.Cost])] true (I (Zfu (at_ list ((k - 1).toNat)) e))), (8, .dec true)] [0, 3, 5, 18] [3] [Zag false list, .ref 3 0, I k, Bv true] [some (Zbj e)] [0 < k, inR .i64 (k - 1), (0 : Int) ≤ (k - 1) ∧ (k - 1) < (list.length : Int), Con Tryz.prog 110 [.ptr false [I ((at_ list ((k - 1).toNat)).From), I ((at_ list ((k - 1).toNat)).To), Sv ((at_ list ((k - 1).toNat)).Label), I ((at_ list ((k - 1).toNat)).Cost)], .ptr false [I e.From, I e.To, Sv e.Label, I e.Cost]] true (I (Zfu (at_ list ((k - 1).toNat)) e)) ∧ ((false = true → true = true) ∧ AV.idsL [I e.From, I e.To, Sv e.Label, I e.Cost] = [] ∧ (Zcp (I e.From) = Zcp (I e.From)) ∧ (Zcp (I e.To) = Zcp (I e.To)) ∧ (Zcp (Sv e.Label) = Zcp (Sv e.Label)) ∧ (Zcp (I e.Cost) = Zcp (I e.Cost)) ∧ ([] : List AV) = []) ∧ True, 0 < (Zfu (at_ list ((k - 1).toNat)) e)] ⟨h1, (Zah (by omega) (by omega)), ⟨(by omega), (by omega)⟩, ⟨(Zgc (at_ list ((k - 1).toNat)) e), ⟨(fun h => by cases h), rfl, ⟨rfl, ⟨rfl, ⟨rfl, ⟨rfl, rfl⟩⟩⟩⟩⟩, trivial⟩, h2, trivial⟩ ?_
      refine Zad ?_
      refine Zcb rfl ?_
      refine Zbk ?_
      refine Zad ?_
      refine Zbp ?_
      refine x_r [] [0, 3, 5] [3] [Zag false list, .ref 3 0, I (k - 1)] [some (Zbj e)] [inR .i64 (k - 1)] ⟨(Zah (by omega) (by omega)), trivial⟩ ?_
      refine Zbw 1 ?_
      exact Zbm (k - 1) rfl (show (0 ≤ (k - 1) ∧ (k - 1) ≤ (list.length : Int)) ∧ (∀ j : Nat, (k - 1) ≤ (j : Int) → j < list.length → 0 < Zfu (at_ list j) e) ∧ True from ⟨(by omega), (by exact hgn), trivial⟩) (by first | (show ((k - 1).toNat : Nat) < k.toNat; omega) | (dsimp only; omega))
     have hlo : k.toNat = 0 ∨ ¬ 0 < Zfu (at_ list (k.toNat - 1)) e := Or.inr (by rw [show k.toNat - 1 = (k - 1).toNat from by omega]; exact h2)
     refine x_r [(1, .dec true), (7, .call [(true, .any), (false, .ptr false [I e.From, I e.To, Sv e.Label, I e.Cost])] true (I (Zfu (at_ list ((k - 1).toNat)) e))), (8, .dec false)] [0, 3, 5, 18] [3] [Zag false list, .ref 3 0, I k, Bv false] [some (Zbj e)] [0 < k, inR .i64 (k - 1), (0 : Int) ≤ (k - 1) ∧ (k - 1) < (list.length : Int), Con Tryz.prog 110 [.ptr false [I ((at_ list ((k - 1).toNat)).From), I ((at_ list ((k - 1).toNat)).To), Sv ((at_ list ((k - 1).toNat)).Label), I ((at_ list ((k - 1).toNat)).Cost)], .ptr false [I e.From, I e.To, Sv e.Label, I e.Cost]] true (I (Zfu (at_ list ((k - 1).toNat)) e)) ∧ ((false = true → true = true) ∧ AV.idsL [I e.From, I e.To, Sv e.Label, I e.Cost] = [] ∧ (Zcp (I e.From) = Zcp (I e.From)) ∧ (Zcp (I e.To) = Zcp (I e.To)) ∧ (Zcp (Sv e.Label) = Zcp (Sv e.Label)) ∧ (Zcp (I e.Cost) = Zcp (I e.Cost)) ∧ ([] : List AV) = []) ∧ True, ¬ (0 < (Zfu (at_ list ((k - 1).toNat)) e))] ⟨h1, (Zah (by omega) (by omega)), ⟨(by omega), (by omega)⟩, ⟨(Zgc (at_ list ((k - 1).toNat)) e), ⟨(fun h => by cases h), rfl, ⟨rfl, ⟨rfl, ⟨rfl, ⟨rfl, rfl⟩⟩⟩⟩⟩, trivial⟩, h2, trivial⟩ ?_
     refine Zad ?_
     refine Zav rfl ?_
     refine Zdo ?_
     refine Zaw ?_
     refine Zbd ?_
     refine Zax ?_
     refine Zad ?_
     refine xR [(0, .new 21), (4, .new 25)] [0, 3, 5, 6] [3, 25] [Zag false list, .ref 3 0, I k, .arr 25] [some (Zbj e), some (.arr 4 (0 + (k.toNat - 0)) (Zfm 0 (Zgd [] 4) (Zks 0 (Zcv list))))] [(0 : Int) ≤ 0 ∧ (0 : Int) ≤ k ∧ k ≤ (list.length : Int), (0 + (k.toNat - 0)) * 40 ≤ 140737488355328] ⟨⟨(by omega), (by omega), (by omega)⟩, (by omega), trivial⟩ ?_
     refine xR [(2, .new 28), (3, .new 29)] [0, 5, 6] [29] [Zag false list, I k, .arr 29] [some (.arr 4 ((0 + (k.toNat - 0)) + 1) (Zfm (0 + (k.toNat - 0)) (Zfm 0 (Zgd [] 4) (Zks 0 (Zcv list))) (Zgd [I e.From, I e.To, Sv e.Label, I e.Cost] 4)))] [((0 + (k.toNat - 0)) + 1) * 40 ≤ 140737488355328] ⟨(by omega), trivial⟩ ?_
     refine xR [(4, .new 34)] [4] [34] [.arr 34] [some (.arr 4 (((0 + (k.toNat - 0)) + 1) + ((list.length : Int).toNat - k.toNat)) (Zfm ((0 + (k.toNat - 0)) + 1) (Zfm (0 + (k.toNat - 0)) (Zfm 0 (Zgd [] 4) (Zks 0 (Zcv list))) (Zgd [I e.From, I e.To, Sv e.Label, I e.Cost] 4)) (Zks k.toNat (Zcv list))))] [(0 : Int) ≤ k ∧ k ≤ (list.length : Int) ∧ (list.length : Int) ≤ (list.length : Int), (((0 + (k.toNat - 0)) + 1) + ((list.length : Int).toNat - k.toNat)) * 40 ≤ 140737488355328] ⟨⟨(by omega), (by omega), (by omega)⟩, (by omega), trivial⟩ ?_
     refine Zdh ?_
     refine Zce (((list.take k.toNat) ++ [e]) ++ (list.drop k.toNat)) (show ((((list.take k.toNat) ++ [e]) ++ (list.drop k.toNat)).length = list.length + 1) ∧ (∀ x ∈ (((list.take k.toNat) ++ [e]) ++ (list.drop k.toNat)), x = e ∨ x ∈ list) ∧ ((((list.take k.toNat) ++ [e]) ++ (list.drop k.toNat)).Pairwise fun x_ y_ => Zfu x_ y_ < 0) ∧ (True) from ⟨(by first | exact Zfd (by omega) | exact fun x hx => Zep.1 hx | exact Zgx cmpE_w hp (by omega) hlo (fun j h1 h2 => hhi j (by omega) h2) hne), (by first | exact Zfd (by omega) | exact fun x hx => Zep.1 hx | exact Zgx cmpE_w hp (by omega) hlo (fun j h1 h2 => hhi j (by omega) h2) hne), (by first | exact Zfd (by omega) | exact fun x hx => Zep.1 hx | exact Zgx cmpE_w hp (by omega) hlo (fun j h1 h2 => hhi j (by omega) h2) hne), trivial⟩) (trivial) (.arr 34) (by kernel_rfl) (.inr ⟨(fun _ => rfl), rfl, (by first | rfl | (simp; done) | (simp; omega) | omega), fun i_ hi_ => .inl (Zhm (enc := Zie) (xs := ((list.take k.toNat) ++ [e])) (ys := (list.drop k.toNat)) (by first | rfl | (simp; done) | (simp; omega)) (fun i_ hi_ => (Zhm (enc := Zie) (xs := (list.take k.toNat)) (ys := [e]) (by first | rfl | (simp; done) | (simp; omega)) (fun i_ hi_ => ((Zlw i_).trans ((fun i_ hi_ => (Zix (enc := Zie) hi_)) i_ hi_))) (fun i_ hi_ => (match i_, hi_ with | 0, _ => rfl | (i + 1), h => absurd h (by simp))) i_ hi_)) (fun i_ hi_ => (Zkz (enc := Zie) hi_)) i_ hi_)⟩) (fun _ => rfl) (fun _ => (Zdv true _))
    have hlo : k.toNat = 0 ∨ ¬ 0 < Zfu (at_ list (k.toNat - 1)) e := Or.inl (by omega)
    refine x_r [(1, .dec false)] [0, 3, 5, 18] [3] [Zag false list, .ref 3 0, I k, Bv false] [some (Zbj e)] [¬ (0 < k)] ⟨h1, trivial⟩ ?_
    refine Zad ?_
    refine Zav rfl ?_
    refine Zdo ?_
    refine Zaw ?_
    refine Zbd ?_
    refine Zax ?_
    refine Zad ?_
    refine xR [(0, .new 21), (4, .new 25)] [0, 3, 5, 6] [3, 25] [Zag false list, .ref 3 0, I k, .arr 25] [some (Zbj e), some (.arr 4 (0 + (k.toNat - 0)) (Zfm 0 (Zgd [] 4) (Zks 0 (Zcv list))))] [(0 : Int) ≤ 0 ∧ (0 : Int) ≤ k ∧ k ≤ (list.length : Int), (0 + (k.toNat - 0)) * 40 ≤ 140737488355328] ⟨⟨(by omega), (by omega), (by omega)⟩, (by omega), trivial⟩ ?_
    refine xR [(2, .new 28), (3, .new 29)] [0, 5, 6] [29] [Zag false list, I k, .arr 29] [some (.arr 4 ((0 + (k.toNat - 0)) + 1) (Zfm (0 + (k.toNat - 0)) (Zfm 0 (Zgd [] 4) (Zks 0 (Zcv list))) (Zgd [I e.From, I e.To, Sv e.Label, I e.Cost] 4)))] [((0 + (k.toNat - 0)) + 1) * 40 ≤ 140737488355328] ⟨(by omega), trivial⟩ ?_
    refine xR [(4, .new 34)] [4] [34] [.arr 34] [some (.arr 4 (((0 + (k.toNat - 0)) + 1) + ((list.length : Int).toNat - k.toNat)) (Zfm ((0 + (k.toNat - 0)) + 1) (Zfm (0 + (k.toNat - 0)) (Zfm 0 (Zgd [] 4) (Zks 0 (Zcv list))) (Zgd [I e.From, I e.To, Sv e.Label, I e.Cost] 4)) (Zks k.toNat (Zcv list))))] [(0 : Int) ≤ k ∧ k ≤ (list.length : Int) ∧ (list.length : Int) ≤ (list.length : Int), (((0 + (k.toNat - 0)) + 1) + ((list.length : Int).toNat - k.toNat)) * 40 ≤ 140737488355328] ⟨⟨(by omega), (by omega), (by omega)⟩, (by omega), trivial⟩ ?_
    refine Zdh ?_
    refine Zce (((list.take k.toNat) ++ [e]) ++ (list.drop k.toNat)) (show ((((list.take k.toNat) ++ [e]) ++ (list.drop k.toNat)).length = list.length + 1) ∧ (∀ x ∈ (((list.take k.toNat) ++ [e]) ++ (list.drop k.toNat)), x = e ∨ x ∈ list) ∧ ((((list.take k.toNat) ++ [e]) ++ (list.drop k.toNat)).Pairwise fun x_ y_ => Zfu x_ y_ < 0) ∧ (True) from ⟨(by first | exact Zfd (by omega) | exact fun x hx => Zep.1 hx | exact Zgx cmpE_w hp (by omega) hlo (fun j h1 h2 => hhi j (by omega) h2) hne), (by first | exact Zfd (by omega) | exact fun x hx => Zep.1 hx | exact Zgx cmpE_w hp (by omega) hlo (fun j h1 h2 => hhi j (by omega) h2) hne), (by first | exact Zfd (by omega) | exact fun x hx => Zep.1 hx | exact Zgx cmpE_w hp (by omega) hlo (fun j h1 h2 => hhi j (by omega) h2) hne), trivial⟩) (trivial) (.arr 34) (by kernel_rfl) (.inr ⟨(fun _ => rfl), rfl, (by first | rfl | (simp; done) | (simp; omega) | omega), fun i_ hi_ => .inl (Zhm (enc := Zie) (xs := ((list.take k.toNat) ++ [e])) (ys := (list.drop k.toNat)) (by first | rfl | (simp; done) | (simp; omega)) (fun i_ hi_ => (Zhm (enc := Zie) (xs := (list.take k.toNat)) (ys := [e]) (by first | rfl | (simp; done) | (simp; omega)) (fun i_ hi_ => ((Zlw i_).trans ((fun i_ hi_ => (Zix (enc := Zie) hi_)) i_ hi_))) (fun i_ hi_ => (match i_, hi_ with | 0, _ => rfl | (i + 1), h => absurd h (by simp))) i_ hi_)) (fun i_ hi_ => (Zkz (enc := Zie) hi_)) i_ hi_)⟩) (fun _ => rfl) (fun _ => (Zdv true _))
  obtain ⟨v, ⟨hh0, hh1, hh2, _⟩, hc⟩ := hh
  exact ⟨v, hh0, hh1, hh2, hc⟩
theorem Znr (l : Lattice) (e : Edge) (hl : Zcg l) (he : okEd l e) : ∃ (v : Lattice) (c : Int), (c = 0 → Zcg v ∧ v.Nodes = l.Nodes ∧ ∀ x ∈ v.Edges, x = e ∨ x ∈ l.Edges) ∧ (0 ≤ c ∧ c ≤ 20) ∧ Con Tryz.prog 90 [Zbh l, Zgj e] true (.tup [Zcn v, I c]) := by
  have hn := hl.1
  have hc := hl.2.1
  have hh : ∃ r : Lattice × Int, ((r.2 = 0 → Zcg r.1 ∧ r.1.Nodes = l.Nodes ∧ ∀ x ∈ r.1.Edges, x = e ∨ x ∈ l.Edges) ∧ (0 ≤ r.2 ∧ r.2 ≤ 20) ∧ (True)) ∧ Zbi Tryz.prog 90 [Zbh l, Zgj e] (Zaf []) true (.tup [Zcn r.1, I r.2]) (Zaf []) := by
    refine Zdl (Φ := fun r : Lattice × Int => (r.2 = 0 → Zcg r.1 ∧ r.1.Nodes = l.Nodes ∧ ∀ x ∈ r.1.Edges, x = e ∨ x ∈ l.Edges) ∧ (0 ≤ r.2 ∧ r.2 ≤ 20) ∧ (True)) [] (fun r => []) (fn := Tryz.f90) (nt := 44) Tryz.func90 rfl rfl (args := [Zbh l, Zgj e]) rfl (Zbe (.inl ⟨rfl, by simp [Zan, Zaj, Zdv]⟩) (Zbe (.inl ⟨rfl, by simp [Zan, Zaj]⟩) Zdj)) (res := fun r => .tup [Zcn r.1, I r.2]) ?_
    refine xR [(0, .new 2), (1, .new 3), (2, .new 4)] [2, 3, 4] [2, 3, 4] [.ref 2 0, .ref 3 0, .ref 4 0] [some (Zac l), some (Zbj e), some (.box [I 0, Zde])] [] trivial ?_
    refine Zar ?_
    refine xR [(0, .call [(false, .ptr false [I l.Nodes, Zag false l.Edges])] true (Bv true))] [2, 3, 4, 8] [2, 3, 4] [.ref 2 0, .ref 3 0, .ref 4 0, Bv false] [some (Zac l), some (Zbj e), some (.box [I 0, Zde])] [Con Tryz.prog 55 [.ptr false [I l.Nodes, Zag false l.Edges]] true (Bv true) ∧ ((false = true → true = true) ∧ AV.idsL [I l.Nodes, Zag false l.Edges] = [] ∧ (Zcp (I l.Nodes) = Zcp (I l.Nodes)) ∧ ((false = true → false = true) ∧ 4 = 4 ∧ l.Edges.length = l.Edges.length ∧ ∀ i_, i_ < l.Edges.length → (Zcv l.Edges) i_ = (Zcv l.Edges) i_ ∨ (AV.idsL ((Zcv l.Edges) i_) = [] ∧ leL (fun _ => none) false ((Zcv l.Edges) i_) ((Zcv l.Edges) i_))) ∧ ([] : List AV) = []) ∧ True] ⟨⟨(Zwl l hl), ⟨(fun h => by cases h), rfl, ⟨rfl, ⟨⟨(fun h => by cases h), rfl, rfl, fun i _ => .inl rfl⟩, rfl⟩⟩⟩, trivial⟩, trivial⟩ ?_
    refine Zav rfl ?_
    refine Zbk ?_
    refine Zad ?_
    refine Zar ?_
    refine xR [(0, .call [(false, .ptr false [I l.Nodes, Zag false l.Edges]), (false, .ptr false [I e.From, I e.To, Sv e.Label, I e.Cost])] true (Bv true))] [2, 3, 4, 11] [2, 3, 4] [.ref 2 0, .ref 3 0, .ref 4 0, Bv false] [some (Zac l), some (Zbj e), some (.box [I 0, Zde])] [Con Tryz.prog 108 [.ptr false [I l.Nodes, Zag false l.Edges], .ptr false [I e.From, I e.To, Sv e.Label, I e.Cost]] true (Bv true) ∧ ((false = true → true = true) ∧ AV.idsL [I l.Nodes, Zag false l.Edges] = [] ∧ (Zcp (I l.Nodes) = Zcp (I l.Nodes)) ∧ ((false = true → false = true) ∧ 4 = 4 ∧ l.Edges.length = l.Edges.length ∧ ∀ i_, i_ < l.Edges.length → (Zcv l.Edges) i_ = (Zcv l.Edges) i_ ∨ (AV.idsL ((Zcv l.Edges) i_) = [] ∧ leL (fun _ => none) false ((Zcv l.Edges) i_) ((Zcv l.Edges) i_))) ∧ ([] : List AV) = []) ∧ ((false = true → true = true) ∧ AV.idsL [I e.From, I e.To, Sv e.Label, I e.Cost] = [] ∧ (Zcp (I e.From) = Zcp (I e.From)) ∧ (Zcp (I e.To) = Zcp (I e.To)) ∧ (Zcp (Sv e.Label) = Zcp (Sv e.Label)) ∧ (Zcp (I e.Cost) = Zcp (I e.Cost)) ∧ ([] : List AV) = []) ∧ True] ⟨⟨(Zkf l e he (by omega)), ⟨(fun h => by cases h), rfl, ⟨rfl, ⟨⟨(fun h => by cases h), rfl, rfl, fun i _ => .inl rfl⟩, rfl⟩⟩⟩, ⟨(fun h => by cases h), rfl, ⟨rfl, ⟨rfl, ⟨rfl, ⟨rfl, rfl⟩⟩⟩⟩⟩, trivial⟩, trivial⟩ ?_
    refine Zav rfl ?_
    refine Zbk ?_
    refine Zad ?_
    refine Zar ?_
    refine xR [(2, .call [(true, .any)] true (Bv true))] [2, 3, 4, 16] [2, 3, 4] [.ref 2 0, .ref 3 0, .ref 4 0, Bv false] [some (Zac l), some (Zbj e), some (.box [I 0, Zde])] [Con Tryz.prog 109 [Sv e.Label] true (Bv true) ∧ True] ⟨⟨(Zbv he.2.2 (Zgp e.Label (by have := Zeh he.2.2; omega))), trivial⟩, trivial⟩ ?_
    refine Zav rfl ?_
    refine Zbk ?_
    refine Zad ?_
    refine Zar ?_
    refine xR [] [2, 3, 4, 6] [2, 3, 4] [.ref 2 0, .ref 3 0, .ref 4 0, I 0] [some (Zac l), some (Zbj e), some (.box [I 0, Zde])] [] trivial ?_
    refine Zbp ?_
    refine Zel (X := Int) (fun x => mkS [(2, .ref 2 0), (3, .ref 3 0), (4, .ref 4 0), (6, I x)] [(2, Zac l), (3, Zbj e), (4, .box [I 0, Zde])]) (fun x => (0 ≤ x ∧ x ≤ (l.Edges.length : Int)) ∧ (∀ j : Nat, (j : Int) < x → Zfu (at_ l.Edges j) e ≠ 0) ∧ True) (fun x => ((l.Edges.length : Int) - x).toNat) 0 rfl (show (0 ≤ (0 : Int) ∧ (0 : Int) ≤ (l.Edges.length : Int)) ∧ (∀ j : Nat, (j : Int) < (0 : Int) → Zfu (at_ l.Edges j) e ≠ 0) ∧ True from ⟨(by omega), (by intro j hj; omega), trivial⟩) (fun x hI => ?_)
    obtain ⟨i, hxx⟩ : ∃ i : Int, i = x := ⟨x, rfl⟩
    subst hxx
    obtain ⟨hi0, hz0, _⟩ : (0 ≤ i ∧ i ≤ (l.Edges.length : Int)) ∧ (∀ j : Nat, (j : Int) < i → Zfu (at_ l.Edges j) e ≠ 0) ∧ True := hI
    show XW _ _ _ _ (mkS [(2, .ref 2 0), (3, .ref 3 0), (4, .ref 4 0), (6, I i)] [(2, Zac l), (3, Zbj e), (4, .box [I 0, Zde])]) _ _
    refine Zar ?_
    refine Zar ?_
    by_cases h1 : i < (l.Edges.length : Int)
    ·have hi : i.toNat < l.Edges.length := by omega
     refine x_r [(4, .dec true)] [2, 3, 4, 6, 22] [2, 3, 4] [.ref 2 0, .ref 3 0, .ref 4 0, I i, Bv true] [some (Zac l), some (Zbj e), some (.box [I 0, Zde])] [i < (l.Edges.length : Int)] ⟨h1, trivial⟩ ?_
     refine Zad ?_
     refine Zcb rfl ?_
     refine Zbk ?_
     refine Zad ?_
     refine Zar ?_
     refine Zbp ?_
     refine Zar ?_
     by_cases h2 : (Zfu (at_ l.Edges i.toNat) e) = 0
     ·refine x_r [(4, .call [(true, .any), (false, .ptr false [I e.From, I e.To, Sv e.Label, I e.Cost])] true (I (Zfu (at_ l.Edges i.toNat) e))), (5, .dec true)] [2, 3, 4, 6, 30] [2, 3, 4] [.ref 2 0, .ref 3 0, .ref 4 0, I i, Bv true] [some (Zac l), some (Zbj e), some (.box [I 0, Zde])] [(0 : Int) ≤ i ∧ i < (l.Edges.length : Int), Con Tryz.prog 110 [.ptr false [I ((at_ l.Edges i.toNat).From), I ((at_ l.Edges i.toNat).To), Sv ((at_ l.Edges i.toNat).Label), I ((at_ l.Edges i.toNat).Cost)], .ptr false [I e.From, I e.To, Sv e.Label, I e.Cost]] true (I (Zfu (at_ l.Edges i.toNat) e)) ∧ ((false = true → true = true) ∧ AV.idsL [I e.From, I e.To, Sv e.Label, I e.Cost] = [] ∧ (Zcp (I e.From) = Zcp (I e.From)) ∧ (Zcp (I e.To) = Zcp (I e.To)) ∧ (Zcp (Sv e.Label) = Zcp (Sv e.Label)) ∧ (Zcp (I e.Cost) = Zcp (I e.Cost)) ∧ ([] : List AV) = []) ∧ True, (Zfu (at_ l.Edges i.toNat) e) = 0] ⟨⟨(by omega), (by omega)⟩, ⟨(Zgc (at_ l.Edges i.toNat) e), ⟨(fun h => by cases h), rfl, ⟨rfl, ⟨rfl, ⟨rfl, ⟨rfl, rfl⟩⟩⟩⟩⟩, trivial⟩, h2, trivial⟩ ?_
      refine Zad ?_
      refine Zcb rfl ?_
      refine xR [] [4, 5] [4] [.ref 4 0, I 4] [some (.box [I 0, Zde])] [] trivial ?_
      refine Zdh ?_
      refine Zge (Zcl (Zlv (Zge (Zcl ?_))))
      refine Zce ((Lattice.mk 0 ([] : List Edge)), 4) (show (4 = 0 → Zcg (Lattice.mk 0 ([] : List Edge)) ∧ (Lattice.mk 0 ([] : List Edge)).Nodes = l.Nodes ∧ ∀ x ∈ (Lattice.mk 0 ([] : List Edge)).Edges, x = e ∨ x ∈ l.Edges) ∧ (0 ≤ 4 ∧ 4 ≤ 20) ∧ (True) from ⟨(by first | omega | (exact fun q => absurd q (by decide)) | exact fun _ => ⟨hput, rfl, hpm⟩), (by first | omega | (exact fun q => absurd q (by decide)) | exact fun _ => ⟨hput, rfl, hpm⟩), trivial⟩) (trivial) (.tup [.agg [I 0, Zde], I 4]) (by kernel_rfl) (.inr ⟨⟨rfl, ⟨⟨rfl, rfl⟩, rfl⟩⟩, ⟨rfl, rfl⟩⟩) (fun _ => rfl) (fun _ => (by simp [Zan, Zaj, Zdv]))
     refine x_r [(4, .call [(true, .any), (false, .ptr false [I e.From, I e.To, Sv e.Label, I e.Cost])] true (I (Zfu (at_ l.Edges i.toNat) e))), (5, .dec false)] [2, 3, 4, 6, 30] [2, 3, 4] [.ref 2 0, .ref 3 0, .ref 4 0, I i, Bv false] [some (Zac l), some (Zbj e), some (.box [I 0, Zde])] [(0 : Int) ≤ i ∧ i < (l.Edges.length : Int), Con Tryz.prog 110 [.ptr false [I ((at_ l.Edges i.toNat).From), I ((at_ l.Edges i.toNat).To), Sv ((at_ l.Edges i.toNat).Label), I ((at_ l.Edges i.toNat).Cost)], .ptr false [I e.From, I e.To, Sv e.Label, I e.Cost]] true (I (Zfu (at_ l.Edges i.toNat) e)) ∧ ((false = true → true = true) ∧ AV.idsL [I e.From, I e.To, Sv e.Label, I e.Cost] = [] ∧ (Zcp (I e.From) = Zcp (I e.From)) ∧ (Zcp (I e.To) = Zcp (I e.To)) ∧ (Zcp (Sv e.Label) = Zcp (Sv e.Label)) ∧ (Zcp (I e.Cost) = Zcp (I e.Cost)) ∧ ([] : List AV) = []) ∧ True, ¬ ((Zfu (at_ l.Edges i.toNat) e) = 0)] ⟨⟨(by omega), (by omega)⟩, ⟨(Zgc (at_ l.Edges i.toNat) e), ⟨(fun h => by cases h), rfl, ⟨rfl, ⟨rfl, ⟨rfl, ⟨rfl, rfl⟩⟩⟩⟩⟩, trivial⟩, h2, trivial⟩ ?_
     refine Zad ?_
     refine Zav rfl ?_
     refine Zbk ?_
     refine Zbw 1 ?_
     refine Zad ?_
     refine x_r [] [2, 3, 4, 6] [2, 3, 4] [.ref 2 0, .ref 3 0, .ref 4 0, I (i + 1)] [some (Zac l), some (Zbj e), some (.box [I 0, Zde])] [inR .i64 (i + 1)] ⟨(Zah (by omega) (by omega)), trivial⟩ ?_
     exact Zbm (i + 1) rfl (show (0 ≤ (i + 1) ∧ (i + 1) ≤ (l.Edges.length : Int)) ∧ (∀ j : Nat, (j : Int) < (i + 1) → Zfu (at_ l.Edges j) e ≠ 0) ∧ True from ⟨(by omega), (by intro j hj; by_cases ej : j = i.toNat; (subst ej; assumption); exact hz0 j (by omega)), trivial⟩) (by first | (show (((l.Edges.length : Int) - (i + 1)).toNat : Nat) < ((l.Edges.length : Int) - i).toNat; omega) | (dsimp only; omega))
    have hne : ∀ x ∈ l.Edges, Zfu x e ≠ 0 := fun x hx => by obtain ⟨j, hj, q⟩ := List.getElem_of_mem hx; rw [← q, ← Zcz hj]; exact hz0 j (by omega)
    refine x_r [(4, .dec false)] [2, 3, 4, 6, 22] [2, 3, 4] [.ref 2 0, .ref 3 0, .ref 4 0, I i, Bv false] [some (Zac l), some (Zbj e), some (.box [I 0, Zde])] [¬ (i < (l.Edges.length : Int))] ⟨h1, trivial⟩ ?_
    refine Zad ?_
    refine Zav rfl ?_
    refine Zdo ?_
    refine Zaw ?_
    refine Zbd ?_
    refine Zax ?_
    refine Zad ?_
    refine Zar ?_
    refine Zar ?_
    by_cases h3 : 200 ≤ (l.Edges.length : Int)
    ·refine x_r [(3, .dec true)] [2, 3, 4, 35] [2, 3, 4] [.ref 2 0, .ref 3 0, .ref 4 0, Bv true] [some (Zac l), some (Zbj e), some (.box [I 0, Zde])] [200 ≤ (l.Edges.length : Int)] ⟨h3, trivial⟩ ?_
     refine Zad ?_
     refine Zcb rfl ?_
     refine xR [] [4, 5] [4] [.ref 4 0, I 5] [some (.box [I 0, Zde])] [] trivial ?_
     refine Zdh ?_
     refine Zcl ?_
     refine Zce ((Lattice.mk 0 ([] : List Edge)), 5) (show (5 = 0 → Zcg (Lattice.mk 0 ([] : List Edge)) ∧ (Lattice.mk 0 ([] : List Edge)).Nodes = l.Nodes ∧ ∀ x ∈ (Lattice.mk 0 ([] : List Edge)).Edges, x = e ∨ x ∈ l.Edges) ∧ (0 ≤ 5 ∧ 5 ≤ 20) ∧ (True) from ⟨(by first | omega | (exact fun q => absurd q (by decide)) | exact fun _ => ⟨hput, rfl, hpm⟩), (by first | omega | (exact fun q => absurd q (by decide)) | exact fun _ => ⟨hput, rfl, hpm⟩), trivial⟩) (trivial) (.tup [.agg [I 0, Zde], I 5]) (by kernel_rfl) (.inr ⟨⟨rfl, ⟨⟨rfl, rfl⟩, rfl⟩⟩, ⟨rfl, rfl⟩⟩) (fun _ => rfl) (fun _ => (by simp [Zan, Zaj, Zdv]))
    refine x_r [(3, .dec false)] [2, 3, 4, 35] [2, 3, 4] [.ref 2 0, .ref 3 0, .ref 4 0, Bv false] [some (Zac l), some (Zbj e), some (.box [I 0, Zde])] [¬ (200 ≤ (l.Edges.length : Int))] ⟨h3, trivial⟩ ?_
    refine Zad ?_
    refine Zav rfl ?_
    refine Zbk ?_
    refine Zad ?_
    refine Zar ?_
    obtain ⟨v_1, hx1_0, hx1_1, hx1_2, hc1⟩ := Ycg l.Edges e hl.2.2.2 hne (by omega)
    have hput := Yce hl he hx1_0 (by omega) hx1_1 hx1_2
    have hpm := hx1_1
    refine x_r [(5, .call [(true, .any), (true, .any)] true (Zag true v_1))] [4, 5] [4] [.ref 4 0, I 0] [some (.box [I l.Nodes, Zag true v_1])] [Con Tryz.prog 145 [Zag false l.Edges, Zgj e] true (Zag true v_1) ∧ True] ⟨⟨hc1, trivial⟩, trivial⟩ ?_
    refine Zad ?_
    refine Zdh ?_
    refine Zce ((Lattice.mk l.Nodes v_1), 0) (show (0 = 0 → Zcg (Lattice.mk l.Nodes v_1) ∧ (Lattice.mk l.Nodes v_1).Nodes = l.Nodes ∧ ∀ x ∈ (Lattice.mk l.Nodes v_1).Edges, x = e ∨ x ∈ l.Edges) ∧ (0 ≤ 0 ∧ 0 ≤ 20) ∧ (True) from ⟨(by first | omega | (exact fun q => absurd q (by decide)) | exact fun _ => ⟨hput, rfl, hpm⟩), (by first | omega | (exact fun q => absurd q (by decide)) | exact fun _ => ⟨hput, rfl, hpm⟩), trivial⟩) (trivial) (.tup [.agg [I l.Nodes, Zag true v_1], I 0]) (by kernel_rfl) (.inl rfl) (fun _ => rfl) (fun _ => (by simp [Zan, Zaj, Zdv]))
  obtain ⟨⟨v, c⟩, ⟨hh0, hh1, _⟩, hc⟩ := hh
  exact ⟨v, c, hh0, hh1, hc⟩
def Zlj (a b : Reading) : Int := orL [Zdd a.Cost b.Cost, Zdd (a.Text.size : Int) (b.Text.size : Int), Zdm a.Text b.Text]
theorem Zvd (a b : Reading) : Zlj a b = if Zdd a.Cost b.Cost = 0 then (if Zdd (a.Text.size : Int) (b.Text.size : Int) = 0 then Zdm a.Text b.Text else Zdd (a.Text.size : Int) (b.Text.size : Int)) else Zdd a.Cost b.Cost := by
  unfold Zlj orL orL orL orL
  by_cases h1 : Zdd a.Cost b.Cost = 0
  · rw [if_pos h1, if_pos h1]
    by_cases h2 : Zdd (a.Text.size : Int) (b.Text.size : Int) = 0
    · rw [if_pos h2, if_pos h2]; split
      · rename_i h3; exact h3.symm
      · rfl
    · rw [if_neg h2, if_neg h2]
  · rw [if_neg h1, if_neg h1]
theorem cmpR_w : CmpW Zlj := by
  have h : Zlj = fun x y => if Zdd x.Cost y.Cost = 0 then (fun x y : Reading => if Zdd (x.Text.size : Int) (y.Text.size : Int) = 0 then (fun x y : Reading => Zdm x.Text y.Text) x y else Zdd (x.Text.size : Int) (y.Text.size : Int)) x y else Zdd x.Cost y.Cost := funext fun a => funext fun b => Zvd a b
  rw [h]
  exact CmpW.lex (f := Reading.Cost) Zoq (CmpW.lex (f := fun x : Reading => (x.Text.size : Int)) Zoq (cmpS_w.map Reading.Text))
theorem rd_ext {a b : Reading} (h1 : a.Text = b.Text) (h2 : a.Cost = b.Cost) : a = b := by cases a; cases b; simp_all
theorem Zws (a b : Reading) (h : Zlj a b = 0) : a = b := by
  rw [Zvd] at h
  by_cases h1 : Zdd a.Cost b.Cost = 0
  · rw [if_pos h1] at h
    by_cases h2 : Zdd (a.Text.size : Int) (b.Text.size : Int) = 0
    · rw [if_pos h2, Zdc] at h; rw [Zez] at h1; exact rd_ext h h1
    · rw [if_neg h2] at h; exact absurd h h2
  · rw [if_neg h1] at h; exact absurd h h1
theorem Zti {a b : Reading} (h : Zlj a b ≤ 0) : a.Cost ≤ b.Cost := by
  rw [Zvd] at h
  by_cases h1 : Zdd a.Cost b.Cost = 0
  · rw [Zez] at h1; omega
  · rw [if_neg h1] at h
    have := @Zjo a.Cost b.Cost
    omega
def rdr (e : Edge) (r : Reading) : Reading := ⟨r.Text ++ e.Label, r.Cost + e.Cost⟩
theorem Zei (a b : ByteArray) : (a ++ b).toList = a.toList ++ b.toList := by
  rw [Lib.toList_data, Lib.toList_data, Lib.toList_data, ByteArray.data_append, Array.toList_append]
theorem Zkg (a : ByteArray) : a.toList.length = a.size := by rw [Lib.toList_data]; rfl
theorem Zjm {a b : ByteArray} (h : a.toList = b.toList) : a = b := by
  rw [Lib.toList_data, Lib.toList_data] at h
  cases a; cases b
  simp only [ByteArray.mk.injEq]
  exact Array.toList_inj.1 h
theorem app_inj {a b c d : ByteArray} (h : a ++ c = b ++ d) (hs : c.size = d.size) : a = b ∧ c = d := by
  have q := congrArg ByteArray.toList h
  rw [Zei, Zei] at q
  have l := congrArg List.length q
  simp only [List.length_append, Zkg] at l
  have z := List.append_inj q (by rw [Zkg, Zkg]; omega)
  exact ⟨Zjm z.1, Zjm z.2⟩
theorem nd_le {α : Type} [DecidableEq α] : ∀ {xs ys : List α}, xs.Nodup → (∀ x ∈ xs, x ∈ ys) → xs.length ≤ ys.length
  | [], ys, _, _ => Nat.zero_le _
  | x :: r, ys, hn, hs => by
    rw [List.nodup_cons] at hn
    have hx := hs x List.mem_cons_self
    have ih := nd_le (xs := r) (ys := ys.erase x) hn.2 fun y hy => (List.mem_erase_of_ne (fun e => hn.1 (by rw [← e]; exact hy))).2 (hs y (List.mem_cons_of_mem _ hy))
    rw [List.length_erase_of_mem hx] at ih
    have : 0 < ys.length := List.length_pos_of_mem hx
    simp only [List.length_cons]; omega
def fstK (k : Nat) (P : Reading → Prop) (L : List Reading) : Prop := (L.Pairwise fun x y => Zlj x y < 0) ∧ L.length ≤ k ∧ (∀ r ∈ L, P r ∧ ∀ q, P q → q.Text = r.Text → r.Cost ≤ q.Cost) ∧ ∀ q, P q → (∃ r ∈ L, r.Text = q.Text) ∨ (L.length = k ∧ ∀ r ∈ L, Zlj r q < 0)
theorem fst_nd {k : Nat} {P : Reading → Prop} {L : List Reading} (h : fstK k P L) : (L.map Reading.Text).Nodup := by
  unfold List.Nodup
  rw [List.pairwise_map]
  refine (List.Pairwise.and_mem.1 h.1).imp fun {x y} q e => ?_
  obtain ⟨hx, hy, q⟩ := q
  have a := (h.2.2.1 x hx).2 y (h.2.2.1 y hy).1 e.symm
  have b := (h.2.2.1 y hy).2 x (h.2.2.1 x hx).1 e
  rw [rd_ext e (show x.Cost = y.Cost by omega), cmpR_w.refl] at q
  omega
theorem Ztj {k : Nat} {P Q : Reading → Prop} {L : List Reading} (h : fstK k P L) (e : ∀ x, P x ↔ Q x) : fstK k Q L :=
  ⟨h.1, h.2.1, fun r hr => ⟨(e r).1 (h.2.2.1 r hr).1, fun q hq => (h.2.2.1 r hr).2 q ((e q).2 hq)⟩, fun q hq => h.2.2.2 q ((e q).2 hq)⟩
def Ych (L : List Reading) (t : ByteArray) : Bool := memB t (L.map Reading.Text)
theorem Zqy {L : List Reading} {t : ByteArray} : Ych L t = true ↔ ∃ r ∈ L, r.Text = t := by
  unfold Ych; rw [Zhy, List.mem_map]
def frI (k : Nat) (ys : List Reading) : Nat → List Reading
  | 0 => []
  | i + 1 => if (frI k ys i).length < k ∧ Ych (frI k ys i) (at_ ys i).Text = false then frI k ys i ++ [at_ ys i] else frI k ys i
def frL (k : Nat) (xs : List Reading) : List Reading := frI k (Zuv Zlj xs xs.length) xs.length
theorem Zqw (k : Nat) (ys : List Reading) : ∀ i : Nat, (frI k ys i).length ≤ k ∧ (frI k ys i).length ≤ i
  | 0 => ⟨Nat.zero_le _, Nat.le_refl _⟩
  | i + 1 => by
    have ih := Zqw k ys i
    unfold frI
    split
    · rw [List.length_append]; simp; omega
    · omega
theorem Yci (k : Nat) {ys : List Reading} (hs : ys.Pairwise fun x y => ¬ Zlj y x < 0) : ∀ i : Nat, i ≤ ys.length → fstK k (· ∈ ys.take i) (frI k ys i)
  | 0, _ => ⟨List.Pairwise.nil, Nat.zero_le _, fun r hr => (by cases hr), fun q hq => (by simp at hq)⟩
  | i + 1, hi => by
    have h := Yci k hs i (by omega)
    have hl := Zqw k ys i
    have ht : ∀ q, q ∈ ys.take (i + 1) ↔ q ∈ ys.take i ∨ q = at_ ys i := fun q => by
      rw [List.take_succ_eq_append_getElem (by omega), ← Zcz (by omega)]; simp
    have hle : ∀ q ∈ ys.take i, Zlj q (at_ ys i) ≤ 0 := fun q hq => by
      obtain ⟨j, hj, e⟩ := List.getElem_of_mem hq
      rw [List.length_take] at hj
      rw [List.getElem_take] at e
      have a := Zgq hs (show j < i by omega) (by omega)
      have e2 : at_ ys j = q := by rw [Zcz (by omega)]; exact e
      rw [e2] at a
      have b := cmpR_w.anti (at_ ys i) q
      have c := cmpR_w.anti q (at_ ys i)
      omega
    have hcase : frI k ys (i + 1) = if (frI k ys i).length < k ∧ Ych (frI k ys i) (at_ ys i).Text = false then frI k ys i ++ [at_ ys i] else frI k ys i := rfl
    rw [hcase]
    generalize at_ ys i = x at ht hle ⊢
    have hlt : ∀ r ∈ frI k ys i, Ych (frI k ys i) x.Text = false → Zlj r x < 0 := fun r hr hn => by
      have a := hle r (h.2.2.1 r hr).1
      by_cases e : Zlj r x = 0
      · have := Zws r x e
        subst this
        have : Ych (frI k ys i) r.Text = true := Zqy.2 ⟨r, hr, rfl⟩
        rw [this] at hn; cases hn
      · omega
    refine Ztj (P := fun q => q ∈ ys.take i ∨ q = x) ?_ fun q => (ht q).symm
    generalize frI k ys i = L at h hl hlt ⊢
    by_cases hb : L.length < k ∧ Ych L x.Text = false
    · rw [if_pos hb]
      refine ⟨?_, by rw [List.length_append]; simp; omega, fun r hr => ?_, fun q hq => ?_⟩
      · rw [List.pairwise_append]
        exact ⟨h.1, List.pairwise_singleton _ _, fun a ha b hb2 => by rw [List.mem_singleton] at hb2; subst hb2; exact hlt a ha hb.2⟩
      · rcases List.mem_append.1 hr with hr2 | hr
        · refine ⟨.inl (h.2.2.1 r hr2).1, fun q hq e => ?_⟩
          rcases hq with hq | hq
          · exact (h.2.2.1 r hr2).2 q hq e
          · rw [hq]
            exact Zti (Int.le_of_lt (hlt r hr2 hb.2))
        · rw [List.mem_singleton] at hr
          subst hr
          refine ⟨.inr rfl, fun q hq e => ?_⟩
          rcases hq with hq | hq
          · rcases h.2.2.2 q hq with ⟨r2, hr2, e2⟩ | w
            · have : Ych L r.Text = true := Zqy.2 ⟨r2, hr2, e2.trans e⟩
              rw [this] at hb; cases hb.2
            · omega
          · rw [hq]; exact Int.le_refl _
      · rcases hq with hq | hq
        · rcases h.2.2.2 q hq with ⟨r2, hr2, e2⟩ | w
          · exact .inl ⟨r2, List.mem_append_left _ hr2, e2⟩
          · omega
        · exact .inl ⟨x, by simp, by rw [hq]⟩
    · rw [if_neg hb]
      refine ⟨h.1, h.2.1, fun r hr => ⟨.inl (h.2.2.1 r hr).1, fun q hq e => ?_⟩, fun q hq => ?_⟩
      · rcases hq with hq | hq
        · exact (h.2.2.1 r hr).2 q hq e
        · rw [hq]; exact Zti (hle r (h.2.2.1 r hr).1)
      · rcases hq with hq | hq
        · exact h.2.2.2 q hq
        · by_cases hT : Ych L x.Text = false
          · right
            exact ⟨by have : ¬ L.length < k := fun q => hb ⟨q, hT⟩
                      omega, fun r hr => by rw [hq]; exact hlt r hr hT⟩
          · left
            obtain ⟨r, hr, e⟩ := Zqy.1 (by simpa using hT)
            exact ⟨r, hr, by rw [hq]; exact e⟩
theorem isoR_srt (xs : List Reading) : (Zuv Zlj xs xs.length).Pairwise fun x y => ¬ Zlj y x < 0 := (Zqv (c := Zlj) cmpR_w (B := fun _ _ => True) (xs := xs) (List.pairwise_of_forall fun _ _ => trivial) xs.length (Nat.le_refl _)).imp fun {x y} q => by
  have a1 := cmpR_w.anti x y
  have a2 := cmpR_w.anti y x
  rcases q with q | q
  · omega
  · have := q.1; omega
theorem isoR_mem {xs : List Reading} {x : Reading} : x ∈ Zuv Zlj xs xs.length ↔ x ∈ xs := by
  have p := Zjp Zlj xs xs.length (Nat.le_refl _)
  rw [List.take_of_length_le (Nat.le_refl _)] at p
  exact p.mem_iff
theorem Ybu (k : Nat) (xs : List Reading) : fstK k (· ∈ xs) (frL k xs) := by
  have l := Zjr Zlj xs xs.length
  have h := Yci k (isoR_srt xs) xs.length (by omega)
  refine Ztj h fun x => ?_
  rw [List.take_of_length_le (by omega)]
  exact isoR_mem
theorem fr_y {k : Nat} {ys out : List Reading} {ks : List ByteArray} {i : Nat} (hou : out = frI k ys i) (hks : ks = out.map Reading.Text) (h2 : out.length < k) (h3 : ¬ (at_ ys i).Text ∈ ks) : out ++ [at_ ys i] = frI k ys (i + 1) := by
  subst hks
  have : Ych out (at_ ys i).Text = false := Bool.eq_false_iff.2 fun e => h3 (Zhy.1 e)
  show _ = (if _ then _ else _)
  rw [← hou, if_pos ⟨h2, this⟩]
theorem fr_n1 {k : Nat} {ys out : List Reading} {i : Nat} (hou : out = frI k ys i) (h2 : ¬ out.length < k) : out = frI k ys (i + 1) := by
  show _ = (if _ then _ else _)
  rw [← hou, if_neg fun q => h2 q.1]
theorem fr_n2 {k : Nat} {ys out : List Reading} {ks : List ByteArray} {i : Nat} (hou : out = frI k ys i) (hks : ks = out.map Reading.Text) (h3 : (at_ ys i).Text ∈ ks) : out = frI k ys (i + 1) := by
  subst hks
  have : Ych out (at_ ys i).Text = true := Zhy.2 h3
  show _ = (if _ then _ else _)
  rw [← hou, if_neg fun q => by rw [this] at q; cases q.2]
theorem frL_len (k : Nat) (xs : List Reading) : (frL k xs).length ≤ k ∧ (frL k xs).length ≤ xs.length := Zqw k _ _
theorem Zuy {k : Nat} {xs : List Reading} {x : Reading} (h : x ∈ frL k xs) : x ∈ xs := ((Ybu k xs).2.2.1 x h).1
def Znc (l : Lattice) (c : List Int) (ch : ByteArray) : Nat → List Int × Bool
  | 0 => (List.replicate l.Nodes.toNat 1099511627776, false)
  | k + 1 => if (at_ l.Edges k).Label = ch ∧ at_ c (at_ l.Edges k).From.toNat < 1099511627776 then ((Znc l c ch k).1.set (at_ l.Edges k).To.toNat (min (at_ (Znc l c ch k).1 (at_ l.Edges k).To.toNat) (at_ c (at_ l.Edges k).From.toNat + (at_ l.Edges k).Cost)), true) else Znc l c ch k
def chA (w : ByteArray) (k : Nat) : ByteArray := w.extract k (k + 1)
def Zif (l : Lattice) (w : ByteArray) : Nat → List Int
  | 0 => (List.replicate l.Nodes.toNat 1099511627776).set 0 0
  | k + 1 => (Znc l (Zif l w k) (chA w k) l.Edges.length).1
def tcA (l : Lattice) (w : ByteArray) (k : Nat) : Bool := (Znc l (Zif l w k) (chA w k) l.Edges.length).2
def tcF (l : Lattice) (w : ByteArray) : Int := if (anyN w.size fun k => !(tcA l w k)) = true then 1099511627776 else at_ (Zif l w w.size) (l.Nodes - 1).toNat
def Ztd (n : Nat) (b : Int) (c : List Int) : Prop := c.length = n ∧ ∀ j : Nat, j < n → 0 ≤ at_ c j ∧ (at_ c j ≤ b ∨ at_ c j = 1099511627776)
theorem Ycj {n : Nat} {b x : Int} {c : List Int} {k : Nat} (h : Ztd n b c) (hx : 0 ≤ x ∧ (x ≤ b ∨ x = 1099511627776)) : Ztd n b (c.set k x) := ⟨by rw [List.length_set]; exact h.1, fun j hj => by
  by_cases e : j = k
  · subst e; rw [Zcm (by rw [h.1]; exact hj)]; exact hx
  · rw [Zcw e]; exact h.2 j hj⟩
theorem Yck (n : Nat) (b : Int) : Ztd n b (List.replicate n 1099511627776) := ⟨List.length_replicate, fun j hj => by rw [Zcz (by rw [List.length_replicate]; exact hj), List.getElem_replicate]; omega⟩
theorem Zqr {l : Lattice} (hl : Zcg l) {b : Int} (hb : 0 ≤ b) {c : List Int} (hc : Ztd l.Nodes.toNat b c) (ch : ByteArray) : ∀ k : Nat, k ≤ l.Edges.length → Ztd l.Nodes.toNat (b + 1000000) (Znc l c ch k).1
  | 0, _ => Yck _ _
  | k + 1, hk => by
    have ih := Zqr hl hb hc ch k (by omega)
    have he := hl.2.2.1 k (by omega)
    unfold Znc
    split
    · rename_i q
      have h1 := hc.2 (at_ l.Edges k).From.toNat (by have := he.1; omega)
      have h2 := ih.2 (at_ l.Edges k).To.toNat (by have := he.1; omega)
      have h3 := he.2.1
      exact Ycj ih (by omega)
    · exact ih
theorem Zib {l : Lattice} (hl : Zcg l) (w : ByteArray) : ∀ k : Nat, Ztd l.Nodes.toNat (1000000 * k) (Zif l w k)
  | 0 => Ycj (Yck _ _) (by omega)
  | k + 1 => by
    have := Zqr hl (by omega) (Zib hl w k) (chA w k) l.Edges.length (Nat.le_refl _)
    rw [show (1000000 * ((k + 1 : Nat) : Int)) = 1000000 * (k : Int) + 1000000 from by omega]; exact this
theorem tcF_bd {l : Lattice} (hl : Zcg l) (w : ByteArray) : 0 ≤ tcF l w ∧ (tcF l w ≤ 1000000 * w.size ∨ tcF l w = 1099511627776) := by
  unfold tcF
  split
  · omega
  · have := (Zib hl w w.size).2 (l.Nodes - 1).toNat (by have := hl.1; omega)
    exact this
def farN (n : Nat) (k : Nat) : List Int := List.replicate k 1099511627776 ++ List.replicate (n - k) 0
theorem far_0 {n m : Nat} (h : m = n) : List.replicate m (0 : Int) = farN n 0 := by simp [farN, h]
theorem Zwo {n k : Nat} (h : k < n) : (farN n k).set k 1099511627776 = farN n (k + 1) := by
  unfold farN
  rw [List.set_append_right _ _ (by simp)]
  rw [List.length_replicate, Nat.sub_self, show n - k = (n - (k + 1)) + 1 from by omega, List.replicate_succ, List.set_cons_zero, List.replicate_succ', List.append_assoc]
  rfl
theorem Ybl (n : Nat) : farN n n = List.replicate n 1099511627776 := by simp [farN]
def exr (p : ByteArray → Bool) (e : Edge) (src : List Reading) (j : Nat) : List Reading := ((src.take j).map (rdr e)).filter fun r => p r.Text
theorem Zwx {p : ByteArray → Bool} {e : Edge} {src : List Reading} {j : Nat} (h : j < src.length) : exr p e src (j + 1) = exr p e src j ++ if p ((at_ src j).Text ++ e.Label) = true then [rdr e (at_ src j)] else [] := by
  unfold exr
  rw [List.take_succ_eq_append_getElem h, ← Zcz h, List.map_append, List.filter_append]
  congr 1
  simp only [List.map_cons, List.map_nil, List.filter_cons, List.filter_nil]
  rfl
theorem exr_len (p : ByteArray → Bool) (e : Edge) (src : List Reading) (j : Nat) : (exr p e src j).length ≤ j ∧ (exr p e src j).length ≤ src.length := by
  have := List.length_filter_le (fun r : Reading => p r.Text) ((src.take j).map (rdr e))
  unfold exr
  simp only [List.length_map, List.length_take] at this
  omega
def tbE (p : ByteArray → Bool) (l : Lattice) (n : Nat) (T0 : List (List Reading)) : Nat → List (List Reading)
  | 0 => T0
  | i + 1 => if (at_ l.Edges i).From = (n : Int) then (tbE p l n T0 i).set (at_ l.Edges i).To.toNat (at_ (tbE p l n T0 i) (at_ l.Edges i).To.toNat ++ exr p (at_ l.Edges i) (at_ (tbE p l n T0 i) n) (at_ (tbE p l n T0 i) n).length) else tbE p l n T0 i
def tbN (F : List Reading → List Reading) (p : ByteArray → Bool) (l : Lattice) (T0 : List (List Reading)) : Nat → List (List Reading)
  | 0 => T0
  | n + 1 => tbE p l n ((tbN F p l T0 n).set n (F (at_ (tbN F p l T0 n) n))) l.Edges.length
theorem Zth {p : ByteArray → Bool} {l : Lattice} (hl : Zcg l) {n : Nat} (hn : (n : Int) < l.Nodes) {T0 : List (List Reading)} (h0 : T0.length = l.Nodes.toNat) : ∀ i : Nat, i ≤ l.Edges.length → (tbE p l n T0 i).length = l.Nodes.toNat ∧ (∀ j, j ≤ n → at_ (tbE p l n T0 i) j = at_ T0 j) ∧ ∀ j, n < j → j < l.Nodes.toNat → ∀ x, x ∈ at_ (tbE p l n T0 i) j ↔ x ∈ at_ T0 j ∨ ∃ i' : Nat, i' < i ∧ (at_ l.Edges i').From = (n : Int) ∧ (at_ l.Edges i').To = (j : Int) ∧ p x.Text = true ∧ ∃ r ∈ at_ T0 n, x = rdr (at_ l.Edges i') r
  | 0, _ => ⟨h0, fun j _ => rfl, fun j _ _ x => ⟨.inl, fun q => q.elim id fun ⟨i', h, _⟩ => absurd h (Nat.not_lt_zero _)⟩⟩
  | i + 1, hi => by
    have ih := Zth (p := p) hl hn h0 i (by omega)
    have he := (hl.2.2.1 i (by omega)).1
    have hc : tbE p l n T0 (i + 1) = if (at_ l.Edges i).From = (n : Int) then (tbE p l n T0 i).set (at_ l.Edges i).To.toNat (at_ (tbE p l n T0 i) (at_ l.Edges i).To.toNat ++ exr p (at_ l.Edges i) (at_ (tbE p l n T0 i) n) (at_ (tbE p l n T0 i) n).length) else tbE p l n T0 i := rfl
    rw [hc, ih.2.1 n (Nat.le_refl _)]
    by_cases hf : (at_ l.Edges i).From = (n : Int)
    · rw [if_pos hf]
      refine ⟨by rw [List.length_set]; exact ih.1, fun j hj => by rw [Zcw (by omega)]; exact ih.2.1 j hj, fun j hj1 hj2 x => ?_⟩
      by_cases ej : j = (at_ l.Edges i).To.toNat
      · rw [← ej, Zcm (by rw [ih.1]; exact hj2), List.mem_append, ih.2.2 j hj1 hj2 x]
        have hx : x ∈ exr p (at_ l.Edges i) (at_ T0 n) (at_ T0 n).length ↔ p x.Text = true ∧ ∃ r ∈ at_ T0 n, x = rdr (at_ l.Edges i) r := by
          unfold exr
          rw [List.take_length, List.mem_filter, List.mem_map]
          exact ⟨fun ⟨⟨r, a, b⟩, c⟩ => ⟨c, r, a, b.symm⟩, fun ⟨c, r, a, b⟩ => ⟨⟨r, a, b.symm⟩, c⟩⟩
        rw [hx]
        constructor
        · rintro ((q | ⟨i', a, b⟩) | q)
          · exact .inl q
          · exact .inr ⟨i', by omega, b⟩
          · exact .inr ⟨i, by omega, hf, by omega, q⟩
        · rintro (q | ⟨i', a, b⟩)
          · exact .inl (.inl q)
          · by_cases e : i' = i
            · subst e; exact .inr b.2.2
            · exact .inl (.inr ⟨i', by omega, b⟩)
      · rw [Zcw ej, ih.2.2 j hj1 hj2 x]
        constructor
        · rintro (q | ⟨i', a, b⟩)
          · exact .inl q
          · exact .inr ⟨i', by omega, b⟩
        · rintro (q | ⟨i', a, b⟩)
          · exact .inl q
          · by_cases e : i' = i
            · subst e; exact absurd b.2.1 (by omega)
            · exact .inr ⟨i', by omega, b⟩
    · rw [if_neg hf]
      refine ⟨ih.1, ih.2.1, fun j hj1 hj2 x => ?_⟩
      rw [ih.2.2 j hj1 hj2 x]
      constructor
      · rintro (q | ⟨i', a, b⟩)
        · exact .inl q
        · exact .inr ⟨i', by omega, b⟩
      · rintro (q | ⟨i', a, b⟩)
        · exact .inl q
        · by_cases e : i' = i
          · subst e; exact absurd b.1 hf
          · exact .inr ⟨i', by omega, b⟩
theorem Ycl {F : List Reading → List Reading} {p : ByteArray → Bool} {l : Lattice} (hl : Zcg l) {T0 : List (List Reading)} (h0 : T0.length = l.Nodes.toNat) : ∀ n : Nat, (n : Int) ≤ l.Nodes → (tbN F p l T0 n).length = l.Nodes.toNat ∧ (∀ j, j < n → at_ (tbN F p l T0 n) j = F (at_ (tbN F p l T0 j) j)) ∧ ∀ j, n ≤ j → j < l.Nodes.toNat → ∀ x, x ∈ at_ (tbN F p l T0 n) j ↔ x ∈ at_ T0 j ∨ ∃ e ∈ l.Edges, e.From < (n : Int) ∧ e.To = (j : Int) ∧ p x.Text = true ∧ ∃ r ∈ at_ (tbN F p l T0 n) e.From.toNat, x = rdr e r
  | 0, _ => ⟨h0, fun j h => absurd h (Nat.not_lt_zero _), fun j _ _ x => ⟨.inl, fun q => q.elim id fun ⟨e, he, h, _⟩ => by
      obtain ⟨i, hi, q⟩ := List.getElem_of_mem he
      have := (hl.2.2.1 i hi).1
      rw [Zcz hi, q] at this
      omega⟩⟩
  | n + 1, hn => by
    have ih := Ycl (F := F) (p := p) hl h0 n (by omega)
    have hT : ((tbN F p l T0 n).set n (F (at_ (tbN F p l T0 n) n))).length = l.Nodes.toNat := by rw [List.length_set]; exact ih.1
    have hE := Zth (p := p) hl (n := n) (by omega) hT l.Edges.length (Nat.le_refl _)
    show (tbE p l n _ _).length = _ ∧ (∀ j, j < n + 1 → at_ (tbE p l n ((tbN F p l T0 n).set n (F (at_ (tbN F p l T0 n) n))) l.Edges.length) j = _) ∧ ∀ j, n + 1 ≤ j → j < l.Nodes.toNat → ∀ x, x ∈ at_ (tbE p l n ((tbN F p l T0 n).set n (F (at_ (tbN F p l T0 n) n))) l.Edges.length) j ↔ x ∈ at_ T0 j ∨ ∃ e ∈ l.Edges, e.From < ((n + 1 : Nat) : Int) ∧ e.To = (j : Int) ∧ p x.Text = true ∧ ∃ r ∈ at_ (tbE p l n ((tbN F p l T0 n).set n (F (at_ (tbN F p l T0 n) n))) l.Edges.length) e.From.toNat, x = rdr e r
    generalize tbE p l n ((tbN F p l T0 n).set n (F (at_ (tbN F p l T0 n) n))) l.Edges.length = T at hE ⊢
    have hrow : ∀ j, j < n + 1 → at_ T j = F (at_ (tbN F p l T0 j) j) := fun j hj => by
      rw [hE.2.1 j (by omega)]
      by_cases e : j = n
      · subst e; rw [Zcm (by rw [ih.1]; omega)]
      · rw [Zcw e]; exact ih.2.1 j (by omega)
    refine ⟨hE.1, hrow, fun j hj1 hj2 x => ?_⟩
    rw [hE.2.2 j (by omega) hj2 x, Zcw (by omega), ih.2.2 j (by omega) hj2 x, Zcm (by rw [ih.1]; omega)]
    have hfr : ∀ e : Edge, 0 ≤ e.From → e.From < (n : Int) → at_ T e.From.toNat = at_ (tbN F p l T0 n) e.From.toNat := fun e h1 h2 => by
      rw [hrow _ (by omega), ih.2.1 _ (by omega)]
    have hnn : at_ T n = F (at_ (tbN F p l T0 n) n) := hrow n (by omega)
    have hed : ∀ e ∈ l.Edges, 0 ≤ e.From := fun e he => by
      obtain ⟨i, hi, q⟩ := List.getElem_of_mem he
      have := (hl.2.2.1 i hi).1
      rw [Zcz hi, q] at this
      omega
    constructor
    · rintro ((q | ⟨e, he, a, b, c, r, d⟩) | ⟨i', hi', a, b, c, r, d⟩)
      · exact .inl q
      · exact .inr ⟨e, he, by omega, b, c, r, by rw [hfr e (hed e he) a]; exact d.1, d.2⟩
      · exact .inr ⟨at_ l.Edges i', Zcx hi', by omega, b, c, r, by rw [a, Int.toNat_natCast, hnn]; exact d.1, d.2⟩
    · rintro (q | ⟨e, he, a, b, c, r, d⟩)
      · exact .inl (.inl q)
      · by_cases ef : e.From = (n : Int)
        · right
          obtain ⟨i', hi', q⟩ := List.getElem_of_mem he
          rw [← Zcz hi'] at q
          refine ⟨i', hi', by rw [q]; exact ef, by rw [q]; exact b, c, r, ?_, by rw [q]; exact d.2⟩
          have := d.1
          rw [ef, Int.toNat_natCast, hnn] at this
          exact this
        · refine .inl (.inr ⟨e, he, by omega, b, c, r, ?_, d.2⟩)
          rw [← hfr e (hed e he) (by omega)]; exact d.1
def rd0 : Reading := ⟨⟨#[]⟩, 0⟩
def tb0 (l : Lattice) : List (List Reading) := (List.replicate l.Nodes.toNat []).set 0 [rd0]
theorem Ycm (l : Lattice) : (tb0 l).length = l.Nodes.toNat := by unfold tb0; rw [List.length_set, List.length_replicate]
theorem Zop {α : Type} [Inhabited α] {x : α} {n j : Nat} (h : j < n) : at_ (List.replicate n x) j = x := by rw [Zcz (by rw [List.length_replicate]; exact h), List.getElem_replicate]
theorem Ybv {l : Lattice} (hl : Zcg l) {j : Nat} (hj : j < l.Nodes.toNat) (x : Reading) : x ∈ at_ (tb0 l) j ↔ j = 0 ∧ x = rd0 := by
  unfold tb0
  by_cases e : j = 0
  · subst e
    rw [Zcm (by rw [List.length_replicate]; exact hj)]; simp
  · rw [Zcw e, Zop hj]; simp [e]
def allT (l : Lattice) : List (List Reading) := tbN id (fun _ => true) l (tb0 l) l.Nodes.toNat
def pth (l : Lattice) (j : Nat) (x : Reading) : Prop := x ∈ at_ (allT l) j
theorem Ybw {F : List Reading → List Reading} {p : ByteArray → Bool} {l : Lattice} (hl : Zcg l) {T0 : List (List Reading)} (h0 : T0.length = l.Nodes.toNat) {N : Nat} (hN : (N : Int) ≤ l.Nodes) {j : Nat} (hj : j < N) : at_ (tbN F p l T0 N) j = F (at_ (tbN F p l T0 j) j) ∧ ∀ x, x ∈ at_ (tbN F p l T0 j) j ↔ x ∈ at_ T0 j ∨ ∃ e ∈ l.Edges, e.To = (j : Int) ∧ p x.Text = true ∧ ∃ r ∈ at_ (tbN F p l T0 N) e.From.toNat, x = rdr e r := by
  have a := Ycl (F := F) (p := p) hl h0 N hN
  have b := Ycl (F := F) (p := p) hl h0 j (by omega)
  refine ⟨a.2.1 j hj, fun x => ?_⟩
  rw [b.2.2 j (Nat.le_refl _) (by omega) x]
  have hed : ∀ e ∈ l.Edges, 0 ≤ e.From ∧ e.From < e.To := fun e he => by
    obtain ⟨i, hi, q⟩ := List.getElem_of_mem he
    have := (hl.2.2.1 i hi).1
    rw [Zcz hi, q] at this
    omega
  have hfr : ∀ e ∈ l.Edges, e.From < (j : Int) → at_ (tbN F p l T0 j) e.From.toNat = at_ (tbN F p l T0 N) e.From.toNat := fun e he h => by
    have := hed e he
    rw [b.2.1 _ (by omega), a.2.1 _ (by omega)]
  constructor
  · rintro (q | ⟨e, he, h1, h2, h3, r, h4⟩)
    · exact .inl q
    · exact .inr ⟨e, he, h2, h3, r, by rw [← hfr e he h1]; exact h4.1, h4.2⟩
  · rintro (q | ⟨e, he, h2, h3, r, h4⟩)
    · exact .inl q
    · have := hed e he
      exact .inr ⟨e, he, by omega, h2, h3, r, by rw [hfr e he (by omega)]; exact h4.1, h4.2⟩
theorem Zfp {l : Lattice} (hl : Zcg l) {j : Nat} (hj : j < l.Nodes.toNat) (x : Reading) : pth l j x ↔ (j = 0 ∧ x = rd0) ∨ ∃ e ∈ l.Edges, e.To = (j : Int) ∧ ∃ r, pth l e.From.toNat r ∧ x = rdr e r := by
  have h := Ybw (F := id) (p := fun _ => true) hl (Ycm l) (N := l.Nodes.toNat) (by omega) hj
  unfold pth allT
  rw [h.1]
  show x ∈ at_ (tbN id (fun _ => true) l (tb0 l) j) j ↔ _
  rw [h.2 x, Ybv hl hj]
  exact ⟨fun q => q.elim .inl fun ⟨e, a, b, _, r, c⟩ => .inr ⟨e, a, b, r, c⟩, fun q => q.elim .inl fun ⟨e, a, b, r, c⟩ => .inr ⟨e, a, b, rfl, r, c⟩⟩
theorem Zte {l : Lattice} (hl : Zcg l) {e : Edge} (he : e ∈ l.Edges) : okEd l e := by
  obtain ⟨i, hi, q⟩ := List.getElem_of_mem he
  have := hl.2.2.1 i hi
  rw [Zcz hi, q] at this
  exact this
theorem Zko {l : Lattice} (hl : Zcg l) : ∀ (m j : Nat), j ≤ m → j < l.Nodes.toNat → ∀ x, pth l j x → x.Text.size ≤ j ∧ 0 ≤ x.Cost ∧ x.Cost ≤ 1000000 * x.Text.size
  | 0, j, hm, hj, x, h => by
    rcases (Zfp hl hj x).1 h with ⟨_, q⟩ | ⟨e, he, a, _⟩
    · subst q; exact ⟨Nat.zero_le _, Int.le_refl _, by show (0 : Int) ≤ 1000000 * ((0 : Nat) : Int); omega⟩
    · have := (Zte hl he).1; omega
  | m + 1, j, hm, hj, x, h => by
    rcases (Zfp hl hj x).1 h with ⟨_, q⟩ | ⟨e, he, a, r, hr, q⟩
    · subst q; exact ⟨Nat.zero_le _, Int.le_refl _, by show (0 : Int) ≤ 1000000 * ((0 : Nat) : Int); omega⟩
    · have b := Zte hl he
      have b1 := b.1
      have c := Zko hl m e.From.toNat (by omega) (by omega) r hr
      have s := Zeh b.2.2
      have e1 : x.Text.size = r.Text.size + 1 := by rw [q]; show (r.Text ++ e.Label).size = _; rw [ByteArray.size_append, s]
      have e2 : x.Cost = r.Cost + e.Cost := by rw [q]; rfl
      have := b.1
      have := b.2.1
      refine ⟨by omega, by omega, ?_⟩
      rw [e1, e2]; omega
def okRd (j : Nat) (x : Reading) : Prop := x.Text.size ≤ j ∧ 0 ≤ x.Cost ∧ x.Cost ≤ 1000000 * (j : Int)
def okT (l : Lattice) (B : Nat) (T : List (List Reading)) : Prop := T.length = l.Nodes.toNat ∧ ∀ j, j < l.Nodes.toNat → (at_ T j).length ≤ B ∧ ∀ x ∈ at_ T j, okRd j x
theorem Zlk {l : Lattice} {A B : Nat} {T : List (List Reading)} (h : okT l A T) (hab : A ≤ B) : okT l B T := ⟨h.1, fun j hj => ⟨Nat.le_trans (h.2 j hj).1 hab, (h.2 j hj).2⟩⟩
theorem Zwr {α : Type} [Inhabited α] (xs : List α) (n : Nat) : xs.set n (at_ xs n) = xs := by
  by_cases h : n < xs.length
  · rw [Zcz h, List.set_getElem_self]
  · exact List.set_eq_of_length_le (by omega)
def exT (p : ByteArray → Bool) (T : List (List Reading)) (e : Edge) (n j : Nat) : List (List Reading) := T.set e.To.toNat (at_ T e.To.toNat ++ exr p e (at_ T n) j)
theorem exT_0 (p : ByteArray → Bool) (T : List (List Reading)) (e : Edge) (n : Nat) : exT p T e n 0 = T := by
  unfold exT
  rw [show exr p e (at_ T n) 0 = [] from rfl, List.append_nil, Zwr]
theorem exT_y {p : ByteArray → Bool} {T : List (List Reading)} {e : Edge} {n j : Nat} (hT : e.To.toNat < T.length) (hj : j < (at_ T n).length) (hp : p ((at_ (at_ T n) j).Text ++ e.Label) = true) : (exT p T e n j).set e.To.toNat (at_ (exT p T e n j) e.To.toNat ++ [rdr e (at_ (at_ T n) j)]) = exT p T e n (j + 1) := by
  unfold exT
  rw [Zwx hj, if_pos hp, Zcm hT, List.set_set, List.append_assoc]
theorem exT_n {p : ByteArray → Bool} {T : List (List Reading)} {e : Edge} {n j : Nat} (hj : j < (at_ T n).length) (hp : p ((at_ (at_ T n) j).Text ++ e.Label) = false) : exT p T e n j = exT p T e n (j + 1) := by
  unfold exT
  rw [Zwx hj, if_neg (by rw [hp]; decide), List.append_nil]
theorem Yba {p : ByteArray → Bool} {T : List (List Reading)} {e : Edge} {n : Nat} (h : e.From = (n : Int)) (h2 : e.From < e.To) (j : Nat) : at_ (exT p T e n j) n = at_ T n := by unfold exT; rw [Zcw (by omega)]
theorem Yaz {p : ByteArray → Bool} {l : Lattice} {B : Nat} {T : List (List Reading)} {e : Edge} {n : Nat} (h : okT l B T) (he : okEd l e) (hf : e.From = (n : Int)) (j : Nat) : okT l (B + j) (exT p T e n j) := by
  have h1 := he.1
  refine ⟨by unfold exT; rw [List.length_set]; exact h.1, fun i hi => ?_⟩
  unfold exT
  by_cases q : i = e.To.toNat
  · rw [← q, Zcm (by rw [h.1]; exact hi)]
    refine ⟨?_, fun x hx => ?_⟩
    · rw [List.length_append]
      have := (h.2 i hi).1
      have := (exr_len p e (at_ T n) j).1
      omega
    · rcases List.mem_append.1 hx with z | z
      · exact (h.2 i hi).2 x z
      · unfold exr at z
        obtain ⟨r, hr, rfl⟩ := List.mem_map.1 (List.mem_filter.1 z).1
        have a := (h.2 n (by omega)).2 r (List.mem_of_mem_take hr)
        have s := Zeh he.2.2
        have c := he.2.1
        have a1 := a.1
        have a2 := a.2
        refine ⟨?_, ?_, ?_⟩
        · show (r.Text ++ e.Label).size ≤ i
          rw [ByteArray.size_append, s]; omega
        · show 0 ≤ r.Cost + e.Cost
          omega
        · show r.Cost + e.Cost ≤ _
          omega
  · rw [Zcw q]
    exact ⟨by have := (h.2 i hi).1; omega, (h.2 i hi).2⟩
theorem tbE_y {p : ByteArray → Bool} {l : Lattice} {n : Nat} {T0 : List (List Reading)} {i : Nat} (h : (at_ l.Edges i).From = (n : Int)) : exT p (tbE p l n T0 i) (at_ l.Edges i) n (at_ (tbE p l n T0 i) n).length = tbE p l n T0 (i + 1) := by
  show _ = (if _ then _ else _)
  rw [if_pos h]; rfl
theorem tbE_n {p : ByteArray → Bool} {l : Lattice} {n : Nat} {T0 : List (List Reading)} {i : Nat} (h : ¬ (at_ l.Edges i).From = (n : Int)) : tbE p l n T0 i = tbE p l n T0 (i + 1) := by
  show _ = (if _ then _ else _)
  rw [if_neg h]
theorem okT_set {l : Lattice} {B k : Nat} {T : List (List Reading)} {n : Nat} (h : okT l B T) (hn : n < l.Nodes.toNat) : okT l B (T.set n (frL k (at_ T n))) := by
  refine ⟨by rw [List.length_set]; exact h.1, fun j hj => ?_⟩
  by_cases e : j = n
  · subst e
    rw [Zcm (by rw [h.1]; exact hj)]
    exact ⟨Nat.le_trans (frL_len k _).2 (h.2 j hj).1, fun x hx => (h.2 j hj).2 x (Zuy hx)⟩
  · rw [Zcw e]; exact h.2 j hj
theorem okT_0 {l : Lattice} (hl : Zcg l) : okT l 1 (tb0 l) := ⟨Ycm l, fun j hj => by
  unfold tb0
  by_cases e : j = 0
  · subst e
    rw [Zcm (by rw [List.length_replicate]; exact hj)]
    refine ⟨Nat.le_refl _, fun x hx => ?_⟩
    rw [List.mem_singleton] at hx
    subst hx
    exact ⟨Nat.le_refl _, Int.le_refl _, by show (0 : Int) ≤ 1000000 * ((0 : Nat) : Int); omega⟩
  · rw [Zcw e, Zop hj]
    exact ⟨Nat.zero_le _, fun x hx => (by cases hx)⟩⟩
def degL (l : Lattice) : Prop := l.Nodes ≤ 6 ∧ ∀ n : Nat, (l.Edges.filter fun e => decide (e.From = (n : Int))).length ≤ 4
theorem ed_nodup {xs : List Edge} (h : xs.Pairwise fun x y => Zfu x y < 0) : xs.Nodup := h.imp fun {x y} q e => by rw [e, cmpE_w.refl] at q; omega
theorem deg_add {xs v : List Edge} {e : Edge} {n : Nat} (hv : v.Pairwise fun x y => Zfu x y < 0) (hm : ∀ x ∈ v, x = e ∨ x ∈ xs) : (v.filter fun x => decide (x.From = (n : Int))).length ≤ (xs.filter fun x => decide (x.From = (n : Int))).length + if e.From = (n : Int) then 1 else 0 := by
  have := nd_le (xs := v.filter fun x => decide (x.From = (n : Int))) (ys := (e :: xs).filter fun x => decide (x.From = (n : Int))) ((ed_nodup hv).sublist List.filter_sublist) fun x hx => by
    rw [List.mem_filter] at hx ⊢
    exact ⟨(hm x hx.1).elim (fun q => by rw [q]; exact List.mem_cons_self) (fun q => List.mem_cons_of_mem _ q), hx.2⟩
  rw [List.filter_cons] at this
  by_cases q : e.From = (n : Int)
  · rw [if_pos q]; rw [if_pos (decide_eq_true q)] at this; simpa using this
  · rw [if_neg q]; rw [if_neg (fun z => q (of_decide_eq_true z))] at this; exact this
def Ztk (l : Lattice) (n m : Int) : Prop := ∀ j : Nat, ((l.Edges.filter fun x => decide (x.From = (j : Int))).length : Int) ≤ if (j : Int) < n then 4 else if (j : Int) = n then m else 0
theorem degI_0 {n : Int} : Ztk ⟨n, []⟩ 0 0 := fun j => by
  show ((0 : Nat) : Int) ≤ _
  split
  · omega
  · split <;> omega
theorem Zef {l : Lattice} {n a b : Int} (h : Ztk l n a) (hab : a ≤ b) : Ztk l n b := fun j => by
  have := h j
  split at this
  · rename_i q; rw [if_pos q]; exact this
  · rename_i q; rw [if_neg q]; split at this
    · rename_i q2; rw [if_pos q2]; omega
    · rename_i q2; rw [if_neg q2]; exact this
theorem Ycn {l : Lattice} {n : Int} (h : Ztk l n 4) : Ztk l (n + 1) 0 := fun j => by
  have := h j
  by_cases q : (j : Int) < n + 1
  · rw [if_pos q]
    split at this
    · exact this
    · split at this <;> omega
  · rw [if_neg q]
    rw [if_neg (by omega), if_neg (by omega)] at this
    split <;> exact this
theorem Zwy {l v : Lattice} {e : Edge} {n m : Int} (h : Ztk l n m) (hv : Zcg v) (hm : ∀ x ∈ v.Edges, x = e ∨ x ∈ l.Edges) (he : e.From = n) : Ztk v n (m + 1) := fun j => by
  have a := deg_add (n := j) hv.2.2.2 hm
  have b := h j
  by_cases q : (j : Int) = n
  · rw [if_neg (by omega), if_pos q] at b ⊢
    rw [if_pos (by omega)] at a
    omega
  · rw [if_neg (by omega)] at a
    split at b
    · rename_i q2; rw [if_pos q2]; omega
    · rename_i q2; rw [if_neg q2, if_neg q]; (try rw [if_neg q] at b); omega
theorem Zjs {l : Lattice} {n : Int} (h : Ztk l n 4) (h6 : l.Nodes ≤ 6) : degL l := ⟨h6, fun j => by
  have := h j
  split at this
  · omega
  · split at this <;> omega⟩
theorem Zyi (s : l00Src) (most : Int) (hs : Zcq s) (ha : s.atx ≤ 3999999999999996000) (hmo : 0 ≤ most ∧ most ≤ 6) : ∃ (v : Lattice) (s' : l00Src), (Zcq s') ∧ (s'.code = s.code) ∧ (s.atx + 0 ≤ s'.atx ∧ s'.atx ≤ s.atx + 400) ∧ (Zcg v) ∧ (degL v) ∧ Zbi Tryz.prog 37 [.ref 7001 0, I most] (Zaf [(7001, Zab s)]) true (Zcn v) (Zaf [(7001, Zab s')]) := by
  have hh : ∃ r : Lattice × l00Src, ((Zcq r.2) ∧ (r.2.code = s.code) ∧ (s.atx + 0 ≤ r.2.atx ∧ r.2.atx ≤ s.atx + 400) ∧ (Zcg r.1) ∧ (degL r.1) ∧ (True)) ∧ Zbi Tryz.prog 37 [.ref 7001 0, I most] (Zaf [(7001, Zab s)]) true (Zcn r.1) (Zaf [(7001, Zab r.2)]) := by
    refine Zdl (Φ := fun r : Lattice × l00Src => (Zcq r.2) ∧ (r.2.code = s.code) ∧ (s.atx + 0 ≤ r.2.atx ∧ r.2.atx ≤ s.atx + 400) ∧ (Zcg r.1) ∧ (degL r.1) ∧ (True)) [(7001, Zab s)] (fun r => [(7001, Zab r.2)]) (fn := Tryz.f37) (nt := 57) Tryz.func37 rfl rfl (args := [.ref 7001 0, I most]) rfl (Zbe (.inr trivial) (Zbe (.inl ⟨rfl, trivial⟩) Zdj)) (res := fun r => Zcn r.1) ?_
    refine xR [(0, .new 4)] [0, 1, 4] [4, 7001] [.ref 7001 0, I most, .ref 4 0] [some (.box [I 0, Zde]), some (Zab s)] [] trivial ?_
    refine Zar ?_
    obtain ⟨v_1, s'_1, hx1_0, hx1_1, hx1_2, hx1_3, hc1⟩ := Ziu s most (by first | assumption | (simp only [Zcq] at *; simp_all; done)) (by omega)
    refine x_r [(2, .lend [(7001, Zab s, Zab s'_1)] [] [(true, .any), (true, .any)] true (I v_1)), (5, .new 5)] [0, 4, 5] [4, 5, 7001] [.ref 7001 0, .ref 4 0, .ref 5 0] [some (.box [I 0, Zde]), some (.box [I (1 + v_1), Zde]), some (Zab s'_1)] [Zbi Tryz.prog 70 [.ref 7001 0, I most] (Zaf [(7001, Zab s)]) true (I v_1) (Zaf [(7001, Zab s'_1)]) ∧ (((Zab s : Ob) = Zab s ∨ Zih Zgf true (Zab s) (Zab s)) ∧ Zbu false (Zab s)) ∧ True, inR .i64 (1 + v_1)] ⟨⟨hc1, ⟨.inl rfl, (by simp [Zbu, Zaj, Zan, Zgz])⟩, trivial⟩, (Zah (by omega) (by omega)), trivial⟩ ?_
    refine Zad ?_
    refine Zar ?_
    refine xR [] [0, 4, 5, 6] [4, 5, 7001] [.ref 7001 0, .ref 4 0, .ref 5 0, I 0] [some (.box [I 0, Zde]), some (.box [I (1 + v_1), Zde]), some (Zab s'_1)] [] trivial ?_
    refine Zbp ?_
    refine Zek [] (T := [(0, .ref 7001 0), (4, .ref 4 0), (5, .ref 5 0), (6, I 0)]) (O := [(4, .box [I 0, Zde]), (5, .box [I ((Lattice.mk (1 + v_1) ([] : List Edge)).Nodes), .sl true 4 ((Lattice.mk (1 + v_1) ([] : List Edge)).Edges.length) (Zcv ((Lattice.mk (1 + v_1) ([] : List Edge)).Edges))]), (7001, Zab s'_1)]) rfl (⟨.inl rfl, .inl rfl, .inl rfl, .inl rfl, trivial⟩) (⟨.inl rfl, .inr ⟨(by first | rfl | (simp [Zcp]; done) | (simp [Zcp]; omega)), ⟨⟨rfl, rfl⟩, rfl⟩⟩, .inl rfl, trivial⟩) ?_
    refine Zel (X := Int × Lattice × l00Src) (fun x => mkS [(0, .ref 7001 0), (4, .ref 4 0), (5, .ref 5 0), (6, I x.1)] [(4, .box [I 0, Zde]), (5, Zak x.2.1), (7001, Zab x.2.2)]) (fun x => (Zcq x.2.2 ∧ x.2.2.code = s.code ∧ s.atx ≤ x.2.2.atx ∧ x.2.2.atx ≤ s.atx + 10 + 50 * x.1) ∧ (0 ≤ x.1 ∧ x.1 ≤ 6) ∧ (Zcg x.2.1) ∧ (x.2.1.Nodes ≤ 6 ∧ (x.1 < x.2.1.Nodes)) ∧ (Ztk x.2.1 x.1 0) ∧ True) (fun x => (x.2.1.Nodes - x.1).toNat) (0, (Lattice.mk (1 + v_1) ([] : List Edge)), s'_1) rfl (show (Zcq s'_1 ∧ s'_1.code = s.code ∧ s.atx ≤ s'_1.atx ∧ s'_1.atx ≤ s.atx + 10 + 50 * (0 : Int)) ∧ (0 ≤ (0 : Int) ∧ (0 : Int) ≤ 6) ∧ (Zcg (Lattice.mk (1 + v_1) ([] : List Edge))) ∧ ((Lattice.mk (1 + v_1) ([] : List Edge)).Nodes ≤ 6 ∧ ((0 : Int) < (Lattice.mk (1 + v_1) ([] : List Edge)).Nodes)) ∧ (Ztk (Lattice.mk (1 + v_1) ([] : List Edge)) (0 : Int) 0) ∧ True from ⟨(by exact ⟨by assumption, by first | assumption | rfl | (simp only [*]; done), by omega, by omega⟩), (by omega), (by exact Ycf (by omega)), (by (dsimp only; omega)), (by exact degI_0), trivial⟩) (fun x hI => ?_)
    obtain ⟨n, out, src⟩ := x
    obtain ⟨hs0, hn0, hla, hno, hdg, _⟩ : (Zcq src ∧ src.code = s.code ∧ s.atx ≤ src.atx ∧ src.atx ≤ s.atx + 10 + 50 * n) ∧ (0 ≤ n ∧ n ≤ 6) ∧ (Zcg out) ∧ (out.Nodes ≤ 6 ∧ (n < out.Nodes)) ∧ (Ztk out n 0) ∧ True := hI
    show XW _ _ _ _ (mkS [(0, .ref 7001 0), (4, .ref 4 0), (5, .ref 5 0), (6, I n)] [(4, .box [I 0, Zde]), (5, Zak out), (7001, Zab src)]) _ _
    refine Zar ?_
    refine Zar ?_
    by_cases h1 : (n + 1) < out.Nodes
    ·refine x_r [(4, .dec true)] [0, 4, 5, 6, 21] [4, 5, 7001] [.ref 7001 0, .ref 4 0, .ref 5 0, I n, Bv true] [some (.box [I 0, Zde]), some (Zak out), some (Zab src)] [inR .i64 (n + 1), (n + 1) < out.Nodes] ⟨(Zah (by omega) (by omega)), h1, trivial⟩ ?_
     refine Zad ?_
     refine Zcb rfl ?_
     refine Zbk ?_
     refine Zad ?_
     refine Zar ?_
     refine Zbp ?_
     refine Zar ?_
     obtain ⟨v_2, s'_2, hx2_0, hx2_1, hx2_2, hx2_3, hc2⟩ := Ziu src 5 (by first | assumption | (simp only [Zcq] at *; simp_all; done)) (by omega)
     refine x_r [(1, .lend [(7001, Zab src, Zab s'_2)] [] [(true, .any), (true, .any)] true (I v_2))] [0, 4, 5, 6, 7] [4, 5, 7001] [.ref 7001 0, .ref 4 0, .ref 5 0, I n, I v_2] [some (.box [I 0, Zde]), some (Zak out), some (Zab s'_2)] [Zbi Tryz.prog 70 [.ref 7001 0, I 5] (Zaf [(7001, Zab src)]) true (I v_2) (Zaf [(7001, Zab s'_2)]) ∧ (((Zab src : Ob) = Zab src ∨ Zih Zgf true (Zab src) (Zab src)) ∧ Zbu false (Zab src)) ∧ True] ⟨⟨hc2, ⟨.inl rfl, (by simp [Zbu, Zaj, Zan, Zgz])⟩, trivial⟩, trivial⟩ ?_
     refine Zad ?_
     refine Zbp ?_
     refine Zel (X := Int × Lattice × l00Src) (fun x => mkS [(0, .ref 7001 0), (4, .ref 4 0), (5, .ref 5 0), (6, I n), (7, I x.1)] [(4, .box [I 0, Zde]), (5, Zak x.2.1), (7001, Zab x.2.2)]) (fun x => (Zcq x.2.2 ∧ x.2.2.code = s.code ∧ s.atx ≤ x.2.2.atx ∧ x.2.2.atx ≤ s.atx + 12 + 50 * n + 8 * (5 - x.1)) ∧ (0 ≤ x.1 ∧ x.1 ≤ 4) ∧ (Zcg x.2.1) ∧ (x.2.1.Nodes = out.Nodes) ∧ (Ztk x.2.1 n (4 - x.1)) ∧ True) (fun x => x.1.toNat) (v_2, out, s'_2) rfl (show (Zcq s'_2 ∧ s'_2.code = s.code ∧ s.atx ≤ s'_2.atx ∧ s'_2.atx ≤ s.atx + 12 + 50 * n + 8 * (5 - v_2)) ∧ (0 ≤ v_2 ∧ v_2 ≤ 4) ∧ (Zcg out) ∧ (out.Nodes = out.Nodes) ∧ (Ztk out n (4 - v_2)) ∧ True from ⟨(by exact ⟨by assumption, by first | assumption | rfl | (simp only [*]; done), by omega, by omega⟩), (by omega), (by assumption), (by rfl), (by exact Zef hdg (by omega)), trivial⟩) (fun x hI => ?_)
     obtain ⟨k, out', src'⟩ := x
     obtain ⟨hs0, hk0, hla, hno2, hdg, _⟩ : (Zcq src' ∧ src'.code = s.code ∧ s.atx ≤ src'.atx ∧ src'.atx ≤ s.atx + 12 + 50 * n + 8 * (5 - k)) ∧ (0 ≤ k ∧ k ≤ 4) ∧ (Zcg out') ∧ (out'.Nodes = out.Nodes) ∧ (Ztk out' n (4 - k)) ∧ True := hI
     show XW _ _ _ _ (mkS [(0, .ref 7001 0), (4, .ref 4 0), (5, .ref 5 0), (6, I n), (7, I k)] [(4, .box [I 0, Zde]), (5, Zak out'), (7001, Zab src')]) _ _
     refine Zar ?_
     refine Zar ?_
     by_cases h2 : 0 < k
     ·refine x_r [(1, .dec true)] [0, 4, 5, 6, 7, 27] [4, 5, 7001] [.ref 7001 0, .ref 4 0, .ref 5 0, I n, I k, Bv true] [some (.box [I 0, Zde]), some (Zak out'), some (Zab src')] [0 < k] ⟨h2, trivial⟩ ?_
      refine Zad ?_
      refine Zcb rfl ?_
      refine Zbk ?_
      refine Zad ?_
      refine Zar ?_
      refine Zbp ?_
      refine Zar ?_
      obtain ⟨v_3, s'_3, hx3_0, hx3_1, hx3_2, hx3_3, hc3⟩ := Ziu src' 2 (by first | assumption | (simp only [Zcq] at *; simp_all; done)) (by omega)
      refine x_r [(3, .lend [(7001, Zab src', Zab s'_3)] [] [(true, .any), (true, .any)] true (I v_3))] [0, 4, 5, 6, 7, 8] [4, 5, 7001] [.ref 7001 0, .ref 4 0, .ref 5 0, I n, I k, I ((n + 1) + v_3)] [some (.box [I 0, Zde]), some (Zak out'), some (Zab s'_3)] [inR .i64 (n + 1), Zbi Tryz.prog 70 [.ref 7001 0, I 2] (Zaf [(7001, Zab src')]) true (I v_3) (Zaf [(7001, Zab s'_3)]) ∧ (((Zab src' : Ob) = Zab src' ∨ Zih Zgf true (Zab src') (Zab src')) ∧ Zbu false (Zab src')) ∧ True, inR .i64 ((n + 1) + v_3)] ⟨(Zah (by omega) (by omega)), ⟨hc3, ⟨.inl rfl, (by simp [Zbu, Zaj, Zan, Zgz])⟩, trivial⟩, (Zah (by omega) (by omega)), trivial⟩ ?_
      refine Zad ?_
      refine Zar ?_
      obtain ⟨v_4, s'_4, hx4_0, hx4_1, hx4_2, hx4_3, hx4_4, hc4⟩ := Zup s'_3 ([(⟨#[97]⟩ : ByteArray), (⟨#[110]⟩ : ByteArray), (⟨#[116]⟩ : ByteArray), (⟨#[101]⟩ : ByteArray), (⟨#[115]⟩ : ByteArray), (⟨#[105]⟩ : ByteArray)]) (by first | assumption | (simp only [Zcq] at *; simp_all; done)) (by omega) (by decide)
      have hlab : Zdt v_4 = true := by have q := hx4_4; simp only [List.mem_cons, List.not_mem_nil, or_false] at q; rcases q with q | q | q | q | q | q <;> rw [q] <;> decide
      obtain ⟨v_5, s'_5, hx5_0, hx5_1, hx5_2, hx5_3, hc5⟩ := Ziu s'_4 40 (by first | assumption | (simp only [Zcq] at *; simp_all; done)) (by omega)
      refine x_r [(5, .call [(true, .any), (true, .any)] true (I (min ((n + 1) + v_3) (out'.Nodes - 1)))), (7, .new 42), (8, .lend [(7001, Zab s'_3, Zab s'_4)] [] [(true, .any), (false, slS false ([(⟨#[97]⟩ : ByteArray), (⟨#[110]⟩ : ByteArray), (⟨#[116]⟩ : ByteArray), (⟨#[101]⟩ : ByteArray), (⟨#[115]⟩ : ByteArray), (⟨#[105]⟩ : ByteArray)]))] true (Sv v_4)), (10, .lend [(7001, Zab s'_4, Zab s'_5)] [] [(true, .any), (true, .any)] true (I v_5)), (12, .new 9)] [0, 4, 5, 6, 7, 9] [4, 5, 9, 7001] [.ref 7001 0, .ref 4 0, .ref 5 0, I n, I k, .ref 9 0] [some (.box [I 0, Zde]), some (Zak out'), some (.box [I n, I (min ((n + 1) + v_3) (out'.Nodes - 1)), Sv v_4, I v_5]), some (Zab s'_5)] [inR .i64 (out'.Nodes - 1), Con Tryz.prog 89 [I ((n + 1) + v_3), I (out'.Nodes - 1)] true (I (min ((n + 1) + v_3) (out'.Nodes - 1))) ∧ True, Zbi Tryz.prog 59 [.ref 7001 0, slS false ([(⟨#[97]⟩ : ByteArray), (⟨#[110]⟩ : ByteArray), (⟨#[116]⟩ : ByteArray), (⟨#[101]⟩ : ByteArray), (⟨#[115]⟩ : ByteArray), (⟨#[105]⟩ : ByteArray)])] (Zaf [(7001, Zab s'_3)]) true (Sv v_4) (Zaf [(7001, Zab s'_4)]) ∧ ((false = true → true = true) ∧ 1 = 1 ∧ 6 = (([(⟨#[97]⟩ : ByteArray), (⟨#[110]⟩ : ByteArray), (⟨#[116]⟩ : ByteArray), (⟨#[101]⟩ : ByteArray), (⟨#[115]⟩ : ByteArray), (⟨#[105]⟩ : ByteArray)]).length) ∧ ∀ i_, i_ < (([(⟨#[97]⟩ : ByteArray), (⟨#[110]⟩ : ByteArray), (⟨#[116]⟩ : ByteArray), (⟨#[101]⟩ : ByteArray), (⟨#[115]⟩ : ByteArray), (⟨#[105]⟩ : ByteArray)]).length) → (Zgd [Sv (⟨#[97]⟩ : ByteArray), Sv (⟨#[110]⟩ : ByteArray), Sv (⟨#[116]⟩ : ByteArray), Sv (⟨#[101]⟩ : ByteArray), Sv (⟨#[115]⟩ : ByteArray), Sv (⟨#[105]⟩ : ByteArray)] 1) i_ = (fS ([(⟨#[97]⟩ : ByteArray), (⟨#[110]⟩ : ByteArray), (⟨#[116]⟩ : ByteArray), (⟨#[101]⟩ : ByteArray), (⟨#[115]⟩ : ByteArray), (⟨#[105]⟩ : ByteArray)])) i_ ∨ (AV.idsL ((fS ([(⟨#[97]⟩ : ByteArray), (⟨#[110]⟩ : ByteArray), (⟨#[116]⟩ : ByteArray), (⟨#[101]⟩ : ByteArray), (⟨#[115]⟩ : ByteArray), (⟨#[105]⟩ : ByteArray)])) i_) = [] ∧ leL (fun _ => none) false ((Zgd [Sv (⟨#[97]⟩ : ByteArray), Sv (⟨#[110]⟩ : ByteArray), Sv (⟨#[116]⟩ : ByteArray), Sv (⟨#[101]⟩ : ByteArray), Sv (⟨#[115]⟩ : ByteArray), Sv (⟨#[105]⟩ : ByteArray)] 1) i_) ((fS ([(⟨#[97]⟩ : ByteArray), (⟨#[110]⟩ : ByteArray), (⟨#[116]⟩ : ByteArray), (⟨#[101]⟩ : ByteArray), (⟨#[115]⟩ : ByteArray), (⟨#[105]⟩ : ByteArray)])) i_))) ∧ (((Zab s'_3 : Ob) = Zab s'_3 ∨ Zih Zgf true (Zab s'_3) (Zab s'_3)) ∧ Zbu false (Zab s'_3)) ∧ True, Zbi Tryz.prog 70 [.ref 7001 0, I 40] (Zaf [(7001, Zab s'_4)]) true (I v_5) (Zaf [(7001, Zab s'_5)]) ∧ (((Zab s'_4 : Ob) = Zab s'_4 ∨ Zih Zgf true (Zab s'_4) (Zab s'_4)) ∧ Zbu false (Zab s'_4)) ∧ True] ⟨(Zah (by omega) (by omega)), ⟨(Ycc ((n + 1) + v_3) (out'.Nodes - 1)), trivial⟩, ⟨hc4, ⟨(fun h => by cases h), rfl, (by first | rfl | (simp; done) | (simp; omega) | omega), fun i_ hi_ => .inl (match i_, hi_ with | 0, _ => rfl | 1, _ => rfl | 2, _ => rfl | 3, _ => rfl | 4, _ => rfl | 5, _ => rfl | (i + 6), h => absurd h (by simp))⟩, ⟨.inl rfl, (by simp [Zbu, Zaj, Zan, Zgz])⟩, trivial⟩, ⟨hc5, ⟨.inl rfl, (by simp [Zbu, Zaj, Zan, Zgz])⟩, trivial⟩, trivial⟩ ?_
      refine Zad ?_
      refine Zar ?_
      obtain ⟨v_6, c_6, hx6_0, hx6_1, hc6⟩ := Znr out' (Edge.mk n (min ((n + 1) + v_3) (out'.Nodes - 1)) v_4 v_5) hla (show okEd _ _ from ⟨⟨by dsimp only; omega, by dsimp only; omega, by dsimp only; omega⟩, ⟨by dsimp only; omega, by dsimp only; omega⟩, hlab⟩)
      have hadd := hx6_0
      refine x_r [(2, .call [(false, Zbh out'), (true, .any)] true (.tup [Zcn v_6, I c_6])), (6, .new 10)] [0, 4, 5, 6, 7, 10, 11] [4, 5, 10, 7001] [.ref 7001 0, .ref 4 0, .ref 5 0, I n, I k, .ref 10 0, I c_6] [some (.box [I 0, Zde]), some (Zak out'), some (Zak v_6), some (Zab s'_5)] [Con Tryz.prog 90 [Zbh out', .agg [I n, I (min ((n + 1) + v_3) (out'.Nodes - 1)), Sv v_4, I v_5]] true (.tup [Zcn v_6, I c_6]) ∧ ((Zcp (I out'.Nodes) = Zcp (I out'.Nodes)) ∧ ((false = true → true = true) ∧ 4 = 4 ∧ out'.Edges.length = out'.Edges.length ∧ ∀ i_, i_ < out'.Edges.length → (Zcv out'.Edges) i_ = (Zcv out'.Edges) i_ ∨ (AV.idsL ((Zcv out'.Edges) i_) = [] ∧ leL (fun _ => none) false ((Zcv out'.Edges) i_) ((Zcv out'.Edges) i_))) ∧ ([] : List AV) = []) ∧ True] ⟨⟨hc6, ⟨rfl, ⟨⟨(fun h => by cases h), rfl, rfl, fun i _ => .inl rfl⟩, rfl⟩⟩, trivial⟩, trivial⟩ ?_
      refine Zad ?_
      refine Zar ?_
      by_cases h3 : c_6 = 0
      ·refine x_r [(1, .dec true)] [0, 4, 5, 6, 7, 10, 54] [4, 5, 10, 7001] [.ref 7001 0, .ref 4 0, .ref 5 0, I n, I k, .ref 10 0, Bv true] [some (.box [I 0, Zde]), some (Zak out'), some (Zak v_6), some (Zab s'_5)] [c_6 = 0] ⟨h3, trivial⟩ ?_
       refine Zad ?_
       refine Zcb rfl ?_
       refine x_r [] [0, 4, 5, 6, 7] [4, 5, 7001] [.ref 7001 0, .ref 4 0, .ref 5 0, I n, I k] [some (.box [I 0, Zde]), some (Zak v_6), some (Zab s'_5)] [] trivial ?_
       refine Zbw 3 ?_
       refine Zad ?_
       refine x_r [] [0, 4, 5, 6, 7] [4, 5, 7001] [.ref 7001 0, .ref 4 0, .ref 5 0, I n, I (k - 1)] [some (.box [I 0, Zde]), some (Zak v_6), some (Zab s'_5)] [inR .i64 (k - 1)] ⟨(Zah (by omega) (by omega)), trivial⟩ ?_
       exact Zbm ((k - 1), v_6, s'_5) rfl (show (Zcq s'_5 ∧ s'_5.code = s.code ∧ s.atx ≤ s'_5.atx ∧ s'_5.atx ≤ s.atx + 12 + 50 * n + 8 * (5 - (k - 1))) ∧ (0 ≤ (k - 1) ∧ (k - 1) ≤ 4) ∧ (Zcg v_6) ∧ (v_6.Nodes = out.Nodes) ∧ (Ztk v_6 n (4 - (k - 1))) ∧ True from ⟨(by exact ⟨by assumption, by first | assumption | rfl | (simp only [*]; done), by omega, by omega⟩), (by omega), (by first | exact (hadd (by omega)).1 | assumption), (by first | exact (hadd (by omega)).2.1.trans hno2 | assumption), (by first | exact Zef (Zwy hdg (hadd (by omega)).1 (hadd (by omega)).2.2 rfl) (by omega) | exact Zef hdg (by omega)), trivial⟩) (by first | (show ((k - 1).toNat : Nat) < k.toNat; omega) | (dsimp only; omega))
      refine x_r [(1, .dec false)] [0, 4, 5, 6, 7, 10, 54] [4, 5, 10, 7001] [.ref 7001 0, .ref 4 0, .ref 5 0, I n, I k, .ref 10 0, Bv false] [some (.box [I 0, Zde]), some (Zak out'), some (Zak v_6), some (Zab s'_5)] [¬ (c_6 = 0)] ⟨h3, trivial⟩ ?_
      refine Zad ?_
      refine Zav rfl ?_
      refine Zbk ?_
      refine Zbw 3 ?_
      refine Zad ?_
      refine x_r [] [0, 4, 5, 6, 7] [4, 5, 7001] [.ref 7001 0, .ref 4 0, .ref 5 0, I n, I (k - 1)] [some (.box [I 0, Zde]), some (Zak out'), some (Zab s'_5)] [inR .i64 (k - 1)] ⟨(Zah (by omega) (by omega)), trivial⟩ ?_
      exact Zbm ((k - 1), out', s'_5) rfl (show (Zcq s'_5 ∧ s'_5.code = s.code ∧ s.atx ≤ s'_5.atx ∧ s'_5.atx ≤ s.atx + 12 + 50 * n + 8 * (5 - (k - 1))) ∧ (0 ≤ (k - 1) ∧ (k - 1) ≤ 4) ∧ (Zcg out') ∧ (out'.Nodes = out.Nodes) ∧ (Ztk out' n (4 - (k - 1))) ∧ True from ⟨(by exact ⟨by assumption, by first | assumption | rfl | (simp only [*]; done), by omega, by omega⟩), (by omega), (by first | exact (hadd (by omega)).1 | assumption), (by first | exact (hadd (by omega)).2.1.trans hno2 | assumption), (by first | exact Zef (Zwy hdg (hadd (by omega)).1 (hadd (by omega)).2.2 rfl) (by omega) | exact Zef hdg (by omega)), trivial⟩) (by first | (show ((k - 1).toNat : Nat) < k.toNat; omega) | (dsimp only; omega))
     refine x_r [(1, .dec false)] [0, 4, 5, 6, 7, 27] [4, 5, 7001] [.ref 7001 0, .ref 4 0, .ref 5 0, I n, I k, Bv false] [some (.box [I 0, Zde]), some (Zak out'), some (Zab src')] [¬ (0 < k)] ⟨h2, trivial⟩ ?_
     refine Zad ?_
     refine Zav rfl ?_
     refine Zdo ?_
     refine Zaw ?_
     refine Zbd ?_
     refine Zax ?_
     refine Zbw 1 ?_
     refine Zad ?_
     refine x_r [] [0, 4, 5, 6] [4, 5, 7001] [.ref 7001 0, .ref 4 0, .ref 5 0, I (n + 1)] [some (.box [I 0, Zde]), some (Zak out'), some (Zab src')] [inR .i64 (n + 1)] ⟨(Zah (by omega) (by omega)), trivial⟩ ?_
     exact Zbm ((n + 1), out', src') rfl (show (Zcq src' ∧ src'.code = s.code ∧ s.atx ≤ src'.atx ∧ src'.atx ≤ s.atx + 10 + 50 * (n + 1)) ∧ (0 ≤ (n + 1) ∧ (n + 1) ≤ 6) ∧ (Zcg out') ∧ (out'.Nodes ≤ 6 ∧ ((n + 1) < out'.Nodes)) ∧ (Ztk out' (n + 1) 0) ∧ True from ⟨(by first | exact ⟨hs0.1, hs0.2.1, by omega, by omega⟩ | (exact ⟨by assumption, by first | assumption | rfl | (simp only [*]; done), by omega, by omega⟩)), (by omega), (by assumption), (by omega), (by exact Ycn (Zef hdg (by omega))), trivial⟩) (by first | (show ((out'.Nodes - (n + 1)).toNat : Nat) < (out.Nodes - n).toNat; omega) | (dsimp only; omega))
    refine x_r [(4, .dec false)] [0, 4, 5, 6, 21] [4, 5, 7001] [.ref 7001 0, .ref 4 0, .ref 5 0, I n, Bv false] [some (.box [I 0, Zde]), some (Zak out), some (Zab src)] [inR .i64 (n + 1), ¬ ((n + 1) < out.Nodes)] ⟨(Zah (by omega) (by omega)), h1, trivial⟩ ?_
    refine Zad ?_
    refine Zav rfl ?_
    refine Zdo ?_
    refine Zaw ?_
    refine Zbd ?_
    refine Zax ?_
    refine Zad ?_
    refine xR [] [4] [4, 7001] [.ref 4 0] [some (Zak out), some (Zab src)] [] trivial ?_
    refine Zdh ?_
    refine Zce (out, src) (show (Zcq src) ∧ (src.code = s.code) ∧ (s.atx + 0 ≤ src.atx ∧ src.atx ≤ s.atx + 400) ∧ (Zcg out) ∧ (degL out) ∧ (True) from ⟨(by first | omega | assumption | exact hs0.1 | exact hs0.2.1 | exact Zjs (Zef hdg (by omega)) (by omega)), (by first | omega | assumption | exact hs0.1 | exact hs0.2.1 | exact Zjs (Zef hdg (by omega)) (by omega)), (by first | omega | assumption | exact hs0.1 | exact hs0.2.1 | exact Zjs (Zef hdg (by omega)) (by omega)), (by first | omega | assumption | exact hs0.1 | exact hs0.2.1 | exact Zjs (Zef hdg (by omega)) (by omega)), (by first | omega | assumption | exact hs0.1 | exact hs0.2.1 | exact Zjs (Zef hdg (by omega)) (by omega)), trivial⟩) (⟨.inl rfl, trivial⟩) (Zcn out) (by kernel_rfl) (.inl rfl) (fun _ => rfl) (fun _ => (by simp [Zan, Zaj, Zdv]))
  obtain ⟨⟨v, s'⟩, ⟨hh0, hh1, hh2, hh3, hh4, _⟩, hc⟩ := hh
  exact ⟨v, s', hh0, hh1, hh2, hh3, hh4, hc⟩
def letB (n : Int) : Bool := inB n 97 122
def Zew (s : ByteArray) : Bool := decide (1 ≤ s.size ∧ s.size ≤ 10) && allN s.size (fun j => letB (bAt s j))
theorem Zdn {s : ByteArray} : Zew s = true ↔ (1 ≤ s.size ∧ s.size ≤ 10) ∧ ∀ j : Nat, j < s.size → letB (bAt s j) = true := by
  unfold Zew
  rw [Bool.and_eq_true, decide_eq_true_eq]
  exact ⟨fun h => ⟨h.1, fun j hj => allN_get h.2 hj⟩, fun h => ⟨h.1, Zva h.2⟩⟩
theorem Zmz {s : ByteArray} {j : Nat} (hj : j < s.size) (h : letB (bAt s j) = false) : Zew s = false := Bool.eq_false_iff.2 fun q => by rw [(Zdn.1 q).2 j hj] at h; cases h
theorem Zmy {s : ByteArray} (h : ∀ j : Nat, j < s.size → letB (bAt s j) = true) : Zew s = decide (1 ≤ s.size ∧ s.size ≤ 10) := by unfold Zew; rw [Zva h, Bool.and_true]
def Zff (a b : Entry) : Int := Zdm a.Word b.Word
theorem cmpN_w : CmpW Zff := cmpS_w.map Entry.Word
def Zoz (e : Entry) : Prop := Zew e.Word = true ∧ (0 ≤ e.Cost ∧ e.Cost ≤ 1000000)
def Zci (x : Lexicon) : Prop := x.Entries.length ≤ 60 ∧ (∀ e ∈ x.Entries, Zoz e) ∧ x.Entries.Pairwise fun x y => Zff x y < 0
theorem Zmr : ∃ (v : List ByteArray), ((0 < v.length ∧ v.length ≤ 1000) ∧ ∀ z ∈ v, z.size ≤ 16) ∧ (∀ z ∈ v, Zew z = true) ∧ Con Tryz.prog 60 [] true (slS true v) := by
  have hh : ∃ r : (List ByteArray), (((0 < r.length ∧ r.length ≤ 1000) ∧ ∀ z ∈ r, z.size ≤ 16) ∧ (∀ z ∈ r, Zew z = true) ∧ (True)) ∧ Zbi Tryz.prog 60 [] (Zaf []) true (slS true r) (Zaf []) := by
    refine Zdl (Φ := fun r : (List ByteArray) => ((0 < r.length ∧ r.length ≤ 1000) ∧ ∀ z ∈ r, z.size ≤ 16) ∧ (∀ z ∈ r, Zew z = true) ∧ (True)) [] (fun r => []) (fn := Tryz.f60) (nt := 2) Tryz.func60 rfl rfl (args := []) rfl Zdj (res := fun r => slS true r) ?_
    refine xR [] [] [] [] [] [] trivial ?_
    refine xR [(0, .new 1)] [0] [1] [.arr 1] [some (.arr 1 24 (Zgd [Sv (⟨#[97]⟩ : ByteArray), Sv (⟨#[97, 110]⟩ : ByteArray), Sv (⟨#[97, 110, 116]⟩ : ByteArray), Sv (⟨#[97, 116]⟩ : ByteArray), Sv (⟨#[97, 116, 101]⟩ : ByteArray), Sv (⟨#[101, 97, 116]⟩ : ByteArray), Sv (⟨#[101]⟩ : ByteArray), Sv (⟨#[101, 110]⟩ : ByteArray), Sv (⟨#[105]⟩ : ByteArray), Sv (⟨#[105, 110]⟩ : ByteArray), Sv (⟨#[105, 115]⟩ : ByteArray), Sv (⟨#[105, 116]⟩ : ByteArray), Sv (⟨#[110, 101, 115, 116]⟩ : ByteArray), Sv (⟨#[110, 101, 116]⟩ : ByteArray), Sv (⟨#[115, 101, 116]⟩ : ByteArray), Sv (⟨#[115, 105, 116]⟩ : ByteArray), Sv (⟨#[115, 97, 116]⟩ : ByteArray), Sv (⟨#[115, 105, 116, 101]⟩ : ByteArray), Sv (⟨#[116, 101, 97]⟩ : ByteArray), Sv (⟨#[116, 101, 110]⟩ : ByteArray), Sv (⟨#[116, 101, 115, 116]⟩ : ByteArray), Sv (⟨#[116, 105, 101]⟩ : ByteArray), Sv (⟨#[116, 105, 110]⟩ : ByteArray), Sv (⟨#[116, 105]⟩ : ByteArray)] 1))] [] trivial ?_
    refine Zdh ?_
    refine Zce ([(⟨#[97]⟩ : ByteArray), (⟨#[97, 110]⟩ : ByteArray), (⟨#[97, 110, 116]⟩ : ByteArray), (⟨#[97, 116]⟩ : ByteArray), (⟨#[97, 116, 101]⟩ : ByteArray), (⟨#[101, 97, 116]⟩ : ByteArray), (⟨#[101]⟩ : ByteArray), (⟨#[101, 110]⟩ : ByteArray), (⟨#[105]⟩ : ByteArray), (⟨#[105, 110]⟩ : ByteArray), (⟨#[105, 115]⟩ : ByteArray), (⟨#[105, 116]⟩ : ByteArray), (⟨#[110, 101, 115, 116]⟩ : ByteArray), (⟨#[110, 101, 116]⟩ : ByteArray), (⟨#[115, 101, 116]⟩ : ByteArray), (⟨#[115, 105, 116]⟩ : ByteArray), (⟨#[115, 97, 116]⟩ : ByteArray), (⟨#[115, 105, 116, 101]⟩ : ByteArray), (⟨#[116, 101, 97]⟩ : ByteArray), (⟨#[116, 101, 110]⟩ : ByteArray), (⟨#[116, 101, 115, 116]⟩ : ByteArray), (⟨#[116, 105, 101]⟩ : ByteArray), (⟨#[116, 105, 110]⟩ : ByteArray), (⟨#[116, 105]⟩ : ByteArray)]) (show ((0 < ([(⟨#[97]⟩ : ByteArray), (⟨#[97, 110]⟩ : ByteArray), (⟨#[97, 110, 116]⟩ : ByteArray), (⟨#[97, 116]⟩ : ByteArray), (⟨#[97, 116, 101]⟩ : ByteArray), (⟨#[101, 97, 116]⟩ : ByteArray), (⟨#[101]⟩ : ByteArray), (⟨#[101, 110]⟩ : ByteArray), (⟨#[105]⟩ : ByteArray), (⟨#[105, 110]⟩ : ByteArray), (⟨#[105, 115]⟩ : ByteArray), (⟨#[105, 116]⟩ : ByteArray), (⟨#[110, 101, 115, 116]⟩ : ByteArray), (⟨#[110, 101, 116]⟩ : ByteArray), (⟨#[115, 101, 116]⟩ : ByteArray), (⟨#[115, 105, 116]⟩ : ByteArray), (⟨#[115, 97, 116]⟩ : ByteArray), (⟨#[115, 105, 116, 101]⟩ : ByteArray), (⟨#[116, 101, 97]⟩ : ByteArray), (⟨#[116, 101, 110]⟩ : ByteArray), (⟨#[116, 101, 115, 116]⟩ : ByteArray), (⟨#[116, 105, 101]⟩ : ByteArray), (⟨#[116, 105, 110]⟩ : ByteArray), (⟨#[116, 105]⟩ : ByteArray)]).length ∧ ([(⟨#[97]⟩ : ByteArray), (⟨#[97, 110]⟩ : ByteArray), (⟨#[97, 110, 116]⟩ : ByteArray), (⟨#[97, 116]⟩ : ByteArray), (⟨#[97, 116, 101]⟩ : ByteArray), (⟨#[101, 97, 116]⟩ : ByteArray), (⟨#[101]⟩ : ByteArray), (⟨#[101, 110]⟩ : ByteArray), (⟨#[105]⟩ : ByteArray), (⟨#[105, 110]⟩ : ByteArray), (⟨#[105, 115]⟩ : ByteArray), (⟨#[105, 116]⟩ : ByteArray), (⟨#[110, 101, 115, 116]⟩ : ByteArray), (⟨#[110, 101, 116]⟩ : ByteArray), (⟨#[115, 101, 116]⟩ : ByteArray), (⟨#[115, 105, 116]⟩ : ByteArray), (⟨#[115, 97, 116]⟩ : ByteArray), (⟨#[115, 105, 116, 101]⟩ : ByteArray), (⟨#[116, 101, 97]⟩ : ByteArray), (⟨#[116, 101, 110]⟩ : ByteArray), (⟨#[116, 101, 115, 116]⟩ : ByteArray), (⟨#[116, 105, 101]⟩ : ByteArray), (⟨#[116, 105, 110]⟩ : ByteArray), (⟨#[116, 105]⟩ : ByteArray)]).length ≤ 1000) ∧ ∀ z ∈ ([(⟨#[97]⟩ : ByteArray), (⟨#[97, 110]⟩ : ByteArray), (⟨#[97, 110, 116]⟩ : ByteArray), (⟨#[97, 116]⟩ : ByteArray), (⟨#[97, 116, 101]⟩ : ByteArray), (⟨#[101, 97, 116]⟩ : ByteArray), (⟨#[101]⟩ : ByteArray), (⟨#[101, 110]⟩ : ByteArray), (⟨#[105]⟩ : ByteArray), (⟨#[105, 110]⟩ : ByteArray), (⟨#[105, 115]⟩ : ByteArray), (⟨#[105, 116]⟩ : ByteArray), (⟨#[110, 101, 115, 116]⟩ : ByteArray), (⟨#[110, 101, 116]⟩ : ByteArray), (⟨#[115, 101, 116]⟩ : ByteArray), (⟨#[115, 105, 116]⟩ : ByteArray), (⟨#[115, 97, 116]⟩ : ByteArray), (⟨#[115, 105, 116, 101]⟩ : ByteArray), (⟨#[116, 101, 97]⟩ : ByteArray), (⟨#[116, 101, 110]⟩ : ByteArray), (⟨#[116, 101, 115, 116]⟩ : ByteArray), (⟨#[116, 105, 101]⟩ : ByteArray), (⟨#[116, 105, 110]⟩ : ByteArray), (⟨#[116, 105]⟩ : ByteArray)]), z.size ≤ 16) ∧ (∀ z ∈ ([(⟨#[97]⟩ : ByteArray), (⟨#[97, 110]⟩ : ByteArray), (⟨#[97, 110, 116]⟩ : ByteArray), (⟨#[97, 116]⟩ : ByteArray), (⟨#[97, 116, 101]⟩ : ByteArray), (⟨#[101, 97, 116]⟩ : ByteArray), (⟨#[101]⟩ : ByteArray), (⟨#[101, 110]⟩ : ByteArray), (⟨#[105]⟩ : ByteArray), (⟨#[105, 110]⟩ : ByteArray), (⟨#[105, 115]⟩ : ByteArray), (⟨#[105, 116]⟩ : ByteArray), (⟨#[110, 101, 115, 116]⟩ : ByteArray), (⟨#[110, 101, 116]⟩ : ByteArray), (⟨#[115, 101, 116]⟩ : ByteArray), (⟨#[115, 105, 116]⟩ : ByteArray), (⟨#[115, 97, 116]⟩ : ByteArray), (⟨#[115, 105, 116, 101]⟩ : ByteArray), (⟨#[116, 101, 97]⟩ : ByteArray), (⟨#[116, 101, 110]⟩ : ByteArray), (⟨#[116, 101, 115, 116]⟩ : ByteArray), (⟨#[116, 105, 101]⟩ : ByteArray), (⟨#[116, 105, 110]⟩ : ByteArray), (⟨#[116, 105]⟩ : ByteArray)]), Zew z = true) ∧ (True) from ⟨(by decide), (by decide), trivial⟩) (trivial) (.arr 1) (by kernel_rfl) (.inr ⟨(fun _ => rfl), rfl, (by first | rfl | (simp; done) | (simp; omega) | omega), fun i_ hi_ => .inl (match i_, hi_ with | 0, _ => rfl | 1, _ => rfl | 2, _ => rfl | 3, _ => rfl | 4, _ => rfl | 5, _ => rfl | 6, _ => rfl | 7, _ => rfl | 8, _ => rfl | 9, _ => rfl | 10, _ => rfl | 11, _ => rfl | 12, _ => rfl | 13, _ => rfl | 14, _ => rfl | 15, _ => rfl | 16, _ => rfl | 17, _ => rfl | 18, _ => rfl | 19, _ => rfl | 20, _ => rfl | 21, _ => rfl | 22, _ => rfl | 23, _ => rfl | (i + 24), h => absurd h (by simp))⟩) (fun _ => rfl) (fun _ => (tagS true _))
  obtain ⟨v, ⟨hh0, hh1, _⟩, hc⟩ := hh
  exact ⟨v, hh0, hh1, hc⟩
theorem flt_pw {α : Type} {R : α → α → Prop} {xs : List α} (p : α → Bool) (h : xs.Pairwise R) : (xs.filter p).Pairwise R := h.sublist List.filter_sublist
theorem Zwz {α : Type} [Inhabited α] {xs : List α} {p : α → Bool} {k : Nat} (h : k < xs.length) : (xs.take (k + 1)).filter p = (xs.take k).filter p ++ (if p (at_ xs k) = true then [at_ xs k] else []) := by
  rw [List.take_add_one, List.getElem?_eq_getElem h, ← Zcz h, List.filter_append]
  simp only [Option.toList, List.filter_cons, List.filter_nil]
theorem Zqz (lx : Lexicon) (word : ByteArray) (hlx : lx.Entries.length ≤ 1000) : ∃ (v : List Entry), (v = lx.Entries.filter fun e => !decide (e.Word = word)) ∧ Con Tryz.prog 102 [.ptr false [Zaa false lx.Entries], Sv word] true (Zaa true v) := by
  have hh : ∃ r : (List Entry), ((r = lx.Entries.filter fun e => !decide (e.Word = word)) ∧ (True)) ∧ Zbi Tryz.prog 102 [.ptr false [Zaa false lx.Entries], Sv word] (Zaf []) true (Zaa true r) (Zaf []) := by
    refine Zdl (Φ := fun r : (List Entry) => (r = lx.Entries.filter fun e => !decide (e.Word = word)) ∧ (True)) [] (fun r => []) (fn := Tryz.f102) (nt := 38) Tryz.func102 rfl rfl (args := [.ptr false [Zaa false lx.Entries], Sv word]) rfl (Zbe (.inl ⟨rfl, by simp [Zan, Zaj, Zcf]⟩) (Zbe (.inl ⟨rfl, trivial⟩) Zdj)) (res := fun r => Zaa true r) ?_
    refine xR [] [0, 1] [] [.ptr false [Zaa false lx.Entries], Sv word] [] [] trivial ?_
    refine xR [(0, .new 7)] [0, 1, 5] [7] [.ptr false [Zaa false lx.Entries], Sv word, .arr 7] [some (.arr 2 0 (Zgd [] 2))] [] trivial ?_
    refine Zar ?_
    refine xR [] [0, 1, 5, 6] [7] [.ptr false [Zaa false lx.Entries], Sv word, .arr 7, I 0] [some (.arr 2 0 (Zgd [] 2))] [] trivial ?_
    refine Zbp ?_
    refine Zek [] (T := [(0, .ptr false [Zaa false lx.Entries]), (1, Sv word), (5, .arr 7), (6, I 0)]) (O := [(7, Zbl ([] : List Entry))]) rfl (⟨.inl rfl, .inl rfl, .inl rfl, .inl rfl, trivial⟩) (⟨.inr ⟨rfl, (by first | rfl | (simp; done) | (simp; omega) | omega), fun i_ hi_ => absurd hi_ (Nat.not_lt_zero _)⟩, trivial⟩) ?_
    refine Zel (X := (List Entry) × Int) (fun x => mkS [(0, .ptr false [Zaa false lx.Entries]), (1, Sv word), (5, .arr 7), (6, I x.2)] [(7, Zbl x.1)]) (fun x => (0 ≤ x.2 ∧ x.2 ≤ (lx.Entries.length : Int)) ∧ ((x.1.length : Int) ≤ x.2) ∧ (x.1 = (lx.Entries.take x.2.toNat).filter fun e => !decide (e.Word = word)) ∧ True) (fun x => ((lx.Entries.length : Int) - x.2).toNat) (([] : List Entry), 0) rfl (show (0 ≤ (0 : Int) ∧ (0 : Int) ≤ (lx.Entries.length : Int)) ∧ ((([] : List Entry).length : Int) ≤ (0 : Int)) ∧ (([] : List Entry) = (lx.Entries.take (0 : Int).toNat).filter fun e => !decide (e.Word = word)) ∧ True from ⟨(by omega), (by (simp; try omega)), (by rfl), trivial⟩) (fun x hI => ?_)
    obtain ⟨out, i⟩ := x
    obtain ⟨hi0, hol, hou, _⟩ : (0 ≤ i ∧ i ≤ (lx.Entries.length : Int)) ∧ ((out.length : Int) ≤ i) ∧ (out = (lx.Entries.take i.toNat).filter fun e => !decide (e.Word = word)) ∧ True := hI
    show XW _ _ _ _ (mkS [(0, .ptr false [Zaa false lx.Entries]), (1, Sv word), (5, .arr 7), (6, I i)] [(7, Zbl out)]) _ _
    refine Zar ?_
    refine Zar ?_
    by_cases h1 : i < (lx.Entries.length : Int)
    ·have hi : i.toNat < lx.Entries.length := by omega
     refine x_r [(6, .dec true)] [0, 1, 5, 6, 14] [7] [.ptr false [Zaa false lx.Entries], Sv word, .arr 7, I i, Bv true] [some (Zbl out)] [i < (lx.Entries.length : Int)] ⟨h1, trivial⟩ ?_
     refine Zad ?_
     refine Zcb rfl ?_
     refine Zbk ?_
     refine Zad ?_
     refine Zar ?_
     refine Zbp ?_
     refine Zar ?_
     by_cases h2 : ((at_ lx.Entries i.toNat).Word) = word
     ·refine x_r [(9, .dec false)] [0, 1, 5, 6, 26] [7] [.ptr false [Zaa false lx.Entries], Sv word, .arr 7, I i, Bv false] [some (Zbl out)] [(0 : Int) ≤ i ∧ i < (lx.Entries.length : Int), ¬ (((at_ lx.Entries i.toNat).Word) ≠ word)] ⟨⟨(by omega), (by omega)⟩, (fun hq => hq h2), trivial⟩ ?_
      refine Zad ?_
      refine Zav rfl ?_
      refine Zbk ?_
      refine Zbw 1 ?_
      refine Zad ?_
      refine x_r [] [0, 1, 5, 6] [7] [.ptr false [Zaa false lx.Entries], Sv word, .arr 7, I (i + 1)] [some (Zbl out)] [inR .i64 (i + 1)] ⟨(Zah (by omega) (by omega)), trivial⟩ ?_
      exact Zbm (out, (i + 1)) rfl (show (0 ≤ (i + 1) ∧ (i + 1) ≤ (lx.Entries.length : Int)) ∧ ((out.length : Int) ≤ (i + 1)) ∧ (out = (lx.Entries.take (i + 1).toNat).filter fun e => !decide (e.Word = word)) ∧ True from ⟨(by omega), (by first | omega | (simp; omega)), (by rw [show (i + 1).toNat = i.toNat + 1 from by omega, Zwz hi, hou]; simp [*]), trivial⟩) (by first | (show (((lx.Entries.length : Int) - (i + 1)).toNat : Nat) < ((lx.Entries.length : Int) - i).toNat; omega) | (dsimp only; omega))
     refine x_r [(9, .dec true)] [0, 1, 5, 6, 26] [7] [.ptr false [Zaa false lx.Entries], Sv word, .arr 7, I i, Bv true] [some (Zbl out)] [(0 : Int) ≤ i ∧ i < (lx.Entries.length : Int), ((at_ lx.Entries i.toNat).Word) ≠ word] ⟨⟨(by omega), (by omega)⟩, h2, trivial⟩ ?_
     refine Zad ?_
     refine Zcb rfl ?_
     refine x_r [(8, .new 35), (9, .new 36)] [0, 1, 5, 6] [36] [.ptr false [Zaa false lx.Entries], Sv word, .arr 36, I i] [some (.arr 2 (out.length + 1) (Zfm out.length (Zap out) (Zgd [Sv ((at_ lx.Entries i.toNat).Word), I ((at_ lx.Entries i.toNat).Cost)] 2)))] [(0 : Int) ≤ i ∧ i < (lx.Entries.length : Int), (out.length + 1) * 24 ≤ 140737488355328] ⟨⟨(by omega), (by omega)⟩, (by omega), trivial⟩ ?_
     refine Zbw 1 ?_
     refine Zad ?_
     refine x_r [] [0, 1, 5, 6] [36] [.ptr false [Zaa false lx.Entries], Sv word, .arr 36, I (i + 1)] [some (.arr 2 (out.length + 1) (Zfm out.length (Zap out) (Zgd [Sv ((at_ lx.Entries i.toNat).Word), I ((at_ lx.Entries i.toNat).Cost)] 2)))] [inR .i64 (i + 1)] ⟨(Zah (by omega) (by omega)), trivial⟩ ?_
     refine Zgy [(7, 36)] (T := [(0, .ptr false [Zaa false lx.Entries]), (1, Sv word), (5, .arr 7), (6, I (i + 1))]) (O := [(7, Zbl (out ++ [(at_ lx.Entries i.toNat)]))]) rfl (⟨.inl rfl, .inl rfl, .inl rfl, .inl rfl, trivial⟩) (⟨.inr ⟨rfl, (by first | rfl | (simp; done) | (simp; omega) | omega), fun i_ hi_ => .inl (Zhw (enc := Zej) (xs := out) rfl i_ hi_)⟩, trivial⟩) (Zbm ((out ++ [(at_ lx.Entries i.toNat)]), (i + 1)) rfl (show (0 ≤ (i + 1) ∧ (i + 1) ≤ (lx.Entries.length : Int)) ∧ (((out ++ [(at_ lx.Entries i.toNat)]).length : Int) ≤ (i + 1)) ∧ ((out ++ [(at_ lx.Entries i.toNat)]) = (lx.Entries.take (i + 1).toNat).filter fun e => !decide (e.Word = word)) ∧ True from ⟨(by omega), (by first | omega | (simp; omega)), (by rw [show (i + 1).toNat = i.toNat + 1 from by omega, Zwz hi, hou]; simp [*]), trivial⟩) (by first | (show (((lx.Entries.length : Int) - (i + 1)).toNat : Nat) < ((lx.Entries.length : Int) - i).toNat; omega) | (dsimp only; omega)))
    refine x_r [(6, .dec false)] [0, 1, 5, 6, 14] [7] [.ptr false [Zaa false lx.Entries], Sv word, .arr 7, I i, Bv false] [some (Zbl out)] [¬ (i < (lx.Entries.length : Int))] ⟨h1, trivial⟩ ?_
    refine Zad ?_
    refine Zav rfl ?_
    refine Zdo ?_
    refine Zaw ?_
    refine Zbd ?_
    refine Zax ?_
    refine Zad ?_
    refine xR [] [4] [7] [.arr 7] [some (Zbl out)] [] trivial ?_
    refine Zdh ?_
    refine Zce out (show (out = lx.Entries.filter fun e => !decide (e.Word = word)) ∧ (True) from ⟨(by rw [hou, show i.toNat = lx.Entries.length from by omega, List.take_length]), trivial⟩) (trivial) (.arr 7) (by kernel_rfl) (.inr ⟨(fun _ => rfl), rfl, rfl, fun i _ => .inl rfl⟩) (fun _ => rfl) (fun _ => (Zcf true _))
  obtain ⟨v, ⟨hh0, _⟩, hc⟩ := hh
  exact ⟨v, hh0, hc⟩
theorem Yco (list : List Entry) (e : Entry) (hp : list.Pairwise fun x_ y_ => Zff x_ y_ < 0) (hne : ∀ x ∈ list, Zff x e ≠ 0) (hll : list.length ≤ 1000) : ∃ (v : List Entry), (v.length = list.length + 1) ∧ (∀ x ∈ v, x = e ∨ x ∈ list) ∧ (v.Pairwise fun x_ y_ => Zff x_ y_ < 0) ∧ Con Tryz.prog 101 [Zaa false list, Zgo e] true (Zaa true v) := by
  have hh : ∃ r : (List Entry), ((r.length = list.length + 1) ∧ (∀ x ∈ r, x = e ∨ x ∈ list) ∧ (r.Pairwise fun x_ y_ => Zff x_ y_ < 0) ∧ (True)) ∧ Zbi Tryz.prog 101 [Zaa false list, Zgo e] (Zaf []) true (Zaa true r) (Zaf []) := by
    refine Zdl (Φ := fun r : (List Entry) => (r.length = list.length + 1) ∧ (∀ x ∈ r, x = e ∨ x ∈ list) ∧ (r.Pairwise fun x_ y_ => Zff x_ y_ < 0) ∧ (True)) [] (fun r => []) (fn := Tryz.f101) (nt := 38) Tryz.func101 rfl rfl (args := [Zaa false list, Zgo e]) rfl (Zbe (.inl ⟨rfl, Zcf false _⟩) (Zbe (.inl ⟨rfl, by simp [Zan, Zaj]⟩) Zdj)) (res := fun r => Zaa true r) ?_
    refine xR [(0, .new 3)] [0, 3] [3] [Zaa false list, .ref 3 0] [some (Zcy e)] [] trivial ?_
    refine xR [] [0, 3, 5] [3] [Zaa false list, .ref 3 0, I (list.length : Int)] [some (Zcy e)] [] trivial ?_
    refine Zar ?_
    refine Zbp ?_
    refine Zel (X := Int) (fun x => mkS [(0, Zaa false list), (3, .ref 3 0), (5, I x)] [(3, Zcy e)]) (fun x => (0 ≤ x ∧ x ≤ (list.length : Int)) ∧ (∀ j : Nat, x ≤ (j : Int) → j < list.length → 0 < Zff (at_ list j) e) ∧ True) (fun x => x.toNat) (list.length : Int) rfl (show (0 ≤ (list.length : Int) ∧ (list.length : Int) ≤ (list.length : Int)) ∧ (∀ j : Nat, (list.length : Int) ≤ (j : Int) → j < list.length → 0 < Zff (at_ list j) e) ∧ True from ⟨(by omega), (by intro j h1 h2; omega), trivial⟩) (fun x hI => ?_)
    obtain ⟨k, hxx⟩ : ∃ k : Int, k = x := ⟨x, rfl⟩
    subst hxx
    obtain ⟨hk0, hhi, _⟩ : (0 ≤ k ∧ k ≤ (list.length : Int)) ∧ (∀ j : Nat, k ≤ (j : Int) → j < list.length → 0 < Zff (at_ list j) e) ∧ True := hI
    show XW _ _ _ _ (mkS [(0, Zaa false list), (3, .ref 3 0), (5, I k)] [(3, Zcy e)]) _ _
    refine Zar ?_
    refine Zar ?_
    by_cases h1 : 0 < k
    ·have hkl : (k - 1).toNat < list.length := by omega
     by_cases h2 : Zds ((at_ list ((k - 1).toNat)).Word) e.Word = false ∧ ((at_ list ((k - 1).toNat)).Word) ≠ e.Word
     ·have hgn : ∀ j : Nat, k - 1 ≤ (j : Int) → j < list.length → 0 < Zff (at_ list j) e := fun j q1 q2 => by by_cases q : (j : Int) = k - 1; (rw [show j = (k - 1).toNat from by omega]; exact (show 0 < Zff _ _ from Zll.2 (sl_tri h2.1 h2.2))); (exact hhi j (by omega) q2)
      refine x_r [(1, .dec true), (11, .dec true)] [0, 3, 5, 21] [3] [Zaa false list, .ref 3 0, I k, Bv true] [some (Zcy e)] [0 < k, inR .i64 (k - 1), (0 : Int) ≤ (k - 1) ∧ (k - 1) < (list.length : Int), Zds ((at_ list ((k - 1).toNat)).Word) e.Word = false ∧ ((at_ list ((k - 1).toNat)).Word) ≠ e.Word] ⟨h1, (Zah (by omega) (by omega)), ⟨(by omega), (by omega)⟩, h2, trivial⟩ ?_
      refine Zad ?_
      refine Zcb rfl ?_
      refine Zbk ?_
      refine Zad ?_
      refine Zbp ?_
      refine x_r [] [0, 3, 5] [3] [Zaa false list, .ref 3 0, I (k - 1)] [some (Zcy e)] [inR .i64 (k - 1)] ⟨(Zah (by omega) (by omega)), trivial⟩ ?_
      refine Zbw 1 ?_
      exact Zbm (k - 1) rfl (show (0 ≤ (k - 1) ∧ (k - 1) ≤ (list.length : Int)) ∧ (∀ j : Nat, (k - 1) ≤ (j : Int) → j < list.length → 0 < Zff (at_ list j) e) ∧ True from ⟨(by omega), (by exact hgn), trivial⟩) (by first | (show ((k - 1).toNat : Nat) < k.toNat; omega) | (dsimp only; omega))
     have hlo : k.toNat = 0 ∨ ¬ 0 < Zff (at_ list (k.toNat - 1)) e := Or.inr (by rw [show k.toNat - 1 = (k - 1).toNat from by omega]; exact (fun q => h2 ⟨Zmq (Zll.1 q), fun z => Ybc (Zll.1 q) z.symm⟩))
     refine x_r [(1, .dec true), (11, .dec false)] [0, 3, 5, 21] [3] [Zaa false list, .ref 3 0, I k, Bv false] [some (Zcy e)] [0 < k, inR .i64 (k - 1), (0 : Int) ≤ (k - 1) ∧ (k - 1) < (list.length : Int), ¬ (Zds ((at_ list ((k - 1).toNat)).Word) e.Word = false ∧ ((at_ list ((k - 1).toNat)).Word) ≠ e.Word)] ⟨h1, (Zah (by omega) (by omega)), ⟨(by omega), (by omega)⟩, h2, trivial⟩ ?_
     refine Zad ?_
     refine Zav rfl ?_
     refine Zdo ?_
     refine Zaw ?_
     refine Zbd ?_
     refine Zax ?_
     refine Zad ?_
     refine xR [(0, .new 24), (4, .new 28)] [0, 3, 5, 6] [3, 28] [Zaa false list, .ref 3 0, I k, .arr 28] [some (Zcy e), some (.arr 2 (0 + (k.toNat - 0)) (Zfm 0 (Zgd [] 2) (Zks 0 (Zap list))))] [(0 : Int) ≤ 0 ∧ (0 : Int) ≤ k ∧ k ≤ (list.length : Int), (0 + (k.toNat - 0)) * 24 ≤ 140737488355328] ⟨⟨(by omega), (by omega), (by omega)⟩, (by omega), trivial⟩ ?_
     refine xR [(2, .new 31), (3, .new 32)] [0, 5, 6] [32] [Zaa false list, I k, .arr 32] [some (.arr 2 ((0 + (k.toNat - 0)) + 1) (Zfm (0 + (k.toNat - 0)) (Zfm 0 (Zgd [] 2) (Zks 0 (Zap list))) (Zgd [Sv e.Word, I e.Cost] 2)))] [((0 + (k.toNat - 0)) + 1) * 24 ≤ 140737488355328] ⟨(by omega), trivial⟩ ?_
     refine xR [(4, .new 37)] [4] [37] [.arr 37] [some (.arr 2 (((0 + (k.toNat - 0)) + 1) + ((list.length : Int).toNat - k.toNat)) (Zfm ((0 + (k.toNat - 0)) + 1) (Zfm (0 + (k.toNat - 0)) (Zfm 0 (Zgd [] 2) (Zks 0 (Zap list))) (Zgd [Sv e.Word, I e.Cost] 2)) (Zks k.toNat (Zap list))))] [(0 : Int) ≤ k ∧ k ≤ (list.length : Int) ∧ (list.length : Int) ≤ (list.length : Int), (((0 + (k.toNat - 0)) + 1) + ((list.length : Int).toNat - k.toNat)) * 24 ≤ 140737488355328] ⟨⟨(by omega), (by omega), (by omega)⟩, (by omega), trivial⟩ ?_
     refine Zdh ?_
     refine Zce (((list.take k.toNat) ++ [e]) ++ (list.drop k.toNat)) (show ((((list.take k.toNat) ++ [e]) ++ (list.drop k.toNat)).length = list.length + 1) ∧ (∀ x ∈ (((list.take k.toNat) ++ [e]) ++ (list.drop k.toNat)), x = e ∨ x ∈ list) ∧ ((((list.take k.toNat) ++ [e]) ++ (list.drop k.toNat)).Pairwise fun x_ y_ => Zff x_ y_ < 0) ∧ (True) from ⟨(by first | exact Zfd (by omega) | exact fun x hx => Zep.1 hx | exact Zgx cmpN_w hp (by omega) hlo (fun j h1 h2 => hhi j (by omega) h2) hne), (by first | exact Zfd (by omega) | exact fun x hx => Zep.1 hx | exact Zgx cmpN_w hp (by omega) hlo (fun j h1 h2 => hhi j (by omega) h2) hne), (by first | exact Zfd (by omega) | exact fun x hx => Zep.1 hx | exact Zgx cmpN_w hp (by omega) hlo (fun j h1 h2 => hhi j (by omega) h2) hne), trivial⟩) (trivial) (.arr 37) (by kernel_rfl) (.inr ⟨(fun _ => rfl), rfl, (by first | rfl | (simp; done) | (simp; omega) | omega), fun i_ hi_ => .inl (Zhm (enc := Zej) (xs := ((list.take k.toNat) ++ [e])) (ys := (list.drop k.toNat)) (by first | rfl | (simp; done) | (simp; omega)) (fun i_ hi_ => (Zhm (enc := Zej) (xs := (list.take k.toNat)) (ys := [e]) (by first | rfl | (simp; done) | (simp; omega)) (fun i_ hi_ => ((Zlw i_).trans ((fun i_ hi_ => (Zix (enc := Zej) hi_)) i_ hi_))) (fun i_ hi_ => (match i_, hi_ with | 0, _ => rfl | (i + 1), h => absurd h (by simp))) i_ hi_)) (fun i_ hi_ => (Zkz (enc := Zej) hi_)) i_ hi_)⟩) (fun _ => rfl) (fun _ => (Zcf true _))
    have hlo : k.toNat = 0 ∨ ¬ 0 < Zff (at_ list (k.toNat - 1)) e := Or.inl (by omega)
    refine x_r [(1, .dec false)] [0, 3, 5, 21] [3] [Zaa false list, .ref 3 0, I k, Bv false] [some (Zcy e)] [¬ (0 < k)] ⟨h1, trivial⟩ ?_
    refine Zad ?_
    refine Zav rfl ?_
    refine Zdo ?_
    refine Zaw ?_
    refine Zbd ?_
    refine Zax ?_
    refine Zad ?_
    refine xR [(0, .new 24), (4, .new 28)] [0, 3, 5, 6] [3, 28] [Zaa false list, .ref 3 0, I k, .arr 28] [some (Zcy e), some (.arr 2 (0 + (k.toNat - 0)) (Zfm 0 (Zgd [] 2) (Zks 0 (Zap list))))] [(0 : Int) ≤ 0 ∧ (0 : Int) ≤ k ∧ k ≤ (list.length : Int), (0 + (k.toNat - 0)) * 24 ≤ 140737488355328] ⟨⟨(by omega), (by omega), (by omega)⟩, (by omega), trivial⟩ ?_
    refine xR [(2, .new 31), (3, .new 32)] [0, 5, 6] [32] [Zaa false list, I k, .arr 32] [some (.arr 2 ((0 + (k.toNat - 0)) + 1) (Zfm (0 + (k.toNat - 0)) (Zfm 0 (Zgd [] 2) (Zks 0 (Zap list))) (Zgd [Sv e.Word, I e.Cost] 2)))] [((0 + (k.toNat - 0)) + 1) * 24 ≤ 140737488355328] ⟨(by omega), trivial⟩ ?_
    refine xR [(4, .new 37)] [4] [37] [.arr 37] [some (.arr 2 (((0 + (k.toNat - 0)) + 1) + ((list.length : Int).toNat - k.toNat)) (Zfm ((0 + (k.toNat - 0)) + 1) (Zfm (0 + (k.toNat - 0)) (Zfm 0 (Zgd [] 2) (Zks 0 (Zap list))) (Zgd [Sv e.Word, I e.Cost] 2)) (Zks k.toNat (Zap list))))] [(0 : Int) ≤ k ∧ k ≤ (list.length : Int) ∧ (list.length : Int) ≤ (list.length : Int), (((0 + (k.toNat - 0)) + 1) + ((list.length : Int).toNat - k.toNat)) * 24 ≤ 140737488355328] ⟨⟨(by omega), (by omega), (by omega)⟩, (by omega), trivial⟩ ?_
    refine Zdh ?_
    refine Zce (((list.take k.toNat) ++ [e]) ++ (list.drop k.toNat)) (show ((((list.take k.toNat) ++ [e]) ++ (list.drop k.toNat)).length = list.length + 1) ∧ (∀ x ∈ (((list.take k.toNat) ++ [e]) ++ (list.drop k.toNat)), x = e ∨ x ∈ list) ∧ ((((list.take k.toNat) ++ [e]) ++ (list.drop k.toNat)).Pairwise fun x_ y_ => Zff x_ y_ < 0) ∧ (True) from ⟨(by first | exact Zfd (by omega) | exact fun x hx => Zep.1 hx | exact Zgx cmpN_w hp (by omega) hlo (fun j h1 h2 => hhi j (by omega) h2) hne), (by first | exact Zfd (by omega) | exact fun x hx => Zep.1 hx | exact Zgx cmpN_w hp (by omega) hlo (fun j h1 h2 => hhi j (by omega) h2) hne), (by first | exact Zfd (by omega) | exact fun x hx => Zep.1 hx | exact Zgx cmpN_w hp (by omega) hlo (fun j h1 h2 => hhi j (by omega) h2) hne), trivial⟩) (trivial) (.arr 37) (by kernel_rfl) (.inr ⟨(fun _ => rfl), rfl, (by first | rfl | (simp; done) | (simp; omega) | omega), fun i_ hi_ => .inl (Zhm (enc := Zej) (xs := ((list.take k.toNat) ++ [e])) (ys := (list.drop k.toNat)) (by first | rfl | (simp; done) | (simp; omega)) (fun i_ hi_ => (Zhm (enc := Zej) (xs := (list.take k.toNat)) (ys := [e]) (by first | rfl | (simp; done) | (simp; omega)) (fun i_ hi_ => ((Zlw i_).trans ((fun i_ hi_ => (Zix (enc := Zej) hi_)) i_ hi_))) (fun i_ hi_ => (match i_, hi_ with | 0, _ => rfl | (i + 1), h => absurd h (by simp))) i_ hi_)) (fun i_ hi_ => (Zkz (enc := Zej) hi_)) i_ hi_)⟩) (fun _ => rfl) (fun _ => (Zcf true _))
  obtain ⟨v, ⟨hh0, hh1, hh2, _⟩, hc⟩ := hh
  exact ⟨v, hh0, hh1, hh2, hc⟩
theorem lex_put {x : Lexicon} {e : Entry} {v : List Entry} (h : Zci x) (he : Zoz e) (h2 : x.Entries.length < 60) (hl : v.length = (x.Entries.filter fun y => !decide (y.Word = e.Word)).length + 1) (hm : ∀ y ∈ v, y = e ∨ y ∈ x.Entries.filter fun y => !decide (y.Word = e.Word)) (hp : v.Pairwise fun x y => Zff x y < 0) : Zci ⟨v⟩ ∧ (v.length : Int) ≤ x.Entries.length + 1 := by
  have q := List.length_filter_le (fun y : Entry => !decide (y.Word = e.Word)) x.Entries
  refine ⟨⟨by show v.length ≤ 60; omega, fun y hy => ?_, hp⟩, by omega⟩
  rcases hm y hy with z | z
  · rw [z]; exact he
  · exact h.2.1 y (List.mem_filter.1 z).1
theorem lex_ne {xs : List Entry} {e : Entry} {w : ByteArray} (hw : w = e.Word) : ∀ y ∈ xs.filter (fun y => !decide (y.Word = w)), Zff y e ≠ 0 := fun y hy q => by
  have h := (List.mem_filter.1 hy).2
  rw [Zff, Zdc] at q
  rw [hw] at h
  simp [q] at h
theorem Ycp : Zci ⟨[]⟩ := ⟨Nat.zero_le _, fun _ h => (by cases h), List.Pairwise.nil⟩
theorem Zyj (s : l00Src) (most : Int) (hs : Zcq s) (ha : s.atx ≤ 3999999999999996000) (hmo : 0 ≤ most ∧ most ≤ 20) : ∃ (v : Lexicon) (s' : l00Src), (Zcq s') ∧ (s'.code = s.code) ∧ (s.atx + 0 ≤ s'.atx ∧ s'.atx ≤ s.atx + 400) ∧ (Zci v) ∧ ((v.Entries.length : Int) ≤ most) ∧ Zbi Tryz.prog 50 [.ref 7001 0, I most] (Zaf [(7001, Zab s)]) true (.agg [Zaa true v.Entries]) (Zaf [(7001, Zab s')]) := by
  have hh : ∃ r : Lexicon × l00Src, ((Zcq r.2) ∧ (r.2.code = s.code) ∧ (s.atx + 0 ≤ r.2.atx ∧ r.2.atx ≤ s.atx + 400) ∧ (Zci r.1) ∧ ((r.1.Entries.length : Int) ≤ most) ∧ (True)) ∧ Zbi Tryz.prog 50 [.ref 7001 0, I most] (Zaf [(7001, Zab s)]) true (.agg [Zaa true r.1.Entries]) (Zaf [(7001, Zab r.2)]) := by
    refine Zdl (Φ := fun r : Lexicon × l00Src => (Zcq r.2) ∧ (r.2.code = s.code) ∧ (s.atx + 0 ≤ r.2.atx ∧ r.2.atx ≤ s.atx + 400) ∧ (Zci r.1) ∧ ((r.1.Entries.length : Int) ≤ most) ∧ (True)) [(7001, Zab s)] (fun r => [(7001, Zab r.2)]) (fn := Tryz.f50) (nt := 30) Tryz.func50 rfl rfl (args := [.ref 7001 0, I most]) rfl (Zbe (.inr trivial) (Zbe (.inl ⟨rfl, trivial⟩) Zdj)) (res := fun r => .agg [Zaa true r.1.Entries]) ?_
    refine xR [(0, .new 4)] [0, 1, 4] [4, 7001] [.ref 7001 0, I most, .ref 4 0] [some (.box [Zde]), some (Zab s)] [] trivial ?_
    refine xR [(1, .new 5)] [0, 1, 4, 5] [4, 5, 7001] [.ref 7001 0, I most, .ref 4 0, .ref 5 0] [some (.box [Zde]), some (.box [Zde]), some (Zab s)] [] trivial ?_
    refine Zar ?_
    refine Zar ?_
    obtain ⟨v_1, s'_1, hx1_0, hx1_1, hx1_2, hx1_3, hc1⟩ := Ziu s (most + 1) (by first | assumption | (simp only [Zcq] at *; simp_all; done)) (by omega)
    refine x_r [(3, .lend [(7001, Zab s, Zab s'_1)] [] [(true, .any), (true, .any)] true (I v_1))] [0, 4, 5, 6] [4, 5, 7001] [.ref 7001 0, .ref 4 0, .ref 5 0, I v_1] [some (.box [Zde]), some (.box [Zde]), some (Zab s'_1)] [inR .i64 (most + 1), Zbi Tryz.prog 70 [.ref 7001 0, I (most + 1)] (Zaf [(7001, Zab s)]) true (I v_1) (Zaf [(7001, Zab s'_1)]) ∧ (((Zab s : Ob) = Zab s ∨ Zih Zgf true (Zab s) (Zab s)) ∧ Zbu false (Zab s)) ∧ True] ⟨(Zah (by omega) (by omega)), ⟨hc1, ⟨.inl rfl, (by simp [Zbu, Zaj, Zan, Zgz])⟩, trivial⟩, trivial⟩ ?_
    refine Zad ?_
    refine Zbp ?_
    refine Zek [] (T := [(0, .ref 7001 0), (4, .ref 4 0), (5, .ref 5 0), (6, I v_1)]) (O := [(4, .box [Zde]), (5, .box [.sl true 2 ((Lexicon.mk ([] : List Entry)).Entries.length) (Zap ((Lexicon.mk ([] : List Entry)).Entries))]), (7001, Zab s'_1)]) rfl (⟨.inl rfl, .inl rfl, .inl rfl, .inl rfl, trivial⟩) (⟨.inl rfl, .inr ⟨⟨rfl, rfl⟩, rfl⟩, .inl rfl, trivial⟩) ?_
    refine Zel (X := Int × Lexicon × l00Src) (fun x => mkS [(0, .ref 7001 0), (4, .ref 4 0), (5, .ref 5 0), (6, I x.1)] [(4, .box [Zde]), (5, .box [Zaa true x.2.1.Entries]), (7001, Zab x.2.2)]) (fun x => (Zcq x.2.2 ∧ x.2.2.code = s.code ∧ s.atx ≤ x.2.2.atx ∧ x.2.2.atx ≤ s.atx + 10 + 10 * (most - x.1)) ∧ (0 ≤ x.1 ∧ x.1 ≤ most) ∧ (Zci x.2.1) ∧ ((x.2.1.Entries.length : Int) + x.1 ≤ most) ∧ True) (fun x => x.1.toNat) (v_1, (Lexicon.mk ([] : List Entry)), s'_1) rfl (show (Zcq s'_1 ∧ s'_1.code = s.code ∧ s.atx ≤ s'_1.atx ∧ s'_1.atx ≤ s.atx + 10 + 10 * (most - v_1)) ∧ (0 ≤ v_1 ∧ v_1 ≤ most) ∧ (Zci (Lexicon.mk ([] : List Entry))) ∧ (((Lexicon.mk ([] : List Entry)).Entries.length : Int) + v_1 ≤ most) ∧ True from ⟨(by exact ⟨by assumption, by first | assumption | rfl | (simp only [*]; done), by omega, by omega⟩), (by omega), (by exact Ycp), (by (simp; omega)), trivial⟩) (fun x hI => ?_)
    obtain ⟨k, out, src⟩ := x
    obtain ⟨hs0, hk0, hla, hno, _⟩ : (Zcq src ∧ src.code = s.code ∧ s.atx ≤ src.atx ∧ src.atx ≤ s.atx + 10 + 10 * (most - k)) ∧ (0 ≤ k ∧ k ≤ most) ∧ (Zci out) ∧ ((out.Entries.length : Int) + k ≤ most) ∧ True := hI
    show XW _ _ _ _ (mkS [(0, .ref 7001 0), (4, .ref 4 0), (5, .ref 5 0), (6, I k)] [(4, .box [Zde]), (5, .box [Zaa true out.Entries]), (7001, Zab src)]) _ _
    refine Zar ?_
    refine Zar ?_
    by_cases h1 : 0 < k
    ·refine x_r [(1, .dec true)] [0, 4, 5, 6, 14] [4, 5, 7001] [.ref 7001 0, .ref 4 0, .ref 5 0, I k, Bv true] [some (.box [Zde]), some (.box [Zaa true out.Entries]), some (Zab src)] [0 < k] ⟨h1, trivial⟩ ?_
     refine Zad ?_
     refine Zcb rfl ?_
     refine Zbk ?_
     refine Zad ?_
     refine Zar ?_
     refine Zbp ?_
     refine Zar ?_
     obtain ⟨v_2, hx2_0, hx2_1, hc2⟩ := Zmr
     have hwa := hx2_0
     have hwb := hx2_1
     obtain ⟨v_3, s'_3, hx3_0, hx3_1, hx3_2, hx3_3, hx3_4, hc3⟩ := Zup src v_2 (by first | assumption | (simp only [Zcq] at *; simp_all; done)) (by omega) hwa
     have hw_v_3 : Zew v_3 = true := hwb _ hx3_4
     obtain ⟨v_4, s'_4, hx4_0, hx4_1, hx4_2, hx4_3, hc4⟩ := Ziu s'_3 30 (by first | assumption | (simp only [Zcq] at *; simp_all; done)) (by omega)
     refine x_r [(1, .call [] true (slS true v_2)), (2, .lend [(7001, Zab src, Zab s'_3)] [] [(true, .any), (false, slS false v_2)] true (Sv v_3)), (4, .lend [(7001, Zab s'_3, Zab s'_4)] [] [(true, .any), (true, .any)] true (I v_4)), (6, .new 7)] [0, 4, 5, 6, 7] [4, 5, 7, 7001] [.ref 7001 0, .ref 4 0, .ref 5 0, I k, .ref 7 0] [some (.box [Zde]), some (.box [Zaa true out.Entries]), some (.box [Sv v_3, I v_4]), some (Zab s'_4)] [Con Tryz.prog 60 [] true (slS true v_2) ∧ True, Zbi Tryz.prog 59 [.ref 7001 0, slS false v_2] (Zaf [(7001, Zab src)]) true (Sv v_3) (Zaf [(7001, Zab s'_3)]) ∧ ((false = true → true = true) ∧ 1 = 1 ∧ v_2.length = v_2.length ∧ ∀ i_, i_ < v_2.length → (fS v_2) i_ = (fS v_2) i_ ∨ (AV.idsL ((fS v_2) i_) = [] ∧ leL (fun _ => none) false ((fS v_2) i_) ((fS v_2) i_))) ∧ (((Zab src : Ob) = Zab src ∨ Zih Zgf true (Zab src) (Zab src)) ∧ Zbu false (Zab src)) ∧ True, Zbi Tryz.prog 70 [.ref 7001 0, I 30] (Zaf [(7001, Zab s'_3)]) true (I v_4) (Zaf [(7001, Zab s'_4)]) ∧ (((Zab s'_3 : Ob) = Zab s'_3 ∨ Zih Zgf true (Zab s'_3) (Zab s'_3)) ∧ Zbu false (Zab s'_3)) ∧ True] ⟨⟨hc2, trivial⟩, ⟨hc3, ⟨(fun h => by cases h), rfl, rfl, fun i _ => .inl rfl⟩, ⟨.inl rfl, (by simp [Zbu, Zaj, Zan, Zgz])⟩, trivial⟩, ⟨hc4, ⟨.inl rfl, (by simp [Zbu, Zaj, Zan, Zgz])⟩, trivial⟩, trivial⟩ ?_
     refine Zad ?_
     obtain ⟨v_5, hx5_0, hc5⟩ := Zqz out v_3 (by omega)
     have hwv := hx5_0
     have hwl : v_5.length ≤ out.Entries.length := by rw [hwv]; exact List.length_filter_le _ _
     have hpw : v_5.Pairwise (fun x y => Zff x y < 0) := by rw [hwv]; exact flt_pw _ hla.2.2
     obtain ⟨v_6, hx6_0, hx6_1, hx6_2, hc6⟩ := Yco v_5 (Entry.mk v_3 v_4) hpw (by rw [hwv]; exact lex_ne rfl) (by omega)
     have hput := lex_put hla (e := (Entry.mk v_3 v_4)) ⟨by first | assumption | (dsimp only; assumption), by dsimp only; omega⟩ (by omega) (by rw [← hwv]; exact hx6_0) (by rw [← hwv]; exact hx6_1) hx6_2
     refine x_r [(2, .call [(false, .ptr false [Zaa false out.Entries]), (true, .any)] true (Zaa true v_5)), (4, .call [(false, Zaa false v_5), (true, .any)] true (Zaa true v_6))] [0, 4, 5, 6] [4, 5, 7001] [.ref 7001 0, .ref 4 0, .ref 5 0, I k] [some (.box [Zde]), some (.box [Zaa true v_6]), some (Zab s'_4)] [Con Tryz.prog 102 [.ptr false [Zaa false out.Entries], Sv v_3] true (Zaa true v_5) ∧ ((false = true → true = true) ∧ AV.idsL [Zaa false out.Entries] = [] ∧ ((false = true → true = true) ∧ 2 = 2 ∧ out.Entries.length = out.Entries.length ∧ ∀ i_, i_ < out.Entries.length → (Zap out.Entries) i_ = (Zap out.Entries) i_ ∨ (AV.idsL ((Zap out.Entries) i_) = [] ∧ leL (fun _ => none) false ((Zap out.Entries) i_) ((Zap out.Entries) i_))) ∧ ([] : List AV) = []) ∧ True, Con Tryz.prog 101 [Zaa false v_5, .agg [Sv v_3, I v_4]] true (Zaa true v_6) ∧ ((false = true → true = true) ∧ 2 = 2 ∧ v_5.length = v_5.length ∧ ∀ i_, i_ < v_5.length → (Zap v_5) i_ = (Zap v_5) i_ ∨ (AV.idsL ((Zap v_5) i_) = [] ∧ leL (fun _ => none) false ((Zap v_5) i_) ((Zap v_5) i_))) ∧ True] ⟨⟨hc5, ⟨(fun h => by cases h), rfl, ⟨⟨(fun h => by cases h), rfl, rfl, fun i _ => .inl rfl⟩, rfl⟩⟩, trivial⟩, ⟨hc6, ⟨(fun h => by cases h), rfl, rfl, fun i _ => .inl rfl⟩, trivial⟩, trivial⟩ ?_
     refine Zbw 1 ?_
     refine Zad ?_
     refine x_r [] [0, 4, 5, 6] [4, 5, 7001] [.ref 7001 0, .ref 4 0, .ref 5 0, I (k - 1)] [some (.box [Zde]), some (.box [Zaa true v_6]), some (Zab s'_4)] [inR .i64 (k - 1)] ⟨(Zah (by omega) (by omega)), trivial⟩ ?_
     refine Zgy [] (T := [(0, .ref 7001 0), (4, .ref 4 0), (5, .ref 5 0), (6, I (k - 1))]) (O := [(4, .box [Zde]), (5, .box [.sl true 2 ((Lexicon.mk v_6).Entries.length) (Zap ((Lexicon.mk v_6).Entries))]), (7001, Zab s'_4)]) rfl (⟨.inl rfl, .inl rfl, .inl rfl, .inl rfl, trivial⟩) (⟨.inl rfl, .inr ⟨⟨(fun _ => rfl), rfl, (by first | rfl | (simp; done) | (simp; omega) | omega), fun i_ hi_ => .inl (by first | rfl | fail)⟩, rfl⟩, .inl rfl, trivial⟩) (Zbm ((k - 1), (Lexicon.mk v_6), s'_4) rfl (show (Zcq s'_4 ∧ s'_4.code = s.code ∧ s.atx ≤ s'_4.atx ∧ s'_4.atx ≤ s.atx + 10 + 10 * (most - (k - 1))) ∧ (0 ≤ (k - 1) ∧ (k - 1) ≤ most) ∧ (Zci (Lexicon.mk v_6)) ∧ (((Lexicon.mk v_6).Entries.length : Int) + (k - 1) ≤ most) ∧ True from ⟨(by exact ⟨by assumption, by first | assumption | rfl | (simp only [*]; done), by omega, by omega⟩), (by omega), (by exact hput.1), (by (have := hput.2; dsimp only; omega)), trivial⟩) (by first | (show ((k - 1).toNat : Nat) < k.toNat; omega) | (dsimp only; omega)))
    refine x_r [(1, .dec false)] [0, 4, 5, 6, 14] [4, 5, 7001] [.ref 7001 0, .ref 4 0, .ref 5 0, I k, Bv false] [some (.box [Zde]), some (.box [Zaa true out.Entries]), some (Zab src)] [¬ (0 < k)] ⟨h1, trivial⟩ ?_
    refine Zad ?_
    refine Zav rfl ?_
    refine Zdo ?_
    refine Zaw ?_
    refine Zbd ?_
    refine Zax ?_
    refine Zad ?_
    refine xR [] [4] [4, 7001] [.ref 4 0] [some (.box [Zaa true out.Entries]), some (Zab src)] [] trivial ?_
    refine Zdh ?_
    refine Zce (out, src) (show (Zcq src) ∧ (src.code = s.code) ∧ (s.atx + 0 ≤ src.atx ∧ src.atx ≤ s.atx + 400) ∧ (Zci out) ∧ ((out.Entries.length : Int) ≤ most) ∧ (True) from ⟨(by first | omega | assumption | exact hs0.1 | exact hs0.2.1), (by first | omega | assumption | exact hs0.1 | exact hs0.2.1), (by first | omega | assumption | exact hs0.1 | exact hs0.2.1), (by first | omega | assumption | exact hs0.1 | exact hs0.2.1), (by first | omega | assumption | exact hs0.1 | exact hs0.2.1), trivial⟩) (⟨.inl rfl, trivial⟩) (.agg [Zaa true out.Entries]) (by kernel_rfl) (.inl rfl) (fun _ => rfl) (fun _ => (by simp [Zan, Zaj, Zcf]))
  obtain ⟨⟨v, s'⟩, ⟨hh0, hh1, hh2, hh3, hh4, _⟩, hc⟩ := hh
  exact ⟨v, s', hh0, hh1, hh2, hh3, hh4, hc⟩
theorem Zts (code : List Int) (hc : (∀ j, j < code.length → 0 ≤ at_ code j ∧ at_ code j ≤ 255) ∧ code.length ≤ 4611686018427387904) : ∃ (v : Lattice) (q : Lexicon), (Zcg v) ∧ (Zci q) ∧ ((q.Entries.length : Int) ≤ 14) ∧ Con Tryz.prog 16 [Zdf false code] true (.tup [Zcn v, .agg [Zaa true q.Entries]]) := by
  have hh : ∃ r : Lattice × Lexicon, ((Zcg r.1) ∧ (Zci r.2) ∧ ((r.2.Entries.length : Int) ≤ 14) ∧ (True)) ∧ Zbi Tryz.prog 16 [Zdf false code] (Zaf []) true (.tup [Zcn r.1, .agg [Zaa true r.2.Entries]]) (Zaf []) := by
    refine Zdl (Φ := fun r : Lattice × Lexicon => (Zcg r.1) ∧ (Zci r.2) ∧ ((r.2.Entries.length : Int) ≤ 14) ∧ (True)) [] (fun r => []) (fn := Tryz.f16) (nt := 13) Tryz.func16 rfl rfl (args := [Zdf false code]) rfl (Zbe (.inl ⟨rfl, Zgz false _⟩) Zdj) (res := fun r => .tup [Zcn r.1, .agg [Zaa true r.2.Entries]]) ?_
    refine xR [(0, .new 2), (1, .new 3)] [0, 2, 3] [2, 3] [Zdf false code, .ref 2 0, .ref 3 0] [some (.box [I 0, Zde]), some (.box [Zde])] [] trivial ?_
    refine Zar ?_
    obtain ⟨s'_1, hx1_0, hc1⟩ := Zoj code
    have hsrc : Zcq s'_1 := ⟨by rw [hx1_0.1]; exact hc.1, by rw [hx1_0.2]; decide, by rw [hx1_0.1]; exact hc.2⟩
    have hat0 := hx1_0.2
    refine x_r [(1, .lend [] [(7001, Zab s'_1)] [(true, .any)] false (.ref 7001 0))] [2, 3, 4] [2, 3, 7001] [.ref 2 0, .ref 3 0, .ref 7001 0] [some (.box [I 0, Zde]), some (.box [Zde]), some (Zab s'_1)] [Zbi Tryz.prog 38 [Zdf false code] (Zaf []) false (.ref 7001 0) (Zaf [(7001, Zab s'_1)]) ∧ True] ⟨⟨hc1, trivial⟩, trivial⟩ ?_
    refine Zad ?_
    refine Zar ?_
    obtain ⟨v_2, s'_2, hx2_0, hx2_1, hx2_2, hx2_3, hx2_4, hc2⟩ := Zyi s'_1 6 (by first | assumption | (simp only [Zcq] at *; simp_all; done)) (by omega) (by omega)
    refine x_r [(1, .lend [(7001, Zab s'_1, Zab s'_2)] [] [(true, .any), (true, .any)] true (Zcn v_2)), (2, .new 5)] [2, 3, 4, 5] [2, 3, 5, 7001] [.ref 2 0, .ref 3 0, .ref 7001 0, .ref 5 0] [some (.box [I 0, Zde]), some (.box [Zde]), some (Zak v_2), some (Zab s'_2)] [Zbi Tryz.prog 37 [.ref 7001 0, I 6] (Zaf [(7001, Zab s'_1)]) true (Zcn v_2) (Zaf [(7001, Zab s'_2)]) ∧ (((Zab s'_1 : Ob) = Zab s'_1 ∨ Zih Zgf true (Zab s'_1) (Zab s'_1)) ∧ Zbu false (Zab s'_1)) ∧ True] ⟨⟨hc2, ⟨.inl rfl, (by simp [Zbu, Zaj, Zan, Zgz])⟩, trivial⟩, trivial⟩ ?_
    refine Zad ?_
    refine Zar ?_
    obtain ⟨v_3, s'_3, hx3_0, hx3_1, hx3_2, hx3_3, hx3_4, hc3⟩ := Zyj s'_2 14 (by first | assumption | (simp only [Zcq] at *; simp_all; done)) (by omega) (by omega)
    refine x_r [(2, .lend [(7001, Zab s'_2, Zab s'_3)] [] [(true, .any), (true, .any)] true (.agg [Zaa true v_3.Entries]))] [2, 3] [2, 3] [.ref 2 0, .ref 3 0] [some (Zak v_2), some (.box [Zaa true v_3.Entries])] [Zbi Tryz.prog 50 [.ref 7001 0, I 14] (Zaf [(7001, Zab s'_2)]) true (.agg [Zaa true v_3.Entries]) (Zaf [(7001, Zab s'_3)]) ∧ (((Zab s'_2 : Ob) = Zab s'_2 ∨ Zih Zgf true (Zab s'_2) (Zab s'_2)) ∧ Zbu false (Zab s'_2)) ∧ True] ⟨⟨hc3, ⟨.inl rfl, (by simp [Zbu, Zaj, Zan, Zgz])⟩, trivial⟩, trivial⟩ ?_
    refine Zad ?_
    refine Zdh ?_
    refine Zce (v_2, v_3) (show (Zcg v_2) ∧ (Zci v_3) ∧ ((v_3.Entries.length : Int) ≤ 14) ∧ (True) from ⟨(by assumption), (by assumption), (by assumption), trivial⟩) (trivial) (.tup [Zcn v_2, .agg [Zaa true v_3.Entries]]) (by kernel_rfl) (.inl rfl) (fun _ => rfl) (fun _ => (by simp [Zan, Zaj, Zdv, Zcf]))
  obtain ⟨⟨v, q⟩, ⟨hh0, hh1, hh2, _⟩, hc⟩ := hh
  exact ⟨v, q, hh0, hh1, hh2, hc⟩
theorem Zjg (n : Int) (low : Int) (high : Int) : Con Tryz.prog 40 [I n, I low, I high] true (Bv (inB n low high)) := by
  refine Zeb (fn := Tryz.f40) (nt := 15) Tryz.func40 rfl rfl rfl rfl (by simp [Zaj, Zan]) fun B hB => ?_
  refine aR [] [0, 1, 2] [] [I n, I low, I high] [] [] hB trivial ?_
  refine Zam ?_
  by_cases h1 : low ≤ n
  ·refine Zbs [(2, .dec true)] [6] [] [Bv (decide (n ≤ high))] [] [low ≤ n] hB ⟨h1, trivial⟩ ?_
   refine Zae ?_
   refine Zba ?_
   refine Zbb hB (Bv (decide (n ≤ high))) (by kernel_rfl) (.inl (by first | rfl | (refine congrArg Bv ?_; simp [inB, *]; done) | (refine congrArg Bv ?_; simp [inB, *]; omega) | (refine congrArg Bv ?_; simp_all [inB]; done) | (refine congrArg Bv ?_; simp_all [inB]; omega))) rfl (fun _ => trivial)
  refine Zbs [(2, .dec false)] [6] [] [Bv false] [] [¬ (low ≤ n)] hB ⟨h1, trivial⟩ ?_
  refine Zae ?_
  refine Zba ?_
  refine Zbb hB (Bv false) (by kernel_rfl) (.inl (by first | rfl | (refine congrArg Bv ?_; simp [inB, *]; done) | (refine congrArg Bv ?_; simp [inB, *]; omega) | (refine congrArg Bv ?_; simp_all [inB]; done) | (refine congrArg Bv ?_; simp_all [inB]; omega))) rfl (fun _ => trivial)
theorem Zjk (n : Int) : Con Tryz.prog 62 [I n] true (Bv (inB n 0 1000000)) := by
  refine Zeb (fn := Tryz.f62) (nt := 5) Tryz.func62 rfl rfl rfl rfl (by simp [Zaj, Zan]) fun B hB => ?_
  refine aR [] [0] [] [I n] [] [] hB trivial ?_
  refine aR [(1, .call [(true, .any), (true, .any), (true, .any)] true (Bv (inB n 0 1000000)))] [2] [] [Bv (inB n 0 1000000)] [] [Con Tryz.prog 40 [I n, I 0, I 1000000] true (Bv (inB n 0 1000000)) ∧ True] hB ⟨⟨(Zjg n 0 1000000), trivial⟩, trivial⟩ ?_
  refine Zba ?_
  refine Zbb hB (Bv (inB n 0 1000000)) (by kernel_rfl) (.inl rfl) rfl (fun _ => trivial)
theorem Zkn (l : Lattice) (e : Edge) (he : okEd l e) (hn : l.Nodes ≤ 20) : Con Tryz.prog 91 [Zbh l, Zgj e] true (Bv true) := by
  have h1 := he.1
  have h2 := he.2.1
  refine Zeb (fn := Tryz.f91) (nt := 27) Tryz.func91 rfl rfl rfl rfl (by simp [Zaj, Zan, Zdv]) fun B hB => ?_
  refine Zea (x := Zbh l) 0 rfl (fun len_l => ?_)
  simp [Zfx, Zkq, Zie, Zcv, Zag] at len_l
  refine aR [(0, .new 2), (1, .new 3)] [2, 3] [2, 3] [.ref 2 0, .ref 3 0] [some (Zac l), some (Zbj e)] [] hB trivial ?_
  refine aR [(2, .dec true), (8, .dec true), (15, .dec true), (20, .call [(true, .any)] true (Bv (inB e.Cost 0 1000000)))] [4] [] [Bv (inB e.Cost 0 1000000)] [] [0 ≤ e.From, e.From < e.To, e.To < l.Nodes, Con Tryz.prog 62 [I e.Cost] true (Bv (inB e.Cost 0 1000000)) ∧ True] hB ⟨(by omega), (by omega), (by omega), ⟨(Zjk e.Cost), trivial⟩, trivial⟩ ?_
  refine Zba ?_
  refine Zbb hB (Bv (inB e.Cost 0 1000000)) (by kernel_rfl) (.inl (by first | rfl | (simp [inB]; omega))) rfl (fun _ => trivial)
theorem Zhh (c : Int) : Con Tryz.prog 112 [.val (.int .u8 c)] true (Bv (inB c 97 122)) := by
  refine Zeb (fn := Tryz.f112) (nt := 9) Tryz.func112 rfl rfl rfl rfl (by simp [Zaj, Zan]) fun B hB => ?_
  refine aR [] [0] [] [.val (.int .u8 c)] [] [] hB trivial ?_
  refine Zam ?_
  by_cases h1 : 97 ≤ c
  ·refine Zbs [(1, .dec true)] [2] [] [Bv (decide (c ≤ 122))] [] [97 ≤ c] hB ⟨h1, trivial⟩ ?_
   refine Zae ?_
   refine Zba ?_
   refine Zbb hB (Bv (decide (c ≤ 122))) (by kernel_rfl) (.inl (by first | rfl | (refine congrArg Bv ?_; simp [inB, *]; done) | (refine congrArg Bv ?_; simp [inB, *]; omega) | (refine congrArg Bv ?_; simp_all [inB]; done) | (refine congrArg Bv ?_; simp_all [inB]; omega))) rfl (fun _ => trivial)
  refine Zbs [(1, .dec false)] [2] [] [Bv false] [] [¬ (97 ≤ c)] hB ⟨h1, trivial⟩ ?_
  refine Zae ?_
  refine Zba ?_
  refine Zbb hB (Bv false) (by kernel_rfl) (.inl (by first | rfl | (refine congrArg Bv ?_; simp [inB, *]; done) | (refine congrArg Bv ?_; simp [inB, *]; omega) | (refine congrArg Bv ?_; simp_all [inB]; done) | (refine congrArg Bv ?_; simp_all [inB]; omega))) rfl (fun _ => trivial)
def hasB (s : ByteArray) (n : Int) : Bool := s.data.toList.any fun x => decide ((x.toNat : Int) = n)
theorem one_byte {t : ByteArray} (h : t.size = 1) : ∃ c, t = ⟨#[c]⟩ := by
  obtain ⟨⟨l⟩⟩ := t
  cases l with
  | nil => cases h
  | cons c l =>
    cases l with
    | nil => exact ⟨c, rfl⟩
    | cons d l => simp [ByteArray.size] at h
theorem Ycq (l : List UInt8) (c : UInt8) : decide (0 ≤ Lib.indexByte l c) = l.any fun x => decide ((x.toNat : Int) = bAt ⟨#[c]⟩ 0) := by
  rw [← Lib.contains_iff_indexByte, Bool.eq_iff_iff]
  simp [bAt, List.contains_iff_mem]
  constructor
  · intro h; exact ⟨c, h, rfl⟩
  · rintro ⟨x, hx, e⟩
    have : x = c := UInt8.toNat_inj.1 (by omega)
    exact this ▸ hx
theorem Zur (s t : ByteArray) (h : t.size = 1) : Con Tryz.prog 146 [Sv s, Sv t] true (Bv (hasB s (bAt t 0))) := by
  obtain ⟨c, rfl⟩ := one_byte h
  refine Zeq (vals := [.string s, .string ⟨#[c]⟩]) fun w _ => ?_
  refine (Tryz.strings_Contains_one s c w).mono ?_
  rintro e w' ⟨rfl, rfl⟩
  refine ⟨?_, Below.refl _ _⟩
  simp only [Ycq, hasB]
end Go.Proofs.YtdinloamhmdgjaaGreatDoor.Ax
