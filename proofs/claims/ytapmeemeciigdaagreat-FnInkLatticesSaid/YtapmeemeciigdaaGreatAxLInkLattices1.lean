/- Contracts that the statement FnInkLattices reaches, part 1. No conditions. -/
import Derived.Test.YtapmeemeciigdaaGreatAxO
import Derived.Test.YtapmeemeciigdaaGreatShelf
import Derived.Lib.IndexBytes
import Derived.Lib.ItoaNum
import Derived.Lib.ParseIntBCases
import Derived.Lib.SplitLaws
import Derived.Test.YtapmeemeciigdaaGreatAxR
import Derived.Test.YtapmeemeciigdaaGreatAxS
import Derived.Test.YtapmeemeciigdaaGreatAxSF
import Derived.Test.YtapmeemeciigdaaGreatAxY
import Derived.Test.YtapmeemeciigdaaGreatSfEdgShelf
import Derived.Test.YtapmeemeciigdaaGreatSortShelf
namespace Go.Proofs.YtapmeemeciigdaaGreat.Ax
open Go.RowKit Go.ChangeShapes Go.WideShapes
set_option linter.unusedVariables false
set_option linter.unusedSimpArgs false
def cU8 (x : Int) : List AV := [.val (.int .u8 x)]
def fU8 (xs : List Int) (i : Nat) : List AV := cU8 (at_ xs i)
def Zlq (fr : Bool) (xs : List Int) : AV := .sl fr 1 xs.length (fU8 xs)
theorem tagcU8 (t : Bool) (x : Int) : Zag t (cU8 x) := by simp [cU8, Zag, Zaj]
theorem Zfc (t : Bool) (xs : List Int) : Zaj t (Zlq t xs) := by simp only [Zlq, Zaj]; exact ⟨trivial, fun i _ => tagcU8 t _⟩
def cI (x : Int) : List AV := [I x]
def fI (xs : List Int) (i : Nat) : List AV := cI (at_ xs i)
def slI (fr : Bool) (xs : List Int) : AV := .sl fr 1 xs.length (fI xs)
theorem tagcI (t : Bool) (x : Int) : Zag t (cI x) := by simp [cI, Zag, Zaj]
theorem tagI (t : Bool) (xs : List Int) : Zaj t (slI t xs) := by simp only [slI, Zaj]; exact ⟨trivial, fun i _ => tagcI t _⟩
abbrev tAI (xs : List Int) : Ob := .arr 1 xs.length (fI xs)
def cS (x : ByteArray) : List AV := [Sv x]
def fS (xs : List ByteArray) (i : Nat) : List AV := cS (at_ xs i)
def slS (fr : Bool) (xs : List ByteArray) : AV := .sl fr 1 xs.length (fS xs)
theorem tagcS (t : Bool) (x : ByteArray) : Zag t (cS x) := by simp [cS, Zag, Zaj]
theorem tagS (t : Bool) (xs : List ByteArray) : Zaj t (slS t xs) := by simp only [slS, Zaj]; exact ⟨trivial, fun i _ => tagcS t _⟩
structure Feat where
 X : Int
 Y : Int
 D : Int
deriving DecidableEq, Inhabited
def Zgw (x : Feat) : List AV := [I x.X, I x.Y, I x.D]
def Zez (xs : List Feat) (i : Nat) : List AV := Zgw (at_ xs i)
def Zai (fr : Bool) (xs : List Feat) : AV := .sl fr 3 xs.length (Zez xs)
theorem tagcFeat (t : Bool) (x : Feat) : Zag t (Zgw x) := by simp [Zgw, Zag, Zaj]
theorem Zdq (t : Bool) (xs : List Feat) : Zaj t (Zai t xs) := by simp only [Zai, Zaj]; exact ⟨trivial, fun i _ => tagcFeat t _⟩
abbrev bxFeat (x : Feat) : Ob := .box [I x.X, I x.Y, I x.D]
abbrev Zkc (x : Feat) : AV := .agg [I x.X, I x.Y, I x.D]
abbrev Zfr (xs : List Feat) : Ob := .arr 3 xs.length (Zez xs)
structure Template where
 Label : ByteArray
 Feats : List Feat
deriving DecidableEq, Inhabited
def Zev (fr : Bool) (x : Template) : List AV := [Sv x.Label, Zai fr x.Feats]
def Zch (fr : Bool) (xs : List Template) (i : Nat) : List AV := Zev fr (at_ xs i)
def Zav (fr : Bool) (xs : List Template) : AV := .sl fr 2 xs.length (Zch fr xs)
theorem Zyj (t : Bool) (x : Template) : Zag t (Zev t x) := by simp [Zev, Zag, Zaj, Zdq]
theorem Zdz (t : Bool) (xs : List Template) : Zaj t (Zav t xs) := by simp only [Zav, Zaj]; exact ⟨trivial, fun i _ => Zyj t _⟩
theorem Zpu (fr : Bool) (x : Template) : AV.idsL (Zev fr x) = [] := rfl
theorem Zse (fr : Bool) (x : Template) (ob : Nat → Option Ob) : leL ob false (Zev fr x) (Zev false x) := (And.intro rfl (And.intro (And.intro (fun h => by cases h) (And.intro rfl (And.intro rfl (fun i _ => .inl rfl)))) rfl))
abbrev bxTemplate (x : Template) : Ob := .box [Sv x.Label, Zai false x.Feats]
abbrev Zhv (x : Template) : AV := .agg [Sv x.Label, Zai false x.Feats]
abbrev Zdu (fr : Bool) (xs : List Template) : Ob := .arr 2 xs.length (Zch fr xs)
structure Store where
 Band : Int
 Templates : List Template
deriving DecidableEq, Inhabited
abbrev Zdt (x : Store) : Ob := .box [I x.Band, Zav false x.Templates]
abbrev Zfb (x : Store) : AV := .agg [I x.Band, Zav false x.Templates]
abbrev Zpa (x : Store) : Ob := .box [I x.Band, Zav true x.Templates]
abbrev Zgt (x : Store) : AV := .agg [I x.Band, Zav true x.Templates]
structure Point where
 X : Int
 Y : Int
 T : Int
deriving DecidableEq, Inhabited
def Zee (x : Point) : List AV := [I x.X, I x.Y, I x.T]
def Zdl (xs : List Point) (i : Nat) : List AV := Zee (at_ xs i)
def Zaq (fr : Bool) (xs : List Point) : AV := .sl fr 3 xs.length (Zdl xs)
theorem Yiz (t : Bool) (x : Point) : Zag t (Zee x) := by simp [Zee, Zag, Zaj]
theorem Zec (t : Bool) (xs : List Point) : Zaj t (Zaq t xs) := by simp only [Zaq, Zaj]; exact ⟨trivial, fun i _ => Yiz t _⟩
abbrev Yad (x : Point) : Ob := .box [I x.X, I x.Y, I x.T]
abbrev Zct (x : Point) : AV := .agg [I x.X, I x.Y, I x.T]
abbrev Zdd (xs : List Point) : Ob := .arr 3 xs.length (Zdl xs)
structure Stroke where
 Points : List Point
deriving DecidableEq, Inhabited
def Zft (fr : Bool) (x : Stroke) : List AV := [Zaq fr x.Points]
def Zbl (fr : Bool) (xs : List Stroke) (i : Nat) : List AV := Zft fr (at_ xs i)
def Zae (fr : Bool) (xs : List Stroke) : AV := .sl fr 1 xs.length (Zbl fr xs)
theorem Yen (t : Bool) (x : Stroke) : Zag t (Zft t x) := by simp [Zft, Zag, Zaj, Zec]
theorem Zck (t : Bool) (xs : List Stroke) : Zaj t (Zae t xs) := by simp only [Zae, Zaj]; exact ⟨trivial, fun i _ => Yen t _⟩
theorem Zml (fr : Bool) (x : Stroke) : AV.idsL (Zft fr x) = [] := rfl
theorem Zoz (fr : Bool) (x : Stroke) (ob : Nat → Option Ob) : leL ob false (Zft fr x) (Zft false x) := (And.intro (And.intro (fun h => by cases h) (And.intro rfl (And.intro rfl (fun i _ => .inl rfl)))) rfl)
abbrev Zmx (fr : Bool) (xs : List Stroke) : Ob := .arr 1 xs.length (Zbl fr xs)
structure Ink where
 Strokes : List Stroke
deriving DecidableEq, Inhabited
structure Setting where
 Points : Int
 Most : Int
 Pen : Int
deriving DecidableEq, Inhabited
abbrev Zcu (x : Setting) : Ob := .box [I x.Points, I x.Most, I x.Pen]
abbrev Zeg (x : Setting) : AV := .agg [I x.Points, I x.Most, I x.Pen]
def cLU8 (fr : Bool) (x : List Int) : List AV := [Zlq fr x]
structure l00Src where
 code : List Int
 atx : Int
 seed : Int
deriving DecidableEq, Inhabited
abbrev Zab (x : l00Src) : Ob := .box [Zlq false x.code, I x.atx, .val (.int .u64 x.seed)]
structure Box where
 X1 : Int
 Y1 : Int
 X2 : Int
 Y2 : Int
deriving DecidableEq, Inhabited
abbrev Zef (x : Box) : Ob := .box [I x.X1, I x.Y1, I x.X2, I x.Y2]
abbrev Zfo (x : Box) : AV := .agg [I x.X1, I x.Y1, I x.X2, I x.Y2]
structure Spot where
 X : Int
 Y : Int
deriving DecidableEq, Inhabited
def Yih (x : Spot) : List AV := [I x.X, I x.Y]
def fSpot (xs : List Spot) (i : Nat) : List AV := Yih (at_ xs i)
def Zdy (fr : Bool) (xs : List Spot) : AV := .sl fr 2 xs.length (fSpot xs)
theorem tagcSpot (t : Bool) (x : Spot) : Zag t (Yih x) := by simp [Yih, Zag, Zaj]
theorem Yii (t : Bool) (xs : List Spot) : Zaj t (Zdy t xs) := by simp only [Zdy, Zaj]; exact ⟨trivial, fun i _ => tagcSpot t _⟩
abbrev Zog (xs : List Spot) : Ob := .arr 2 xs.length (fSpot xs)
structure Edge where
 From : Int
 To : Int
 Label : ByteArray
 Cost : Int
deriving DecidableEq, Inhabited
def Yaa (x : Edge) : List AV := [I x.From, I x.To, Sv x.Label, I x.Cost]
def Zle (xs : List Edge) (i : Nat) : List AV := Yaa (at_ xs i)
def Zgk (fr : Bool) (xs : List Edge) : AV := .sl fr 4 xs.length (Zle xs)
theorem Ycm (t : Bool) (x : Edge) : Zag t (Yaa x) := by simp [Yaa, Zag, Zaj]
theorem Zvi (t : Bool) (xs : List Edge) : Zaj t (Zgk t xs) := by simp only [Zgk, Zaj]; exact ⟨trivial, fun i _ => Ycm t _⟩
abbrev bxEdge (x : Edge) : Ob := .box [I x.From, I x.To, Sv x.Label, I x.Cost]
abbrev Zfe (xs : List Edge) : Ob := .arr 4 xs.length (Zle xs)
structure Lattice where
 Nodes : Int
 Edges : List Edge
deriving DecidableEq, Inhabited
abbrev bxLattice (x : Lattice) : Ob := .box [I x.Nodes, Zgk false x.Edges]
abbrev Zpv (x : Lattice) : AV := .agg [I x.Nodes, Zgk false x.Edges]
abbrev Zni (x : Lattice) : Ob := .box [I x.Nodes, Zgk true x.Edges]
abbrev Zku (x : Lattice) : AV := .agg [I x.Nodes, Zgk true x.Edges]
structure Match where
 Index : Int
 Cost : Int
deriving DecidableEq, Inhabited
def Zwa (x : Match) : List AV := [I x.Index, I x.Cost]
def Yaz (xs : List Match) (i : Nat) : List AV := Zwa (at_ xs i)
def Zhd (fr : Bool) (xs : List Match) : AV := .sl fr 2 xs.length (Yaz xs)
theorem Yja (t : Bool) (x : Match) : Zag t (Zwa x) := by simp [Zwa, Zag, Zaj]
theorem tagMatch (t : Bool) (xs : List Match) : Zaj t (Zhd t xs) := by simp only [Zhd, Zaj]; exact ⟨trivial, fun i _ => Yja t _⟩
abbrev bxMatch (x : Match) : Ob := .box [I x.Index, I x.Cost]
abbrev Zds (xs : List Match) : Ob := .arr 2 xs.length (Yaz xs)
structure Hyp where
 Label : ByteArray
 Cost : Int
deriving DecidableEq, Inhabited
def Zsb (x : Hyp) : List AV := [Sv x.Label, I x.Cost]
def Ziy (xs : List Hyp) (i : Nat) : List AV := Zsb (at_ xs i)
def Zbs (fr : Bool) (xs : List Hyp) : AV := .sl fr 2 xs.length (Ziy xs)
theorem Zvb (t : Bool) (x : Hyp) : Zag t (Zsb x) := by simp [Zsb, Zag, Zaj]
theorem Ziz (t : Bool) (xs : List Hyp) : Zaj t (Zbs t xs) := by simp only [Zbs, Zaj]; exact ⟨trivial, fun i _ => Zvb t _⟩
abbrev Zlo (x : Hyp) : Ob := .box [Sv x.Label, I x.Cost]
abbrev Zld (x : Hyp) : AV := .agg [Sv x.Label, I x.Cost]
abbrev Zbz (xs : List Hyp) : Ob := .arr 2 xs.length (Ziy xs)
structure Group where
 From : Int
 To : Int
deriving DecidableEq, Inhabited
def Ydb (x : Group) : List AV := [I x.From, I x.To]
def Yiy (xs : List Group) (i : Nat) : List AV := Ydb (at_ xs i)
def Zfd (fr : Bool) (xs : List Group) : AV := .sl fr 2 xs.length (Yiy xs)
theorem Yjb (t : Bool) (x : Group) : Zag t (Ydb x) := by simp [Ydb, Zag, Zaj]
theorem tagGroup (t : Bool) (xs : List Group) : Zaj t (Zfd t xs) := by simp only [Zfd, Zaj]; exact ⟨trivial, fun i _ => Yjb t _⟩
abbrev Zii (xs : List Group) : Ob := .arr 2 xs.length (Yiy xs)
def cLI (fr : Bool) (x : List Int) : List AV := [slI fr x]
def fLI (fr : Bool) (xs : List (List Int)) (i : Nat) : List AV := cLI fr (at_ xs i)
def Zuz (fr : Bool) (xs : List (List Int)) : AV := .sl fr 1 xs.length (fLI fr xs)
theorem tagcLI (t : Bool) (x : List Int) : Zag t (cLI t x) := by simp [cLI, Zag, Zaj, tagI]
theorem tagLI (t : Bool) (xs : List (List Int)) : Zaj t (Zuz t xs) := by simp only [Zuz, Zaj]; exact ⟨trivial, fun i _ => tagcLI t _⟩
structure Arr2I where
 a0 : Int
 a1 : Int
deriving DecidableEq, Inhabited
structure Arr3Arr2I where
 a0 : Arr2I
 a1 : Arr2I
 a2 : Arr2I
deriving DecidableEq, Inhabited
theorem Zwc (code : List Int) (more : List Int) : Con Tryz.prog 4 [Zlq false code, Zlq false more] true (Bv (decide (3000 < (code.length : Int) ∨ 3000 < (more.length : Int)))) := by
  refine Zbu (fn := Tryz.f4) (nt := 13) Tryz.func4 rfl rfl rfl rfl (by simp [Zag, Zaj, Zfc]) fun B hB => ?_
  refine Zbt (x := Zlq false code) 0 rfl (fun len_code => ?_)
  simp [Zdk, Zgf, cU8, fU8, Zlq] at len_code
  refine Zbt (x := Zlq false more) 1 rfl (fun len_more => ?_)
  simp [Zdk, Zgf, cU8, fU8, Zlq] at len_more
  refine aQ [] [0, 1] [] [] hB trivial ?_
  refine Zah ?_
  by_cases h1 : 3000 < (code.length : Int)
  ·refine Zdg [(2, .dec true)] [4] [] [Bv true] [] [_] hB ⟨h1, trivial⟩ ?_
   refine Zaa ?_
   refine Zam ?_
   refine Zan hB (Bv true) (by kernel_rfl) (.inl (by refine congrArg Bv ?_; simp [*])) rfl (fun _ => trivial)
  refine Zdg [(2, .dec false)] [4] [] [Bv (decide (3000 < (more.length : Int)))] [] [_] hB ⟨h1, trivial⟩ ?_
  refine Zaa ?_
  refine Zam ?_
  refine Zan hB (Bv (decide (3000 < (more.length : Int)))) (by kernel_rfl) (.inl (by refine congrArg Bv ?_; simp [*])) rfl (fun _ => trivial)
def same {α : Type} [DecidableEq α] (x y : α) : Bool := decide (x = y)
theorem ext_at {α : Type} [Inhabited α] {xs ys : List α} (hl : xs.length = ys.length) (h : ∀ j : Nat, j < xs.length → at_ xs j = at_ ys j) : xs = ys := by
 apply List.ext_getElem hl
 intro i h1 h2
 rw [← Zej h1, ← Zej h2]
 exact h i h1
theorem Zdf {α : Type} [Inhabited α] {xs : List α} {i : Nat} (h : i < xs.length) : at_ xs i ∈ xs := by rw [Zej h]; exact List.getElem_mem h
def Znc (n : Nat) (p : Nat → Bool) : Bool := (List.range n).all p
def Zvc (n : Nat) (p : Nat → Bool) : Bool := !(Znc n fun j => !(p j))
theorem Zna {n : Nat} {p : Nat → Bool} : Znc n p = true ↔ ∀ j, j < n → p j = true := by simp [Znc, List.all_eq_true]
theorem Zit {n : Nat} {p : Nat → Bool} (h : ∀ j, j < n → p j = true) : Znc n p = true := Zna.2 h
theorem Zlb {n : Nat} {p : Nat → Bool} (h : Znc n p = true) {k : Nat} (hk : k < n) : p k = true := Zna.1 h k hk
theorem Zgg {n : Nat} {p : Nat → Bool} {k : Nat} (hk : k < n) (h : p k = false) : Znc n p = false := by
 rw [← Bool.not_eq_true, Zna]; intro h'; rw [h' k hk] at h; cases h
theorem Zdb (n : Nat) (p : Nat → Bool) : Zvc n (fun j => !(p j)) = !(Znc n p) := by simp [Zvc]
theorem Yjc {n : Nat} {p : Nat → Bool} {k : Nat} (hk : k < n) (h : p k = true) : Zvc n p = true := by
 unfold Zvc; rw [Zgg hk (by simp [h])]; rfl
theorem Zyk {n : Nat} {p : Nat → Bool} (h : ∀ j, j < n → p j = false) : Zvc n p = false := by
 unfold Zvc; rw [Zit (fun j hj => by simp [h j hj])]; rfl
theorem anyN_iff {n : Nat} {p : Nat → Bool} : Zvc n p = true ↔ ∃ j, j < n ∧ p j = true := by
 constructor
 ·intro h
  apply Classical.byContradiction
  intro hn
  rw [Zyk (fun j hj => by rw [← Bool.not_eq_true]; exact fun hp => hn ⟨j, hj, hp⟩)] at h
  cases h
 ·rintro ⟨j, hj, hp⟩; exact Yjc hj hp
theorem up_to {n : Int} {p : Nat → Prop} {i : Int} (hi : 0 ≤ i) (h : ∀ j : Nat, (j : Int) < i → p j) (hp : p i.toNat) : ∀ j : Nat, (j : Int) < i + 1 → p j := fun j hj => by
 by_cases e : j = i.toNat
 ·subst e; exact hp
 ·exact h j om
def Zcc (s : l00Src) : Prop := (∀ j, j < s.code.length → 0 ≤ at_ s.code j ∧ at_ s.code j ≤ 255) ∧ 0 ≤ s.atx ∧ s.code.length ≤ 4611686018427387904
theorem Yjd (a : Int) : 0 ≤ Ziu .and .u64 a 255 ∧ Ziu .and .u64 a 255 ≤ 255 := by
 obtain ⟨n, hn⟩ : ∃ n : Nat, n = (BitVec.ofInt 64 a &&& BitVec.ofInt 64 255).toNat := ⟨_, rfl⟩
 have h : n ≤ 255 := by rw [hn, BitVec.toNat_and]; exact Nat.and_le_right
 have e : Ziu .and .u64 a 255 = IntKind.u64.wrap (n : Int) := by rw [hn]; rfl
 have w : IntKind.u64.wrap (n : Int) = n := Zjo (Zpx om om)
 rw [e, w]; omega
theorem Yek (code : List Int) : ∃ (s' : l00Src), (s'.code = code ∧ s'.atx = 0) ∧ Zbb Tryz.prog 11 [Zlq false code] (Zaf []) false (.ref 7001 0) (Zaf [(7001, Zab s')]) := by
 have hh : ∃ r : l00Src, ((r.code = code ∧ r.atx = 0) ∧ (True)) ∧ Zbb Tryz.prog 11 [Zlq false code] (Zaf []) false (.ref 7001 0) (Zaf [(7001, Zab r)]) := by
  refine Zdv (Φ := fun r : l00Src => (r.code = code ∧ r.atx = 0) ∧ (True)) [] (fun r => [(7001, Zab r)]) (fn := Tryz.f11) (nt := 6) Tryz.func11 rfl rfl (args := [Zlq false code]) rfl (Zbd (.inl ⟨rfl, Zfc false _⟩) Zdp) (res := fun r => .ref 7001 0) ?_
  refine xQ [] [0] [] [] trivial ?_
  refine xR [(2, .new 7001)] [2] [7001] [.ref 7001 0] [some (.box [Zlq false code, I 0, .val (.int .u64 0)])] [] trivial ?_
  refine Zem ?_
  refine Zcz (l00Src.mk code 0 0) (show ((l00Src.mk code 0 0).code = code ∧ (l00Src.mk code 0 0).atx = 0) ∧ (True) from ⟨(by first | rfl | (exact ⟨rfl, rfl⟩)), trivial⟩) (⟨.inl rfl, trivial⟩) (.ref 7001 0) (by kernel_rfl) (.inl rfl) (fun h => by cases h) (fun h => by cases h)
 obtain ⟨s', ⟨hh0, _⟩, hc⟩ := hh
 exact ⟨s', hh0, hc⟩
theorem Yje (s : l00Src) (hs : Zcc s) (ha : s.atx ≤ 4000000000000000000) : ∃ (v : Int) (s' : l00Src), (0 ≤ v ∧ v ≤ 255) ∧ (Zcc s') ∧ (s'.code = s.code) ∧ (s.atx + 1 ≤ s'.atx ∧ s'.atx ≤ s.atx + 1) ∧ Zbb Tryz.prog 29 [.ref 7001 0] (Zaf [(7001, Zab s)]) true (I v) (Zaf [(7001, Zab s')]) := by
  have hs0 := hs.2.1
  have hs1 := hs.2.2
  have hh : ∃ r : Int × l00Src, ((0 ≤ r.1 ∧ r.1 ≤ 255) ∧ (Zcc r.2) ∧ (r.2.code = s.code) ∧ (s.atx + 1 ≤ r.2.atx ∧ r.2.atx ≤ s.atx + 1) ∧ (True)) ∧ Zbb Tryz.prog 29 [.ref 7001 0] (Zaf [(7001, Zab s)]) true (I r.1) (Zaf [(7001, Zab r.2)]) := by
    refine Zdv (Φ := fun r : Int × l00Src => (0 ≤ r.1 ∧ r.1 ≤ 255) ∧ (Zcc r.2) ∧ (r.2.code = s.code) ∧ (s.atx + 1 ≤ r.2.atx ∧ r.2.atx ≤ s.atx + 1) ∧ (True)) [(7001, Zab s)] (fun r => [(7001, Zab r.2)]) (fn := Tryz.f29) (nt := 62) Tryz.func29 rfl rfl (args := [.ref 7001 0]) rfl (Zbd (.inr trivial) Zdp) (res := fun r => I r.1) ?_
    refine xQ [] [0] [7001] [] trivial ?_
    refine xQ [] [0, 3] [7001] [] trivial ?_
    refine Zat ?_
    refine Zat ?_
    by_cases h1 : s.atx < (s.code.length : Int)
    ·have hbt := hs.1 s.atx.toNat om
     refine x_q [(9, .dec true)] [0, 3, 13] [7001] [_] ⟨h1, trivial⟩ ?_
     refine Zad ?_
     refine Zfl ?_
     refine x_q [] [0, 3] [7001] [(0 : Int) ≤ s.atx ∧ s.atx < (s.code.length : Int), inR .i64 (at_ s.code s.atx.toNat)] ⟨⟨om, om⟩, (Zac om om), trivial⟩ ?_
     refine Zad ?_
     refine xQ [] [0, 3] [7001] [inR .i64 (s.atx + 1)] ⟨(Zac om om), trivial⟩ ?_
     refine xQ [(5, .wrap), (8, .wrap), (9, .wrap)] [0, 3] [7001] [inR .u64 (at_ s.code s.atx.toNat)] ⟨(Zpx om om), trivial⟩ ?_
     refine Zat ?_
     refine Zat ?_
     by_cases h2 : (s.atx + 1) ≤ (s.code.length : Int)
     ·refine x_q [(9, .dec true)] [0, 3, 53] [7001] [_] ⟨h2, trivial⟩ ?_
      refine Zad ?_
      refine Zfl ?_
      refine xR [] [2] [7001] [I (at_ s.code s.atx.toNat)] [some (.box [Zlq false s.code, I (s.atx + 1), .val (.int .u64 (IntKind.u64.wrap ((IntKind.u64.wrap ((IntKind.u64.wrap (s.seed * 6364136223846793005)) + (at_ s.code s.atx.toNat))) + 1442695040888963407)))])] [] trivial ?_
      refine Zem ?_
      refine Zff ?_
      refine Zcz ((at_ s.code s.atx.toNat), (l00Src.mk s.code (s.atx + 1) (IntKind.u64.wrap ((IntKind.u64.wrap ((IntKind.u64.wrap (s.seed * 6364136223846793005)) + (at_ s.code s.atx.toNat))) + 1442695040888963407)))) (show (0 ≤ (at_ s.code s.atx.toNat) ∧ (at_ s.code s.atx.toNat) ≤ 255) ∧ (Zcc (l00Src.mk s.code (s.atx + 1) (IntKind.u64.wrap ((IntKind.u64.wrap ((IntKind.u64.wrap (s.seed * 6364136223846793005)) + (at_ s.code s.atx.toNat))) + 1442695040888963407)))) ∧ ((l00Src.mk s.code (s.atx + 1) (IntKind.u64.wrap ((IntKind.u64.wrap ((IntKind.u64.wrap (s.seed * 6364136223846793005)) + (at_ s.code s.atx.toNat))) + 1442695040888963407))).code = s.code) ∧ (s.atx + 1 ≤ (l00Src.mk s.code (s.atx + 1) (IntKind.u64.wrap ((IntKind.u64.wrap ((IntKind.u64.wrap (s.seed * 6364136223846793005)) + (at_ s.code s.atx.toNat))) + 1442695040888963407))).atx ∧ (l00Src.mk s.code (s.atx + 1) (IntKind.u64.wrap ((IntKind.u64.wrap ((IntKind.u64.wrap (s.seed * 6364136223846793005)) + (at_ s.code s.atx.toNat))) + 1442695040888963407))).atx ≤ s.atx + 1) ∧ (True) from ⟨(by first | omega | rfl | assumption | (dsimp only; first | omega | rfl | assumption) | (simp only [*]; done) | exact ⟨hs.1, (by dsimp only; omega), hs1⟩), (by first | omega | rfl | assumption | (dsimp only; first | omega | rfl | assumption) | (simp only [*]; done) | exact ⟨hs.1, (by dsimp only; omega), hs1⟩), (by first | omega | rfl | assumption | (dsimp only; first | omega | rfl | assumption) | (simp only [*]; done) | exact ⟨hs.1, (by dsimp only; omega), hs1⟩), (by first | omega | rfl | assumption | (dsimp only; first | omega | rfl | assumption) | (simp only [*]; done) | exact ⟨hs.1, (by dsimp only; omega), hs1⟩), trivial⟩) (⟨.inl rfl, trivial⟩) (I (at_ s.code s.atx.toNat)) (by kernel_rfl) (.inl rfl) (fun _ => rfl) (fun _ => trivial)
     refine x_q [(9, .dec false)] [0, 3, 53] [7001] [_] ⟨h2, trivial⟩ ?_
     refine Zad ?_
     refine Zkr ?_
     refine Zbv ?_
     refine Zad ?_
     refine Zat ?_
     have hb1 := Yjd ((IntKind.u64.wrap ((IntKind.u64.wrap ((IntKind.u64.wrap (s.seed * 6364136223846793005)) + (at_ s.code s.atx.toNat))) + 1442695040888963407)) / 1099511627776)
     refine x_r [] [2] [7001] [I (Ziu .and .u64 ((IntKind.u64.wrap ((IntKind.u64.wrap ((IntKind.u64.wrap (s.seed * 6364136223846793005)) + (at_ s.code s.atx.toNat))) + 1442695040888963407)) / 1099511627776) 255)] [some (.box [Zlq false s.code, I (s.atx + 1), .val (.int .u64 (IntKind.u64.wrap ((IntKind.u64.wrap ((IntKind.u64.wrap (s.seed * 6364136223846793005)) + (at_ s.code s.atx.toNat))) + 1442695040888963407)))])] [(0 : Int) ≤ 40 ∧ (40 : Int) ≤ ((IntKind.bits .u64 : Nat) : Int), inR .i64 (Ziu .and .u64 ((IntKind.u64.wrap ((IntKind.u64.wrap ((IntKind.u64.wrap (s.seed * 6364136223846793005)) + (at_ s.code s.atx.toNat))) + 1442695040888963407)) / 1099511627776) 255)] ⟨⟨(by decide), (by decide)⟩, (Zac om om), trivial⟩ ?_
     refine Zad ?_
     refine Zem ?_
     refine Zcz ((Ziu .and .u64 ((IntKind.u64.wrap ((IntKind.u64.wrap ((IntKind.u64.wrap (s.seed * 6364136223846793005)) + (at_ s.code s.atx.toNat))) + 1442695040888963407)) / 1099511627776) 255), (l00Src.mk s.code (s.atx + 1) (IntKind.u64.wrap ((IntKind.u64.wrap ((IntKind.u64.wrap (s.seed * 6364136223846793005)) + (at_ s.code s.atx.toNat))) + 1442695040888963407)))) (show (0 ≤ (Ziu .and .u64 ((IntKind.u64.wrap ((IntKind.u64.wrap ((IntKind.u64.wrap (s.seed * 6364136223846793005)) + (at_ s.code s.atx.toNat))) + 1442695040888963407)) / 1099511627776) 255) ∧ (Ziu .and .u64 ((IntKind.u64.wrap ((IntKind.u64.wrap ((IntKind.u64.wrap (s.seed * 6364136223846793005)) + (at_ s.code s.atx.toNat))) + 1442695040888963407)) / 1099511627776) 255) ≤ 255) ∧ (Zcc (l00Src.mk s.code (s.atx + 1) (IntKind.u64.wrap ((IntKind.u64.wrap ((IntKind.u64.wrap (s.seed * 6364136223846793005)) + (at_ s.code s.atx.toNat))) + 1442695040888963407)))) ∧ ((l00Src.mk s.code (s.atx + 1) (IntKind.u64.wrap ((IntKind.u64.wrap ((IntKind.u64.wrap (s.seed * 6364136223846793005)) + (at_ s.code s.atx.toNat))) + 1442695040888963407))).code = s.code) ∧ (s.atx + 1 ≤ (l00Src.mk s.code (s.atx + 1) (IntKind.u64.wrap ((IntKind.u64.wrap ((IntKind.u64.wrap (s.seed * 6364136223846793005)) + (at_ s.code s.atx.toNat))) + 1442695040888963407))).atx ∧ (l00Src.mk s.code (s.atx + 1) (IntKind.u64.wrap ((IntKind.u64.wrap ((IntKind.u64.wrap (s.seed * 6364136223846793005)) + (at_ s.code s.atx.toNat))) + 1442695040888963407))).atx ≤ s.atx + 1) ∧ (True) from ⟨(by first | omega | rfl | assumption | (dsimp only; first | omega | rfl | assumption) | (simp only [*]; done) | exact ⟨hs.1, (by dsimp only; omega), hs1⟩), (by first | omega | rfl | assumption | (dsimp only; first | omega | rfl | assumption) | (simp only [*]; done) | exact ⟨hs.1, (by dsimp only; omega), hs1⟩), (by first | omega | rfl | assumption | (dsimp only; first | omega | rfl | assumption) | (simp only [*]; done) | exact ⟨hs.1, (by dsimp only; omega), hs1⟩), (by first | omega | rfl | assumption | (dsimp only; first | omega | rfl | assumption) | (simp only [*]; done) | exact ⟨hs.1, (by dsimp only; omega), hs1⟩), trivial⟩) (⟨.inl rfl, trivial⟩) (I (Ziu .and .u64 ((IntKind.u64.wrap ((IntKind.u64.wrap ((IntKind.u64.wrap (s.seed * 6364136223846793005)) + (at_ s.code s.atx.toNat))) + 1442695040888963407)) / 1099511627776) 255)) (by kernel_rfl) (.inl rfl) (fun _ => rfl) (fun _ => trivial)
    refine x_q [(9, .dec false)] [0, 3, 13] [7001] [_] ⟨h1, trivial⟩ ?_
    refine Zad ?_
    refine Zkr ?_
    refine Zbv ?_
    refine Zad ?_
    refine xQ [] [0, 3] [7001] [inR .i64 (s.atx + 1)] ⟨(Zac om om), trivial⟩ ?_
    refine xQ [(5, .wrap), (8, .wrap), (9, .wrap)] [0, 3] [7001] [inR .u64 0] ⟨(Zpx om om), trivial⟩ ?_
    refine Zat ?_
    refine Zat ?_
    by_cases h3 : (s.atx + 1) ≤ (s.code.length : Int)
    ·refine x_q [(9, .dec true)] [0, 3, 53] [7001] [_] ⟨h3, trivial⟩ ?_
     refine Zad ?_
     refine Zfl ?_
     refine xR [] [2] [7001] [I 0] [some (.box [Zlq false s.code, I (s.atx + 1), .val (.int .u64 (IntKind.u64.wrap ((IntKind.u64.wrap ((IntKind.u64.wrap (s.seed * 6364136223846793005)) + 0)) + 1442695040888963407)))])] [] trivial ?_
     refine Zem ?_
     refine Zff ?_
     refine Zcz (0, (l00Src.mk s.code (s.atx + 1) (IntKind.u64.wrap ((IntKind.u64.wrap ((IntKind.u64.wrap (s.seed * 6364136223846793005)) + 0)) + 1442695040888963407)))) (show (0 ≤ 0 ∧ 0 ≤ 255) ∧ (Zcc (l00Src.mk s.code (s.atx + 1) (IntKind.u64.wrap ((IntKind.u64.wrap ((IntKind.u64.wrap (s.seed * 6364136223846793005)) + 0)) + 1442695040888963407)))) ∧ ((l00Src.mk s.code (s.atx + 1) (IntKind.u64.wrap ((IntKind.u64.wrap ((IntKind.u64.wrap (s.seed * 6364136223846793005)) + 0)) + 1442695040888963407))).code = s.code) ∧ (s.atx + 1 ≤ (l00Src.mk s.code (s.atx + 1) (IntKind.u64.wrap ((IntKind.u64.wrap ((IntKind.u64.wrap (s.seed * 6364136223846793005)) + 0)) + 1442695040888963407))).atx ∧ (l00Src.mk s.code (s.atx + 1) (IntKind.u64.wrap ((IntKind.u64.wrap ((IntKind.u64.wrap (s.seed * 6364136223846793005)) + 0)) + 1442695040888963407))).atx ≤ s.atx + 1) ∧ (True) from ⟨(by first | omega | rfl | assumption | (dsimp only; first | omega | rfl | assumption) | (simp only [*]; done) | exact ⟨hs.1, (by dsimp only; omega), hs1⟩), (by first | omega | rfl | assumption | (dsimp only; first | omega | rfl | assumption) | (simp only [*]; done) | exact ⟨hs.1, (by dsimp only; omega), hs1⟩), (by first | omega | rfl | assumption | (dsimp only; first | omega | rfl | assumption) | (simp only [*]; done) | exact ⟨hs.1, (by dsimp only; omega), hs1⟩), (by first | omega | rfl | assumption | (dsimp only; first | omega | rfl | assumption) | (simp only [*]; done) | exact ⟨hs.1, (by dsimp only; omega), hs1⟩), trivial⟩) (⟨.inl rfl, trivial⟩) (I 0) (by kernel_rfl) (.inl rfl) (fun _ => rfl) (fun _ => trivial)
    refine x_q [(9, .dec false)] [0, 3, 53] [7001] [_] ⟨h3, trivial⟩ ?_
    refine Zad ?_
    refine Zkr ?_
    refine Zbv ?_
    refine Zad ?_
    refine Zat ?_
    have hb2 := Yjd ((IntKind.u64.wrap ((IntKind.u64.wrap ((IntKind.u64.wrap (s.seed * 6364136223846793005)) + 0)) + 1442695040888963407)) / 1099511627776)
    refine x_r [] [2] [7001] [I (Ziu .and .u64 ((IntKind.u64.wrap ((IntKind.u64.wrap ((IntKind.u64.wrap (s.seed * 6364136223846793005)) + 0)) + 1442695040888963407)) / 1099511627776) 255)] [some (.box [Zlq false s.code, I (s.atx + 1), .val (.int .u64 (IntKind.u64.wrap ((IntKind.u64.wrap ((IntKind.u64.wrap (s.seed * 6364136223846793005)) + 0)) + 1442695040888963407)))])] [(0 : Int) ≤ 40 ∧ (40 : Int) ≤ ((IntKind.bits .u64 : Nat) : Int), inR .i64 (Ziu .and .u64 ((IntKind.u64.wrap ((IntKind.u64.wrap ((IntKind.u64.wrap (s.seed * 6364136223846793005)) + 0)) + 1442695040888963407)) / 1099511627776) 255)] ⟨⟨(by decide), (by decide)⟩, (Zac om om), trivial⟩ ?_
    refine Zad ?_
    refine Zem ?_
    refine Zcz ((Ziu .and .u64 ((IntKind.u64.wrap ((IntKind.u64.wrap ((IntKind.u64.wrap (s.seed * 6364136223846793005)) + 0)) + 1442695040888963407)) / 1099511627776) 255), (l00Src.mk s.code (s.atx + 1) (IntKind.u64.wrap ((IntKind.u64.wrap ((IntKind.u64.wrap (s.seed * 6364136223846793005)) + 0)) + 1442695040888963407)))) (show (0 ≤ (Ziu .and .u64 ((IntKind.u64.wrap ((IntKind.u64.wrap ((IntKind.u64.wrap (s.seed * 6364136223846793005)) + 0)) + 1442695040888963407)) / 1099511627776) 255) ∧ (Ziu .and .u64 ((IntKind.u64.wrap ((IntKind.u64.wrap ((IntKind.u64.wrap (s.seed * 6364136223846793005)) + 0)) + 1442695040888963407)) / 1099511627776) 255) ≤ 255) ∧ (Zcc (l00Src.mk s.code (s.atx + 1) (IntKind.u64.wrap ((IntKind.u64.wrap ((IntKind.u64.wrap (s.seed * 6364136223846793005)) + 0)) + 1442695040888963407)))) ∧ ((l00Src.mk s.code (s.atx + 1) (IntKind.u64.wrap ((IntKind.u64.wrap ((IntKind.u64.wrap (s.seed * 6364136223846793005)) + 0)) + 1442695040888963407))).code = s.code) ∧ (s.atx + 1 ≤ (l00Src.mk s.code (s.atx + 1) (IntKind.u64.wrap ((IntKind.u64.wrap ((IntKind.u64.wrap (s.seed * 6364136223846793005)) + 0)) + 1442695040888963407))).atx ∧ (l00Src.mk s.code (s.atx + 1) (IntKind.u64.wrap ((IntKind.u64.wrap ((IntKind.u64.wrap (s.seed * 6364136223846793005)) + 0)) + 1442695040888963407))).atx ≤ s.atx + 1) ∧ (True) from ⟨(by first | omega | rfl | assumption | (dsimp only; first | omega | rfl | assumption) | (simp only [*]; done) | exact ⟨hs.1, (by dsimp only; omega), hs1⟩), (by first | omega | rfl | assumption | (dsimp only; first | omega | rfl | assumption) | (simp only [*]; done) | exact ⟨hs.1, (by dsimp only; omega), hs1⟩), (by first | omega | rfl | assumption | (dsimp only; first | omega | rfl | assumption) | (simp only [*]; done) | exact ⟨hs.1, (by dsimp only; omega), hs1⟩), (by first | omega | rfl | assumption | (dsimp only; first | omega | rfl | assumption) | (simp only [*]; done) | exact ⟨hs.1, (by dsimp only; omega), hs1⟩), trivial⟩) (⟨.inl rfl, trivial⟩) (I (Ziu .and .u64 ((IntKind.u64.wrap ((IntKind.u64.wrap ((IntKind.u64.wrap (s.seed * 6364136223846793005)) + 0)) + 1442695040888963407)) / 1099511627776) 255)) (by kernel_rfl) (.inl rfl) (fun _ => rfl) (fun _ => trivial)
  obtain ⟨⟨v, s'⟩, ⟨hh0, hh1, hh2, hh3, _⟩, hc⟩ := hh
  exact ⟨v, s', hh0, hh1, hh2, hh3, hc⟩
theorem Zel (s : l00Src) (n : Int) (hs : Zcc s) (ha : s.atx ≤ 3999999999999999990) : ∃ (v : Int) (s' : l00Src), (0 ≤ v ∧ (v < n ∨ v = 0)) ∧ (Zcc s') ∧ (s'.code = s.code) ∧ (s.atx + 0 ≤ s'.atx ∧ s'.atx ≤ s.atx + 2) ∧ Zbb Tryz.prog 12 [.ref 7001 0, I n] (Zaf [(7001, Zab s)]) true (I v) (Zaf [(7001, Zab s')]) := by
  have hs0 := hs.2.1
  have hs1 := hs.2.2
  have hh : ∃ r : Int × l00Src, ((0 ≤ r.1 ∧ (r.1 < n ∨ r.1 = 0)) ∧ (Zcc r.2) ∧ (r.2.code = s.code) ∧ (s.atx + 0 ≤ r.2.atx ∧ r.2.atx ≤ s.atx + 2) ∧ (True)) ∧ Zbb Tryz.prog 12 [.ref 7001 0, I n] (Zaf [(7001, Zab s)]) true (I r.1) (Zaf [(7001, Zab r.2)]) := by
    refine Zdv (Φ := fun r : Int × l00Src => (0 ≤ r.1 ∧ (r.1 < n ∨ r.1 = 0)) ∧ (Zcc r.2) ∧ (r.2.code = s.code) ∧ (s.atx + 0 ≤ r.2.atx ∧ r.2.atx ≤ s.atx + 2) ∧ (True)) [(7001, Zab s)] (fun r => [(7001, Zab r.2)]) (fn := Tryz.f12) (nt := 20) Tryz.func12 rfl rfl (args := [.ref 7001 0, I n]) rfl (Zbd (.inr trivial) (Zbd (.inl ⟨rfl, trivial⟩) Zdp)) (res := fun r => I r.1) ?_
    refine xQ [] [0, 1] [7001] [] trivial ?_
    refine Zat ?_
    refine Zat ?_
    by_cases h1 : n ≤ 1
    ·refine x_q [(1, .dec true)] [0, 1, 7] [7001] [_] ⟨h1, trivial⟩ ?_
     refine Zad ?_
     refine Zfl ?_
     refine xR [] [4] [7001] [I 0] [some (Zab s)] [] trivial ?_
     refine Zem ?_
     refine Zff ?_
     refine Zcz (0, s) (show (0 ≤ 0 ∧ (0 < n ∨ 0 = 0)) ∧ (Zcc s) ∧ (s.code = s.code) ∧ (s.atx + 0 ≤ s.atx ∧ s.atx ≤ s.atx + 2) ∧ (True) from ⟨(by first | omega | rfl | assumption | (dsimp only; first | omega | rfl | assumption) | (simp only [*]; done) | exact ⟨Int.emod_nonneg _ om, .inl (Int.emod_lt_of_pos _ om)⟩), (by first | omega | rfl | assumption | (dsimp only; first | omega | rfl | assumption) | (simp only [*]; done) | exact ⟨Int.emod_nonneg _ om, .inl (Int.emod_lt_of_pos _ om)⟩), (by first | omega | rfl | assumption | (dsimp only; first | omega | rfl | assumption) | (simp only [*]; done) | exact ⟨Int.emod_nonneg _ om, .inl (Int.emod_lt_of_pos _ om)⟩), (by first | omega | rfl | assumption | (dsimp only; first | omega | rfl | assumption) | (simp only [*]; done) | exact ⟨Int.emod_nonneg _ om, .inl (Int.emod_lt_of_pos _ om)⟩), trivial⟩) (⟨.inl rfl, trivial⟩) (I 0) (by kernel_rfl) (.inl rfl) (fun _ => rfl) (fun _ => trivial)
    refine x_q [(1, .dec false)] [0, 1, 7] [7001] [_] ⟨h1, trivial⟩ ?_
    refine Zad ?_
    refine Zkr ?_
    refine Zbv ?_
    refine Zad ?_
    refine Zat ?_
    obtain ⟨v_1, s'_1, hx1_0, hx1_1, hx1_2, hx1_3, hc1⟩ := Yje s (by first | assumption | (simp only [Zcc] at *; simp_all; done)) om
    refine x_q [(1, .lend [(7001, Zab s, Zab s'_1)] [] [(true, .any)] true (I v_1))] [0, 1, 5] [7001] [Zbb Tryz.prog 29 [.ref 7001 0] (Zaf [(7001, Zab s)]) true (I v_1) (Zaf [(7001, Zab s'_1)]) ∧ (((Zab s : Ob) = Zab s ∨ Zhk Zgd true (Zab s) (Zab s)) ∧ Zbc false (Zab s)) ∧ True] ⟨⟨hc1, ⟨.inl rfl, (by simp [Zbc, Zag, Zaj, Zfc])⟩, trivial⟩, trivial⟩ ?_
    refine Zad ?_
    refine Zat ?_
    refine Zat ?_
    by_cases h2 : 200 < n
    ·refine x_q [(1, .dec true)] [0, 1, 5, 11] [7001] [_] ⟨h2, trivial⟩ ?_
     refine Zad ?_
     refine Zfl ?_
     obtain ⟨v_2, s'_2, hx2_0, hx2_1, hx2_2, hx2_3, hc2⟩ := Yje s'_1 (by first | assumption | (simp only [Zcc] at *; simp_all; done)) om
     refine x_q [(3, .lend [(7001, Zab s'_1, Zab s'_2)] [] [(true, .any)] true (I v_2))] [1, 5] [7001] [inR .i64 (v_1 * 256), Zbb Tryz.prog 29 [.ref 7001 0] (Zaf [(7001, Zab s'_1)]) true (I v_2) (Zaf [(7001, Zab s'_2)]) ∧ (((Zab s'_1 : Ob) = Zab s'_1 ∨ Zhk Zgd true (Zab s'_1) (Zab s'_1)) ∧ Zbc false (Zab s'_1)) ∧ True, inR .i64 ((v_1 * 256) + v_2)] ⟨(Zac om om), ⟨hc2, ⟨.inl rfl, (by simp [Zbc, Zag, Zaj, Zfc])⟩, trivial⟩, (Zac om om), trivial⟩ ?_
     refine Zad ?_
     refine xR [(2, .nn)] [4] [7001] [I (((v_1 * 256) + v_2) % n)] [some (Zab s'_2)] [(0 : Int) ≤ ((v_1 * 256) + v_2) ∧ (0 : Int) < n] ⟨⟨om, om⟩, trivial⟩ ?_
     refine Zem ?_
     refine Zcz ((((v_1 * 256) + v_2) % n), s'_2) (show (0 ≤ (((v_1 * 256) + v_2) % n) ∧ ((((v_1 * 256) + v_2) % n) < n ∨ (((v_1 * 256) + v_2) % n) = 0)) ∧ (Zcc s'_2) ∧ (s'_2.code = s.code) ∧ (s.atx + 0 ≤ s'_2.atx ∧ s'_2.atx ≤ s.atx + 2) ∧ (True) from ⟨(by first | omega | rfl | assumption | (dsimp only; first | omega | rfl | assumption) | (simp only [*]; done) | exact ⟨Int.emod_nonneg _ om, .inl (Int.emod_lt_of_pos _ om)⟩), (by first | omega | rfl | assumption | (dsimp only; first | omega | rfl | assumption) | (simp only [*]; done) | exact ⟨Int.emod_nonneg _ om, .inl (Int.emod_lt_of_pos _ om)⟩), (by first | omega | rfl | assumption | (dsimp only; first | omega | rfl | assumption) | (simp only [*]; done) | exact ⟨Int.emod_nonneg _ om, .inl (Int.emod_lt_of_pos _ om)⟩), (by first | omega | rfl | assumption | (dsimp only; first | omega | rfl | assumption) | (simp only [*]; done) | exact ⟨Int.emod_nonneg _ om, .inl (Int.emod_lt_of_pos _ om)⟩), trivial⟩) (⟨.inl rfl, trivial⟩) (I (((v_1 * 256) + v_2) % n)) (by kernel_rfl) (.inl rfl) (fun _ => rfl) (fun _ => trivial)
    refine x_q [(1, .dec false)] [0, 1, 5, 11] [7001] [_] ⟨h2, trivial⟩ ?_
    refine Zad ?_
    refine Zkr ?_
    refine Zbv ?_
    refine Zad ?_
    refine xR [(2, .nn)] [4] [7001] [I (v_1 % n)] [some (Zab s'_1)] [(0 : Int) ≤ v_1 ∧ (0 : Int) < n] ⟨⟨om, om⟩, trivial⟩ ?_
    refine Zem ?_
    refine Zcz ((v_1 % n), s'_1) (show (0 ≤ (v_1 % n) ∧ ((v_1 % n) < n ∨ (v_1 % n) = 0)) ∧ (Zcc s'_1) ∧ (s'_1.code = s.code) ∧ (s.atx + 0 ≤ s'_1.atx ∧ s'_1.atx ≤ s.atx + 2) ∧ (True) from ⟨(by first | omega | rfl | assumption | (dsimp only; first | omega | rfl | assumption) | (simp only [*]; done) | exact ⟨Int.emod_nonneg _ om, .inl (Int.emod_lt_of_pos _ om)⟩), (by first | omega | rfl | assumption | (dsimp only; first | omega | rfl | assumption) | (simp only [*]; done) | exact ⟨Int.emod_nonneg _ om, .inl (Int.emod_lt_of_pos _ om)⟩), (by first | omega | rfl | assumption | (dsimp only; first | omega | rfl | assumption) | (simp only [*]; done) | exact ⟨Int.emod_nonneg _ om, .inl (Int.emod_lt_of_pos _ om)⟩), (by first | omega | rfl | assumption | (dsimp only; first | omega | rfl | assumption) | (simp only [*]; done) | exact ⟨Int.emod_nonneg _ om, .inl (Int.emod_lt_of_pos _ om)⟩), trivial⟩) (⟨.inl rfl, trivial⟩) (I (v_1 % n)) (by kernel_rfl) (.inl rfl) (fun _ => rfl) (fun _ => trivial)
  obtain ⟨⟨v, s'⟩, ⟨hh0, hh1, hh2, hh3, _⟩, hc⟩ := hh
  exact ⟨v, s', hh0, hh1, hh2, hh3, hc⟩
theorem Zfp (a : Int) (b : Int) : Con Tryz.prog 106 [I a, I b] true (I (min a b)) := by
  refine Zbu (fn := Tryz.f106) (nt := 10) Tryz.func106 rfl rfl rfl rfl (by simp [Zag, Zaj]) fun B hB => ?_
  refine aQ [] [0, 1] [] [] hB trivial ?_
  refine Zah ?_
  refine Zah ?_
  by_cases h1 : a < b
  ·refine Zbm [(2, .dec true)] [0, 1, 7] [] [_] hB ⟨h1, trivial⟩ ?_
   refine Zaa ?_
   refine Zbq ?_
   refine aR [] [4] [] [I a] [] [] hB trivial ?_
   refine Zam ?_
   refine Zak ?_
   refine Zan hB (I a) (by kernel_rfl) (.inl (by refine congrArg I ?_; omega)) rfl (fun _ => trivial)
  refine Zbm [(2, .dec false)] [0, 1, 7] [] [_] hB ⟨h1, trivial⟩ ?_
  refine Zaa ?_
  refine Zbj ?_
  refine Zas ?_
  refine Zaa ?_
  refine aR [] [4] [] [I b] [] [] hB trivial ?_
  refine Zam ?_
  refine Zan hB (I b) (by kernel_rfl) (.inl (by refine congrArg I ?_; omega)) rfl (fun _ => trivial)
theorem Zhx (a : Int) (b : Int) : Con Tryz.prog 107 [I a, I b] true (I (max a b)) := by
  refine Zbu (fn := Tryz.f107) (nt := 10) Tryz.func107 rfl rfl rfl rfl (by simp [Zag, Zaj]) fun B hB => ?_
  refine aQ [] [0, 1] [] [] hB trivial ?_
  refine Zah ?_
  refine Zah ?_
  by_cases h1 : b < a
  ·refine Zbm [(2, .dec true)] [0, 1, 7] [] [_] hB ⟨h1, trivial⟩ ?_
   refine Zaa ?_
   refine Zbq ?_
   refine aR [] [4] [] [I a] [] [] hB trivial ?_
   refine Zam ?_
   refine Zak ?_
   refine Zan hB (I a) (by kernel_rfl) (.inl (by refine congrArg I ?_; omega)) rfl (fun _ => trivial)
  refine Zbm [(2, .dec false)] [0, 1, 7] [] [_] hB ⟨h1, trivial⟩ ?_
  refine Zaa ?_
  refine Zbj ?_
  refine Zas ?_
  refine Zaa ?_
  refine aR [] [4] [] [I b] [] [] hB trivial ?_
  refine Zam ?_
  refine Zan hB (I b) (by kernel_rfl) (.inl (by refine congrArg I ?_; omega)) rfl (fun _ => trivial)
theorem one_ok (s : l00Src) (n : Int) (hs : Zcc s) (ha : s.atx ≤ 3999999999999999980) : ∃ (v : Bool) (s' : l00Src), (Zcc s') ∧ (s'.code = s.code) ∧ (s.atx + 0 ≤ s'.atx ∧ s'.atx ≤ s.atx + 2) ∧ Zbb Tryz.prog 31 [.ref 7001 0, I n] (Zaf [(7001, Zab s)]) true (Bv v) (Zaf [(7001, Zab s')]) := by
 have hh : ∃ r : Bool × l00Src, ((Zcc r.2) ∧ (r.2.code = s.code) ∧ (s.atx + 0 ≤ r.2.atx ∧ r.2.atx ≤ s.atx + 2) ∧ (True)) ∧ Zbb Tryz.prog 31 [.ref 7001 0, I n] (Zaf [(7001, Zab s)]) true (Bv r.1) (Zaf [(7001, Zab r.2)]) := by
  refine Zdv (Φ := fun r : Bool × l00Src => (Zcc r.2) ∧ (r.2.code = s.code) ∧ (s.atx + 0 ≤ r.2.atx ∧ r.2.atx ≤ s.atx + 2) ∧ (True)) [(7001, Zab s)] (fun r => [(7001, Zab r.2)]) (fn := Tryz.f31) (nt := 9) Tryz.func31 rfl rfl (args := [.ref 7001 0, I n]) rfl (Zbd (.inr trivial) (Zbd (.inl ⟨rfl, trivial⟩) Zdp)) (res := fun r => Bv r.1) ?_
  refine xQ [] [0, 1] [7001] [] trivial ?_
  refine Zat ?_
  obtain ⟨v_1, s'_1, hx1_0, hx1_1, hx1_2, hx1_3, hc1⟩ := Zel s n (by first | assumption | (simp only [Zcc] at *; simp_all; done)) om
  refine x_r [(2, .lend [(7001, Zab s, Zab s'_1)] [] [(true, .any), (true, .any)] true (I v_1))] [4] [7001] [Bv (decide (v_1 = 0))] [some (Zab s'_1)] [Zbb Tryz.prog 12 [.ref 7001 0, I n] (Zaf [(7001, Zab s)]) true (I v_1) (Zaf [(7001, Zab s'_1)]) ∧ (((Zab s : Ob) = Zab s ∨ Zhk Zgd true (Zab s) (Zab s)) ∧ Zbc false (Zab s)) ∧ True] ⟨⟨hc1, ⟨.inl rfl, (by simp [Zbc, Zag, Zaj, Zfc])⟩, trivial⟩, trivial⟩ ?_
  refine Zad ?_
  refine Zem ?_
  refine Zcz (decide (v_1 = 0), s'_1) (show (Zcc s'_1) ∧ (s'_1.code = s.code) ∧ (s.atx + 0 ≤ s'_1.atx ∧ s'_1.atx ≤ s.atx + 2) ∧ (True) from ⟨(by first | omega | rfl | assumption | (dsimp only; first | omega | rfl | assumption) | (simp only [*]; done) | (simp_all; done)), (by first | omega | rfl | assumption | (dsimp only; first | omega | rfl | assumption) | (simp only [*]; done) | (simp_all; done)), (by first | omega | rfl | assumption | (dsimp only; first | omega | rfl | assumption) | (simp only [*]; done) | (simp_all; done)), trivial⟩) (⟨.inl rfl, trivial⟩) (Bv (decide (v_1 = 0))) (by kernel_rfl) (.inl rfl) (fun _ => rfl) (fun _ => trivial)
 obtain ⟨⟨v, s'⟩, ⟨hh0, hh1, hh2, _⟩, hc⟩ := hh
 exact ⟨v, s', hh0, hh1, hh2, hc⟩
def inB (a l h : Int) : Bool := decide (l ≤ a ∧ a ≤ h)
theorem Zjk {a l h : Int} : inB a l h = true ↔ l ≤ a ∧ a ≤ h := by simp [inB]
theorem Yiq (s : ByteArray) (i : Nat) : 0 ≤ bAt s i ∧ bAt s i ≤ 255 := by
 unfold bAt
 have := (s.data.toList.getD i 0).toNat_lt
 omega
def okP (p : Point) : Bool := inB p.X 0 4095 && (inB p.Y 0 4095 && inB p.T 0 3600000)
theorem Zfi {p : Point} : okP p = true ↔ (0 ≤ p.X ∧ p.X ≤ 4095) ∧ (0 ≤ p.Y ∧ p.Y ≤ 4095) ∧ (0 ≤ p.T ∧ p.T ≤ 3600000) := by simp [okP, inB, and_assoc]
def Zsu (xs : List Point) (j : Nat) : Bool := okP (at_ xs j) && (decide (j = 0) || decide ((at_ xs (j - 1)).T < (at_ xs j).T))
def Zar (s : Stroke) : Bool := decide (1 ≤ (s.Points.length : Int) ∧ (s.Points.length : Int) ≤ 60) && Znc s.Points.length (Zsu s.Points)
theorem Yhw {xs : List Point} {i : Int} (hi : 0 < i) (h : (at_ xs i.toNat).T ≤ (at_ xs (i - 1).toNat).T) : Zsu xs i.toNat = false := by
 have e : (i - 1).toNat = i.toNat - 1 := by omega
 rw [e] at h
 have : ¬ i.toNat = 0 := by omega
 simp [Zsu, this]; intro _; omega
theorem Ycp {xs : List Point} {j : Nat} (h : okP (at_ xs j) = false) : Zsu xs j = false := by simp [Zsu, h]
theorem Yco {xs : List Point} {i : Int} (h1 : okP (at_ xs i.toNat) = true) (hi : 0 < i) (h : ¬ (at_ xs i.toNat).T ≤ (at_ xs (i - 1).toNat).T) : Zsu xs i.toNat = true := by
 have e : (i - 1).toNat = i.toNat - 1 := by omega
 rw [e] at h
 simp [Zsu, h1]; right; omega
theorem Zxt {xs : List Point} {i : Int} (h1 : okP (at_ xs i.toNat) = true) (h0 : 0 ≤ i) (hi : ¬ 0 < i) : Zsu xs i.toNat = true := by
 have : i.toNat = 0 := by omega
 simp [Zsu, this] at h1 ⊢; exact h1
theorem Zig {s : Stroke} (h : Zar s = true) {j : Nat} (hj : j < s.Points.length) : okP (at_ s.Points j) = true := by
 simp only [Zar, Bool.and_eq_true] at h
 have := Zlb h.2 hj
 simp only [Zsu, Bool.and_eq_true] at this
 exact this.1
theorem okS_T {s : Stroke} (h : Zar s = true) {j : Nat} (hj : j < s.Points.length) (h0 : 0 < j) : (at_ s.Points (j - 1)).T < (at_ s.Points j).T := by
 simp only [Zar, Bool.and_eq_true] at h
 have := Zlb h.2 hj
 simp only [Zsu, Bool.and_eq_true, Bool.or_eq_true, decide_eq_true_eq] at this
 omega
theorem Zeo {s : Stroke} (h : Zar s = true) : 1 ≤ (s.Points.length : Int) ∧ (s.Points.length : Int) ≤ 60 := by
 simp only [Zar, Bool.and_eq_true, decide_eq_true_eq] at h
 exact h.1
def Zrz (s : Stroke) : Int := (at_ s.Points (s.Points.length - 1)).T
def Zok (xs : List Stroke) (j : Nat) : Bool := Zar (at_ xs j) && (decide (j = 0) || decide (Zrz (at_ xs (j - 1)) < (at_ (at_ xs j).Points 0).T))
def Zbp (x : Ink) : Bool := decide ((x.Strokes.length : Int) ≤ 16) && Znc x.Strokes.length (Zok x.Strokes)
theorem Yav {xs : List Stroke} {j : Nat} (h : Zar (at_ xs j) = false) : Zok xs j = false := by simp [Zok, h]
theorem Yez {xs : List Stroke} {i : Int} (hi : 0 < i) (h : (at_ (at_ xs i.toNat).Points 0).T ≤ (at_ (at_ xs (i - 1).toNat).Points ((at_ xs (i - 1).toNat).Points.length - 1)).T) : Zok xs i.toNat = false := by
 have e : (i - 1).toNat = i.toNat - 1 := by omega
 rw [e] at h
 have : ¬ i.toNat = 0 := by omega
 unfold Zok Zrz; simp [this]; intro _; omega
theorem Yau {xs : List Stroke} {i : Int} (h1 : Zar (at_ xs i.toNat) = true) (hi : 0 < i) (h : ¬ (at_ (at_ xs i.toNat).Points 0).T ≤ (at_ (at_ xs (i - 1).toNat).Points ((at_ xs (i - 1).toNat).Points.length - 1)).T) : Zok xs i.toNat = true := by
 have e : (i - 1).toNat = i.toNat - 1 := by omega
 rw [e] at h
 unfold Zok Zrz; simp [h1]; right; omega
theorem Zvw {xs : List Stroke} {i : Int} (h1 : Zar (at_ xs i.toNat) = true) (h0 : 0 ≤ i) (hi : ¬ 0 < i) : Zok xs i.toNat = true := by
 have : i.toNat = 0 := by omega
 simp [Zok, this] at h1 ⊢; exact h1
theorem Zlm {xs : List Stroke} {j : Nat} (h : Zok xs j = true) : Zar (at_ xs j) = true := by
 simp only [Zok, Bool.and_eq_true] at h; exact h.1
theorem Zdc {x : Ink} (h : Zbp x = true) : ∀ j, j < x.Strokes.length → Zar (at_ x.Strokes j) = true := by
 simp only [Zbp, Bool.and_eq_true] at h
 exact fun j hj => Zlm (Zlb h.2 hj)
theorem Yia {x : Ink} (h : Zbp x = true) : ∀ s ∈ x.Strokes, Zar s = true := by
 intro s hs
 obtain ⟨j, hj, e⟩ := List.getElem_of_mem hs
 have := Zdc h j hj
 simpa [at_, hj, e] using this
theorem Zgp {x : Ink} (h : Zbp x = true) : (x.Strokes.length : Int) ≤ 16 := by
 simp only [Zbp, Bool.and_eq_true, decide_eq_true_eq] at h
 exact h.1
theorem last_mem {α : Type} [Inhabited α] {xs : List α} (h : 1 ≤ xs.length) : at_ xs (xs.length - 1) ∈ xs := Zdf om
theorem Zjv {α : Type} {P : α → Prop} {xs : List α} {x : α} (h : ∀ y ∈ xs, P y) (hx : P x) : ∀ y ∈ xs ++ [x], P y := by
 intro y hy
 rcases List.mem_append.1 hy with h1 | h1
 ·exact h y h1
 ·simp at h1; subst h1; exact hx
theorem Ztb {pts : List Point} (h1 : 1 ≤ (pts.length : Int)) (h2 : (pts.length : Int) ≤ 60) (hp : ∀ p ∈ pts, okP p = true) (hw : pts.Pairwise fun p q => p.T < q.T) : Zar ⟨pts⟩ = true := by
 simp only [Zar, Bool.and_eq_true, decide_eq_true_eq]
 refine ⟨⟨h1, h2⟩, Zit fun j hj => ?_⟩
 simp only [Zsu, Bool.and_eq_true, Bool.or_eq_true, decide_eq_true_eq]
 refine ⟨hp _ (Zdf hj), ?_⟩
 by_cases e : j = 0
 ·exact .inl e
 ·right
  have := List.pairwise_iff_getElem.1 hw (j - 1) j om hj om
  rw [Zej om, Zej hj]; exact this
def dpts (pts : List Point) (t : Int) : Prop := (∀ p ∈ pts, p.T < t) ∧ pts.Pairwise fun p q => p.T < q.T
theorem dpts_nil (t : Int) : dpts [] t := ⟨fun _ h => by simp at h, .nil⟩
theorem Zyl {pts : List Point} {p : Point} {t t' : Int} (h : dpts pts t) (e : p.T = t) (ht : t < t') : dpts (pts ++ [p]) t' := by
 refine ⟨Zjv (fun q hq => Int.lt_trans (h.1 q hq) ht) om, ?_⟩
 rw [List.pairwise_append]
 refine ⟨h.2, List.pairwise_singleton _ _, fun q hq r hr => ?_⟩
 simp at hr; subst hr; rw [e]; exact h.1 q hq
def inkD (ss : List Stroke) (t : Int) : Prop := Zbp ⟨ss⟩ = true ∧ ∀ s ∈ ss, Zrz s < t
theorem inkD_nil (t : Int) : inkD [] t := ⟨rfl, fun _ h => by simp at h⟩
theorem Yjf {ss : List Stroke} {s : Stroke} {t t' : Int} (h : inkD ss t) (hs : Zar s = true) (hf : ∀ p ∈ s.Points, t ≤ p.T) (hl : Zrz s < t') (ht : t ≤ t') (hn : ss.length ≤ 15) : inkD (ss ++ [s]) t' := by
 obtain ⟨h1, h2⟩ := h
 refine ⟨?_, Zjv (fun q hq => Int.lt_of_lt_of_le (h2 q hq) ht) hl⟩
 simp only [Zbp, Bool.and_eq_true, decide_eq_true_eq] at h1 ⊢
 refine ⟨by simp; omega, Zit fun j hj => ?_⟩
 simp only [List.length_append, List.length_cons, List.length_nil] at hj
 have e1 : ∀ k, k < ss.length → at_ (ss ++ [s]) k = at_ ss k := fun k hk => by simp [at_, List.getElem?_append_left hk]
 by_cases e : j < ss.length
 ·have := Zlb h1.2 e
  simp only [Zok] at this ⊢
  rw [e1 j e, e1 (j - 1) om]; exact this
 ·have ej : j = ss.length := by omega
  subst ej
  have e2 : at_ (ss ++ [s]) ss.length = s := by simp [at_]
  simp only [Zok, e2, hs, Bool.true_and, Bool.or_eq_true, decide_eq_true_eq]
  by_cases h0 : ss.length = 0
  ·exact .inl h0
  ·right
   rw [e1 _ om]
   have q1 := h2 _ (Zdf (xs := ss) (i := ss.length - 1) om)
   have hln := Zeo hs
   have q2 := hf _ (Zdf (xs := s.Points) (i := 0) om)
   omega
theorem Zot (s : l00Src) (time : Int) (px : Int) (py : Int) (hs : Zcc s) (ha : s.atx ≤ 3999999999999999600) (ht : 0 ≤ time ∧ time ≤ 100000 ∧ 0 ≤ px ∧ px ≤ 100000 ∧ 0 ≤ py ∧ py ≤ 100000) : ∃ (s' : l00Src) (pts : List Point), (Zcc s') ∧ (s'.code = s.code) ∧ (s.atx + 0 ≤ s'.atx ∧ s'.atx ≤ s.atx + 200) ∧ (1 ≤ pts.length ∧ pts.length ≤ 10) ∧ (∀ p ∈ pts, time ≤ p.T ∧ p.T ≤ time + 210) ∧ (px ≤ 4095 ∧ py ≤ 4095 → Zar ⟨pts⟩ = true) ∧ Zbb Tryz.prog 67 [.ref 7001 0, I time, I px, I py] (Zaf [(7001, Zab s)]) false (.agg [.arr 8001]) (Zaf [(7001, Zab s'), (8001, Zdd pts)]) := by
  have hh : ∃ r : l00Src × (List Point), ((Zcc r.1) ∧ (r.1.code = s.code) ∧ (s.atx + 0 ≤ r.1.atx ∧ r.1.atx ≤ s.atx + 200) ∧ (1 ≤ r.2.length ∧ r.2.length ≤ 10) ∧ (∀ p ∈ r.2, time ≤ p.T ∧ p.T ≤ time + 210) ∧ (px ≤ 4095 ∧ py ≤ 4095 → Zar ⟨r.2⟩ = true) ∧ (True)) ∧ Zbb Tryz.prog 67 [.ref 7001 0, I time, I px, I py] (Zaf [(7001, Zab s)]) false (.agg [.arr 8001]) (Zaf [(7001, Zab r.1), (8001, Zdd r.2)]) := by
    refine Zdv (Φ := fun r : l00Src × (List Point) => (Zcc r.1) ∧ (r.1.code = s.code) ∧ (s.atx + 0 ≤ r.1.atx ∧ r.1.atx ≤ s.atx + 200) ∧ (1 ≤ r.2.length ∧ r.2.length ≤ 10) ∧ (∀ p ∈ r.2, time ≤ p.T ∧ p.T ≤ time + 210) ∧ (px ≤ 4095 ∧ py ≤ 4095 → Zar ⟨r.2⟩ = true) ∧ (True)) [(7001, Zab s)] (fun r => [(7001, Zab r.1), (8001, Zdd r.2)]) (fn := Tryz.f67) (nt := 68) Tryz.func67 rfl rfl (args := [.ref 7001 0, I time, I px, I py]) rfl (Zbd (.inr trivial) (Zbd (.inl ⟨rfl, trivial⟩) (Zbd (.inl ⟨rfl, trivial⟩) (Zbd (.inl ⟨rfl, trivial⟩) Zdp)))) (res := fun r => .agg [.arr 8001]) ?_
    refine xQ [(0, .new 8)] [0, 1, 2, 3, 8] [8, 7001] [] trivial ?_
    refine xQ [(1, .new 9)] [0, 1, 2, 3, 8, 9] [8, 9, 7001] [] trivial ?_
    refine Zat ?_
    obtain ⟨v_1, s'_1, hx1_0, hx1_1, hx1_2, hx1_3, hc1⟩ := Zel s 60 (by first | assumption | (simp only [Zcc] at *; simp_all; done)) om
    refine x_q [(1, .lend [(7001, Zab s, Zab s'_1)] [] [(true, .any), (true, .any)] true (I v_1))] [0, 1, 2, 3, 8, 9, 10] [8, 9, 7001] [Zbb Tryz.prog 12 [.ref 7001 0, I 60] (Zaf [(7001, Zab s)]) true (I v_1) (Zaf [(7001, Zab s'_1)]) ∧ (((Zab s : Ob) = Zab s ∨ Zhk Zgd true (Zab s) (Zab s)) ∧ Zbc false (Zab s)) ∧ True, inR .i64 (v_1 - 20)] ⟨⟨hc1, ⟨.inl rfl, (by simp [Zbc, Zag, Zaj, Zfc])⟩, trivial⟩, (Zac om om), trivial⟩ ?_
    refine Zad ?_
    refine Zat ?_
    obtain ⟨v_2, s'_2, hx2_0, hx2_1, hx2_2, hx2_3, hc2⟩ := Zel s'_1 60 (by first | assumption | (simp only [Zcc] at *; simp_all; done)) om
    refine x_q [(1, .lend [(7001, Zab s'_1, Zab s'_2)] [] [(true, .any), (true, .any)] true (I v_2))] [0, 1, 2, 3, 8, 9, 10, 11] [8, 9, 7001] [Zbb Tryz.prog 12 [.ref 7001 0, I 60] (Zaf [(7001, Zab s'_1)]) true (I v_2) (Zaf [(7001, Zab s'_2)]) ∧ (((Zab s'_1 : Ob) = Zab s'_1 ∨ Zhk Zgd true (Zab s'_1) (Zab s'_1)) ∧ Zbc false (Zab s'_1)) ∧ True, inR .i64 (v_2 - 30)] ⟨⟨hc2, ⟨.inl rfl, (by simp [Zbc, Zag, Zaj, Zfc])⟩, trivial⟩, (Zac om om), trivial⟩ ?_
    refine Zad ?_
    refine Zat ?_
    refine Zat ?_
    obtain ⟨v_3, s'_3, hx3_0, hx3_1, hx3_2, hx3_3, hc3⟩ := Zel s'_2 10 (by first | assumption | (simp only [Zcc] at *; simp_all; done)) om
    refine x_r [(1, .lend [(7001, Zab s'_2, Zab s'_3)] [] [(true, .any), (true, .any)] true (I v_3))] [0, 1, 2, 3, 8, 9, 10, 11, 12] [8, 9, 7001] [.ref 7001 0, I time, I px, I py, .ref 8 0, .ref 9 0, I (v_1 - 20), I (v_2 - 30), I (1 + v_3)] [some (.box [Zcr]), some (.box [Zcr]), some (Zab s'_3)] [Zbb Tryz.prog 12 [.ref 7001 0, I 10] (Zaf [(7001, Zab s'_2)]) true (I v_3) (Zaf [(7001, Zab s'_3)]) ∧ (((Zab s'_2 : Ob) = Zab s'_2 ∨ Zhk Zgd true (Zab s'_2) (Zab s'_2)) ∧ Zbc false (Zab s'_2)) ∧ True, inR .i64 (1 + v_3)] ⟨⟨hc3, ⟨.inl rfl, (by simp [Zbc, Zag, Zaj, Zfc])⟩, trivial⟩, (Zac om om), trivial⟩ ?_
    refine Zad ?_
    refine Zbn ?_
    refine Zmk 9 0 790 3 (fun _ => []) rfl (by kernel_rfl) ?_
    refine Zcw [] (T := [(0, .ref 7001 0), (1, I time), (2, I px), (3, I py), (8, .ref 8 0), (9, .ref 9 0), (10, I (v_1 - 20)), (11, I (v_2 - 30)), (12, I (1 + v_3))]) (O := [(8, .box [Zcr]), (9, .box [.arr 790]), (790, Zdd ([] : List Point)), (7001, Zab s'_3)]) rfl (⟨.inl rfl, .inl rfl, .inl rfl, .inl rfl, .inl rfl, .inl rfl, .inl rfl, .inl rfl, .inl rfl, trivial⟩) (⟨.inl rfl, .inl rfl, .inr ⟨rfl, (by first | rfl | (simp; done) | (simp; omega) | omega), fun i_ hi_ => absurd hi_ (Nat.not_lt_zero _)⟩, .inl rfl, trivial⟩) ?_
    refine Zeb (X := Int × Int × Int × Int × Int × Int × (List Point) × l00Src) (fun x => mkS [(0, .ref 7001 0), (1, I x.1), (2, I x.2.1), (3, I x.2.2.1), (8, .ref 8 0), (9, .ref 9 0), (10, I x.2.2.2.1), (11, I x.2.2.2.2.1), (12, I x.2.2.2.2.2.1)] [(8, .box [Zcr]), (9, .box [.arr 790]), (790, Zdd x.2.2.2.2.2.2.1), (7001, Zab x.2.2.2.2.2.2.2)]) (fun x => (Zcc x.2.2.2.2.2.2.2 ∧ x.2.2.2.2.2.2.2.code = s.code ∧ s.atx ≤ x.2.2.2.2.2.2.2.atx ∧ x.2.2.2.2.2.2.2.atx ≤ s.atx + 6 + 12 * (10 - x.2.2.2.2.2.1)) ∧ (0 ≤ x.2.2.2.2.2.1 ∧ x.2.2.2.2.2.1 ≤ 10) ∧ ((x.2.2.2.2.2.2.1.length : Int) + x.2.2.2.2.2.1 ≤ 10 ∧ 1 ≤ (x.2.2.2.2.2.2.1.length : Int) + x.2.2.2.2.2.1) ∧ (time ≤ x.1 ∧ x.1 ≤ time + 21 * (10 - x.2.2.2.2.2.1)) ∧ (∀ p ∈ x.2.2.2.2.2.2.1, time ≤ p.T ∧ p.T ≤ time + 210) ∧ (0 ≤ x.2.1 ∧ x.2.1 ≤ 100000 ∧ 0 ≤ x.2.2.1 ∧ x.2.2.1 ≤ 100000) ∧ (-40 ≤ x.2.2.2.1 ∧ x.2.2.2.1 ≤ 60 ∧ -40 ≤ x.2.2.2.2.1 ∧ x.2.2.2.2.1 ≤ 60) ∧ (dpts x.2.2.2.2.2.2.1 x.1) ∧ (px ≤ 4095 ∧ py ≤ 4095 → (x.2.1 ≤ 4095 ∧ x.2.2.1 ≤ 4095) ∧ ∀ p ∈ x.2.2.2.2.2.2.1, okP p = true) ∧ True) (fun x => x.2.2.2.2.2.1.toNat) (time, px, py, (v_1 - 20), (v_2 - 30), (1 + v_3), ([] : List Point), s'_3) rfl (show (Zcc s'_3 ∧ s'_3.code = s.code ∧ s.atx ≤ s'_3.atx ∧ s'_3.atx ≤ s.atx + 6 + 12 * (10 - (1 + v_3))) ∧ (0 ≤ (1 + v_3) ∧ (1 + v_3) ≤ 10) ∧ ((([] : List Point).length : Int) + (1 + v_3) ≤ 10 ∧ 1 ≤ (([] : List Point).length : Int) + (1 + v_3)) ∧ (time ≤ time ∧ time ≤ time + 21 * (10 - (1 + v_3))) ∧ (∀ p ∈ ([] : List Point), time ≤ p.T ∧ p.T ≤ time + 210) ∧ (0 ≤ px ∧ px ≤ 100000 ∧ 0 ≤ py ∧ py ≤ 100000) ∧ (-40 ≤ (v_1 - 20) ∧ (v_1 - 20) ≤ 60 ∧ -40 ≤ (v_2 - 30) ∧ (v_2 - 30) ≤ 60) ∧ (dpts ([] : List Point) time) ∧ (px ≤ 4095 ∧ py ≤ 4095 → (px ≤ 4095 ∧ py ≤ 4095) ∧ ∀ p ∈ ([] : List Point), okP p = true) ∧ True from ⟨(by exact ⟨by assumption, by first | assumption | rfl | (simp only [*]; done), by omega, by omega⟩), om, (by simp; omega), om, (by (intro z hz; simp at hz)), om, om, (by exact dpts_nil _), (by exact fun q => ⟨q, fun p hp => by simp at hp⟩), trivial⟩) (fun x hI => ?_)
    obtain ⟨time', x', y', dx, dy, k, pts, src⟩ := x
    obtain ⟨hs0, hk0, hl0, ht0, hp0, hx0, hd0, hdp, hok, _⟩ : (Zcc src ∧ src.code = s.code ∧ s.atx ≤ src.atx ∧ src.atx ≤ s.atx + 6 + 12 * (10 - k)) ∧ (0 ≤ k ∧ k ≤ 10) ∧ ((pts.length : Int) + k ≤ 10 ∧ 1 ≤ (pts.length : Int) + k) ∧ (time ≤ time' ∧ time' ≤ time + 21 * (10 - k)) ∧ (∀ p ∈ pts, time ≤ p.T ∧ p.T ≤ time + 210) ∧ (0 ≤ x' ∧ x' ≤ 100000 ∧ 0 ≤ y' ∧ y' ≤ 100000) ∧ (-40 ≤ dx ∧ dx ≤ 60 ∧ -40 ≤ dy ∧ dy ≤ 60) ∧ (dpts pts time') ∧ (px ≤ 4095 ∧ py ≤ 4095 → (x' ≤ 4095 ∧ y' ≤ 4095) ∧ ∀ p ∈ pts, okP p = true) ∧ True := hI
    show XW _ _ _ _ (mkS [(0, .ref 7001 0), (1, I time'), (2, I x'), (3, I y'), (8, .ref 8 0), (9, .ref 9 0), (10, I dx), (11, I dy), (12, I k)] [(8, .box [Zcr]), (9, .box [.arr 790]), (790, Zdd pts), (7001, Zab src)]) _ _
    refine Zat ?_
    refine Zat ?_
    by_cases h1 : 0 < k
    ·refine x_q [(1, .dec true)] [0, 1, 2, 3, 8, 9, 10, 11, 12, 24] [8, 9, 790, 7001] [_] ⟨h1, trivial⟩ ?_
     refine Zad ?_
     refine Zfl ?_
     refine Zbv ?_
     refine Zad ?_
     refine Zat ?_
     refine Zbn ?_
     refine xQ [(6, .new 33), (7, .new 34)] [0, 1, 2, 3, 8, 9, 10, 11, 12] [8, 9, 34, 7001] [(pts.length + 1) * 24 ≤ 140737488355328] ⟨om, trivial⟩ ?_
     refine Zat ?_
     obtain ⟨v_4, s'_4, hx4_0, hx4_1, hx4_2, hx4_3, hc4⟩ := Zel src 20 (by first | assumption | (simp only [Zcc] at *; simp_all; done)) om
     refine x_q [(2, .lend [(7001, Zab src, Zab s'_4)] [] [(true, .any), (true, .any)] true (I v_4))] [0, 1, 2, 3, 8, 9, 10, 11, 12] [8, 9, 34, 7001] [Zbb Tryz.prog 12 [.ref 7001 0, I 20] (Zaf [(7001, Zab src)]) true (I v_4) (Zaf [(7001, Zab s'_4)]) ∧ (((Zab src : Ob) = Zab src ∨ Zhk Zgd true (Zab src) (Zab src)) ∧ Zbc false (Zab src)) ∧ True, inR .i64 (1 + v_4), inR .i64 (time' + (1 + v_4))] ⟨⟨hc4, ⟨.inl rfl, (by simp [Zbc, Zag, Zaj, Zfc])⟩, trivial⟩, (Zac om om), (Zac om om), trivial⟩ ?_
     refine Zad ?_
     refine Zat ?_
     obtain ⟨v_5, s'_5, hx5_0, hx5_1, hx5_2, hx5_3, hc5⟩ := Zel s'_4 9 (by first | assumption | (simp only [Zcc] at *; simp_all; done)) om
     refine x_q [(4, .lend [(7001, Zab s'_4, Zab s'_5)] [] [(true, .any), (true, .any)] true (I v_5)), (7, .call [(true, .any), (true, .any)] true (I (min 4095 (((x' + dx) + v_5) - 4)))), (8, .call [(true, .any), (true, .any)] true (I (max 0 (min 4095 (((x' + dx) + v_5) - 4)))))] [0, 1, 2, 3, 8, 9, 10, 11, 12] [8, 9, 34, 7001] [inR .i64 (x' + dx), Zbb Tryz.prog 12 [.ref 7001 0, I 9] (Zaf [(7001, Zab s'_4)]) true (I v_5) (Zaf [(7001, Zab s'_5)]) ∧ (((Zab s'_4 : Ob) = Zab s'_4 ∨ Zhk Zgd true (Zab s'_4) (Zab s'_4)) ∧ Zbc false (Zab s'_4)) ∧ True, inR .i64 ((x' + dx) + v_5), inR .i64 (((x' + dx) + v_5) - 4), _ ∧ True, _ ∧ True] ⟨(Zac om om), ⟨hc5, ⟨.inl rfl, (by simp [Zbc, Zag, Zaj, Zfc])⟩, trivial⟩, (Zac om om), (Zac om om), ⟨(Zfp 4095 (((x' + dx) + v_5) - 4)), trivial⟩, ⟨(Zhx 0 (min 4095 (((x' + dx) + v_5) - 4))), trivial⟩, trivial⟩ ?_
     refine Zad ?_
     refine Zat ?_
     obtain ⟨v_6, s'_6, hx6_0, hx6_1, hx6_2, hx6_3, hc6⟩ := Zel s'_5 9 (by first | assumption | (simp only [Zcc] at *; simp_all; done)) om
     refine x_q [(4, .lend [(7001, Zab s'_5, Zab s'_6)] [] [(true, .any), (true, .any)] true (I v_6)), (7, .call [(true, .any), (true, .any)] true (I (min 4095 (((y' + dy) + v_6) - 4)))), (8, .call [(true, .any), (true, .any)] true (I (max 0 (min 4095 (((y' + dy) + v_6) - 4)))))] [0, 1, 2, 3, 8, 9, 10, 11, 12] [8, 9, 34, 7001] [inR .i64 (y' + dy), Zbb Tryz.prog 12 [.ref 7001 0, I 9] (Zaf [(7001, Zab s'_5)]) true (I v_6) (Zaf [(7001, Zab s'_6)]) ∧ (((Zab s'_5 : Ob) = Zab s'_5 ∨ Zhk Zgd true (Zab s'_5) (Zab s'_5)) ∧ Zbc false (Zab s'_5)) ∧ True, inR .i64 ((y' + dy) + v_6), inR .i64 (((y' + dy) + v_6) - 4), _ ∧ True, _ ∧ True] ⟨(Zac om om), ⟨hc6, ⟨.inl rfl, (by simp [Zbc, Zag, Zaj, Zfc])⟩, trivial⟩, (Zac om om), (Zac om om), ⟨(Zfp 4095 (((y' + dy) + v_6) - 4)), trivial⟩, ⟨(Zhx 0 (min 4095 (((y' + dy) + v_6) - 4))), trivial⟩, trivial⟩ ?_
     refine Zad ?_
     refine Zat ?_
     obtain ⟨v_7, s'_7, hx7_0, hx7_1, hx7_2, hc7⟩ := one_ok s'_6 3 (by first | assumption | (simp only [Zcc] at *; simp_all; done)) om
     rcases Bool.eq_false_or_eq_true v_7 with h2 | h2
     ·subst h2
      refine x_q [(1, .lend [(7001, Zab s'_6, Zab s'_7)] [] [(true, .any), (true, .any)] true (Bv true))] [0, 1, 2, 3, 8, 9, 10, 11, 12, 60] [8, 9, 34, 7001] [Zbb Tryz.prog 31 [.ref 7001 0, I 3] (Zaf [(7001, Zab s'_6)]) true (Bv true) (Zaf [(7001, Zab s'_7)]) ∧ (((Zab s'_6 : Ob) = Zab s'_6 ∨ Zhk Zgd true (Zab s'_6) (Zab s'_6)) ∧ Zbc false (Zab s'_6)) ∧ True] ⟨⟨hc7, ⟨.inl rfl, (by simp [Zbc, Zag, Zaj, Zfc])⟩, trivial⟩, trivial⟩ ?_
      refine Zad ?_
      refine Zfl ?_
      refine Zat ?_
      obtain ⟨v_8, s'_8, hx8_0, hx8_1, hx8_2, hx8_3, hc8⟩ := Zel s'_7 80 (by first | assumption | (simp only [Zcc] at *; simp_all; done)) om
      refine x_q [(1, .lend [(7001, Zab s'_7, Zab s'_8)] [] [(true, .any), (true, .any)] true (I v_8))] [0, 1, 2, 3, 8, 9, 10, 12] [8, 9, 34, 7001] [Zbb Tryz.prog 12 [.ref 7001 0, I 80] (Zaf [(7001, Zab s'_7)]) true (I v_8) (Zaf [(7001, Zab s'_8)]) ∧ (((Zab s'_7 : Ob) = Zab s'_7 ∨ Zhk Zgd true (Zab s'_7) (Zab s'_7)) ∧ Zbc false (Zab s'_7)) ∧ True, inR .i64 (v_8 - 40)] ⟨⟨hc8, ⟨.inl rfl, (by simp [Zbc, Zag, Zaj, Zfc])⟩, trivial⟩, (Zac om om), trivial⟩ ?_
      refine Zad ?_
      obtain ⟨v_9, s'_9, hx9_0, hx9_1, hx9_2, hx9_3, hc9⟩ := Zel s'_8 80 (by first | assumption | (simp only [Zcc] at *; simp_all; done)) om
      refine x_q [(1, .lend [(7001, Zab s'_8, Zab s'_9)] [] [(true, .any), (true, .any)] true (I v_9))] [0, 1, 2, 3, 8, 9, 10, 11, 12] [8, 9, 34, 7001] [Zbb Tryz.prog 12 [.ref 7001 0, I 80] (Zaf [(7001, Zab s'_8)]) true (I v_9) (Zaf [(7001, Zab s'_9)]) ∧ (((Zab s'_8 : Ob) = Zab s'_8 ∨ Zhk Zgd true (Zab s'_8) (Zab s'_8)) ∧ Zbc false (Zab s'_8)) ∧ True, inR .i64 (v_9 - 40)] ⟨⟨hc9, ⟨.inl rfl, (by simp [Zbc, Zag, Zaj, Zfc])⟩, trivial⟩, (Zac om om), trivial⟩ ?_
      refine Zbo 1 ?_
      refine Zad ?_
      refine x_r [] [0, 1, 2, 3, 8, 9, 10, 11, 12] [8, 9, 34, 7001] [.ref 7001 0, I (time' + (1 + v_4)), I (max 0 (min 4095 (((x' + dx) + v_5) - 4))), I (max 0 (min 4095 (((y' + dy) + v_6) - 4))), .ref 8 0, .ref 9 0, I (v_8 - 40), I (v_9 - 40), I (k - 1)] [some (.box [Zcr]), some (.box [.arr 34]), some (.arr 3 (pts.length + 1) (Zgb pts.length (Zdl pts) (Zgm [I x', I y', I time'] 3))), some (Zab s'_9)] [inR .i64 (k - 1)] ⟨(Zac om om), trivial⟩ ?_
      refine Zcl [(790, 34)] (T := [(0, .ref 7001 0), (1, I (time' + (1 + v_4))), (2, I (max 0 (min 4095 (((x' + dx) + v_5) - 4)))), (3, I (max 0 (min 4095 (((y' + dy) + v_6) - 4)))), (8, .ref 8 0), (9, .ref 9 0), (10, I (v_8 - 40)), (11, I (v_9 - 40)), (12, I (k - 1))]) (O := [(8, .box [Zcr]), (9, .box [.arr 790]), (790, Zdd (pts ++ [(Point.mk x' y' time')])), (7001, Zab s'_9)]) rfl (⟨.inl rfl, .inl rfl, .inl rfl, .inl rfl, .inl rfl, .inl rfl, .inl rfl, .inl rfl, .inl rfl, trivial⟩) (⟨.inl rfl, .inl rfl, .inr ⟨rfl, (by first | rfl | (simp; done) | (simp; omega) | omega), fun i_ hi_ => .inl (Zcm (enc := Zee) (xs := pts) rfl i_ hi_)⟩, .inl rfl, trivial⟩) (Zbh ((time' + (1 + v_4)), (max 0 (min 4095 (((x' + dx) + v_5) - 4))), (max 0 (min 4095 (((y' + dy) + v_6) - 4))), (v_8 - 40), (v_9 - 40), (k - 1), (pts ++ [(Point.mk x' y' time')]), s'_9) rfl (show (Zcc s'_9 ∧ s'_9.code = s.code ∧ s.atx ≤ s'_9.atx ∧ s'_9.atx ≤ s.atx + 6 + 12 * (10 - (k - 1))) ∧ (0 ≤ (k - 1) ∧ (k - 1) ≤ 10) ∧ (((pts ++ [(Point.mk x' y' time')]).length : Int) + (k - 1) ≤ 10 ∧ 1 ≤ ((pts ++ [(Point.mk x' y' time')]).length : Int) + (k - 1)) ∧ (time ≤ (time' + (1 + v_4)) ∧ (time' + (1 + v_4)) ≤ time + 21 * (10 - (k - 1))) ∧ (∀ p ∈ (pts ++ [(Point.mk x' y' time')]), time ≤ p.T ∧ p.T ≤ time + 210) ∧ (0 ≤ (max 0 (min 4095 (((x' + dx) + v_5) - 4))) ∧ (max 0 (min 4095 (((x' + dx) + v_5) - 4))) ≤ 100000 ∧ 0 ≤ (max 0 (min 4095 (((y' + dy) + v_6) - 4))) ∧ (max 0 (min 4095 (((y' + dy) + v_6) - 4))) ≤ 100000) ∧ (-40 ≤ (v_8 - 40) ∧ (v_8 - 40) ≤ 60 ∧ -40 ≤ (v_9 - 40) ∧ (v_9 - 40) ≤ 60) ∧ (dpts (pts ++ [(Point.mk x' y' time')]) (time' + (1 + v_4))) ∧ (px ≤ 4095 ∧ py ≤ 4095 → ((max 0 (min 4095 (((x' + dx) + v_5) - 4))) ≤ 4095 ∧ (max 0 (min 4095 (((y' + dy) + v_6) - 4))) ≤ 4095) ∧ ∀ p ∈ (pts ++ [(Point.mk x' y' time')]), okP p = true) ∧ True from ⟨(by exact ⟨by assumption, by first | assumption | rfl | (simp only [*]; done), by omega, by omega⟩), om, (by simp; omega), om, (by exact Zjv hp0 (by dsimp only; omega)), om, om, (by exact Zyl hdp rfl om), (by exact fun q => ⟨by have := (hok q).1; omega, Zjv (hok q).2 (Zfi.2 ⟨by have := (hok q).1; dsimp only; omega, by have := (hok q).1; dsimp only; omega, by dsimp only; omega⟩)⟩), trivial⟩) (by first | (show ((k - 1).toNat : Nat) < k.toNat; omega) | (dsimp only; omega)))
     subst h2
     refine x_q [(1, .lend [(7001, Zab s'_6, Zab s'_7)] [] [(true, .any), (true, .any)] true (Bv false))] [0, 1, 2, 3, 8, 9, 10, 11, 12, 60] [8, 9, 34, 7001] [Zbb Tryz.prog 31 [.ref 7001 0, I 3] (Zaf [(7001, Zab s'_6)]) true (Bv false) (Zaf [(7001, Zab s'_7)]) ∧ (((Zab s'_6 : Ob) = Zab s'_6 ∨ Zhk Zgd true (Zab s'_6) (Zab s'_6)) ∧ Zbc false (Zab s'_6)) ∧ True] ⟨⟨hc7, ⟨.inl rfl, (by simp [Zbc, Zag, Zaj, Zfc])⟩, trivial⟩, trivial⟩ ?_
     refine Zad ?_
     refine Zkr ?_
     refine Zbv ?_
     refine Zbo 1 ?_
     refine Zad ?_
     refine x_r [] [0, 1, 2, 3, 8, 9, 10, 11, 12] [8, 9, 34, 7001] [.ref 7001 0, I (time' + (1 + v_4)), I (max 0 (min 4095 (((x' + dx) + v_5) - 4))), I (max 0 (min 4095 (((y' + dy) + v_6) - 4))), .ref 8 0, .ref 9 0, I dx, I dy, I (k - 1)] [some (.box [Zcr]), some (.box [.arr 34]), some (.arr 3 (pts.length + 1) (Zgb pts.length (Zdl pts) (Zgm [I x', I y', I time'] 3))), some (Zab s'_7)] [inR .i64 (k - 1)] ⟨(Zac om om), trivial⟩ ?_
     refine Zcl [(790, 34)] (T := [(0, .ref 7001 0), (1, I (time' + (1 + v_4))), (2, I (max 0 (min 4095 (((x' + dx) + v_5) - 4)))), (3, I (max 0 (min 4095 (((y' + dy) + v_6) - 4)))), (8, .ref 8 0), (9, .ref 9 0), (10, I dx), (11, I dy), (12, I (k - 1))]) (O := [(8, .box [Zcr]), (9, .box [.arr 790]), (790, Zdd (pts ++ [(Point.mk x' y' time')])), (7001, Zab s'_7)]) rfl (⟨.inl rfl, .inl rfl, .inl rfl, .inl rfl, .inl rfl, .inl rfl, .inl rfl, .inl rfl, .inl rfl, trivial⟩) (⟨.inl rfl, .inl rfl, .inr ⟨rfl, (by first | rfl | (simp; done) | (simp; omega) | omega), fun i_ hi_ => .inl (Zcm (enc := Zee) (xs := pts) rfl i_ hi_)⟩, .inl rfl, trivial⟩) (Zbh ((time' + (1 + v_4)), (max 0 (min 4095 (((x' + dx) + v_5) - 4))), (max 0 (min 4095 (((y' + dy) + v_6) - 4))), dx, dy, (k - 1), (pts ++ [(Point.mk x' y' time')]), s'_7) rfl (show (Zcc s'_7 ∧ s'_7.code = s.code ∧ s.atx ≤ s'_7.atx ∧ s'_7.atx ≤ s.atx + 6 + 12 * (10 - (k - 1))) ∧ (0 ≤ (k - 1) ∧ (k - 1) ≤ 10) ∧ (((pts ++ [(Point.mk x' y' time')]).length : Int) + (k - 1) ≤ 10 ∧ 1 ≤ ((pts ++ [(Point.mk x' y' time')]).length : Int) + (k - 1)) ∧ (time ≤ (time' + (1 + v_4)) ∧ (time' + (1 + v_4)) ≤ time + 21 * (10 - (k - 1))) ∧ (∀ p ∈ (pts ++ [(Point.mk x' y' time')]), time ≤ p.T ∧ p.T ≤ time + 210) ∧ (0 ≤ (max 0 (min 4095 (((x' + dx) + v_5) - 4))) ∧ (max 0 (min 4095 (((x' + dx) + v_5) - 4))) ≤ 100000 ∧ 0 ≤ (max 0 (min 4095 (((y' + dy) + v_6) - 4))) ∧ (max 0 (min 4095 (((y' + dy) + v_6) - 4))) ≤ 100000) ∧ (-40 ≤ dx ∧ dx ≤ 60 ∧ -40 ≤ dy ∧ dy ≤ 60) ∧ (dpts (pts ++ [(Point.mk x' y' time')]) (time' + (1 + v_4))) ∧ (px ≤ 4095 ∧ py ≤ 4095 → ((max 0 (min 4095 (((x' + dx) + v_5) - 4))) ≤ 4095 ∧ (max 0 (min 4095 (((y' + dy) + v_6) - 4))) ≤ 4095) ∧ ∀ p ∈ (pts ++ [(Point.mk x' y' time')]), okP p = true) ∧ True from ⟨(by exact ⟨by assumption, by first | assumption | rfl | (simp only [*]; done), by omega, by omega⟩), om, (by simp; omega), om, (by exact Zjv hp0 (by dsimp only; omega)), om, om, (by exact Zyl hdp rfl om), (by exact fun q => ⟨by have := (hok q).1; omega, Zjv (hok q).2 (Zfi.2 ⟨by have := (hok q).1; dsimp only; omega, by have := (hok q).1; dsimp only; omega, by dsimp only; omega⟩)⟩), trivial⟩) (by first | (show ((k - 1).toNat : Nat) < k.toNat; omega) | (dsimp only; omega)))
    refine x_r [(1, .dec false)] [0, 1, 2, 3, 8, 9, 10, 11, 12, 24] [8, 9, 790, 7001] [.ref 7001 0, I time', I x', I y', .ref 8 0, .ref 9 0, I dx, I dy, I k, Bv false] [some (.box [Zcr]), some (.box [.arr 790]), some (Zdd pts), some (Zab src)] [_] ⟨h1, trivial⟩ ?_
    refine Zad ?_
    refine Zcd rfl ?_
    refine Zde ?_
    refine Zax ?_
    refine Zbe ?_
    refine Zay ?_
    refine Zad ?_
    refine xR [] [8] [8, 790, 7001] [.ref 8 0] [some (.box [.arr 790]), some (Zdd pts), some (Zab src)] [] trivial ?_
    refine Zem ?_
    refine Zcl [(8001, 790)] (T := [(8, .ref 8 0)]) (O := [(8, .box [.arr 8001]), (7001, Zab src), (8001, Zdd pts)]) rfl (⟨.inl rfl, trivial⟩) (⟨.inl rfl, .inl rfl, .inl rfl, trivial⟩) ?_
    refine Zcz (src, pts) (show (Zcc src) ∧ (src.code = s.code) ∧ (s.atx + 0 ≤ src.atx ∧ src.atx ≤ s.atx + 200) ∧ (1 ≤ pts.length ∧ pts.length ≤ 10) ∧ (∀ p ∈ pts, time ≤ p.T ∧ p.T ≤ time + 210) ∧ (px ≤ 4095 ∧ py ≤ 4095 → Zar ⟨pts⟩ = true) ∧ (True) from ⟨(by first | exact fun q => Ztb om om (hok q).2 hdp.2 | omega | assumption | (simp_all; done)), (by first | exact fun q => Ztb om om (hok q).2 hdp.2 | omega | assumption | (simp_all; done)), (by first | exact fun q => Ztb om om (hok q).2 hdp.2 | omega | assumption | (simp_all; done)), (by first | exact fun q => Ztb om om (hok q).2 hdp.2 | omega | assumption | (simp_all; done)), (by first | exact fun q => Ztb om om (hok q).2 hdp.2 | omega | assumption | (simp_all; done)), (by first | exact fun q => Ztb om om (hok q).2 hdp.2 | omega | assumption | (simp_all; done)), trivial⟩) (⟨.inl rfl, .inl rfl, trivial⟩) (.agg [.arr 8001]) (by kernel_rfl) (.inl rfl) (fun h => by cases h) (fun h => by cases h)
  obtain ⟨⟨s', pts⟩, ⟨hh0, hh1, hh2, hh3, hh4, hh5, _⟩, hc⟩ := hh
  exact ⟨s', pts, hh0, hh1, hh2, hh3, hh4, hh5, hc⟩
theorem Znd (s : Stroke) (hl : 1 ≤ s.Points.length) : Con Tryz.prog 58 [.ptr false [Zaq false s.Points]] true (I ((at_ s.Points (s.Points.length - 1)).T)) := by
 refine Zbu (fn := Tryz.f58) (nt := 16) Tryz.func58 rfl rfl rfl rfl (by simp [Zag, Zaj, Zec]) fun B hB => ?_
 refine Zbt (x := .ptr false [Zaq false s.Points]) 0 rfl (fun len_s => ?_)
 simp [Zdk, Zgf, Zee, Zdl, Zaq] at len_s
 refine aQ [] [0] [] [] hB trivial ?_
 refine aR [] [2] [] [I ((at_ s.Points (((s.Points.length : Int) - 1).toNat)).T)] [] [inR .i64 ((s.Points.length : Int) - 1), (0 : Int) ≤ ((s.Points.length : Int) - 1) ∧ ((s.Points.length : Int) - 1) < (s.Points.length : Int)] hB ⟨(Zac om om), ⟨om, om⟩, trivial⟩ ?_
 refine Zam ?_
 refine Zan hB (I ((at_ s.Points (((s.Points.length : Int) - 1).toNat)).T)) (by kernel_rfl) (.inl (by (have e : ((s.Points.length : Int) - 1).toNat = s.Points.length - 1 := by omega); rw [e])) rfl (fun _ => trivial)
theorem Zgo {i k : Nat} (h : i ≠ k) : Nat.beq i k = false := Bool.eq_false_iff.2 fun e => h (Nat.eq_of_beq_eq_true e)
theorem Zqv {α : Type} [Inhabited α] {xs : List α} {k : Nat} {c : α} (h : k < xs.length) : at_ (xs.set k c) k = c := by simp [at_, h]
theorem Zqw {α : Type} [Inhabited α] {xs : List α} {k i : Nat} {c : α} (h : i ≠ k) : at_ (xs.set k c) i = at_ xs i := by
 have : ¬ k = i := fun e => h e.symm
 simp [at_, this]
theorem le_row {ob : Nat → Option Ob} {F N sz p n : Nat} {m : Nat → Nat} {g : Nat → Nat → List AV} {fr : Bool} {f : Nat → List AV} (h : ob F = some (.fam N sz m g)) (hp : p < N) (hn : m p = n)
  (hf : ∀ i, i < n → g p i = f i ∨ (AV.idsL (f i) = [] ∧ leL (fun _ => none) false (g p i) (f i))) : le ob true (.row F p) (.sl fr sz n f) := by
 simp only [le, h]
 exact ⟨fun _ => trivial, hp, trivial, hn, hf⟩
def Zvt (F : Nat) (x : Stroke) (i : Nat) : List AV := [.row F i]
def Zhc (F : Nat) (xs : List Stroke) (i : Nat) : List AV := Zvt F (at_ xs i) i
def Zmg (xs : List Stroke) (p : Nat) : Nat := ((at_ xs p).Points).length
def Zjw (xs : List Stroke) (p : Nat) : Nat → List AV := Zdl ((at_ xs p).Points)
abbrev Zbk (F : Nat) (xs : List Stroke) : Ob := .oar [F] 1 xs.length (Zhc F xs)
abbrev Zbg (xs : List Stroke) : Ob := .fam xs.length 3 (Zmg xs) (Zjw xs)
theorem Zkb {ob : Nat → Option Ob} {F : Nat} (fr : Bool) (xs : List Stroke) (h : ob F = some (.fam xs.length 3 (Zmg xs) (Zjw xs))) : ∀ i, i < xs.length → AV.idsL (Zbl fr xs i) = [] ∧ leL ob true (Zhc F xs i) (Zbl fr xs i) :=
 fun i hi => And.intro rfl (And.intro (le_row h hi rfl (fun q _ => .inl rfl)) rfl)
theorem Zks {F j N : Nat} (hF : Nat.beq F j = false) {xs : List Stroke} {x : Stroke} {g : Nat → List AV} (hN : N = xs.length) (hx : AV.joiL j F N (g 0) = Zvt F x N) : ∀ i, i < (xs ++ [x]).length → AV.joiL j F N (Zgb xs.length (Zhc F xs) g i) = Zhc F (xs ++ [x]) i := by
 subst hN
 intro i hi
 by_cases h : i < xs.length
 ·rw [Zls h]
  simp [Zhc, Zvt, Zjn h, AV.joiL, AV.joi, hF]
 ·have e : i = xs.length := by simp at hi; omega
  subst e
  rw [Zkf (Nat.le_refl _), Nat.sub_self, hx]
  simp [Zhc, Zhj (Nat.le_refl _), at_]
theorem Zkt {xs : List Stroke} (x : Stroke) {n : Nat} {f : Nat → List AV} (hn : n = x.Points.length) (hf : ∀ i, i < n → f i = Zdl x.Points i) : xs.length + 1 = (xs ++ [x]).length ∧ 3 = 3 ∧ ∀ p, p < (xs ++ [x]).length → Zhi xs.length n (Zmg xs) p = Zmg (xs ++ [x]) p ∧ ∀ i, i < Zmg (xs ++ [x]) p → Zes xs.length f (Zjw xs) p i = Zjw (xs ++ [x]) p i ∨ (AV.idsL (Zjw (xs ++ [x]) p i) = [] ∧ leL (fun _ => none) false (Zes xs.length f (Zjw xs) p i) (Zjw (xs ++ [x]) p i)) := by
 refine ⟨by simp, rfl, fun p hp => ?_⟩
 by_cases h : p < xs.length
 ·have e : Nat.beq p xs.length = false := Bool.eq_false_iff.2 fun e => by have := Nat.eq_of_beq_eq_true e; omega
  simp [Zhi, Zes, e, Zmg, Zjw, Zjn h]
 ·have e : p = xs.length := by simp at hp; omega
  subst e
  have e2 : at_ (xs ++ [x]) xs.length = x := by simp [Zhj (Nat.le_refl _), at_]
  simp only [Zhi, Zes, Nat.beq_refl, cond_true, Zmg, Zjw, e2]
  exact ⟨hn, fun i hi => .inl (hf i om)⟩
theorem Zta (s : l00Src) (most : Int) (hs : Zcc s) (ha : s.atx ≤ 3999999999999995000) (hm : 0 ≤ most ∧ most ≤ 10) : ∃ (s' : l00Src) (ss : List Stroke), (Zcc s') ∧ (s'.code = s.code) ∧ (s.atx + 0 ≤ s'.atx ∧ s'.atx ≤ s.atx + 3000) ∧ ((ss.length : Int) ≤ most) ∧ (∀ t ∈ ss, 1 ≤ t.Points.length ∧ t.Points.length ≤ 10) ∧ (Zbp ⟨ss⟩ = true) ∧ Zbb Tryz.prog 30 [.ref 7001 0, I most] (Zaf [(7001, Zab s)]) false (.agg [.arr 8011]) (Zaf [(7001, Zab s'), (8011, Zbk 8012 ss), (8012, Zbg ss)]) := by
  have hh : ∃ r : l00Src × (List Stroke), ((Zcc r.1) ∧ (r.1.code = s.code) ∧ (s.atx + 0 ≤ r.1.atx ∧ r.1.atx ≤ s.atx + 3000) ∧ ((r.2.length : Int) ≤ most) ∧ (∀ t ∈ r.2, 1 ≤ t.Points.length ∧ t.Points.length ≤ 10) ∧ (Zbp ⟨r.2⟩ = true) ∧ (True)) ∧ Zbb Tryz.prog 30 [.ref 7001 0, I most] (Zaf [(7001, Zab s)]) false (.agg [.arr 8011]) (Zaf [(7001, Zab r.1), (8011, Zbk 8012 r.2), (8012, Zbg r.2)]) := by
    refine Zdv (Φ := fun r : l00Src × (List Stroke) => (Zcc r.1) ∧ (r.1.code = s.code) ∧ (s.atx + 0 ≤ r.1.atx ∧ r.1.atx ≤ s.atx + 3000) ∧ ((r.2.length : Int) ≤ most) ∧ (∀ t ∈ r.2, 1 ≤ t.Points.length ∧ t.Points.length ≤ 10) ∧ (Zbp ⟨r.2⟩ = true) ∧ (True)) [(7001, Zab s)] (fun r => [(7001, Zab r.1), (8011, Zbk 8012 r.2), (8012, Zbg r.2)]) (fn := Tryz.f30) (nt := 47) Tryz.func30 rfl rfl (args := [.ref 7001 0, I most]) rfl (Zbd (.inr trivial) (Zbd (.inl ⟨rfl, trivial⟩) Zdp)) (res := fun r => .agg [.arr 8011]) ?_
    refine xQ [(0, .new 4)] [0, 1, 4] [4, 7001] [] trivial ?_
    refine xQ [(1, .new 5)] [0, 1, 4, 5] [4, 5, 7001] [] trivial ?_
    refine Zat ?_
    obtain ⟨v_1, s'_1, hx1_0, hx1_1, hx1_2, hx1_3, hc1⟩ := Zel s 100 (by first | assumption | (simp only [Zcc] at *; simp_all; done)) om
    refine x_q [(1, .lend [(7001, Zab s, Zab s'_1)] [] [(true, .any), (true, .any)] true (I v_1))] [0, 1, 4, 5, 6] [4, 5, 7001] [Zbb Tryz.prog 12 [.ref 7001 0, I 100] (Zaf [(7001, Zab s)]) true (I v_1) (Zaf [(7001, Zab s'_1)]) ∧ (((Zab s : Ob) = Zab s ∨ Zhk Zgd true (Zab s) (Zab s)) ∧ Zbc false (Zab s)) ∧ True] ⟨⟨hc1, ⟨.inl rfl, (by simp [Zbc, Zag, Zaj, Zfc])⟩, trivial⟩, trivial⟩ ?_
    refine Zad ?_
    refine Zat ?_
    obtain ⟨v_2, s'_2, hx2_0, hx2_1, hx2_2, hx2_3, hc2⟩ := Zel s'_1 200 (by first | assumption | (simp only [Zcc] at *; simp_all; done)) om
    refine x_q [(1, .lend [(7001, Zab s'_1, Zab s'_2)] [] [(true, .any), (true, .any)] true (I v_2))] [0, 1, 4, 5, 6, 7] [4, 5, 7001] [Zbb Tryz.prog 12 [.ref 7001 0, I 200] (Zaf [(7001, Zab s'_1)]) true (I v_2) (Zaf [(7001, Zab s'_2)]) ∧ (((Zab s'_1 : Ob) = Zab s'_1 ∨ Zhk Zgd true (Zab s'_1) (Zab s'_1)) ∧ Zbc false (Zab s'_1)) ∧ True, inR .i64 (100 + v_2)] ⟨⟨hc2, ⟨.inl rfl, (by simp [Zbc, Zag, Zaj, Zfc])⟩, trivial⟩, (Zac om om), trivial⟩ ?_
    refine Zad ?_
    refine Zat ?_
    refine Zat ?_
    obtain ⟨v_3, s'_3, hx3_0, hx3_1, hx3_2, hx3_3, hc3⟩ := Zel s'_2 (most + 1) (by first | assumption | (simp only [Zcc] at *; simp_all; done)) om
    refine x_r [(3, .lend [(7001, Zab s'_2, Zab s'_3)] [] [(true, .any), (true, .any)] true (I v_3))] [0, 4, 5, 6, 7, 8] [4, 5, 7001] [.ref 7001 0, .ref 4 0, .ref 5 0, I v_1, I (100 + v_2), I v_3] [some (.box [Zcr]), some (.box [Zcr]), some (Zab s'_3)] [inR .i64 (most + 1), Zbb Tryz.prog 12 [.ref 7001 0, I (most + 1)] (Zaf [(7001, Zab s'_2)]) true (I v_3) (Zaf [(7001, Zab s'_3)]) ∧ (((Zab s'_2 : Ob) = Zab s'_2 ∨ Zhk Zgd true (Zab s'_2) (Zab s'_2)) ∧ Zbc false (Zab s'_2)) ∧ True] ⟨(Zac om om), ⟨hc3, ⟨.inl rfl, (by simp [Zbc, Zag, Zaj, Zfc])⟩, trivial⟩, trivial⟩ ?_
    refine Zad ?_
    refine Zbn ?_
    refine Zmk 5 0 750 1 (fun _ => []) rfl (by kernel_rfl) ?_
    refine x_fam 8012 3 (fun _ => 0) (fun _ _ => []) (by kernel_rfl) ?_
    refine Zcw [] (T := [(0, .ref 7001 0), (4, .ref 4 0), (5, .ref 5 0), (6, I v_1), (7, I (100 + v_2)), (8, I v_3)]) (O := [(4, .box [Zcr]), (5, .box [.arr 750]), (750, Zbk 8012 ([] : List Stroke)), (7001, Zab s'_3), (8012, Zbg ([] : List Stroke))]) rfl (⟨.inl rfl, .inl rfl, .inl rfl, .inl rfl, .inl rfl, .inl rfl, trivial⟩) (⟨.inl rfl, .inl rfl, .inr ⟨rfl, rfl, fun i hi => absurd hi (Nat.not_lt_zero _)⟩, .inl rfl, .inr ⟨rfl, rfl, fun p hp => absurd hp (Nat.not_lt_zero _)⟩, trivial⟩) ?_
    refine Zeb (X := Int × Int × Int × (List Stroke) × l00Src) (fun x => mkS [(0, .ref 7001 0), (4, .ref 4 0), (5, .ref 5 0), (6, I x.1), (7, I x.2.1), (8, I x.2.2.1)] [(4, .box [Zcr]), (5, .box [.arr 750]), (750, Zbk 8012 x.2.2.2.1), (7001, Zab x.2.2.2.2), (8012, Zbg x.2.2.2.1)]) (fun x => (Zcc x.2.2.2.2 ∧ x.2.2.2.2.code = s.code ∧ s.atx ≤ x.2.2.2.2.atx ∧ x.2.2.2.2.atx ≤ s.atx + 10 + 210 * (most - x.2.2.1)) ∧ (0 ≤ x.2.2.1 ∧ x.2.2.1 ≤ most) ∧ ((x.2.2.2.1.length : Int) + x.2.2.1 ≤ most) ∧ (0 ≤ x.1 ∧ x.1 ≤ 100 + 500 * (most - x.2.2.1)) ∧ (∀ t ∈ x.2.2.2.1, 1 ≤ t.Points.length ∧ t.Points.length ≤ 10) ∧ (0 ≤ x.2.1 ∧ x.2.1 ≤ 300 + 200 * (most - x.2.2.1)) ∧ (inkD x.2.2.2.1 x.1) ∧ True) (fun x => x.2.2.1.toNat) (v_1, (100 + v_2), v_3, ([] : List Stroke), s'_3) rfl (show (Zcc s'_3 ∧ s'_3.code = s.code ∧ s.atx ≤ s'_3.atx ∧ s'_3.atx ≤ s.atx + 10 + 210 * (most - v_3)) ∧ (0 ≤ v_3 ∧ v_3 ≤ most) ∧ ((([] : List Stroke).length : Int) + v_3 ≤ most) ∧ (0 ≤ v_1 ∧ v_1 ≤ 100 + 500 * (most - v_3)) ∧ (∀ t ∈ ([] : List Stroke), 1 ≤ t.Points.length ∧ t.Points.length ≤ 10) ∧ (0 ≤ (100 + v_2) ∧ (100 + v_2) ≤ 300 + 200 * (most - v_3)) ∧ (inkD ([] : List Stroke) v_1) ∧ True from ⟨(by exact ⟨by assumption, by first | assumption | rfl | (simp only [*]; done), by omega, by omega⟩), om, (by simp; omega), om, (by (intro z hz; simp at hz)), om, (by exact inkD_nil _), trivial⟩) (fun x hI => ?_)
    obtain ⟨time, x, k, ss, src⟩ := x
    obtain ⟨hs0, hk0, hl0, ht0, hp0, hx0, hik, _⟩ : (Zcc src ∧ src.code = s.code ∧ s.atx ≤ src.atx ∧ src.atx ≤ s.atx + 10 + 210 * (most - k)) ∧ (0 ≤ k ∧ k ≤ most) ∧ ((ss.length : Int) + k ≤ most) ∧ (0 ≤ time ∧ time ≤ 100 + 500 * (most - k)) ∧ (∀ t ∈ ss, 1 ≤ t.Points.length ∧ t.Points.length ≤ 10) ∧ (0 ≤ x ∧ x ≤ 300 + 200 * (most - k)) ∧ (inkD ss time) ∧ True := hI
    show XW _ _ _ _ (mkS [(0, .ref 7001 0), (4, .ref 4 0), (5, .ref 5 0), (6, I time), (7, I x), (8, I k)] [(4, .box [Zcr]), (5, .box [.arr 750]), (750, Zbk 8012 ss), (7001, Zab src), (8012, Zbg ss)]) _ _
    refine Zat ?_
    refine Zat ?_
    by_cases h1 : 0 < k
    ·refine x_q [(1, .dec true)] [0, 4, 5, 6, 7, 8, 21] [4, 5, 750, 7001, 8012] [_] ⟨h1, trivial⟩ ?_
     refine Zad ?_
     refine Zfl ?_
     refine Zbv ?_
     refine Zad ?_
     refine Zat ?_
     refine Zbn ?_
     refine Zat ?_
     obtain ⟨v_4, s'_4, hx4_0, hx4_1, hx4_2, hx4_3, hc4⟩ := Zel src 200 (by first | assumption | (simp only [Zcc] at *; simp_all; done)) om
     obtain ⟨s'_5, pts_5, hx5_0, hx5_1, hx5_2, hx5_3, hx5_4, hx5_5, hc5⟩ := Zot s'_4 time x (300 + v_4) (by first | assumption | (simp only [Zcc] at *; simp_all; done)) om om
     have hlt : time ≤ (at_ (Stroke.mk pts_5).Points ((Stroke.mk pts_5).Points.length - 1)).T ∧ (at_ (Stroke.mk pts_5).Points ((Stroke.mk pts_5).Points.length - 1)).T ≤ time + 210 := hx5_4 _ (last_mem (xs := pts_5) om)
     have hvs : Zar (Stroke.mk pts_5) = true := hx5_5 ⟨by omega, by omega⟩
     have hvt := hx5_4
     refine x_q [(4, .lend [(7001, Zab src, Zab s'_4)] [] [(true, .any), (true, .any)] true (I v_4)), (6, .lend [(7001, Zab s'_4, Zab s'_5)] [(8001, Zdd pts_5)] [(true, .any), (true, .any), (true, .any), (true, .any)] false (.agg [.arr 8001])), (7, .new 9)] [0, 4, 5, 7, 8, 9] [4, 5, 9, 750, 7001, 8001, 8012] [Zbb Tryz.prog 12 [.ref 7001 0, I 200] (Zaf [(7001, Zab src)]) true (I v_4) (Zaf [(7001, Zab s'_4)]) ∧ (((Zab src : Ob) = Zab src ∨ Zhk Zgd true (Zab src) (Zab src)) ∧ Zbc false (Zab src)) ∧ True, inR .i64 (300 + v_4), Zbb Tryz.prog 67 [.ref 7001 0, I time, I x, I (300 + v_4)] (Zaf [(7001, Zab s'_4)]) false (.agg [.arr 8001]) (Zaf [(7001, Zab s'_5), (8001, Zdd pts_5)]) ∧ (((Zab s'_4 : Ob) = Zab s'_4 ∨ Zhk Zgd true (Zab s'_4) (Zab s'_4)) ∧ Zbc false (Zab s'_4)) ∧ True] ⟨⟨hc4, ⟨.inl rfl, (by simp [Zbc, Zag, Zaj, Zfc])⟩, trivial⟩, (Zac om om), ⟨hc5, ⟨.inl rfl, (by simp [Zbc, Zag, Zaj, Zfc])⟩, trivial⟩, trivial⟩ ?_
     refine Zad ?_
     refine xQ [(3, .new 34), (4, .new 35)] [0, 4, 5, 7, 8, 9] [4, 5, 9, 35, 7001, 8001, 8012] [(ss.length + 1) * 24 ≤ 140737488355328] ⟨om, trivial⟩ ?_
     refine Zat ?_
     obtain ⟨v_6, s'_6, hx6_0, hx6_1, hx6_2, hx6_3, hc6⟩ := Zel s'_5 200 (by first | assumption | (simp only [Zcc] at *; simp_all; done)) om
     refine x_q [(0, .call [(false, .ptr false [Zaq false pts_5])] true (I ((at_ (Stroke.mk pts_5).Points ((Stroke.mk pts_5).Points.length - 1)).T))), (3, .lend [(7001, Zab s'_5, Zab s'_6)] [] [(true, .any), (true, .any)] true (I v_6))] [0, 4, 5, 6, 7, 8] [4, 5, 35, 7001, 8001, 8012] [_ ∧ ((false = true → true = true) ∧ AV.idsL [Zaq false pts_5] = [] ∧ ((false = true → true = true) ∧ 3 = 3 ∧ pts_5.length = pts_5.length ∧ ∀ i_, i_ < pts_5.length → (Zdl pts_5) i_ = (Zdl pts_5) i_ ∨ (AV.idsL ((Zdl pts_5) i_) = [] ∧ leL (fun _ => none) false ((Zdl pts_5) i_) ((Zdl pts_5) i_))) ∧ ([] : List AV) = []) ∧ True, inR .i64 (((at_ (Stroke.mk pts_5).Points ((Stroke.mk pts_5).Points.length - 1)).T) + 1), Zbb Tryz.prog 12 [.ref 7001 0, I 200] (Zaf [(7001, Zab s'_5)]) true (I v_6) (Zaf [(7001, Zab s'_6)]) ∧ (((Zab s'_5 : Ob) = Zab s'_5 ∨ Zhk Zgd true (Zab s'_5) (Zab s'_5)) ∧ Zbc false (Zab s'_5)) ∧ True, inR .i64 ((((at_ (Stroke.mk pts_5).Points ((Stroke.mk pts_5).Points.length - 1)).T) + 1) + v_6)] ⟨⟨(Znd (Stroke.mk pts_5) (by first | assumption | (simp only; omega))), ⟨(fun h => by cases h), rfl, ⟨⟨(fun h => by cases h), rfl, rfl, fun i _ => .inl rfl⟩, rfl⟩⟩, trivial⟩, (Zac om om), ⟨hc6, ⟨.inl rfl, (by simp [Zbc, Zag, Zaj, Zfc])⟩, trivial⟩, (Zac om om), trivial⟩ ?_
     refine Zad ?_
     obtain ⟨v_7, s'_7, hx7_0, hx7_1, hx7_2, hx7_3, hc7⟩ := Zel s'_6 200 (by first | assumption | (simp only [Zcc] at *; simp_all; done)) om
     refine x_q [(2, .lend [(7001, Zab s'_6, Zab s'_7)] [] [(true, .any), (true, .any)] true (I v_7))] [0, 4, 5, 6, 7, 8] [4, 5, 35, 7001, 8001, 8012] [Zbb Tryz.prog 12 [.ref 7001 0, I 200] (Zaf [(7001, Zab s'_6)]) true (I v_7) (Zaf [(7001, Zab s'_7)]) ∧ (((Zab s'_6 : Ob) = Zab s'_6 ∨ Zhk Zgd true (Zab s'_6) (Zab s'_6)) ∧ Zbc false (Zab s'_6)) ∧ True, inR .i64 (x + v_7)] ⟨⟨hc7, ⟨.inl rfl, (by simp [Zbc, Zag, Zaj, Zfc])⟩, trivial⟩, (Zac om om), trivial⟩ ?_
     refine Zbo 1 ?_
     refine Zad ?_
     refine x_r [] [0, 4, 5, 6, 7, 8] [4, 5, 35, 7001, 8001, 8012] [.ref 7001 0, .ref 4 0, .ref 5 0, I ((((at_ (Stroke.mk pts_5).Points ((Stroke.mk pts_5).Points.length - 1)).T) + 1) + v_6), I (x + v_7), I (k - 1)] [some (.box [Zcr]), some (.box [.arr 35]), some (.oar [8012, 8001] 1 (ss.length + 1) (Zgb ss.length (Zhc 8012 ss) (Zgm [.arr 8001] 1))), some (Zab s'_7), some (Zdd pts_5), some (Zbg ss)] [inR .i64 (k - 1)] ⟨(Zac om om), trivial⟩ ?_
     refine Zti 8001 8012 rfl rfl rfl ?_
     refine Zcl [(750, 35)] (T := [(0, .ref 7001 0), (4, .ref 4 0), (5, .ref 5 0), (6, I ((((at_ (Stroke.mk pts_5).Points ((Stroke.mk pts_5).Points.length - 1)).T) + 1) + v_6)), (7, I (x + v_7)), (8, I (k - 1))]) (O := [(4, .box [Zcr]), (5, .box [.arr 750]), (750, Zbk 8012 (ss ++ [(Stroke.mk pts_5)])), (7001, Zab s'_7), (8012, Zbg (ss ++ [(Stroke.mk pts_5)]))]) rfl (⟨.inl rfl, .inl rfl, .inl rfl, .inl rfl, .inl rfl, .inl rfl, trivial⟩) (⟨.inl rfl, .inl rfl, .inr ⟨rfl, rfl, (by simp), fun i hi => .inl (Zks rfl rfl rfl i hi)⟩, .inl rfl, .inr (Zkt (Stroke.mk pts_5) (by first | rfl | (simp; done)) (fun i_ hi_ => (by first | rfl | fail))), trivial⟩) (Zbh (((((at_ (Stroke.mk pts_5).Points ((Stroke.mk pts_5).Points.length - 1)).T) + 1) + v_6), (x + v_7), (k - 1), (ss ++ [(Stroke.mk pts_5)]), s'_7) rfl (show (Zcc s'_7 ∧ s'_7.code = s.code ∧ s.atx ≤ s'_7.atx ∧ s'_7.atx ≤ s.atx + 10 + 210 * (most - (k - 1))) ∧ (0 ≤ (k - 1) ∧ (k - 1) ≤ most) ∧ (((ss ++ [(Stroke.mk pts_5)]).length : Int) + (k - 1) ≤ most) ∧ (0 ≤ ((((at_ (Stroke.mk pts_5).Points ((Stroke.mk pts_5).Points.length - 1)).T) + 1) + v_6) ∧ ((((at_ (Stroke.mk pts_5).Points ((Stroke.mk pts_5).Points.length - 1)).T) + 1) + v_6) ≤ 100 + 500 * (most - (k - 1))) ∧ (∀ t ∈ (ss ++ [(Stroke.mk pts_5)]), 1 ≤ t.Points.length ∧ t.Points.length ≤ 10) ∧ (0 ≤ (x + v_7) ∧ (x + v_7) ≤ 300 + 200 * (most - (k - 1))) ∧ (inkD (ss ++ [(Stroke.mk pts_5)]) ((((at_ (Stroke.mk pts_5).Points ((Stroke.mk pts_5).Points.length - 1)).T) + 1) + v_6)) ∧ True from ⟨(by exact ⟨by assumption, by first | assumption | rfl | (simp only [*]; done), by omega, by omega⟩), om, (by simp; omega), om, (by exact Zjv hp0 (by dsimp only; omega)), om, (by exact Yjf hik hvs (fun p hp => (hvt p hp).1) (by have := hlt; unfold Zrz; omega) om om), trivial⟩) (by first | (show ((k - 1).toNat : Nat) < k.toNat; omega) | (dsimp only; omega)))
    refine x_r [(1, .dec false)] [0, 4, 5, 6, 7, 8, 21] [4, 5, 750, 7001, 8012] [.ref 7001 0, .ref 4 0, .ref 5 0, I time, I x, I k, Bv false] [some (.box [Zcr]), some (.box [.arr 750]), some (Zbk 8012 ss), some (Zab src), some (Zbg ss)] [_] ⟨h1, trivial⟩ ?_
    refine Zad ?_
    refine Zcd rfl ?_
    refine Zde ?_
    refine Zax ?_
    refine Zbe ?_
    refine Zay ?_
    refine Zad ?_
    refine xR [] [4] [4, 750, 7001, 8012] [.ref 4 0] [some (.box [.arr 750]), some (Zbk 8012 ss), some (Zab src), some (Zbg ss)] [] trivial ?_
    refine Zem ?_
    refine Zcl [(8011, 750)] (T := [(4, .ref 4 0)]) (O := [(4, .box [.arr 8011]), (7001, Zab src), (8011, Zbk 8012 ss), (8012, Zbg ss)]) rfl (⟨.inl rfl, trivial⟩) (⟨.inl rfl, .inl rfl, .inl rfl, .inl rfl, trivial⟩) ?_
    refine Zcz (src, ss) (show (Zcc src) ∧ (src.code = s.code) ∧ (s.atx + 0 ≤ src.atx ∧ src.atx ≤ s.atx + 3000) ∧ ((ss.length : Int) ≤ most) ∧ (∀ t ∈ ss, 1 ≤ t.Points.length ∧ t.Points.length ≤ 10) ∧ (Zbp ⟨ss⟩ = true) ∧ (True) from ⟨(by first | exact hik.1 | omega | assumption | rfl | (simp; done) | (simp; omega) | (simp_all; done)), (by first | exact hik.1 | omega | assumption | rfl | (simp; done) | (simp; omega) | (simp_all; done)), (by first | exact hik.1 | omega | assumption | rfl | (simp; done) | (simp; omega) | (simp_all; done)), (by first | exact hik.1 | omega | assumption | rfl | (simp; done) | (simp; omega) | (simp_all; done)), (by first | exact hik.1 | omega | assumption | rfl | (simp; done) | (simp; omega) | (simp_all; done)), (by first | exact hik.1 | omega | assumption | rfl | (simp; done) | (simp; omega) | (simp_all; done)), trivial⟩) (⟨.inl rfl, .inl rfl, .inl rfl, trivial⟩) (.agg [.arr 8011]) (by kernel_rfl) (.inl rfl) (fun h => by cases h) (fun h => by cases h)
  obtain ⟨⟨s', ss⟩, ⟨hh0, hh1, hh2, hh3, hh4, hh5, _⟩, hc⟩ := hh
  exact ⟨s', ss, hh0, hh1, hh2, hh3, hh4, hh5, hc⟩
theorem Zka (s : Stroke) (hl : s.Points.length ≤ 100000) : ∃ (pts : List Point), (pts = s.Points) ∧ Zbb Tryz.prog 61 [.ptr false [Zaq false s.Points]] (Zaf []) false (.agg [.arr 8041]) (Zaf [(8041, Zdd pts)]) := by
 have hh : ∃ r : (List Point), ((r = s.Points) ∧ (True)) ∧ Zbb Tryz.prog 61 [.ptr false [Zaq false s.Points]] (Zaf []) false (.agg [.arr 8041]) (Zaf [(8041, Zdd r)]) := by
  refine Zdv (Φ := fun r : (List Point) => (r = s.Points) ∧ (True)) [] (fun r => [(8041, Zdd r)]) (fn := Tryz.f61) (nt := 10) Tryz.func61 rfl rfl (args := [.ptr false [Zaq false s.Points]]) rfl (Zbd (.inl ⟨rfl, by simp [Zaj, Zag, Zec]⟩) Zdp) (res := fun r => .agg [.arr 8041]) ?_
  refine xQ [(0, .new 2)] [0, 2] [2] [] trivial ?_
  refine xR [(0, .new 3), (5, .new 8)] [2] [2, 8] [.ref 2 0] [some (.box [.arr 8]), some (.arr 3 (0 + s.Points.length) (Zgb 0 (Zgm [] 3) (Zdl s.Points)))] [(0 + s.Points.length) * 24 ≤ 140737488355328] ⟨om, trivial⟩ ?_
  refine Zem ?_
  refine Zcl [(8041, 8)] (T := [(2, .ref 2 0)]) (O := [(2, .box [.arr 8041]), (8041, Zdd s.Points)]) rfl (⟨.inl rfl, trivial⟩) (⟨.inl rfl, .inr ⟨rfl, (by first | rfl | (simp; done) | (simp; omega) | omega), fun i_ hi_ => .inl (Zps i_)⟩, trivial⟩) ?_
  refine Zcz s.Points (show (s.Points = s.Points) ∧ (True) from ⟨(by first | rfl | simp), trivial⟩) (⟨.inl rfl, trivial⟩) (.agg [.arr 8041]) (by kernel_rfl) (.inl rfl) (fun h => by cases h) (fun h => by cases h)
 obtain ⟨pts, ⟨hh0, _⟩, hc⟩ := hh
 exact ⟨pts, hh0, hc⟩
theorem Zym {α : Type} [Inhabited α] {xs : List α} {i : Int} {y : α} (h0 : 0 ≤ i) (h : i.toNat < xs.length) (hy : y = at_ xs i.toNat) : xs.take (i + 1).toNat = xs.take i.toNat ++ [y] := by
 have e : (i + 1).toNat = i.toNat + 1 := by omega
 rw [e, List.take_succ_eq_append_getElem h, hy]
 simp [at_, h]
theorem Yin (ik : Ink) (hx : ∀ s ∈ ik.Strokes, s.Points.length ≤ 100000) (hl : ik.Strokes.length ≤ 100000) : ∃ (ss : List Stroke), (ss = ik.Strokes) ∧ Zbb Tryz.prog 32 [.ptr false [Zae false ik.Strokes]] (Zaf []) false (.agg [.arr 8031]) (Zaf [(8031, Zbk 8032 ss), (8032, Zbg ss)]) := by
  have hh : ∃ r : (List Stroke), ((r = ik.Strokes) ∧ (True)) ∧ Zbb Tryz.prog 32 [.ptr false [Zae false ik.Strokes]] (Zaf []) false (.agg [.arr 8031]) (Zaf [(8031, Zbk 8032 r), (8032, Zbg r)]) := by
    refine Zdv (Φ := fun r : (List Stroke) => (r = ik.Strokes) ∧ (True)) [] (fun r => [(8031, Zbk 8032 r), (8032, Zbg r)]) (fn := Tryz.f32) (nt := 28) Tryz.func32 rfl rfl (args := [.ptr false [Zae false ik.Strokes]]) rfl (Zbd (.inl ⟨rfl, by simp [Zaj, Zag, Zck]⟩) Zdp) (res := fun r => .agg [.arr 8031]) ?_
    refine xQ [(0, .new 2)] [0, 2] [2] [] trivial ?_
    refine xQ [(1, .new 3)] [0, 2, 3] [2, 3] [] trivial ?_
    refine Zat ?_
    refine xR [] [0, 2, 3, 4] [2, 3] [.ptr false [Zae false ik.Strokes], .ref 2 0, .ref 3 0, I 0] [some (.box [Zcr]), some (.box [Zcr])] [] trivial ?_
    refine Zbn ?_
    refine Zmk 3 0 730 1 (fun _ => []) rfl (by kernel_rfl) ?_
    refine x_fam 8032 3 (fun _ => 0) (fun _ _ => []) (by kernel_rfl) ?_
    refine Zcw [] (T := [(0, .ptr false [Zae false ik.Strokes]), (2, .ref 2 0), (3, .ref 3 0), (4, I 0)]) (O := [(2, .box [Zcr]), (3, .box [.arr 730]), (730, Zbk 8032 ([] : List Stroke)), (8032, Zbg ([] : List Stroke))]) rfl (⟨.inl rfl, .inl rfl, .inl rfl, .inl rfl, trivial⟩) (⟨.inl rfl, .inl rfl, .inr ⟨rfl, rfl, fun i hi => absurd hi (Nat.not_lt_zero _)⟩, .inr ⟨rfl, rfl, fun p hp => absurd hp (Nat.not_lt_zero _)⟩, trivial⟩) ?_
    refine Zeb (X := Int × (List Stroke)) (fun x => mkS [(0, .ptr false [Zae false ik.Strokes]), (2, .ref 2 0), (3, .ref 3 0), (4, I x.1)] [(2, .box [Zcr]), (3, .box [.arr 730]), (730, Zbk 8032 x.2), (8032, Zbg x.2)]) (fun x => (0 ≤ x.1 ∧ x.1 ≤ (ik.Strokes.length : Int)) ∧ ((x.2.length : Int) = x.1) ∧ (x.2 = ik.Strokes.take x.1.toNat) ∧ True) (fun x => ((ik.Strokes.length : Int) - x.1).toNat) (0, ([] : List Stroke)) rfl (show (0 ≤ (0 : Int) ∧ (0 : Int) ≤ (ik.Strokes.length : Int)) ∧ ((([] : List Stroke).length : Int) = (0 : Int)) ∧ (([] : List Stroke) = ik.Strokes.take (0 : Int).toNat) ∧ True from ⟨om, (by rfl), (by rfl), trivial⟩) (fun x hI => ?_)
    obtain ⟨i, ss⟩ := x
    obtain ⟨hi0, hl0, hs0, _⟩ : (0 ≤ i ∧ i ≤ (ik.Strokes.length : Int)) ∧ ((ss.length : Int) = i) ∧ (ss = ik.Strokes.take i.toNat) ∧ True := hI
    show XW _ _ _ _ (mkS [(0, .ptr false [Zae false ik.Strokes]), (2, .ref 2 0), (3, .ref 3 0), (4, I i)] [(2, .box [Zcr]), (3, .box [.arr 730]), (730, Zbk 8032 ss), (8032, Zbg ss)]) _ _
    refine Zat ?_
    refine Zat ?_
    by_cases h1 : i < (ik.Strokes.length : Int)
    ·refine x_q [(6, .dec true)] [0, 2, 3, 4, 12] [2, 3, 730, 8032] [_] ⟨h1, trivial⟩ ?_
     refine Zad ?_
     refine Zfl ?_
     refine Zbv ?_
     refine Zad ?_
     refine Zat ?_
     refine Zbn ?_
     obtain ⟨pts_1, hx1_0, hc1⟩ := Zka (at_ ik.Strokes i.toNat) (hx _ (Zdf om))
     refine x_q [(8, .lend [] [(8041, Zdd pts_1)] [(true, .any)] false (.agg [.arr 8041])), (9, .new 24), (10, .new 25)] [0, 2, 3, 4] [2, 3, 25, 8032, 8041] [(0 : Int) ≤ i ∧ i < (ik.Strokes.length : Int), Zbb Tryz.prog 61 [.ptr false [Zaq false ((at_ ik.Strokes i.toNat).Points)]] (Zaf []) false (.agg [.arr 8041]) (Zaf [(8041, Zdd pts_1)]) ∧ True, (ss.length + 1) * 24 ≤ 140737488355328] ⟨⟨om, om⟩, ⟨hc1, trivial⟩, om, trivial⟩ ?_
     refine Zbo 1 ?_
     refine Zad ?_
     refine x_r [] [0, 2, 3, 4] [2, 3, 25, 8032, 8041] [.ptr false [Zae false ik.Strokes], .ref 2 0, .ref 3 0, I (i + 1)] [some (.box [Zcr]), some (.box [.arr 25]), some (.oar [8032, 8041] 1 (ss.length + 1) (Zgb ss.length (Zhc 8032 ss) (Zgm [.arr 8041] 1))), some (Zbg ss), some (Zdd pts_1)] [inR .i64 (i + 1)] ⟨(Zac om om), trivial⟩ ?_
     refine Zti 8041 8032 rfl rfl rfl ?_
     refine Zcl [(730, 25)] (T := [(0, .ptr false [Zae false ik.Strokes]), (2, .ref 2 0), (3, .ref 3 0), (4, I (i + 1))]) (O := [(2, .box [Zcr]), (3, .box [.arr 730]), (730, Zbk 8032 (ss ++ [(Stroke.mk pts_1)])), (8032, Zbg (ss ++ [(Stroke.mk pts_1)]))]) rfl (⟨.inl rfl, .inl rfl, .inl rfl, .inl rfl, trivial⟩) (⟨.inl rfl, .inl rfl, .inr ⟨rfl, rfl, (by simp), fun i hi => .inl (Zks rfl rfl rfl i hi)⟩, .inr (Zkt (Stroke.mk pts_1) (by first | rfl | (simp; done)) (fun i_ hi_ => (by first | rfl | fail))), trivial⟩) (Zbh ((i + 1), (ss ++ [(Stroke.mk pts_1)])) rfl (show (0 ≤ (i + 1) ∧ (i + 1) ≤ (ik.Strokes.length : Int)) ∧ (((ss ++ [(Stroke.mk pts_1)]).length : Int) = (i + 1)) ∧ ((ss ++ [(Stroke.mk pts_1)]) = ik.Strokes.take (i + 1).toNat) ∧ True from ⟨om, (by simp; omega), (by rw [hs0]; exact (Zym om om (by first | rfl | assumption | (simp only [*]; done))).symm), trivial⟩) (by first | (show (((ik.Strokes.length : Int) - (i + 1)).toNat : Nat) < ((ik.Strokes.length : Int) - i).toNat; omega) | (dsimp only; omega)))
    refine x_r [(6, .dec false)] [0, 2, 3, 4, 12] [2, 3, 730, 8032] [.ptr false [Zae false ik.Strokes], .ref 2 0, .ref 3 0, I i, Bv false] [some (.box [Zcr]), some (.box [.arr 730]), some (Zbk 8032 ss), some (Zbg ss)] [_] ⟨h1, trivial⟩ ?_
    refine Zad ?_
    refine Zcd rfl ?_
    refine Zde ?_
    refine Zax ?_
    refine Zbe ?_
    refine Zay ?_
    refine Zad ?_
    refine xR [] [2] [2, 730, 8032] [.ref 2 0] [some (.box [.arr 730]), some (Zbk 8032 ss), some (Zbg ss)] [] trivial ?_
    refine Zem ?_
    refine Zcl [(8031, 730)] (T := [(2, .ref 2 0)]) (O := [(2, .box [.arr 8031]), (8031, Zbk 8032 ss), (8032, Zbg ss)]) rfl (⟨.inl rfl, trivial⟩) (⟨.inl rfl, .inl rfl, .inl rfl, trivial⟩) ?_
    refine Zcz ss (show (ss = ik.Strokes) ∧ (True) from ⟨(by rw [hs0]; exact List.take_of_length_le om), trivial⟩) (⟨.inl rfl, .inl rfl, trivial⟩) (.agg [.arr 8031]) (by kernel_rfl) (.inl rfl) (fun h => by cases h) (fun h => by cases h)
  obtain ⟨ss, ⟨hh0, _⟩, hc⟩ := hh
  exact ⟨ss, hh0, hc⟩
theorem Yio (s : l00Src) (list : List ByteArray) (hs : Zcc s) (ha : s.atx ≤ 3999999999999999980) (hl : (0 < list.length ∧ list.length ≤ 1000) ∧ ∀ z ∈ list, z.size ≤ 16) : ∃ (v : ByteArray) (s' : l00Src), (v.size ≤ 16) ∧ (Zcc s') ∧ (s'.code = s.code) ∧ (s.atx + 0 ≤ s'.atx ∧ s'.atx ≤ s.atx + 2) ∧ (v ∈ list) ∧ Zbb Tryz.prog 33 [.ref 7001 0, slS false list] (Zaf [(7001, Zab s)]) true (Sv v) (Zaf [(7001, Zab s')]) := by
 have hh : ∃ r : ByteArray × l00Src, ((r.1.size ≤ 16) ∧ (Zcc r.2) ∧ (r.2.code = s.code) ∧ (s.atx + 0 ≤ r.2.atx ∧ r.2.atx ≤ s.atx + 2) ∧ (r.1 ∈ list) ∧ (True)) ∧ Zbb Tryz.prog 33 [.ref 7001 0, slS false list] (Zaf [(7001, Zab s)]) true (Sv r.1) (Zaf [(7001, Zab r.2)]) := by
  refine Zdv (Φ := fun r : ByteArray × l00Src => (r.1.size ≤ 16) ∧ (Zcc r.2) ∧ (r.2.code = s.code) ∧ (s.atx + 0 ≤ r.2.atx ∧ r.2.atx ≤ s.atx + 2) ∧ (r.1 ∈ list) ∧ (True)) [(7001, Zab s)] (fun r => [(7001, Zab r.2)]) (fn := Tryz.f33) (nt := 12) Tryz.func33 rfl rfl (args := [.ref 7001 0, slS false list]) rfl (Zbd (.inr trivial) (Zbd (.inl ⟨rfl, tagS false _⟩) Zdp)) (res := fun r => Sv r.1) ?_
  refine xQ [] [0, 1] [7001] [] trivial ?_
  refine Zat ?_
  obtain ⟨v_1, s'_1, hx1_0, hx1_1, hx1_2, hx1_3, hc1⟩ := Zel s (list.length : Int) (by first | assumption | (simp only [Zcc] at *; simp_all; done)) om
  refine x_r [(4, .lend [(7001, Zab s, Zab s'_1)] [] [(true, .any), (true, .any)] true (I v_1))] [4] [7001] [Sv (at_ list v_1.toNat)] [some (Zab s'_1)] [Zbb Tryz.prog 12 [.ref 7001 0, I (list.length : Int)] (Zaf [(7001, Zab s)]) true (I v_1) (Zaf [(7001, Zab s'_1)]) ∧ (((Zab s : Ob) = Zab s ∨ Zhk Zgd true (Zab s) (Zab s)) ∧ Zbc false (Zab s)) ∧ True, (0 : Int) ≤ v_1 ∧ v_1 < (list.length : Int)] ⟨⟨hc1, ⟨.inl rfl, (by simp [Zbc, Zag, Zaj, Zfc])⟩, trivial⟩, ⟨om, om⟩, trivial⟩ ?_
  refine Zad ?_
  refine Zem ?_
  refine Zcz ((at_ list v_1.toNat), s'_1) (show ((at_ list v_1.toNat).size ≤ 16) ∧ (Zcc s'_1) ∧ (s'_1.code = s.code) ∧ (s.atx + 0 ≤ s'_1.atx ∧ s'_1.atx ≤ s.atx + 2) ∧ ((at_ list v_1.toNat) ∈ list) ∧ (True) from ⟨(by first | omega | rfl | assumption | (dsimp only; first | omega | rfl | assumption) | (simp only [*]; done) | (exact Zdf om) | (exact hl.2 _ (Zdf om)) | (simp_all; done)), (by first | omega | rfl | assumption | (dsimp only; first | omega | rfl | assumption) | (simp only [*]; done) | (exact Zdf om) | (exact hl.2 _ (Zdf om)) | (simp_all; done)), (by first | omega | rfl | assumption | (dsimp only; first | omega | rfl | assumption) | (simp only [*]; done) | (exact Zdf om) | (exact hl.2 _ (Zdf om)) | (simp_all; done)), (by first | omega | rfl | assumption | (dsimp only; first | omega | rfl | assumption) | (simp only [*]; done) | (exact Zdf om) | (exact hl.2 _ (Zdf om)) | (simp_all; done)), (by first | omega | rfl | assumption | (dsimp only; first | omega | rfl | assumption) | (simp only [*]; done) | (exact Zdf om) | (exact hl.2 _ (Zdf om)) | (simp_all; done)), trivial⟩) (⟨.inl rfl, trivial⟩) (Sv (at_ list v_1.toNat)) (by kernel_rfl) (.inl rfl) (fun _ => rfl) (fun _ => trivial)
 obtain ⟨⟨v, s'⟩, ⟨hh0, hh1, hh2, hh3, hh4, _⟩, hc⟩ := hh
 exact ⟨v, s', hh0, hh1, hh2, hh3, hh4, hc⟩
def Zdx (a b : Box) : Box := ⟨min a.X1 b.X1, min a.Y1 b.Y1, max a.X2 b.X2, max a.Y2 b.Y2⟩
theorem Ztc (a : Box) (b : Box) : Con Tryz.prog 109 [Zfo a, Zfo b] true (Zfo (Zdx a b)) := by
 refine Zbu (fn := Tryz.f109) (nt := 26) Tryz.func109 rfl rfl rfl rfl (by simp [Zag, Zaj]) fun B hB => ?_
 refine aQ [(0, .new 2), (1, .new 3), (2, .new 4)] [2, 3, 4] [2, 3, 4] [] hB trivial ?_
 refine aR [(4, .call [(true, .any), (true, .any)] true (I (min a.X1 b.X1))), (9, .call [(true, .any), (true, .any)] true (I (min a.Y1 b.Y1))), (14, .call [(true, .any), (true, .any)] true (I (max a.X2 b.X2))), (19, .call [(true, .any), (true, .any)] true (I (max a.Y2 b.Y2)))] [4] [4] [.ref 4 0] [some (.box [I (min a.X1 b.X1), I (min a.Y1 b.Y1), I (max a.X2 b.X2), I (max a.Y2 b.Y2)])] [_ ∧ True, _ ∧ True, _ ∧ True, _ ∧ True] hB ⟨⟨(Zfp a.X1 b.X1), trivial⟩, ⟨(Zfp a.Y1 b.Y1), trivial⟩, ⟨(Zhx a.X2 b.X2), trivial⟩, ⟨(Zhx a.Y2 b.Y2), trivial⟩, trivial⟩ ?_
 refine Zam ?_
 refine Zan hB (.agg [I (min a.X1 b.X1), I (min a.Y1 b.Y1), I (max a.X2 b.X2), I (max a.Y2 b.Y2)]) (by kernel_rfl) (.inl (by first | rfl | (refine congrArg Bv ?_; simp [*]; done) | (refine congrArg Bv ?_; simp [*]; omega) | (refine congrArg Bv ?_; simp_all []; done) | (refine congrArg Bv ?_; simp_all []; omega))) rfl (fun _ => (by simp [Zaj, Zag]))
def ptB (p : Point) : Box := ⟨p.X, p.Y, p.X, p.Y⟩
def Zby (xs : List Point) : Nat → Box
 | 0 => ptB (at_ xs 0)
 | k + 1 => Zdx (Zby xs k) (ptB (at_ xs k))
theorem Zxu {xs : List Point} {i : Int} (h : 0 ≤ i) : Zby xs (i + 1).toNat = Zdx (Zby xs i.toNat) (ptB (at_ xs i.toNat)) := by
 have : (i + 1).toNat = i.toNat + 1 := by omega
 rw [this]; rfl
theorem Ycq (xs : List Point) : Zby xs 1 = ptB (at_ xs 0) := by simp [Zby, Zdx, ptB]
def Zfk (b : Box) : Prop := (0 ≤ b.X1 ∧ b.X1 ≤ b.X2 ∧ b.X2 ≤ 4095) ∧ 0 ≤ b.Y1 ∧ b.Y1 ≤ b.Y2 ∧ b.Y2 ≤ 4095
theorem Ydc {a b : Box} (ha : Zfk a) (hb : Zfk b) : Zfk (Zdx a b) := by unfold Zfk Zdx at *; simp only; omega
theorem ptB_ok {p : Point} (h : okP p = true) : Zfk (ptB p) := by have := Zfi.1 h; unfold Zfk ptB; simp only; omega
theorem Yjg {s : Stroke} (ok : Zar s = true) : ∀ k : Nat, k ≤ s.Points.length → Zfk (Zby s.Points k)
 | 0, _ => ptB_ok (Zig ok (by have := Zeo ok; omega))
 | k + 1, h => Ydc (Yjg ok k om) (ptB_ok (Zig ok om))
theorem Zin {s : Stroke} (ok : Zar s = true) : Zfk (Zby s.Points s.Points.length) := Yjg ok _ (Nat.le_refl _)
theorem Zhw (s : Stroke) (ok : Zar s = true) : Con Tryz.prog 108 [.ptr false [Zaq false s.Points]] true (Zfo (Zby s.Points s.Points.length)) := by
  have hln := Zeo ok
  refine Zbu (fn := Tryz.f108) (nt := 50) Tryz.func108 rfl rfl rfl rfl (by simp [Zag, Zaj, Zec]) fun B hB => ?_
  refine Zbt (x := .ptr false [Zaq false s.Points]) 0 rfl (fun len_s => ?_)
  simp [Zdk, Zgf, Zee, Zdl, Zaq] at len_s
  refine aQ [(0, .new 2)] [0, 2] [2] [] hB trivial ?_
  refine aQ [(6, .new 3)] [0, 2, 3] [2, 3] [(0 : Int) ≤ 0 ∧ 0 < (s.Points.length : Int)] hB ⟨⟨om, om⟩, trivial⟩ ?_
  refine aQ [(9, .new 4)] [0, 2, 4] [2, 4] [] hB trivial ?_
  refine Zah ?_
  refine aR [] [0, 2, 4, 5] [2, 4] [.ptr false [Zaq false s.Points], .ref 2 0, .ref 4 0, I 1] [some (.box [I 0, I 0, I 0, I 0]), some (.box [I ((at_ s.Points 0).X), I ((at_ s.Points 0).Y), I ((at_ s.Points 0).X), I ((at_ s.Points 0).Y)])] [] hB trivial ?_
  refine Zau ?_
  refine Zcn (fun gn gσ => ∃ (i : Int) (x1 : Int) (y1 : Int) (x2 : Int) (y2 : Int), gn = ((s.Points.length : Int) - i).toNat ∧ (1 ≤ i ∧ i ≤ (s.Points.length : Int)) ∧ (Box.mk x1 y1 x2 y2 = Zby s.Points i.toNat) ∧ gσ = mkS [(0, .ptr false [Zaq false s.Points]), (2, .ref 2 0), (4, .ref 4 0), (5, I i)] [(2, .box [I 0, I 0, I 0, I 0]), (4, .box [I x1, I y1, I x2, I y2])]) (((s.Points.length : Int) - 1).toNat) ⟨1, (at_ s.Points 0).X, (at_ s.Points 0).Y, (at_ s.Points 0).X, (at_ s.Points 0).Y, rfl, om, (by first | rfl | exact (Ycq _).symm), rfl⟩ (fun gn gσ hI => ?_)
  obtain ⟨i, x1, y1, x2, y2, rfl, hi0, hb1, rfl⟩ := hI
  refine Zah ?_
  refine Zah ?_
  by_cases h1 : i < (s.Points.length : Int)
  ·have hi : i.toNat < s.Points.length := by omega
   refine Zbm [(6, .dec true)] [0, 2, 4, 5, 28] [2, 4] [_] hB ⟨h1, trivial⟩ ?_
   refine Zaa ?_
   refine Zbq ?_
   refine Zas ?_
   refine Zaa ?_
   refine Zah ?_
   refine Zau ?_
   refine aQ [(7, .new 6)] [0, 2, 4, 5, 6] [2, 4, 6] [(0 : Int) ≤ i ∧ i < (s.Points.length : Int)] hB ⟨⟨om, om⟩, trivial⟩ ?_
   refine Zbm [(10, .call [(true, .any), (true, .any)] true (Zfo (Zdx (Box.mk x1 y1 x2 y2) (Box.mk ((at_ s.Points i.toNat).X) ((at_ s.Points i.toNat).Y) ((at_ s.Points i.toNat).X) ((at_ s.Points i.toNat).Y)))))] [0, 2, 4, 5] [2, 4] [_ ∧ True] hB ⟨⟨(Ztc (Box.mk x1 y1 x2 y2) (Box.mk ((at_ s.Points i.toNat).X) ((at_ s.Points i.toNat).Y) ((at_ s.Points i.toNat).X) ((at_ s.Points i.toNat).Y))), trivial⟩, trivial⟩ ?_
   refine Zba 1 ?_
   refine Zaa ?_
   refine Zdg [] [0, 2, 4, 5] [2, 4] [.ptr false [Zaq false s.Points], .ref 2 0, .ref 4 0, I (i + 1)] [some (.box [I 0, I 0, I 0, I 0]), some (Zef (Zdx (Box.mk x1 y1 x2 y2) (Box.mk ((at_ s.Points i.toNat).X) ((at_ s.Points i.toNat).Y) ((at_ s.Points i.toNat).X) ((at_ s.Points i.toNat).Y))))] [inR .i64 (i + 1)] hB ⟨(Zac om om), trivial⟩ ?_
   refine Zeq hB [] (T := [(0, .ptr false [Zaq false s.Points]), (2, .ref 2 0), (4, .ref 4 0), (5, I (i + 1))]) (O := [(2, .box [I 0, I 0, I 0, I 0]), (4, .box [I ((Zdx (Box.mk x1 y1 x2 y2) (Box.mk ((at_ s.Points i.toNat).X) ((at_ s.Points i.toNat).Y) ((at_ s.Points i.toNat).X) ((at_ s.Points i.toNat).Y))).X1), I ((Zdx (Box.mk x1 y1 x2 y2) (Box.mk ((at_ s.Points i.toNat).X) ((at_ s.Points i.toNat).Y) ((at_ s.Points i.toNat).X) ((at_ s.Points i.toNat).Y))).Y1), I ((Zdx (Box.mk x1 y1 x2 y2) (Box.mk ((at_ s.Points i.toNat).X) ((at_ s.Points i.toNat).Y) ((at_ s.Points i.toNat).X) ((at_ s.Points i.toNat).Y))).X2), I ((Zdx (Box.mk x1 y1 x2 y2) (Box.mk ((at_ s.Points i.toNat).X) ((at_ s.Points i.toNat).Y) ((at_ s.Points i.toNat).X) ((at_ s.Points i.toNat).Y))).Y2)])]) rfl (⟨.inl rfl, .inl rfl, .inl rfl, .inl rfl, trivial⟩) (⟨.inl rfl, .inr ⟨rfl, ⟨rfl, ⟨rfl, ⟨rfl, rfl⟩⟩⟩⟩, trivial⟩) (Zbf _ om ⟨(i + 1), (Zdx (Box.mk x1 y1 x2 y2) (Box.mk ((at_ s.Points i.toNat).X) ((at_ s.Points i.toNat).Y) ((at_ s.Points i.toNat).X) ((at_ s.Points i.toNat).Y))).X1, (Zdx (Box.mk x1 y1 x2 y2) (Box.mk ((at_ s.Points i.toNat).X) ((at_ s.Points i.toNat).Y) ((at_ s.Points i.toNat).X) ((at_ s.Points i.toNat).Y))).Y1, (Zdx (Box.mk x1 y1 x2 y2) (Box.mk ((at_ s.Points i.toNat).X) ((at_ s.Points i.toNat).Y) ((at_ s.Points i.toNat).X) ((at_ s.Points i.toNat).Y))).X2, (Zdx (Box.mk x1 y1 x2 y2) (Box.mk ((at_ s.Points i.toNat).X) ((at_ s.Points i.toNat).Y) ((at_ s.Points i.toNat).X) ((at_ s.Points i.toNat).Y))).Y2, rfl, om, (by rw [Zxu om, ← hb1]; rfl), rfl⟩)
  have hie : i.toNat = s.Points.length := by omega
  rw [hie] at hb1
  refine Zbm [(6, .dec false)] [0, 2, 4, 5, 28] [2, 4] [_] hB ⟨h1, trivial⟩ ?_
  refine Zaa ?_
  refine Zbj ?_
  refine Zcj ?_
  refine Zal ?_
  refine Zal ?_
  refine Zaw ?_
  refine Zaa ?_
  refine aR [] [2] [2] [.ref 2 0] [some (.box [I x1, I y1, I x2, I y2])] [] hB trivial ?_
  refine Zam ?_
  refine Zan hB (.agg [I x1, I y1, I x2, I y2]) (by kernel_rfl) (.inl (by rw [← hb1])) rfl (fun _ => (by simp [Zaj, Zag]))
theorem Zxz (n : Int) {d : Int} (hd : 0 < d) : (Int.tmod n d < 0 → Int.tdiv n d - 1 = n / d) ∧ (¬ Int.tmod n d < 0 → Int.tdiv n d = n / d) := by
 have h1 := Int.mul_tdiv_add_tmod n d
 have h2 := Int.tmod_lt_of_pos n hd
 have h3 := Int.lt_tmod_of_pos n hd
 generalize Int.tdiv n d = q at *
 generalize Int.tmod n d = r at *
 subst h1
 constructor
 ·intro h
  have e : d * q + r = (r + d) + d * (q - 1) := by rw [Int.mul_sub, Int.mul_one]; omega
  rw [e, Int.add_mul_ediv_left _ _ om, Int.ediv_eq_zero_of_lt om om]; omega
 ·intro h
  rw [Int.add_comm, Int.add_mul_ediv_left _ _ om, Int.ediv_eq_zero_of_lt om om]; omega
theorem Yie (n d : Int) : ((Int.tdiv n d).natAbs : Int) ≤ (n.natAbs : Int) := by
 rw [Int.natAbs_tdiv]
 exact Int.ofNat_le.2 (Nat.div_le_self _ _)
def Zed (n d : Int) : Int := (2 * n + d) / (2 * d)
theorem Zya (n : Int) {d : Int} (hd : 0 < d) : (d - (n - n / d * d) ≤ n - n / d * d → n / d + 1 = Zed n d) ∧ (¬ d - (n - n / d * d) ≤ n - n / d * d → n / d = Zed n d) := by
 have h1 := Int.mul_ediv_add_emod n d
 have h2 := Int.emod_nonneg n (b := d) om
 have h3 := Int.emod_lt_of_pos n hd
 unfold Zed
 generalize n / d = q at *
 generalize n % d = r at *
 have e0 : q * d = d * q := Int.mul_comm _ _
 have e3 : 2 * d * q = 2 * (d * q) := Int.mul_assoc _ _ _
 constructor
 ·intro h
  have e : 2 * n + d = (2 * r - d) + 2 * d * (q + 1) := by rw [Int.mul_add, e3]; omega
  rw [e, Int.add_mul_ediv_left _ _ om, Int.ediv_eq_zero_of_lt om om]; omega
 ·intro h
  have e : 2 * n + d = (2 * r + d) + 2 * d * q := by rw [e3]; omega
  rw [e, Int.add_mul_ediv_left _ _ om, Int.ediv_eq_zero_of_lt om om]; omega
theorem rest_bd (n : Int) {d : Int} (hd : 0 < d) : 0 ≤ n - n / d * d ∧ n - n / d * d < d := by
 have h1 := Int.mul_ediv_add_emod n d
 have h2 := Int.emod_nonneg n (b := d) om
 have h3 := Int.emod_lt_of_pos n hd
 rw [Int.mul_comm] at h1
 omega
theorem ediv_bd (n : Int) {d : Int} (hd : 0 < d) : -(n.natAbs : Int) ≤ n / d ∧ n / d ≤ (n.natAbs : Int) := by
 constructor
 ·rw [Int.le_ediv_iff_mul_le hd]
  have : (n.natAbs : Int) * 1 ≤ (n.natAbs : Int) * d := Int.mul_le_mul_of_nonneg_left om om
  rw [Int.neg_mul]; omega
 ·have h1 : (n.natAbs : Int) * 1 ≤ (n.natAbs : Int) * d := Int.mul_le_mul_of_nonneg_left om om
  have b : n / d < (n.natAbs : Int) + 1 := Int.ediv_lt_of_lt_mul hd (by rw [Int.add_mul, Int.one_mul]; omega)
  omega
theorem Zfj {x r d : Int} (hd : 0 < d) (h0 : 0 ≤ r) (h1 : r ≤ d) : (0 ≤ x → 0 ≤ Zed (x * r) d ∧ Zed (x * r) d ≤ x) ∧ (x ≤ 0 → x ≤ Zed (x * r) d ∧ Zed (x * r) d ≤ 0) := by
 unfold Zed
 constructor
 ·intro hx
  have a1 : x * r ≤ x * d := Int.mul_le_mul_of_nonneg_left h1 hx
  have a2 : 0 ≤ x * r := Int.mul_nonneg hx h0
  have e : (x + 1) * (2 * d) = 2 * (x * d) + 2 * d := by rw [Int.add_mul, Int.one_mul, Int.mul_left_comm]
  have b : (2 * (x * r) + d) / (2 * d) < x + 1 := Int.ediv_lt_of_lt_mul om (by rw [e]; omega)
  exact ⟨Int.ediv_nonneg om om, by omega⟩
 ·intro hx
  have a1 : x * d ≤ x * r := Int.mul_le_mul_of_nonpos_left hx h1
  have a2 : x * r ≤ 0 := Int.mul_nonpos_of_nonpos_of_nonneg hx h0
  have e : x * (2 * d) = 2 * (x * d) := Int.mul_left_comm _ _ _
  have b : (2 * (x * r) + d) / (2 * d) < 0 + 1 := Int.ediv_lt_of_lt_mul om om
  exact ⟨Int.le_ediv_of_mul_le om (by rw [e]; omega), by omega⟩
theorem Zih {x y A B : Int} (h0 : 0 ≤ x) (h1 : x ≤ A) (h2 : 0 ≤ y) (h3 : y ≤ B) : 0 ≤ x * y ∧ x * y ≤ A * B :=
 ⟨Int.mul_nonneg h0 h2, Int.mul_le_mul h1 h3 h2 om⟩
theorem Zvn {x y A B : Int} (h0 : -A ≤ x) (h1 : x ≤ A) (h2 : 0 ≤ y) (h3 : y ≤ B) : -(A * B) ≤ x * y ∧ x * y ≤ A * B := by
 rcases Int.le_total 0 x with h | h
 ·have := Zih h h1 h2 h3; omega
 ·have := Zih (x := -x) om (by omega : -x ≤ A) h2 h3
  rw [Int.neg_mul] at this; omega
theorem Yas (x : Nat) (h : x < 2 ^ 64) : x < 2 ^ Lib.bitLen x ∧ ∀ k, x < 2 ^ k → Lib.bitLen x ≤ k := by
 induction x using Nat.strongRecOn with
 | _ x ih =>
  by_cases h0 : x = 0
  ·subst h0
   have : Lib.bitLen 0 = 0 := by decide
   rw [this]
   exact ⟨by decide, fun k _ => Nat.zero_le _⟩
  ·have e := Lib.bitLen_half x h0 h
   obtain ⟨h1, h2⟩ := ih (x / 2) om om
   rw [e]
   refine ⟨by rw [Nat.pow_add]; omega, fun k hk => ?_⟩
   cases k with
   | zero => simp at hk; omega
   | succ k =>
    have := h2 k (by rw [Nat.pow_succ] at hk; omega)
    omega
theorem Yeo {a b : Int} (h0 : 0 ≤ a) (h : a ≤ b) : a * a ≤ b * b := Int.mul_le_mul h h h0 om
theorem sq_lt {a b : Int} (h0 : 0 ≤ b) (h : a * a < b * b) : a < b := by
 by_cases h' : a < b
 ·exact h'
 ·have := Yeo h0 (Int.not_lt.1 h'); omega
def Zij : Nat → Nat
 | 0 => 0
 | n + 1 => if (Zij n + 1) * (Zij n + 1) ≤ n + 1 then Zij n + 1 else Zij n
theorem Yep (n : Nat) : Zij n * Zij n ≤ n ∧ n < (Zij n + 1) * (Zij n + 1) := by
 induction n with
 | zero => simp [Zij]
 | succ n ih =>
  unfold Zij
  split
  ·rename_i h
   refine ⟨h, ?_⟩
   have : (Zij n + 1 + 1) * (Zij n + 1 + 1) = (Zij n + 1) * (Zij n + 1) + 2 * (Zij n + 1) + 1 := by
    generalize Zij n + 1 = a
    rw [Nat.add_mul, Nat.mul_add]; omega
   omega
  ·omega
def Ziw (n : Int) : Int := (Zij n.toNat : Int)
theorem Ztd {n : Int} (h : 0 ≤ n) : 0 ≤ Ziw n ∧ Ziw n * Ziw n ≤ n ∧ n < (Ziw n + 1) * (Ziw n + 1) := by
 have := Yep n.toNat
 unfold Ziw
 refine ⟨by omega, ?_, ?_⟩
 ·have h1 : ((Zij n.toNat * Zij n.toNat : Nat) : Int) ≤ (n.toNat : Int) := Int.ofNat_le.2 this.1
  rw [Int.natCast_mul] at h1; omega
 ·have h1 : ((n.toNat : Nat) : Int) < (((Zij n.toNat + 1) * (Zij n.toNat + 1) : Nat) : Int) := Int.ofNat_lt.2 this.2
  rw [Int.natCast_mul] at h1
  have e : ((Zij n.toNat + 1 : Nat) : Int) = (Zij n.toNat : Int) + 1 := by omega
  rw [e] at h1; omega
theorem Zvl {n r : Int} (h0 : 0 ≤ r) (h1 : r * r ≤ n) (h2 : n < (r + 1) * (r + 1)) : Ziw n = r := by
 have hn : 0 ≤ n := Int.le_trans (Int.mul_nonneg h0 h0) h1
 obtain ⟨a, b, c⟩ := Ztd hn
 have e1 : Ziw n < r + 1 := sq_lt om om
 have e2 : r < Ziw n + 1 := sq_lt om om
 omega
theorem rootI_bd {n B : Int} (h : 0 ≤ n) (hB : 0 ≤ B) (h2 : n < (B + 1) * (B + 1)) : 0 ≤ Ziw n ∧ Ziw n ≤ B := by
 obtain ⟨a, b, c⟩ := Ztd h
 have : Ziw n < B + 1 := sq_lt om om
 omega
theorem newton {n r : Int} (hr : 0 < r) : n < ((r + n / r) / 2 + 1) * ((r + n / r) / 2 + 1) := by
 obtain ⟨m, hm⟩ : ∃ m, m = n / r := ⟨_, rfl⟩
 have h1 : n < r * (m + 1) := by
  have := Int.lt_mul_ediv_self_add (x := n) hr
  rw [← hm] at this; rw [Int.mul_add]; omega
 rw [← hm]
 obtain ⟨q, hq⟩ : ∃ q, q = (r + m) / 2 := ⟨_, rfl⟩
 rw [← hq]
 have h2 : r + m + 1 ≤ 2 * (q + 1) := by omega
 by_cases h0 : n < 0
 ·have : 0 ≤ (q + 1) * (q + 1) := by
   rcases Int.le_total 0 (q + 1) with h | h
   ·exact Int.mul_nonneg h h
   ·exact Int.mul_nonneg_of_nonpos_of_nonpos h h
  omega
 have h0 := Int.not_lt.1 h0
 have hm0 : 0 ≤ m := by rw [hm]; exact Int.ediv_nonneg h0 om
 have h3 := Yeo (show 0 ≤ r + m + 1 by omega) h2
 have h4 : (2 * (q + 1)) * (2 * (q + 1)) = 4 * ((q + 1) * (q + 1)) := by
  generalize q + 1 = a
  rw [show (2 * a) * (2 * a) = (2 * 2) * (a * a) by rw [Int.mul_assoc, Int.mul_left_comm a 2 a, ← Int.mul_assoc]]; omega
 have h5 : 4 * (r * (m + 1)) ≤ (r + m + 1) * (r + m + 1) := by
  have h6 : 0 ≤ (r - (m + 1)) * (r - (m + 1)) := by
   rcases Int.le_total 0 (r - (m + 1)) with h | h
   ·exact Int.mul_nonneg h h
   ·exact Int.mul_nonneg_of_nonpos_of_nonpos h h
  have e : r + m + 1 = r + (m + 1) := by omega
  rw [e]
  generalize m + 1 = k at h6 ⊢
  have e1 : (r - k) * (r - k) = r * r - 2 * (r * k) + k * k := by rw [Int.sub_mul, Int.mul_sub, Int.mul_sub, Int.mul_comm k r]; omega
  have e2 : (r + k) * (r + k) = r * r + 2 * (r * k) + k * k := by rw [Int.add_mul, Int.mul_add, Int.mul_add, Int.mul_comm k r]; omega
  omega
 omega
theorem Yeg {n r : Int} (hr : 0 < r) (h : ¬ (r + n / r) / 2 < r) : r * r ≤ n := by
 have h1 : r ≤ n / r := by omega
 have h2 := Int.mul_ediv_self_le (x := n) (k := r) om
 exact Int.le_trans (Int.mul_le_mul_of_nonneg_left h1 om) h2
theorem root0 {n : Int} (h0 : 0 ≤ n) (h1 : n ≤ 1000000000000000) : (Lib.bitLen n.toNat ≤ 50) ∧ (1 ≤ 1 * ((2 ^ ((((Lib.bitLen n.toNat : Nat) : Int) + 1) / 2).toNat : Nat) : Int) ∧ 1 * ((2 ^ ((((Lib.bitLen n.toNat : Nat) : Int) + 1) / 2).toNat : Nat) : Int) ≤ 33554432) ∧
  n < (1 * ((2 ^ ((((Lib.bitLen n.toNat : Nat) : Int) + 1) / 2).toNat : Nat) : Int) + 1) * (1 * ((2 ^ ((((Lib.bitLen n.toNat : Nat) : Int) + 1) / 2).toNat : Nat) : Int) + 1) := by
 obtain ⟨a, b⟩ := Yas n.toNat om
 have hL := b 50 om
 generalize Lib.bitLen n.toNat = L at *
 have e : (((L : Int) + 1) / 2).toNat = (L + 1) / 2 := by omega
 rw [e]
 have hk : (L + 1) / 2 ≤ 25 := by omega
 have h3 : 2 ^ ((L + 1) / 2) ≤ 2 ^ 25 := Nat.pow_le_pow_right (by decide) hk
 have h4 : 1 ≤ 2 ^ ((L + 1) / 2) := Nat.one_le_two_pow
 have h5 : 2 ^ L ≤ 2 ^ ((L + 1) / 2) * 2 ^ ((L + 1) / 2) := by rw [← Nat.pow_add]; exact Nat.pow_le_pow_right (by decide) om
 generalize 2 ^ ((L + 1) / 2) = R at *
 have h6 : n.toNat < R * R := Nat.lt_of_lt_of_le a h5
 have h7 : ((n.toNat : Nat) : Int) < ((R * R : Nat) : Int) := Int.ofNat_lt.2 h6
 rw [Int.natCast_mul] at h7
 refine ⟨hL, by omega, ?_⟩
 have e2 : (1 * (R : Int) + 1) * (1 * (R : Int) + 1) = (R : Int) * R + 2 * R + 1 := by rw [Int.one_mul, Int.add_mul, Int.mul_add]; omega
 omega
theorem Yic {n r : Int} (h : 0 ≤ n) (hr : 0 < r) : 0 ≤ n / r ∧ n / r ≤ n := ⟨Int.ediv_nonneg h om, Int.ediv_le_self _ h⟩
theorem Yef {n q : Int} (h : 0 < n) (hq : 0 ≤ q) (h2 : n < (q + 1) * (q + 1)) : 0 < q := by
 by_cases e : q = 0
 ·subst e; omega
 ·omega
def Zsv (a b : Point) : Int := (a.X - b.X) * (a.X - b.X) + (a.Y - b.Y) * (a.Y - b.Y)
theorem Yeh {x B : Int} (h1 : -B ≤ x) (h2 : x ≤ B) : 0 ≤ x * x ∧ x * x ≤ B * B := by
 rcases Int.le_total 0 x with h | h
 ·exact ⟨Int.mul_nonneg h h, Yeo h h2⟩
 ·have := Yeo (a := -x) (b := B) om om
  rw [Int.neg_mul_neg] at this
  exact ⟨Int.mul_nonneg_of_nonpos_of_nonpos h h, this⟩
theorem Zxw {a b : Point} (ha : okP a = true) (hb : okP b = true) : (0 ≤ (a.X - b.X) * (a.X - b.X) ∧ (a.X - b.X) * (a.X - b.X) ≤ 16769025) ∧ (0 ≤ (a.Y - b.Y) * (a.Y - b.Y) ∧ (a.Y - b.Y) * (a.Y - b.Y) ≤ 16769025) := by
 have h1 := Zfi.1 ha
 have h2 := Zfi.1 hb
 exact ⟨Yeh (B := 4095) om om, Yeh (B := 4095) om om⟩
def Zxx (a b : Point) : Int := Ziw (256 * Zsv a b)
theorem Znu {a b : Point} (ha : okP a = true) (hb : okP b = true) : (0 ≤ Zsv a b ∧ Zsv a b ≤ 33538050) ∧ 0 ≤ Zxx a b ∧ Zxx a b ≤ 92659 := by
 have := Zxw ha hb
 have h : 0 ≤ Zsv a b ∧ Zsv a b ≤ 33538050 := by unfold Zsv; omega
 exact ⟨h, rootI_bd om (by decide) om⟩
def Zvv (xs : List Point) : Nat → Int
 | 0 => 0
 | k + 1 => Zvv xs k + (if k = 0 then 0 else Zxx (at_ xs (k - 1)) (at_ xs k))
theorem Zxy {xs : List Point} {i : Int} (h : 1 ≤ i) : Zvv xs (i + 1).toNat = Zvv xs i.toNat + Zxx (at_ xs (i - 1).toNat) (at_ xs i.toNat) := by
 have e1 : (i + 1).toNat = i.toNat + 1 := by omega
 have e2 : (i - 1).toNat = i.toNat - 1 := by omega
 have e3 : ¬ i.toNat = 0 := by omega
 rw [e1, e2]; simp [Zvv, e3]
def Zei (xs : List Point) (k : Nat) : List Int := (List.range k).map fun j => Zvv xs (j + 1)
theorem Zmy (xs : List Point) (k : Nat) : (Zei xs k).length = k := by simp [Zei]
theorem Zpk {xs : List Point} {k j : Nat} (h : j < k) : at_ (Zei xs k) j = Zvv xs (j + 1) := by simp [at_, Zei, h]
theorem Zsw (xs : List Point) (k : Nat) : Zei xs (k + 1) = Zei xs k ++ [Zvv xs (k + 1)] := by simp [Zei, List.range_succ]
theorem Zvm {s : Stroke} (ok : Zar s = true) : ∀ k : Nat, k ≤ s.Points.length → 0 ≤ Zvv s.Points k ∧ Zvv s.Points k ≤ 92659 * k
 | 0, _ => by simp [Zvv]
 | k + 1, h => by
  have ih := Zvm ok k om
  unfold Zvv
  split
  ·omega
  ·have := Znu (Zig ok (j := k - 1) om) (Zig ok (j := k) om)
   omega
def Zer (n : Nat) (p : Nat → Bool) : Int := match (List.range n).find? p with
 | some i => i
 | none => -1
theorem Zkw {n : Nat} {p : Nat → Bool} {k : Nat} (hk : k < n) (hp : p k = true) (hn : ∀ i, i < k → p i = false) : Zer n p = k := by
 have h : (List.range n).find? p = some k := by
  rw [List.find?_range_eq_some]
  exact ⟨hp, List.mem_range.2 hk, fun j hj => by simpa using hn j hj⟩
 simp [Zer, h]
theorem Zif {n : Nat} {p : Nat → Bool} (hn : ∀ i, i < n → p i = false) : Zer n p = -1 := by
 have h : (List.range n).find? p = none := by
  rw [List.find?_range_eq_none]
  intro i hi; simpa using hn i hi
 simp [Zer, h]
theorem Zoj (n : Nat) (p : Nat → Bool) : (Zer n p = -1 ∧ ∀ i, i < n → p i = false) ∨ ∃ k : Nat, Zer n p = k ∧ k < n ∧ p k = true ∧ ∀ i, i < k → p i = false := by
 by_cases h : ∃ k, k < n ∧ p k = true
 ·right
  obtain ⟨k, hk, hp⟩ := h
  cases e : (List.range n).find? p with
  | none => rw [List.find?_range_eq_none] at e; exact absurd hp (by simpa using e k hk)
  | some i =>
   have e' := e
   rw [List.find?_range_eq_some] at e
   exact ⟨i, by simp [Zer, e'], List.mem_range.1 e.2.1, e.1, fun j hj => by simpa using e.2.2 j hj⟩
 ·left
  have h' : ∀ i, i < n → p i = false := fun i hi => by rw [← Bool.not_eq_true]; exact fun hp => h ⟨i, hi, hp⟩
  exact ⟨Zif h', h'⟩
theorem Znt (n : Nat) (p : Nat → Bool) : decide (0 ≤ Zer n p) = Zvc n p := by
 rcases Zoj n p with ⟨h1, h2⟩ | ⟨k, h1, h2, h3, _⟩
 ·rw [h1, Zyk h2]; decide
 ·rw [h1, Yjc h2 h3]; simp
def Zhb (s : Stroke) (k : Nat) : Int := Zvv s.Points (k + 1)
def Zix (s : Stroke) (part parts : Int) (k : Nat) : Bool := decide (1 ≤ k) && (!decide (Zhb s k = Zhb s (k - 1)) && !decide (Zhb s k * parts < Zhb s (s.Points.length - 1) * part))
def Yak (s : Stroke) (part parts : Int) (k : Nat) : Spot :=
  ⟨(at_ s.Points (k - 1)).X + Zed (((at_ s.Points k).X - (at_ s.Points (k - 1)).X) * (Zhb s (s.Points.length - 1) * part - Zhb s (k - 1) * parts)) ((Zhb s k - Zhb s (k - 1)) * parts),
   (at_ s.Points (k - 1)).Y + Zed (((at_ s.Points k).Y - (at_ s.Points (k - 1)).Y) * (Zhb s (s.Points.length - 1) * part - Zhb s (k - 1) * parts)) ((Zhb s k - Zhb s (k - 1)) * parts)⟩
def Zfw (s : Stroke) (part parts : Int) : Spot :=
 let k := Zer s.Points.length (Zix s part parts)
 if k < 0 then ⟨(at_ s.Points 0).X, (at_ s.Points 0).Y⟩ else Yak s part parts k.toNat
theorem Zvo {s : Stroke} {part parts : Int} {k : Nat} (hk : k < s.Points.length) (h : Zix s part parts k = true) (hn : ∀ j, j < k → Zix s part parts j = false) : Zfw s part parts = Yak s part parts k := by
 have e := Zkw hk h hn
 simp only [Zfw, e]
 rw [if_neg om]; rfl
theorem Znw {s : Stroke} {part parts : Int} (hn : ∀ j, j < s.Points.length → Zix s part parts j = false) : Zfw s part parts = ⟨(at_ s.Points 0).X, (at_ s.Points 0).Y⟩ := by
 have e := Zif hn
 simp only [Zfw, e]; rfl
theorem Yjh {s : Stroke} {k : Nat} (h : 1 ≤ k) : Zhb s k = Zhb s (k - 1) + Zxx (at_ s.Points (k - 1)) (at_ s.Points k) := by
 obtain ⟨m, rfl⟩ : ∃ m, k = m + 1 := ⟨k - 1, by omega⟩
 show Zvv s.Points (m + 1 + 1) = Zvv s.Points (m + 1) + _
 conv => lhs; rw [Zvv]
 rw [if_neg om]
theorem Yji (s : Stroke) : Zhb s 0 = 0 := by simp [Zhb, Zvv]
theorem Zme {s : Stroke} (ok : Zar s = true) {k : Nat} (h : k < s.Points.length) : 0 ≤ Zhb s k ∧ Zhb s k ≤ 5559540 := by
 have h1 := Zvm ok (k + 1) h
 have h2 := Zeo ok
 unfold Zhb; omega
theorem Yaj {s : Stroke} (ok : Zar s = true) {k : Nat} (h : k < s.Points.length) (h1 : 1 ≤ k) : Zhb s (k - 1) ≤ Zhb s k := by
 have := Znu (Zig ok (j := k - 1) om) (Zig ok (j := k) om)
 rw [Yjh h1]; omega
theorem Zkz {s : Stroke} {part parts : Int} {k : Nat} : Zix s part parts k = true ↔ 1 ≤ k ∧ Zhb s k ≠ Zhb s (k - 1) ∧ ¬ Zhb s k * parts < Zhb s (s.Points.length - 1) * part := by simp [Zix]
theorem Znv {s : Stroke} {part parts : Int} {k : Nat} (h : ¬ (1 ≤ k ∧ Zhb s k ≠ Zhb s (k - 1) ∧ ¬ Zhb s k * parts < Zhb s (s.Points.length - 1) * part)) : Zix s part parts k = false := by
 rw [← Bool.not_eq_true, Zkz]; exact h
section
variable {s : Stroke} {part parts : Int}
theorem Ybv (ok : Zar s = true) (hp : 0 ≤ part) : ∀ k, k < s.Points.length → (∀ j, j ≤ k → Zix s part parts j = false) → Zhb s k * parts ≤ Zhb s (s.Points.length - 1) * part
 | 0, h, _ => by
  have h1 := (Zme ok (k := s.Points.length - 1) om).1
  rw [Yji, Int.zero_mul]
  exact Int.mul_nonneg h1 hp
 | k + 1, h, hn => by
  have ih := Ybv ok hp k om (fun j hj => hn j om)
  have h1 := hn (k + 1) (Nat.le_refl _)
  rw [← Bool.not_eq_true, Zkz] at h1
  by_cases e : Zhb s (k + 1) = Zhb s k
  ·rw [e]; exact ih
  ·apply Int.le_of_lt
   apply Classical.byContradiction
   intro hc
   exact h1 ⟨by omega, e, hc⟩
theorem Zqs (ok : Zar s = true) (hp : 0 ≤ part ∧ 1 ≤ parts) {k : Nat} (hk : k < s.Points.length) (h : Zix s part parts k = true) (hn : ∀ j, j < k → Zix s part parts j = false) :
  (0 ≤ Zhb s (s.Points.length - 1) * part - Zhb s (k - 1) * parts ∧ Zhb s (s.Points.length - 1) * part - Zhb s (k - 1) * parts ≤ (Zhb s k - Zhb s (k - 1)) * parts) ∧ 0 < (Zhb s k - Zhb s (k - 1)) * parts := by
 obtain ⟨h1, h2, h3⟩ := Zkz.1 h
 have a := Ybv ok hp.1 (k - 1) om (fun j hj => hn j om)
 have b := Yaj ok hk h1
 have c : 0 < (Zhb s k - Zhb s (k - 1)) * parts := Int.mul_pos om om
 have e : (Zhb s k - Zhb s (k - 1)) * parts = Zhb s k * parts - Zhb s (k - 1) * parts := Int.sub_mul _ _ _
 omega
theorem Zvu (xs : List Point) : ∀ n j, j < n → (Zby xs n).X1 ≤ (at_ xs j).X ∧ (at_ xs j).X ≤ (Zby xs n).X2 ∧ (Zby xs n).Y1 ≤ (at_ xs j).Y ∧ (at_ xs j).Y ≤ (Zby xs n).Y2
 | n + 1, j, h => by
  simp only [Zby, Zdx, ptB]
  by_cases e : j = n
  ·subst e; omega
  ·have := Zvu xs n j om; omega
theorem spot_in (ok : Zar s = true) (hp : 0 ≤ part ∧ 1 ≤ parts) :
  (Zby s.Points s.Points.length).X1 ≤ (Zfw s part parts).X ∧ (Zfw s part parts).X ≤ (Zby s.Points s.Points.length).X2 ∧ (Zby s.Points s.Points.length).Y1 ≤ (Zfw s part parts).Y ∧ (Zfw s part parts).Y ≤ (Zby s.Points s.Points.length).Y2 := by
 have hl := Zeo ok
 rcases Zoj s.Points.length (Zix s part parts) with ⟨_, h⟩ | ⟨k, _, hk, hs, hn⟩
 ·rw [Znw h]; exact Zvu s.Points _ 0 om
 ·rw [Zvo hk hs hn]
  have h1 := (Zkz.1 hs).1
  have hr := Zqs ok hp hk hs hn
  have b0 := Zvu s.Points s.Points.length (k - 1) om
  have b1 := Zvu s.Points s.Points.length k hk
  have nx := Zfj (x := (at_ s.Points k).X - (at_ s.Points (k - 1)).X) hr.2 hr.1.1 hr.1.2
  have ny := Zfj (x := (at_ s.Points k).Y - (at_ s.Points (k - 1)).Y) hr.2 hr.1.1 hr.1.2
  simp only [Yak]
  omega
end
def Zht (dx dy : Int) : Int :=
 if ((dx.natAbs : Int) + (dy.natAbs : Int)) * ((dx.natAbs : Int) + (dy.natAbs : Int)) ≤ (2 * (dx.natAbs : Int)) * (dx.natAbs : Int) then (if 0 < dx then 0 else 4)
 else if ((dx.natAbs : Int) + (dy.natAbs : Int)) * ((dx.natAbs : Int) + (dy.natAbs : Int)) ≤ (2 * (dy.natAbs : Int)) * (dy.natAbs : Int) then (if 0 < dy then 2 else 6)
 else if 0 < dx ∧ 0 < dy then 1 else if dx < 0 ∧ 0 < dy then 3 else if dx < 0 then 5 else 7
theorem dirI_bd (dx dy : Int) : 0 ≤ Zht dx dy ∧ Zht dx dy ≤ 7 := by unfold Zht; (repeat' split) <;> omega
theorem Yct {x : Int} (h : 0 ≤ x) (h2 : x ≤ 4095) : 0 ≤ (2 * x) * x ∧ (2 * x) * x ≤ 33538050 := by
 have := Yeh (x := x) (B := 4095) om h2
 rw [Int.mul_assoc]; omega
theorem Ycu {dx dy : Int} (h : dx = 0) : ((dx.natAbs : Int) + (dy.natAbs : Int)) * ((dx.natAbs : Int) + (dy.natAbs : Int)) ≤ (2 * (dy.natAbs : Int)) * (dy.natAbs : Int) := by
 subst h
 have := Yeh (x := (dy.natAbs : Int)) (B := (dy.natAbs : Int)) om om
 rw [Int.mul_assoc]; simp at this ⊢; omega
section
variable {dx dy : Int} {s : Stroke}
end
def resK (s : Stroke) (n : Int) (k : Nat) : List Spot := (List.range k).map fun j : Nat => Zfw s (j : Int) (n - 1)
def Zbi (s : Stroke) (n : Int) : List Spot := resK s n n.toNat
theorem Zyb {s : Stroke} {n k : Int} (h : 0 ≤ k) : resK s n (k + 1).toNat = resK s n k.toNat ++ [Zfw s k (n - 1)] := by
 have e : (k + 1).toNat = k.toNat + 1 := by omega
 have e2 : ((k.toNat : Nat) : Int) = k := by omega
 rw [e]; simp [resK, List.range_succ, e2]
theorem Zpl (s : Stroke) (n : Int) : (Zbi s n).length = n.toNat := by simp [Zbi, resK]
theorem resQ_at {s : Stroke} {n : Int} {j : Nat} (h : j < n.toNat) : at_ (Zbi s n) j = Zfw s j (n - 1) := by simp [at_, Zbi, resK, h]
theorem Zkq {α β : Type} [Inhabited α] {xs : List α} {f : α → β} {i : Int} {y : β} (h0 : 0 ≤ i) (h : i.toNat < xs.length) (hy : y = f (at_ xs i.toNat)) : (xs.take (i + 1).toNat).map f = (xs.take i.toNat).map f ++ [y] := by
 have e : (i + 1).toNat = i.toNat + 1 := by omega
 rw [e, List.take_succ_eq_append_getElem h, hy, Zej h]
 simp only [List.map_append, List.map_cons, List.map_nil]
theorem Zzv {α β : Type} {xs : List α} {f : α → β} {i : Int} (h : (xs.length : Int) ≤ i) : (xs.take i.toNat).map f = xs.map f := by
 rw [List.take_of_length_le om]
def mpS (f : Point → Point) (s : Stroke) : Stroke := ⟨s.Points.map (f)⟩
def mpI (f : Point → Point) (x : Ink) : Ink := ⟨x.Strokes.map (mpS f)⟩
section
variable {f : Point → Point} {i k : Int} {xs ys : List Stroke}
end
def okF (p : Feat) : Bool := inB p.X 0 255 && (inB p.Y 0 255 && inB p.D 0 7)
theorem Znf {p : Feat} : okF p = true ↔ (0 ≤ p.X ∧ p.X ≤ 255) ∧ (0 ≤ p.Y ∧ p.Y ≤ 255) ∧ (0 ≤ p.D ∧ p.D ≤ 7) := by simp [okF, inB, and_assoc]
def Zbr (xs : List Feat) (m : Int) : Bool := decide (1 ≤ (xs.length : Int) ∧ (xs.length : Int) ≤ m) && Znc xs.length (fun j => okF (at_ xs j))
theorem Zgx {xs : List Feat} {m : Int} (h : Zbr xs m = true) : 1 ≤ xs.length ∧ (xs.length : Int) ≤ m := by
 simp only [Zbr, Bool.and_eq_true, decide_eq_true_eq] at h; omega
theorem Zsz {xs : List Feat} {m : Int} (h : Zbr xs m = true) {j : Nat} (hj : j < xs.length) : okF (at_ xs j) = true := by
 simp only [Zbr, Bool.and_eq_true] at h
 exact Zlb h.2 hj
def skB (s : Stroke) : Box := Zby s.Points s.Points.length
def Zhs (xs : List Stroke) : Nat → Box
 | 0 => skB (at_ xs 0)
 | k + 1 => Zdx (Zhs xs k) (skB (at_ xs k))
def Zqt (a b : Box) : Prop := (b.X1 ≤ a.X1 ∧ a.X2 ≤ b.X2) ∧ b.Y1 ≤ a.Y1 ∧ a.Y2 ≤ b.Y2
theorem Zxv {xs : List Stroke} {i : Int} (h : 0 ≤ i) : Zhs xs (i + 1).toNat = Zdx (Zhs xs i.toNat) (skB (at_ xs i.toNat)) := by
 have : (i + 1).toNat = i.toNat + 1 := by omega
 rw [this]; rfl
theorem Ycs (xs : List Stroke) : Zhs xs 1 = skB (at_ xs 0) := by simp [Zhs, Zdx]
theorem Zvr {x : Ink} (ok : Zbp x = true) (h0 : 1 ≤ x.Strokes.length) : ∀ k, k ≤ x.Strokes.length → Zfk (Zhs x.Strokes k)
 | 0, _ => Zin (Zdc ok 0 om)
 | k + 1, h => Ydc (Zvr ok h0 k om) (Zin (Zdc ok k om))
theorem Zpm (xs : List Stroke) : ∀ n j, j < n → Zqt (skB (at_ xs j)) (Zhs xs n)
 | n + 1, j, h => by
  by_cases e : j = n
  ·subst e; simp only [Zhs, Zdx, Zqt]; omega
  ·have := Zpm xs n j om
   simp only [Zhs, Zdx, Zqt] at this ⊢; omega
def Zcq (b : Box) : Int := max 1 (max (b.X2 - b.X1) (b.Y2 - b.Y1))
def Zcv (p : Spot) (b : Box) : Spot := ⟨(255 - (b.X2 - b.X1) * 255 / Zcq b) / 2 + Zed ((p.X - b.X1) * 255) (Zcq b), (255 - (b.Y2 - b.Y1) * 255 / Zcq b) / 2 + Zed ((p.Y - b.Y1) * 255) (Zcq b)⟩
theorem Zyd {w d : Int} (h0 : 0 ≤ w) (h1 : w ≤ d) (hd : 1 ≤ d) : 0 ≤ w * 255 / d ∧ w * 255 / d ≤ 255 := by
 refine ⟨Int.ediv_nonneg om om, ?_⟩
 have : w * 255 / d < 256 := Int.ediv_lt_of_lt_mul om om
 omega
theorem Yei {x w d : Int} (hx : 0 ≤ x ∧ x ≤ w) (h1 : w ≤ d) (hd : 1 ≤ d) : 0 ≤ (255 - w * 255 / d) / 2 + Zed (x * 255) d ∧ (255 - w * 255 / d) / 2 + Zed (x * 255) d ≤ 255 := by
 have hq := Zyd (w := w) (d := d) om h1 hd
 have hn := (Zfj (x := 255) (r := x) (d := d) om hx.1 om).1 om
 rw [Int.mul_comm 255 x] at hn
 have hs := Zya (x * 255) (d := d) om
 have hm : x * 255 / d ≤ w * 255 / d := Int.ediv_le_ediv om om
 have hle : Zed (x * 255) d ≤ w * 255 / d + 1 := by
  by_cases hc : d - (x * 255 - x * 255 / d * d) ≤ x * 255 - x * 255 / d * d
  ·have := hs.1 hc; omega
  ·have := hs.2 hc; omega
 omega
theorem Yam {b : Box} (hb : Zfk b) : (1 ≤ Zcq b ∧ Zcq b ≤ 4095) ∧ b.X2 - b.X1 ≤ Zcq b ∧ b.Y2 - b.Y1 ≤ Zcq b := by
 unfold Zfk at hb; unfold Zcq; omega
theorem norm_in {p : Spot} {b : Box} (hb : Zfk b) (hp : (b.X1 ≤ p.X ∧ p.X ≤ b.X2) ∧ b.Y1 ≤ p.Y ∧ p.Y ≤ b.Y2) : (0 ≤ (Zcv p b).X ∧ (Zcv p b).X ≤ 255) ∧ 0 ≤ (Zcv p b).Y ∧ (Zcv p b).Y ≤ 255 := by
 have hs := Yam hb
 exact ⟨Yei om hs.2.1 hs.1.1, Yei om hs.2.2 hs.1.1⟩
def Ycv (l : List Spot) : Nat → Int
 | 0 => 0
 | k + 1 => if k + 1 < l.length ∧ ¬ ((at_ l (k + 1)).X - (at_ l k).X = 0 ∧ (at_ l (k + 1)).Y - (at_ l k).Y = 0) then Zht ((at_ l (k + 1)).X - (at_ l k).X) ((at_ l (k + 1)).Y - (at_ l k).Y) else Ycv l k
theorem Zju (l : List Spot) : ∀ k, 0 ≤ Ycv l k ∧ Ycv l k ≤ 7
 | 0 => by simp [Ycv]
 | k + 1 => by
  rw [Ycv]; split
  ·exact dirI_bd _ _
  ·exact Zju l k
theorem Zvq {l : List Spot} {k : Int} (h0 : 0 ≤ k) (h : k + 1 < (l.length : Int)) (hn : ¬ ((at_ l (k + 1).toNat).X - (at_ l k.toNat).X = 0 ∧ (at_ l (k + 1).toNat).Y - (at_ l k.toNat).Y = 0)) :
  Ycv l (k + 1).toNat = Zht ((at_ l (k + 1).toNat).X - (at_ l k.toNat).X) ((at_ l (k + 1).toNat).Y - (at_ l k.toNat).Y) := by
 have e : (k + 1).toNat = k.toNat + 1 := by omega
 rw [e] at hn ⊢
 rw [Ycv, if_pos ⟨by omega, hn⟩]
theorem Zvp {l : List Spot} {k : Int} (h0 : 0 ≤ k) (h : ¬ (k + 1 < (l.length : Int) ∧ ¬ ((at_ l (k + 1).toNat).X - (at_ l k.toNat).X = 0 ∧ (at_ l (k + 1).toNat).Y - (at_ l k.toNat).Y = 0))) : Ycv l (k + 1).toNat = Ycv l k.toNat := by
 have e : (k + 1).toNat = k.toNat + 1 := by omega
 rw [e] at h ⊢
 rw [Ycv, if_neg (fun q => h ⟨by omega, q.2⟩)]
def Yjj (l : List Spot) (b : Box) (k : Nat) : Feat := ⟨(Zcv (at_ l k) b).X, (Zcv (at_ l k) b).Y, Ycv l (k + 1)⟩
def Zrw (l : List Spot) (b : Box) (k : Nat) : List Feat := (List.range k).map (Yjj l b)
theorem Zgr {l : List Spot} {b : Box} {k : Int} (h : 0 ≤ k) : Zrw l b (k + 1).toNat = Zrw l b k.toNat ++ [⟨(Zcv (at_ l k.toNat) b).X, (Zcv (at_ l k.toNat) b).Y, Ycv l (k + 1).toNat⟩] := by
 have e : (k + 1).toNat = k.toNat + 1 := by omega
 rw [e]; simp [Zrw, List.range_succ, Yjj]
def Zil (s : Stroke) (n : Int) (b : Box) : List Feat := Zrw (Zbi s n) b (Zbi s n).length
theorem Yjk (l : List Spot) (b : Box) (k : Nat) : (Zrw l b k).length = k := by simp [Zrw]
theorem Zqu (s : Stroke) (n : Int) (b : Box) : (Zil s n b).length = n.toNat := by rw [Zil, Yjk, Zpl]
def Zor (xs : List Stroke) (n : Int) (b : Box) : Nat → List Feat
 | 0 => []
 | i + 1 => Zor xs n b i ++ Zil (at_ xs i) n b
theorem Zsx {xs : List Stroke} {n : Int} {b : Box} {i : Int} (h : 0 ≤ i) : Zor xs n b (i + 1).toNat = Zor xs n b i.toNat ++ Zil (at_ xs i.toNat) n b := by
 have e : (i + 1).toNat = i.toNat + 1 := by omega
 rw [e]; rfl
theorem Zyn (xs : List Stroke) (n : Int) (b : Box) : ∀ i, (Zor xs n b i).length = i * n.toNat
 | 0 => by simp [Zor]
 | i + 1 => by rw [Zor, List.length_append, Zyn, Zqu, Nat.succ_mul]
def feA (x : Ink) (n : Int) : List Feat := Zor x.Strokes n (Zhs x.Strokes x.Strokes.length) x.Strokes.length
def feR (x : Ink) (n : Int) : List Feat × Int := if Zbp x = true then (if inB n 2 24 = true then (if (x.Strokes.length : Int) = 0 then ([], 6) else (feA x n, 0)) else ([], 2)) else ([], 1)
theorem feR_inv {x : Ink} {n : Int} (h : Zbp x = false) : feR x n = ([], 1) := by simp [feR, h]
theorem feR_rng {x : Ink} {n : Int} (h : Zbp x = true) (h2 : inB n 2 24 = false) : feR x n = ([], 2) := by simp [feR, h, h2]
theorem feR_st {x : Ink} {n : Int} (h : Zbp x = true) (h2 : inB n 2 24 = true) (h3 : (x.Strokes.length : Int) = 0) : feR x n = ([], 6) := by rw [feR, if_pos h, if_pos h2, if_pos h3]
theorem Zto {x : Ink} {n : Int} (h : Zbp x = true) (h2 : inB n 2 24 = true) (h3 : ¬ (x.Strokes.length : Int) = 0) : feR x n = (feA x n, 0) := by rw [feR, if_pos h, if_pos h2, if_neg h3]
theorem feR_ok {x : Ink} {n : Int} (h : (feR x n).2 = 0) : Zbp x = true ∧ inB n 2 24 = true ∧ ¬ (x.Strokes.length : Int) = 0 ∧ feR x n = (feA x n, 0) := by
 unfold feR at h ⊢
 split at h
 ·rename_i h1
  split at h
  ·rename_i h2
   split at h
   ·cases h
   ·rename_i h3
    exact ⟨h1, h2, h3, by rw [if_pos h1, if_pos h2, if_neg h3]⟩
  ·cases h
 ·cases h
theorem spot_box {s : Stroke} {b : Box} {part parts : Int} (ok : Zar s = true) (hp : 0 ≤ part ∧ 1 ≤ parts) (hb : Zqt (skB s) b) : (b.X1 ≤ (Zfw s part parts).X ∧ (Zfw s part parts).X ≤ b.X2) ∧ b.Y1 ≤ (Zfw s part parts).Y ∧ (Zfw s part parts).Y ≤ b.Y2 := by
 have h := spot_in ok hp
 unfold Zqt skB at hb; omega
theorem Zmz {s : Stroke} {b : Box} {n : Int} (ok : Zar s = true) (hn : 2 ≤ n) (hb : Zqt (skB s) b) {j : Nat} (hj : j < (Zbi s n).length) : (b.X1 ≤ (at_ (Zbi s n) j).X ∧ (at_ (Zbi s n) j).X ≤ b.X2) ∧ b.Y1 ≤ (at_ (Zbi s n) j).Y ∧ (at_ (Zbi s n) j).Y ≤ b.Y2 := by
 rw [Zpl] at hj
 rw [resQ_at hj]
 exact spot_box ok om hb
theorem featK_in {l : List Spot} {b : Box} (hb : Zfk b) (h : ∀ j, j < l.length → (b.X1 ≤ (at_ l j).X ∧ (at_ l j).X ≤ b.X2) ∧ b.Y1 ≤ (at_ l j).Y ∧ (at_ l j).Y ≤ b.Y2) : ∀ f ∈ Zrw l b l.length, okF f = true := by
 intro f hf
 simp only [Zrw, List.mem_map, List.mem_range] at hf
 obtain ⟨j, hj, rfl⟩ := hf
 have h1 := norm_in hb (h j hj)
 have h2 := Zju l (j + 1)
 simp only [okF, Yjj, Bool.and_eq_true, Zjk]
 omega
theorem Ydd {x : Ink} {n : Int} {b : Box} (ok : Zbp x = true) (hn : 2 ≤ n) (hb : Zfk b) (hi : ∀ j, j < x.Strokes.length → Zqt (skB (at_ x.Strokes j)) b) : ∀ i, i ≤ x.Strokes.length → ∀ f ∈ Zor x.Strokes n b i, okF f = true
 | 0, _, f, hf => by simp [Zor] at hf
 | i + 1, h, f, hf => by
  rw [Zor, List.mem_append] at hf
  rcases hf with hf | hf
  ·exact Ydd ok hn hb hi i om f hf
  ·exact featK_in hb (fun j hj => Zmz (Zdc ok i om) hn (hi i om) hj) f hf
theorem fe_valid {x : Ink} {n : Int} (h : (feR x n).2 = 0) : Zbr (feR x n).1 384 = true ∧ ((feR x n).1.length : Int) = n * (x.Strokes.length : Int) := by
 obtain ⟨ok, hn, h0, e⟩ := feR_ok h
 have hn' := Zjk.1 hn
 have hl := Zgp ok
 rw [e]
 have hlen : (feA x n).length = x.Strokes.length * n.toNat := Zyn _ _ _ _
 have hint : ((feA x n).length : Int) = n * (x.Strokes.length : Int) := by
  rw [hlen, Int.natCast_mul, Int.mul_comm, show ((n.toNat : Nat) : Int) = n by omega]
 refine ⟨?_, hint⟩
 have hm := Zih (x := n) (y := (x.Strokes.length : Int)) (A := 24) (B := 16) om om om hl
 have hm2 : 1 * 1 ≤ n * (x.Strokes.length : Int) := Int.mul_le_mul om om om om
 simp only [Zbr, Bool.and_eq_true, decide_eq_true_eq]
 refine ⟨by show 1 ≤ ((feA x n).length : Int) ∧ ((feA x n).length : Int) ≤ 384; omega, Zna.2 fun j hj => ?_⟩
 exact Ydd ok om (Zvr ok om _ (Nat.le_refl _)) (fun j hj => Zpm x.Strokes _ j hj) _ (Nat.le_refl _) _ (Zdf hj)
section
variable {dx dy : Int}
end
theorem Yij (ik : Ink) (ok : Zbp ik = true) (h0 : 1 ≤ ik.Strokes.length) : Con Tryz.prog 68 [.ptr false [Zae false ik.Strokes]] true (Zfo (Zhs ik.Strokes ik.Strokes.length)) := by
  refine Zbu (fn := Tryz.f68) (nt := 30) Tryz.func68 rfl rfl rfl rfl (by simp [Zag, Zaj, Zck]) fun B hB => ?_
  refine Zbt (x := .ptr false [Zae false ik.Strokes]) 0 rfl (fun len_ik => ?_)
  simp [Zdk, Zgf, Zee, Zft, Zdl, Zbl, Zaq, Zae] at len_ik
  refine aQ [(0, .new 2)] [0, 2] [2] [] hB trivial ?_
  refine aQ [(5, .call [(true, .any)] true (Zfo (Zby (at_ ik.Strokes 0).Points (at_ ik.Strokes 0).Points.length))), (6, .new 3)] [0, 2, 3] [2, 3] [(0 : Int) ≤ 0 ∧ 0 < (ik.Strokes.length : Int), _ ∧ True] hB ⟨⟨om, om⟩, ⟨(Zhw (at_ ik.Strokes 0) (Zdc ok _ om)), trivial⟩, trivial⟩ ?_
  refine Zah ?_
  refine aR [] [0, 2, 3, 4] [2, 3] [.ptr false [Zae false ik.Strokes], .ref 2 0, .ref 3 0, I 1] [some (.box [I 0, I 0, I 0, I 0]), some (Zef (Zby (at_ ik.Strokes 0).Points (at_ ik.Strokes 0).Points.length))] [] hB trivial ?_
  refine Zau ?_
  refine Zhz hB [] (T := [(0, .ptr false [Zae false ik.Strokes]), (2, .ref 2 0), (3, .ref 3 0), (4, I 1)]) (O := [(2, .box [I 0, I 0, I 0, I 0]), (3, .box [I ((Zby (at_ ik.Strokes 0).Points (at_ ik.Strokes 0).Points.length).X1), I ((Zby (at_ ik.Strokes 0).Points (at_ ik.Strokes 0).Points.length).Y1), I ((Zby (at_ ik.Strokes 0).Points (at_ ik.Strokes 0).Points.length).X2), I ((Zby (at_ ik.Strokes 0).Points (at_ ik.Strokes 0).Points.length).Y2)])]) rfl (⟨.inl rfl, .inl rfl, .inl rfl, .inl rfl, trivial⟩) (⟨.inl rfl, .inr ⟨rfl, ⟨rfl, ⟨rfl, ⟨rfl, rfl⟩⟩⟩⟩, trivial⟩) ?_
  refine Zcn (fun gn gσ => ∃ (i : Int) (x1 : Int) (y1 : Int) (x2 : Int) (y2 : Int), gn = ((ik.Strokes.length : Int) - i).toNat ∧ (1 ≤ i ∧ i ≤ (ik.Strokes.length : Int)) ∧ (Box.mk x1 y1 x2 y2 = Zhs ik.Strokes i.toNat) ∧ gσ = mkS [(0, .ptr false [Zae false ik.Strokes]), (2, .ref 2 0), (3, .ref 3 0), (4, I i)] [(2, .box [I 0, I 0, I 0, I 0]), (3, .box [I x1, I y1, I x2, I y2])]) (((ik.Strokes.length : Int) - 1).toNat) ⟨1, (Zby (at_ ik.Strokes 0).Points (at_ ik.Strokes 0).Points.length).X1, (Zby (at_ ik.Strokes 0).Points (at_ ik.Strokes 0).Points.length).Y1, (Zby (at_ ik.Strokes 0).Points (at_ ik.Strokes 0).Points.length).X2, (Zby (at_ ik.Strokes 0).Points (at_ ik.Strokes 0).Points.length).Y2, rfl, om, (by first | rfl | exact (Ycs _).symm), rfl⟩ (fun gn gσ hI => ?_)
  obtain ⟨i, x1, y1, x2, y2, rfl, hi0, hb1, rfl⟩ := hI
  refine Zah ?_
  refine Zah ?_
  by_cases h1 : i < (ik.Strokes.length : Int)
  ·have hi : i.toNat < ik.Strokes.length := by omega
   refine Zbm [(6, .dec true)] [0, 2, 3, 4, 17] [2, 3] [_] hB ⟨h1, trivial⟩ ?_
   refine Zaa ?_
   refine Zbq ?_
   refine Zas ?_
   refine Zaa ?_
   refine Zah ?_
   refine Zau ?_
   refine Zbm [(7, .call [(true, .any)] true (Zfo (Zby (at_ ik.Strokes i.toNat).Points (at_ ik.Strokes i.toNat).Points.length))), (8, .call [(true, .any), (true, .any)] true (Zfo (Zdx (Box.mk x1 y1 x2 y2) (Zby (at_ ik.Strokes i.toNat).Points (at_ ik.Strokes i.toNat).Points.length))))] [0, 2, 3, 4] [2, 3] [(0 : Int) ≤ i ∧ i < (ik.Strokes.length : Int), _ ∧ True, _ ∧ True] hB ⟨⟨om, om⟩, ⟨(Zhw (at_ ik.Strokes i.toNat) (Zdc ok _ om)), trivial⟩, ⟨(Ztc (Box.mk x1 y1 x2 y2) (Zby (at_ ik.Strokes i.toNat).Points (at_ ik.Strokes i.toNat).Points.length)), trivial⟩, trivial⟩ ?_
   refine Zba 1 ?_
   refine Zaa ?_
   refine Zdg [] [0, 2, 3, 4] [2, 3] [.ptr false [Zae false ik.Strokes], .ref 2 0, .ref 3 0, I (i + 1)] [some (.box [I 0, I 0, I 0, I 0]), some (Zef (Zdx (Box.mk x1 y1 x2 y2) (Zby (at_ ik.Strokes i.toNat).Points (at_ ik.Strokes i.toNat).Points.length)))] [inR .i64 (i + 1)] hB ⟨(Zac om om), trivial⟩ ?_
   refine Zeq hB [] (T := [(0, .ptr false [Zae false ik.Strokes]), (2, .ref 2 0), (3, .ref 3 0), (4, I (i + 1))]) (O := [(2, .box [I 0, I 0, I 0, I 0]), (3, .box [I ((Zdx (Box.mk x1 y1 x2 y2) (Zby (at_ ik.Strokes i.toNat).Points (at_ ik.Strokes i.toNat).Points.length)).X1), I ((Zdx (Box.mk x1 y1 x2 y2) (Zby (at_ ik.Strokes i.toNat).Points (at_ ik.Strokes i.toNat).Points.length)).Y1), I ((Zdx (Box.mk x1 y1 x2 y2) (Zby (at_ ik.Strokes i.toNat).Points (at_ ik.Strokes i.toNat).Points.length)).X2), I ((Zdx (Box.mk x1 y1 x2 y2) (Zby (at_ ik.Strokes i.toNat).Points (at_ ik.Strokes i.toNat).Points.length)).Y2)])]) rfl (⟨.inl rfl, .inl rfl, .inl rfl, .inl rfl, trivial⟩) (⟨.inl rfl, .inr ⟨rfl, ⟨rfl, ⟨rfl, ⟨rfl, rfl⟩⟩⟩⟩, trivial⟩) (Zbf _ om ⟨(i + 1), (Zdx (Box.mk x1 y1 x2 y2) (Zby (at_ ik.Strokes i.toNat).Points (at_ ik.Strokes i.toNat).Points.length)).X1, (Zdx (Box.mk x1 y1 x2 y2) (Zby (at_ ik.Strokes i.toNat).Points (at_ ik.Strokes i.toNat).Points.length)).Y1, (Zdx (Box.mk x1 y1 x2 y2) (Zby (at_ ik.Strokes i.toNat).Points (at_ ik.Strokes i.toNat).Points.length)).X2, (Zdx (Box.mk x1 y1 x2 y2) (Zby (at_ ik.Strokes i.toNat).Points (at_ ik.Strokes i.toNat).Points.length)).Y2, rfl, om, (by rw [Zxv om, ← hb1]; rfl), rfl⟩)
  have hie : i.toNat = ik.Strokes.length := by omega
  rw [hie] at hb1
  refine Zbm [(6, .dec false)] [0, 2, 3, 4, 17] [2, 3] [_] hB ⟨h1, trivial⟩ ?_
  refine Zaa ?_
  refine Zbj ?_
  refine Zcj ?_
  refine Zal ?_
  refine Zal ?_
  refine Zaw ?_
  refine Zaa ?_
  refine aR [] [2] [2] [.ref 2 0] [some (.box [I x1, I y1, I x2, I y2])] [] hB trivial ?_
  refine Zam ?_
  refine Zan hB (.agg [I x1, I y1, I x2, I y2]) (by kernel_rfl) (.inl (by rw [← hb1])) rfl (fun _ => (by simp [Zaj, Zag]))
theorem Yjl (a : Point) (b : Point) (ha : okP a = true) (hb : okP b = true) : Con Tryz.prog 189 [Zct a, Zct b] true (I (Zsv a b)) := by
 have ha' := Zfi.1 ha
 have hb' := Zfi.1 hb
 have hfb := Zxw ha hb
 refine Zbu (fn := Tryz.f189) (nt := 24) Tryz.func189 rfl rfl rfl rfl (by simp [Zag, Zaj]) fun B hB => ?_
 refine aQ [(0, .new 2), (1, .new 3)] [2, 3] [2, 3] [] hB trivial ?_
 refine aQ [] [2, 3, 5] [2, 3] [inR .i64 (a.X - b.X)] hB ⟨(Zac om om), trivial⟩ ?_
 refine aQ [] [5, 6] [] [inR .i64 (a.Y - b.Y)] hB ⟨(Zac om om), trivial⟩ ?_
 refine aR [] [4] [] [I (((a.X - b.X) * (a.X - b.X)) + ((a.Y - b.Y) * (a.Y - b.Y)))] [] [inR .i64 ((a.X - b.X) * (a.X - b.X)), inR .i64 ((a.Y - b.Y) * (a.Y - b.Y)), inR .i64 (((a.X - b.X) * (a.X - b.X)) + ((a.Y - b.Y) * (a.Y - b.Y)))] hB ⟨(Zac om om), (Zac om om), (Zac om om), trivial⟩ ?_
 refine Zam ?_
 refine Zan hB (I (((a.X - b.X) * (a.X - b.X)) + ((a.Y - b.Y) * (a.Y - b.Y)))) (by kernel_rfl) (.inl (by first | rfl | (refine congrArg Bv ?_; simp [*]; done) | (refine congrArg Bv ?_; simp [*]; omega) | (refine congrArg Bv ?_; simp_all []; done) | (refine congrArg Bv ?_; simp_all []; omega))) rfl (fun _ => trivial)
theorem Yeq (n : Int) (hn : 0 ≤ n ∧ n ≤ 1000000000000000) : Con Tryz.prog 188 [I n] true (I (Ziw n)) := by
  refine Zbu (fn := Tryz.f188) (nt := 23) Tryz.func188 rfl rfl rfl rfl (by simp [Zag, Zaj]) fun B hB => ?_
  refine aQ [] [0] [] [] hB trivial ?_
  refine aQ [] [0, 3] [] [] hB trivial ?_
  refine aR [] [0, 3, 4] [] [I n, I 0, I 40000000] [] [] hB trivial ?_
  refine Zah ?_
  refine Zau ?_
  refine Zcn (fun gn gσ => ∃ (low : Int) (high : Int), gn = ((high : Int) - low).toNat ∧ (0 ≤ low ∧ low ≤ high ∧ high ≤ 40000000) ∧ (low * low ≤ n) ∧ (n < (high + 1) * (high + 1)) ∧ gσ = mkS [(0, I n), (3, I low), (4, I high)] []) (((40000000 : Int) - 0).toNat) ⟨0, 40000000, rfl, om, om, om, rfl⟩ (fun gn gσ hI => ?_)
  obtain ⟨low, high, rfl, hl0, hl1, hl2, rfl⟩ := hI
  have hmm := Yeo (a := (((low + high) + 1) / 2)) (b := 40000000) om om
  have hmz := Yeo (a := 0) (b := (((low + high) + 1) / 2)) om om
  refine Zah ?_
  refine Zah ?_
  by_cases h1 : low < high
  ·refine Zbm [(2, .dec true)] [0, 3, 4, 8] [] [_] hB ⟨h1, trivial⟩ ?_
   refine Zaa ?_
   refine Zbq ?_
   refine Zas ?_
   refine Zaa ?_
   refine Zau ?_
   refine aQ [(4, .nn)] [0, 3, 4, 5] [] [inR .i64 (low + high), inR .i64 ((low + high) + 1), (0 : Int) ≤ ((low + high) + 1) ∧ (0 : Int) < 2 ∧ inR .i64 ((low + high) + 1)] hB ⟨(Zac om om), (Zac om om), ⟨om, om, (Zac om om)⟩, trivial⟩ ?_
   refine Zah ?_
   by_cases h2 : ((((low + high) + 1) / 2) * (((low + high) + 1) / 2)) ≤ n
   ·refine Zbm [(4, .dec true)] [0, 3, 4, 5, 18] [] [inR .i64 ((((low + high) + 1) / 2) * (((low + high) + 1) / 2)), _] hB ⟨(Zac om om), h2, trivial⟩ ?_
    refine Zaa ?_
    refine Zbq ?_
    refine Zdg [] [0, 3, 4] [] [I n, I (((low + high) + 1) / 2), I high] [] [] hB trivial ?_
    refine Zba 1 ?_
    exact Zbf _ om ⟨(((low + high) + 1) / 2), high, rfl, om, om, (by first | omega | (rw [show ∀ x : Int, x - 1 + 1 = x from fun x => by omega]; omega)), rfl⟩
   refine Zbm [(4, .dec false)] [0, 3, 4, 5, 18] [] [inR .i64 ((((low + high) + 1) / 2) * (((low + high) + 1) / 2)), _] hB ⟨(Zac om om), h2, trivial⟩ ?_
   refine Zaa ?_
   refine Zbj ?_
   refine Zdg [] [0, 3, 4] [] [I n, I low, I ((((low + high) + 1) / 2) - 1)] [] [inR .i64 ((((low + high) + 1) / 2) - 1)] hB ⟨(Zac om om), trivial⟩ ?_
   refine Zba 1 ?_
   exact Zbf _ om ⟨low, ((((low + high) + 1) / 2) - 1), rfl, om, om, (by first | omega | (rw [show ∀ x : Int, x - 1 + 1 = x from fun x => by omega]; omega)), rfl⟩
  refine Zbm [(2, .dec false)] [0, 3, 4, 8] [] [_] hB ⟨h1, trivial⟩ ?_
  refine Zaa ?_
  refine Zbj ?_
  refine Zcj ?_
  refine Zal ?_
  refine Zal ?_
  refine Zaw ?_
  refine Zaa ?_
  refine aR [] [2] [] [I low] [] [] hB trivial ?_
  refine Zam ?_
  refine Zan hB (I low) (by kernel_rfl) (.inl (by exact congrArg I (Eq.symm (Zvl hl0.1 hl1 (by have e : high = low := om; rw [e] at hl2; exact hl2))))) rfl (fun _ => trivial)
theorem Zyo (a : Point) (b : Point) (ha : okP a = true) (hb : okP b = true) : Con Tryz.prog 175 [Zct a, Zct b] true (I (Zxx a b)) := by
 have ha' := Zfi.1 ha
 have hb' := Zfi.1 hb
 have hfb := Zxw ha hb
 have hlb := Znu ha hb
 refine Zbu (fn := Tryz.f175) (nt := 10) Tryz.func175 rfl rfl rfl rfl (by simp [Zag, Zaj]) fun B hB => ?_
 refine aQ [(0, .new 2), (1, .new 3)] [2, 3] [2, 3] [] hB trivial ?_
 refine aR [(2, .call [(true, .any), (true, .any)] true (I (Zsv a b))), (4, .call [(true, .any)] true (I (Ziw (256 * (Zsv a b)))))] [4] [] [I (Ziw (256 * (Zsv a b)))] [] [_ ∧ True, inR .i64 (256 * (Zsv a b)), _ ∧ True] hB ⟨⟨(Yjl a b ha hb), trivial⟩, (Zac om om), ⟨(Yeq (256 * (Zsv a b)) om), trivial⟩, trivial⟩ ?_
 refine Zam ?_
 refine Zan hB (I (Ziw (256 * (Zsv a b)))) (by kernel_rfl) (.inl (by first | rfl | (refine congrArg Bv ?_; simp [*]; done) | (refine congrArg Bv ?_; simp [*]; omega) | (refine congrArg Bv ?_; simp_all []; done) | (refine congrArg Bv ?_; simp_all []; omega))) rfl (fun _ => trivial)
theorem Yer (s : Stroke) (ok : Zar s = true) : Con Tryz.prog 146 [.ptr false [Zaq false s.Points]] true (slI true (Zei s.Points s.Points.length)) := by
  have hln := Zeo ok
  refine Zbu (fn := Tryz.f146) (nt := 41) Tryz.func146 rfl rfl rfl rfl (by simp [Zag, Zaj, Zec]) fun B hB => ?_
  refine Zbt (x := .ptr false [Zaq false s.Points]) 0 rfl (fun len_s => ?_)
  simp [Zdk, Zgf, Zee, Zdl, Zaq] at len_s
  refine aQ [] [0] [] [] hB trivial ?_
  refine aQ [(0, .new 5)] [0, 3] [5] [] hB trivial ?_
  refine Zah ?_
  refine aR [] [0, 3, 4] [5] [.ptr false [Zaq false s.Points], .arr 5, I 1] [some (.arr 1 1 (Zgm [I 0] 1))] [] hB trivial ?_
  refine Zau ?_
  refine Zhz hB [] (T := [(0, .ptr false [Zaq false s.Points]), (3, .arr 5), (4, I 1)]) (O := [(5, tAI ([0]))]) rfl (⟨.inl rfl, .inl rfl, .inl rfl, trivial⟩) (⟨.inr ⟨rfl, (by first | rfl | (simp; done) | (simp; omega) | omega), fun i_ hi_ => .inl (match i_, hi_ with | 0, _ => rfl | (i + 1), h => absurd h (by simp))⟩, trivial⟩) ?_
  refine Zcn (fun gn gσ => ∃ (out : List Int) (i : Int), gn = ((s.Points.length : Int) - i).toNat ∧ (1 ≤ i ∧ i ≤ (s.Points.length : Int)) ∧ (out = Zei s.Points i.toNat) ∧ gσ = mkS [(0, .ptr false [Zaq false s.Points]), (3, .arr 5), (4, I i)] [(5, tAI out)]) (((s.Points.length : Int) - 1).toNat) ⟨[0], 1, rfl, om, (by rfl), rfl⟩ (fun gn gσ hI => ?_)
  obtain ⟨out, i, rfl, hi0, hs0, rfl⟩ := hI
  refine Zah ?_
  refine Zah ?_
  by_cases h1 : i < (s.Points.length : Int)
  ·have hi : i.toNat < s.Points.length := by omega
   have hi2 : (i - 1).toNat < s.Points.length := by omega
   have hp1 := Zig ok hi2
   have hp2 := Zig ok hi
   have hlb := Znu hp1 hp2
   have hal : out.length = i.toNat := by rw [hs0, Zmy]
   have hav : at_ out (i - 1).toNat = Zvv s.Points i.toNat := by rw [hs0, Zpk om]; congr 1; omega
   have hsb := Zvm ok i.toNat om
   refine Zbm [(6, .dec true)] [0, 3, 4, 12] [5] [_] hB ⟨h1, trivial⟩ ?_
   refine Zaa ?_
   refine Zbq ?_
   refine Zas ?_
   refine Zaa ?_
   refine Zah ?_
   refine Zau ?_
   refine Zbm [(21, .call [(true, .any), (true, .any)] true (I (Zxx (at_ s.Points ((i - 1).toNat)) (at_ s.Points i.toNat)))), (23, .new 38), (24, .new 39)] [0, 3, 4] [39] [inR .i64 (i - 1), (0 : Int) ≤ (i - 1) ∧ (i - 1) < (out.length : Int), (i - 1).toNat < out.length, inR .i64 (i - 1), (0 : Int) ≤ (i - 1) ∧ (i - 1) < (s.Points.length : Int), (0 : Int) ≤ i ∧ i < (s.Points.length : Int), _ ∧ True, inR .i64 ((at_ out ((i - 1).toNat)) + (Zxx (at_ s.Points ((i - 1).toNat)) (at_ s.Points i.toNat))), (out.length + 1) * 8 ≤ 140737488355328] hB ⟨(Zac om om), ⟨om, om⟩, om, (Zac om om), ⟨om, om⟩, ⟨om, om⟩, ⟨(Zyo (at_ s.Points ((i - 1).toNat)) (at_ s.Points i.toNat) hp1 hp2), trivial⟩, (Zac om om), om, trivial⟩ ?_
   refine Zba 1 ?_
   refine Zaa ?_
   refine Zdg [] [0, 3, 4] [39] [.ptr false [Zaq false s.Points], .arr 39, I (i + 1)] [some (.arr 1 (out.length + 1) (Zgb out.length (fI out) (Zgm [I ((at_ out ((i - 1).toNat)) + (Zxx (at_ s.Points ((i - 1).toNat)) (at_ s.Points i.toNat)))] 1)))] [inR .i64 (i + 1)] hB ⟨(Zac om om), trivial⟩ ?_
   refine Zeq hB [(5, 39)] (T := [(0, .ptr false [Zaq false s.Points]), (3, .arr 5), (4, I (i + 1))]) (O := [(5, tAI (out ++ [((at_ out ((i - 1).toNat)) + (Zxx (at_ s.Points ((i - 1).toNat)) (at_ s.Points i.toNat)))]))]) rfl (⟨.inl rfl, .inl rfl, .inl rfl, trivial⟩) (⟨.inr ⟨rfl, (by first | rfl | (simp; done) | (simp; omega) | omega), fun i_ hi_ => .inl (Zcm (enc := cI) (xs := out) rfl i_ hi_)⟩, trivial⟩) (Zbf _ om ⟨(out ++ [((at_ out ((i - 1).toNat)) + (Zxx (at_ s.Points ((i - 1).toNat)) (at_ s.Points i.toNat)))]), (i + 1), rfl, om, (by have e : (i + 1).toNat = i.toNat + 1 := om; rw [e, Zsw, ← e, Zxy hi0.1, ← hs0, hav]), rfl⟩)
  have hie : i.toNat = s.Points.length := by omega
  rw [hie] at hs0
  subst hs0
  refine Zbm [(6, .dec false)] [0, 3, 4, 12] [5] [_] hB ⟨h1, trivial⟩ ?_
  refine Zaa ?_
  refine Zbj ?_
  refine Zcj ?_
  refine Zal ?_
  refine Zal ?_
  refine Zaw ?_
  refine Zaa ?_
  refine aR [] [2] [5] [.arr 5] [some (tAI (Zei s.Points s.Points.length))] [] hB trivial ?_
  refine Zam ?_
  refine Zan hB (.arr 5) (by kernel_rfl) (.inr ⟨(fun _ => rfl), rfl, rfl, fun i _ => .inl rfl⟩) rfl (fun _ => (tagI true _))
theorem Yes (p : Point) : Con Tryz.prog 176 [Zct p] true (.agg [I p.X, I p.Y]) := by
 refine Zbu (fn := Tryz.f176) (nt := 8) Tryz.func176 rfl rfl rfl rfl (by simp [Zag, Zaj]) fun B hB => ?_
 refine aQ [(0, .new 1), (1, .new 2)] [1, 2] [1, 2] [] hB trivial ?_
 refine aR [] [2] [2] [.ref 2 0] [some (.box [I p.X, I p.Y])] [] hB trivial ?_
 refine Zam ?_
 refine Zan hB (.agg [I p.X, I p.Y]) (by kernel_rfl) (.inl rfl) rfl (fun _ => (by simp [Zaj, Zag]))
theorem Yet (n : Int) (d : Int) (hn : (-4611686018427387904 ≤ n ∧ n ≤ 4611686018427387904) ∧ 0 < d) : Con Tryz.prog 177 [I n, I d] true (I (n / d)) := by
  have hq := Yie n d
  have hs := Zxz n hn.2
  refine Zbu (fn := Tryz.f177) (nt := 16) Tryz.func177 rfl rfl rfl rfl (by simp [Zag, Zaj]) fun B hB => ?_
  refine aQ [] [0, 1] [] [] hB trivial ?_
  refine aQ [] [0, 1, 5] [] [(d : Int) ≠ 0 ∧ inR .i64 (Int.tdiv n d)] hB ⟨⟨by omega, (Zac om om)⟩, trivial⟩ ?_
  refine Zah ?_
  refine Zah ?_
  by_cases h1 : (Int.tmod n d) < 0
  ·refine Zbm [(3, .dec true)] [5, 12] [] [(d : Int) ≠ 0, _] hB ⟨om, h1, trivial⟩ ?_
   refine Zaa ?_
   refine Zbq ?_
   refine Zbm [] [5] [] [inR .i64 ((Int.tdiv n d) - 1)] hB ⟨(Zac om om), trivial⟩ ?_
   refine Zaa ?_
   refine aR [] [4] [] [I ((Int.tdiv n d) - 1)] [] [] hB trivial ?_
   refine Zam ?_
   refine Zan hB (I ((Int.tdiv n d) - 1)) (by kernel_rfl) (.inl (by refine congrArg I ?_; first | exact hs.1 (by assumption) | exact hs.2 (by assumption))) rfl (fun _ => trivial)
  refine Zbm [(3, .dec false)] [5, 12] [] [(d : Int) ≠ 0, _] hB ⟨om, h1, trivial⟩ ?_
  refine Zaa ?_
  refine Zbj ?_
  refine Zas ?_
  refine Zaa ?_
  refine aR [] [4] [] [I (Int.tdiv n d)] [] [] hB trivial ?_
  refine Zam ?_
  refine Zan hB (I (Int.tdiv n d)) (by kernel_rfl) (.inl (by refine congrArg I ?_; first | exact hs.1 (by assumption) | exact hs.2 (by assumption))) rfl (fun _ => trivial)
theorem Zla (n : Int) (d : Int) (hn : (-1000000000000000000 ≤ n ∧ n ≤ 1000000000000000000) ∧ 0 < d ∧ d ≤ 1000000000000000000) : Con Tryz.prog 150 [I n, I d] true (I (Zed n d)) := by
 refine Zbu (fn := Tryz.f150) (nt := 12) Tryz.func150 rfl rfl rfl rfl (by simp [Zag, Zaj]) fun B hB => ?_
 refine aQ [] [0, 1] [] [] hB trivial ?_
 refine aR [(6, .call [(true, .any), (true, .any)] true (I (((2 * n) + d) / (2 * d))))] [4] [] [I (((2 * n) + d) / (2 * d))] [] [inR .i64 (2 * n), inR .i64 ((2 * n) + d), inR .i64 (2 * d), _ ∧ True] hB ⟨(Zac om om), (Zac om om), (Zac om om), ⟨(Yet ((2 * n) + d) (2 * d) om), trivial⟩, trivial⟩ ?_
 refine Zam ?_
 refine Zan hB (I (((2 * n) + d) / (2 * d))) (by kernel_rfl) (.inl (by rfl)) rfl (fun _ => trivial)
theorem l06At_ok (s : Stroke) (arcs : List Int) (part : Int) (parts : Int) (ok : Zar s = true) (ha : arcs = Zei s.Points s.Points.length) (hp : (0 ≤ part ∧ part ≤ parts) ∧ (1 ≤ parts ∧ parts ≤ 1000)) : Con Tryz.prog 147 [.ptr false [Zaq false s.Points], slI false arcs, I part, I parts] true (.agg [I ((Zfw s part parts).X), I ((Zfw s part parts).Y)]) := by
  have hln := Zeo ok
  have hal : arcs.length = s.Points.length := by rw [ha, Zmy]
  have hat : ∀ j, j < s.Points.length → at_ arcs j = Zhb s j := by intro j hj; rw [ha]; exact Zpk hj
  have e0 : at_ arcs ((arcs.length : Int) - 1).toNat = Zhb s (s.Points.length - 1) := (hat _ om).trans (by congr 1; omega)
  have hb0 := Zme ok (k := s.Points.length - 1) om
  rw [← e0] at hb0
  have hm0 := Zih hb0.1 hb0.2 hp.1.1 (by omega : part ≤ 1000)
  refine Zbu (fn := Tryz.f147) (nt := 123) Tryz.func147 rfl rfl rfl rfl (by simp [Zag, Zaj, tagI, Zec]) fun B hB => ?_
  refine Zbt (x := .ptr false [Zaq false s.Points]) 0 rfl (fun len_s => ?_)
  simp [Zdk, Zgf, Zee, Zdl, Zaq] at len_s
  refine Zbt (x := slI false arcs) 1 rfl (fun len_arcs => ?_)
  simp [Zdk, Zgf, cI, fI, slI] at len_arcs
  refine aQ [(0, .new 8)] [0, 1, 2, 3, 8] [8] [] hB trivial ?_
  refine aQ [] [0, 1, 3, 8, 9] [8] [inR .i64 ((arcs.length : Int) - 1), (0 : Int) ≤ ((arcs.length : Int) - 1) ∧ ((arcs.length : Int) - 1) < (arcs.length : Int), inR .i64 ((at_ arcs (((arcs.length : Int) - 1).toNat)) * part)] hB ⟨(Zac om om), ⟨om, om⟩, (Zac om om), trivial⟩ ?_
  refine aR [] [0, 1, 3, 8, 9, 10] [8] [.ptr false [Zaq false s.Points], slI false arcs, I parts, .ref 8 0, I ((at_ arcs (((arcs.length : Int) - 1).toNat)) * part), I 1] [some (.box [I 0, I 0])] [] hB trivial ?_
  refine Zah ?_
  refine Zau ?_
  refine Zcn (fun gn gσ => ∃ (i : Int), gn = ((arcs.length : Int) - i).toNat ∧ (1 ≤ i ∧ i ≤ (arcs.length : Int)) ∧ (∀ j : Nat, (j : Int) < i → Zix s part parts j = false) ∧ gσ = mkS [(0, .ptr false [Zaq false s.Points]), (1, slI false arcs), (3, I parts), (8, .ref 8 0), (9, I ((at_ arcs (((arcs.length : Int) - 1).toNat)) * part)), (10, I i)] [(8, .box [I 0, I 0])]) (((arcs.length : Int) - 1).toNat) ⟨1, rfl, om, (by intro j hj; exact Znv (fun q => by omega)), rfl⟩ (fun gn gσ hI => ?_)
  obtain ⟨i, rfl, hi0, hn0, rfl⟩ := hI
  refine Zah ?_
  refine Zah ?_
  by_cases h1 : i < (arcs.length : Int)
  ·have hi : i.toNat < s.Points.length := by omega
   have ei : (i - 1).toNat = i.toNat - 1 := by omega
   have e1 := hat i.toNat hi
   have e2 : at_ arcs (i - 1).toNat = Zhb s (i.toNat - 1) := (hat _ om).trans (by rw [ei])
   have hb1 := Zme ok hi
   have hb2 := Zme ok (k := i.toNat - 1) om
   have hup := Yaj ok hi om
   rw [← e1] at hb1
   rw [← e2] at hb2
   rw [← e1, ← e2] at hup
   have hm1 := Zih hb1.1 hb1.2 (by omega : 0 ≤ parts) hp.2.2
   have hm2 := Zih hb2.1 hb2.2 (by omega : 0 ≤ parts) hp.2.2
   have hm3 := Zih (x := at_ arcs i.toNat - at_ arcs (i - 1).toNat) (A := 5559540) om om (by omega : 0 ≤ parts) hp.2.2
   by_cases h2 : (at_ arcs i.toNat) = (at_ arcs ((i - 1).toNat))
   ·have hst : Zix s part parts i.toNat = false := Znv (by rintro ⟨_, q, _⟩; rw [← e1, ← e2] at q; omega)
    refine Zbm [(3, .dec true), (14, .dec true)] [0, 1, 3, 8, 9, 10, 48] [8] [_, (0 : Int) ≤ i ∧ i < (arcs.length : Int), inR .i64 (i - 1), (0 : Int) ≤ (i - 1) ∧ (i - 1) < (arcs.length : Int), _] hB ⟨h1, ⟨om, om⟩, (Zac om om), ⟨om, om⟩, h2, trivial⟩ ?_
    refine Zaa ?_
    refine Zbq ?_
    refine Zas ?_
    refine Zaa ?_
    refine Zau ?_
    refine Zdg [] [0, 1, 3, 8, 9, 10] [8] [.ptr false [Zaq false s.Points], slI false arcs, I parts, .ref 8 0, I ((at_ arcs (((arcs.length : Int) - 1).toNat)) * part), I (i + 1)] [some (.box [I 0, I 0])] [inR .i64 (i + 1)] hB ⟨(Zac om om), trivial⟩ ?_
    refine Zba 1 ?_
    exact Zbf _ om ⟨(i + 1), rfl, om, (by exact up_to (n := 0) om hn0 hst), rfl⟩
   by_cases h3 : ((at_ arcs i.toNat) * parts) < ((at_ arcs (((arcs.length : Int) - 1).toNat)) * part)
   ·have hst : Zix s part parts i.toNat = false := Znv (by rintro ⟨_, _, q⟩; rw [← e1, ← e0] at q; omega)
    refine Zbm [(3, .dec true), (14, .dec false), (23, .dec true)] [0, 1, 3, 8, 9, 10, 48] [8] [_, (0 : Int) ≤ i ∧ i < (arcs.length : Int), inR .i64 (i - 1), (0 : Int) ≤ (i - 1) ∧ (i - 1) < (arcs.length : Int), _, (0 : Int) ≤ i ∧ i < (arcs.length : Int), inR .i64 ((at_ arcs i.toNat) * parts), _] hB ⟨h1, ⟨om, om⟩, (Zac om om), ⟨om, om⟩, h2, ⟨om, om⟩, (Zac om om), h3, trivial⟩ ?_
    refine Zaa ?_
    refine Zbq ?_
    refine Zas ?_
    refine Zaa ?_
    refine Zau ?_
    refine Zdg [] [0, 1, 3, 8, 9, 10] [8] [.ptr false [Zaq false s.Points], slI false arcs, I parts, .ref 8 0, I ((at_ arcs (((arcs.length : Int) - 1).toNat)) * part), I (i + 1)] [some (.box [I 0, I 0])] [inR .i64 (i + 1)] hB ⟨(Zac om om), trivial⟩ ?_
    refine Zba 1 ?_
    exact Zbf _ om ⟨(i + 1), rfl, om, (by exact up_to (n := 0) om hn0 hst), rfl⟩
   have hst : Zix s part parts i.toNat = true := Zkz.2 (by rw [← e1, ← e0, ← e2]; omega)
   have hn1 : ∀ j, j < i.toNat → Zix s part parts j = false := fun j hj => hn0 j om
   have hr := Zqs ok om hi hst hn1
   rw [← e0, ← e1, ← e2] at hr
   have hpa := Zfi.1 (Zig ok (j := (i - 1).toNat) om)
   have hpb := Zfi.1 (Zig ok hi)
   have hmx := Zvn (x := (at_ s.Points i.toNat).X - (at_ s.Points (i - 1).toNat).X) (A := 4095) (B := 5559540000) om om hr.1.1 om
   have hmy := Zvn (x := (at_ s.Points i.toNat).Y - (at_ s.Points (i - 1).toNat).Y) (A := 4095) (B := 5559540000) om om hr.1.1 om
   have hnx := Zfj (x := (at_ s.Points i.toNat).X - (at_ s.Points (i - 1).toNat).X) hr.2 hr.1.1 hr.1.2
   have hny := Zfj (x := (at_ s.Points i.toNat).Y - (at_ s.Points (i - 1).toNat).Y) hr.2 hr.1.1 hr.1.2
   have hsp := Zvo hi hst hn1
   refine Zbm [(3, .dec true), (14, .dec false), (23, .dec false)] [0, 1, 3, 8, 9, 10, 48] [8] [_, (0 : Int) ≤ i ∧ i < (arcs.length : Int), inR .i64 (i - 1), (0 : Int) ≤ (i - 1) ∧ (i - 1) < (arcs.length : Int), _, (0 : Int) ≤ i ∧ i < (arcs.length : Int), inR .i64 ((at_ arcs i.toNat) * parts), _] hB ⟨h1, ⟨om, om⟩, (Zac om om), ⟨om, om⟩, h2, ⟨om, om⟩, (Zac om om), h3, trivial⟩ ?_
   refine Zaa ?_
   refine Zbj ?_
   refine Zcj ?_
   refine Zal ?_
   refine Zal ?_
   refine Zaw ?_
   refine Zaa ?_
   refine Zah ?_
   refine aQ [(3, .dec false)] [0, 1, 3, 8, 9, 10, 54] [8] [¬ (i = (arcs.length : Int))] hB ⟨om, trivial⟩ ?_
   refine Zbj ?_
   refine Zas ?_
   refine Zaa ?_
   refine aQ [(8, .new 11)] [0, 1, 3, 8, 9, 10, 11] [8, 11] [inR .i64 (i - 1), (0 : Int) ≤ (i - 1) ∧ (i - 1) < (s.Points.length : Int)] hB ⟨(Zac om om), ⟨om, om⟩, trivial⟩ ?_
   refine aQ [(7, .new 12)] [1, 3, 8, 9, 10, 11, 12] [8, 11, 12] [(0 : Int) ≤ i ∧ i < (s.Points.length : Int)] hB ⟨⟨om, om⟩, trivial⟩ ?_
   refine aQ [] [1, 3, 8, 10, 11, 12, 13] [8, 11, 12] [inR .i64 (i - 1), (0 : Int) ≤ (i - 1) ∧ (i - 1) < (arcs.length : Int), inR .i64 ((at_ arcs ((i - 1).toNat)) * parts), inR .i64 (((at_ arcs (((arcs.length : Int) - 1).toNat)) * part) - ((at_ arcs ((i - 1).toNat)) * parts))] hB ⟨(Zac om om), ⟨om, om⟩, (Zac om om), (Zac om om), trivial⟩ ?_
   refine aQ [] [8, 11, 12, 13, 14] [8, 11, 12] [(0 : Int) ≤ i ∧ i < (arcs.length : Int), inR .i64 (i - 1), (0 : Int) ≤ (i - 1) ∧ (i - 1) < (arcs.length : Int), inR .i64 ((at_ arcs i.toNat) - (at_ arcs ((i - 1).toNat))), inR .i64 (((at_ arcs i.toNat) - (at_ arcs ((i - 1).toNat))) * parts)] hB ⟨⟨om, om⟩, (Zac om om), ⟨om, om⟩, (Zac om om), (Zac om om), trivial⟩ ?_
   refine aR [(10, .call [(true, .any), (true, .any)] true (I (Zed ((((at_ s.Points i.toNat).X) - ((at_ s.Points ((i - 1).toNat)).X)) * (((at_ arcs (((arcs.length : Int) - 1).toNat)) * part) - ((at_ arcs ((i - 1).toNat)) * parts))) (((at_ arcs i.toNat) - (at_ arcs ((i - 1).toNat))) * parts)))), (22, .call [(true, .any), (true, .any)] true (I (Zed ((((at_ s.Points i.toNat).Y) - ((at_ s.Points ((i - 1).toNat)).Y)) * (((at_ arcs (((arcs.length : Int) - 1).toNat)) * part) - ((at_ arcs ((i - 1).toNat)) * parts))) (((at_ arcs i.toNat) - (at_ arcs ((i - 1).toNat))) * parts))))] [8] [8] [.ref 8 0] [some (.box [I (((at_ s.Points ((i - 1).toNat)).X) + (Zed ((((at_ s.Points i.toNat).X) - ((at_ s.Points ((i - 1).toNat)).X)) * (((at_ arcs (((arcs.length : Int) - 1).toNat)) * part) - ((at_ arcs ((i - 1).toNat)) * parts))) (((at_ arcs i.toNat) - (at_ arcs ((i - 1).toNat))) * parts))), I (((at_ s.Points ((i - 1).toNat)).Y) + (Zed ((((at_ s.Points i.toNat).Y) - ((at_ s.Points ((i - 1).toNat)).Y)) * (((at_ arcs (((arcs.length : Int) - 1).toNat)) * part) - ((at_ arcs ((i - 1).toNat)) * parts))) (((at_ arcs i.toNat) - (at_ arcs ((i - 1).toNat))) * parts)))])] [inR .i64 (((at_ s.Points i.toNat).X) - ((at_ s.Points ((i - 1).toNat)).X)), inR .i64 ((((at_ s.Points i.toNat).X) - ((at_ s.Points ((i - 1).toNat)).X)) * (((at_ arcs (((arcs.length : Int) - 1).toNat)) * part) - ((at_ arcs ((i - 1).toNat)) * parts))), _ ∧ True, inR .i64 (((at_ s.Points ((i - 1).toNat)).X) + (Zed ((((at_ s.Points i.toNat).X) - ((at_ s.Points ((i - 1).toNat)).X)) * (((at_ arcs (((arcs.length : Int) - 1).toNat)) * part) - ((at_ arcs ((i - 1).toNat)) * parts))) (((at_ arcs i.toNat) - (at_ arcs ((i - 1).toNat))) * parts))), inR .i64 (((at_ s.Points i.toNat).Y) - ((at_ s.Points ((i - 1).toNat)).Y)), inR .i64 ((((at_ s.Points i.toNat).Y) - ((at_ s.Points ((i - 1).toNat)).Y)) * (((at_ arcs (((arcs.length : Int) - 1).toNat)) * part) - ((at_ arcs ((i - 1).toNat)) * parts))), _ ∧ True, inR .i64 (((at_ s.Points ((i - 1).toNat)).Y) + (Zed ((((at_ s.Points i.toNat).Y) - ((at_ s.Points ((i - 1).toNat)).Y)) * (((at_ arcs (((arcs.length : Int) - 1).toNat)) * part) - ((at_ arcs ((i - 1).toNat)) * parts))) (((at_ arcs i.toNat) - (at_ arcs ((i - 1).toNat))) * parts)))] hB ⟨(Zac om om), (Zac om om), ⟨(Zla ((((at_ s.Points i.toNat).X) - ((at_ s.Points ((i - 1).toNat)).X)) * (((at_ arcs (((arcs.length : Int) - 1).toNat)) * part) - ((at_ arcs ((i - 1).toNat)) * parts))) (((at_ arcs i.toNat) - (at_ arcs ((i - 1).toNat))) * parts) om), trivial⟩, (Zac om om), (Zac om om), (Zac om om), ⟨(Zla ((((at_ s.Points i.toNat).Y) - ((at_ s.Points ((i - 1).toNat)).Y)) * (((at_ arcs (((arcs.length : Int) - 1).toNat)) * part) - ((at_ arcs ((i - 1).toNat)) * parts))) (((at_ arcs i.toNat) - (at_ arcs ((i - 1).toNat))) * parts) om), trivial⟩, (Zac om om), trivial⟩ ?_
   refine Zam ?_
   refine Zan hB (.agg [I (((at_ s.Points ((i - 1).toNat)).X) + (Zed ((((at_ s.Points i.toNat).X) - ((at_ s.Points ((i - 1).toNat)).X)) * (((at_ arcs (((arcs.length : Int) - 1).toNat)) * part) - ((at_ arcs ((i - 1).toNat)) * parts))) (((at_ arcs i.toNat) - (at_ arcs ((i - 1).toNat))) * parts))), I (((at_ s.Points ((i - 1).toNat)).Y) + (Zed ((((at_ s.Points i.toNat).Y) - ((at_ s.Points ((i - 1).toNat)).Y)) * (((at_ arcs (((arcs.length : Int) - 1).toNat)) * part) - ((at_ arcs ((i - 1).toNat)) * parts))) (((at_ arcs i.toNat) - (at_ arcs ((i - 1).toNat))) * parts)))]) (by kernel_rfl) (.inl (by first | (rw [hnone]; done) | (rw [hnone]; rfl) | (rw [hsp]; simp only [Yak, e0, e1, e2]; simp only [ei]))) rfl (fun _ => (by simp [Zaj, Zag]))
  have hnone := Znw (s := s) (part := part) (parts := parts) (fun j hj => hn0 j om)
  refine Zbm [(3, .dec false)] [0, 1, 3, 8, 9, 10, 48] [8] [_] hB ⟨h1, trivial⟩ ?_
  refine Zaa ?_
  refine Zbj ?_
  refine Zcj ?_
  refine Zal ?_
  refine Zal ?_
  refine Zaw ?_
  refine Zaa ?_
  refine Zah ?_
  refine aQ [(3, .dec true)] [0, 1, 3, 8, 9, 10, 54] [8] [i = (arcs.length : Int)] hB ⟨om, trivial⟩ ?_
  refine Zbq ?_
  refine aR [(6, .call [(true, .any)] true (.agg [I ((at_ s.Points 0).X), I ((at_ s.Points 0).Y)]))] [8] [8] [.ref 8 0] [some (.box [I ((at_ s.Points 0).X), I ((at_ s.Points 0).Y)])] [(0 : Int) ≤ 0 ∧ 0 < (s.Points.length : Int), _ ∧ True] hB ⟨⟨om, om⟩, ⟨(Yes (at_ s.Points 0)), trivial⟩, trivial⟩ ?_
  refine Zam ?_
  refine Zak ?_
  refine Zan hB (.agg [I ((at_ s.Points 0).X), I ((at_ s.Points 0).Y)]) (by kernel_rfl) (.inl (by first | (rw [hnone]; done) | (rw [hnone]; rfl) | (rw [hsp]; simp only [Yak, e0, e1, e2]; simp only [ei]))) rfl (fun _ => (by simp [Zaj, Zag]))
theorem Zrx (s : Stroke) (n : Int) (ok : Zar s = true) (hn : 2 ≤ n ∧ n ≤ 24) : Con Tryz.prog 110 [.ptr false [Zaq false s.Points], I n] true (Zdy true (Zbi s n)) := by
  refine Zbu (fn := Tryz.f110) (nt := 26) Tryz.func110 rfl rfl rfl rfl (by simp [Zag, Zaj, Zec]) fun B hB => ?_
  refine Zbt (x := .ptr false [Zaq false s.Points]) 0 rfl (fun len_s => ?_)
  simp [Zdk, Zgf, Zee, Zdl, Zaq] at len_s
  refine aQ [] [0, 1] [] [] hB trivial ?_
  refine aQ [(1, .call [(true, .any)] true (slI true (Zei s.Points s.Points.length)))] [0, 1, 5] [] [_ ∧ True] hB ⟨⟨(Yer s ok), trivial⟩, trivial⟩ ?_
  refine aQ [(0, .new 10)] [0, 1, 5, 6] [10] [] hB trivial ?_
  refine Zah ?_
  refine aR [] [0, 1, 5, 6, 7] [10] [.ptr false [Zaq false s.Points], I n, slI true (Zei s.Points s.Points.length), .arr 10, I 0] [some (.arr 2 0 (Zgm [] 2))] [] hB trivial ?_
  refine Zau ?_
  refine Zhz hB [] (T := [(0, .ptr false [Zaq false s.Points]), (1, I n), (5, slI true (Zei s.Points s.Points.length)), (6, .arr 10), (7, I 0)]) (O := [(10, Zog ([] : List Spot))]) rfl (⟨.inl rfl, .inl rfl, .inl rfl, .inl rfl, .inl rfl, trivial⟩) (⟨.inr ⟨rfl, (by first | rfl | (simp; done) | (simp; omega) | omega), fun i_ hi_ => absurd hi_ (Nat.not_lt_zero _)⟩, trivial⟩) ?_
  refine Zcn (fun gn gσ => ∃ (out : List Spot) (k : Int), gn = (n - k).toNat ∧ (0 ≤ k ∧ k ≤ n) ∧ ((out.length : Int) = k) ∧ (out = resK s n k.toNat) ∧ gσ = mkS [(0, .ptr false [Zaq false s.Points]), (1, I n), (5, slI true (Zei s.Points s.Points.length)), (6, .arr 10), (7, I k)] [(10, Zog out)]) ((n - 0).toNat) ⟨([] : List Spot), 0, rfl, om, (by rfl), (by rfl), rfl⟩ (fun gn gσ hI => ?_)
  obtain ⟨out, k, rfl, hk0, hll, hl0, rfl⟩ := hI
  refine Zah ?_
  refine Zah ?_
  by_cases h1 : k < n
  ·refine Zbm [(2, .dec true)] [0, 1, 5, 6, 7, 13] [10] [_] hB ⟨h1, trivial⟩ ?_
   refine Zaa ?_
   refine Zbq ?_
   refine Zas ?_
   refine Zaa ?_
   refine Zah ?_
   refine Zau ?_
   refine Zbm [(6, .call [(true, .any), (false, slI false (Zei s.Points s.Points.length)), (true, .any), (true, .any)] true (.agg [I ((Zfw s k (n - 1)).X), I ((Zfw s k (n - 1)).Y)])), (7, .new 23), (8, .new 24)] [0, 1, 5, 6, 7] [24] [inR .i64 (n - 1), _ ∧ ((false = true → true = true) ∧ 1 = 1 ∧ ((Zei s.Points s.Points.length).length) = ((Zei s.Points s.Points.length).length) ∧ ∀ i_, i_ < ((Zei s.Points s.Points.length).length) → (fI (Zei s.Points s.Points.length)) i_ = (fI (Zei s.Points s.Points.length)) i_ ∨ (AV.idsL ((fI (Zei s.Points s.Points.length)) i_) = [] ∧ leL (fun _ => none) false ((fI (Zei s.Points s.Points.length)) i_) ((fI (Zei s.Points s.Points.length)) i_))) ∧ True, (out.length + 1) * 16 ≤ 140737488355328] hB ⟨(Zac om om), ⟨(l06At_ok s (Zei s.Points s.Points.length) k (n - 1) ok (by first | rfl | assumption) om), ⟨(fun h => by cases h), rfl, rfl, fun i _ => .inl rfl⟩, trivial⟩, om, trivial⟩ ?_
   refine Zba 1 ?_
   refine Zaa ?_
   refine Zdg [] [0, 1, 5, 6, 7] [24] [.ptr false [Zaq false s.Points], I n, slI true (Zei s.Points s.Points.length), .arr 24, I (k + 1)] [some (.arr 2 (out.length + 1) (Zgb out.length (fSpot out) (Zgm [I ((Zfw s k (n - 1)).X), I ((Zfw s k (n - 1)).Y)] 2)))] [inR .i64 (k + 1)] hB ⟨(Zac om om), trivial⟩ ?_
   refine Zeq hB [(10, 24)] (T := [(0, .ptr false [Zaq false s.Points]), (1, I n), (5, slI true (Zei s.Points s.Points.length)), (6, .arr 10), (7, I (k + 1))]) (O := [(10, Zog (out ++ [(Zfw s k (n - 1))]))]) rfl (⟨.inl rfl, .inl rfl, .inl rfl, .inl rfl, .inl rfl, trivial⟩) (⟨.inr ⟨rfl, (by first | rfl | (simp; done) | (simp; omega) | omega), fun i_ hi_ => .inl (Zcm (enc := Yih) (xs := out) rfl i_ hi_)⟩, trivial⟩) (Zbf _ om ⟨(out ++ [(Zfw s k (n - 1))]), (k + 1), rfl, om, (by simp; omega), (by rw [Zyb om, ← hl0]), rfl⟩)
  have hke : k.toNat = n.toNat := by omega
  rw [hke] at hl0
  have hl1 : out = Zbi s n := hl0
  clear hl0
  subst hl1
  refine Zbm [(2, .dec false)] [0, 1, 5, 6, 7, 13] [10] [_] hB ⟨h1, trivial⟩ ?_
  refine Zaa ?_
  refine Zbj ?_
  refine Zcj ?_
  refine Zal ?_
  refine Zal ?_
  refine Zaw ?_
  refine Zaa ?_
  refine aR [] [4] [10] [.arr 10] [some (Zog (Zbi s n))] [] hB trivial ?_
  refine Zam ?_
  refine Zan hB (.arr 10) (by kernel_rfl) (.inr ⟨(fun _ => rfl), rfl, rfl, fun i _ => .inl rfl⟩) rfl (fun _ => (Yii true _))
theorem Zsy (n : Int) (hn : -9223372036854775807 ≤ n ∧ n ≤ 9223372036854775807) : Con Tryz.prog 148 [I n] true (I (n.natAbs : Int)) := by
  refine Zbu (fn := Tryz.f148) (nt := 8) Tryz.func148 rfl rfl rfl rfl (by simp [Zag, Zaj]) fun B hB => ?_
  refine aQ [] [0] [] [] hB trivial ?_
  refine Zah ?_
  refine Zah ?_
  by_cases h1 : n < 0
  ·refine Zbm [(1, .dec true)] [0, 4] [] [_] hB ⟨h1, trivial⟩ ?_
   refine Zaa ?_
   refine Zbq ?_
   refine aR [] [2] [] [I (-n)] [] [inR .i64 (-n)] hB ⟨(Zac om om), trivial⟩ ?_
   refine Zam ?_
   refine Zak ?_
   refine Zan hB (I (-n)) (by kernel_rfl) (.inl (by refine congrArg I ?_; omega)) rfl (fun _ => trivial)
  refine Zbm [(1, .dec false)] [0, 4] [] [_] hB ⟨h1, trivial⟩ ?_
  refine Zaa ?_
  refine Zbj ?_
  refine Zas ?_
  refine Zaa ?_
  refine aR [] [2] [] [I n] [] [] hB trivial ?_
  refine Zam ?_
  refine Zan hB (I n) (by kernel_rfl) (.inl (by refine congrArg I ?_; omega)) rfl (fun _ => trivial)
end Go.Proofs.YtapmeemeciigdaaGreat.Ax
