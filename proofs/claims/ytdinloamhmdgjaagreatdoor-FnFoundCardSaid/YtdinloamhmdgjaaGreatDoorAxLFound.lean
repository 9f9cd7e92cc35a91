/- The statement FnFound: contracts of what it reaches, and its proof. No conditions. -/
import Derived.Test.YtdinloamhmdgjaaGreatDoorAxLFound3
import Derived.LaidMore
import Derived.Lay
import Derived.Lib.IndexBytes
import Derived.Lib.ItoaNum
import Derived.Lib.ParseIntBCases
import Derived.Lib.SplitLaws
import Derived.OpenShut
import Derived.SevenTiedAt
import Derived.Stop.Joined
import Derived.Test.YtdinloamhmdgjaaGreatDoorAxBd
import Derived.Test.YtdinloamhmdgjaaGreatDoorAxIN
import Derived.Test.YtdinloamhmdgjaaGreatDoorAxR
import Derived.Test.YtdinloamhmdgjaaGreatDoorAxS
import Derived.Test.YtdinloamhmdgjaaGreatDoorAxSF
import Derived.Test.YtdinloamhmdgjaaGreatDoorAxVc
import Derived.Test.YtdinloamhmdgjaaGreatDoorSfFndShelf
import Derived.Test.YtdinloamhmdgjaaGreatDoorSfRdgShelf
namespace Go.Proofs.YtdinloamhmdgjaaGreatDoor.Ax
open Go.RowKit Go.ChangeShapes Go.WideShapes
set_option linter.unusedVariables false
set_option linter.unusedSimpArgs false
def isDec (s : ByteArray) : Prop := ∃ n : Int, (-1000000000000000000 < n ∧ n < 1000000000000000000) ∧ s = Zfs n
def dcV (s : ByteArray) : Int := match Lib.parseIntB 64 s.data.toList with | .ok v => v | _ => 0
theorem Ztn {n : Int} (h : -1000000000000000000 < n ∧ n < 1000000000000000000) : dcV (Zfs n) = n := by unfold dcV; rw [Zrb h]
theorem ddLen : ∀ (k u : Nat), 1 ≤ k → u < 10 ^ k → (Lib.decDigits u).length ≤ k
  | 0, _, h, _ => absurd h (by decide)
  | k + 1, u, _, h => by
    rw [Lib.decDigits]
    split
    · simp
    · rename_i h3
      rw [List.length_append]
      by_cases hk : k = 0
      · subst hk; omega
      · have := ddLen k (u / 10) (by omega) (by rw [Nat.pow_succ] at h; omega)
        simp only [List.length_cons, List.length_nil]; omega
theorem trp_dec {n : Int} (h : -1000000000000000000 < n ∧ n < 1000000000000000000) : 1 ≤ (Lib.trimPrefix (Zfs n).data.toList [45]).length ∧ (Lib.trimPrefix (Zfs n).data.toList [45]).length ≤ 18 := by
  have e : (Zfs n).data.toList = Lib.itoa n := by simp [Zfs]
  have hne : ∀ u, 1 ≤ (Lib.decDigits u).length := fun u => List.length_pos_iff.2 (Zfg u)
  rw [e]
  unfold Lib.itoa
  split
  · have : Lib.trimPrefix (45 :: Lib.decDigits n.natAbs) [45] = Lib.decDigits n.natAbs := by simp [Lib.trimPrefix, Lib.hasPrefix]
    rw [this]
    exact ⟨hne _, ddLen 18 _ (by decide) (by omega)⟩
  · have hl := ddLen 18 n.toNat (by decide) (by omega)
    have h1 := hne n.toNat
    obtain ⟨c, r, hc⟩ : ∃ c r, Lib.decDigits n.toNat = c :: r := by
      cases h : Lib.decDigits n.toNat with
      | nil => exact absurd h (Zfg _)
      | cons c r => exact ⟨c, r, rfl⟩
    have hb := Zec _ n.toNat (Nat.lt_succ_self _) c (by rw [hc]; simp)
    have : Lib.trimPrefix (Lib.decDigits n.toNat) [45] = Lib.decDigits n.toNat := by
      have h2 : ¬ (45 : UInt8) = c := fun e => by subst e; have : (45 : UInt8).toNat = 45 := rfl; omega
      rw [hc]
      simp [Lib.trimPrefix, Lib.hasPrefix, h2]
    rw [this]
    exact ⟨h1, hl⟩
theorem Zov {P : Program} {f : FuncId} {vals : List Value} {v u : Value} {fr : Bool} (h : ∀ w, WX w → Calls P f vals.toArray w fun e w' => e = .returned (.tuple #[v, u]) ∧ Below w.heap.size w w') : Con P f (vals.map .val) fr (.tup [.val v, .val u]) := by
  intro B vals' hbo hm hr
  have h1 := Zeq (fr := fr) h B vals' hbo hm hr
  refine h1.mono ?_
  rintro e w' ⟨v', κ', rfl, h2, h3⟩
  refine ⟨v', κ', rfl, h2, ?_⟩
  have e : v' = .tuple #[v, u] := h3.val_of
  subst e
  exact .tup _ _ rfl fun q a x ha hx => by
    match q, ha, hx with
    | 0, ha, hx => simp at ha hx; subst ha; subst hx; exact .tree _ _ (.val _)
    | 1, ha, hx => simp at ha hx; subst ha; subst hx; exact .tree _ _ (.val _)
    | q + 2, ha, _ => simp at ha
theorem Zyl (s p : ByteArray) : (Ztl s p).size ≤ s.size := by
  show (Lib.trimSuffix s.data.toList p.data.toList).toArray.size ≤ s.data.size
  unfold Lib.trimSuffix
  split
  · simp
  · simp
def Zve (s : ByteArray) : List ByteArray := if s = ⟨#[]⟩ then [] else Zow ⟨#[10]⟩ (Ztl s ⟨#[10]⟩)
def Zer : List ByteArray → Nat → ByteArray
  | _, 0 => ⟨#[]⟩
  | ls, k + 1 => Zer ls k ++ (at_ ls k ++ ⟨#[10]⟩)
theorem Zlm {ls : List ByteArray} : ∀ {k}, k < ls.length → Zer ls (k + 1) = jnB ⟨#[10]⟩ (ls.take (k + 1)) ++ ⟨#[10]⟩
  | 0, h => by rw [Zer, Zer, nil_ba, Zym h]
  | k + 1, h => by
    rw [Zer, Zlm (by omega), jnB_take (by omega)]
    simp only [ByteArray.append_assoc]
theorem Zyn {ls : List ByteArray} {k : Nat} : Zer ls (k + 1) ≠ ⟨#[]⟩ := fun e => by
  have := congrArg ByteArray.size e
  simp only [Zer, ByteArray.size_append] at this
  have h1 : (⟨#[10]⟩ : ByteArray).size = 1 := rfl
  have h2 : (⟨#[]⟩ : ByteArray).size = 0 := rfl
  omega
theorem Zns {ls : List ByteArray} (h : ls ≠ []) : ∃ k, ls.length = k + 1 ∧ Zer ls ls.length = jnB ⟨#[10]⟩ ls ++ ⟨#[10]⟩ := by
  obtain ⟨k, hk⟩ : ∃ k, ls.length = k + 1 := ⟨ls.length - 1, by have := List.length_pos_iff.2 h; omega⟩
  refine ⟨k, hk, ?_⟩
  rw [hk, Zlm (by omega), ← hk, List.take_length]
theorem Zyo {ls : List ByteArray} (hl : ∀ l ∈ ls, noB 10 l) : Zve (Zer ls ls.length) = ls := by
  by_cases h : ls = []
  · subst h; simp [Zve, Zer]
  · obtain ⟨k, hk, e⟩ := Zns h
    unfold Zve
    rw [if_neg (by rw [hk]; exact Zyn), e, trsB_app, splB_C, Zox h hl]
theorem Zyp {ls : List ByteArray} (h : ls ≠ []) : sufB (Zer ls ls.length) ⟨#[10]⟩ = true := by
  obtain ⟨k, hk, e⟩ := Zns h
  rw [e]; exact Zvf _ _
def linOk (s : ByteArray) : Prop := s.size ≤ 10000000 ∧ (s = ⟨#[]⟩ ∨ sufB s ⟨#[10]⟩ = true)
theorem Zto {ls : List ByteArray} (hz : (Zer ls ls.length).size ≤ 10000000) : linOk (Zer ls ls.length) := by
  refine ⟨hz, ?_⟩
  by_cases h : ls = []
  · subst h; exact .inl rfl
  · exact .inr (Zyp h)
theorem Zln {ls : List ByteArray} {B : Nat} (h : ∀ l ∈ ls, l.size ≤ B) : ∀ k, k ≤ ls.length → (Zer ls k).size ≤ (B + 1) * k
  | 0, _ => Nat.zero_le _
  | k + 1, hk => by
    have h1 := Zln h k (by omega)
    have h2 := h _ (Zcx (show k < ls.length from hk))
    have h3 : (⟨#[10]⟩ : ByteArray).size = 1 := rfl
    rw [Zer, ByteArray.size_append, ByteArray.size_append, Nat.mul_succ]; omega
def lxLn (e : Entry) : ByteArray := (e.Word ++ ⟨#[32]⟩) ++ Zfs e.Cost
def Zim (x : Lexicon) : List ByteArray := x.Entries.map lxLn
def Zoy (x : Lexicon) : ByteArray := Zer (Zim x) x.Entries.length
theorem Ztp {s : ByteArray} (h : Zew s = true) {c : UInt8} (hc : ¬ (97 ≤ ((c.toNat : Nat) : Int) ∧ ((c.toNat : Nat) : Int) ≤ 122)) : noB c s := fun hm => by
  obtain ⟨j, hj, e⟩ := List.getElem_of_mem hm
  have h1 := Zdn.1 h
  have hj2 : j < s.size := by rwa [Array.length_toList] at hj
  have e2 : bAt s j = ((c.toNat : Nat) : Int) := by
    unfold bAt; rw [List.getD_eq_getElem?_getD, List.getElem?_eq_getElem hj, e]; rfl
  have := h1.2 j hj2
  rw [e2] at this
  exact hc (by first | exact this | (simp [inB, letB] at this; omega))
theorem lx_sz {e : Entry} (h : Zoz e) : e.Word.size ≤ 10 ∧ (Zfs e.Cost).size ≤ 20 := by
  have := (Zdn.1 h.1).1
  have := h.2
  exact ⟨by omega, Zrc (by omega)⟩
theorem Zlo {e : Entry} (h : Zoz e) : (lxLn e).size ≤ 31 := by
  have := lx_sz h
  have e2 : (⟨#[32]⟩ : ByteArray).size = 1 := rfl
  unfold lxLn
  simp only [ByteArray.size_append]
  omega
theorem Zvg {x : Lexicon} {k : Nat} (h : k < x.Entries.length) : at_ (Zim x) k = lxLn (at_ x.Entries k) := at_mp3 h
theorem Zxa {x : Lexicon} (hx : Zci x) : ∀ y ∈ Zim x, y.size ≤ 31 := fun y hy => by
  obtain ⟨t, ht, rfl⟩ := List.mem_map.1 hy
  exact Zlo (hx.2.1 t ht)
theorem Zpa {x : Lexicon} (hx : Zci x) {k : Nat} (hk : k ≤ x.Entries.length) : (Zer (Zim x) k).size ≤ 2000 := by
  have h1 := Zln (Zxa hx) k (by unfold Zim; rw [List.length_map]; exact hk)
  have := hx.1
  omega
theorem lx_words {e : Entry} (h : Zoz e) : Zow ⟨#[32]⟩ (lxLn e) = [e.Word, Zfs e.Cost] := by
  have e2 : lxLn e = jnB ⟨#[32]⟩ [e.Word, Zfs e.Cost] := by
    unfold lxLn
    simp only [jnB, Znd, Zpb, ByteArray.append_assoc]
  rw [e2]
  refine Zox (c := 32) (by simp) fun y hy => ?_
  simp only [List.mem_cons, List.not_mem_nil, or_false] at hy
  rcases hy with rfl | rfl
  · exact Ztp h.1 (by decide)
  · exact Zvh (by decide) _
theorem Zkx {x : Lexicon} (hx : Zci x) : Zve (Zoy x) = Zim x ∧ linOk (Zoy x) := by
  have hlen : (Zim x).length = x.Entries.length := by unfold Zim; rw [List.length_map]
  have e : Zoy x = Zer (Zim x) (Zim x).length := by rw [hlen]; rfl
  rw [e]
  refine ⟨Zyo fun y hy => ?_, Zto (by rw [hlen]; exact Nat.le_trans (Zpa hx (Nat.le_refl _)) (by decide))⟩
  obtain ⟨t, ht, rfl⟩ := List.mem_map.1 hy
  have hb := hx.2.1 t ht
  exact Zyq (Zyq (Ztp hb.1 (by decide)) (by unfold noB; decide)) (Zvh (by decide) _)
def rdEn (s : ByteArray) : Entry := ⟨at_ (Zow ⟨#[32]⟩ s) 0, dcV (at_ (Zow ⟨#[32]⟩ s) 1)⟩
theorem lx_rd {e : Entry} (h : Zoz e) : rdEn (lxLn e) = e := by
  unfold rdEn
  rw [lx_words h]
  have := h.2
  show (⟨e.Word, dcV (Zfs e.Cost)⟩ : Entry) = e
  rw [Ztn (by omega)]
theorem lx_inj {x y : Lexicon} (hx : Zci x) (hy : Zci y) (e : Zoy x = Zoy y) : x = y := by
  have q := (Zkx hx).1
  rw [e, (Zkx hy).1] at q
  have w := congrArg (List.map rdEn) q
  unfold Zim at w
  rw [List.map_map, List.map_map] at w
  have a : ∀ {x : Lexicon}, Zci x → x.Entries.map (rdEn ∘ lxLn) = x.Entries := fun {x} hx => by
    conv => rhs; rw [← List.map_id x.Entries]
    exact List.map_congr_left fun t ht => lx_rd (hx.2.1 t ht)
  rw [a hx, a hy] at w
  cases x; cases y; simp_all
theorem Zig (lx : Lexicon) (hx : Zci lx) : Con Tryz.prog 26 [.agg [Zaa false lx.Entries]] true (Sv (Zoy lx)) := by
  have hn60 := hx.1
  have h00 : (⟨#[]⟩ : ByteArray).size = 0 := rfl
  have h10 : (⟨#[10]⟩ : ByteArray).size = 1 := rfl
  have h32 : (⟨#[32]⟩ : ByteArray).size = 1 := rfl
  refine Zeb (fn := Tryz.f26) (nt := 27) Tryz.func26 rfl rfl rfl rfl (by simp [Zaj, Zan, Zcf]) fun B hB => ?_
  refine Zea (x := .agg [Zaa false lx.Entries]) 0 rfl (fun len_lx => ?_)
  simp [Zfx, Zkq, Zej, Zap, Zaa] at len_lx
  refine aR [(0, .new 1)] [1] [1] [.ref 1 0] [some (.box [Zaa false lx.Entries])] [] hB trivial ?_
  refine Zam ?_
  refine aR [(1, .call [(true, .any)] true (Bv true))] [1, 8] [1] [.ref 1 0, Bv false] [some (.box [Zaa false lx.Entries])] [Con Tryz.prog 51 [.agg [Zaa false lx.Entries]] true (Bv true) ∧ True] hB ⟨⟨(Zdi lx hx), trivial⟩, trivial⟩ ?_
  refine Zat rfl ?_
  refine Zaz ?_
  refine Zae ?_
  refine aR [(0, .newb 3 60006 5)] [1, 3] [1, 3, 60006] [.ref 1 0, .ref 3 0] [some (.box [Zaa false lx.Entries]), some (.bld 103 60006), some (.buf 5 false (⟨#[]⟩ : ByteArray))] [] hB trivial ?_
  refine Zam ?_
  refine aR [] [3, 10, 11, 12] [3, 60006] [.ref 3 0, Zaa false lx.Entries, I (lx.Entries.length : Int), I 0] [some (.bld 103 60006), some (.buf 5 false (⟨#[]⟩ : ByteArray))] [] hB trivial ?_
  refine Zbo ?_
  refine Zed (fun gn gσ => ∃ (t12 : Int) (tx : ByteArray), gn = ((lx.Entries.length : Int) - t12).toNat ∧ (0 ≤ t12 ∧ t12 ≤ (lx.Entries.length : Int)) ∧ (tx = Zer (Zim lx) t12.toNat) ∧ gσ = mkS [(3, .ref 3 0), (10, Zaa false lx.Entries), (11, I (lx.Entries.length : Int)), (12, I t12)] [(3, .bld 103 60006), (60006, .buf 5 false tx)]) (((lx.Entries.length : Int) - 0).toNat) ⟨0, (⟨#[]⟩ : ByteArray), rfl, (by omega), (by rfl), rfl⟩ (fun gn gσ hI => ?_)
  obtain ⟨t12, tx, rfl, hi0, htx, rfl⟩ := hI
  refine Zam ?_
  by_cases h1 : t12 < (lx.Entries.length : Int)
  ·have hi : t12.toNat < lx.Entries.length := by omega
   have hed := hx.2.1 _ (Zcx hi)
   have hes := lx_sz hed
   have hec := hed.2
   have hlz := Zlo hed
   have hzl := Zpa hx (k := t12.toNat + 1) (by omega)
   have hzl0 := Zpa hx (k := t12.toNat) (by omega)
   rw [← htx] at hzl0
   have hks : (t12 + 1).toNat = t12.toNat + 1 := by omega
   refine Zbs [(0, .dec true)] [3, 10, 11, 12, 13] [3, 60006] [.ref 3 0, Zaa false lx.Entries, I (lx.Entries.length : Int), I t12, Bv true] [some (.bld 103 60006), some (.buf 5 false tx)] [t12 < (lx.Entries.length : Int)] hB ⟨h1, trivial⟩ ?_
   refine Zae ?_
   refine Zam ?_
   refine Zbg rfl ?_
   refine Zaz ?_
   refine Zae ?_
   refine Zam ?_
   refine Zbo ?_
   refine aR [(2, .new 5)] [3, 5, 10, 11, 12] [3, 5, 60006] [.ref 3 0, .ref 5 0, Zaa false lx.Entries, I (lx.Entries.length : Int), I t12] [some (.bld 103 60006), some (Zcy (at_ lx.Entries t12.toNat)), some (.buf 5 false tx)] [(0 : Int) ≤ t12 ∧ t12 < (lx.Entries.length : Int)] hB ⟨⟨(by omega), (by omega)⟩, trivial⟩ ?_
   refine Zbs [(5, .call [(true, .any)] true (Sv (Zfs ((at_ lx.Entries t12.toNat).Cost)))), (8, .bw 3 60006 60007 (.string (((((at_ lx.Entries t12.toNat).Word) ++ (⟨#[32]⟩ : ByteArray)) ++ (Zfs ((at_ lx.Entries t12.toNat).Cost))) ++ (⟨#[10]⟩ : ByteArray))) false (((((at_ lx.Entries t12.toNat).Word) ++ (⟨#[32]⟩ : ByteArray)) ++ (Zfs ((at_ lx.Entries t12.toNat).Cost))) ++ (⟨#[10]⟩ : ByteArray)))] [3, 10, 11, 12] [3, 60007] [.ref 3 0, Zaa false lx.Entries, I (lx.Entries.length : Int), I t12] [some (.bld 103 60007), some (.buf 5 false (tx ++ (((((at_ lx.Entries t12.toNat).Word) ++ (⟨#[32]⟩ : ByteArray)) ++ (Zfs ((at_ lx.Entries t12.toNat).Cost))) ++ (⟨#[10]⟩ : ByteArray))))] [((at_ lx.Entries t12.toNat).Word).size + (⟨#[32]⟩ : ByteArray).size ≤ 9223372036854775807, Con Tryz.prog 47 [I ((at_ lx.Entries t12.toNat).Cost)] true (Sv (Zfs ((at_ lx.Entries t12.toNat).Cost))) ∧ True, (((at_ lx.Entries t12.toNat).Word) ++ (⟨#[32]⟩ : ByteArray)).size + (Zfs ((at_ lx.Entries t12.toNat).Cost)).size ≤ 9223372036854775807, ((((at_ lx.Entries t12.toNat).Word) ++ (⟨#[32]⟩ : ByteArray)) ++ (Zfs ((at_ lx.Entries t12.toNat).Cost))).size + (⟨#[10]⟩ : ByteArray).size ≤ 9223372036854775807, ([.ref 3 0, Sv (((((at_ lx.Entries t12.toNat).Word) ++ (⟨#[32]⟩ : ByteArray)) ++ (Zfs ((at_ lx.Entries t12.toNat).Cost))) ++ (⟨#[10]⟩ : ByteArray))] : List AV) = [.ref 3 0, Sv (((((at_ lx.Entries t12.toNat).Word) ++ (⟨#[32]⟩ : ByteArray)) ++ (Zfs ((at_ lx.Entries t12.toNat).Cost))) ++ (⟨#[10]⟩ : ByteArray))] ∧ BwOK Tryz.prog 46 103 5 (.string (((((at_ lx.Entries t12.toNat).Word) ++ (⟨#[32]⟩ : ByteArray)) ++ (Zfs ((at_ lx.Entries t12.toNat).Cost))) ++ (⟨#[10]⟩ : ByteArray))) false tx false (((((at_ lx.Entries t12.toNat).Word) ++ (⟨#[32]⟩ : ByteArray)) ++ (Zfs ((at_ lx.Entries t12.toNat).Cost))) ++ (⟨#[10]⟩ : ByteArray))] hB ⟨(by (try simp only [ByteArray.size_append]); omega), ⟨(Zne ((at_ lx.Entries t12.toNat).Cost) (by omega)), trivial⟩, (by (try simp only [ByteArray.size_append]); omega), (by (try simp only [ByteArray.size_append]); omega), ⟨rfl, bw_ok (by (try simp only [ByteArray.size_append]); omega)⟩, trivial⟩ ?_
   refine Zbz 1 ?_
   refine Zae ?_
   refine Zbs [] [3, 10, 11, 12] [3, 60007] [.ref 3 0, Zaa false lx.Entries, I (lx.Entries.length : Int), I (t12 + 1)] [some (.bld 103 60007), some (.buf 5 false (tx ++ (((((at_ lx.Entries t12.toNat).Word) ++ (⟨#[32]⟩ : ByteArray)) ++ (Zfs ((at_ lx.Entries t12.toNat).Cost))) ++ (⟨#[10]⟩ : ByteArray))))] [inR .i64 (t12 + 1)] hB ⟨(Zah (by omega) (by omega)), trivial⟩ ?_
   refine Zhl hB [(60006, 60007)] (T := [(3, .ref 3 0), (10, Zaa false lx.Entries), (11, I (lx.Entries.length : Int)), (12, I (t12 + 1))]) (O := [(3, .bld 103 60006), (60006, .buf 5 false (tx ++ (((((at_ lx.Entries t12.toNat).Word) ++ (⟨#[32]⟩ : ByteArray)) ++ (Zfs ((at_ lx.Entries t12.toNat).Cost))) ++ (⟨#[10]⟩ : ByteArray))))]) rfl (⟨.inl rfl, .inl rfl, .inl rfl, .inl rfl, trivial⟩) (⟨.inl rfl, .inl rfl, trivial⟩) (Zcc _ (by omega) ⟨(t12 + 1), (tx ++ (((((at_ lx.Entries t12.toNat).Word) ++ (⟨#[32]⟩ : ByteArray)) ++ (Zfs ((at_ lx.Entries t12.toNat).Cost))) ++ (⟨#[10]⟩ : ByteArray))), rfl, (by omega), (by rw [hks, Zer, Zvg hi, ← htx]; simp only [lxLn, ByteArray.append_assoc]), rfl⟩)
  have hke : t12.toNat = lx.Entries.length := by omega
  rw [hke] at htx
  refine Zbs [(0, .dec false)] [3, 10, 11, 12, 13] [3, 60006] [.ref 3 0, Zaa false lx.Entries, I (lx.Entries.length : Int), I t12, Bv false] [some (.bld 103 60006), some (.buf 5 false tx)] [¬ (t12 < (lx.Entries.length : Int))] hB ⟨h1, trivial⟩ ?_
  refine Zae ?_
  refine Zam ?_
  refine Zat rfl ?_
  refine Zee ?_
  refine Zau ?_
  refine Zau ?_
  refine Zca ?_
  refine Zae ?_
  refine aR [(0, .bs 3 60006)] [2] [] [Sv tx] [] [([.ref 3 0] : List AV) = [.ref 3 0] ∧ BsOK Tryz.prog 48 103 5] hB ⟨⟨rfl, bs_ok⟩, trivial⟩ ?_
  refine Zba ?_
  refine Zbb hB (Sv tx) (by kernel_rfl) (.inl (by first | (rw [htx]; rfl) | rfl)) rfl (fun _ => trivial)
theorem Zrd (s p : ByteArray) (hs : s.size ≤ 9223372036854775807) : Con Tryz.prog 94 [Sv s, Sv p] true (Bv (sufB s p)) := by
  refine Zeq (vals := [.string s, .string p]) fun w _ => ?_
  refine (Tryz.strings_HasSuffix s p w hs).mono ?_
  rintro e w' ⟨rfl, rfl⟩
  exact ⟨rfl, Below.refl _ _⟩
theorem Zpc (s p : ByteArray) (hs : s.size ≤ 9223372036854775807) : Con Tryz.prog 96 [Sv s, Sv p] true (Sv (Ztl s p)) := by
  refine Zeq (vals := [.string s, .string p]) fun w _ => ?_
  refine (Tryz.strings_TrimSuffix s p w hs).mono ?_
  rintro e w' ⟨rfl, rfl⟩
  exact ⟨rfl, Below.refl _ _⟩
set_option maxHeartbeats 2000000 in
set_option maxRecDepth 100000 in
theorem split_ok (s sep : ByteArray) (hs : s.size ≤ 140737488 ∧ True) (h1 : sep.size = 1) : Con Tryz.prog 95 [Sv s, Sv sep] true (slS true (Zow sep s)) := by
  obtain ⟨c, rfl⟩ := Lib.one_byte sep h1
  have hle := Lib.countB_le ⟨#[c]⟩ (by omega) s.size s (Nat.le_refl _)
  have hlen := Ztq (s := s) h1
  have hcell : ∀ i, i < Lib.countB s ⟨#[c]⟩ + 1 → (((Lib.splitB ⟨#[c]⟩ 0 (Lib.countB s ⟨#[c]⟩) s).map Value.string).toArray)[i]? = some (.string (at_ (Zow ⟨#[c]⟩ s) i)) ∧ (Value.string (at_ (Zow ⟨#[c]⟩ s) i)).oneCell' = true := fun i hi => by
    have hi2 : i < (Lib.splitB ⟨#[c]⟩ 0 (Lib.countB s ⟨#[c]⟩) s).length := by omega
    refine ⟨?_, rfl⟩
    have e : at_ (Zow ⟨#[c]⟩ s) i = (Lib.splitB ⟨#[c]⟩ 0 (Lib.countB s ⟨#[c]⟩) s)[i] := Zcz hi2
    rw [e]
    simp [List.getElem?_eq_getElem hi2]
  have hmain := Zlp (P := Tryz.prog) (f := 95) (vals := [.string s, .string ⟨#[c]⟩]) (n := Lib.countB s ⟨#[c]⟩ + 1) (T := 9) (cs := ((Lib.splitB ⟨#[c]⟩ 0 (Lib.countB s ⟨#[c]⟩) s).map Value.string).toArray) (g := fun i => .string (at_ (Zow ⟨#[c]⟩ s) i)) (by unfold maxLen; omega) hcell ?_
  · have e : slS true (Zow ⟨#[c]⟩ s) = .sl true 1 (Lib.countB s ⟨#[c]⟩ + 1) fun i => [Sv (at_ (Zow ⟨#[c]⟩ s) i)] := by
      rw [← hlen]; rfl
    rw [e]
    exact hmain
  · intro w _
    have hI : ∀ (x : ByteArray) (d : Array Value), x.size ≤ s.size → Calls Tryz.prog 182 #[.string x, .string ⟨#[c]⟩] (w.alloc (.cells d 9)) fun e w' => e = .returned (.int .i64 (Lib.indexB x ⟨#[c]⟩)) ∧ w' = w.alloc (.cells d 9) := fun x d _ => by
      have := Tryz.strings_Index_one x c (w.alloc (.cells d 9))
      have e : Lib.indexB x ⟨#[c]⟩ = Lib.indexByte x.data.toList c := Lib.index_one _ _
      rw [e]
      exact this
    have hC : Calls Tryz.prog 185 #[.string s, .string ⟨#[c]⟩] w fun e w' => e = .returned (.int .i64 (Lib.countB s ⟨#[c]⟩)) ∧ w' = w := by
      have := Tryz.strings_Count_one s c w
      have e : Lib.countB s ⟨#[c]⟩ = Lib.countByte s.data.toList c := Lib.count_one c _
      rw [e]
      exact this
    have hcore := Any.strings_genSplit_core Tryz.lays221 (by kernel_rfl) s ⟨#[c]⟩ 0 (-1) (Lib.countB s ⟨#[c]⟩ + 1) w (by omega) (by omega) (Nat.zero_le _) hI hC (by decide) (by decide) (by rw [if_pos (by decide)]; omega)
    rw [Nat.add_sub_cancel, hlen] at hcore
    have e2 : Lib.cellsOf (Lib.splitB ⟨#[c]⟩ 0 (Lib.countB s ⟨#[c]⟩) s) (Lib.countB s ⟨#[c]⟩ + 1) = ((Lib.splitB ⟨#[c]⟩ 0 (Lib.countB s ⟨#[c]⟩) s).map Value.string).toArray := by rw [← hlen]; exact Lib.cellsOf_full _
    rw [e2] at hcore
    go_enter Tryz.func95, Tryz.ntmps95
    go_wp2_with (go_at_call 150; refine hcore.mono ?_; rintro e w' ⟨rfl, hw⟩; rw [hw])
    go_ret
    exact ⟨rfl, rfl⟩
theorem Zxb (s : ByteArray) (ok : linOk s) : ∃ (ls : List ByteArray) (k : Bool), (ls = Zve s) ∧ (k = true) ∧ Con Tryz.prog 43 [Sv s] true (.tup [slS true ls, Bv k]) := by
  have hz := ok.1
  have hh : ∃ r : (List ByteArray) × Bool, ((r.1 = Zve s) ∧ (r.2 = true) ∧ (True)) ∧ Zbi Tryz.prog 43 [Sv s] (Zaf []) true (.tup [slS true r.1, Bv r.2]) (Zaf []) := by
    refine Zdl (Φ := fun r : (List ByteArray) × Bool => (r.1 = Zve s) ∧ (r.2 = true) ∧ (True)) [] (fun r => []) (fn := Tryz.f43) (nt := 12) Tryz.func43 rfl rfl (args := [Sv s]) rfl (Zbe (.inl ⟨rfl, trivial⟩) Zdj) (res := fun r => .tup [slS true r.1, Bv r.2]) ?_
    refine xR [] [0] [] [Sv s] [] [] trivial ?_
    refine Zar ?_
    refine Zar ?_
    by_cases h1 : s = (⟨#[]⟩ : ByteArray)
    ·have hlb : Zve s = [] := by rw [Zve, if_pos h1]
     refine x_r [(1, .dec true)] [0, 5] [] [Sv s, Bv true] [] [s = (⟨#[]⟩ : ByteArray)] ⟨h1, trivial⟩ ?_
     refine Zad ?_
     refine Zcb rfl ?_
     refine xR [] [2, 3] [] [Zde, Bv true] [] [] trivial ?_
     refine Zdh ?_
     refine Zcl ?_
     refine Zce (([] : List ByteArray), true) (show (([] : List ByteArray) = Zve s) ∧ (true = true) ∧ (True) from ⟨(by first | exact hlb.symm | rfl), (by first | exact hlb.symm | rfl), trivial⟩) (trivial) (.tup [Zde, Bv true]) (by kernel_rfl) (.inr ⟨⟨rfl, rfl⟩, ⟨rfl, rfl⟩⟩) (fun _ => rfl) (fun _ => (by simp [Zan, Zaj, tagS]))
    have hse := h1
    have hlb : Zve s = Zow ⟨#[10]⟩ (Ztl s ⟨#[10]⟩) := by rw [Zve, if_neg hse]
    refine x_r [(1, .dec false)] [0, 5] [] [Sv s, Bv false] [] [¬ (s = (⟨#[]⟩ : ByteArray))] ⟨h1, trivial⟩ ?_
    refine Zad ?_
    refine Zav rfl ?_
    refine Zbk ?_
    refine Zad ?_
    refine Zar ?_
    refine xR [(1, .call [(true, .any), (true, .any)] true (Bv true))] [0, 8] [] [Sv s, Bv false] [] [Con Tryz.prog 94 [Sv s, Sv (⟨#[10]⟩ : ByteArray)] true (Bv true) ∧ True] ⟨⟨(Zbv (ok.2.resolve_left hse) (Zrd s (⟨#[10]⟩ : ByteArray) (by omega))), trivial⟩, trivial⟩ ?_
    refine Zav rfl ?_
    refine Zbk ?_
    refine Zad ?_
    refine xR [(1, .call [(true, .any), (true, .any)] true (Sv (Ztl s (⟨#[10]⟩ : ByteArray)))), (2, .call [(true, .any), (true, .any)] true (slS true (Zow (⟨#[10]⟩ : ByteArray) (Ztl s (⟨#[10]⟩ : ByteArray)))))] [2, 3] [] [slS true (Zow (⟨#[10]⟩ : ByteArray) (Ztl s (⟨#[10]⟩ : ByteArray))), Bv true] [] [Con Tryz.prog 96 [Sv s, Sv (⟨#[10]⟩ : ByteArray)] true (Sv (Ztl s (⟨#[10]⟩ : ByteArray))) ∧ True, Con Tryz.prog 95 [Sv (Ztl s (⟨#[10]⟩ : ByteArray)), Sv (⟨#[10]⟩ : ByteArray)] true (slS true (Zow (⟨#[10]⟩ : ByteArray) (Ztl s (⟨#[10]⟩ : ByteArray)))) ∧ True] ⟨⟨(Zpc s (⟨#[10]⟩ : ByteArray) (by omega)), trivial⟩, ⟨(split_ok (Ztl s (⟨#[10]⟩ : ByteArray)) (⟨#[10]⟩ : ByteArray) ⟨by have := Zyl s ⟨#[10]⟩; omega, trivial⟩ rfl), trivial⟩, trivial⟩ ?_
    refine Zdh ?_
    refine Zce ((Zow (⟨#[10]⟩ : ByteArray) (Ztl s (⟨#[10]⟩ : ByteArray))), true) (show ((Zow (⟨#[10]⟩ : ByteArray) (Ztl s (⟨#[10]⟩ : ByteArray))) = Zve s) ∧ (true = true) ∧ (True) from ⟨(by first | exact hlb.symm | rfl), (by first | exact hlb.symm | rfl), trivial⟩) (trivial) (.tup [slS true (Zow (⟨#[10]⟩ : ByteArray) (Ztl s (⟨#[10]⟩ : ByteArray))), Bv true]) (by kernel_rfl) (.inl rfl) (fun _ => rfl) (fun _ => (by simp [Zan, Zaj, tagS]))
  obtain ⟨⟨ls, k⟩, ⟨hh0, hh1, _⟩, hc⟩ := hh
  exact ⟨ls, k, hh0, hh1, hc⟩
def ixB (s sep : ByteArray) : Int := Lib.indexByte s.data.toList (sep.data.toList.getD 0 0)
theorem ixL {c : UInt8} : ∀ {l r : List UInt8}, c ∉ l → Lib.indexByte (l ++ c :: r) c = l.length
  | [], r, _ => by simp [Lib.indexByte]
  | b :: l, r, h => by
    have hb : ¬ b = c := fun e => h (by rw [e]; exact List.mem_cons_self)
    have ih := ixL (l := l) (r := r) (fun q => h (List.mem_cons_of_mem _ q))
    show (if b == c then (0 : Int) else if Lib.indexByte (l ++ c :: r) c == -1 then -1 else Lib.indexByte (l ++ c :: r) c + 1) = _
    rw [ih, if_neg (by simpa using hb), if_neg (by simp), List.length_cons]
    omega
theorem ixB_at {c : UInt8} {x y : ByteArray} (h : noB c x) : ixB ((x ++ ⟨#[c]⟩) ++ y) ⟨#[c]⟩ = x.size := by
  have e : ((x ++ ⟨#[c]⟩) ++ y).data.toList = x.data.toList ++ c :: y.data.toList := by simp
  unfold ixB
  rw [e]
  exact (ixL h).trans (by simp)
theorem cut_ext (x y : ByteArray) (c : UInt8) : ((x ++ ⟨#[c]⟩) ++ y).extract 0 x.size = x ∧ ((x ++ ⟨#[c]⟩) ++ y).extract (x.size + 1) (((x ++ ⟨#[c]⟩) ++ y)).size = y := by
  constructor
  · apply ByteArray.ext
    rw [ByteArray.data_extract]
    exact Array.toList_inj.1 (by simp)
  · apply ByteArray.ext
    rw [ByteArray.data_extract]
    have h1 : (⟨#[c]⟩ : ByteArray).size = 1 := rfl
    have h2 : x.data.toList.length = x.size := by simp
    have h3 : y.data.toList.length = y.size := by simp
    refine Array.toList_inj.1 ?_
    simp
    rw [h1, List.drop_eq_nil_of_le (by rw [List.length_append, h2]; simp), List.take_nil, List.nil_append, List.take_of_length_le (by rw [h3]; omega)]
theorem Zxc (s sep : ByteArray) (h1 : sep.size = 1) : Con Tryz.prog 166 [Sv s, Sv sep] true (I (ixB s sep)) := by
  obtain ⟨c, rfl⟩ := Lib.one_byte sep h1
  refine Zeq (vals := [.string s, .string ⟨#[c]⟩]) fun w _ => ?_
  refine (Tryz.stringslite_Index_one s c w).mono ?_
  rintro e w' ⟨rfl, rfl⟩
  exact ⟨rfl, Below.refl _ _⟩
theorem slCut_ok (s : ByteArray) (sep : ByteArray) (h : ∃ x y : ByteArray, noB 32 x ∧ s = (x ++ ⟨#[32]⟩) ++ y) (hq : sep = ⟨#[32]⟩) (hz : s.size ≤ 1000000) : ∃ (a : ByteArray) (b : ByteArray) (c : Bool), (∀ x y : ByteArray, noB 32 x → s = (x ++ ⟨#[32]⟩) ++ y → a = x ∧ b = y) ∧ (c = true) ∧ Con Tryz.prog 118 [Sv s, Sv sep] true (.tup [Sv a, Sv b, Bv c]) := by
  obtain ⟨x, y, hx, hs⟩ := h
  have hq2 : sep.size = 1 := by rw [hq]; rfl
  have hix : ixB s sep = x.size := by rw [hs, hq]; exact ixB_at hx
  have hsz : s.size = x.size + 1 + y.size := by rw [hs, ByteArray.size_append, ByteArray.size_append]; rfl
  have hh : ∃ r : ByteArray × ByteArray × Bool, ((∀ x y : ByteArray, noB 32 x → s = (x ++ ⟨#[32]⟩) ++ y → r.1 = x ∧ r.2.1 = y) ∧ (r.2.2 = true) ∧ (True)) ∧ Zbi Tryz.prog 118 [Sv s, Sv sep] (Zaf []) true (.tup [Sv r.1, Sv r.2.1, Bv r.2.2]) (Zaf []) := by
    refine Zdl (Φ := fun r : ByteArray × ByteArray × Bool => (∀ x y : ByteArray, noB 32 x → s = (x ++ ⟨#[32]⟩) ++ y → r.1 = x ∧ r.2.1 = y) ∧ (r.2.2 = true) ∧ (True)) [] (fun r => []) (fn := Tryz.f118) (nt := 23) Tryz.func118 rfl rfl (args := [Sv s, Sv sep]) rfl (Zbe (.inl ⟨rfl, trivial⟩) (Zbe (.inl ⟨rfl, trivial⟩) Zdj)) (res := fun r => .tup [Sv r.1, Sv r.2.1, Bv r.2.2]) ?_
    refine xR [] [0, 1] [] [Sv s, Sv sep] [] [] trivial ?_
    refine Zar ?_
    refine xR [(2, .call [(true, .any), (true, .any)] true (I (ixB s sep)))] [0, 1, 7] [] [Sv s, Sv sep, I (ixB s sep)] [] [Con Tryz.prog 166 [Sv s, Sv sep] true (I (ixB s sep)) ∧ True] ⟨⟨(Zxc s sep (by first | rfl | omega)), trivial⟩, trivial⟩ ?_
    refine xR [(1, .dec true)] [0, 1, 7, 12] [] [Sv s, Sv sep, I (ixB s sep), Bv true] [] [0 ≤ (ixB s sep)] ⟨(by rw [hix]; omega), trivial⟩ ?_
    refine Zcb rfl ?_
    refine xR [] [4, 5, 6] [] [Sv (s.extract 0 (ixB s sep).toNat), Sv (s.extract ((ixB s sep) + (sep.size : Int)).toNat (s.size : Int).toNat), Bv true] [] [(0 : Int) ≤ 0 ∧ (0 : Int) ≤ (ixB s sep) ∧ (ixB s sep) ≤ (s.size : Int), inR .i64 ((ixB s sep) + (sep.size : Int)), (0 : Int) ≤ ((ixB s sep) + (sep.size : Int)) ∧ ((ixB s sep) + (sep.size : Int)) ≤ (s.size : Int) ∧ (s.size : Int) ≤ (s.size : Int)] ⟨⟨(by omega), (by omega), (by omega)⟩, (Zah (by omega) (by omega)), ⟨(by omega), (by omega), (by omega)⟩, trivial⟩ ?_
    refine Zdh ?_
    refine Zcl ?_
    refine Zce ((s.extract 0 (ixB s sep).toNat), (s.extract ((ixB s sep) + (sep.size : Int)).toNat (s.size : Int).toNat), true) (show (∀ x y : ByteArray, noB 32 x → s = (x ++ ⟨#[32]⟩) ++ y → (s.extract 0 (ixB s sep).toNat) = x ∧ (s.extract ((ixB s sep) + (sep.size : Int)).toNat (s.size : Int).toNat) = y) ∧ (true = true) ∧ (True) from ⟨(by (intro x2 y2 h2 e2; have hi2 : ixB s sep = x2.size := by (rw [e2, hq]; exact ixB_at h2)); rw [hi2]; have q_ := cut_ext x2 y2 32; rw [← e2] at q_; first | exact q_ | (refine ⟨q_.1, ?_⟩; rw [show ((x2.size : Int) + (sep.size : Int)).toNat = x2.size + 1 from by omega]; first | exact q_.2 | (rw [show ((s.size : Int)).toNat = s.size from by omega]; exact q_.2))), (by rfl), trivial⟩) (trivial) (.tup [Sv (s.extract 0 (ixB s sep).toNat), Sv (s.extract ((ixB s sep) + (sep.size : Int)).toNat (s.size : Int).toNat), Bv true]) (by kernel_rfl) (.inl rfl) (fun _ => rfl) (fun _ => (by simp [Zan, Zaj]))
  obtain ⟨⟨a, b, c⟩, ⟨hh0, hh1, _⟩, hc⟩ := hh
  exact ⟨a, b, c, hh0, hh1, hc⟩
theorem Zyr (s : ByteArray) (sep : ByteArray) (h : ∃ x y : ByteArray, noB 32 x ∧ s = (x ++ ⟨#[32]⟩) ++ y) (hq : sep = ⟨#[32]⟩) (hz : s.size ≤ 1000000) : ∃ (a : ByteArray) (b : ByteArray) (c : Bool), (∀ x y : ByteArray, noB 32 x → s = (x ++ ⟨#[32]⟩) ++ y → a = x ∧ b = y) ∧ (c = true) ∧ Con Tryz.prog 67 [Sv s, Sv sep] true (.tup [Sv a, Sv b, Bv c]) := by
  have hh : ∃ r : ByteArray × ByteArray × Bool, ((∀ x y : ByteArray, noB 32 x → s = (x ++ ⟨#[32]⟩) ++ y → r.1 = x ∧ r.2.1 = y) ∧ (r.2.2 = true) ∧ (True)) ∧ Zbi Tryz.prog 67 [Sv s, Sv sep] (Zaf []) true (.tup [Sv r.1, Sv r.2.1, Bv r.2.2]) (Zaf []) := by
    refine Zdl (Φ := fun r : ByteArray × ByteArray × Bool => (∀ x y : ByteArray, noB 32 x → s = (x ++ ⟨#[32]⟩) ++ y → r.1 = x ∧ r.2.1 = y) ∧ (r.2.2 = true) ∧ (True)) [] (fun r => []) (fn := Tryz.f67) (nt := 13) Tryz.func67 rfl rfl (args := [Sv s, Sv sep]) rfl (Zbe (.inl ⟨rfl, trivial⟩) (Zbe (.inl ⟨rfl, trivial⟩) Zdj)) (res := fun r => .tup [Sv r.1, Sv r.2.1, Bv r.2.2]) ?_
    refine xR [] [0, 1] [] [Sv s, Sv sep] [] [] trivial ?_
    refine Zar ?_
    obtain ⟨a_1, b_1, c_1, hx1_0, hx1_1, hc1⟩ := slCut_ok s sep h hq (by omega)
    have hcu := hx1_0
    have hcc := hx1_1
    refine x_r [(2, .call [(true, .any), (true, .any)] true (.tup [Sv a_1, Sv b_1, Bv c_1]))] [4, 5, 6] [] [Sv a_1, Sv b_1, Bv c_1] [] [Con Tryz.prog 118 [Sv s, Sv sep] true (.tup [Sv a_1, Sv b_1, Bv c_1]) ∧ True] ⟨⟨hc1, trivial⟩, trivial⟩ ?_
    refine Zad ?_
    refine Zdh ?_
    refine Zce (a_1, b_1, c_1) (show (∀ x y : ByteArray, noB 32 x → s = (x ++ ⟨#[32]⟩) ++ y → a_1 = x ∧ b_1 = y) ∧ (c_1 = true) ∧ (True) from ⟨(by exact hcu), (by first | exact hcc | rfl), trivial⟩) (trivial) (.tup [Sv a_1, Sv b_1, Bv c_1]) (by kernel_rfl) (.inl rfl) (fun _ => rfl) (fun _ => (by simp [Zan, Zaj]))
  obtain ⟨⟨a, b, c⟩, ⟨hh0, hh1, _⟩, hc⟩ := hh
  exact ⟨a, b, c, hh0, hh1, hc⟩
set_option maxHeartbeats 2000000 in
theorem Zys (n : Int) (h : -9223372036854775808 ≤ n ∧ n ≤ 9223372036854775807) (w : World) (hw : WX w) : Calls Tryz.prog 47 #[.int .i64 n] w fun e w' => e = .returned (.string (Zfs n)) ∧ Below w.heap.size w w' := by
  go_enter Tryz.func47, Tryz.ntmps47
  go_wp2_with (go_at_call 100; refine (Tryz.strconv_FormatInt_10 n h.1 h.2 w (WX_tab hw)).mono ?_; rintro e w' ⟨rfl, k, os, rfl⟩)
  go_ret
  exact ⟨rfl, Lib.below_grow _ _ (Nat.le_refl _) k os⟩
set_option maxHeartbeats 2000000 in
set_option maxRecDepth 100000 in
theorem Zxd (s : ByteArray) (hs : isDec s) : Con Tryz.prog 45 [Sv s] true (.tup [I (dcV s), Bv true]) := by
  obtain ⟨n, hn, rfl⟩ := hs
  rw [Ztn hn]
  refine Zov (vals := [.string (Zfs n)]) fun w hw => ?_
  have hp := Zrb hn
  have ht := trp_dec hn
  have hsz := Zrc (n := n) (by omega)
  go_enter Tryz.func45, Tryz.ntmps45
  go_wp2_with (go_at_call 97; refine (Tryz.strings_TrimPrefix (Zfs n) _ w).mono ?_; rintro e w' ⟨rfl, hw'⟩; rw [hw'])
  clear hw'
  go_wp2_with (go_at_call 98; refine (Tryz.strconv_ParseInt_10_at64_ok (Zfs n) (by omega) n hp w).mono ?_; rintro e w2 ⟨rfl, hw2⟩)
  have hb : Below w.heap.size w w2 := by
    rcases hw2 with rfl | ⟨t, rfl⟩
    · exact Below.refl _ _
    · exact Lib.bytesWorld_below _ _ _
  have hx := Zvi hw w2 hb
  clear hw2
  go_wp2_with (go_at_call 47; refine (Zys n (by omega) w2 hx).mono ?_; rintro e w3 ⟨rfl, hb3⟩)
  go_ret2
  exact ⟨rfl, hb.trans (hb3.mono hb.size)⟩
theorem Znf (s : ByteArray) (ok : ∃ l, Zci l ∧ s = Zoy l) : ∃ (v : Lexicon) (c : Bool), (∀ l, Zci l → s = Zoy l → v = l) ∧ (c = true) ∧ Con Tryz.prog 25 [Sv s] true (.tup [.agg [Zaa true v.Entries], Bv c]) := by
  obtain ⟨lt, hok, hsi⟩ := ok
  have h60 := hok.1
  have huq : ∀ l2, Zci l2 → s = Zoy l2 → lt = l2 := fun l2 h2 q2 => lx_inj hok h2 (hsi.symm.trans q2)
  have hls : Zve s = Zim lt := by rw [hsi]; exact (Zkx hok).1
  have hlo : linOk s := by rw [hsi]; exact (Zkx hok).2
  have hh : ∃ r : Lexicon × Bool, ((∀ l, Zci l → s = Zoy l → r.1 = l) ∧ (r.2 = true) ∧ (True)) ∧ Zbi Tryz.prog 25 [Sv s] (Zaf []) true (.tup [.agg [Zaa true r.1.Entries], Bv r.2]) (Zaf []) := by
    refine Zdl (Φ := fun r : Lexicon × Bool => (∀ l, Zci l → s = Zoy l → r.1 = l) ∧ (r.2 = true) ∧ (True)) [] (fun r => []) (fn := Tryz.f25) (nt := 59) Tryz.func25 rfl rfl (args := [Sv s]) rfl (Zbe (.inl ⟨rfl, trivial⟩) Zdj) (res := fun r => .tup [.agg [Zaa true r.1.Entries], Bv r.2]) ?_
    refine xR [(0, .new 2)] [0, 2] [2] [Sv s, .ref 2 0] [some (.box [Zde])] [] trivial ?_
    refine Zar ?_
    obtain ⟨ls_1, k_1, hx1_0, hx1_1, hc1⟩ := Zxb s hlo
    have hlv : ls_1 = Zim lt := by rw [hx1_0, hls]
    have hlk := hx1_1
    have hll : ls_1.length = lt.Entries.length := by rw [hlv]; unfold Zim; rw [List.length_map]
    refine x_r [(1, .call [(true, .any)] true (.tup [slS true ls_1, Bv k_1]))] [0, 2, 4, 5] [2] [Sv s, .ref 2 0, slS true ls_1, Bv k_1] [some (.box [Zde])] [Con Tryz.prog 43 [Sv s] true (.tup [slS true ls_1, Bv k_1]) ∧ True] ⟨⟨hc1, trivial⟩, trivial⟩ ?_
    refine Zad ?_
    refine Zar ?_
    refine Zar ?_
    obtain rfl : k_1 = true := hlk
    refine x_r [] [0, 2, 4, 20] [2] [Sv s, .ref 2 0, slS true ls_1, Bv false] [some (.box [Zde])] [] trivial ?_
    refine Zad ?_
    refine Zav rfl ?_
    refine Zbk ?_
    refine Zad ?_
    refine xR [(0, .new 6)] [0, 2, 4, 6] [2, 6] [Sv s, .ref 2 0, slS true ls_1, .ref 6 0] [some (.box [Zde]), some (.box [Zde])] [] trivial ?_
    refine Zar ?_
    refine xR [] [0, 2, 6, 22, 23, 24] [2, 6] [Sv s, .ref 2 0, .ref 6 0, slS true ls_1, I (ls_1.length : Int), I 0] [some (.box [Zde]), some (.box [Zde])] [] trivial ?_
    refine Zbp ?_
    refine x_nilC 6 0 760 2 (fun _ => []) rfl (by kernel_rfl) ?_
    refine Zek [] (T := [(0, Sv s), (2, .ref 2 0), (6, .ref 6 0), (22, slS true ls_1), (23, I (ls_1.length : Int)), (24, I 0)]) (O := [(2, .box [Zde]), (6, .box [.arr 760]), (760, Zbl ([] : List Entry))]) rfl (⟨.inl rfl, .inl rfl, .inl rfl, .inl rfl, .inl rfl, .inl rfl, trivial⟩) (⟨.inl rfl, .inl rfl, .inr ⟨rfl, (by first | rfl | (simp; done) | (simp; omega) | omega), fun i_ hi_ => absurd hi_ (Nat.not_lt_zero _)⟩, trivial⟩) ?_
    refine Zel (X := Int × (List Entry)) (fun x => mkS [(0, Sv s), (2, .ref 2 0), (6, .ref 6 0), (22, slS true ls_1), (23, I (ls_1.length : Int)), (24, I x.1)] [(2, .box [Zde]), (6, .box [.arr 760]), (760, Zbl x.2)]) (fun x => (0 ≤ x.1 ∧ x.1 ≤ (ls_1.length : Int)) ∧ ((x.2.length : Int) ≤ x.1) ∧ (x.2 = lt.Entries.take x.1.toNat) ∧ True) (fun x => ((ls_1.length : Int) - x.1).toNat) (0, ([] : List Entry)) rfl (show (0 ≤ (0 : Int) ∧ (0 : Int) ≤ (ls_1.length : Int)) ∧ ((([] : List Entry).length : Int) ≤ (0 : Int)) ∧ (([] : List Entry) = lt.Entries.take (0 : Int).toNat) ∧ True from ⟨(by omega), (by simp), (by rfl), trivial⟩) (fun x hI => ?_)
    obtain ⟨t24, ts⟩ := x
    obtain ⟨hi0, htl, hts, _⟩ : (0 ≤ t24 ∧ t24 ≤ (ls_1.length : Int)) ∧ ((ts.length : Int) ≤ t24) ∧ (ts = lt.Entries.take t24.toNat) ∧ True := hI
    show XW _ _ _ _ (mkS [(0, Sv s), (2, .ref 2 0), (6, .ref 6 0), (22, slS true ls_1), (23, I (ls_1.length : Int)), (24, I t24)] [(2, .box [Zde]), (6, .box [.arr 760]), (760, Zbl ts)]) _ _
    refine Zar ?_
    by_cases h1 : t24 < (ls_1.length : Int)
    ·have hi : t24.toNat < lt.Entries.length := by omega
     have hed := hok.2.1 _ (Zcx hi)
     have hes := lx_sz hed
     have hwk : at_ ls_1 t24.toNat = ((at_ lt.Entries t24.toNat).Word ++ ⟨#[32]⟩) ++ Zfs (at_ lt.Entries t24.toNat).Cost := by rw [hlv, Zvg hi]; rfl
     have hlz : (at_ ls_1 t24.toNat).size ≤ 31 := by rw [hwk]; exact Zlo hed
     have hnb : noB 32 (at_ lt.Entries t24.toNat).Word := Ztp hed.1 (by decide)
     have hii : (t24 + 1).toNat = t24.toNat + 1 := by omega
     refine x_r [(0, .dec true)] [0, 2, 6, 22, 23, 24, 25] [2, 6, 760] [Sv s, .ref 2 0, .ref 6 0, slS true ls_1, I (ls_1.length : Int), I t24, Bv true] [some (.box [Zde]), some (.box [.arr 760]), some (Zbl ts)] [t24 < (ls_1.length : Int)] ⟨h1, trivial⟩ ?_
     refine Zad ?_
     refine Zar ?_
     refine Zcb rfl ?_
     refine Zbk ?_
     refine Zad ?_
     refine Zar ?_
     refine Zbp ?_
     refine xR [] [0, 2, 6, 8, 22, 23, 24] [2, 6, 760] [Sv s, .ref 2 0, .ref 6 0, Sv (at_ ls_1 t24.toNat), slS true ls_1, I (ls_1.length : Int), I t24] [some (.box [Zde]), some (.box [.arr 760]), some (Zbl ts)] [(0 : Int) ≤ t24 ∧ t24 < (ls_1.length : Int)] ⟨⟨(by omega), (by omega)⟩, trivial⟩ ?_
     refine Zar ?_
     obtain ⟨a_2, b_2, c_2, hx2_0, hx2_1, hc2⟩ := Zyr (at_ ls_1 t24.toNat) (⟨#[32]⟩ : ByteArray) ⟨_, _, hnb, hwk⟩ rfl (by omega)
     have hab := hx2_0 _ _ hnb hwk
     have hbd : isDec b_2 := ⟨_, by have q_ := hed.2; omega, hab.2⟩
     refine x_r [(1, .call [(true, .any), (true, .any)] true (.tup [Sv a_2, Sv b_2, Bv c_2]))] [0, 2, 6, 9, 10, 22, 23, 24] [2, 6, 760] [Sv s, .ref 2 0, .ref 6 0, Sv a_2, Sv b_2, slS true ls_1, I (ls_1.length : Int), I t24] [some (.box [Zde]), some (.box [.arr 760]), some (Zbl ts)] [Con Tryz.prog 67 [Sv (at_ ls_1 t24.toNat), Sv (⟨#[32]⟩ : ByteArray)] true (.tup [Sv a_2, Sv b_2, Bv c_2]) ∧ True] ⟨⟨hc2, trivial⟩, trivial⟩ ?_
     refine Zad ?_
     refine xR [(1, .call [(true, .any)] true (.tup [I (dcV b_2), Bv true]))] [0, 2, 6, 9, 12, 22, 23, 24] [2, 6, 760] [Sv s, .ref 2 0, .ref 6 0, Sv a_2, I (dcV b_2), slS true ls_1, I (ls_1.length : Int), I t24] [some (.box [Zde]), some (.box [.arr 760]), some (Zbl ts)] [Con Tryz.prog 45 [Sv b_2] true (.tup [I (dcV b_2), Bv true]) ∧ True] ⟨⟨(Zxd b_2 hbd), trivial⟩, trivial⟩ ?_
     refine x_r [(5, .new 44), (6, .new 45)] [0, 2, 6, 22, 23, 24] [2, 6, 45] [Sv s, .ref 2 0, .ref 6 0, slS true ls_1, I (ls_1.length : Int), I t24] [some (.box [Zde]), some (.box [.arr 45]), some (.arr 2 (ts.length + 1) (Zfm ts.length (Zap ts) (Zgd [Sv a_2, I (dcV b_2)] 2)))] [(ts.length + 1) * 24 ≤ 140737488355328] ⟨(by omega), trivial⟩ ?_
     refine Zbw 1 ?_
     refine Zad ?_
     refine x_r [] [0, 2, 6, 22, 23, 24] [2, 6, 45] [Sv s, .ref 2 0, .ref 6 0, slS true ls_1, I (ls_1.length : Int), I (t24 + 1)] [some (.box [Zde]), some (.box [.arr 45]), some (.arr 2 (ts.length + 1) (Zfm ts.length (Zap ts) (Zgd [Sv a_2, I (dcV b_2)] 2)))] [inR .i64 (t24 + 1)] ⟨(Zah (by omega) (by omega)), trivial⟩ ?_
     refine Zgy [(760, 45)] (T := [(0, Sv s), (2, .ref 2 0), (6, .ref 6 0), (22, slS true ls_1), (23, I (ls_1.length : Int)), (24, I (t24 + 1))]) (O := [(2, .box [Zde]), (6, .box [.arr 760]), (760, Zbl (ts ++ [(Entry.mk a_2 (dcV b_2))]))]) rfl (⟨.inl rfl, .inl rfl, .inl rfl, .inl rfl, .inl rfl, .inl rfl, trivial⟩) (⟨.inl rfl, .inl rfl, .inr ⟨rfl, (by first | rfl | (simp; done) | (simp; omega) | omega), fun i_ hi_ => .inl (Zhw (enc := Zej) (xs := ts) rfl i_ hi_)⟩, trivial⟩) (Zbm ((t24 + 1), (ts ++ [(Entry.mk a_2 (dcV b_2))])) rfl (show (0 ≤ (t24 + 1) ∧ (t24 + 1) ≤ (ls_1.length : Int)) ∧ (((ts ++ [(Entry.mk a_2 (dcV b_2))]).length : Int) ≤ (t24 + 1)) ∧ ((ts ++ [(Entry.mk a_2 (dcV b_2))]) = lt.Entries.take (t24 + 1).toNat) ∧ True from ⟨(by omega), (by first | omega | (simp; omega)), (by (rw [hts, hii, List.take_succ_eq_append_getElem hi, hab.1, hab.2, Ztn (by have q_ := hed.2; omega), ← Zcz hi])), trivial⟩) (by first | (show (((ls_1.length : Int) - (t24 + 1)).toNat : Nat) < ((ls_1.length : Int) - t24).toNat; omega) | (dsimp only; omega)))
    have hfin : Lexicon.mk ts = lt := by rw [hts, List.take_of_length_le (by omega)]
    refine x_r [(0, .dec false)] [0, 2, 6, 22, 23, 24, 25] [2, 6, 760] [Sv s, .ref 2 0, .ref 6 0, slS true ls_1, I (ls_1.length : Int), I t24, Bv false] [some (.box [Zde]), some (.box [.arr 760]), some (Zbl ts)] [¬ (t24 < (ls_1.length : Int))] ⟨h1, trivial⟩ ?_
    refine Zad ?_
    refine Zar ?_
    refine Zav rfl ?_
    refine Zdo ?_
    refine Zaw ?_
    refine Zbd ?_
    refine Zax ?_
    refine Zad ?_
    refine Zar ?_
    refine xR [(1, .call [(false, .agg [Zaa false ts])] true (Bv true)), (5, .call [(false, .agg [Zaa false ts])] true (Sv (Zoy (Lexicon.mk ts)))), (7, .dec false)] [2, 6, 56] [2, 6, 760] [.ref 2 0, .ref 6 0, Bv false] [some (.box [Zde]), some (.box [.arr 760]), some (Zbl ts)] [Con Tryz.prog 51 [.agg [Zaa false ts]] true (Bv true) ∧ (((false = true → true = true) ∧ 2 = 2 ∧ ts.length = ts.length ∧ ∀ i_, i_ < ts.length → (Zap ts) i_ = (Zap ts) i_ ∨ (AV.idsL ((Zap ts) i_) = [] ∧ leL (fun _ => none) false ((Zap ts) i_) ((Zap ts) i_))) ∧ ([] : List AV) = []) ∧ True, Con Tryz.prog 26 [.agg [Zaa false ts]] true (Sv (Zoy (Lexicon.mk ts))) ∧ (((false = true → true = true) ∧ 2 = 2 ∧ ts.length = ts.length ∧ ∀ i_, i_ < ts.length → (Zap ts) i_ = (Zap ts) i_ ∨ (AV.idsL ((Zap ts) i_) = [] ∧ leL (fun _ => none) false ((Zap ts) i_) ((Zap ts) i_))) ∧ ([] : List AV) = []) ∧ True, ¬ ((Zoy (Lexicon.mk ts)) ≠ s)] ⟨⟨(Zdi (Lexicon.mk ts) (by rw [hfin]; exact hok)), ⟨⟨(fun h => by cases h), rfl, rfl, fun i _ => .inl rfl⟩, rfl⟩, trivial⟩, ⟨(Zig (Lexicon.mk ts) (by rw [hfin]; exact hok)), ⟨⟨(fun h => by cases h), rfl, rfl, fun i _ => .inl rfl⟩, rfl⟩, trivial⟩, (fun hq => hq (by rw [hfin]; exact hsi.symm)), trivial⟩ ?_
    refine Zav rfl ?_
    refine Zbk ?_
    refine Zad ?_
    refine xR [] [2, 3] [2, 760] [.ref 2 0, Bv true] [some (.box [.arr 760]), some (Zbl ts)] [] trivial ?_
    refine Zdh ?_
    refine Zce ((Lexicon.mk ts), true) (show (∀ l, Zci l → s = Zoy l → (Lexicon.mk ts) = l) ∧ (true = true) ∧ (True) from ⟨(by exact fun m2 h2 q2 => hfin.trans (huq m2 h2 q2)), (by rfl), trivial⟩) (trivial) (.tup [.agg [.arr 760], Bv true]) (by kernel_rfl) (.inr ⟨⟨⟨(fun _ => rfl), rfl, rfl, fun i _ => .inl rfl⟩, rfl⟩, ⟨rfl, rfl⟩⟩) (fun _ => rfl) (fun _ => (by simp [Zan, Zaj, Zcf]))
  obtain ⟨⟨v, c⟩, ⟨hh0, hh1, _⟩, hc⟩ := hh
  exact ⟨v, c, hh0, hh1, hc⟩
theorem Zxe (a : Lexicon) (b : Lexicon) (hab : a = b) : Con Tryz.prog 68 [.ptr false [Zaa false a.Entries], .ptr false [Zaa false b.Entries]] true (Bv true) := by
  refine Zeb (fn := Tryz.f68) (nt := 41) Tryz.func68 rfl rfl rfl rfl (by simp [Zaj, Zan, Zcf]) fun B hB => ?_
  refine Zea (x := .ptr false [Zaa false a.Entries]) 0 rfl (fun len_a => ?_)
  simp [Zfx, Zkq, Zej, Zap, Zaa] at len_a
  refine Zea (x := .ptr false [Zaa false b.Entries]) 1 rfl (fun len_b => ?_)
  simp [Zfx, Zkq, Zej, Zap, Zaa] at len_b
  refine aR [] [0, 1] [] [.ptr false [Zaa false a.Entries], .ptr false [Zaa false b.Entries]] [] [] hB trivial ?_
  refine Zam ?_
  refine aR [(10, .dec false)] [0, 1, 16] [] [.ptr false [Zaa false a.Entries], .ptr false [Zaa false b.Entries], Bv false] [] [¬ ((a.Entries.length : Int) ≠ (b.Entries.length : Int))] hB ⟨(fun hq => hq (by rw [hab])), trivial⟩ ?_
  refine Zat rfl ?_
  refine Zaz ?_
  refine Zae ?_
  refine Zam ?_
  refine aR [] [0, 1, 5] [] [.ptr false [Zaa false a.Entries], .ptr false [Zaa false b.Entries], I 0] [] [] hB trivial ?_
  refine Zbo ?_
  refine Zed (fun gn gσ => ∃ (i : Int), gn = ((a.Entries.length : Int) - i).toNat ∧ (0 ≤ i ∧ i ≤ (a.Entries.length : Int)) ∧ gσ = mkS [(0, .ptr false [Zaa false a.Entries]), (1, .ptr false [Zaa false b.Entries]), (5, I i)] []) (((a.Entries.length : Int) - 0).toNat) ⟨0, rfl, (by omega), rfl⟩ (fun gn gσ hI => ?_)
  obtain ⟨i, rfl, hi0, rfl⟩ := hI
  refine Zam ?_
  refine Zam ?_
  by_cases h1 : i < (a.Entries.length : Int)
  ·have hi : i.toNat < a.Entries.length := by omega
   have hi2 : i.toNat < b.Entries.length := by rw [← hab]; exact hi
   refine Zbs [(6, .dec true)] [0, 1, 5, 23] [] [.ptr false [Zaa false a.Entries], .ptr false [Zaa false b.Entries], I i, Bv true] [] [i < (a.Entries.length : Int)] hB ⟨h1, trivial⟩ ?_
   refine Zae ?_
   refine Zbg rfl ?_
   refine Zaz ?_
   refine Zae ?_
   refine Zam ?_
   refine Zbo ?_
   refine aR [(14, .dec false)] [0, 1, 5, 40] [] [.ptr false [Zaa false a.Entries], .ptr false [Zaa false b.Entries], I i, Bv false] [] [(0 : Int) ≤ i ∧ i < (a.Entries.length : Int), (0 : Int) ≤ i ∧ i < (b.Entries.length : Int), ¬ (¬ (((at_ a.Entries i.toNat).Word) = ((at_ b.Entries i.toNat).Word) ∧ ((at_ a.Entries i.toNat).Cost) = ((at_ b.Entries i.toNat).Cost) ∧ True))] hB ⟨⟨(by omega), (by omega)⟩, ⟨(by omega), (by omega)⟩, (fun hq => hq (by rw [hab]; exact ⟨rfl, rfl, trivial⟩)), trivial⟩ ?_
   refine Zat rfl ?_
   refine Zaz ?_
   refine Zbz 1 ?_
   refine Zae ?_
   refine Zbs [] [0, 1, 5] [] [.ptr false [Zaa false a.Entries], .ptr false [Zaa false b.Entries], I (i + 1)] [] [inR .i64 (i + 1)] hB ⟨(Zah (by omega) (by omega)), trivial⟩ ?_
   exact Zcc _ (by omega) ⟨(i + 1), rfl, (by omega), rfl⟩
  refine Zbs [(6, .dec false)] [0, 1, 5, 23] [] [.ptr false [Zaa false a.Entries], .ptr false [Zaa false b.Entries], I i, Bv false] [] [¬ (i < (a.Entries.length : Int))] hB ⟨h1, trivial⟩ ?_
  refine Zae ?_
  refine Zat rfl ?_
  refine Zee ?_
  refine Zau ?_
  refine Zau ?_
  refine Zca ?_
  refine Zae ?_
  refine aR [] [4] [] [Bv true] [] [] hB trivial ?_
  refine Zba ?_
  refine Zbb hB (Bv true) (by kernel_rfl) (.inl rfl) rfl (fun _ => trivial)
theorem Ziv (a : Lexicon) (b : Lexicon) (hab : a = b) : Con Tryz.prog 27 [.agg [Zaa false a.Entries], .agg [Zaa false b.Entries]] true (Bv true) := by
  refine Zeb (fn := Tryz.f27) (nt := 6) Tryz.func27 rfl rfl rfl rfl (by simp [Zaj, Zan, Zcf]) fun B hB => ?_
  refine Zea (x := .agg [Zaa false a.Entries]) 0 rfl (fun len_a => ?_)
  simp [Zfx, Zkq, Zej, Zap, Zaa] at len_a
  refine Zea (x := .agg [Zaa false b.Entries]) 1 rfl (fun len_b => ?_)
  simp [Zfx, Zkq, Zej, Zap, Zaa] at len_b
  refine aR [(0, .new 2), (1, .new 3)] [2, 3] [2, 3] [.ref 2 0, .ref 3 0] [some (.box [Zaa false a.Entries]), some (.box [Zaa false b.Entries])] [] hB trivial ?_
  refine aR [(0, .call [(false, .ptr false [Zaa false a.Entries]), (false, .ptr false [Zaa false b.Entries])] true (Bv true))] [4] [] [Bv true] [] [Con Tryz.prog 68 [.ptr false [Zaa false a.Entries], .ptr false [Zaa false b.Entries]] true (Bv true) ∧ ((false = true → true = true) ∧ AV.idsL [Zaa false a.Entries] = [] ∧ ((false = true → false = true) ∧ 2 = 2 ∧ a.Entries.length = a.Entries.length ∧ ∀ i_, i_ < a.Entries.length → (Zap a.Entries) i_ = (Zap a.Entries) i_ ∨ (AV.idsL ((Zap a.Entries) i_) = [] ∧ leL (fun _ => none) false ((Zap a.Entries) i_) ((Zap a.Entries) i_))) ∧ ([] : List AV) = []) ∧ ((false = true → true = true) ∧ AV.idsL [Zaa false b.Entries] = [] ∧ ((false = true → false = true) ∧ 2 = 2 ∧ b.Entries.length = b.Entries.length ∧ ∀ i_, i_ < b.Entries.length → (Zap b.Entries) i_ = (Zap b.Entries) i_ ∨ (AV.idsL ((Zap b.Entries) i_) = [] ∧ leL (fun _ => none) false ((Zap b.Entries) i_) ((Zap b.Entries) i_))) ∧ ([] : List AV) = []) ∧ True] hB ⟨⟨(Zxe a b hab), ⟨(fun h => by cases h), rfl, ⟨⟨(fun h => by cases h), rfl, rfl, fun i _ => .inl rfl⟩, rfl⟩⟩, ⟨(fun h => by cases h), rfl, ⟨⟨(fun h => by cases h), rfl, rfl, fun i _ => .inl rfl⟩, rfl⟩⟩, trivial⟩, trivial⟩ ?_
  refine Zba ?_
  refine Zbb hB (Bv true) (by kernel_rfl) (.inl rfl) rfl (fun _ => trivial)
theorem Zvj {l : Lattice} (hl : Zcg l) {lx : Lexicon} (hx : Zci lx) {f : Found} (h : f ∈ rdA l lx) : tcF l f.Word < 1099511627776 ∧ f.Path = tcF l f.Word ∧ f.Own = Zvk lx f.Word ∧ (∃ e ∈ lx.Entries, e.Word = f.Word) ∧ f.Word.size ≤ 10 ∧ (0 ≤ f.Path ∧ f.Path ≤ 20000000) ∧ (0 ≤ f.Own ∧ f.Own ≤ 1000000) := by
  have a := Zyt hl hx h
  obtain ⟨e, he, h1, h2⟩ := a.1.1
  have hw := (Zdn.1 (hx.2.1 e he).1).1
  refine ⟨a.1.2.1, a.2, ?_, ⟨e, he, h1⟩, by rw [← h1]; exact hw.2, a.1.2.2.2.1, a.1.2.2.2.2⟩
  obtain ⟨j, hj, q⟩ := List.getElem_of_mem he
  rw [← Zcz hj] at q
  rw [Zju hx hj (by rw [q]; exact h1), q]; exact h2.symm
theorem fd_sum {l : Lattice} (hl : Zcg l) {lx : Lexicon} (hx : Zci lx) {a b : Found} (ha : a ∈ rdA l lx) (hb : b ∈ rdA l lx) (h : ¬ Znt b a < 0) : a.Path + a.Own ≤ b.Path + b.Own := by
  have q := cmpF_sum h
  rw [sum_is (Zyt hl hx ha).1, sum_is (Zyt hl hx hb).1] at q
  exact q
theorem ent_mem {lx : Lexicon} (hx : Zci lx) {e : Entry} (h : e ∈ lx.Entries) : Zvk lx e.Word = e.Cost := by
  obtain ⟨j, hj, q⟩ := List.getElem_of_mem h
  rw [← Zcz hj] at q
  rw [Zju hx hj (by rw [q]), q]
theorem Ztr (code : List Int) (more : List Int) (ok_code : ∀ y ∈ code, inR .u8 y) (ok_more : ∀ y ∈ more, inR .u8 y) : Con Tryz.prog 4 [Zdf false code, Zdf false more] true (Bv true) := by
  refine Zeb (fn := Tryz.f4) (nt := 229) Tryz.func4 rfl rfl rfl rfl (by simp [Zaj, Zan, Zgz]) fun B hB => ?_
  refine Zea (x := Zdf false code) 0 rfl (fun len_code => ?_)
  simp [Zfx, Zkq, cU8, fU8, Zdf] at len_code
  refine Zea (x := Zdf false more) 1 rfl (fun len_more => ?_)
  simp [Zfx, Zkq, cU8, fU8, Zdf] at len_more
  refine aR [] [0, 1] [] [Zdf false code, Zdf false more] [] [] hB trivial ?_
  refine Zam ?_
  refine Zam ?_
  rcases Bool.eq_false_or_eq_true (decide (3000 < (code.length : Int) ∨ 3000 < (more.length : Int))) with h1 | h1
  ·refine Zbs [(2, .call [(true, .any), (true, .any)] true (Bv true))] [0, 1, 31] [] [Zdf false code, Zdf false more, Bv true] [] [Con Tryz.prog 6 [Zdf false code, Zdf false more] true (Bv true) ∧ True] hB ⟨⟨(Zbv h1 (Zre code more)), trivial⟩, trivial⟩ ?_
   refine Zae ?_
   refine Zbg rfl ?_
   refine aR [] [4] [] [Bv true] [] [] hB trivial ?_
   refine Zba ?_
   refine Zaq ?_
   refine Zbb hB (Bv true) (by kernel_rfl) (.inl rfl) rfl (fun _ => trivial)
  have hc : (∀ j, j < code.length → 0 ≤ at_ code j ∧ at_ code j ≤ 255) ∧ code.length ≤ 4611686018427387904 := ⟨fun j hj => ok_code _ (Zcx hj), by first | omega | (simp at h1; omega)⟩
  have hmore : (∀ j, j < more.length → 0 ≤ at_ more j ∧ at_ more j ≤ 255) ∧ more.length ≤ 4611686018427387904 := ⟨fun j hj => ok_more _ (Zcx hj), by first | omega | (simp at h1; omega)⟩
  refine Zbs [(2, .call [(true, .any), (true, .any)] true (Bv false))] [0, 1, 31] [] [Zdf false code, Zdf false more, Bv false] [] [Con Tryz.prog 6 [Zdf false code, Zdf false more] true (Bv false) ∧ True] hB ⟨⟨(Zbv h1 (Zre code more)), trivial⟩, trivial⟩ ?_
  refine Zae ?_
  refine Zat rfl ?_
  refine Zaz ?_
  refine Zae ?_
  refine Zam ?_
  obtain ⟨v_1, q_1, hx1_0, hx1_1, hx1_2, hc1⟩ := Zts code (by assumption)
  have hl := hx1_0
  have hx := hx1_1
  have hx14 := hx1_2
  have hn20 := hl.1
  have hc := hl.2.1
  have hlc := hx.1
  refine Zbs [(1, .call [(true, .any)] true (.tup [Zcn v_1, .agg [Zaa true q_1.Entries]])), (5, .new 5), (6, .new 6)] [1, 5, 6] [5, 6] [Zdf false more, .ref 5 0, .ref 6 0] [some (Zak v_1), some (.box [Zaa true q_1.Entries])] [Con Tryz.prog 16 [Zdf false code] true (.tup [Zcn v_1, .agg [Zaa true q_1.Entries]]) ∧ True] hB ⟨⟨hc1, trivial⟩, trivial⟩ ?_
  refine Zae ?_
  refine Zam ?_
  obtain ⟨v_2, c_2, hx2_0, hx2_1, hc2⟩ := Zrf v_1 q_1 20 hl hx (by omega)
  obtain ⟨w_, hpw, hsw, hvw⟩ := hx2_0
  have hc1_ := hx2_1
  have hmem : ∀ f ∈ v_2, f ∈ rdA v_1 q_1 := fun f hf => hpw.mem_iff.1 (by rw [hvw] at hf; exact List.mem_of_mem_take hf)
  have hord : v_2.Pairwise fun x_ y_ => ¬ Znt y_ x_ < 0 := by rw [hvw]; exact hsw.sublist (List.take_sublist _ _)
  have hvl : v_2.length ≤ q_1.Entries.length := by rw [hvw, List.length_take]; have q1 := hpw.length_eq; have q2 := Zlq v_1 q_1 q_1.Entries.length; have q3 : (rdA v_1 q_1).length ≤ q_1.Entries.length := q2; omega
  refine Zbs [(2, .call [(false, Zbh v_1), (false, .agg [Zaa false q_1.Entries]), (true, .any)] true (.tup [Zbc true v_2, I c_2]))] [1, 5, 6, 7, 8] [5, 6] [Zdf false more, .ref 5 0, .ref 6 0, Zbc true v_2, I c_2] [some (Zak v_1), some (.box [Zaa true q_1.Entries])] [Con Tryz.prog 17 [Zbh v_1, .agg [Zaa false q_1.Entries], I 20] true (.tup [Zbc true v_2, I c_2]) ∧ ((Zcp (I v_1.Nodes) = Zcp (I v_1.Nodes)) ∧ ((false = true → true = true) ∧ 4 = 4 ∧ v_1.Edges.length = v_1.Edges.length ∧ ∀ i_, i_ < v_1.Edges.length → (Zcv v_1.Edges) i_ = (Zcv v_1.Edges) i_ ∨ (AV.idsL ((Zcv v_1.Edges) i_) = [] ∧ leL (fun _ => none) false ((Zcv v_1.Edges) i_) ((Zcv v_1.Edges) i_))) ∧ ([] : List AV) = []) ∧ (((false = true → true = true) ∧ 2 = 2 ∧ q_1.Entries.length = q_1.Entries.length ∧ ∀ i_, i_ < q_1.Entries.length → (Zap q_1.Entries) i_ = (Zap q_1.Entries) i_ ∨ (AV.idsL ((Zap q_1.Entries) i_) = [] ∧ leL (fun _ => none) false ((Zap q_1.Entries) i_) ((Zap q_1.Entries) i_))) ∧ ([] : List AV) = []) ∧ True] hB ⟨⟨hc2, ⟨rfl, ⟨⟨(fun h => by cases h), rfl, rfl, fun i _ => .inl rfl⟩, rfl⟩⟩, ⟨⟨(fun h => by cases h), rfl, rfl, fun i _ => .inl rfl⟩, rfl⟩, trivial⟩, trivial⟩ ?_
  refine Zae ?_
  refine Zam ?_
  obtain ⟨v_3, c_3, hx3_0, hx3_1, hc3⟩ := Zpd v_1 q_1 (v_1.Nodes - 1) hl hx (by omega)
  have hbg := hx3_0
  have hc2_ := hx3_1
  have hb660 := Zyu hl hx (n := (v_1.Nodes - 1).toNat) (by omega)
  rw [← hbg] at hb660
  refine Zbs [(5, .call [(false, Zbh v_1), (false, .agg [Zaa false q_1.Entries]), (true, .any)] true (.tup [Zas true v_3, I c_3]))] [1, 5, 6, 7, 8, 9, 10] [5, 6] [Zdf false more, .ref 5 0, .ref 6 0, Zbc true v_2, I c_2, Zas true v_3, I c_3] [some (Zak v_1), some (.box [Zaa true q_1.Entries])] [inR .i64 (v_1.Nodes - 1), Con Tryz.prog 18 [Zbh v_1, .agg [Zaa false q_1.Entries], I (v_1.Nodes - 1)] true (.tup [Zas true v_3, I c_3]) ∧ ((Zcp (I v_1.Nodes) = Zcp (I v_1.Nodes)) ∧ ((false = true → true = true) ∧ 4 = 4 ∧ v_1.Edges.length = v_1.Edges.length ∧ ∀ i_, i_ < v_1.Edges.length → (Zcv v_1.Edges) i_ = (Zcv v_1.Edges) i_ ∨ (AV.idsL ((Zcv v_1.Edges) i_) = [] ∧ leL (fun _ => none) false ((Zcv v_1.Edges) i_) ((Zcv v_1.Edges) i_))) ∧ ([] : List AV) = []) ∧ (((false = true → true = true) ∧ 2 = 2 ∧ q_1.Entries.length = q_1.Entries.length ∧ ∀ i_, i_ < q_1.Entries.length → (Zap q_1.Entries) i_ = (Zap q_1.Entries) i_ ∨ (AV.idsL ((Zap q_1.Entries) i_) = [] ∧ leL (fun _ => none) false ((Zap q_1.Entries) i_) ((Zap q_1.Entries) i_))) ∧ ([] : List AV) = []) ∧ True] hB ⟨(Zah (by omega) (by omega)), ⟨hc3, ⟨rfl, ⟨⟨(fun h => by cases h), rfl, rfl, fun i _ => .inl rfl⟩, rfl⟩⟩, ⟨⟨(fun h => by cases h), rfl, rfl, fun i _ => .inl rfl⟩, rfl⟩, trivial⟩, trivial⟩ ?_
  refine Zae ?_
  refine Zam ?_
  refine aR [(1, .dec false), (4, .dec false), (12, .dec false)] [1, 5, 6, 7, 9, 65] [5, 6] [Zdf false more, .ref 5 0, .ref 6 0, Zbc true v_2, Zas true v_3, Bv false] [some (Zak v_1), some (.box [Zaa true q_1.Entries])] [¬ (c_2 ≠ 0), ¬ (c_3 ≠ 0), ¬ ((q_1.Entries.length : Int) < (v_2.length : Int))] hB ⟨(fun hq => hq hc1_), (fun hq => hq hc2_), (by omega), trivial⟩ ?_
  refine Zat rfl ?_
  refine Zaz ?_
  refine Zae ?_
  refine Zam ?_
  refine aR [] [1, 5, 6, 7, 9, 11] [5, 6] [Zdf false more, .ref 5 0, .ref 6 0, Zbc true v_2, Zas true v_3, I 0] [some (Zak v_1), some (.box [Zaa true q_1.Entries])] [] hB trivial ?_
  refine Zbo ?_
  refine Zed (fun gn gσ => ∃ (i : Int), gn = ((v_2.length : Int) - i).toNat ∧ (0 ≤ i ∧ i ≤ (v_2.length : Int)) ∧ gσ = mkS [(1, Zdf false more), (5, .ref 5 0), (6, .ref 6 0), (7, Zbc true v_2), (9, Zas true v_3), (11, I i)] [(5, Zak v_1), (6, .box [Zaa true q_1.Entries])]) (((v_2.length : Int) - 0).toNat) ⟨0, rfl, (by omega), rfl⟩ (fun gn gσ hI => ?_)
  obtain ⟨i, rfl, hi0, rfl⟩ := hI
  refine Zam ?_
  refine Zam ?_
  by_cases h2 : i < (v_2.length : Int)
  ·have hi : i.toNat < v_2.length := by omega
   have hfm := hmem _ (Zcx hi)
   have hfd_ := Zvj hl hx hfm
   have hfz := hfd_.2.2.2.2.1
   have hfp := hfd_.2.2.2.2.2.1
   have hfo := hfd_.2.2.2.2.2.2
   have hsm : 0 < i → (at_ v_2 (i - 1).toNat).Path + (at_ v_2 (i - 1).toNat).Own ≤ (at_ v_2 i.toNat).Path + (at_ v_2 i.toNat).Own := fun q_ => fd_sum hl hx (hmem _ (Zcx (by omega))) hfm (Zgq hord (show (i - 1).toNat < i.toNat by omega) hi)
   have hfp2 : 0 < i → ((0 ≤ (at_ v_2 (i - 1).toNat).Path ∧ (at_ v_2 (i - 1).toNat).Path ≤ 20000000) ∧ (0 ≤ (at_ v_2 (i - 1).toNat).Own ∧ (at_ v_2 (i - 1).toNat).Own ≤ 1000000)) := fun q_ => (Zvj hl hx (hmem _ (Zcx (by omega)))).2.2.2.2.2
   refine Zbs [(3, .dec true)] [1, 5, 6, 7, 9, 11, 69] [5, 6] [Zdf false more, .ref 5 0, .ref 6 0, Zbc true v_2, Zas true v_3, I i, Bv true] [some (Zak v_1), some (.box [Zaa true q_1.Entries])] [i < (v_2.length : Int)] hB ⟨h2, trivial⟩ ?_
   refine Zae ?_
   refine Zbg rfl ?_
   refine Zaz ?_
   refine Zae ?_
   refine Zam ?_
   refine Zbo ?_
   refine Zam ?_
   obtain ⟨v_4, c_4, hx4_0, hc4⟩ := Zlr v_1 ((at_ v_2 i.toNat).Word) hl (by omega)
   have htc := hx4_0
   have htc0 : c_4 = 0 ∧ v_4 = (at_ v_2 i.toNat).Path := by rcases htc with q | q; (exact ⟨q.1, q.2.1.trans hfd_.2.1.symm⟩); exact absurd hfd_.1 q.2
   refine Zbs [(6, .call [(false, Zbh v_1), (true, .any)] true (.tup [I v_4, I c_4]))] [1, 5, 6, 7, 9, 11, 12, 13] [5, 6] [Zdf false more, .ref 5 0, .ref 6 0, Zbc true v_2, Zas true v_3, I i, I v_4, I c_4] [some (Zak v_1), some (.box [Zaa true q_1.Entries])] [(0 : Int) ≤ i ∧ i < (v_2.length : Int), Con Tryz.prog 19 [Zbh v_1, Sv ((at_ v_2 i.toNat).Word)] true (.tup [I v_4, I c_4]) ∧ ((Zcp (I v_1.Nodes) = Zcp (I v_1.Nodes)) ∧ ((false = true → true = true) ∧ 4 = 4 ∧ v_1.Edges.length = v_1.Edges.length ∧ ∀ i_, i_ < v_1.Edges.length → (Zcv v_1.Edges) i_ = (Zcv v_1.Edges) i_ ∨ (AV.idsL ((Zcv v_1.Edges) i_) = [] ∧ leL (fun _ => none) false ((Zcv v_1.Edges) i_) ((Zcv v_1.Edges) i_))) ∧ ([] : List AV) = []) ∧ True] hB ⟨⟨(by omega), (by omega)⟩, ⟨hc4, ⟨rfl, ⟨⟨(fun h => by cases h), rfl, rfl, fun i _ => .inl rfl⟩, rfl⟩⟩, trivial⟩, trivial⟩ ?_
   refine Zae ?_
   refine Zam ?_
   obtain ⟨v_5, c_5, hx5_0, hc5⟩ := Zkr q_1 ((at_ v_2 i.toNat).Word) hx
   have hec := hx5_0
   have hec0 : c_5 = 0 ∧ v_5 = (at_ v_2 i.toNat).Own := by rcases hec with q | q; (exact ⟨q.1, q.2.1.trans hfd_.2.2.1.symm⟩); exact absurd hfd_.2.2.2.1 (fun ⟨e, he, z⟩ => q.2 e he z)
   refine Zbs [(6, .call [(false, .agg [Zaa false q_1.Entries]), (true, .any)] true (.tup [I v_5, I c_5]))] [1, 5, 6, 7, 9, 11, 12, 13, 14, 15] [5, 6] [Zdf false more, .ref 5 0, .ref 6 0, Zbc true v_2, Zas true v_3, I i, I v_4, I c_4, I v_5, I c_5] [some (Zak v_1), some (.box [Zaa true q_1.Entries])] [(0 : Int) ≤ i ∧ i < (v_2.length : Int), Con Tryz.prog 20 [.agg [Zaa false q_1.Entries], Sv ((at_ v_2 i.toNat).Word)] true (.tup [I v_5, I c_5]) ∧ (((false = true → true = true) ∧ 2 = 2 ∧ q_1.Entries.length = q_1.Entries.length ∧ ∀ i_, i_ < q_1.Entries.length → (Zap q_1.Entries) i_ = (Zap q_1.Entries) i_ ∨ (AV.idsL ((Zap q_1.Entries) i_) = [] ∧ leL (fun _ => none) false ((Zap q_1.Entries) i_) ((Zap q_1.Entries) i_))) ∧ ([] : List AV) = []) ∧ True] hB ⟨⟨(by omega), (by omega)⟩, ⟨hc5, ⟨⟨(fun h => by cases h), rfl, rfl, fun i _ => .inl rfl⟩, rfl⟩, trivial⟩, trivial⟩ ?_
   refine Zae ?_
   refine Zam ?_
   refine Zam ?_
   by_cases h3 : v_4 = ((at_ v_2 i.toNat).Path)
   ·by_cases h4 : v_5 = ((at_ v_2 i.toNat).Own)
    ·by_cases h5 : 0 < i
     ·have hfp3 := hfp2 h5
      have hsm3 := hsm h5
      have hi1 : (i - 1).toNat < v_2.length := by omega
      by_cases h6 : (v_4 + v_5) < (((at_ v_2 ((i - 1).toNat)).Path) + ((at_ v_2 ((i - 1).toNat)).Own))
      ·refine Zbs [(1, .dec false), (4, .dec false), (13, .dec false), (22, .dec false), (26, .dec true), (44, .dec true)] [1, 5, 6, 7, 9, 11, 12, 138] [5, 6] [Zdf false more, .ref 5 0, .ref 6 0, Zbc true v_2, Zas true v_3, I i, I v_4, Bv true] [some (Zak v_1), some (.box [Zaa true q_1.Entries])] [¬ (c_4 ≠ 0), ¬ (c_5 ≠ 0), (0 : Int) ≤ i ∧ i < (v_2.length : Int), ¬ (v_4 ≠ ((at_ v_2 i.toNat).Path)), (0 : Int) ≤ i ∧ i < (v_2.length : Int), ¬ (v_5 ≠ ((at_ v_2 i.toNat).Own)), 0 < i, inR .i64 (i - 1), (0 : Int) ≤ (i - 1) ∧ (i - 1) < (v_2.length : Int), inR .i64 (i - 1), (0 : Int) ≤ (i - 1) ∧ (i - 1) < (v_2.length : Int), inR .i64 (((at_ v_2 ((i - 1).toNat)).Path) + ((at_ v_2 ((i - 1).toNat)).Own)), inR .i64 (v_4 + v_5), (v_4 + v_5) < (((at_ v_2 ((i - 1).toNat)).Path) + ((at_ v_2 ((i - 1).toNat)).Own))] hB ⟨(fun hq => hq htc0.1), (fun hq => hq hec0.1), ⟨(by omega), (by omega)⟩, (fun hq => hq h3), ⟨(by omega), (by omega)⟩, (fun hq => hq h4), h5, (Zah (by omega) (by omega)), ⟨(by omega), (by omega)⟩, (Zah (by omega) (by omega)), ⟨(by omega), (by omega)⟩, (Zah (by omega) (by omega)), (Zah (by omega) (by omega)), h6, trivial⟩ ?_
       refine Zae ?_
       refine Zbg rfl ?_
       refine aR [] [4] [] [Bv false] [] [] hB trivial ?_
       refine Zba ?_
       refine Zaq (Zay (Zaq (Zaq (Zay (Zaq ?_)))))
       refine Zbb hB (Bv false) (by kernel_rfl) (.inl (by first | rfl | (exfalso; omega) | (exfalso; exact absurd hfnd (by assumption)) | (refine congrArg Bv ?_; simp [*]; done) | (exfalso; simp_all; done) | (exfalso; simp_all; omega))) rfl (fun _ => trivial)
      refine Zbs [(1, .dec false), (4, .dec false), (13, .dec false), (22, .dec false), (26, .dec true), (44, .dec false)] [1, 5, 6, 7, 9, 11, 12, 138] [5, 6] [Zdf false more, .ref 5 0, .ref 6 0, Zbc true v_2, Zas true v_3, I i, I v_4, Bv false] [some (Zak v_1), some (.box [Zaa true q_1.Entries])] [¬ (c_4 ≠ 0), ¬ (c_5 ≠ 0), (0 : Int) ≤ i ∧ i < (v_2.length : Int), ¬ (v_4 ≠ ((at_ v_2 i.toNat).Path)), (0 : Int) ≤ i ∧ i < (v_2.length : Int), ¬ (v_5 ≠ ((at_ v_2 i.toNat).Own)), 0 < i, inR .i64 (i - 1), (0 : Int) ≤ (i - 1) ∧ (i - 1) < (v_2.length : Int), inR .i64 (i - 1), (0 : Int) ≤ (i - 1) ∧ (i - 1) < (v_2.length : Int), inR .i64 (((at_ v_2 ((i - 1).toNat)).Path) + ((at_ v_2 ((i - 1).toNat)).Own)), inR .i64 (v_4 + v_5), ¬ ((v_4 + v_5) < (((at_ v_2 ((i - 1).toNat)).Path) + ((at_ v_2 ((i - 1).toNat)).Own)))] hB ⟨(fun hq => hq htc0.1), (fun hq => hq hec0.1), ⟨(by omega), (by omega)⟩, (fun hq => hq h3), ⟨(by omega), (by omega)⟩, (fun hq => hq h4), h5, (Zah (by omega) (by omega)), ⟨(by omega), (by omega)⟩, (Zah (by omega) (by omega)), ⟨(by omega), (by omega)⟩, (Zah (by omega) (by omega)), (Zah (by omega) (by omega)), h6, trivial⟩ ?_
      refine Zae ?_
      refine Zat rfl ?_
      refine Zaz ?_
      refine Zae ?_
      refine aR [] [1, 5, 6, 7, 9, 11, 12, 16] [5, 6] [Zdf false more, .ref 5 0, .ref 6 0, Zbc true v_2, Zas true v_3, I i, I v_4, Bv false] [some (Zak v_1), some (.box [Zaa true q_1.Entries])] [] hB trivial ?_
      refine Zam ?_
      refine aR [] [1, 5, 6, 7, 9, 11, 12, 16, 17] [5, 6] [Zdf false more, .ref 5 0, .ref 6 0, Zbc true v_2, Zas true v_3, I i, I v_4, Bv false, I 0] [some (Zak v_1), some (.box [Zaa true q_1.Entries])] [] hB trivial ?_
      refine Zbo ?_
      refine Zed (fun gn gσ => ∃ (fd : Bool) (k : Int), gn = ((v_3.length : Int) - k).toNat ∧ (0 ≤ k ∧ k ≤ (v_3.length : Int)) ∧ ((∃ j : Nat, (j : Int) < k ∧ (at_ v_3 j).Text = (at_ v_2 i.toNat).Word ∧ (at_ v_3 j).Cost = v_4) → fd = true) ∧ gσ = mkS [(1, Zdf false more), (5, .ref 5 0), (6, .ref 6 0), (7, Zbc true v_2), (9, Zas true v_3), (11, I i), (12, I v_4), (16, Bv fd), (17, I k)] [(5, Zak v_1), (6, .box [Zaa true q_1.Entries])]) (((v_3.length : Int) - 0).toNat) ⟨false, 0, rfl, (by omega), (by (rintro ⟨j, h_, _⟩; omega)), rfl⟩ (fun gn gσ hI => ?_)
      obtain ⟨fd, k, rfl, hk0, hfd, rfl⟩ := hI
      refine Zam ?_
      refine Zam ?_
      by_cases h7 : k < (v_3.length : Int)
      ·have hk : k.toNat < v_3.length := by omega
       refine Zbs [(3, .dec true)] [1, 5, 6, 7, 9, 11, 12, 16, 17, 142] [5, 6] [Zdf false more, .ref 5 0, .ref 6 0, Zbc true v_2, Zas true v_3, I i, I v_4, Bv fd, I k, Bv true] [some (Zak v_1), some (.box [Zaa true q_1.Entries])] [k < (v_3.length : Int)] hB ⟨h7, trivial⟩ ?_
       refine Zae ?_
       refine Zbg rfl ?_
       refine Zaz ?_
       refine Zae ?_
       refine Zam ?_
       refine Zbo ?_
       rcases Bool.eq_false_or_eq_true fd with h8 | h8
       ·subst h8
        refine Zbs [] [1, 5, 6, 7, 9, 11, 12, 16, 17] [5, 6] [Zdf false more, .ref 5 0, .ref 6 0, Zbc true v_2, Zas true v_3, I i, I v_4, Bv true, I k] [some (Zak v_1), some (.box [Zaa true q_1.Entries])] [] hB trivial ?_
        refine Zbz 3 ?_
        refine Zae ?_
        refine Zbs [] [1, 5, 6, 7, 9, 11, 12, 16, 17] [5, 6] [Zdf false more, .ref 5 0, .ref 6 0, Zbc true v_2, Zas true v_3, I i, I v_4, Bv true, I (k + 1)] [some (Zak v_1), some (.box [Zaa true q_1.Entries])] [inR .i64 (k + 1)] hB ⟨(Zah (by omega) (by omega)), trivial⟩ ?_
        exact Zcc _ (by omega) ⟨true, (k + 1), rfl, (by omega), (by first | (intro _; rfl) | (rintro ⟨j, h1, h2, h3⟩; by_cases ej : j = k.toNat; (focus (subst ej; first | exact absurd h2 (by assumption) | exact decide_eq_true h3 | (simp_all; done))); (have q_ := hfd ⟨j, by omega, h2, h3⟩; first | (simp_all; done) | exact absurd q_ (by assumption)))), rfl⟩
       subst h8
       by_cases h9 : ((at_ v_3 k.toNat).Text) = ((at_ v_2 i.toNat).Word)
       ·by_cases h10 : ((at_ v_3 k.toNat).Cost) = v_4
        ·refine Zbs [(12, .dec true), (20, .dec true)] [1, 5, 6, 7, 9, 11, 12, 16, 17] [5, 6] [Zdf false more, .ref 5 0, .ref 6 0, Zbc true v_2, Zas true v_3, I i, I v_4, Bv true, I k] [some (Zak v_1), some (.box [Zaa true q_1.Entries])] [(0 : Int) ≤ k ∧ k < (v_3.length : Int), (0 : Int) ≤ i ∧ i < (v_2.length : Int), ((at_ v_3 k.toNat).Text) = ((at_ v_2 i.toNat).Word), (0 : Int) ≤ k ∧ k < (v_3.length : Int), ((at_ v_3 k.toNat).Cost) = v_4] hB ⟨⟨(by omega), (by omega)⟩, ⟨(by omega), (by omega)⟩, h9, ⟨(by omega), (by omega)⟩, h10, trivial⟩ ?_
         refine Zbz 3 ?_
         refine Zae ?_
         refine Zbs [] [1, 5, 6, 7, 9, 11, 12, 16, 17] [5, 6] [Zdf false more, .ref 5 0, .ref 6 0, Zbc true v_2, Zas true v_3, I i, I v_4, Bv true, I (k + 1)] [some (Zak v_1), some (.box [Zaa true q_1.Entries])] [inR .i64 (k + 1)] hB ⟨(Zah (by omega) (by omega)), trivial⟩ ?_
         exact Zcc _ (by omega) ⟨true, (k + 1), rfl, (by omega), (by first | (intro _; rfl) | (rintro ⟨j, h1, h2, h3⟩; by_cases ej : j = k.toNat; (focus (subst ej; first | exact absurd h2 (by assumption) | exact decide_eq_true h3 | (simp_all; done))); (have q_ := hfd ⟨j, by omega, h2, h3⟩; first | (simp_all; done) | exact absurd q_ (by assumption)))), rfl⟩
        refine Zbs [(12, .dec true), (20, .dec false)] [1, 5, 6, 7, 9, 11, 12, 16, 17] [5, 6] [Zdf false more, .ref 5 0, .ref 6 0, Zbc true v_2, Zas true v_3, I i, I v_4, Bv false, I k] [some (Zak v_1), some (.box [Zaa true q_1.Entries])] [(0 : Int) ≤ k ∧ k < (v_3.length : Int), (0 : Int) ≤ i ∧ i < (v_2.length : Int), ((at_ v_3 k.toNat).Text) = ((at_ v_2 i.toNat).Word), (0 : Int) ≤ k ∧ k < (v_3.length : Int), ¬ (((at_ v_3 k.toNat).Cost) = v_4)] hB ⟨⟨(by omega), (by omega)⟩, ⟨(by omega), (by omega)⟩, h9, ⟨(by omega), (by omega)⟩, h10, trivial⟩ ?_
        refine Zbz 3 ?_
        refine Zae ?_
        refine Zbs [] [1, 5, 6, 7, 9, 11, 12, 16, 17] [5, 6] [Zdf false more, .ref 5 0, .ref 6 0, Zbc true v_2, Zas true v_3, I i, I v_4, Bv false, I (k + 1)] [some (Zak v_1), some (.box [Zaa true q_1.Entries])] [inR .i64 (k + 1)] hB ⟨(Zah (by omega) (by omega)), trivial⟩ ?_
        exact Zcc _ (by omega) ⟨false, (k + 1), rfl, (by omega), (by first | (intro _; rfl) | (rintro ⟨j, h1, h2, h3⟩; by_cases ej : j = k.toNat; (focus (subst ej; first | exact absurd h2 (by assumption) | exact decide_eq_true h3 | (simp_all; done))); (have q_ := hfd ⟨j, by omega, h2, h3⟩; first | (simp_all; done) | exact absurd q_ (by assumption)))), rfl⟩
       refine Zbs [(12, .dec false)] [1, 5, 6, 7, 9, 11, 12, 16, 17] [5, 6] [Zdf false more, .ref 5 0, .ref 6 0, Zbc true v_2, Zas true v_3, I i, I v_4, Bv false, I k] [some (Zak v_1), some (.box [Zaa true q_1.Entries])] [(0 : Int) ≤ k ∧ k < (v_3.length : Int), (0 : Int) ≤ i ∧ i < (v_2.length : Int), ¬ (((at_ v_3 k.toNat).Text) = ((at_ v_2 i.toNat).Word))] hB ⟨⟨(by omega), (by omega)⟩, ⟨(by omega), (by omega)⟩, h9, trivial⟩ ?_
       refine Zbz 3 ?_
       refine Zae ?_
       refine Zbs [] [1, 5, 6, 7, 9, 11, 12, 16, 17] [5, 6] [Zdf false more, .ref 5 0, .ref 6 0, Zbc true v_2, Zas true v_3, I i, I v_4, Bv false, I (k + 1)] [some (Zak v_1), some (.box [Zaa true q_1.Entries])] [inR .i64 (k + 1)] hB ⟨(Zah (by omega) (by omega)), trivial⟩ ?_
       exact Zcc _ (by omega) ⟨false, (k + 1), rfl, (by omega), (by first | (intro _; rfl) | (rintro ⟨j, h1, h2, h3⟩; by_cases ej : j = k.toNat; (focus (subst ej; first | exact absurd h2 (by assumption) | exact decide_eq_true h3 | (simp_all; done))); (have q_ := hfd ⟨j, by omega, h2, h3⟩; first | (simp_all; done) | exact absurd q_ (by assumption)))), rfl⟩
      have hfnd : fd = true := hfd (by obtain ⟨j, hj, a_, b_⟩ := pf_has hl hfd_.1 hfd_.2.2.2.1; exact ⟨j, by rw [← hbg] at hj; omega, by rw [hbg]; exact a_, by rw [hbg, htc0.2, hfd_.2.1]; exact b_⟩)
      refine Zbs [(3, .dec false)] [1, 5, 6, 7, 9, 11, 12, 16, 17, 142] [5, 6] [Zdf false more, .ref 5 0, .ref 6 0, Zbc true v_2, Zas true v_3, I i, I v_4, Bv fd, I k, Bv false] [some (Zak v_1), some (.box [Zaa true q_1.Entries])] [¬ (k < (v_3.length : Int))] hB ⟨h7, trivial⟩ ?_
      refine Zae ?_
      refine Zat rfl ?_
      refine Zee ?_
      refine Zau ?_
      refine Zau ?_
      refine Zca ?_
      refine Zae ?_
      refine Zam ?_
      rcases Bool.eq_false_or_eq_true fd with h11 | h11
      ·subst h11
       refine Zbs [] [1, 5, 6, 7, 9, 11, 169] [5, 6] [Zdf false more, .ref 5 0, .ref 6 0, Zbc true v_2, Zas true v_3, I i, Bv false] [some (Zak v_1), some (.box [Zaa true q_1.Entries])] [] hB trivial ?_
       refine Zae ?_
       refine Zat rfl ?_
       refine Zaz ?_
       refine Zbz 1 ?_
       refine Zae ?_
       refine Zbs [] [1, 5, 6, 7, 9, 11] [5, 6] [Zdf false more, .ref 5 0, .ref 6 0, Zbc true v_2, Zas true v_3, I (i + 1)] [some (Zak v_1), some (.box [Zaa true q_1.Entries])] [inR .i64 (i + 1)] hB ⟨(Zah (by omega) (by omega)), trivial⟩ ?_
       exact Zcc _ (by omega) ⟨(i + 1), rfl, (by omega), rfl⟩
      subst h11
      refine Zbs [] [1, 5, 6, 7, 9, 11, 169] [5, 6] [Zdf false more, .ref 5 0, .ref 6 0, Zbc true v_2, Zas true v_3, I i, Bv true] [some (Zak v_1), some (.box [Zaa true q_1.Entries])] [] hB trivial ?_
      refine Zae ?_
      refine Zbg rfl ?_
      refine aR [] [4] [] [Bv false] [] [] hB trivial ?_
      refine Zba ?_
      refine Zay (Zaq (Zaq (Zay (Zaq ?_))))
      refine Zbb hB (Bv false) (by kernel_rfl) (.inl (by first | rfl | (exfalso; omega) | (exfalso; exact absurd hfnd (by assumption)) | (refine congrArg Bv ?_; simp [*]; done) | (exfalso; simp_all; done) | (exfalso; simp_all; omega))) rfl (fun _ => trivial)
     refine Zbs [(1, .dec false), (4, .dec false), (13, .dec false), (22, .dec false), (26, .dec false)] [1, 5, 6, 7, 9, 11, 12, 138] [5, 6] [Zdf false more, .ref 5 0, .ref 6 0, Zbc true v_2, Zas true v_3, I i, I v_4, Bv false] [some (Zak v_1), some (.box [Zaa true q_1.Entries])] [¬ (c_4 ≠ 0), ¬ (c_5 ≠ 0), (0 : Int) ≤ i ∧ i < (v_2.length : Int), ¬ (v_4 ≠ ((at_ v_2 i.toNat).Path)), (0 : Int) ≤ i ∧ i < (v_2.length : Int), ¬ (v_5 ≠ ((at_ v_2 i.toNat).Own)), ¬ (0 < i)] hB ⟨(fun hq => hq htc0.1), (fun hq => hq hec0.1), ⟨(by omega), (by omega)⟩, (fun hq => hq h3), ⟨(by omega), (by omega)⟩, (fun hq => hq h4), h5, trivial⟩ ?_
     refine Zae ?_
     refine Zat rfl ?_
     refine Zaz ?_
     refine Zae ?_
     refine aR [] [1, 5, 6, 7, 9, 11, 12, 16] [5, 6] [Zdf false more, .ref 5 0, .ref 6 0, Zbc true v_2, Zas true v_3, I i, I v_4, Bv false] [some (Zak v_1), some (.box [Zaa true q_1.Entries])] [] hB trivial ?_
     refine Zam ?_
     refine aR [] [1, 5, 6, 7, 9, 11, 12, 16, 17] [5, 6] [Zdf false more, .ref 5 0, .ref 6 0, Zbc true v_2, Zas true v_3, I i, I v_4, Bv false, I 0] [some (Zak v_1), some (.box [Zaa true q_1.Entries])] [] hB trivial ?_
     refine Zbo ?_
     refine Zed (fun gn gσ => ∃ (fd : Bool) (k : Int), gn = ((v_3.length : Int) - k).toNat ∧ (0 ≤ k ∧ k ≤ (v_3.length : Int)) ∧ ((∃ j : Nat, (j : Int) < k ∧ (at_ v_3 j).Text = (at_ v_2 i.toNat).Word ∧ (at_ v_3 j).Cost = v_4) → fd = true) ∧ gσ = mkS [(1, Zdf false more), (5, .ref 5 0), (6, .ref 6 0), (7, Zbc true v_2), (9, Zas true v_3), (11, I i), (12, I v_4), (16, Bv fd), (17, I k)] [(5, Zak v_1), (6, .box [Zaa true q_1.Entries])]) (((v_3.length : Int) - 0).toNat) ⟨false, 0, rfl, (by omega), (by (rintro ⟨j, h_, _⟩; omega)), rfl⟩ (fun gn gσ hI => ?_)
     obtain ⟨fd, k, rfl, hk0, hfd, rfl⟩ := hI
     refine Zam ?_
     refine Zam ?_
     by_cases h12 : k < (v_3.length : Int)
     ·have hk : k.toNat < v_3.length := by omega
      refine Zbs [(3, .dec true)] [1, 5, 6, 7, 9, 11, 12, 16, 17, 142] [5, 6] [Zdf false more, .ref 5 0, .ref 6 0, Zbc true v_2, Zas true v_3, I i, I v_4, Bv fd, I k, Bv true] [some (Zak v_1), some (.box [Zaa true q_1.Entries])] [k < (v_3.length : Int)] hB ⟨h12, trivial⟩ ?_
      refine Zae ?_
      refine Zbg rfl ?_
      refine Zaz ?_
      refine Zae ?_
      refine Zam ?_
      refine Zbo ?_
      rcases Bool.eq_false_or_eq_true fd with h13 | h13
      ·subst h13
       refine Zbs [] [1, 5, 6, 7, 9, 11, 12, 16, 17] [5, 6] [Zdf false more, .ref 5 0, .ref 6 0, Zbc true v_2, Zas true v_3, I i, I v_4, Bv true, I k] [some (Zak v_1), some (.box [Zaa true q_1.Entries])] [] hB trivial ?_
       refine Zbz 3 ?_
       refine Zae ?_
       refine Zbs [] [1, 5, 6, 7, 9, 11, 12, 16, 17] [5, 6] [Zdf false more, .ref 5 0, .ref 6 0, Zbc true v_2, Zas true v_3, I i, I v_4, Bv true, I (k + 1)] [some (Zak v_1), some (.box [Zaa true q_1.Entries])] [inR .i64 (k + 1)] hB ⟨(Zah (by omega) (by omega)), trivial⟩ ?_
       exact Zcc _ (by omega) ⟨true, (k + 1), rfl, (by omega), (by first | (intro _; rfl) | (rintro ⟨j, h1, h2, h3⟩; by_cases ej : j = k.toNat; (focus (subst ej; first | exact absurd h2 (by assumption) | exact decide_eq_true h3 | (simp_all; done))); (have q_ := hfd ⟨j, by omega, h2, h3⟩; first | (simp_all; done) | exact absurd q_ (by assumption)))), rfl⟩
      subst h13
      by_cases h14 : ((at_ v_3 k.toNat).Text) = ((at_ v_2 i.toNat).Word)
      ·by_cases h15 : ((at_ v_3 k.toNat).Cost) = v_4
       ·refine Zbs [(12, .dec true), (20, .dec true)] [1, 5, 6, 7, 9, 11, 12, 16, 17] [5, 6] [Zdf false more, .ref 5 0, .ref 6 0, Zbc true v_2, Zas true v_3, I i, I v_4, Bv true, I k] [some (Zak v_1), some (.box [Zaa true q_1.Entries])] [(0 : Int) ≤ k ∧ k < (v_3.length : Int), (0 : Int) ≤ i ∧ i < (v_2.length : Int), ((at_ v_3 k.toNat).Text) = ((at_ v_2 i.toNat).Word), (0 : Int) ≤ k ∧ k < (v_3.length : Int), ((at_ v_3 k.toNat).Cost) = v_4] hB ⟨⟨(by omega), (by omega)⟩, ⟨(by omega), (by omega)⟩, h14, ⟨(by omega), (by omega)⟩, h15, trivial⟩ ?_
        refine Zbz 3 ?_
        refine Zae ?_
        refine Zbs [] [1, 5, 6, 7, 9, 11, 12, 16, 17] [5, 6] [Zdf false more, .ref 5 0, .ref 6 0, Zbc true v_2, Zas true v_3, I i, I v_4, Bv true, I (k + 1)] [some (Zak v_1), some (.box [Zaa true q_1.Entries])] [inR .i64 (k + 1)] hB ⟨(Zah (by omega) (by omega)), trivial⟩ ?_
        exact Zcc _ (by omega) ⟨true, (k + 1), rfl, (by omega), (by first | (intro _; rfl) | (rintro ⟨j, h1, h2, h3⟩; by_cases ej : j = k.toNat; (focus (subst ej; first | exact absurd h2 (by assumption) | exact decide_eq_true h3 | (simp_all; done))); (have q_ := hfd ⟨j, by omega, h2, h3⟩; first | (simp_all; done) | exact absurd q_ (by assumption)))), rfl⟩
       refine Zbs [(12, .dec true), (20, .dec false)] [1, 5, 6, 7, 9, 11, 12, 16, 17] [5, 6] [Zdf false more, .ref 5 0, .ref 6 0, Zbc true v_2, Zas true v_3, I i, I v_4, Bv false, I k] [some (Zak v_1), some (.box [Zaa true q_1.Entries])] [(0 : Int) ≤ k ∧ k < (v_3.length : Int), (0 : Int) ≤ i ∧ i < (v_2.length : Int), ((at_ v_3 k.toNat).Text) = ((at_ v_2 i.toNat).Word), (0 : Int) ≤ k ∧ k < (v_3.length : Int), ¬ (((at_ v_3 k.toNat).Cost) = v_4)] hB ⟨⟨(by omega), (by omega)⟩, ⟨(by omega), (by omega)⟩, h14, ⟨(by omega), (by omega)⟩, h15, trivial⟩ ?_
       refine Zbz 3 ?_
       refine Zae ?_
       refine Zbs [] [1, 5, 6, 7, 9, 11, 12, 16, 17] [5, 6] [Zdf false more, .ref 5 0, .ref 6 0, Zbc true v_2, Zas true v_3, I i, I v_4, Bv false, I (k + 1)] [some (Zak v_1), some (.box [Zaa true q_1.Entries])] [inR .i64 (k + 1)] hB ⟨(Zah (by omega) (by omega)), trivial⟩ ?_
       exact Zcc _ (by omega) ⟨false, (k + 1), rfl, (by omega), (by first | (intro _; rfl) | (rintro ⟨j, h1, h2, h3⟩; by_cases ej : j = k.toNat; (focus (subst ej; first | exact absurd h2 (by assumption) | exact decide_eq_true h3 | (simp_all; done))); (have q_ := hfd ⟨j, by omega, h2, h3⟩; first | (simp_all; done) | exact absurd q_ (by assumption)))), rfl⟩
      refine Zbs [(12, .dec false)] [1, 5, 6, 7, 9, 11, 12, 16, 17] [5, 6] [Zdf false more, .ref 5 0, .ref 6 0, Zbc true v_2, Zas true v_3, I i, I v_4, Bv false, I k] [some (Zak v_1), some (.box [Zaa true q_1.Entries])] [(0 : Int) ≤ k ∧ k < (v_3.length : Int), (0 : Int) ≤ i ∧ i < (v_2.length : Int), ¬ (((at_ v_3 k.toNat).Text) = ((at_ v_2 i.toNat).Word))] hB ⟨⟨(by omega), (by omega)⟩, ⟨(by omega), (by omega)⟩, h14, trivial⟩ ?_
      refine Zbz 3 ?_
      refine Zae ?_
      refine Zbs [] [1, 5, 6, 7, 9, 11, 12, 16, 17] [5, 6] [Zdf false more, .ref 5 0, .ref 6 0, Zbc true v_2, Zas true v_3, I i, I v_4, Bv false, I (k + 1)] [some (Zak v_1), some (.box [Zaa true q_1.Entries])] [inR .i64 (k + 1)] hB ⟨(Zah (by omega) (by omega)), trivial⟩ ?_
      exact Zcc _ (by omega) ⟨false, (k + 1), rfl, (by omega), (by first | (intro _; rfl) | (rintro ⟨j, h1, h2, h3⟩; by_cases ej : j = k.toNat; (focus (subst ej; first | exact absurd h2 (by assumption) | exact decide_eq_true h3 | (simp_all; done))); (have q_ := hfd ⟨j, by omega, h2, h3⟩; first | (simp_all; done) | exact absurd q_ (by assumption)))), rfl⟩
     have hfnd : fd = true := hfd (by obtain ⟨j, hj, a_, b_⟩ := pf_has hl hfd_.1 hfd_.2.2.2.1; exact ⟨j, by rw [← hbg] at hj; omega, by rw [hbg]; exact a_, by rw [hbg, htc0.2, hfd_.2.1]; exact b_⟩)
     refine Zbs [(3, .dec false)] [1, 5, 6, 7, 9, 11, 12, 16, 17, 142] [5, 6] [Zdf false more, .ref 5 0, .ref 6 0, Zbc true v_2, Zas true v_3, I i, I v_4, Bv fd, I k, Bv false] [some (Zak v_1), some (.box [Zaa true q_1.Entries])] [¬ (k < (v_3.length : Int))] hB ⟨h12, trivial⟩ ?_
     refine Zae ?_
     refine Zat rfl ?_
     refine Zee ?_
     refine Zau ?_
     refine Zau ?_
     refine Zca ?_
     refine Zae ?_
     refine Zam ?_
     rcases Bool.eq_false_or_eq_true fd with h16 | h16
     ·subst h16
      refine Zbs [] [1, 5, 6, 7, 9, 11, 169] [5, 6] [Zdf false more, .ref 5 0, .ref 6 0, Zbc true v_2, Zas true v_3, I i, Bv false] [some (Zak v_1), some (.box [Zaa true q_1.Entries])] [] hB trivial ?_
      refine Zae ?_
      refine Zat rfl ?_
      refine Zaz ?_
      refine Zbz 1 ?_
      refine Zae ?_
      refine Zbs [] [1, 5, 6, 7, 9, 11] [5, 6] [Zdf false more, .ref 5 0, .ref 6 0, Zbc true v_2, Zas true v_3, I (i + 1)] [some (Zak v_1), some (.box [Zaa true q_1.Entries])] [inR .i64 (i + 1)] hB ⟨(Zah (by omega) (by omega)), trivial⟩ ?_
      exact Zcc _ (by omega) ⟨(i + 1), rfl, (by omega), rfl⟩
     subst h16
     refine Zbs [] [1, 5, 6, 7, 9, 11, 169] [5, 6] [Zdf false more, .ref 5 0, .ref 6 0, Zbc true v_2, Zas true v_3, I i, Bv true] [some (Zak v_1), some (.box [Zaa true q_1.Entries])] [] hB trivial ?_
     refine Zae ?_
     refine Zbg rfl ?_
     refine aR [] [4] [] [Bv false] [] [] hB trivial ?_
     refine Zba ?_
     refine Zay (Zaq (Zaq (Zay (Zaq ?_))))
     refine Zbb hB (Bv false) (by kernel_rfl) (.inl (by first | rfl | (exfalso; omega) | (exfalso; exact absurd hfnd (by assumption)) | (refine congrArg Bv ?_; simp [*]; done) | (exfalso; simp_all; done) | (exfalso; simp_all; omega))) rfl (fun _ => trivial)
    refine Zbs [(1, .dec false), (4, .dec false), (13, .dec false), (22, .dec true)] [1, 5, 6, 7, 9, 11, 12, 138] [5, 6] [Zdf false more, .ref 5 0, .ref 6 0, Zbc true v_2, Zas true v_3, I i, I v_4, Bv true] [some (Zak v_1), some (.box [Zaa true q_1.Entries])] [¬ (c_4 ≠ 0), ¬ (c_5 ≠ 0), (0 : Int) ≤ i ∧ i < (v_2.length : Int), ¬ (v_4 ≠ ((at_ v_2 i.toNat).Path)), (0 : Int) ≤ i ∧ i < (v_2.length : Int), v_5 ≠ ((at_ v_2 i.toNat).Own)] hB ⟨(fun hq => hq htc0.1), (fun hq => hq hec0.1), ⟨(by omega), (by omega)⟩, (fun hq => hq h3), ⟨(by omega), (by omega)⟩, h4, trivial⟩ ?_
    refine Zae ?_
    refine Zbg rfl ?_
    refine aR [] [4] [] [Bv false] [] [] hB trivial ?_
    refine Zba ?_
    refine Zaq (Zay (Zaq (Zaq (Zay (Zaq ?_)))))
    refine Zbb hB (Bv false) (by kernel_rfl) (.inl (by first | rfl | (exfalso; omega) | (exfalso; exact absurd hfnd (by assumption)) | (refine congrArg Bv ?_; simp [*]; done) | (exfalso; simp_all; done) | (exfalso; simp_all; omega))) rfl (fun _ => trivial)
   refine Zbs [(1, .dec false), (4, .dec false), (13, .dec true)] [1, 5, 6, 7, 9, 11, 12, 138] [5, 6] [Zdf false more, .ref 5 0, .ref 6 0, Zbc true v_2, Zas true v_3, I i, I v_4, Bv true] [some (Zak v_1), some (.box [Zaa true q_1.Entries])] [¬ (c_4 ≠ 0), ¬ (c_5 ≠ 0), (0 : Int) ≤ i ∧ i < (v_2.length : Int), v_4 ≠ ((at_ v_2 i.toNat).Path)] hB ⟨(fun hq => hq htc0.1), (fun hq => hq hec0.1), ⟨(by omega), (by omega)⟩, h3, trivial⟩ ?_
   refine Zae ?_
   refine Zbg rfl ?_
   refine aR [] [4] [] [Bv false] [] [] hB trivial ?_
   refine Zba ?_
   refine Zaq (Zay (Zaq (Zaq (Zay (Zaq ?_)))))
   refine Zbb hB (Bv false) (by kernel_rfl) (.inl (by first | rfl | (exfalso; omega) | (exfalso; exact absurd hfnd (by assumption)) | (refine congrArg Bv ?_; simp [*]; done) | (exfalso; simp_all; done) | (exfalso; simp_all; omega))) rfl (fun _ => trivial)
  refine Zbs [(3, .dec false)] [1, 5, 6, 7, 9, 11, 69] [5, 6] [Zdf false more, .ref 5 0, .ref 6 0, Zbc true v_2, Zas true v_3, I i, Bv false] [some (Zak v_1), some (.box [Zaa true q_1.Entries])] [¬ (i < (v_2.length : Int))] hB ⟨h2, trivial⟩ ?_
  refine Zae ?_
  refine Zat rfl ?_
  refine Zee ?_
  refine Zau ?_
  refine Zau ?_
  refine Zca ?_
  refine Zae ?_
  refine Zam ?_
  obtain ⟨v_6, hx6_0, hc6⟩ := Zyv more (by assumption)
  have hwo := hx6_0
  have hwz := (Zdn.1 hwo).1
  refine Zbs [(1, .call [(true, .any)] true (Sv v_6))] [6, 18] [6] [.ref 6 0, Sv v_6] [some (.box [Zaa true q_1.Entries])] [Con Tryz.prog 21 [Zdf false more] true (Sv v_6) ∧ True] hB ⟨⟨hc6, trivial⟩, trivial⟩ ?_
  refine Zae ?_
  refine Zam ?_
  obtain ⟨v_7, c_7, hx7_0, hx7_1, hx7_2, hc7⟩ := Ztt q_1 (Entry.mk v_6 7) hx ⟨hwo, by dsimp only; omega⟩ (by omega)
  have hy := hx7_0
  have hye := hx7_1
  have hc3_ := hx7_2
  have hyw : ∃ y_ ∈ v_7.Entries, y_.Word = v_6 := ⟨_, hye, rfl⟩
  have hlcy := hy.1
  refine Zbs [(3, .call [(false, .agg [Zaa false q_1.Entries]), (true, .any)] true (.tup [.agg [Zaa true v_7.Entries], I c_7])), (7, .new 19)] [6, 18, 19, 20] [6, 19] [.ref 6 0, Sv v_6, .ref 19 0, I c_7] [some (.box [Zaa true q_1.Entries]), some (.box [Zaa true v_7.Entries])] [Con Tryz.prog 22 [.agg [Zaa false q_1.Entries], .agg [Sv v_6, I 7]] true (.tup [.agg [Zaa true v_7.Entries], I c_7]) ∧ (((false = true → true = true) ∧ 2 = 2 ∧ q_1.Entries.length = q_1.Entries.length ∧ ∀ i_, i_ < q_1.Entries.length → (Zap q_1.Entries) i_ = (Zap q_1.Entries) i_ ∨ (AV.idsL ((Zap q_1.Entries) i_) = [] ∧ leL (fun _ => none) false ((Zap q_1.Entries) i_) ((Zap q_1.Entries) i_))) ∧ ([] : List AV) = []) ∧ True] hB ⟨⟨hc7, ⟨⟨(fun h => by cases h), rfl, rfl, fun i _ => .inl rfl⟩, rfl⟩, trivial⟩, trivial⟩ ?_
  refine Zae ?_
  refine Zam ?_
  obtain ⟨v_8, c_8, hx8_0, hc8⟩ := Zkh v_7 v_6 hy
  have hec4 := hx8_0
  have hc4_ : c_8 = 0 ∧ v_8 = 7 := by rcases hec4 with q | q; (exact ⟨q.1, q.2.1.trans (ent_mem hy hye)⟩); (obtain ⟨y_, h1, h2⟩ := hyw; exact absurd h2 (q.2 y_ h1))
  refine Zbs [(2, .call [(false, .agg [Zaa false v_7.Entries]), (true, .any)] true (.tup [I v_8, I c_8]))] [6, 18, 19, 20, 21, 22] [6, 19] [.ref 6 0, Sv v_6, .ref 19 0, I c_7, I v_8, I c_8] [some (.box [Zaa true q_1.Entries]), some (.box [Zaa true v_7.Entries])] [Con Tryz.prog 23 [.agg [Zaa false v_7.Entries], Sv v_6] true (.tup [I v_8, I c_8]) ∧ (((false = true → true = true) ∧ 2 = 2 ∧ v_7.Entries.length = v_7.Entries.length ∧ ∀ i_, i_ < v_7.Entries.length → (Zap v_7.Entries) i_ = (Zap v_7.Entries) i_ ∨ (AV.idsL ((Zap v_7.Entries) i_) = [] ∧ leL (fun _ => none) false ((Zap v_7.Entries) i_) ((Zap v_7.Entries) i_))) ∧ ([] : List AV) = []) ∧ True] hB ⟨⟨hc8, ⟨⟨(fun h => by cases h), rfl, rfl, fun i _ => .inl rfl⟩, rfl⟩, trivial⟩, trivial⟩ ?_
  refine Zae ?_
  refine Zam ?_
  obtain ⟨v_9, c_9, hx9_0, hx9_1, hx9_2, hc9⟩ := Zrg v_7 v_6 hy hyw
  have hz := hx9_0
  have hzn := hx9_1
  have hc5_ := hx9_2
  have hlcz := hz.1
  refine Zbs [(2, .call [(false, .agg [Zaa false v_7.Entries]), (true, .any)] true (.tup [.agg [Zaa true v_9.Entries], I c_9])), (6, .new 23)] [6, 18, 20, 21, 22, 23, 24] [6, 23] [.ref 6 0, Sv v_6, I c_7, I v_8, I c_8, .ref 23 0, I c_9] [some (.box [Zaa true q_1.Entries]), some (.box [Zaa true v_9.Entries])] [Con Tryz.prog 24 [.agg [Zaa false v_7.Entries], Sv v_6] true (.tup [.agg [Zaa true v_9.Entries], I c_9]) ∧ (((false = true → true = true) ∧ 2 = 2 ∧ v_7.Entries.length = v_7.Entries.length ∧ ∀ i_, i_ < v_7.Entries.length → (Zap v_7.Entries) i_ = (Zap v_7.Entries) i_ ∨ (AV.idsL ((Zap v_7.Entries) i_) = [] ∧ leL (fun _ => none) false ((Zap v_7.Entries) i_) ((Zap v_7.Entries) i_))) ∧ ([] : List AV) = []) ∧ True] hB ⟨⟨hc9, ⟨⟨(fun h => by cases h), rfl, rfl, fun i _ => .inl rfl⟩, rfl⟩, trivial⟩, trivial⟩ ?_
  refine Zae ?_
  refine Zam ?_
  obtain ⟨v_10, c_10, hx10_0, hc10⟩ := Zkh v_9 v_6 hz
  have hec6 := hx10_0
  have hc6_ : c_10 = 3 := by rcases hec6 with q | q; (obtain ⟨y_, h1, h2⟩ := q.2.2; exact absurd h2 (hzn y_ h1)); exact q.1
  refine Zbs [(2, .call [(false, .agg [Zaa false v_9.Entries]), (true, .any)] true (.tup [I v_10, I c_10]))] [6, 20, 21, 22, 24, 26] [6] [.ref 6 0, I c_7, I v_8, I c_8, I c_9, I c_10] [some (.box [Zaa true q_1.Entries])] [Con Tryz.prog 23 [.agg [Zaa false v_9.Entries], Sv v_6] true (.tup [I v_10, I c_10]) ∧ (((false = true → true = true) ∧ 2 = 2 ∧ v_9.Entries.length = v_9.Entries.length ∧ ∀ i_, i_ < v_9.Entries.length → (Zap v_9.Entries) i_ = (Zap v_9.Entries) i_ ∨ (AV.idsL ((Zap v_9.Entries) i_) = [] ∧ leL (fun _ => none) false ((Zap v_9.Entries) i_) ((Zap v_9.Entries) i_))) ∧ ([] : List AV) = []) ∧ True] hB ⟨⟨hc10, ⟨⟨(fun h => by cases h), rfl, rfl, fun i _ => .inl rfl⟩, rfl⟩, trivial⟩, trivial⟩ ?_
  refine Zae ?_
  refine Zam ?_
  obtain ⟨v_11, c_11, hx11_0, hx11_1, hc11⟩ := Znf (Zoy q_1) ⟨_, hx, rfl⟩
  have hrd : v_11 = q_1 := hx11_0 _ hx rfl
  have hrc := hx11_1
  refine Zbs [(1, .call [(false, .agg [Zaa false q_1.Entries])] true (Sv (Zoy q_1))), (2, .call [(true, .any)] true (.tup [.agg [Zaa true v_11.Entries], Bv c_11])), (6, .new 27)] [6, 20, 21, 22, 24, 26, 27, 28] [6, 27] [.ref 6 0, I c_7, I v_8, I c_8, I c_9, I c_10, .ref 27 0, Bv c_11] [some (.box [Zaa true q_1.Entries]), some (.box [Zaa true v_11.Entries])] [Con Tryz.prog 26 [.agg [Zaa false q_1.Entries]] true (Sv (Zoy q_1)) ∧ (((false = true → true = true) ∧ 2 = 2 ∧ q_1.Entries.length = q_1.Entries.length ∧ ∀ i_, i_ < q_1.Entries.length → (Zap q_1.Entries) i_ = (Zap q_1.Entries) i_ ∨ (AV.idsL ((Zap q_1.Entries) i_) = [] ∧ leL (fun _ => none) false ((Zap q_1.Entries) i_) ((Zap q_1.Entries) i_))) ∧ ([] : List AV) = []) ∧ True, Con Tryz.prog 25 [Sv (Zoy q_1)] true (.tup [.agg [Zaa true v_11.Entries], Bv c_11]) ∧ True] hB ⟨⟨(Zig q_1 hx), ⟨⟨(fun h => by cases h), rfl, rfl, fun i _ => .inl rfl⟩, rfl⟩, trivial⟩, ⟨hc11, trivial⟩, trivial⟩ ?_
  refine Zae ?_
  refine Zam ?_
  rcases Bool.eq_false_or_eq_true c_11 with h17 | h17
  ·subst h17
   refine Zbs [(1, .dec true), (4, .dec true), (8, .dec true), (12, .dec true), (16, .dec true), (24, .call [(false, .agg [Zaa false v_11.Entries]), (false, .agg [Zaa false q_1.Entries])] true (Bv true))] [4] [] [Bv true] [] [c_7 = 0, c_8 = 0, v_8 = 7, c_9 = 0, c_10 = 3, Con Tryz.prog 27 [.agg [Zaa false v_11.Entries], .agg [Zaa false q_1.Entries]] true (Bv true) ∧ (((false = true → true = true) ∧ 2 = 2 ∧ v_11.Entries.length = v_11.Entries.length ∧ ∀ i_, i_ < v_11.Entries.length → (Zap v_11.Entries) i_ = (Zap v_11.Entries) i_ ∨ (AV.idsL ((Zap v_11.Entries) i_) = [] ∧ leL (fun _ => none) false ((Zap v_11.Entries) i_) ((Zap v_11.Entries) i_))) ∧ ([] : List AV) = []) ∧ (((false = true → true = true) ∧ 2 = 2 ∧ q_1.Entries.length = q_1.Entries.length ∧ ∀ i_, i_ < q_1.Entries.length → (Zap q_1.Entries) i_ = (Zap q_1.Entries) i_ ∨ (AV.idsL ((Zap q_1.Entries) i_) = [] ∧ leL (fun _ => none) false ((Zap q_1.Entries) i_) ((Zap q_1.Entries) i_))) ∧ ([] : List AV) = []) ∧ True] hB ⟨hc3_, hc4_.1, hc4_.2, hc5_, hc6_, ⟨(Ziv v_11 q_1 hrd), ⟨⟨(fun h => by cases h), rfl, rfl, fun i _ => .inl rfl⟩, rfl⟩, ⟨⟨(fun h => by cases h), rfl, rfl, fun i _ => .inl rfl⟩, rfl⟩, trivial⟩, trivial⟩ ?_
   refine Zae ?_
   refine Zba ?_
   refine Zbb hB (Bv true) (by kernel_rfl) (.inl rfl) rfl (fun _ => trivial)
  subst h17
  refine Zbs [(1, .dec true), (4, .dec true), (8, .dec true), (12, .dec true), (16, .dec true)] [4] [] [Bv false] [] [c_7 = 0, c_8 = 0, v_8 = 7, c_9 = 0, c_10 = 3] hB ⟨hc3_, hc4_.1, hc4_.2, hc5_, hc6_, trivial⟩ ?_
  refine Zae ?_
  refine Zba ?_
  refine Zbb hB (Bv false) (by kernel_rfl) (.inl (by first | rfl | (exfalso; omega) | (exfalso; exact absurd hfnd (by assumption)) | (refine congrArg Bv ?_; simp [*]; done) | (exfalso; simp_all; done) | (exfalso; simp_all; omega))) rfl (fun _ => trivial)
theorem Zrh : Zvl Tryz.prog 22 (cLU8 false) (fun xs => ∀ y ∈ xs, inR .u8 y) :=
  Zri (c := cU8) (sz := 1) Tryz.underlying22 (by kernel_rfl) (by decide) (fun x => ⟨rfl, by simp [Znb, cU8]⟩) (Zxf Tryz.underlying5)
namespace fnFound
set_option maxRecDepth 100000 in
theorem lifted (os : Os) (started : os.Started) (H : Type) (enc : TypeId × Value → H) :
    ReturnsInHanded {} Tryz.checked os 4 .any (fun w args => (Rows.fnFoundSpec.pre enc Tryz.prog Tryz.f4 Rows.fnFoundRow.domain false w args ∧ laidMetH Tryz.prog Rows.fnFoundRow.laid w) ∧ sizedMet enc Tryz.prog Tryz.f4 (OpenSpec.ofChange Rows.fnFoundSpec) false w args)
      (Rows.fnFoundSpec.post enc Tryz.prog Tryz.f4 false true false false) := by
  refine returnsInHanded_of_change_and (C := Tryz.checked) (X := fun w _ => laidMetH Tryz.prog Rows.fnFoundRow.laid w) (fun _ _ _ hh h => h.of_heap hh) Tryz.own started (by kernel_rfl) Tryz.func4
    (ChangeSpec.witness_shaped (enc := enc) (C := Tryz.checked) (os := os) (X := fun w _ => laidMetH Tryz.prog Rows.fnFoundRow.laid w) false (World.laidAll Tryz.prog os Rows.fnFoundRow.laid) #[.slice none 0 0, .slice none 0 0] 8 (World.laidAll_os _ _ _)
      (World.shaped_of_ZipB (by kernel_rfl) (by kernel_rfl)) (by kernel_rfl) (by kernel_rfl) (by kernel_rfl)
      (by rw [MakeChecks.laidMetH_plain _ _ _ (by kernel_rfl)]; exact laidMet_laidAll _ (by kernel_rfl) (by kernel_rfl))) ?_
  intro W base args ds gs before hval0 hW hcnd hsz hL _
  have hW' := hW
  obtain ⟨p, q, hA0, hV, rfl, hfz, hnd⟩ := hW
  have hval : ∀ (j : Nat) t v, Tryz.f4.params[j]? = some t → args[j]? = some v → Value.okWide Tryz.prog W .any base t v := hval0
  have hA : DataW.TrodAll enc Tryz.prog W 0 (fun _ => true) true Tryz.f4.params.toList args.toList ds p := hA0
  rw [Tryz.params4] at hA hval
  obtain ⟨v0, vs0, d0, ds0, p0, q0, hargs, rfl, rfl, h0, r0⟩ := trodAll_cons hA
  obtain ⟨v1, vs1, d1, ds1, p1, q1, rfl, rfl, rfl, h1, r1⟩ := trodAll_cons r0
  obtain ⟨rfl, rfl, rfl⟩ := trodAll_nil r1
  obtain rfl : args = #[v0, v1] := args_eq hargs
  obtain ⟨rfl, rfl⟩ := trodVars_none hV
  obtain ⟨fuel0, hf0⟩ := h0
  obtain ⟨A0, l0, c0, rfl⟩ := okWide_slice Tryz.underlying22 (hval 0 22 v0 rfl rfl)
  obtain ⟨x0, rx0, ok0⟩ := (Zrh) enc W 0 _ _ _ _ _ hf0
  obtain ⟨fuel1, hf1⟩ := h1
  obtain ⟨A1, l1, c1, rfl⟩ := okWide_slice Tryz.underlying22 (hval 1 22 v1 rfl rfl)
  obtain ⟨x1, rx1, ok1⟩ := (Zrh) enc W 0 _ _ _ _ _ hf1
  refine (walk_of0 (Ztr x0 x1 ok0 ok1) (fun w hk => Zvi (WX_laid (by rw [MakeChecks.laidMetH_plain _ _ _ (by kernel_rfl)] at hL; first | exact hL | exact hL.tail | exact hL.tail.tail | exact hL.tail.tail.tail | exact hL.tail.tail.tail.tail | exact hL.tail.tail.tail.tail.tail | exact hL.tail.tail.tail.tail.tail.tail | exact hL.tail.tail.tail.tail.tail.tail.tail | exact hL.tail.tail.tail.tail.tail.tail.tail.tail) (by rw [MakeChecks.laidMetH_plain _ _ _ (by kernel_rfl)] at hL; first | exact hL | exact hL.tail | exact hL.tail.tail | exact hL.tail.tail.tail | exact hL.tail.tail.tail.tail | exact hL.tail.tail.tail.tail.tail | exact hL.tail.tail.tail.tail.tail.tail | exact hL.tail.tail.tail.tail.tail.tail.tail | exact hL.tail.tail.tail.tail.tail.tail.tail.tail) (by rw [MakeChecks.laidMetH_plain _ _ _ (by kernel_rfl)] at hL; first | exact hL | exact hL.tail | exact hL.tail.tail | exact hL.tail.tail.tail | exact hL.tail.tail.tail.tail | exact hL.tail.tail.tail.tail.tail | exact hL.tail.tail.tail.tail.tail.tail | exact hL.tail.tail.tail.tail.tail.tail.tail | exact hL.tail.tail.tail.tail.tail.tail.tail.tail)) w ⟨hk.os, hk.tape, hk.output, hk.size, fun k h1 => hk.block k h1 id⟩) (RelTL.cons (Zrj rx0) (RelTL.cons (Zrj rx1) RelTL.nil))).mono fun e W1 ⟨he, hb⟩ => ?_
  subst he
  exact ⟨_, rfl, law_post Tryz.laidOut rfl Tryz.underlying4 (of_decide_eq_true (by kernel_rfl)) rfl hW' hb rfl⟩
theorem jf0 : (Rows.fnFoundRow.inPlace == Tryz.pinned.checked.prog.inPlace 4) = true := by kernel_rfl
theorem jf1 : (Rows.fnFoundRow.unfollowed == Tryz.pinned.checked.prog.unfollowed 4) = true := by kernel_rfl
theorem jf2 : (Rows.fnFoundRow.recurses == Tryz.pinned.checked.prog.recurses 4) = true := by kernel_rfl
theorem jf3 : (Rows.fnFoundRow.named == Tryz.pinned.checked.prog.varsNamed 4) = true := by kernel_rfl
theorem jf : joinedFacts Tryz.pinned.checked.prog 4 Tryz.f4 Rows.fnFoundSpec Rows.fnFoundRow = true := by
  unfold joinedFacts
  rw [jf0, jf1, jf2, jf3]
  kernel_rfl
theorem over : Rows.fnFoundRow.holds Tryz.pinned (OpenSpec.ofChange Rows.fnFoundSpec) :=
  OpenClaim.holds_of_wide 4 Tryz.f4 rfl rfl rfl rfl rfl rfl rfl ⟨rfl, rfl, rfl, rfl, rfl⟩ rfl rfl rfl rfl rfl (by kernel_rfl) Tryz.func4 jf
    (of_decide_eq_true (by kernel_rfl)) (by unfold Func.isWrapper; first | (rw [if_pos (by decide +kernel)]; kernel_rfl) | (rw [if_neg (by decide +kernel)]; exact ⟨rfl, rfl⟩))
    (fun os started H enc _ => lifted os started H enc)
theorem proved : Rows.FnFoundCardSaid :=
  Claim7.holds_tied_plain_at .later [] [.data, .data, .data, .data, .sentinel, .sentinel, .pinned] true (true, "0c0f9773bbb6a25c0e2171703b60c2a39d510bba2380f2c157cae8c748d77682") true over (fun _ h => by cases h) (by kernel_rfl) (fun _ h => by cases h) fnFound_row_tie rfl ⟨rfl, rfl⟩ (by kernel_rfl) rfl
    (fun f fn hf hfn => by
      obtain rfl : f = 4 := Option.some.inj ((show Tryz.prog.funcNamed "loop.example/g00918/laws.FnFound" = some 4 by kernel_rfl).symm.trans hf) |>.symm
      obtain rfl : fn = Tryz.f4 := (Option.some.inj (Tryz.func4.symm.trans hfn)).symm
      exact ⟨by kernel_rfl, fun j t ht => by
        rw [Tryz.params4] at ht
        have hm : t ∈ [22, 22] := by simpa using Array.mem_of_getElem? ht
        have hall : ([22, 22].all fun u => !Tryz.prog.wantsStandIn u) = true := by kernel_rfl
        exact (show Tryz.prog.wantsStandIn t = false by simpa using List.all_eq_true.1 hall t hm)⟩)
    (by kernel_rfl)
#print axioms proved
end fnFound
end Go.Proofs.YtdinloamhmdgjaaGreatDoor.Ax
