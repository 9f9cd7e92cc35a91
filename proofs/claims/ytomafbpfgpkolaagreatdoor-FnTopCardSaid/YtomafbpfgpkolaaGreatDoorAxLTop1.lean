/- Contracts that the statement FnTop reaches, part 1. No conditions. -/
import Derived.Test.YtomafbpfgpkolaaGreatDoorAxO
import Derived.Test.YtomafbpfgpkolaaGreatDoorShelf
import Derived.Test.YtomafbpfgpkolaaGreatDoorTie
import Derived.Test.YtomafbpfgpkolaaGreatDoorCards
import Derived.LaidMore
import Derived.Lay
import Derived.Lib.IndexBytes
import Derived.Lib.ItoaNum
import Derived.Lib.ParseIntBCases
import Derived.Lib.Repeat
import Derived.Lib.SplitLaws
import Derived.OpenShut
import Derived.SevenTiedAt
import Derived.Shelf.Strings.SlTrimAscii
import Derived.Stop.Joined
import Derived.Test.YtomafbpfgpkolaaGreatDoorAxBd
import Derived.Test.YtomafbpfgpkolaaGreatDoorAxR
import Derived.Test.YtomafbpfgpkolaaGreatDoorAxS
import Derived.Test.YtomafbpfgpkolaaGreatDoorAxSF
import Derived.Test.YtomafbpfgpkolaaGreatDoorAxY
import Derived.Test.YtomafbpfgpkolaaGreatDoorSfFndShelf
namespace Go.Proofs.YtomafbpfgpkolaaGreatDoor.Ax
open Go.RowKit Go.ChangeShapes Go.WideShapes
set_option linter.unusedVariables false
set_option linter.unusedSimpArgs false
def cU8 (x:Int):List AV:=[.val (.int .u8 x)]
def fU8 (xs:List Int) (i:Nat):List AV:=cU8 (at_ xs i)
def Zhw (fr:Bool) (xs:List Int):AV:= .sl fr 1 xs.length (fU8 xs)
theorem tagcU8 (t:Bool) (x:Int):Zaf t (cU8 x):=by simp [cU8,Zaf,Zai]
theorem Zcx (t:Bool) (xs:List Int):Zai t (Zhw t xs):=by simp only [Zhw,Zai];exact ⟨trivial,fun i _=>tagcU8 t _⟩
abbrev tAU8 (xs:List Int):Ob:= .arr 1 xs.length (fU8 xs)
def cI (x:Int):List AV:=[I x]
def fI (xs:List Int) (i:Nat):List AV:=cI (at_ xs i)
def slI (fr:Bool) (xs:List Int):AV:= .sl fr 1 xs.length (fI xs)
theorem tagcI (t:Bool) (x:Int):Zaf t (cI x):=by simp [cI,Zaf,Zai]
theorem Ydy (t:Bool) (xs:List Int):Zai t (slI t xs):=by simp only [slI,Zai];exact ⟨trivial,fun i _=>tagcI t _⟩
abbrev tAI (xs:List Int):Ob:= .arr 1 xs.length (fI xs)
def cS (x:ByteArray):List AV:=[Sv x]
def fS (xs:List ByteArray) (i:Nat):List AV:=cS (at_ xs i)
def slS (fr:Bool) (xs:List ByteArray):AV:= .sl fr 1 xs.length (fS xs)
theorem tagcS (t:Bool) (x:ByteArray):Zaf t (cS x):=by simp [cS,Zaf,Zai]
theorem tagS (t:Bool) (xs:List ByteArray):Zai t (slS t xs):=by simp only [slS,Zai];exact ⟨trivial,fun i _=>tagcS t _⟩
structure Edge where
 From:Int
 To:Int
 Label:ByteArray
 Cost:Int
deriving DecidableEq,Inhabited
def Zln (x:Edge):List AV:=[I x.From,I x.To,Sv x.Label,I x.Cost]
def Zdq (xs:List Edge) (i:Nat):List AV:=Zln (at_ xs i)
def Zbk (fr:Bool) (xs:List Edge):AV:= .sl fr 4 xs.length (Zdq xs)
theorem tagcEdge (t:Bool) (x:Edge):Zaf t (Zln x):=by simp [Zln,Zaf,Zai]
theorem Zff (t:Bool) (xs:List Edge):Zai t (Zbk t xs):=by simp only [Zbk,Zai];exact ⟨trivial,fun i _=>tagcEdge t _⟩
abbrev Zld (x:Edge):Ob:= .box [I x.From,I x.To,Sv x.Label,I x.Cost]
abbrev Znb (x:Edge):AV:= .agg [I x.From,I x.To,Sv x.Label,I x.Cost]
structure Lattice where
 Nodes:Int
 Edges:List Edge
deriving DecidableEq,Inhabited
abbrev Zbm (x:Lattice):Ob:= .box [I x.Nodes,Zbk false x.Edges]
abbrev Zcr (x:Lattice):AV:= .agg [I x.Nodes,Zbk false x.Edges]
abbrev Zct (x:Lattice):Ob:= .box [I x.Nodes,Zbk true x.Edges]
abbrev Zdt (x:Lattice):AV:= .agg [I x.Nodes,Zbk true x.Edges]
structure Entry where
 Word:ByteArray
 Cost:Int
deriving DecidableEq,Inhabited
def Ziu (x:Entry):List AV:=[Sv x.Word,I x.Cost]
def Zde (xs:List Entry) (i:Nat):List AV:=Ziu (at_ xs i)
def Zav (fr:Bool) (xs:List Entry):AV:= .sl fr 2 xs.length (Zde xs)
theorem Yip (t:Bool) (x:Entry):Zaf t (Ziu x):=by simp [Ziu,Zaf,Zai]
theorem Zfm (t:Bool) (xs:List Entry):Zai t (Zav t xs):=by simp only [Zav,Zai];exact ⟨trivial,fun i _=>Yip t _⟩
abbrev Zoc (x:Entry):Ob:= .box [Sv x.Word,I x.Cost]
abbrev Ybb (x:Entry):AV:= .agg [Sv x.Word,I x.Cost]
abbrev Zmi (xs:List Entry):Ob:= .arr 2 xs.length (Zde xs)
structure Lexicon where
 Entries:List Entry
deriving DecidableEq,Inhabited
def cLU8 (fr:Bool) (x:List Int):List AV:=[Zhw fr x]
structure l00Src where
 code:List Int
 atx:Int
 seed:Int
deriving DecidableEq,Inhabited
abbrev Zaa (x:l00Src):Ob:= .box [Zhw false x.code,I x.atx,.val (.int .u64 x.seed)]
structure Reading where
 Text:ByteArray
 Cost:Int
deriving DecidableEq,Inhabited
structure Bigram where
 First:ByteArray
 Second:ByteArray
 Cost:Int
deriving DecidableEq,Inhabited
structure Model where
 Default:Int
 Bigrams:List Bigram
deriving DecidableEq,Inhabited
structure Found where
 Word:ByteArray
 Path:Int
 Own:Int
deriving DecidableEq,Inhabited
def Ycy (x:Found):List AV:=[Sv x.Word,I x.Path,I x.Own]
def Yio (xs:List Found) (i:Nat):List AV:=Ycy (at_ xs i)
def Zob (fr:Bool) (xs:List Found):AV:= .sl fr 3 xs.length (Yio xs)
theorem Zyu (t:Bool) (x:Found):Zaf t (Ycy x):=by simp [Ycy,Zaf,Zai]
theorem tagFound (t:Bool) (xs:List Found):Zai t (Zob t xs):=by simp only [Zob,Zai];exact ⟨trivial,fun i _=>Zyu t _⟩
abbrev Zkk (x:Found):Ob:= .box [Sv x.Word,I x.Path,I x.Own]
abbrev Zpu (x:Found):AV:= .agg [Sv x.Word,I x.Path,I x.Own]
abbrev Zfa (xs:List Found):Ob:= .arr 3 xs.length (Yio xs)
structure wordAt where
 word:ByteArray
 cost:Int
deriving DecidableEq,Inhabited
structure Feat where
 X:Int
 Y:Int
 D:Int
deriving DecidableEq,Inhabited
def Zjs (x:Feat):List AV:=[I x.X,I x.Y,I x.D]
def Zej (xs:List Feat) (i:Nat):List AV:=Zjs (at_ xs i)
def Zag (fr:Bool) (xs:List Feat):AV:= .sl fr 3 xs.length (Zej xs)
theorem tagcFeat (t:Bool) (x:Feat):Zaf t (Zjs x):=by simp [Zjs,Zaf,Zai]
theorem Zdx (t:Bool) (xs:List Feat):Zai t (Zag t xs):=by simp only [Zag,Zai];exact ⟨trivial,fun i _=>tagcFeat t _⟩
abbrev Zoq (x:Feat):Ob:= .box [I x.X,I x.Y,I x.D]
abbrev Zky (x:Feat):AV:= .agg [I x.X,I x.Y,I x.D]
abbrev Zov (xs:List Feat):Ob:= .arr 3 xs.length (Zej xs)
def Zlu (fr:Bool) (x:List Feat):List AV:=[Zag fr x]
def Zes (fr:Bool) (xs:List (List Feat)) (i:Nat):List AV:=Zlu fr (at_ xs i)
def Zbu (fr:Bool) (xs:List (List Feat)):AV:= .sl fr 1 xs.length (Zes fr xs)
theorem Yiq (t:Bool) (x:List Feat):Zaf t (Zlu t x):=by simp [Zlu,Zaf,Zai,Zdx]
theorem Zmv (t:Bool) (xs:List (List Feat)):Zai t (Zbu t xs):=by simp only [Zbu,Zai];exact ⟨trivial,fun i _=>Yiq t _⟩
theorem Zpb (fr:Bool) (x:List Feat):AV.idsL (Zlu fr x)=[]:=rfl
theorem Zts (fr:Bool) (x:List Feat) (ob:Nat→Option Ob):leL ob false (Zlu fr x) (Zlu false x):=(And.intro (And.intro (fun h=>by cases h) (And.intro rfl (And.intro rfl (fun i _=> .inl rfl)))) rfl)
abbrev Zfo (fr:Bool) (xs:List (List Feat)):Ob:= .arr 1 xs.length (Zes fr xs)
structure Pair where
 I:Int
 J:Int
deriving DecidableEq,Inhabited
def cLI (fr:Bool) (x:List Int):List AV:=[slI fr x]
def fLI (fr:Bool) (xs:List (List Int)) (i:Nat):List AV:=cLI fr (at_ xs i)
def Zvz (fr:Bool) (xs:List (List Int)):AV:= .sl fr 1 xs.length (fLI fr xs)
theorem tagcLI (t:Bool) (x:List Int):Zaf t (cLI t x):=by simp [cLI,Zaf,Zai,Ydy]
theorem tagLI (t:Bool) (xs:List (List Int)):Zai t (Zvz t xs):=by simp only [Zvz,Zai];exact ⟨trivial,fun i _=>tagcLI t _⟩
structure Envelope where
 LowX:List Int
 HighX:List Int
 LowY:List Int
 HighY:List Int
deriving DecidableEq,Inhabited
abbrev Zoa (x:Envelope):Ob:= .box [slI false x.LowX,slI false x.HighX,slI false x.LowY,slI false x.HighY]
abbrev Znz (x:Envelope):AV:= .agg [slI false x.LowX,slI false x.HighX,slI false x.LowY,slI false x.HighY]
abbrev Zju (x:Envelope):AV:= .agg [slI true x.LowX,slI true x.HighX,slI true x.LowY,slI true x.HighY]
structure Arr2I where
 a0:Int
 a1:Int
deriving DecidableEq,Inhabited
structure Arr3Arr2I where
 a0:Arr2I
 a1:Arr2I
 a2:Arr2I
deriving DecidableEq,Inhabited
structure Point where
 X:Int
 Y:Int
 T:Int
deriving DecidableEq,Inhabited
def Zgw (x:Point):List AV:=[I x.X,I x.Y,I x.T]
def Zdy (xs:List Point) (i:Nat):List AV:=Zgw (at_ xs i)
def Zbj (fr:Bool) (xs:List Point):AV:= .sl fr 3 xs.length (Zdy xs)
theorem Yir (t:Bool) (x:Point):Zaf t (Zgw x):=by simp [Zgw,Zaf,Zai]
theorem Zil (t:Bool) (xs:List Point):Zai t (Zbj t xs):=by simp only [Zbj,Zai];exact ⟨trivial,fun i _=>Yir t _⟩
abbrev Yhp (x:Point):Ob:= .box [I x.X,I x.Y,I x.T]
abbrev Zgq (x:Point):AV:= .agg [I x.X,I x.Y,I x.T]
abbrev Zef (xs:List Point):Ob:= .arr 3 xs.length (Zdy xs)
structure Stroke where
 Points:List Point
deriving DecidableEq,Inhabited
def Zhd (fr:Bool) (x:Stroke):List AV:=[Zbj fr x.Points]
def Zbl (fr:Bool) (xs:List Stroke) (i:Nat):List AV:=Zhd fr (at_ xs i)
def Zap (fr:Bool) (xs:List Stroke):AV:= .sl fr 1 xs.length (Zbl fr xs)
theorem Yes (t:Bool) (x:Stroke):Zaf t (Zhd t x):=by simp [Zhd,Zaf,Zai,Zil]
theorem Zgv (t:Bool) (xs:List Stroke):Zai t (Zap t xs):=by simp only [Zap,Zai];exact ⟨trivial,fun i _=>Yes t _⟩
theorem Zgu (fr:Bool) (x:Stroke):AV.idsL (Zhd fr x)=[]:=rfl
theorem Zij (fr:Bool) (x:Stroke) (ob:Nat→Option Ob):leL ob false (Zhd fr x) (Zhd false x):=(And.intro (And.intro (fun h=>by cases h) (And.intro rfl (And.intro rfl (fun i _=> .inl rfl)))) rfl)
abbrev Zle (fr:Bool) (xs:List Stroke):Ob:= .arr 1 xs.length (Zbl fr xs)
structure Ink where
 Strokes:List Stroke
deriving DecidableEq,Inhabited
structure Arr3LI where
 a0:List Int
 a1:List Int
 a2:List Int
deriving DecidableEq,Inhabited
structure reader where
 bits:ByteArray
 atx:Int
 broken:Bool
deriving DecidableEq,Inhabited
abbrev Zaq (x:reader):Ob:= .box [Sv x.bits,I x.atx,Bv false]
theorem Zwm (code:List Int) (more:List Int):Con Tryz.prog 4 [Zhw false code,Zhw false more] true (Bv (decide (3000<(code.length:Int)∨3000<(more.length:Int)))):=by
  refine Zcm (fn:=Tryz.f4) (nt:=13) Tryz.func4 rfl rfl rfl rfl (by simp [Zaf,Zai,Zcx]) fun B hB=> ?_
  refine Zck (x:=Zhw false code) 0 rfl (fun len_code=> ?_)
  simp [Zei,Zhv,cU8,fU8,Zhw] at len_code
  refine Zck (x:=Zhw false more) 1 rfl (fun len_more=> ?_)
  simp [Zei,Zhv,cU8,fU8,Zhw] at len_more
  refine aQ [] [0,1] [] [] hB trivial (Zah ?_)
  by_cases h1:3000<(code.length:Int)
  ·refine Zeo [(2,.dec true)] [4] [] [Bv true] [] [_] hB ⟨h1,trivial⟩ (Zac (Zan ?_))
   refine Zao hB (Bv true) (by kernel_rfl) (.inl (by refine congrArg Bv ?_;simp [*])) rfl (fun _=>trivial)
  refine Zeo [(2,.dec false)] [4] [] [Bv (decide (3000<(more.length:Int)))] [] [_] hB ⟨h1,trivial⟩ (Zac (Zan ?_))
  refine Zao hB (Bv (decide (3000<(more.length:Int)))) (by kernel_rfl) (.inl (by refine congrArg Bv ?_;simp [*])) rfl (fun _=>trivial)
theorem set_at {α:Type} [Inhabited α] {ys xs:List α} {i:Int} (hl:ys.length=xs.length) (hi:i.toNat<xs.length) (h:∀j:Nat,(j:Int)<i→at_ ys j=at_ xs j) (j:Nat) (hj:j≤i.toNat):at_ (ys.set i.toNat (at_ xs i.toNat)) j=at_ xs j:=by
 by_cases e:i.toNat=j
 ·subst e;simp [at_,hl,hi]
 ·have:=h j om
  simp only [at_] at this⊢
  rw [←this]
  simp [e]
def same {α:Type} [DecidableEq α] (x y:α):Bool:=decide (x=y)
theorem ext_at {α:Type} [Inhabited α] {xs ys:List α} (hl:xs.length=ys.length) (h:∀j:Nat,j<xs.length→at_ xs j=at_ ys j):xs=ys:=by
 apply List.ext_getElem hl
 intro i h1 h2
 rw [←Zea h1,←Zea h2]
 exact h i h1
theorem Zca {α:Type} [Inhabited α] {xs:List α} {i:Nat} (h:i<xs.length):at_ xs i∈xs:=by rw [Zea h];exact List.getElem_mem h
def Zng (n:Nat) (p:Nat→Bool):Bool:=(List.range n).all p
def Yar (n:Nat) (p:Nat→Bool):Bool:= !(Zng n fun j=> !(p j))
theorem Zik {n:Nat} {p:Nat→Bool} :Zng n p=true↔∀j,j<n→p j=true:=by simp [Zng,List.all_eq_true]
theorem Zhe {n:Nat} {p:Nat→Bool} (h:∀j,j<n→p j=true):Zng n p=true:=Zik.2 h
theorem Zmw {n:Nat} {p:Nat→Bool} (h:Zng n p=true) {k:Nat} (hk:k<n):p k=true:=Zik.1 h k hk
theorem Zim {n:Nat} {p:Nat→Bool} {k:Nat} (hk:k<n) (h:p k=false):Zng n p=false:=by
 rw [←Bool.not_eq_true,Zik];intro h';rw [h' k hk] at h;cases h
theorem Zfs (n:Nat) (p:Nat→Bool):Yar n (fun j=> !(p j))= !(Zng n p):=by simp [Yar]
theorem Yau {n:Nat} {p:Nat→Bool} {k:Nat} (hk:k<n) (h:p k=true):Yar n p=true:=by
 unfold Yar;rw [Zim hk (by simp [h])];rfl
theorem Znc {n:Nat} {p:Nat→Bool} (h:∀j,j<n→p j=false):Yar n p=false:=by
 unfold Yar;rw [Zhe (fun j hj=>by simp [h j hj])];rfl
def Zbh (s:l00Src):Prop:=(∀j,j<s.code.length→0≤at_ s.code j∧at_ s.code j≤255)∧0≤s.atx∧s.code.length≤4611686018427387904
theorem Yis (a:Int):0≤Zel .and .u64 a 255∧Zel .and .u64 a 255≤255:=by
 obtain ⟨n,hn⟩:∃n:Nat,n=(BitVec.ofInt 64 a&&&BitVec.ofInt 64 255).toNat:=⟨_,rfl⟩
 have h:n≤255:=by rw [hn,BitVec.toNat_and];exact Nat.and_le_right
 have e:Zel .and .u64 a 255=IntKind.u64.wrap (n:Int):=by rw [hn];rfl
 have w:IntKind.u64.wrap (n:Int)=n:=Zib (Zze om om)
 rw [e,w];omega
theorem Znw (code:List Int):∃(s':l00Src),(s'.code=code∧s'.atx=0)∧Zaw Tryz.prog 17 [Zhw false code] (Zae []) false (.ref 7001 0) (Zae [(7001,Zaa s')]):=by
 have hh:∃r:l00Src,((r.code=code∧r.atx=0)∧(True))∧Zaw Tryz.prog 17 [Zhw false code] (Zae []) false (.ref 7001 0) (Zae [(7001,Zaa r)]):=by
  refine Zcv (Φ:=fun r:l00Src=>(r.code=code∧r.atx=0)∧(True)) [] (fun r=>[(7001,Zaa r)]) (fn:=Tryz.f17) (nt:=6) Tryz.func17 rfl rfl (args:=[Zhw false code]) rfl (Zbc (.inl ⟨rfl,Zcx false _⟩) Zcw) (res:=fun r=> .ref 7001 0) ?_
  refine xQ [] [0] [] [] trivial ?_
  refine xR [(2,.new 7001)] [2] [7001] [.ref 7001 0] [some (.box [Zhw false code,I 0,.val (.int .u64 0)])] [] trivial (Zdd ?_)
  refine Zbw (l00Src.mk code 0 0) (show ((l00Src.mk code 0 0).code=code∧(l00Src.mk code 0 0).atx=0)∧(True) from ⟨(by first|rfl|(exact ⟨rfl,rfl⟩)),trivial⟩) (⟨.inl rfl,trivial⟩) (.ref 7001 0) (by kernel_rfl) (.inl rfl) (fun h=>by cases h) (fun h=>by cases h)
 obtain ⟨s',⟨hh0,_⟩,hc⟩:=hh
 exact ⟨s',hh0,hc⟩
theorem Yit (s:l00Src) (hs:Zbh s) (ha:s.atx≤4000000000000000000):∃(v:Int) (s':l00Src),(0≤v∧v≤255)∧(Zbh s')∧(s'.code=s.code)∧(s.atx+1≤s'.atx∧s'.atx≤s.atx+1)∧Zaw Tryz.prog 68 [.ref 7001 0] (Zae [(7001,Zaa s)]) true (I v) (Zae [(7001,Zaa s')]):=by
  have hs0:=hs.2.1
  have hs1:=hs.2.2
  have hh:∃r:Int×l00Src,((0≤r.1∧r.1≤255)∧(Zbh r.2)∧(r.2.code=s.code)∧(s.atx+1≤r.2.atx∧r.2.atx≤s.atx+1)∧(True))∧Zaw Tryz.prog 68 [.ref 7001 0] (Zae [(7001,Zaa s)]) true (I r.1) (Zae [(7001,Zaa r.2)]):=by
    refine Zcv (Φ:=fun r:Int×l00Src=>(0≤r.1∧r.1≤255)∧(Zbh r.2)∧(r.2.code=s.code)∧(s.atx+1≤r.2.atx∧r.2.atx≤s.atx+1)∧(True)) [(7001,Zaa s)] (fun r=>[(7001,Zaa r.2)]) (fn:=Tryz.f68) (nt:=62) Tryz.func68 rfl rfl (args:=[.ref 7001 0]) rfl (Zbc (.inr trivial) Zcw) (res:=fun r=>I r.1) ?_
    refine xQ [] [0] [7001] [] trivial ?_
    refine xQ [] [0,3] [7001] [] trivial (Zak (Zak ?_))
    by_cases h1:s.atx<(s.code.length:Int)
    ·have hbt:=hs.1 s.atx.toNat om
     refine x_q [(9,.dec true)] [0,3,13] [7001] [_] ⟨h1,trivial⟩ (Zab (Zeh ?_))
     refine x_q [] [0,3] [7001] [(0:Int)≤s.atx∧s.atx<(s.code.length:Int),inR .i64 (at_ s.code s.atx.toNat)] ⟨⟨om,om⟩,(Zad om om),trivial⟩ (Zab ?_)
     refine xQ [] [0,3] [7001] [inR .i64 (s.atx+1)] ⟨(Zad om om),trivial⟩ ?_
     refine xQ [(5,.wrap),(8,.wrap),(9,.wrap)] [0,3] [7001] [inR .u64 (at_ s.code s.atx.toNat)] ⟨(Zze om om),trivial⟩ (Zak (Zak ?_))
     by_cases h2:(s.atx+1)≤(s.code.length:Int)
     ·refine x_q [(9,.dec true)] [0,3,53] [7001] [_] ⟨h2,trivial⟩ (Zab (Zeh ?_))
      refine xR [] [2] [7001] [I (at_ s.code s.atx.toNat)] [some (.box [Zhw false s.code,I (s.atx+1),.val (.int .u64 (IntKind.u64.wrap ((IntKind.u64.wrap ((IntKind.u64.wrap (s.seed*6364136223846793005))+(at_ s.code s.atx.toNat)))+1442695040888963407)))])] [] trivial (Zdd (Zda ?_))
      refine Zbw ((at_ s.code s.atx.toNat),(l00Src.mk s.code (s.atx+1) (IntKind.u64.wrap ((IntKind.u64.wrap ((IntKind.u64.wrap (s.seed*6364136223846793005))+(at_ s.code s.atx.toNat)))+1442695040888963407)))) (show (0≤(at_ s.code s.atx.toNat)∧(at_ s.code s.atx.toNat)≤255)∧(Zbh (l00Src.mk s.code (s.atx+1) (IntKind.u64.wrap ((IntKind.u64.wrap ((IntKind.u64.wrap (s.seed*6364136223846793005))+(at_ s.code s.atx.toNat)))+1442695040888963407))))∧((l00Src.mk s.code (s.atx+1) (IntKind.u64.wrap ((IntKind.u64.wrap ((IntKind.u64.wrap (s.seed*6364136223846793005))+(at_ s.code s.atx.toNat)))+1442695040888963407))).code=s.code)∧(s.atx+1≤(l00Src.mk s.code (s.atx+1) (IntKind.u64.wrap ((IntKind.u64.wrap ((IntKind.u64.wrap (s.seed*6364136223846793005))+(at_ s.code s.atx.toNat)))+1442695040888963407))).atx∧(l00Src.mk s.code (s.atx+1) (IntKind.u64.wrap ((IntKind.u64.wrap ((IntKind.u64.wrap (s.seed*6364136223846793005))+(at_ s.code s.atx.toNat)))+1442695040888963407))).atx≤s.atx+1)∧(True) from ⟨(by first|omega|rfl|assumption|(dsimp only;first|omega|rfl|assumption)|(simp only [*];done)|exact ⟨hs.1,(by dsimp only;omega),hs1⟩),(by first|omega|rfl|assumption|(dsimp only;first|omega|rfl|assumption)|(simp only [*];done)|exact ⟨hs.1,(by dsimp only;omega),hs1⟩),(by first|omega|rfl|assumption|(dsimp only;first|omega|rfl|assumption)|(simp only [*];done)|exact ⟨hs.1,(by dsimp only;omega),hs1⟩),(by first|omega|rfl|assumption|(dsimp only;first|omega|rfl|assumption)|(simp only [*];done)|exact ⟨hs.1,(by dsimp only;omega),hs1⟩),trivial⟩) (⟨.inl rfl,trivial⟩) (I (at_ s.code s.atx.toNat)) (by kernel_rfl) (.inl rfl) (fun _=>rfl) (fun _=>trivial)
     refine x_q [(9,.dec false)] [0,3,53] [7001] [_] ⟨h2,trivial⟩ (Zab (Zga (Zbd (Zab (Zak ?_)))))
     have hb1:=Yis ((IntKind.u64.wrap ((IntKind.u64.wrap ((IntKind.u64.wrap (s.seed*6364136223846793005))+(at_ s.code s.atx.toNat)))+1442695040888963407))/1099511627776)
     refine x_r [] [2] [7001] [I (Zel .and .u64 ((IntKind.u64.wrap ((IntKind.u64.wrap ((IntKind.u64.wrap (s.seed*6364136223846793005))+(at_ s.code s.atx.toNat)))+1442695040888963407))/1099511627776) 255)] [some (.box [Zhw false s.code,I (s.atx+1),.val (.int .u64 (IntKind.u64.wrap ((IntKind.u64.wrap ((IntKind.u64.wrap (s.seed*6364136223846793005))+(at_ s.code s.atx.toNat)))+1442695040888963407)))])] [(0:Int)≤40∧(40:Int)≤((IntKind.bits .u64:Nat):Int),inR .i64 (Zel .and .u64 ((IntKind.u64.wrap ((IntKind.u64.wrap ((IntKind.u64.wrap (s.seed*6364136223846793005))+(at_ s.code s.atx.toNat)))+1442695040888963407))/1099511627776) 255)] ⟨⟨(by decide),(by decide)⟩,(Zad om om),trivial⟩ (Zab (Zdd ?_))
     refine Zbw ((Zel .and .u64 ((IntKind.u64.wrap ((IntKind.u64.wrap ((IntKind.u64.wrap (s.seed*6364136223846793005))+(at_ s.code s.atx.toNat)))+1442695040888963407))/1099511627776) 255),(l00Src.mk s.code (s.atx+1) (IntKind.u64.wrap ((IntKind.u64.wrap ((IntKind.u64.wrap (s.seed*6364136223846793005))+(at_ s.code s.atx.toNat)))+1442695040888963407)))) (show (0≤(Zel .and .u64 ((IntKind.u64.wrap ((IntKind.u64.wrap ((IntKind.u64.wrap (s.seed*6364136223846793005))+(at_ s.code s.atx.toNat)))+1442695040888963407))/1099511627776) 255)∧(Zel .and .u64 ((IntKind.u64.wrap ((IntKind.u64.wrap ((IntKind.u64.wrap (s.seed*6364136223846793005))+(at_ s.code s.atx.toNat)))+1442695040888963407))/1099511627776) 255)≤255)∧(Zbh (l00Src.mk s.code (s.atx+1) (IntKind.u64.wrap ((IntKind.u64.wrap ((IntKind.u64.wrap (s.seed*6364136223846793005))+(at_ s.code s.atx.toNat)))+1442695040888963407))))∧((l00Src.mk s.code (s.atx+1) (IntKind.u64.wrap ((IntKind.u64.wrap ((IntKind.u64.wrap (s.seed*6364136223846793005))+(at_ s.code s.atx.toNat)))+1442695040888963407))).code=s.code)∧(s.atx+1≤(l00Src.mk s.code (s.atx+1) (IntKind.u64.wrap ((IntKind.u64.wrap ((IntKind.u64.wrap (s.seed*6364136223846793005))+(at_ s.code s.atx.toNat)))+1442695040888963407))).atx∧(l00Src.mk s.code (s.atx+1) (IntKind.u64.wrap ((IntKind.u64.wrap ((IntKind.u64.wrap (s.seed*6364136223846793005))+(at_ s.code s.atx.toNat)))+1442695040888963407))).atx≤s.atx+1)∧(True) from ⟨(by first|omega|rfl|assumption|(dsimp only;first|omega|rfl|assumption)|(simp only [*];done)|exact ⟨hs.1,(by dsimp only;omega),hs1⟩),(by first|omega|rfl|assumption|(dsimp only;first|omega|rfl|assumption)|(simp only [*];done)|exact ⟨hs.1,(by dsimp only;omega),hs1⟩),(by first|omega|rfl|assumption|(dsimp only;first|omega|rfl|assumption)|(simp only [*];done)|exact ⟨hs.1,(by dsimp only;omega),hs1⟩),(by first|omega|rfl|assumption|(dsimp only;first|omega|rfl|assumption)|(simp only [*];done)|exact ⟨hs.1,(by dsimp only;omega),hs1⟩),trivial⟩) (⟨.inl rfl,trivial⟩) (I (Zel .and .u64 ((IntKind.u64.wrap ((IntKind.u64.wrap ((IntKind.u64.wrap (s.seed*6364136223846793005))+(at_ s.code s.atx.toNat)))+1442695040888963407))/1099511627776) 255)) (by kernel_rfl) (.inl rfl) (fun _=>rfl) (fun _=>trivial)
    refine x_q [(9,.dec false)] [0,3,13] [7001] [_] ⟨h1,trivial⟩ (Zab (Zga (Zbd (Zab ?_))))
    refine xQ [] [0,3] [7001] [inR .i64 (s.atx+1)] ⟨(Zad om om),trivial⟩ ?_
    refine xQ [(5,.wrap),(8,.wrap),(9,.wrap)] [0,3] [7001] [inR .u64 0] ⟨(Zze om om),trivial⟩ (Zak (Zak ?_))
    by_cases h3:(s.atx+1)≤(s.code.length:Int)
    ·refine x_q [(9,.dec true)] [0,3,53] [7001] [_] ⟨h3,trivial⟩ (Zab (Zeh ?_))
     refine xR [] [2] [7001] [I 0] [some (.box [Zhw false s.code,I (s.atx+1),.val (.int .u64 (IntKind.u64.wrap ((IntKind.u64.wrap ((IntKind.u64.wrap (s.seed*6364136223846793005))+0))+1442695040888963407)))])] [] trivial (Zdd (Zda ?_))
     refine Zbw (0,(l00Src.mk s.code (s.atx+1) (IntKind.u64.wrap ((IntKind.u64.wrap ((IntKind.u64.wrap (s.seed*6364136223846793005))+0))+1442695040888963407)))) (show (0≤0∧0≤255)∧(Zbh (l00Src.mk s.code (s.atx+1) (IntKind.u64.wrap ((IntKind.u64.wrap ((IntKind.u64.wrap (s.seed*6364136223846793005))+0))+1442695040888963407))))∧((l00Src.mk s.code (s.atx+1) (IntKind.u64.wrap ((IntKind.u64.wrap ((IntKind.u64.wrap (s.seed*6364136223846793005))+0))+1442695040888963407))).code=s.code)∧(s.atx+1≤(l00Src.mk s.code (s.atx+1) (IntKind.u64.wrap ((IntKind.u64.wrap ((IntKind.u64.wrap (s.seed*6364136223846793005))+0))+1442695040888963407))).atx∧(l00Src.mk s.code (s.atx+1) (IntKind.u64.wrap ((IntKind.u64.wrap ((IntKind.u64.wrap (s.seed*6364136223846793005))+0))+1442695040888963407))).atx≤s.atx+1)∧(True) from ⟨(by first|omega|rfl|assumption|(dsimp only;first|omega|rfl|assumption)|(simp only [*];done)|exact ⟨hs.1,(by dsimp only;omega),hs1⟩),(by first|omega|rfl|assumption|(dsimp only;first|omega|rfl|assumption)|(simp only [*];done)|exact ⟨hs.1,(by dsimp only;omega),hs1⟩),(by first|omega|rfl|assumption|(dsimp only;first|omega|rfl|assumption)|(simp only [*];done)|exact ⟨hs.1,(by dsimp only;omega),hs1⟩),(by first|omega|rfl|assumption|(dsimp only;first|omega|rfl|assumption)|(simp only [*];done)|exact ⟨hs.1,(by dsimp only;omega),hs1⟩),trivial⟩) (⟨.inl rfl,trivial⟩) (I 0) (by kernel_rfl) (.inl rfl) (fun _=>rfl) (fun _=>trivial)
    refine x_q [(9,.dec false)] [0,3,53] [7001] [_] ⟨h3,trivial⟩ (Zab (Zga (Zbd (Zab (Zak ?_)))))
    have hb2:=Yis ((IntKind.u64.wrap ((IntKind.u64.wrap ((IntKind.u64.wrap (s.seed*6364136223846793005))+0))+1442695040888963407))/1099511627776)
    refine x_r [] [2] [7001] [I (Zel .and .u64 ((IntKind.u64.wrap ((IntKind.u64.wrap ((IntKind.u64.wrap (s.seed*6364136223846793005))+0))+1442695040888963407))/1099511627776) 255)] [some (.box [Zhw false s.code,I (s.atx+1),.val (.int .u64 (IntKind.u64.wrap ((IntKind.u64.wrap ((IntKind.u64.wrap (s.seed*6364136223846793005))+0))+1442695040888963407)))])] [(0:Int)≤40∧(40:Int)≤((IntKind.bits .u64:Nat):Int),inR .i64 (Zel .and .u64 ((IntKind.u64.wrap ((IntKind.u64.wrap ((IntKind.u64.wrap (s.seed*6364136223846793005))+0))+1442695040888963407))/1099511627776) 255)] ⟨⟨(by decide),(by decide)⟩,(Zad om om),trivial⟩ (Zab (Zdd ?_))
    refine Zbw ((Zel .and .u64 ((IntKind.u64.wrap ((IntKind.u64.wrap ((IntKind.u64.wrap (s.seed*6364136223846793005))+0))+1442695040888963407))/1099511627776) 255),(l00Src.mk s.code (s.atx+1) (IntKind.u64.wrap ((IntKind.u64.wrap ((IntKind.u64.wrap (s.seed*6364136223846793005))+0))+1442695040888963407)))) (show (0≤(Zel .and .u64 ((IntKind.u64.wrap ((IntKind.u64.wrap ((IntKind.u64.wrap (s.seed*6364136223846793005))+0))+1442695040888963407))/1099511627776) 255)∧(Zel .and .u64 ((IntKind.u64.wrap ((IntKind.u64.wrap ((IntKind.u64.wrap (s.seed*6364136223846793005))+0))+1442695040888963407))/1099511627776) 255)≤255)∧(Zbh (l00Src.mk s.code (s.atx+1) (IntKind.u64.wrap ((IntKind.u64.wrap ((IntKind.u64.wrap (s.seed*6364136223846793005))+0))+1442695040888963407))))∧((l00Src.mk s.code (s.atx+1) (IntKind.u64.wrap ((IntKind.u64.wrap ((IntKind.u64.wrap (s.seed*6364136223846793005))+0))+1442695040888963407))).code=s.code)∧(s.atx+1≤(l00Src.mk s.code (s.atx+1) (IntKind.u64.wrap ((IntKind.u64.wrap ((IntKind.u64.wrap (s.seed*6364136223846793005))+0))+1442695040888963407))).atx∧(l00Src.mk s.code (s.atx+1) (IntKind.u64.wrap ((IntKind.u64.wrap ((IntKind.u64.wrap (s.seed*6364136223846793005))+0))+1442695040888963407))).atx≤s.atx+1)∧(True) from ⟨(by first|omega|rfl|assumption|(dsimp only;first|omega|rfl|assumption)|(simp only [*];done)|exact ⟨hs.1,(by dsimp only;omega),hs1⟩),(by first|omega|rfl|assumption|(dsimp only;first|omega|rfl|assumption)|(simp only [*];done)|exact ⟨hs.1,(by dsimp only;omega),hs1⟩),(by first|omega|rfl|assumption|(dsimp only;first|omega|rfl|assumption)|(simp only [*];done)|exact ⟨hs.1,(by dsimp only;omega),hs1⟩),(by first|omega|rfl|assumption|(dsimp only;first|omega|rfl|assumption)|(simp only [*];done)|exact ⟨hs.1,(by dsimp only;omega),hs1⟩),trivial⟩) (⟨.inl rfl,trivial⟩) (I (Zel .and .u64 ((IntKind.u64.wrap ((IntKind.u64.wrap ((IntKind.u64.wrap (s.seed*6364136223846793005))+0))+1442695040888963407))/1099511627776) 255)) (by kernel_rfl) (.inl rfl) (fun _=>rfl) (fun _=>trivial)
  obtain ⟨⟨v,s'⟩,⟨hh0,hh1,hh2,hh3,_⟩,hc⟩:=hh
  exact ⟨v,s',hh0,hh1,hh2,hh3,hc⟩
theorem Zcl (s:l00Src) (n:Int) (hs:Zbh s) (ha:s.atx≤3999999999999999990):∃(v:Int) (s':l00Src),(0≤v∧(v<n∨v=0))∧(Zbh s')∧(s'.code=s.code)∧(s.atx+0≤s'.atx∧s'.atx≤s.atx+2)∧Zaw Tryz.prog 28 [.ref 7001 0,I n] (Zae [(7001,Zaa s)]) true (I v) (Zae [(7001,Zaa s')]):=by
  have hs0:=hs.2.1
  have hs1:=hs.2.2
  have hh:∃r:Int×l00Src,((0≤r.1∧(r.1<n∨r.1=0))∧(Zbh r.2)∧(r.2.code=s.code)∧(s.atx+0≤r.2.atx∧r.2.atx≤s.atx+2)∧(True))∧Zaw Tryz.prog 28 [.ref 7001 0,I n] (Zae [(7001,Zaa s)]) true (I r.1) (Zae [(7001,Zaa r.2)]):=by
    refine Zcv (Φ:=fun r:Int×l00Src=>(0≤r.1∧(r.1<n∨r.1=0))∧(Zbh r.2)∧(r.2.code=s.code)∧(s.atx+0≤r.2.atx∧r.2.atx≤s.atx+2)∧(True)) [(7001,Zaa s)] (fun r=>[(7001,Zaa r.2)]) (fn:=Tryz.f28) (nt:=20) Tryz.func28 rfl rfl (args:=[.ref 7001 0,I n]) rfl (Zbc (.inr trivial) (Zbc (.inl ⟨rfl,trivial⟩) Zcw)) (res:=fun r=>I r.1) ?_
    refine xQ [] [0,1] [7001] [] trivial (Zak (Zak ?_))
    by_cases h1:n≤1
    ·refine x_q [(1,.dec true)] [0,1,7] [7001] [_] ⟨h1,trivial⟩ (Zab (Zeh ?_))
     refine xR [] [4] [7001] [I 0] [some (Zaa s)] [] trivial (Zdd (Zda ?_))
     refine Zbw (0,s) (show (0≤0∧(0<n∨0=0))∧(Zbh s)∧(s.code=s.code)∧(s.atx+0≤s.atx∧s.atx≤s.atx+2)∧(True) from ⟨(by first|omega|rfl|assumption|(dsimp only;first|omega|rfl|assumption)|(simp only [*];done)|exact ⟨Int.emod_nonneg _ om,.inl (Int.emod_lt_of_pos _ om)⟩),(by first|omega|rfl|assumption|(dsimp only;first|omega|rfl|assumption)|(simp only [*];done)|exact ⟨Int.emod_nonneg _ om,.inl (Int.emod_lt_of_pos _ om)⟩),(by first|omega|rfl|assumption|(dsimp only;first|omega|rfl|assumption)|(simp only [*];done)|exact ⟨Int.emod_nonneg _ om,.inl (Int.emod_lt_of_pos _ om)⟩),(by first|omega|rfl|assumption|(dsimp only;first|omega|rfl|assumption)|(simp only [*];done)|exact ⟨Int.emod_nonneg _ om,.inl (Int.emod_lt_of_pos _ om)⟩),trivial⟩) (⟨.inl rfl,trivial⟩) (I 0) (by kernel_rfl) (.inl rfl) (fun _=>rfl) (fun _=>trivial)
    refine x_q [(1,.dec false)] [0,1,7] [7001] [_] ⟨h1,trivial⟩ (Zab (Zga (Zbd (Zab (Zak ?_)))))
    obtain ⟨v_1,s'_1,hx1_0,hx1_1,hx1_2,hx1_3,hc1⟩:=Yit s (by first|assumption|(simp only [Zbh] at*;simp_all;done)) om
    refine x_q [(1,.lend [(7001,Zaa s,Zaa s'_1)] [] [(true,.any)] true (I v_1))] [0,1,5] [7001] [Zaw Tryz.prog 68 [.ref 7001 0] (Zae [(7001,Zaa s)]) true (I v_1) (Zae [(7001,Zaa s'_1)])∧(((Zaa s:Ob)=Zaa s∨Zer Zeg true (Zaa s) (Zaa s))∧Zal false (Zaa s))∧True] ⟨⟨hc1,⟨.inl rfl,(by simp [Zal,Zaf,Zai,Zcx])⟩,trivial⟩,trivial⟩ (Zab (Zak (Zak ?_)))
    by_cases h2:200<n
    ·refine x_q [(1,.dec true)] [0,1,5,11] [7001] [_] ⟨h2,trivial⟩ (Zab (Zeh ?_))
     obtain ⟨v_2,s'_2,hx2_0,hx2_1,hx2_2,hx2_3,hc2⟩:=Yit s'_1 (by first|assumption|(simp only [Zbh] at*;simp_all;done)) om
     refine x_q [(3,.lend [(7001,Zaa s'_1,Zaa s'_2)] [] [(true,.any)] true (I v_2))] [1,5] [7001] [inR .i64 (v_1*256),Zaw Tryz.prog 68 [.ref 7001 0] (Zae [(7001,Zaa s'_1)]) true (I v_2) (Zae [(7001,Zaa s'_2)])∧(((Zaa s'_1:Ob)=Zaa s'_1∨Zer Zeg true (Zaa s'_1) (Zaa s'_1))∧Zal false (Zaa s'_1))∧True,inR .i64 ((v_1*256)+v_2)] ⟨(Zad om om),⟨hc2,⟨.inl rfl,(by simp [Zal,Zaf,Zai,Zcx])⟩,trivial⟩,(Zad om om),trivial⟩ (Zab ?_)
     refine xR [(2,.nn)] [4] [7001] [I (((v_1*256)+v_2) % n)] [some (Zaa s'_2)] [(0:Int)≤((v_1*256)+v_2)∧(0:Int)<n] ⟨⟨om,om⟩,trivial⟩ (Zdd ?_)
     refine Zbw ((((v_1*256)+v_2) % n),s'_2) (show (0≤(((v_1*256)+v_2) % n)∧((((v_1*256)+v_2) % n)<n∨(((v_1*256)+v_2) % n)=0))∧(Zbh s'_2)∧(s'_2.code=s.code)∧(s.atx+0≤s'_2.atx∧s'_2.atx≤s.atx+2)∧(True) from ⟨(by first|omega|rfl|assumption|(dsimp only;first|omega|rfl|assumption)|(simp only [*];done)|exact ⟨Int.emod_nonneg _ om,.inl (Int.emod_lt_of_pos _ om)⟩),(by first|omega|rfl|assumption|(dsimp only;first|omega|rfl|assumption)|(simp only [*];done)|exact ⟨Int.emod_nonneg _ om,.inl (Int.emod_lt_of_pos _ om)⟩),(by first|omega|rfl|assumption|(dsimp only;first|omega|rfl|assumption)|(simp only [*];done)|exact ⟨Int.emod_nonneg _ om,.inl (Int.emod_lt_of_pos _ om)⟩),(by first|omega|rfl|assumption|(dsimp only;first|omega|rfl|assumption)|(simp only [*];done)|exact ⟨Int.emod_nonneg _ om,.inl (Int.emod_lt_of_pos _ om)⟩),trivial⟩) (⟨.inl rfl,trivial⟩) (I (((v_1*256)+v_2) % n)) (by kernel_rfl) (.inl rfl) (fun _=>rfl) (fun _=>trivial)
    refine x_q [(1,.dec false)] [0,1,5,11] [7001] [_] ⟨h2,trivial⟩ (Zab (Zga (Zbd (Zab ?_))))
    refine xR [(2,.nn)] [4] [7001] [I (v_1 % n)] [some (Zaa s'_1)] [(0:Int)≤v_1∧(0:Int)<n] ⟨⟨om,om⟩,trivial⟩ (Zdd ?_)
    refine Zbw ((v_1 % n),s'_1) (show (0≤(v_1 % n)∧((v_1 % n)<n∨(v_1 % n)=0))∧(Zbh s'_1)∧(s'_1.code=s.code)∧(s.atx+0≤s'_1.atx∧s'_1.atx≤s.atx+2)∧(True) from ⟨(by first|omega|rfl|assumption|(dsimp only;first|omega|rfl|assumption)|(simp only [*];done)|exact ⟨Int.emod_nonneg _ om,.inl (Int.emod_lt_of_pos _ om)⟩),(by first|omega|rfl|assumption|(dsimp only;first|omega|rfl|assumption)|(simp only [*];done)|exact ⟨Int.emod_nonneg _ om,.inl (Int.emod_lt_of_pos _ om)⟩),(by first|omega|rfl|assumption|(dsimp only;first|omega|rfl|assumption)|(simp only [*];done)|exact ⟨Int.emod_nonneg _ om,.inl (Int.emod_lt_of_pos _ om)⟩),(by first|omega|rfl|assumption|(dsimp only;first|omega|rfl|assumption)|(simp only [*];done)|exact ⟨Int.emod_nonneg _ om,.inl (Int.emod_lt_of_pos _ om)⟩),trivial⟩) (⟨.inl rfl,trivial⟩) (I (v_1 % n)) (by kernel_rfl) (.inl rfl) (fun _=>rfl) (fun _=>trivial)
  obtain ⟨⟨v,s'⟩,⟨hh0,hh1,hh2,hh3,_⟩,hc⟩:=hh
  exact ⟨v,s',hh0,hh1,hh2,hh3,hc⟩
theorem Zgf (a:Int) (b:Int):Con Tryz.prog 47 [I a,I b] true (I (min a b)):=by
  refine Zcm (fn:=Tryz.f47) (nt:=10) Tryz.func47 rfl rfl rfl rfl (by simp [Zaf,Zai]) fun B hB=> ?_
  refine aQ [] [0,1] [] [] hB trivial (Zah (Zah ?_))
  by_cases h1:a<b
  ·refine Zbn [(2,.dec true)] [0,1,7] [] [_] hB ⟨h1,trivial⟩ (Zac (Zbr ?_))
   refine aR [] [4] [] [I a] [] [] hB trivial (Zan (Zaj ?_))
   refine Zao hB (I a) (by kernel_rfl) (.inl (by refine congrArg I ?_;omega)) rfl (fun _=>trivial)
  refine Zbn [(2,.dec false)] [0,1,7] [] [_] hB ⟨h1,trivial⟩ (Zac (Zbo (Zar (Zac ?_))))
  refine aR [] [4] [] [I b] [] [] hB trivial (Zan ?_)
  refine Zao hB (I b) (by kernel_rfl) (.inl (by refine congrArg I ?_;omega)) rfl (fun _=>trivial)
theorem Yiu (s:l00Src) (list:List ByteArray) (hs:Zbh s) (ha:s.atx≤3999999999999999980) (hl:(0<list.length∧list.length≤1000)∧∀z∈list,z.size≤16):∃(v:ByteArray) (s':l00Src),(v.size≤16)∧(Zbh s')∧(s'.code=s.code)∧(s.atx+0≤s'.atx∧s'.atx≤s.atx+2)∧(v∈list)∧Zaw Tryz.prog 48 [.ref 7001 0,slS false list] (Zae [(7001,Zaa s)]) true (Sv v) (Zae [(7001,Zaa s')]):=by
 have hh:∃r:ByteArray×l00Src,((r.1.size≤16)∧(Zbh r.2)∧(r.2.code=s.code)∧(s.atx+0≤r.2.atx∧r.2.atx≤s.atx+2)∧(r.1∈list)∧(True))∧Zaw Tryz.prog 48 [.ref 7001 0,slS false list] (Zae [(7001,Zaa s)]) true (Sv r.1) (Zae [(7001,Zaa r.2)]):=by
  refine Zcv (Φ:=fun r:ByteArray×l00Src=>(r.1.size≤16)∧(Zbh r.2)∧(r.2.code=s.code)∧(s.atx+0≤r.2.atx∧r.2.atx≤s.atx+2)∧(r.1∈list)∧(True)) [(7001,Zaa s)] (fun r=>[(7001,Zaa r.2)]) (fn:=Tryz.f48) (nt:=12) Tryz.func48 rfl rfl (args:=[.ref 7001 0,slS false list]) rfl (Zbc (.inr trivial) (Zbc (.inl ⟨rfl,tagS false _⟩) Zcw)) (res:=fun r=>Sv r.1) ?_
  refine xQ [] [0,1] [7001] [] trivial (Zak ?_)
  obtain ⟨v_1,s'_1,hx1_0,hx1_1,hx1_2,hx1_3,hc1⟩:=Zcl s (list.length:Int) (by first|assumption|(simp only [Zbh] at*;simp_all;done)) om
  refine x_r [(4,.lend [(7001,Zaa s,Zaa s'_1)] [] [(true,.any),(true,.any)] true (I v_1))] [4] [7001] [Sv (at_ list v_1.toNat)] [some (Zaa s'_1)] [Zaw Tryz.prog 28 [.ref 7001 0,I (list.length:Int)] (Zae [(7001,Zaa s)]) true (I v_1) (Zae [(7001,Zaa s'_1)])∧(((Zaa s:Ob)=Zaa s∨Zer Zeg true (Zaa s) (Zaa s))∧Zal false (Zaa s))∧True,(0:Int)≤v_1∧v_1<(list.length:Int)] ⟨⟨hc1,⟨.inl rfl,(by simp [Zal,Zaf,Zai,Zcx])⟩,trivial⟩,⟨om,om⟩,trivial⟩ (Zab (Zdd ?_))
  refine Zbw ((at_ list v_1.toNat),s'_1) (show ((at_ list v_1.toNat).size≤16)∧(Zbh s'_1)∧(s'_1.code=s.code)∧(s.atx+0≤s'_1.atx∧s'_1.atx≤s.atx+2)∧((at_ list v_1.toNat)∈list)∧(True) from ⟨(by first|omega|rfl|assumption|(dsimp only;first|omega|rfl|assumption)|(simp only [*];done)|(exact Zca om)|(exact hl.2 _ (Zca om))|(simp_all;done)),(by first|omega|rfl|assumption|(dsimp only;first|omega|rfl|assumption)|(simp only [*];done)|(exact Zca om)|(exact hl.2 _ (Zca om))|(simp_all;done)),(by first|omega|rfl|assumption|(dsimp only;first|omega|rfl|assumption)|(simp only [*];done)|(exact Zca om)|(exact hl.2 _ (Zca om))|(simp_all;done)),(by first|omega|rfl|assumption|(dsimp only;first|omega|rfl|assumption)|(simp only [*];done)|(exact Zca om)|(exact hl.2 _ (Zca om))|(simp_all;done)),(by first|omega|rfl|assumption|(dsimp only;first|omega|rfl|assumption)|(simp only [*];done)|(exact Zca om)|(exact hl.2 _ (Zca om))|(simp_all;done)),trivial⟩) (⟨.inl rfl,trivial⟩) (Sv (at_ list v_1.toNat)) (by kernel_rfl) (.inl rfl) (fun _=>rfl) (fun _=>trivial)
 obtain ⟨⟨v,s'⟩,⟨hh0,hh1,hh2,hh3,hh4,_⟩,hc⟩:=hh
 exact ⟨v,s',hh0,hh1,hh2,hh3,hh4,hc⟩
def inB (a l h:Int):Bool:=decide (l≤a∧a≤h)
theorem Ziw {a l h:Int} :inB a l h=true↔l≤a∧a≤h:=by simp [inB]
theorem Ycn (s:ByteArray) (i:Nat):0≤bAt s i∧bAt s i≤255:=by
 unfold bAt
 have:=(s.data.toList.getD i 0).toNat_lt
 omega
theorem Zey (n:Int) (low:Int) (high:Int):Con Tryz.prog 62 [I n,I low,I high] true (Bv (inB n low high)):=by
  refine Zcm (fn:=Tryz.f62) (nt:=15) Tryz.func62 rfl rfl rfl rfl (by simp [Zaf,Zai]) fun B hB=> ?_
  refine aQ [] [0,1,2] [] [] hB trivial (Zah ?_)
  by_cases h1:low≤n
  ·refine Zeo [(2,.dec true)] [6] [] [Bv (decide (n≤high))] [] [_] hB ⟨h1,trivial⟩ (Zac (Zan ?_))
   refine Zao hB (Bv (decide (n≤high))) (by kernel_rfl) (.inl (by first|rfl|(refine congrArg Bv ?_;simp [inB, *];done)|(refine congrArg Bv ?_;simp [inB, *];omega)|(refine congrArg Bv ?_;simp_all [inB];done)|(refine congrArg Bv ?_;simp_all [inB];omega))) rfl (fun _=>trivial)
  refine Zeo [(2,.dec false)] [6] [] [Bv false] [] [_] hB ⟨h1,trivial⟩ (Zac (Zan ?_))
  refine Zao hB (Bv false) (by kernel_rfl) (.inl (by first|rfl|(refine congrArg Bv ?_;simp [inB, *];done)|(refine congrArg Bv ?_;simp [inB, *];omega)|(refine congrArg Bv ?_;simp_all [inB];done)|(refine congrArg Bv ?_;simp_all [inB];omega))) rfl (fun _=>trivial)
def Zih (a b:ByteArray):Int:=if Zfz a b=true then-1 else if Zfz a b=false∧a≠b then 1 else 0
def orL:List Int→Int
 | []=>0
 |x::r=>if x=0 then orL r else x
theorem Zyo [Inhabited Int] {xs:List Int} :∀ {k:Nat},k<xs.length→(∀j,j<k→at_ xs j=0)→at_ xs k≠0→orL xs=at_ xs k:=by
 induction xs with
 |nil=>intro k h;simp at h
 |cons x r ih=>
  intro k h h0 hk
  cases k with
  |zero=>have e:at_ (x::r) 0=x:=rfl;rw [e] at hk⊢;exact if_neg hk
  |succ k=>
   have e:at_ (x::r) (k+1)=at_ r k:=by simp [at_]
   have e0:x=0:=h0 0 om
   rw [e] at hk⊢
   unfold orL;rw [if_pos e0]
   refine ih (by simpa using h) (fun j hj=> ?_) hk
   have:=h0 (j+1) om
   simpa [at_] using this
theorem Zwa [Inhabited Int] {xs:List Int} :(∀j,j<xs.length→at_ xs j=0)→orL xs=0:=by
 induction xs with
 |nil=>intro _;rfl
 |cons x r ih=>
  intro h
  have e0:x=0:=h 0 (by simp)
  unfold orL;rw [if_pos e0]
  refine ih fun j hj=> ?_
  have:=h (j+1) (by simp;omega)
  simpa [at_] using this
theorem Zdb {α:Type} [Inhabited α] {xs:List α} {i:Nat} {x:α} (h:i<xs.length):at_ (xs.set i x) i=x:=by simp [at_,h]
theorem Zdz {α:Type} [Inhabited α] {xs:List α} {i j:Nat} {x:α} (h:i≠j):at_ (xs.set j x) i=at_ xs i:=by
 have h':¬ j=i:=fun e=>h e.symm
 simp [at_,List.getElem?_set,h']
def Zez (a b:Int):Int:=if a<b then-1 else if b<a then 1 else 0
theorem Zpo {a b:Int} :Zez a b<0↔a<b:=by unfold Zez;split<;>(try split)<;>omega
theorem Zie {a b:Int} :Zez a b=0↔a=b:=by unfold Zez;split<;>(try split)<;>omega
structure CmpW {α:Type} (c:α→α→Int):Prop where
 anti:∀x y,c x y<0↔0<c y x
 trans:∀x y z,c x y≤0→c y z<0→c x z<0
theorem CmpW.refl {α:Type} {c:α→α→Int} (h:CmpW c) (x:α):c x x=0:=by have:=h.anti x x;omega
theorem CmpW.zero {α:Type} {c:α→α→Int} (h:CmpW c) {x y:α} (e:c x y=0):c y x=0:=by have h1:=h.anti x y;have h2:=h.anti y x;omega
theorem CmpW.le {α:Type} {c:α→α→Int} (h:CmpW c) {x y z:α} (h1:c x y≤0) (h2:c y z≤0):c x z≤0:=by
 rcases Int.lt_or_le 0 (c x z) with g|g
 ·have q:=(h.anti z x).2 g
  have q2:c y x<0:=h.trans y z x h2 q
  have:=(h.anti y x).1 q2;omega
 ·exact g
theorem bl_irr:∀x:List UInt8,Op.bytesLess x x=false
 | []=>rfl
 |a::x=>by
  have h:¬ a<a:=fun q=>by have:=UInt8.lt_iff_toNat_lt.1 q;omega
  simp [Op.bytesLess,bl_irr x,h]
theorem Yiv:∀x y:List UInt8,Op.bytesLess x y=true→Op.bytesLess y x=false
 | [],[],h=>by simp [Op.bytesLess] at h
 | [],_::_,_=>by simp [Op.bytesLess]
 |_::_,[],h=>by simp [Op.bytesLess] at h
 |a::x,b::y,h=>by
  simp only [Op.bytesLess,Bool.or_eq_true,Bool.and_eq_true,decide_eq_true_eq,beq_iff_eq] at h
  rcases h with h|⟨h,h2⟩
  ·have q:=UInt8.lt_iff_toNat_lt.1 h
   have n1:¬ b<a:=fun z=>by have:=UInt8.lt_iff_toNat_lt.1 z;omega
   have n2:¬ b=a:=fun z=>by subst z;omega
   simp [Op.bytesLess,n1,n2]
  ·subst h
   have n1:¬ a<a:=fun z=>by have:=UInt8.lt_iff_toNat_lt.1 z;omega
   simp [Op.bytesLess,n1,Yiv x y h2]
theorem Yda:∀x y z:List UInt8,Op.bytesLess x y=true→Op.bytesLess y z=true→Op.bytesLess x z=true
 |_,_,[],_,h=>by simp [Op.bytesLess] at h
 |_,[],_::_,h,_=>by simp [Op.bytesLess] at h
 | [],_::_,_::_,_,_=>by simp [Op.bytesLess]
 |a::x,b::y,c::z,h1,h2=>by
  simp only [Op.bytesLess,Bool.or_eq_true,Bool.and_eq_true,decide_eq_true_eq,beq_iff_eq] at h1 h2⊢
  rcases h1 with h1|⟨h1,g1⟩<;>rcases h2 with h2|⟨h2,g2⟩
  ·left;have:=UInt8.lt_iff_toNat_lt.1 h1;have:=UInt8.lt_iff_toNat_lt.1 h2;exact UInt8.lt_iff_toNat_lt.2 om
  ·left;rw [←h2];exact h1
  ·left;rw [h1];exact h2
  ·right;exact ⟨h1.trans h2,Yda x y z g1 g2⟩
theorem bl_tri:∀x y:List UInt8,Op.bytesLess x y=false→x≠y→Op.bytesLess y x=true
 | [],[],_,h=>absurd rfl h
 | [],_::_,h,_=>by simp [Op.bytesLess] at h
 |_::_,[],_,_=>by simp [Op.bytesLess]
 |a::x,b::y,h,hn=>by
  simp only [Op.bytesLess,Bool.or_eq_false_iff,decide_eq_false_iff_not] at h
  simp only [Op.bytesLess,Bool.or_eq_true,Bool.and_eq_true,decide_eq_true_eq,beq_iff_eq]
  by_cases e:a=b
  ·subst e
   right
   refine ⟨rfl,bl_tri x y ?_ fun q=>hn (by rw [q])⟩
   have:=h.2
   simpa using this
  ·left
   have q:¬ a.toNat<b.toNat:=fun z=>h.1 (UInt8.lt_iff_toNat_lt.2 z)
   have q2:a.toNat≠b.toNat:=fun z=>e (UInt8.toNat_inj.1 z)
   exact UInt8.lt_iff_toNat_lt.2 om
theorem sl_tri {a b:ByteArray} (h:Zfz a b=false) (hn:a≠b):Zfz b a=true:=by
 unfold Zfz at*
 refine bl_tri _ _ h fun q=>hn ?_
 rw [Lib.toList_data,Lib.toList_data] at q
 cases a;cases b
 simp only [ByteArray.mk.injEq]
 exact Array.toList_inj.1 q
theorem Zwb {a b:ByteArray} (h:Zfz a b=true):Zfz b a=false:=Yiv _ _ h
theorem sl_irr (a:ByteArray):Zfz a a=false:=bl_irr _
theorem sl_trans {a b c:ByteArray} (h1:Zfz a b=true) (h2:Zfz b c=true):Zfz a c=true:=Yda _ _ _ h1 h2
theorem Yie {a b:ByteArray} (h:Zfz a b=true):a≠b:=fun e=>by subst e;rw [sl_irr] at h;cases h
theorem Zjx {a b:ByteArray} :Zih a b<0↔Zfz a b=true:=by
 unfold Zih
 by_cases h:Zfz a b=true
 ·rw [if_pos h];simp [h]
 ·rw [if_neg h];split<;>simp [h]
theorem Zfq {a b:ByteArray} :Zih a b=0↔a=b:=by
 unfold Zih
 by_cases h:Zfz a b=true
 ·rw [if_pos h];have:=Yie h;simp [this]
 ·rw [if_neg h]
  have h':Zfz a b=false:=by simpa using h
  by_cases e:a=b
  ·subst e;simp
  ·rw [if_pos ⟨h',e⟩];simp [e]
theorem Zpp {a b:ByteArray} :0<Zih a b↔Zfz b a=true:=by
 constructor
 ·intro h
  have n1:¬ Zih a b<0:=by omega
  have n2:¬ Zih a b=0:=by omega
  rw [Zjx] at n1;rw [Zfq] at n2
  exact sl_tri (by simpa using n1) n2
 ·intro h
  have n1:¬ Zih a b<0:=fun q=>by rw [Zjx] at q;have:=Zwb q;rw [h] at this;cases this
  have n2:¬ Zih a b=0:=fun q=>by rw [Zfq] at q;exact Yie h q.symm
  omega
theorem cmpS_w:CmpW Zih:=⟨fun x y=>by rw [Zjx,Zpp],fun x y z h1 h2=>by
 rw [Zjx] at*
 by_cases e:Zih x y=0
 ·rw [Zfq] at e;subst e;exact h2
 ·exact sl_trans (Zjx.1 om) h2⟩
theorem Ycw:CmpW Zez:=⟨fun x y=>by unfold Zez;split<;>(try split)<;>(try split)<;>omega,fun x y z h1 h2=>by
 rw [Zpo] at*
 have:=@Zpo y x
 have:=@Zie x y
 have:=@Zpo x y
 omega⟩
theorem CmpW.lex {α β:Type} {f:β→α} {c:α→α→Int} {d:β→β→Int} (hc:CmpW c) (hd:CmpW d):CmpW fun x y:β=>if c (f x) (f y)=0 then d x y else c (f x) (f y):=⟨fun x y=>by
  have a1:=hc.anti (f x) (f y)
  have a2:=hc.anti (f y) (f x)
  have b1:=hd.anti x y
  show (if c (f x) (f y)=0 then d x y else c (f x) (f y))<0↔0<(if c (f y) (f x)=0 then d y x else c (f y) (f x))
  by_cases e:c (f x) (f y)=0
  ·rw [if_pos e,if_pos (hc.zero e)];exact b1
  ·rw [if_neg e,if_neg (fun q=>e (hc.zero q))];exact a1,fun x y z h1 h2=>by
  replace h1:(if c (f x) (f y)=0 then d x y else c (f x) (f y))≤0:=h1
  replace h2:(if c (f y) (f z)=0 then d y z else c (f y) (f z))<0:=h2
  show (if c (f x) (f z)=0 then d x z else c (f x) (f z))<0
  by_cases e1:c (f x) (f y)=0
  ·rw [if_pos e1] at h1
   by_cases e2:c (f y) (f z)=0
   ·rw [if_pos e2] at h2
    have l1:=hc.le (x:=f x) (y:=f y) (z:=f z) om om
    have l2:=hc.le (x:=f z) (y:=f y) (z:=f x) (by have:=hc.zero e2;omega) (by have:=hc.zero e1;omega)
    have a:=hc.anti (f x) (f z)
    have a2:=hc.anti (f z) (f x)
    rw [if_pos om]
    exact hd.trans x y z h1 h2
   ·rw [if_neg e2] at h2
    have:=hc.trans (f x) (f y) (f z) om h2
    rw [if_neg om];exact this
  ·rw [if_neg e1] at h1
   have h1':c (f x) (f y)<0:=by omega
   have hz:c (f y) (f z)≤0:=by
    by_cases e2:c (f y) (f z)=0
    ·omega
    ·rw [if_neg e2] at h2;omega
   have l:=hc.le (x:=f x) (y:=f y) (z:=f z) om hz
   have n:c (f x) (f z)≠0:=fun q=>by
    have q2:=hc.zero q
    have:=hc.trans (f z) (f x) (f y) om h1'
    have a:=hc.anti (f z) (f y)
    omega
   rw [if_neg n];omega⟩
theorem CmpW.map {α β:Type} {c:α→α→Int} (hc:CmpW c) (f:β→α):CmpW fun x y:β=>c (f x) (f y):=⟨fun x y=>hc.anti _ _,fun x y z=>hc.trans _ _ _⟩
theorem Zrr {α:Type} [Inhabited α] {R:α→α→Prop} {xs:List α} (h:xs.Pairwise R) {i j:Nat} (hij:i<j) (hj:j<xs.length):R (at_ xs i) (at_ xs j):=by
 rw [Zea om,Zea hj]
 exact (List.pairwise_iff_getElem.1 h) i j om hj hij
theorem Zki {α:Type} [Inhabited α] {c:α→α→Int} (hw:CmpW c) {xs:List α} (hp:xs.Pairwise fun x y=>c x y<0) {e:α} {k:Nat} (hk:k≤xs.length) (hlo:k=0∨¬ 0<c (at_ xs (k-1)) e) (hhi:∀j:Nat,k≤j→j<xs.length→0<c (at_ xs j) e) (hne:∀x∈xs,c x e≠0):
  (xs.take k++[e]++xs.drop k).Pairwise fun x y=>c x y<0:=by
 have hle:∀x∈xs.take k,c x e<0:=fun x hx=>by
  obtain ⟨i,hi,q⟩:=List.getElem_of_mem hx
  rw [List.length_take] at hi
  rw [List.getElem_take] at q
  rcases hlo with e0|e0
  ·omega
  ·have hm:=hne _ (Zca (show k-1<xs.length by omega))
   have h1:c (at_ xs (k-1)) e<0:=by omega
   rw [←q,←Zea om]
   by_cases ei:i=k-1
   ·rw [ei];exact h1
   ·exact hw.trans _ _ _ (by have:=Zrr hp (show i<k-1 by omega) om;omega) h1
 have hgt:∀y∈xs.drop k,c e y<0:=fun y hy=>by
  obtain ⟨i,hi,q⟩:=List.getElem_of_mem hy
  rw [List.length_drop] at hi
  rw [List.getElem_drop] at q
  rw [←q,←Zea om]
  exact (hw.anti _ _).2 (hhi _ om om)
 rw [List.append_assoc,List.pairwise_append]
 refine ⟨hp.sublist (List.take_sublist _ _),?_,fun a ha b hb=> ?_⟩
 ·rw [List.singleton_append]
  exact List.pairwise_cons.2 ⟨hgt,hp.sublist (List.drop_sublist _ _)⟩
 ·rw [List.singleton_append] at hb
  rcases List.mem_cons.1 hb with q|q
  ·subst q;exact hle a ha
  ·have h1:=hle a ha
   exact hw.trans a e b om (hgt b q)
theorem Zhi {α:Type} {xs:List α} {e x:α} {k:Nat} :x∈xs.take k++[e]++xs.drop k↔x=e∨x∈xs:=by
 constructor
 ·intro h
  rw [List.append_assoc,List.mem_append,List.singleton_append,List.mem_cons] at h
  rcases h with h|h|h
  ·exact .inr (List.mem_of_mem_take h)
  ·exact .inl h
  ·exact .inr (List.mem_of_mem_drop h)
 ·intro h
  rw [List.append_assoc,List.mem_append,List.singleton_append,List.mem_cons]
  rcases h with h|h
  ·exact .inr (.inl h)
  ·rw [←List.take_append_drop k xs,List.mem_append] at h
   rcases h with h|h
   ·exact .inl h
   ·exact .inr (.inr h)
theorem Zhj {α:Type} {xs:List α} {e:α} {k:Nat} (hk:k≤xs.length):(xs.take k++[e]++xs.drop k).length=xs.length+1:=by simp;omega
def Zgh (n:Int):Bool:=decide ((97≤n∧n≤122)∨(48≤n∧n≤57)∨n=43∨n=45∨n=42∨n=47∨n=61∨n=40∨n=41∨n=46∨n=44)
def Zeq (s:ByteArray):Bool:=decide (s.size=1)&&Zgh (bAt s 0)
def Zjv (a b:Edge):Int:=orL [Zez a.From b.From,Zez a.To b.To,Zih a.Label b.Label]
theorem Zod (a b:Edge):Zjv a b=if Zez a.From b.From=0 then (if Zez a.To b.To=0 then Zih a.Label b.Label else Zez a.To b.To) else Zez a.From b.From:=by
 unfold Zjv orL orL orL orL
 by_cases h1:Zez a.From b.From=0
 ·rw [if_pos h1,if_pos h1]
  by_cases h2:Zez a.To b.To=0
  ·rw [if_pos h2,if_pos h2];split
   ·rename_i h3;exact h3.symm
   ·rfl
  ·rw [if_neg h2,if_neg h2]
 ·rw [if_neg h1,if_neg h1]
theorem cmpE_w:CmpW Zjv:=by
 have h:Zjv=fun x y=>if Zez x.From y.From=0 then (fun x y:Edge=>if Zez x.To y.To=0 then (fun x y:Edge=>Zih x.Label y.Label) x y else Zez x.To y.To) x y else Zez x.From y.From:=funext fun a=>funext fun b=>Zod a b
 rw [h]
 exact CmpW.lex (f:=Edge.From) Ycw (CmpW.lex (f:=Edge.To) Ycw (cmpS_w.map Edge.Label))
def okEd (l:Lattice) (e:Edge):Prop:=(0≤e.From∧e.From<e.To∧e.To<l.Nodes)∧(0≤e.Cost∧e.Cost≤1000000)∧Zeq e.Label=true
def Zdg (l:Lattice):Prop:=(1≤l.Nodes∧l.Nodes≤20)∧l.Edges.length≤200∧(∀i:Nat,i<l.Edges.length→okEd l (at_ l.Edges i))∧l.Edges.Pairwise fun x y=>Zjv x y<0
theorem Zgt {s:ByteArray} (h:Zeq s=true):s.size=1:=by simp only [Zeq,Bool.and_eq_true,decide_eq_true_eq] at h;exact h.1
theorem Zoe (l:Lattice) (e:Edge) (he:okEd l e) (hn:l.Nodes≤20):Con Tryz.prog 63 [.ptr false [I l.Nodes,Zbk false l.Edges],.ptr false [I e.From,I e.To,Sv e.Label,I e.Cost]] true (Bv true):=by
 have h1:=he.1
 have h2:=he.2.1
 refine Zcm (fn:=Tryz.f63) (nt:=40) Tryz.func63 rfl rfl rfl rfl (by simp [Zaf,Zai,Zff]) fun B hB=> ?_
 refine Zck (x:= .ptr false [I l.Nodes,Zbk false l.Edges]) 0 rfl (fun len_l=> ?_)
 simp [Zei,Zhv,Zln,Zdq,Zbk] at len_l
 refine aQ [] [0,1] [] [] hB trivial ?_
 refine aR [(4,.dec true),(14,.dec true),(26,.dec true),(33,.call [(true,.any),(true,.any),(true,.any)] true (Bv (inB e.Cost 0 1000000)))] [4] [] [Bv (inB e.Cost 0 1000000)] [] [0≤e.From,e.From<e.To,inR .i64 (l.Nodes-1),e.To≤(l.Nodes-1),_∧True] hB ⟨om,om,(Zad om om),om,⟨(Zey e.Cost 0 1000000),trivial⟩,trivial⟩ (Zan ?_)
 refine Zao hB (Bv (inB e.Cost 0 1000000)) (by kernel_rfl) (.inl (by first|rfl|(simp [inB];omega))) rfl (fun _=>trivial)
theorem Zjz (c:Int):Con Tryz.prog 106 [.val (.int .u8 c)] true (Bv (inB c 97 122)):=by
  refine Zcm (fn:=Tryz.f106) (nt:=9) Tryz.func106 rfl rfl rfl rfl (by simp [Zaf,Zai]) fun B hB=> ?_
  refine aQ [] [0] [] [] hB trivial (Zah ?_)
  by_cases h1:97≤c
  ·refine Zeo [(1,.dec true)] [2] [] [Bv (decide (c≤122))] [] [_] hB ⟨h1,trivial⟩ (Zac (Zan ?_))
   refine Zao hB (Bv (decide (c≤122))) (by kernel_rfl) (.inl (by first|rfl|(refine congrArg Bv ?_;simp [inB, *];done)|(refine congrArg Bv ?_;simp [inB, *];omega)|(refine congrArg Bv ?_;simp_all [inB];done)|(refine congrArg Bv ?_;simp_all [inB];omega))) rfl (fun _=>trivial)
  refine Zeo [(1,.dec false)] [2] [] [Bv false] [] [_] hB ⟨h1,trivial⟩ (Zac (Zan ?_))
  refine Zao hB (Bv false) (by kernel_rfl) (.inl (by first|rfl|(refine congrArg Bv ?_;simp [inB, *];done)|(refine congrArg Bv ?_;simp [inB, *];omega)|(refine congrArg Bv ?_;simp_all [inB];done)|(refine congrArg Bv ?_;simp_all [inB];omega))) rfl (fun _=>trivial)
theorem Ybc (c:Int):Con Tryz.prog 104 [.val (.int .u8 c)] true (Bv (Zgh c)):=by
  refine Zcm (fn:=Tryz.f104) (nt:=24) Tryz.func104 rfl rfl rfl rfl (by simp [Zaf,Zai]) fun B hB=> ?_
  refine aQ [] [0] [] [] hB trivial (Zah ?_)
  refine aQ [] [0,3] [] [] hB trivial (Zbg (Zah (Zah ?_)))
  by_cases h1:c=43
  ·refine Zbn [(0,.dec true)] [0,3,4] [] [_] hB ⟨h1,trivial⟩ (Zac (Zbr (Zar (Zac (Zbr ?_)))))
   refine aR [] [2] [] [Bv true] [] [] hB trivial (Zan ?_)
   refine Zaz (Zaj ?_)
   refine Zao hB (Bv true) (by kernel_rfl) (.inl (by first|rfl|(refine congrArg Bv ?_;simp [Zgh,inB, *];done)|(refine congrArg Bv ?_;simp [Zgh,inB, *];omega)|(refine congrArg Bv ?_;simp_all [Zgh,inB];done)|(refine congrArg Bv ?_;simp_all [Zgh,inB];omega))) rfl (fun _=>trivial)
  refine Zbn [(0,.dec false)] [0,3,4] [] [_] hB ⟨h1,trivial⟩ (Zac (Zbo (Zah ?_)))
  by_cases h2:c=45
  ·refine Zbn [(0,.dec true)] [0,3,4] [] [_] hB ⟨h2,trivial⟩ (Zac (Zbr (Zar (Zac (Zbr ?_)))))
   refine aR [] [2] [] [Bv true] [] [] hB trivial (Zan ?_)
   refine Zaz (Zaj ?_)
   refine Zao hB (Bv true) (by kernel_rfl) (.inl (by first|rfl|(refine congrArg Bv ?_;simp [Zgh,inB, *];done)|(refine congrArg Bv ?_;simp [Zgh,inB, *];omega)|(refine congrArg Bv ?_;simp_all [Zgh,inB];done)|(refine congrArg Bv ?_;simp_all [Zgh,inB];omega))) rfl (fun _=>trivial)
  refine Zbn [(0,.dec false)] [0,3,4] [] [_] hB ⟨h2,trivial⟩ (Zac (Zbo (Zah ?_)))
  by_cases h3:c=42
  ·refine Zbn [(0,.dec true)] [0,3,4] [] [_] hB ⟨h3,trivial⟩ (Zac (Zbr (Zar (Zac (Zbr ?_)))))
   refine aR [] [2] [] [Bv true] [] [] hB trivial (Zan ?_)
   refine Zaz (Zaj ?_)
   refine Zao hB (Bv true) (by kernel_rfl) (.inl (by first|rfl|(refine congrArg Bv ?_;simp [Zgh,inB, *];done)|(refine congrArg Bv ?_;simp [Zgh,inB, *];omega)|(refine congrArg Bv ?_;simp_all [Zgh,inB];done)|(refine congrArg Bv ?_;simp_all [Zgh,inB];omega))) rfl (fun _=>trivial)
  refine Zbn [(0,.dec false)] [0,3,4] [] [_] hB ⟨h3,trivial⟩ (Zac (Zbo (Zah ?_)))
  by_cases h4:c=47
  ·refine Zbn [(0,.dec true)] [0,3,4] [] [_] hB ⟨h4,trivial⟩ (Zac (Zbr (Zar (Zac (Zbr ?_)))))
   refine aR [] [2] [] [Bv true] [] [] hB trivial (Zan ?_)
   refine Zaz (Zaj ?_)
   refine Zao hB (Bv true) (by kernel_rfl) (.inl (by first|rfl|(refine congrArg Bv ?_;simp [Zgh,inB, *];done)|(refine congrArg Bv ?_;simp [Zgh,inB, *];omega)|(refine congrArg Bv ?_;simp_all [Zgh,inB];done)|(refine congrArg Bv ?_;simp_all [Zgh,inB];omega))) rfl (fun _=>trivial)
  refine Zbn [(0,.dec false)] [0,3,4] [] [_] hB ⟨h4,trivial⟩ (Zac (Zbo (Zah ?_)))
  by_cases h5:c=61
  ·refine Zbn [(0,.dec true)] [0,3,4] [] [_] hB ⟨h5,trivial⟩ (Zac (Zbr (Zar (Zac (Zbr ?_)))))
   refine aR [] [2] [] [Bv true] [] [] hB trivial (Zan ?_)
   refine Zaz (Zaj ?_)
   refine Zao hB (Bv true) (by kernel_rfl) (.inl (by first|rfl|(refine congrArg Bv ?_;simp [Zgh,inB, *];done)|(refine congrArg Bv ?_;simp [Zgh,inB, *];omega)|(refine congrArg Bv ?_;simp_all [Zgh,inB];done)|(refine congrArg Bv ?_;simp_all [Zgh,inB];omega))) rfl (fun _=>trivial)
  refine Zbn [(0,.dec false)] [0,3,4] [] [_] hB ⟨h5,trivial⟩ (Zac (Zbo (Zah ?_)))
  by_cases h6:c=40
  ·refine Zbn [(0,.dec true)] [0,3,4] [] [_] hB ⟨h6,trivial⟩ (Zac (Zbr (Zar (Zac (Zbr ?_)))))
   refine aR [] [2] [] [Bv true] [] [] hB trivial (Zan ?_)
   refine Zaz (Zaj ?_)
   refine Zao hB (Bv true) (by kernel_rfl) (.inl (by first|rfl|(refine congrArg Bv ?_;simp [Zgh,inB, *];done)|(refine congrArg Bv ?_;simp [Zgh,inB, *];omega)|(refine congrArg Bv ?_;simp_all [Zgh,inB];done)|(refine congrArg Bv ?_;simp_all [Zgh,inB];omega))) rfl (fun _=>trivial)
  refine Zbn [(0,.dec false)] [0,3,4] [] [_] hB ⟨h6,trivial⟩ (Zac (Zbo (Zah ?_)))
  by_cases h7:c=41
  ·refine Zbn [(0,.dec true)] [0,3,4] [] [_] hB ⟨h7,trivial⟩ (Zac (Zbr (Zar (Zac (Zbr ?_)))))
   refine aR [] [2] [] [Bv true] [] [] hB trivial (Zan ?_)
   refine Zaz (Zaj ?_)
   refine Zao hB (Bv true) (by kernel_rfl) (.inl (by first|rfl|(refine congrArg Bv ?_;simp [Zgh,inB, *];done)|(refine congrArg Bv ?_;simp [Zgh,inB, *];omega)|(refine congrArg Bv ?_;simp_all [Zgh,inB];done)|(refine congrArg Bv ?_;simp_all [Zgh,inB];omega))) rfl (fun _=>trivial)
  refine Zbn [(0,.dec false)] [0,3,4] [] [_] hB ⟨h7,trivial⟩ (Zac (Zbo (Zah ?_)))
  by_cases h8:c=46
  ·refine Zbn [(0,.dec true)] [0,3,4] [] [_] hB ⟨h8,trivial⟩ (Zac (Zbr (Zar (Zac (Zbr ?_)))))
   refine aR [] [2] [] [Bv true] [] [] hB trivial (Zan ?_)
   refine Zaz (Zaj ?_)
   refine Zao hB (Bv true) (by kernel_rfl) (.inl (by first|rfl|(refine congrArg Bv ?_;simp [Zgh,inB, *];done)|(refine congrArg Bv ?_;simp [Zgh,inB, *];omega)|(refine congrArg Bv ?_;simp_all [Zgh,inB];done)|(refine congrArg Bv ?_;simp_all [Zgh,inB];omega))) rfl (fun _=>trivial)
  refine Zbn [(0,.dec false)] [0,3,4] [] [_] hB ⟨h8,trivial⟩ (Zac (Zbo ?_))
  by_cases h9:c=44
  ·refine Zbn [(0,.dec true)] [0,4] [] [_] hB ⟨h9,trivial⟩ (Zac (Zbr ?_))
   refine aR [] [2] [] [Bv true] [] [] hB trivial (Zan ?_)
   refine Zaz (Zaj ?_)
   refine Zao hB (Bv true) (by kernel_rfl) (.inl (by first|rfl|(refine congrArg Bv ?_;simp [Zgh,inB, *];done)|(refine congrArg Bv ?_;simp [Zgh,inB, *];omega)|(refine congrArg Bv ?_;simp_all [Zgh,inB];done)|(refine congrArg Bv ?_;simp_all [Zgh,inB];omega))) rfl (fun _=>trivial)
  refine Zbn [(0,.dec false)] [0,4] [] [_] hB ⟨h9,trivial⟩ (Zac (Zbo (Zar (Zbq 0 (Zac (Zah ?_))))))
  rcases Bool.eq_false_or_eq_true (inB c 97 122) with h10|h10
  ·refine Zeo [(1,.call [(true,.any)] true (Bv true))] [2] [] [Bv true] [] [Con Tryz.prog 106 [.val (.int .u8 c)] true (Bv true)∧True] hB ⟨⟨(Zau h10 (Zjz c)),trivial⟩,trivial⟩ (Zac (Zan ?_))
   refine Zao hB (Bv true) (by kernel_rfl) (.inl (by first|rfl|(refine congrArg Bv ?_;simp [Zgh,inB, *];done)|(refine congrArg Bv ?_;simp [Zgh,inB, *];omega)|(refine congrArg Bv ?_;simp_all [Zgh,inB];done)|(refine congrArg Bv ?_;simp_all [Zgh,inB];omega))) rfl (fun _=>trivial)
  by_cases h11:48≤c
  ·refine Zeo [(1,.call [(true,.any)] true (Bv false)),(4,.dec true)] [2] [] [Bv (decide (c≤57))] [] [Con Tryz.prog 106 [.val (.int .u8 c)] true (Bv false)∧True,_] hB ⟨⟨(Zau h10 (Zjz c)),trivial⟩,h11,trivial⟩ (Zac (Zan ?_))
   refine Zao hB (Bv (decide (c≤57))) (by kernel_rfl) (.inl (by first|rfl|(refine congrArg Bv ?_;simp [Zgh,inB, *];done)|(refine congrArg Bv ?_;simp [Zgh,inB, *];omega)|(refine congrArg Bv ?_;simp_all [Zgh,inB];done)|(refine congrArg Bv ?_;simp_all [Zgh,inB];omega))) rfl (fun _=>trivial)
  refine Zeo [(1,.call [(true,.any)] true (Bv false)),(4,.dec false)] [2] [] [Bv false] [] [Con Tryz.prog 106 [.val (.int .u8 c)] true (Bv false)∧True,_] hB ⟨⟨(Zau h10 (Zjz c)),trivial⟩,h11,trivial⟩ (Zac (Zan ?_))
  refine Zao hB (Bv false) (by kernel_rfl) (.inl (by first|rfl|(refine congrArg Bv ?_;simp [Zgh,inB, *];done)|(refine congrArg Bv ?_;simp [Zgh,inB, *];omega)|(refine congrArg Bv ?_;simp_all [Zgh,inB];done)|(refine congrArg Bv ?_;simp_all [Zgh,inB];omega))) rfl (fun _=>trivial)
theorem Ziy (s:ByteArray) (ok:s.size≤9223372036854775807):Con Tryz.prog 64 [Sv s] true (Bv (Zeq s)):=by
  refine Zcm (fn:=Tryz.f64) (nt:=11) Tryz.func64 rfl rfl rfl rfl (by simp [Zaf,Zai]) fun B hB=> ?_
  refine aQ [] [0] [] [] hB trivial (Zah ?_)
  by_cases h1:(s.size:Int)=1
  ·refine Zeo [(2,.dec true),(6,.call [(true,.any)] true (Bv (Zgh (bAt s 0))))] [2] [] [Bv (Zgh (bAt s 0))] [] [_,(0:Int)≤0∧0<(s.size:Int),_∧True] hB ⟨h1,⟨om,om⟩,⟨(Ybc (bAt s 0)),trivial⟩,trivial⟩ (Zac (Zan ?_))
   refine Zao hB (Bv (Zgh (bAt s 0))) (by kernel_rfl) (.inl (by first|rfl|(refine congrArg Bv ?_;simp [Zeq, *];done)|(refine congrArg Bv ?_;simp [Zeq, *];omega)|(refine congrArg Bv ?_;simp_all [Zeq];done)|(refine congrArg Bv ?_;simp_all [Zeq];omega))) rfl (fun _=>trivial)
  refine Zeo [(2,.dec false)] [2] [] [Bv false] [] [_] hB ⟨h1,trivial⟩ (Zac (Zan ?_))
  refine Zao hB (Bv false) (by kernel_rfl) (.inl (by first|rfl|(refine congrArg Bv ?_;simp [Zeq, *];done)|(refine congrArg Bv ?_;simp [Zeq, *];omega)|(refine congrArg Bv ?_;simp_all [Zeq];done)|(refine congrArg Bv ?_;simp_all [Zeq];omega))) rfl (fun _=>trivial)
theorem Ztm (a:Int) (b:Int):Con Tryz.prog 105 [I a,I b] true (I (Zez a b)):=by
  refine Zcm (fn:=Tryz.f105) (nt:=13) Tryz.func105 rfl rfl rfl rfl (by simp [Zaf,Zai]) fun B hB=> ?_
  refine aQ [] [0,1] [] [] hB trivial (Zah (Zbg (Zah ?_)))
  by_cases h1:a<b
  ·refine Zbn [(2,.dec true)] [0,1,5] [] [_] hB ⟨h1,trivial⟩ (Zac (Zbr ?_))
   refine aR [] [4] [] [I (-1)] [] [] hB trivial (Zan ?_)
   refine Zaz (Zaj ?_)
   refine Zao hB (I (-1)) (by kernel_rfl) (.inl (by refine congrArg I ?_;unfold Zez;first|(rw [if_pos om];done)|(rw [if_neg om,if_pos om];done)|(rw [if_neg om,if_neg om];done))) rfl (fun _=>trivial)
  refine Zbn [(2,.dec false)] [0,1,5] [] [_] hB ⟨h1,trivial⟩ (Zac (Zbo (Zah ?_)))
  by_cases h2:b<a
  ·refine Zbn [(2,.dec true)] [9] [] [_] hB ⟨h2,trivial⟩ (Zac (Zbr ?_))
   refine aR [] [4] [] [I 1] [] [] hB trivial (Zan ?_)
   refine Zaz (Zaj ?_)
   refine Zao hB (I 1) (by kernel_rfl) (.inl (by refine congrArg I ?_;unfold Zez;first|(rw [if_pos om];done)|(rw [if_neg om,if_pos om];done)|(rw [if_neg om,if_neg om];done))) rfl (fun _=>trivial)
  refine Zbn [(2,.dec false)] [9] [] [_] hB ⟨h2,trivial⟩ (Zac (Zbo (Zar (Zbq 0 (Zac ?_)))))
  refine aR [] [4] [] [I 0] [] [] hB trivial (Zan ?_)
  refine Zao hB (I 0) (by kernel_rfl) (.inl (by refine congrArg I ?_;unfold Zez;first|(rw [if_pos om];done)|(rw [if_neg om,if_pos om];done)|(rw [if_neg om,if_neg om];done))) rfl (fun _=>trivial)
theorem Zif (a:Edge) (b:Edge):Con Tryz.prog 65 [.ptr false [I a.From,I a.To,Sv a.Label,I a.Cost],.ptr false [I b.From,I b.To,Sv b.Label,I b.Cost]] true (I (Zjv a b)):=by
  refine Zcm (fn:=Tryz.f65) (nt:=61) Tryz.func65 rfl rfl rfl rfl (by simp [Zaf,Zai]) fun B hB=> ?_
  refine aQ [] [0,1] [] [] hB trivial (Zah (Zah ?_))
  by_cases h1:a.From=b.From
  ·refine Zbn [(8,.dec false)] [0,1,13] [] [¬ (a.From≠b.From)] hB ⟨(fun hq=>hq h1),trivial⟩ (Zac (Zbo (Zar (Zac (Zah (Zah ?_))))))
   by_cases h2:a.To=b.To
   ·refine Zbn [(8,.dec false)] [0,1,31] [] [¬ (a.To≠b.To)] hB ⟨(fun hq=>hq h2),trivial⟩ (Zac (Zbo (Zar (Zac (Zah (Zbg (Zah ?_)))))))
    by_cases h3:Zfz a.Label b.Label=true
    ·refine Zbn [(8,.dec true)] [0,1,41] [] [_] hB ⟨h3,trivial⟩ (Zac (Zbr ?_))
     refine aR [] [4] [] [I (-1)] [] [] hB trivial (Zan ?_)
     refine Zaz (Zaj ?_)
     refine Zao hB (I (-1)) (by kernel_rfl) (.inl (by refine congrArg I ?_;rw [Zod];simp only [Zie, *];first|rfl|(simp;done)|(unfold Zih;simp [*];done)|(have hq:a.Label=b.Label:=by (by_cases q:a.Label=b.Label;(exact q);(simp_all)));(simp [Zfq.2 hq]))) rfl (fun _=>trivial)
    refine Zbn [(8,.dec false)] [0,1,41] [] [_] hB ⟨h3,trivial⟩ (Zac (Zbo (Zah ?_)))
    by_cases h4:Zfz a.Label b.Label=false∧a.Label≠b.Label
    ·refine Zbn [(8,.dec true)] [51] [] [_] hB ⟨h4,trivial⟩ (Zac (Zbr ?_))
     refine aR [] [4] [] [I 1] [] [] hB trivial (Zan ?_)
     refine Zaz (Zaj ?_)
     refine Zao hB (I 1) (by kernel_rfl) (.inl (by refine congrArg I ?_;rw [Zod];simp only [Zie, *];first|rfl|(simp;done)|(unfold Zih;simp [*];done)|(have hq:a.Label=b.Label:=by (by_cases q:a.Label=b.Label;(exact q);(simp_all)));(simp [Zfq.2 hq]))) rfl (fun _=>trivial)
    refine Zbn [(8,.dec false)] [51] [] [_] hB ⟨h4,trivial⟩ (Zac (Zbo (Zar (Zbq 0 (Zac ?_)))))
    refine aR [] [4] [] [I 0] [] [] hB trivial (Zan ?_)
    refine Zao hB (I 0) (by kernel_rfl) (.inl (by refine congrArg I ?_;rw [Zod];simp only [Zie, *];first|rfl|(simp;done)|(unfold Zih;simp [*];done)|(have hq:a.Label=b.Label:=by (by_cases q:a.Label=b.Label;(exact q);(simp_all)));(simp [Zfq.2 hq]))) rfl (fun _=>trivial)
   refine Zbn [(8,.dec true)] [0,1,31] [] [_] hB ⟨h2,trivial⟩ (Zac (Zbr ?_))
   refine aR [(8,.call [(true,.any),(true,.any)] true (I (Zez a.To b.To)))] [4] [] [I (Zez a.To b.To)] [] [_∧True] hB ⟨⟨(Ztm a.To b.To),trivial⟩,trivial⟩ (Zan (Zaj ?_))
   refine Zao hB (I (Zez a.To b.To)) (by kernel_rfl) (.inl (by refine congrArg I ?_;rw [Zod];simp only [Zie, *];first|rfl|(simp;done)|(unfold Zih;simp [*];done)|(have hq:a.Label=b.Label:=by (by_cases q:a.Label=b.Label;(exact q);(simp_all)));(simp [Zfq.2 hq]))) rfl (fun _=>trivial)
  refine Zbn [(8,.dec true)] [0,1,13] [] [_] hB ⟨h1,trivial⟩ (Zac (Zbr ?_))
  refine aR [(8,.call [(true,.any),(true,.any)] true (I (Zez a.From b.From)))] [4] [] [I (Zez a.From b.From)] [] [_∧True] hB ⟨⟨(Ztm a.From b.From),trivial⟩,trivial⟩ (Zan (Zaj ?_))
  refine Zao hB (I (Zez a.From b.From)) (by kernel_rfl) (.inl (by refine congrArg I ?_;rw [Zod];simp only [Zie, *];first|rfl|(simp;done)|(unfold Zih;simp [*];done)|(have hq:a.Label=b.Label:=by (by_cases q:a.Label=b.Label;(exact q);(simp_all)));(simp [Zfq.2 hq]))) rfl (fun _=>trivial)
theorem Ycz (l:Lattice) (hl:Zdg l):Con Tryz.prog 23 [.ptr false [I l.Nodes,Zbk false l.Edges]] true (Bv true):=by
  have hn:=hl.1
  have hc:=hl.2.1
  refine Zcm (fn:=Tryz.f23) (nt:=69) Tryz.func23 rfl rfl rfl rfl (by simp [Zaf,Zai,Zff]) fun B hB=> ?_
  refine Zck (x:= .ptr false [I l.Nodes,Zbk false l.Edges]) 0 rfl (fun len_l=> ?_)
  simp [Zei,Zhv,Zln,Zdq,Zbk] at len_l
  refine aQ [] [0] [] [] hB trivial (Zah ?_)
  refine aQ [(4,.call [(true,.any),(true,.any),(true,.any)] true (Bv true)),(12,.dec false)] [0,17] [] [Con Tryz.prog 62 [I l.Nodes,I 1,I 20] true (Bv true)∧True,¬ (200<(l.Edges.length:Int))] hB ⟨⟨(Zau (Ziw.2 hl.1) (Zey l.Nodes 1 20)),trivial⟩,om,trivial⟩ (Zbo (Zar (Zac (Zah ?_))))
  refine aR [] [0,3] [] [.ptr false [I l.Nodes,Zbk false l.Edges],I 0] [] [] hB trivial (Zbg ?_)
  refine Zdm (fun gn gσ=>∃(i:Int),gn=((l.Edges.length:Int)-i).toNat∧(0≤i∧i≤(l.Edges.length:Int))∧gσ=mkS [(0,.ptr false [I l.Nodes,Zbk false l.Edges]),(3,I i)] []) (((l.Edges.length:Int)-0).toNat) ⟨0,rfl,om,rfl⟩ (fun gn gσ hI=> ?_)
  obtain ⟨i,rfl,hi0,rfl⟩:=hI
  refine Zah (Zah ?_)
  by_cases h1:i<(l.Edges.length:Int)
  ·have hi:i.toNat<l.Edges.length:=by omega
   have hed:=hl.2.2.1 _ hi
   refine Zbn [(6,.dec true)] [0,3,24] [] [_] hB ⟨h1,trivial⟩ (Zac (Zbr (Zar (Zac (Zah (Zbg (Zah ?_)))))))
   by_cases h2:0<i
   ·have hpr:=Zrr hl.2.2.2 (show (i-1).toNat<i.toNat by omega) hi
    refine Zbn [(7,.call [(true,.any),(true,.any)] true (Bv true)),(18,.call [(true,.any)] true (Bv true)),(23,.dec true),(38,.call [(true,.any),(true,.any)] true (I (Zjv (at_ l.Edges ((i-1).toNat)) (at_ l.Edges i.toNat)))),(39,.dec false)] [0,3,68] [] [(0:Int)≤i∧i<(l.Edges.length:Int),_∧True,(0:Int)≤i∧i<(l.Edges.length:Int),Con Tryz.prog 64 [Sv ((at_ l.Edges i.toNat).Label)] true (Bv true)∧True,_,inR .i64 (i-1),(0:Int)≤(i-1)∧(i-1)<(l.Edges.length:Int),(0:Int)≤i∧i<(l.Edges.length:Int),_∧True,¬ (0≤(Zjv (at_ l.Edges ((i-1).toNat)) (at_ l.Edges i.toNat)))] hB ⟨⟨om,om⟩,⟨(Zoe l (at_ l.Edges i.toNat) hed om),trivial⟩,⟨om,om⟩,⟨(Zau hed.2.2 (Ziy ((at_ l.Edges i.toNat).Label) (by have:=Zgt hed.2.2;omega))),trivial⟩,h2,(Zad om om),⟨om,om⟩,⟨om,om⟩,⟨(Zif (at_ l.Edges ((i-1).toNat)) (at_ l.Edges i.toNat)),trivial⟩,om,trivial⟩ (Zac (Zbo (Zar (Zbq 1 (Zac ?_)))))
    refine Zeo [] [0,3] [] [.ptr false [I l.Nodes,Zbk false l.Edges],I (i+1)] [] [inR .i64 (i+1)] hB ⟨(Zad om om),trivial⟩ ?_
    exact Zbs _ om ⟨(i+1),rfl,om,rfl⟩
   refine Zbn [(7,.call [(true,.any),(true,.any)] true (Bv true)),(18,.call [(true,.any)] true (Bv true)),(23,.dec false)] [0,3,68] [] [(0:Int)≤i∧i<(l.Edges.length:Int),_∧True,(0:Int)≤i∧i<(l.Edges.length:Int),Con Tryz.prog 64 [Sv ((at_ l.Edges i.toNat).Label)] true (Bv true)∧True,_] hB ⟨⟨om,om⟩,⟨(Zoe l (at_ l.Edges i.toNat) hed om),trivial⟩,⟨om,om⟩,⟨(Zau hed.2.2 (Ziy ((at_ l.Edges i.toNat).Label) (by have:=Zgt hed.2.2;omega))),trivial⟩,h2,trivial⟩ (Zac (Zbo (Zar (Zbq 1 (Zac ?_)))))
   refine Zeo [] [0,3] [] [.ptr false [I l.Nodes,Zbk false l.Edges],I (i+1)] [] [inR .i64 (i+1)] hB ⟨(Zad om om),trivial⟩ ?_
   exact Zbs _ om ⟨(i+1),rfl,om,rfl⟩
  refine Zbn [(6,.dec false)] [0,3,24] [] [_] hB ⟨h1,trivial⟩ (Zac (Zbo (Zcy (Zam (Zam (Zbi (Zac ?_)))))))
  refine aR [] [2] [] [Bv true] [] [] hB trivial (Zan ?_)
  refine Zao hB (Bv true) (by kernel_rfl) (.inl rfl) rfl (fun _=>trivial)
theorem Yiw {l:Lattice} {e:Edge} {v:List Edge} (h:Zdg l) (he:okEd l e) (hl:v.length=l.Edges.length+1) (h2:l.Edges.length<200) (hm:∀x∈v,x=e∨x∈l.Edges) (hp:v.Pairwise fun x y=>Zjv x y<0):Zdg ⟨l.Nodes,v⟩:=by
 refine ⟨h.1,by show v.length≤200;omega,fun i hi=> ?_,hp⟩
 rcases hm _ (Zca hi) with q|q
 ·show okEd _ (at_ v i);rw [q];exact he
 ·obtain ⟨j,hj,e2⟩:=List.getElem_of_mem q
  have:=h.2.2.1 j hj
  rw [Zea hj,e2] at this
  exact this
theorem Yix {n:Int} (h:1≤n∧n≤20):Zdg ⟨n,[]⟩:=⟨h,Nat.zero_le _,fun i hi=>absurd hi (Nat.not_lt_zero _),List.Pairwise.nil⟩
theorem Yiy (list:List Edge) (e:Edge) (hp:list.Pairwise fun x_ y_=>Zjv x_ y_<0) (hne:∀x∈list,Zjv x e≠0) (hll:list.length≤1000):∃(v:List Edge),(v.length=list.length+1)∧(∀x∈v,x=e∨x∈list)∧(v.Pairwise fun x_ y_=>Zjv x_ y_<0)∧Con Tryz.prog 95 [Zbk false list,Znb e] true (Zbk true v):=by
  have hh:∃r:(List Edge),((r.length=list.length+1)∧(∀x∈r,x=e∨x∈list)∧(r.Pairwise fun x_ y_=>Zjv x_ y_<0)∧(True))∧Zaw Tryz.prog 95 [Zbk false list,Znb e] (Zae []) true (Zbk true r) (Zae []):=by
    refine Zcv (Φ:=fun r:(List Edge)=>(r.length=list.length+1)∧(∀x∈r,x=e∨x∈list)∧(r.Pairwise fun x_ y_=>Zjv x_ y_<0)∧(True)) [] (fun r=>[]) (fn:=Tryz.f95) (nt:=35) Tryz.func95 rfl rfl (args:=[Zbk false list,Znb e]) rfl (Zbc (.inl ⟨rfl,Zff false _⟩) (Zbc (.inl ⟨rfl,by simp [Zai,Zaf]⟩) Zcw)) (res:=fun r=>Zbk true r) ?_
    refine xQ [(0,.new 3)] [0,3] [3] [] trivial ?_
    refine xR [] [0,3,5] [3] [Zbk false list,.ref 3 0,I (list.length:Int)] [some (Zld e)] [] trivial (Zak (Zbb ?_))
    refine Zdc (X:=Int) (fun x=>mkS [(0,Zbk false list),(3,.ref 3 0),(5,I x)] [(3,Zld e)]) (fun x=>(0≤x∧x≤(list.length:Int))∧(∀j:Nat,x≤(j:Int)→j<list.length→0<Zjv (at_ list j) e)∧True) (fun x=>x.toNat) (list.length:Int) rfl (show (0≤(list.length:Int)∧(list.length:Int)≤(list.length:Int))∧(∀j:Nat,(list.length:Int)≤(j:Int)→j<list.length→0<Zjv (at_ list j) e)∧True from ⟨om,(by intro j h1 h2;omega),trivial⟩) (fun x hI=> ?_)
    obtain ⟨k,hxx⟩:∃k:Int,k=x:=⟨x,rfl⟩
    subst hxx
    obtain ⟨hk0,hhi,_⟩:(0≤k∧k≤(list.length:Int))∧(∀j:Nat,k≤(j:Int)→j<list.length→0<Zjv (at_ list j) e)∧True:=hI
    show XW _ _ _ _ (mkS [(0,Zbk false list),(3,.ref 3 0),(5,I k)] [(3,Zld e)]) _ _
    refine Zak (Zak ?_)
    by_cases h1:0<k
    ·have hkl:(k-1).toNat<list.length:=by omega
     by_cases h2:0<(Zjv (at_ list ((k-1).toNat)) e)
     ·have hgn:∀j:Nat,k-1≤(j:Int)→j<list.length→0<Zjv (at_ list j) e:=fun j q1 q2=>by by_cases q:(j:Int)=k-1;(rw [show j=(k-1).toNat from by omega];exact h2);(exact hhi j om q2)
      refine x_q [(1,.dec true),(7,.call [(true,.any),(false,.ptr false [I e.From,I e.To,Sv e.Label,I e.Cost])] true (I (Zjv (at_ list ((k-1).toNat)) e))),(8,.dec true)] [0,3,5,18] [3] [_,inR .i64 (k-1),(0:Int)≤(k-1)∧(k-1)<(list.length:Int),_∧((false=true→true=true)∧AV.idsL [I e.From,I e.To,Sv e.Label,I e.Cost]=[]∧(Zcn (I e.From)=Zcn (I e.From))∧(Zcn (I e.To)=Zcn (I e.To))∧(Zcn (Sv e.Label)=Zcn (Sv e.Label))∧(Zcn (I e.Cost)=Zcn (I e.Cost))∧([]:List AV)=[])∧True,_] ⟨h1,(Zad om om),⟨om,om⟩,⟨(Zif (at_ list ((k-1).toNat)) e),⟨(fun h=>by cases h),rfl,⟨rfl,⟨rfl,⟨rfl,⟨rfl,rfl⟩⟩⟩⟩⟩,trivial⟩,h2,trivial⟩ (Zab (Zeh (Zbd (Zab (Zbb ?_)))))
      refine x_r [] [0,3,5] [3] [Zbk false list,.ref 3 0,I (k-1)] [some (Zld e)] [inR .i64 (k-1)] ⟨(Zad om om),trivial⟩ (Zba 1 ?_)
      exact Zay (k-1) rfl (show (0≤(k-1)∧(k-1)≤(list.length:Int))∧(∀j:Nat,(k-1)≤(j:Int)→j<list.length→0<Zjv (at_ list j) e)∧True from ⟨om,(by exact hgn),trivial⟩) (by first|(show ((k-1).toNat:Nat)<k.toNat;omega)|(dsimp only;omega))
     have hlo:k.toNat=0∨¬ 0<Zjv (at_ list (k.toNat-1)) e:=Or.inr (by rw [show k.toNat-1=(k-1).toNat from by omega];exact h2)
     refine x_r [(1,.dec true),(7,.call [(true,.any),(false,.ptr false [I e.From,I e.To,Sv e.Label,I e.Cost])] true (I (Zjv (at_ list ((k-1).toNat)) e))),(8,.dec false)] [0,3,5,18] [3] [Zbk false list,.ref 3 0,I k,Bv false] [some (Zld e)] [_,inR .i64 (k-1),(0:Int)≤(k-1)∧(k-1)<(list.length:Int),_∧((false=true→true=true)∧AV.idsL [I e.From,I e.To,Sv e.Label,I e.Cost]=[]∧(Zcn (I e.From)=Zcn (I e.From))∧(Zcn (I e.To)=Zcn (I e.To))∧(Zcn (Sv e.Label)=Zcn (Sv e.Label))∧(Zcn (I e.Cost)=Zcn (I e.Cost))∧([]:List AV)=[])∧True,_] ⟨h1,(Zad om om),⟨om,om⟩,⟨(Zif (at_ list ((k-1).toNat)) e),⟨(fun h=>by cases h),rfl,⟨rfl,⟨rfl,⟨rfl,⟨rfl,rfl⟩⟩⟩⟩⟩,trivial⟩,h2,trivial⟩ (Zab (Zbt rfl (Zcp (Zas ?_))))
     refine Zax ?_
     refine Zat (Zab ?_)
     refine xQ [(0,.new 21),(4,.new 25)] [0,3,5,6] [3,25] [(0:Int)≤0∧(0:Int)≤k∧k≤(list.length:Int),(0+(k.toNat-0))*40≤140737488355328] ⟨⟨om,om,om⟩,om,trivial⟩ ?_
     refine xQ [(2,.new 28),(3,.new 29)] [0,5,6] [29] [((0+(k.toNat-0))+1)*40≤140737488355328] ⟨om,trivial⟩ ?_
     refine xR [(4,.new 34)] [4] [34] [.arr 34] [some (.arr 4 (((0+(k.toNat-0))+1)+((list.length:Int).toNat-k.toNat)) (Zhc ((0+(k.toNat-0))+1) (Zhc (0+(k.toNat-0)) (Zhc 0 (Zhu [] 4) (Zpy 0 (Zdq list))) (Zhu [I e.From,I e.To,Sv e.Label,I e.Cost] 4)) (Zpy k.toNat (Zdq list))))] [(0:Int)≤k∧k≤(list.length:Int)∧(list.length:Int)≤(list.length:Int),(((0+(k.toNat-0))+1)+((list.length:Int).toNat-k.toNat))*40≤140737488355328] ⟨⟨om,om,om⟩,om,trivial⟩ (Zdd ?_)
     refine Zbw (((list.take k.toNat)++[e])++(list.drop k.toNat)) (show ((((list.take k.toNat)++[e])++(list.drop k.toNat)).length=list.length+1)∧(∀x∈(((list.take k.toNat)++[e])++(list.drop k.toNat)),x=e∨x∈list)∧((((list.take k.toNat)++[e])++(list.drop k.toNat)).Pairwise fun x_ y_=>Zjv x_ y_<0)∧(True) from ⟨(by first|exact Zhj om|exact fun x hx=>Zhi.1 hx|exact Zki cmpE_w hp om hlo (fun j h1 h2=>hhi j om h2) hne),(by first|exact Zhj om|exact fun x hx=>Zhi.1 hx|exact Zki cmpE_w hp om hlo (fun j h1 h2=>hhi j om h2) hne),(by first|exact Zhj om|exact fun x hx=>Zhi.1 hx|exact Zki cmpE_w hp om hlo (fun j h1 h2=>hhi j om h2) hne),trivial⟩) (trivial) (.arr 34) (by kernel_rfl) (.inr ⟨(fun _=>rfl),rfl,(by first|rfl|(simp;done)|(simp;omega)|omega),fun i_ hi_=> .inl (Zku (enc:=Zln) (xs:=((list.take k.toNat)++[e])) (ys:=(list.drop k.toNat)) (by first|rfl|(simp;done)|(simp;omega)) (fun i_ hi_=>(Zku (enc:=Zln) (xs:=(list.take k.toNat)) (ys:=[e]) (by first|rfl|(simp;done)|(simp;omega)) (fun i_ hi_=>((Zpz i_).trans ((fun i_ hi_=>(Zmn (enc:=Zln) hi_)) i_ hi_))) (fun i_ hi_=>(match i_,hi_ with|0,_=>rfl|(i+1),h=>absurd h (by simp))) i_ hi_)) (fun i_ hi_=>(Zpe (enc:=Zln) hi_)) i_ hi_)⟩) (fun _=>rfl) (fun _=>(Zff true _))
    have hlo:k.toNat=0∨¬ 0<Zjv (at_ list (k.toNat-1)) e:=Or.inl om
    refine x_r [(1,.dec false)] [0,3,5,18] [3] [Zbk false list,.ref 3 0,I k,Bv false] [some (Zld e)] [_] ⟨h1,trivial⟩ (Zab (Zbt rfl (Zcp (Zas ?_))))
    refine Zax ?_
    refine Zat (Zab ?_)
    refine xQ [(0,.new 21),(4,.new 25)] [0,3,5,6] [3,25] [(0:Int)≤0∧(0:Int)≤k∧k≤(list.length:Int),(0+(k.toNat-0))*40≤140737488355328] ⟨⟨om,om,om⟩,om,trivial⟩ ?_
    refine xQ [(2,.new 28),(3,.new 29)] [0,5,6] [29] [((0+(k.toNat-0))+1)*40≤140737488355328] ⟨om,trivial⟩ ?_
    refine xR [(4,.new 34)] [4] [34] [.arr 34] [some (.arr 4 (((0+(k.toNat-0))+1)+((list.length:Int).toNat-k.toNat)) (Zhc ((0+(k.toNat-0))+1) (Zhc (0+(k.toNat-0)) (Zhc 0 (Zhu [] 4) (Zpy 0 (Zdq list))) (Zhu [I e.From,I e.To,Sv e.Label,I e.Cost] 4)) (Zpy k.toNat (Zdq list))))] [(0:Int)≤k∧k≤(list.length:Int)∧(list.length:Int)≤(list.length:Int),(((0+(k.toNat-0))+1)+((list.length:Int).toNat-k.toNat))*40≤140737488355328] ⟨⟨om,om,om⟩,om,trivial⟩ (Zdd ?_)
    refine Zbw (((list.take k.toNat)++[e])++(list.drop k.toNat)) (show ((((list.take k.toNat)++[e])++(list.drop k.toNat)).length=list.length+1)∧(∀x∈(((list.take k.toNat)++[e])++(list.drop k.toNat)),x=e∨x∈list)∧((((list.take k.toNat)++[e])++(list.drop k.toNat)).Pairwise fun x_ y_=>Zjv x_ y_<0)∧(True) from ⟨(by first|exact Zhj om|exact fun x hx=>Zhi.1 hx|exact Zki cmpE_w hp om hlo (fun j h1 h2=>hhi j om h2) hne),(by first|exact Zhj om|exact fun x hx=>Zhi.1 hx|exact Zki cmpE_w hp om hlo (fun j h1 h2=>hhi j om h2) hne),(by first|exact Zhj om|exact fun x hx=>Zhi.1 hx|exact Zki cmpE_w hp om hlo (fun j h1 h2=>hhi j om h2) hne),trivial⟩) (trivial) (.arr 34) (by kernel_rfl) (.inr ⟨(fun _=>rfl),rfl,(by first|rfl|(simp;done)|(simp;omega)|omega),fun i_ hi_=> .inl (Zku (enc:=Zln) (xs:=((list.take k.toNat)++[e])) (ys:=(list.drop k.toNat)) (by first|rfl|(simp;done)|(simp;omega)) (fun i_ hi_=>(Zku (enc:=Zln) (xs:=(list.take k.toNat)) (ys:=[e]) (by first|rfl|(simp;done)|(simp;omega)) (fun i_ hi_=>((Zpz i_).trans ((fun i_ hi_=>(Zmn (enc:=Zln) hi_)) i_ hi_))) (fun i_ hi_=>(match i_,hi_ with|0,_=>rfl|(i+1),h=>absurd h (by simp))) i_ hi_)) (fun i_ hi_=>(Zpe (enc:=Zln) hi_)) i_ hi_)⟩) (fun _=>rfl) (fun _=>(Zff true _))
  obtain ⟨v,⟨hh0,hh1,hh2,_⟩,hc⟩:=hh
  exact ⟨v,hh0,hh1,hh2,hc⟩
theorem Zsq (l:Lattice) (e:Edge) (hl:Zdg l) (he:okEd l e):∃(v:Lattice) (c:Int),(c=0→Zdg v∧v.Nodes=l.Nodes∧∀x∈v.Edges,x=e∨x∈l.Edges)∧(0≤c∧c≤20)∧Con Tryz.prog 49 [Zcr l,Znb e] true (.tup [Zdt v,I c]):=by
  have hn:=hl.1
  have hc:=hl.2.1
  have hh:∃r:Lattice×Int,((r.2=0→Zdg r.1∧r.1.Nodes=l.Nodes∧∀x∈r.1.Edges,x=e∨x∈l.Edges)∧(0≤r.2∧r.2≤20)∧(True))∧Zaw Tryz.prog 49 [Zcr l,Znb e] (Zae []) true (.tup [Zdt r.1,I r.2]) (Zae []):=by
    refine Zcv (Φ:=fun r:Lattice×Int=>(r.2=0→Zdg r.1∧r.1.Nodes=l.Nodes∧∀x∈r.1.Edges,x=e∨x∈l.Edges)∧(0≤r.2∧r.2≤20)∧(True)) [] (fun r=>[]) (fn:=Tryz.f49) (nt:=44) Tryz.func49 rfl rfl (args:=[Zcr l,Znb e]) rfl (Zbc (.inl ⟨rfl,by simp [Zai,Zaf,Zff]⟩) (Zbc (.inl ⟨rfl,by simp [Zai,Zaf]⟩) Zcw)) (res:=fun r=> .tup [Zdt r.1,I r.2]) ?_
    refine xQ [(0,.new 2),(1,.new 3),(2,.new 4)] [2,3,4] [2,3,4] [] trivial (Zak ?_)
    refine xQ [(0,.call [(false,.ptr false [I l.Nodes,Zbk false l.Edges])] true (Bv true))] [2,3,4,8] [2,3,4] [_∧((false=true→true=true)∧AV.idsL [I l.Nodes,Zbk false l.Edges]=[]∧(Zcn (I l.Nodes)=Zcn (I l.Nodes))∧((false=true→false=true)∧4=4∧l.Edges.length=l.Edges.length∧∀i_,i_<l.Edges.length→(Zdq l.Edges) i_=(Zdq l.Edges) i_∨(AV.idsL ((Zdq l.Edges) i_)=[]∧leL (fun _=>none) false ((Zdq l.Edges) i_) ((Zdq l.Edges) i_)))∧([]:List AV)=[])∧True] ⟨⟨(Ycz l hl),⟨(fun h=>by cases h),rfl,⟨rfl,⟨⟨(fun h=>by cases h),rfl,rfl,fun i _=> .inl rfl⟩,rfl⟩⟩⟩,trivial⟩,trivial⟩ (Zga (Zbd (Zab (Zak ?_))))
    refine xQ [(0,.call [(false,.ptr false [I l.Nodes,Zbk false l.Edges]),(false,.ptr false [I e.From,I e.To,Sv e.Label,I e.Cost])] true (Bv true))] [2,3,4,11] [2,3,4] [_∧((false=true→true=true)∧AV.idsL [I l.Nodes,Zbk false l.Edges]=[]∧(Zcn (I l.Nodes)=Zcn (I l.Nodes))∧((false=true→false=true)∧4=4∧l.Edges.length=l.Edges.length∧∀i_,i_<l.Edges.length→(Zdq l.Edges) i_=(Zdq l.Edges) i_∨(AV.idsL ((Zdq l.Edges) i_)=[]∧leL (fun _=>none) false ((Zdq l.Edges) i_) ((Zdq l.Edges) i_)))∧([]:List AV)=[])∧((false=true→true=true)∧AV.idsL [I e.From,I e.To,Sv e.Label,I e.Cost]=[]∧(Zcn (I e.From)=Zcn (I e.From))∧(Zcn (I e.To)=Zcn (I e.To))∧(Zcn (Sv e.Label)=Zcn (Sv e.Label))∧(Zcn (I e.Cost)=Zcn (I e.Cost))∧([]:List AV)=[])∧True] ⟨⟨(Zoe l e he om),⟨(fun h=>by cases h),rfl,⟨rfl,⟨⟨(fun h=>by cases h),rfl,rfl,fun i _=> .inl rfl⟩,rfl⟩⟩⟩,⟨(fun h=>by cases h),rfl,⟨rfl,⟨rfl,⟨rfl,⟨rfl,rfl⟩⟩⟩⟩⟩,trivial⟩,trivial⟩ (Zga (Zbd (Zab (Zak ?_))))
    refine xQ [(2,.call [(true,.any)] true (Bv true))] [2,3,4,16] [2,3,4] [Con Tryz.prog 64 [Sv e.Label] true (Bv true)∧True] ⟨⟨(Zau he.2.2 (Ziy e.Label (by have:=Zgt he.2.2;omega))),trivial⟩,trivial⟩ (Zga (Zbd (Zab (Zak ?_))))
    refine xR [] [2,3,4,6] [2,3,4] [.ref 2 0,.ref 3 0,.ref 4 0,I 0] [some (Zbm l),some (Zld e),some (.box [I 0,Zcj])] [] trivial (Zbb ?_)
    refine Zdc (X:=Int) (fun x=>mkS [(2,.ref 2 0),(3,.ref 3 0),(4,.ref 4 0),(6,I x)] [(2,Zbm l),(3,Zld e),(4,.box [I 0,Zcj])]) (fun x=>(0≤x∧x≤(l.Edges.length:Int))∧(∀j:Nat,(j:Int)<x→Zjv (at_ l.Edges j) e≠0)∧True) (fun x=>((l.Edges.length:Int)-x).toNat) 0 rfl (show (0≤(0:Int)∧(0:Int)≤(l.Edges.length:Int))∧(∀j:Nat,(j:Int)<(0:Int)→Zjv (at_ l.Edges j) e≠0)∧True from ⟨om,(by intro j hj;omega),trivial⟩) (fun x hI=> ?_)
    obtain ⟨i,hxx⟩:∃i:Int,i=x:=⟨x,rfl⟩
    subst hxx
    obtain ⟨hi0,hz0,_⟩:(0≤i∧i≤(l.Edges.length:Int))∧(∀j:Nat,(j:Int)<i→Zjv (at_ l.Edges j) e≠0)∧True:=hI
    show XW _ _ _ _ (mkS [(2,.ref 2 0),(3,.ref 3 0),(4,.ref 4 0),(6,I i)] [(2,Zbm l),(3,Zld e),(4,.box [I 0,Zcj])]) _ _
    refine Zak (Zak ?_)
    by_cases h1:i<(l.Edges.length:Int)
    ·have hi:i.toNat<l.Edges.length:=by omega
     refine x_q [(4,.dec true)] [2,3,4,6,22] [2,3,4] [_] ⟨h1,trivial⟩ (Zab (Zeh (Zbd (Zab (Zak (Zbb (Zak ?_)))))))
     by_cases h2:(Zjv (at_ l.Edges i.toNat) e)=0
     ·refine x_q [(4,.call [(true,.any),(false,.ptr false [I e.From,I e.To,Sv e.Label,I e.Cost])] true (I (Zjv (at_ l.Edges i.toNat) e))),(5,.dec true)] [2,3,4,6,30] [2,3,4] [(0:Int)≤i∧i<(l.Edges.length:Int),_∧((false=true→true=true)∧AV.idsL [I e.From,I e.To,Sv e.Label,I e.Cost]=[]∧(Zcn (I e.From)=Zcn (I e.From))∧(Zcn (I e.To)=Zcn (I e.To))∧(Zcn (Sv e.Label)=Zcn (Sv e.Label))∧(Zcn (I e.Cost)=Zcn (I e.Cost))∧([]:List AV)=[])∧True,_] ⟨⟨om,om⟩,⟨(Zif (at_ l.Edges i.toNat) e),⟨(fun h=>by cases h),rfl,⟨rfl,⟨rfl,⟨rfl,⟨rfl,rfl⟩⟩⟩⟩⟩,trivial⟩,h2,trivial⟩ (Zab (Zeh ?_))
      refine xR [] [4,5] [4] [.ref 4 0,I 4] [some (.box [I 0,Zcj])] [] trivial (Zdd ?_)
      refine Zin (Zda (Zpx (Zin (Zda ?_))))
      refine Zbw ((Lattice.mk 0 ([]:List Edge)),4) (show (4=0→Zdg (Lattice.mk 0 ([]:List Edge))∧(Lattice.mk 0 ([]:List Edge)).Nodes=l.Nodes∧∀x∈(Lattice.mk 0 ([]:List Edge)).Edges,x=e∨x∈l.Edges)∧(0≤4∧4≤20)∧(True) from ⟨(by first|omega|(exact fun q=>absurd q (by decide))|exact fun _=>⟨hput,rfl,hpm⟩),(by first|omega|(exact fun q=>absurd q (by decide))|exact fun _=>⟨hput,rfl,hpm⟩),trivial⟩) (trivial) (.tup [.agg [I 0,Zcj],I 4]) (by kernel_rfl) (.inr ⟨⟨rfl,⟨⟨rfl,rfl⟩,rfl⟩⟩,⟨rfl,rfl⟩⟩) (fun _=>rfl) (fun _=>(by simp [Zai,Zaf,Zff]))
     refine x_q [(4,.call [(true,.any),(false,.ptr false [I e.From,I e.To,Sv e.Label,I e.Cost])] true (I (Zjv (at_ l.Edges i.toNat) e))),(5,.dec false)] [2,3,4,6,30] [2,3,4] [(0:Int)≤i∧i<(l.Edges.length:Int),_∧((false=true→true=true)∧AV.idsL [I e.From,I e.To,Sv e.Label,I e.Cost]=[]∧(Zcn (I e.From)=Zcn (I e.From))∧(Zcn (I e.To)=Zcn (I e.To))∧(Zcn (Sv e.Label)=Zcn (Sv e.Label))∧(Zcn (I e.Cost)=Zcn (I e.Cost))∧([]:List AV)=[])∧True,_] ⟨⟨om,om⟩,⟨(Zif (at_ l.Edges i.toNat) e),⟨(fun h=>by cases h),rfl,⟨rfl,⟨rfl,⟨rfl,⟨rfl,rfl⟩⟩⟩⟩⟩,trivial⟩,h2,trivial⟩ (Zab (Zga (Zbd (Zba 1 (Zab ?_)))))
     refine x_r [] [2,3,4,6] [2,3,4] [.ref 2 0,.ref 3 0,.ref 4 0,I (i+1)] [some (Zbm l),some (Zld e),some (.box [I 0,Zcj])] [inR .i64 (i+1)] ⟨(Zad om om),trivial⟩ ?_
     exact Zay (i+1) rfl (show (0≤(i+1)∧(i+1)≤(l.Edges.length:Int))∧(∀j:Nat,(j:Int)<(i+1)→Zjv (at_ l.Edges j) e≠0)∧True from ⟨om,(by intro j hj;by_cases ej:j=i.toNat;(subst ej;assumption);exact hz0 j om),trivial⟩) (by first|(show (((l.Edges.length:Int)-(i+1)).toNat:Nat)<((l.Edges.length:Int)-i).toNat;omega)|(dsimp only;omega))
    have hne:∀x∈l.Edges,Zjv x e≠0:=fun x hx=>by obtain ⟨j,hj,q⟩:=List.getElem_of_mem hx;rw [←q,←Zea hj];exact hz0 j om
    refine x_r [(4,.dec false)] [2,3,4,6,22] [2,3,4] [.ref 2 0,.ref 3 0,.ref 4 0,I i,Bv false] [some (Zbm l),some (Zld e),some (.box [I 0,Zcj])] [_] ⟨h1,trivial⟩ (Zab (Zbt rfl (Zcp (Zas ?_))))
    refine Zax ?_
    refine Zat (Zab (Zak (Zak ?_)))
    by_cases h3:200≤(l.Edges.length:Int)
    ·refine x_q [(3,.dec true)] [2,3,4,35] [2,3,4] [_] ⟨h3,trivial⟩ (Zab (Zeh ?_))
     refine xR [] [4,5] [4] [.ref 4 0,I 5] [some (.box [I 0,Zcj])] [] trivial (Zdd (Zda ?_))
     refine Zbw ((Lattice.mk 0 ([]:List Edge)),5) (show (5=0→Zdg (Lattice.mk 0 ([]:List Edge))∧(Lattice.mk 0 ([]:List Edge)).Nodes=l.Nodes∧∀x∈(Lattice.mk 0 ([]:List Edge)).Edges,x=e∨x∈l.Edges)∧(0≤5∧5≤20)∧(True) from ⟨(by first|omega|(exact fun q=>absurd q (by decide))|exact fun _=>⟨hput,rfl,hpm⟩),(by first|omega|(exact fun q=>absurd q (by decide))|exact fun _=>⟨hput,rfl,hpm⟩),trivial⟩) (trivial) (.tup [.agg [I 0,Zcj],I 5]) (by kernel_rfl) (.inr ⟨⟨rfl,⟨⟨rfl,rfl⟩,rfl⟩⟩,⟨rfl,rfl⟩⟩) (fun _=>rfl) (fun _=>(by simp [Zai,Zaf,Zff]))
    refine x_q [(3,.dec false)] [2,3,4,35] [2,3,4] [_] ⟨h3,trivial⟩ (Zab (Zga (Zbd (Zab (Zak ?_)))))
    obtain ⟨v_1,hx1_0,hx1_1,hx1_2,hc1⟩:=Yiy l.Edges e hl.2.2.2 hne om
    have hput:=Yiw hl he hx1_0 om hx1_1 hx1_2
    have hpm:=hx1_1
    refine x_r [(5,.call [(true,.any),(true,.any)] true (Zbk true v_1))] [4,5] [4] [.ref 4 0,I 0] [some (.box [I l.Nodes,Zbk true v_1])] [_∧True] ⟨⟨hc1,trivial⟩,trivial⟩ (Zab (Zdd ?_))
    refine Zbw ((Lattice.mk l.Nodes v_1),0) (show (0=0→Zdg (Lattice.mk l.Nodes v_1)∧(Lattice.mk l.Nodes v_1).Nodes=l.Nodes∧∀x∈(Lattice.mk l.Nodes v_1).Edges,x=e∨x∈l.Edges)∧(0≤0∧0≤20)∧(True) from ⟨(by first|omega|(exact fun q=>absurd q (by decide))|exact fun _=>⟨hput,rfl,hpm⟩),(by first|omega|(exact fun q=>absurd q (by decide))|exact fun _=>⟨hput,rfl,hpm⟩),trivial⟩) (trivial) (.tup [.agg [I l.Nodes,Zbk true v_1],I 0]) (by kernel_rfl) (.inl rfl) (fun _=>rfl) (fun _=>(by simp [Zai,Zaf,Zff]))
  obtain ⟨⟨v,c⟩,⟨hh0,hh1,_⟩,hc⟩:=hh
  exact ⟨v,c,hh0,hh1,hc⟩
def rdr (e:Edge) (r:Reading):Reading:=⟨r.Text++e.Label,r.Cost+e.Cost⟩
theorem Zlm (a b:ByteArray):(a++b).toList=a.toList++b.toList:=by
 rw [Lib.toList_data,Lib.toList_data,Lib.toList_data,ByteArray.data_append,Array.toList_append]
theorem Zof (a:ByteArray):a.toList.length=a.size:=by rw [Lib.toList_data];rfl
theorem Ztj {a b:ByteArray} (h:a.toList=b.toList):a=b:=by
 rw [Lib.toList_data,Lib.toList_data] at h
 cases a;cases b
 simp only [ByteArray.mk.injEq]
 exact Array.toList_inj.1 h
theorem app_inj {a b c d:ByteArray} (h:a++c=b++d) (hs:c.size=d.size):a=b∧c=d:=by
 have q:=congrArg ByteArray.toList h
 rw [Zlm,Zlm] at q
 have l:=congrArg List.length q
 simp only [List.length_append,Zof] at l
 have z:=List.append_inj q (by rw [Zof,Zof];omega)
 exact ⟨Ztj z.1,Ztj z.2⟩
theorem nd_le {α:Type} [DecidableEq α]:∀ {xs ys:List α},xs.Nodup→(∀x∈xs,x∈ys)→xs.length≤ys.length
 | [],ys,_,_=>Nat.zero_le _
 |x::r,ys,hn,hs=>by
  rw [List.nodup_cons] at hn
  have hx:=hs x List.mem_cons_self
  have ih:=nd_le (xs:=r) (ys:=ys.erase x) hn.2 fun y hy=>(List.mem_erase_of_ne (fun e=>hn.1 (by rw [←e];exact hy))).2 (hs y (List.mem_cons_of_mem _ hy))
  rw [List.length_erase_of_mem hx] at ih
  have:0<ys.length:=List.length_pos_of_mem hx
  simp only [List.length_cons];omega
def Zry (l:Lattice) (c:List Int) (ch:ByteArray):Nat→List Int×Bool
 |0=>(List.replicate l.Nodes.toNat 1099511627776,false)
 |k+1=>if (at_ l.Edges k).Label=ch∧at_ c (at_ l.Edges k).From.toNat<1099511627776 then ((Zry l c ch k).1.set (at_ l.Edges k).To.toNat (min (at_ (Zry l c ch k).1 (at_ l.Edges k).To.toNat) (at_ c (at_ l.Edges k).From.toNat+(at_ l.Edges k).Cost)),true) else Zry l c ch k
def chA (w:ByteArray) (k:Nat):ByteArray:=w.extract k (k+1)
def Zlo (l:Lattice) (w:ByteArray):Nat→List Int
 |0=>(List.replicate l.Nodes.toNat 1099511627776).set 0 0
 |k+1=>(Zry l (Zlo l w k) (chA w k) l.Edges.length).1
def tcA (l:Lattice) (w:ByteArray) (k:Nat):Bool:=(Zry l (Zlo l w k) (chA w k) l.Edges.length).2
def tcF (l:Lattice) (w:ByteArray):Int:=if (Yar w.size fun k=> !(tcA l w k))=true then 1099511627776 else at_ (Zlo l w w.size) (l.Nodes-1).toNat
def Zyr (n:Nat) (b:Int) (c:List Int):Prop:=c.length=n∧∀j:Nat,j<n→0≤at_ c j∧(at_ c j≤b∨at_ c j=1099511627776)
theorem Yiz {n:Nat} {b x:Int} {c:List Int} {k:Nat} (h:Zyr n b c) (hx:0≤x∧(x≤b∨x=1099511627776)):Zyr n b (c.set k x):=⟨by rw [List.length_set];exact h.1,fun j hj=>by
 by_cases e:j=k
 ·subst e;rw [Zdb (by rw [h.1];exact hj)];exact hx
 ·rw [Zdz e];exact h.2 j hj⟩
theorem Yja (n:Nat) (b:Int):Zyr n b (List.replicate n 1099511627776):=⟨List.length_replicate,fun j hj=>by rw [Zea (by rw [List.length_replicate];exact hj),List.getElem_replicate];omega⟩
theorem Zwc {l:Lattice} (hl:Zdg l) {b:Int} (hb:0≤b) {c:List Int} (hc:Zyr l.Nodes.toNat b c) (ch:ByteArray):∀k:Nat,k≤l.Edges.length→Zyr l.Nodes.toNat (b+1000000) (Zry l c ch k).1
 |0,_=>Yja _ _
 |k+1,hk=>by
  have ih:=Zwc hl hb hc ch k om
  have he:=hl.2.2.1 k om
  unfold Zry
  split
  ·rename_i q
   have h1:=hc.2 (at_ l.Edges k).From.toNat (by have:=he.1;omega)
   have h2:=ih.2 (at_ l.Edges k).To.toNat (by have:=he.1;omega)
   have h3:=he.2.1
   exact Yiz ih om
  ·exact ih
theorem Zll {l:Lattice} (hl:Zdg l) (w:ByteArray):∀k:Nat,Zyr l.Nodes.toNat (1000000*k) (Zlo l w k)
 |0=>Yiz (Yja _ _) om
 |k+1=>by
  have:=Zwc hl om (Zll hl w k) (chA w k) l.Edges.length (Nat.le_refl _)
  rw [show (1000000*((k+1:Nat):Int))=1000000*(k:Int)+1000000 from by omega];exact this
theorem Yfb {l:Lattice} (hl:Zdg l) (w:ByteArray):0≤tcF l w∧(tcF l w≤1000000*w.size∨tcF l w=1099511627776):=by
 unfold tcF
 split
 ·omega
 ·have:=(Zll hl w w.size).2 (l.Nodes-1).toNat (by have:=hl.1;omega)
  exact this
def farN (n:Nat) (k:Nat):List Int:=List.replicate k 1099511627776++List.replicate (n-k) 0
theorem far_0 {n m:Nat} (h:m=n):List.replicate m (0:Int)=farN n 0:=by simp [farN,h]
theorem Ycu {n k:Nat} (h:k<n):(farN n k).set k 1099511627776=farN n (k+1):=by
 unfold farN
 rw [List.set_append_right _ _ (by simp)]
 rw [List.length_replicate,Nat.sub_self,show n-k=(n-(k+1))+1 from by omega,List.replicate_succ,List.set_cons_zero,List.replicate_succ',List.append_assoc]
 rfl
theorem Yif (n:Nat):farN n n=List.replicate n 1099511627776:=by simp [farN]
def exr (p:ByteArray→Bool) (e:Edge) (src:List Reading) (j:Nat):List Reading:=((src.take j).map (rdr e)).filter fun r=>p r.Text
def tbE (p:ByteArray→Bool) (l:Lattice) (n:Nat) (T0:List (List Reading)):Nat→List (List Reading)
 |0=>T0
 |i+1=>if (at_ l.Edges i).From=(n:Int) then (tbE p l n T0 i).set (at_ l.Edges i).To.toNat (at_ (tbE p l n T0 i) (at_ l.Edges i).To.toNat++exr p (at_ l.Edges i) (at_ (tbE p l n T0 i) n) (at_ (tbE p l n T0 i) n).length) else tbE p l n T0 i
def tbN (F:List Reading→List Reading) (p:ByteArray→Bool) (l:Lattice) (T0:List (List Reading)):Nat→List (List Reading)
 |0=>T0
 |n+1=>tbE p l n ((tbN F p l T0 n).set n (F (at_ (tbN F p l T0 n) n))) l.Edges.length
theorem tbE_ok {p:ByteArray→Bool} {l:Lattice} (hl:Zdg l) {n:Nat} (hn:(n:Int)<l.Nodes) {T0:List (List Reading)} (h0:T0.length=l.Nodes.toNat):∀i:Nat,i≤l.Edges.length→(tbE p l n T0 i).length=l.Nodes.toNat∧(∀j,j≤n→at_ (tbE p l n T0 i) j=at_ T0 j)∧∀j,n<j→j<l.Nodes.toNat→∀x,x∈at_ (tbE p l n T0 i) j↔x∈at_ T0 j∨∃i':Nat,i'<i∧(at_ l.Edges i').From=(n:Int)∧(at_ l.Edges i').To=(j:Int)∧p x.Text=true∧∃r∈at_ T0 n,x=rdr (at_ l.Edges i') r
 |0,_=>⟨h0,fun j _=>rfl,fun j _ _ x=>⟨.inl,fun q=>q.elim id fun ⟨i',h,_⟩=>absurd h (Nat.not_lt_zero _)⟩⟩
 |i+1,hi=>by
  have ih:=tbE_ok (p:=p) hl hn h0 i om
  have he:=(hl.2.2.1 i om).1
  have hc:tbE p l n T0 (i+1)=if (at_ l.Edges i).From=(n:Int) then (tbE p l n T0 i).set (at_ l.Edges i).To.toNat (at_ (tbE p l n T0 i) (at_ l.Edges i).To.toNat++exr p (at_ l.Edges i) (at_ (tbE p l n T0 i) n) (at_ (tbE p l n T0 i) n).length) else tbE p l n T0 i:=rfl
  rw [hc,ih.2.1 n (Nat.le_refl _)]
  by_cases hf:(at_ l.Edges i).From=(n:Int)
  ·rw [if_pos hf]
   refine ⟨by rw [List.length_set];exact ih.1,fun j hj=>by rw [Zdz om];exact ih.2.1 j hj,fun j hj1 hj2 x=> ?_⟩
   by_cases ej:j=(at_ l.Edges i).To.toNat
   ·rw [←ej,Zdb (by rw [ih.1];exact hj2),List.mem_append,ih.2.2 j hj1 hj2 x]
    have hx:x∈exr p (at_ l.Edges i) (at_ T0 n) (at_ T0 n).length↔p x.Text=true∧∃r∈at_ T0 n,x=rdr (at_ l.Edges i) r:=by
     unfold exr
     rw [List.take_length,List.mem_filter,List.mem_map]
     exact ⟨fun ⟨⟨r,a,b⟩,c⟩=>⟨c,r,a,b.symm⟩,fun ⟨c,r,a,b⟩=>⟨⟨r,a,b.symm⟩,c⟩⟩
    rw [hx]
    constructor
    ·rintro ((q|⟨i',a,b⟩)|q)
     ·exact .inl q
     ·exact .inr ⟨i',by omega,b⟩
     ·exact .inr ⟨i,by omega,hf,by omega,q⟩
    ·rintro (q|⟨i',a,b⟩)
     ·exact .inl (.inl q)
     ·by_cases e:i'=i
      ·subst e;exact .inr b.2.2
      ·exact .inl (.inr ⟨i',by omega,b⟩)
   ·rw [Zdz ej,ih.2.2 j hj1 hj2 x]
    constructor
    ·rintro (q|⟨i',a,b⟩)
     ·exact .inl q
     ·exact .inr ⟨i',by omega,b⟩
    ·rintro (q|⟨i',a,b⟩)
     ·exact .inl q
     ·by_cases e:i'=i
      ·subst e;exact absurd b.2.1 om
      ·exact .inr ⟨i',by omega,b⟩
  ·rw [if_neg hf]
   refine ⟨ih.1,ih.2.1,fun j hj1 hj2 x=> ?_⟩
   rw [ih.2.2 j hj1 hj2 x]
   constructor
   ·rintro (q|⟨i',a,b⟩)
    ·exact .inl q
    ·exact .inr ⟨i',by omega,b⟩
   ·rintro (q|⟨i',a,b⟩)
    ·exact .inl q
    ·by_cases e:i'=i
     ·subst e;exact absurd b.1 hf
     ·exact .inr ⟨i',by omega,b⟩
theorem Yjb {F:List Reading→List Reading} {p:ByteArray→Bool} {l:Lattice} (hl:Zdg l) {T0:List (List Reading)} (h0:T0.length=l.Nodes.toNat):∀n:Nat,(n:Int)≤l.Nodes→(tbN F p l T0 n).length=l.Nodes.toNat∧(∀j,j<n→at_ (tbN F p l T0 n) j=F (at_ (tbN F p l T0 j) j))∧∀j,n≤j→j<l.Nodes.toNat→∀x,x∈at_ (tbN F p l T0 n) j↔x∈at_ T0 j∨∃e∈l.Edges,e.From<(n:Int)∧e.To=(j:Int)∧p x.Text=true∧∃r∈at_ (tbN F p l T0 n) e.From.toNat,x=rdr e r
 |0,_=>⟨h0,fun j h=>absurd h (Nat.not_lt_zero _),fun j _ _ x=>⟨.inl,fun q=>q.elim id fun ⟨e,he,h,_⟩=>by
   obtain ⟨i,hi,q⟩:=List.getElem_of_mem he
   have:=(hl.2.2.1 i hi).1
   rw [Zea hi,q] at this
   omega⟩⟩
 |n+1,hn=>by
  have ih:=Yjb (F:=F) (p:=p) hl h0 n om
  have hT:((tbN F p l T0 n).set n (F (at_ (tbN F p l T0 n) n))).length=l.Nodes.toNat:=by rw [List.length_set];exact ih.1
  have hE:=tbE_ok (p:=p) hl (n:=n) om hT l.Edges.length (Nat.le_refl _)
  show (tbE p l n _ _).length=_∧(∀j,j<n+1→at_ (tbE p l n ((tbN F p l T0 n).set n (F (at_ (tbN F p l T0 n) n))) l.Edges.length) j=_)∧∀j,n+1≤j→j<l.Nodes.toNat→∀x,x∈at_ (tbE p l n ((tbN F p l T0 n).set n (F (at_ (tbN F p l T0 n) n))) l.Edges.length) j↔x∈at_ T0 j∨∃e∈l.Edges,e.From<((n+1:Nat):Int)∧e.To=(j:Int)∧p x.Text=true∧∃r∈at_ (tbE p l n ((tbN F p l T0 n).set n (F (at_ (tbN F p l T0 n) n))) l.Edges.length) e.From.toNat,x=rdr e r
  generalize tbE p l n ((tbN F p l T0 n).set n (F (at_ (tbN F p l T0 n) n))) l.Edges.length=T at hE⊢
  have hrow:∀j,j<n+1→at_ T j=F (at_ (tbN F p l T0 j) j):=fun j hj=>by
   rw [hE.2.1 j om]
   by_cases e:j=n
   ·subst e;rw [Zdb (by rw [ih.1];omega)]
   ·rw [Zdz e];exact ih.2.1 j om
  refine ⟨hE.1,hrow,fun j hj1 hj2 x=> ?_⟩
  rw [hE.2.2 j om hj2 x,Zdz om,ih.2.2 j om hj2 x,Zdb (by rw [ih.1];omega)]
  have hfr:∀e:Edge,0≤e.From→e.From<(n:Int)→at_ T e.From.toNat=at_ (tbN F p l T0 n) e.From.toNat:=fun e h1 h2=>by
   rw [hrow _ om,ih.2.1 _ om]
  have hnn:at_ T n=F (at_ (tbN F p l T0 n) n):=hrow n om
  have hed:∀e∈l.Edges,0≤e.From:=fun e he=>by
   obtain ⟨i,hi,q⟩:=List.getElem_of_mem he
   have:=(hl.2.2.1 i hi).1
   rw [Zea hi,q] at this
   omega
  constructor
  ·rintro ((q|⟨e,he,a,b,c,r,d⟩)|⟨i',hi',a,b,c,r,d⟩)
   ·exact .inl q
   ·exact .inr ⟨e,he,by omega,b,c,r,by rw [hfr e (hed e he) a];exact d.1,d.2⟩
   ·exact .inr ⟨at_ l.Edges i',Zca hi',by omega,b,c,r,by rw [a,Int.toNat_natCast,hnn];exact d.1,d.2⟩
  ·rintro (q|⟨e,he,a,b,c,r,d⟩)
   ·exact .inl (.inl q)
   ·by_cases ef:e.From=(n:Int)
    ·right
     obtain ⟨i',hi',q⟩:=List.getElem_of_mem he
     rw [←Zea hi'] at q
     refine ⟨i',hi',by rw [q];exact ef,by rw [q];exact b,c,r,?_,by rw [q];exact d.2⟩
     have:=d.1
     rw [ef,Int.toNat_natCast,hnn] at this
     exact this
    ·refine .inl (.inr ⟨e,he,by omega,b,c,r,?_,d.2⟩)
     rw [←hfr e (hed e he) om];exact d.1
def rd0:Reading:=⟨⟨#[]⟩,0⟩
def tb0 (l:Lattice):List (List Reading):=(List.replicate l.Nodes.toNat []).set 0 [rd0]
theorem tb0_len (l:Lattice):(tb0 l).length=l.Nodes.toNat:=by unfold tb0;rw [List.length_set,List.length_replicate]
theorem Yih {α:Type} [Inhabited α] {x:α} {n j:Nat} (h:j<n):at_ (List.replicate n x) j=x:=by rw [Zea (by rw [List.length_replicate];exact h),List.getElem_replicate]
theorem tb0_mem {l:Lattice} (hl:Zdg l) {j:Nat} (hj:j<l.Nodes.toNat) (x:Reading):x∈at_ (tb0 l) j↔j=0∧x=rd0:=by
 unfold tb0
 by_cases e:j=0
 ·subst e
  rw [Zdb (by rw [List.length_replicate];exact hj)];simp
 ·rw [Zdz e,Yih hj];simp [e]
def allT (l:Lattice):List (List Reading):=tbN id (fun _=>true) l (tb0 l) l.Nodes.toNat
def pth (l:Lattice) (j:Nat) (x:Reading):Prop:=x∈at_ (allT l) j
theorem tb_fix {F:List Reading→List Reading} {p:ByteArray→Bool} {l:Lattice} (hl:Zdg l) {T0:List (List Reading)} (h0:T0.length=l.Nodes.toNat) {N:Nat} (hN:(N:Int)≤l.Nodes) {j:Nat} (hj:j<N):at_ (tbN F p l T0 N) j=F (at_ (tbN F p l T0 j) j)∧∀x,x∈at_ (tbN F p l T0 j) j↔x∈at_ T0 j∨∃e∈l.Edges,e.To=(j:Int)∧p x.Text=true∧∃r∈at_ (tbN F p l T0 N) e.From.toNat,x=rdr e r:=by
 have a:=Yjb (F:=F) (p:=p) hl h0 N hN
 have b:=Yjb (F:=F) (p:=p) hl h0 j om
 refine ⟨a.2.1 j hj,fun x=> ?_⟩
 rw [b.2.2 j (Nat.le_refl _) om x]
 have hed:∀e∈l.Edges,0≤e.From∧e.From<e.To:=fun e he=>by
  obtain ⟨i,hi,q⟩:=List.getElem_of_mem he
  have:=(hl.2.2.1 i hi).1
  rw [Zea hi,q] at this
  omega
 have hfr:∀e∈l.Edges,e.From<(j:Int)→at_ (tbN F p l T0 j) e.From.toNat=at_ (tbN F p l T0 N) e.From.toNat:=fun e he h=>by
  have:=hed e he
  rw [b.2.1 _ om,a.2.1 _ om]
 constructor
 ·rintro (q|⟨e,he,h1,h2,h3,r,h4⟩)
  ·exact .inl q
  ·exact .inr ⟨e,he,h2,h3,r,by rw [←hfr e he h1];exact h4.1,h4.2⟩
 ·rintro (q|⟨e,he,h2,h3,r,h4⟩)
  ·exact .inl q
  ·have:=hed e he
   exact .inr ⟨e,he,by omega,h2,h3,r,by rw [hfr e he om];exact h4.1,h4.2⟩
theorem Zjy {l:Lattice} (hl:Zdg l) {j:Nat} (hj:j<l.Nodes.toNat) (x:Reading):pth l j x↔(j=0∧x=rd0)∨∃e∈l.Edges,e.To=(j:Int)∧∃r,pth l e.From.toNat r∧x=rdr e r:=by
 have h:=tb_fix (F:=id) (p:=fun _=>true) hl (tb0_len l) (N:=l.Nodes.toNat) om hj
 unfold pth allT
 rw [h.1]
 show x∈at_ (tbN id (fun _=>true) l (tb0 l) j) j↔_
 rw [h.2 x,tb0_mem hl hj]
 exact ⟨fun q=>q.elim .inl fun ⟨e,a,b,_,r,c⟩=> .inr ⟨e,a,b,r,c⟩,fun q=>q.elim .inl fun ⟨e,a,b,r,c⟩=> .inr ⟨e,a,b,rfl,r,c⟩⟩
theorem Yep {l:Lattice} (hl:Zdg l) {e:Edge} (he:e∈l.Edges):okEd l e:=by
 obtain ⟨i,hi,q⟩:=List.getElem_of_mem he
 have:=hl.2.2.1 i hi
 rw [Zea hi,q] at this
 exact this
theorem Zou {l:Lattice} (hl:Zdg l):∀(m j:Nat),j≤m→j<l.Nodes.toNat→∀x,pth l j x→x.Text.size≤j∧0≤x.Cost∧x.Cost≤1000000*x.Text.size
 |0,j,hm,hj,x,h=>by
  rcases (Zjy hl hj x).1 h with ⟨_,q⟩|⟨e,he,a,_⟩
  ·subst q;exact ⟨Nat.zero_le _,Int.le_refl _,by show (0:Int)≤1000000*((0:Nat):Int);omega⟩
  ·have:=(Yep hl he).1;omega
 |m+1,j,hm,hj,x,h=>by
  rcases (Zjy hl hj x).1 h with ⟨_,q⟩|⟨e,he,a,r,hr,q⟩
  ·subst q;exact ⟨Nat.zero_le _,Int.le_refl _,by show (0:Int)≤1000000*((0:Nat):Int);omega⟩
  ·have b:=Yep hl he
   have b1:=b.1
   have c:=Zou hl m e.From.toNat om om r hr
   have s:=Zgt b.2.2
   have e1:x.Text.size=r.Text.size+1:=by rw [q];show (r.Text++e.Label).size=_;rw [ByteArray.size_append,s]
   have e2:x.Cost=r.Cost+e.Cost:=by rw [q];rfl
   have:=b.1
   have:=b.2.1
   refine ⟨by omega,by omega,?_⟩
   rw [e1,e2];omega
def degL (l:Lattice):Prop:=l.Nodes≤6∧∀n:Nat,(l.Edges.filter fun e=>decide (e.From=(n:Int))).length≤4
theorem ed_nodup {xs:List Edge} (h:xs.Pairwise fun x y=>Zjv x y<0):xs.Nodup:=h.imp fun {x y} q e=>by rw [e,cmpE_w.refl] at q;omega
theorem deg_add {xs v:List Edge} {e:Edge} {n:Nat} (hv:v.Pairwise fun x y=>Zjv x y<0) (hm:∀x∈v,x=e∨x∈xs):(v.filter fun x=>decide (x.From=(n:Int))).length≤(xs.filter fun x=>decide (x.From=(n:Int))).length+if e.From=(n:Int) then 1 else 0:=by
 have:=nd_le (xs:=v.filter fun x=>decide (x.From=(n:Int))) (ys:=(e::xs).filter fun x=>decide (x.From=(n:Int))) ((ed_nodup hv).sublist List.filter_sublist) fun x hx=>by
  rw [List.mem_filter] at hx⊢
  exact ⟨(hm x hx.1).elim (fun q=>by rw [q];exact List.mem_cons_self) (fun q=>List.mem_cons_of_mem _ q),hx.2⟩
 rw [List.filter_cons] at this
 by_cases q:e.From=(n:Int)
 ·rw [if_pos q];rw [if_pos (decide_eq_true q)] at this;simpa using this
 ·rw [if_neg q];rw [if_neg (fun z=>q (of_decide_eq_true z))] at this;exact this
def Zyv (l:Lattice) (n m:Int):Prop:=∀j:Nat,((l.Edges.filter fun x=>decide (x.From=(j:Int))).length:Int)≤if (j:Int)<n then 4 else if (j:Int)=n then m else 0
theorem degI_0 {n:Int} :Zyv ⟨n,[]⟩ 0 0:=fun j=>by
 show ((0:Nat):Int)≤_
 split
 ·omega
 ·split<;>omega
theorem Zfi {l:Lattice} {n a b:Int} (h:Zyv l n a) (hab:a≤b):Zyv l n b:=fun j=>by
 have:=h j
 split at this
 ·rename_i q;rw [if_pos q];exact this
 ·rename_i q;rw [if_neg q];split at this
  ·rename_i q2;rw [if_pos q2];omega
  ·rename_i q2;rw [if_neg q2];exact this
theorem Yjc {l:Lattice} {n:Int} (h:Zyv l n 4):Zyv l (n+1) 0:=fun j=>by
 have:=h j
 by_cases q:(j:Int)<n+1
 ·rw [if_pos q]
  split at this
  ·exact this
  ·split at this<;>omega
 ·rw [if_neg q]
  rw [if_neg om,if_neg om] at this
  split<;>exact this
theorem Ydb {l v:Lattice} {e:Edge} {n m:Int} (h:Zyv l n m) (hv:Zdg v) (hm:∀x∈v.Edges,x=e∨x∈l.Edges) (he:e.From=n):Zyv v n (m+1):=fun j=>by
 have a:=deg_add (n:=j) hv.2.2.2 hm
 have b:=h j
 by_cases q:(j:Int)=n
 ·rw [if_neg om,if_pos q] at b⊢
  rw [if_pos om] at a
  omega
 ·rw [if_neg om] at a
  split at b
  ·rename_i q2;rw [if_pos q2];omega
  ·rename_i q2;rw [if_neg q2,if_neg q];(try rw [if_neg q] at b);omega
theorem Znf {l:Lattice} {n:Int} (h:Zyv l n 4) (h6:l.Nodes≤6):degL l:=⟨h6,fun j=>by
 have:=h j
 split at this
 ·omega
 ·split at this<;>omega⟩
theorem Yet (s:l00Src) (most:Int) (hs:Zbh s) (ha:s.atx≤3999999999999996000) (hmo:0≤most∧most≤6):∃(v:Lattice) (s':l00Src),(Zbh s')∧(s'.code=s.code)∧(s.atx+0≤s'.atx∧s'.atx≤s.atx+400)∧(Zdg v)∧(degL v)∧Zaw Tryz.prog 18 [.ref 7001 0,I most] (Zae [(7001,Zaa s)]) true (Zdt v) (Zae [(7001,Zaa s')]):=by
  have hh:∃r:Lattice×l00Src,((Zbh r.2)∧(r.2.code=s.code)∧(s.atx+0≤r.2.atx∧r.2.atx≤s.atx+400)∧(Zdg r.1)∧(degL r.1)∧(True))∧Zaw Tryz.prog 18 [.ref 7001 0,I most] (Zae [(7001,Zaa s)]) true (Zdt r.1) (Zae [(7001,Zaa r.2)]):=by
    refine Zcv (Φ:=fun r:Lattice×l00Src=>(Zbh r.2)∧(r.2.code=s.code)∧(s.atx+0≤r.2.atx∧r.2.atx≤s.atx+400)∧(Zdg r.1)∧(degL r.1)∧(True)) [(7001,Zaa s)] (fun r=>[(7001,Zaa r.2)]) (fn:=Tryz.f18) (nt:=57) Tryz.func18 rfl rfl (args:=[.ref 7001 0,I most]) rfl (Zbc (.inr trivial) (Zbc (.inl ⟨rfl,trivial⟩) Zcw)) (res:=fun r=>Zdt r.1) ?_
    refine xQ [(0,.new 4)] [0,1,4] [4,7001] [] trivial (Zak ?_)
    obtain ⟨v_1,s'_1,hx1_0,hx1_1,hx1_2,hx1_3,hc1⟩:=Zcl s most (by first|assumption|(simp only [Zbh] at*;simp_all;done)) om
    refine x_q [(2,.lend [(7001,Zaa s,Zaa s'_1)] [] [(true,.any),(true,.any)] true (I v_1)),(5,.new 5)] [0,4,5] [4,5,7001] [Zaw Tryz.prog 28 [.ref 7001 0,I most] (Zae [(7001,Zaa s)]) true (I v_1) (Zae [(7001,Zaa s'_1)])∧(((Zaa s:Ob)=Zaa s∨Zer Zeg true (Zaa s) (Zaa s))∧Zal false (Zaa s))∧True,inR .i64 (1+v_1)] ⟨⟨hc1,⟨.inl rfl,(by simp [Zal,Zaf,Zai,Zcx])⟩,trivial⟩,(Zad om om),trivial⟩ (Zab (Zak ?_))
    refine xR [] [0,4,5,6] [4,5,7001] [.ref 7001 0,.ref 4 0,.ref 5 0,I 0] [some (.box [I 0,Zcj]),some (.box [I (1+v_1),Zcj]),some (Zaa s'_1)] [] trivial (Zbb ?_)
    refine Zdh [] (T:=[(0,.ref 7001 0),(4,.ref 4 0),(5,.ref 5 0),(6,I 0)]) (O:=[(4,.box [I 0,Zcj]),(5,.box [I ((Lattice.mk (1+v_1) ([]:List Edge)).Nodes),.sl true 4 ((Lattice.mk (1+v_1) ([]:List Edge)).Edges.length) (Zdq ((Lattice.mk (1+v_1) ([]:List Edge)).Edges))]),(7001,Zaa s'_1)]) rfl (⟨.inl rfl,.inl rfl,.inl rfl,.inl rfl,trivial⟩) (⟨.inl rfl,.inr ⟨(by first|rfl|(simp [Zcn];done)|(simp [Zcn];omega)),⟨⟨rfl,rfl⟩,rfl⟩⟩,.inl rfl,trivial⟩) ?_
    refine Zdc (X:=Int×Lattice×l00Src) (fun x=>mkS [(0,.ref 7001 0),(4,.ref 4 0),(5,.ref 5 0),(6,I x.1)] [(4,.box [I 0,Zcj]),(5,Zct x.2.1),(7001,Zaa x.2.2)]) (fun x=>(Zbh x.2.2∧x.2.2.code=s.code∧s.atx≤x.2.2.atx∧x.2.2.atx≤s.atx+10+50*x.1)∧(0≤x.1∧x.1≤6)∧(Zdg x.2.1)∧(x.2.1.Nodes≤6∧(x.1<x.2.1.Nodes))∧(Zyv x.2.1 x.1 0)∧True) (fun x=>(x.2.1.Nodes-x.1).toNat) (0,(Lattice.mk (1+v_1) ([]:List Edge)),s'_1) rfl (show (Zbh s'_1∧s'_1.code=s.code∧s.atx≤s'_1.atx∧s'_1.atx≤s.atx+10+50*(0:Int))∧(0≤(0:Int)∧(0:Int)≤6)∧(Zdg (Lattice.mk (1+v_1) ([]:List Edge)))∧((Lattice.mk (1+v_1) ([]:List Edge)).Nodes≤6∧((0:Int)<(Lattice.mk (1+v_1) ([]:List Edge)).Nodes))∧(Zyv (Lattice.mk (1+v_1) ([]:List Edge)) (0:Int) 0)∧True from ⟨(by exact ⟨by assumption,by first|assumption|rfl|(simp only [*];done),by omega,by omega⟩),om,(by exact Yix om),(by (dsimp only;omega)),(by exact degI_0),trivial⟩) (fun x hI=> ?_)
    obtain ⟨n,out,src⟩:=x
    obtain ⟨hs0,hn0,hla,hno,hdg,_⟩:(Zbh src∧src.code=s.code∧s.atx≤src.atx∧src.atx≤s.atx+10+50*n)∧(0≤n∧n≤6)∧(Zdg out)∧(out.Nodes≤6∧(n<out.Nodes))∧(Zyv out n 0)∧True:=hI
    show XW _ _ _ _ (mkS [(0,.ref 7001 0),(4,.ref 4 0),(5,.ref 5 0),(6,I n)] [(4,.box [I 0,Zcj]),(5,Zct out),(7001,Zaa src)]) _ _
    refine Zak (Zak ?_)
    by_cases h1:(n+1)<out.Nodes
    ·refine x_q [(4,.dec true)] [0,4,5,6,21] [4,5,7001] [inR .i64 (n+1),_] ⟨(Zad om om),h1,trivial⟩ (Zab (Zeh (Zbd (Zab (Zak (Zbb (Zak ?_)))))))
     obtain ⟨v_2,s'_2,hx2_0,hx2_1,hx2_2,hx2_3,hc2⟩:=Zcl src 5 (by first|assumption|(simp only [Zbh] at*;simp_all;done)) om
     refine x_r [(1,.lend [(7001,Zaa src,Zaa s'_2)] [] [(true,.any),(true,.any)] true (I v_2))] [0,4,5,6,7] [4,5,7001] [.ref 7001 0,.ref 4 0,.ref 5 0,I n,I v_2] [some (.box [I 0,Zcj]),some (Zct out),some (Zaa s'_2)] [Zaw Tryz.prog 28 [.ref 7001 0,I 5] (Zae [(7001,Zaa src)]) true (I v_2) (Zae [(7001,Zaa s'_2)])∧(((Zaa src:Ob)=Zaa src∨Zer Zeg true (Zaa src) (Zaa src))∧Zal false (Zaa src))∧True] ⟨⟨hc2,⟨.inl rfl,(by simp [Zal,Zaf,Zai,Zcx])⟩,trivial⟩,trivial⟩ (Zab (Zbb ?_))
     refine Zdc (X:=Int×Lattice×l00Src) (fun x=>mkS [(0,.ref 7001 0),(4,.ref 4 0),(5,.ref 5 0),(6,I n),(7,I x.1)] [(4,.box [I 0,Zcj]),(5,Zct x.2.1),(7001,Zaa x.2.2)]) (fun x=>(Zbh x.2.2∧x.2.2.code=s.code∧s.atx≤x.2.2.atx∧x.2.2.atx≤s.atx+12+50*n+8*(5-x.1))∧(0≤x.1∧x.1≤4)∧(Zdg x.2.1)∧(x.2.1.Nodes=out.Nodes)∧(Zyv x.2.1 n (4-x.1))∧True) (fun x=>x.1.toNat) (v_2,out,s'_2) rfl (show (Zbh s'_2∧s'_2.code=s.code∧s.atx≤s'_2.atx∧s'_2.atx≤s.atx+12+50*n+8*(5-v_2))∧(0≤v_2∧v_2≤4)∧(Zdg out)∧(out.Nodes=out.Nodes)∧(Zyv out n (4-v_2))∧True from ⟨(by exact ⟨by assumption,by first|assumption|rfl|(simp only [*];done),by omega,by omega⟩),om,(by assumption),(by rfl),(by exact Zfi hdg om),trivial⟩) (fun x hI=> ?_)
     obtain ⟨k,out',src'⟩:=x
     obtain ⟨hs0,hk0,hla,hno2,hdg,_⟩:(Zbh src'∧src'.code=s.code∧s.atx≤src'.atx∧src'.atx≤s.atx+12+50*n+8*(5-k))∧(0≤k∧k≤4)∧(Zdg out')∧(out'.Nodes=out.Nodes)∧(Zyv out' n (4-k))∧True:=hI
     show XW _ _ _ _ (mkS [(0,.ref 7001 0),(4,.ref 4 0),(5,.ref 5 0),(6,I n),(7,I k)] [(4,.box [I 0,Zcj]),(5,Zct out'),(7001,Zaa src')]) _ _
     refine Zak (Zak ?_)
     by_cases h2:0<k
     ·refine x_q [(1,.dec true)] [0,4,5,6,7,27] [4,5,7001] [_] ⟨h2,trivial⟩ (Zab (Zeh (Zbd (Zab (Zak (Zbb (Zak ?_)))))))
      obtain ⟨v_3,s'_3,hx3_0,hx3_1,hx3_2,hx3_3,hc3⟩:=Zcl src' 2 (by first|assumption|(simp only [Zbh] at*;simp_all;done)) om
      refine x_q [(3,.lend [(7001,Zaa src',Zaa s'_3)] [] [(true,.any),(true,.any)] true (I v_3))] [0,4,5,6,7,8] [4,5,7001] [inR .i64 (n+1),Zaw Tryz.prog 28 [.ref 7001 0,I 2] (Zae [(7001,Zaa src')]) true (I v_3) (Zae [(7001,Zaa s'_3)])∧(((Zaa src':Ob)=Zaa src'∨Zer Zeg true (Zaa src') (Zaa src'))∧Zal false (Zaa src'))∧True,inR .i64 ((n+1)+v_3)] ⟨(Zad om om),⟨hc3,⟨.inl rfl,(by simp [Zal,Zaf,Zai,Zcx])⟩,trivial⟩,(Zad om om),trivial⟩ (Zab (Zak ?_))
      obtain ⟨v_4,s'_4,hx4_0,hx4_1,hx4_2,hx4_3,hx4_4,hc4⟩:=Yiu s'_3 ([(⟨#[97]⟩:ByteArray),(⟨#[110]⟩:ByteArray),(⟨#[116]⟩:ByteArray),(⟨#[101]⟩:ByteArray),(⟨#[115]⟩:ByteArray),(⟨#[105]⟩:ByteArray)]) (by first|assumption|(simp only [Zbh] at*;simp_all;done)) om (by decide)
      have hlab:Zeq v_4=true:=by have q:=hx4_4;simp only [List.mem_cons,List.not_mem_nil,or_false] at q;rcases q with q|q|q|q|q|q<;>rw [q]<;>decide
      obtain ⟨v_5,s'_5,hx5_0,hx5_1,hx5_2,hx5_3,hc5⟩:=Zcl s'_4 40 (by first|assumption|(simp only [Zbh] at*;simp_all;done)) om
      refine x_q [(5,.call [(true,.any),(true,.any)] true (I (min ((n+1)+v_3) (out'.Nodes-1)))),(7,.new 42),(8,.lend [(7001,Zaa s'_3,Zaa s'_4)] [] [(true,.any),(false,slS false ([(⟨#[97]⟩:ByteArray),(⟨#[110]⟩:ByteArray),(⟨#[116]⟩:ByteArray),(⟨#[101]⟩:ByteArray),(⟨#[115]⟩:ByteArray),(⟨#[105]⟩:ByteArray)]))] true (Sv v_4)),(10,.lend [(7001,Zaa s'_4,Zaa s'_5)] [] [(true,.any),(true,.any)] true (I v_5)),(12,.new 9)] [0,4,5,6,7,9] [4,5,9,7001] [inR .i64 (out'.Nodes-1),_∧True,Zaw Tryz.prog 48 [.ref 7001 0,slS false ([(⟨#[97]⟩:ByteArray),(⟨#[110]⟩:ByteArray),(⟨#[116]⟩:ByteArray),(⟨#[101]⟩:ByteArray),(⟨#[115]⟩:ByteArray),(⟨#[105]⟩:ByteArray)])] (Zae [(7001,Zaa s'_3)]) true (Sv v_4) (Zae [(7001,Zaa s'_4)])∧((false=true→true=true)∧1=1∧6=(([(⟨#[97]⟩:ByteArray),(⟨#[110]⟩:ByteArray),(⟨#[116]⟩:ByteArray),(⟨#[101]⟩:ByteArray),(⟨#[115]⟩:ByteArray),(⟨#[105]⟩:ByteArray)]).length)∧∀i_,i_<(([(⟨#[97]⟩:ByteArray),(⟨#[110]⟩:ByteArray),(⟨#[116]⟩:ByteArray),(⟨#[101]⟩:ByteArray),(⟨#[115]⟩:ByteArray),(⟨#[105]⟩:ByteArray)]).length)→(Zhu [Sv (⟨#[97]⟩:ByteArray),Sv (⟨#[110]⟩:ByteArray),Sv (⟨#[116]⟩:ByteArray),Sv (⟨#[101]⟩:ByteArray),Sv (⟨#[115]⟩:ByteArray),Sv (⟨#[105]⟩:ByteArray)] 1) i_=(fS ([(⟨#[97]⟩:ByteArray),(⟨#[110]⟩:ByteArray),(⟨#[116]⟩:ByteArray),(⟨#[101]⟩:ByteArray),(⟨#[115]⟩:ByteArray),(⟨#[105]⟩:ByteArray)])) i_∨(AV.idsL ((fS ([(⟨#[97]⟩:ByteArray),(⟨#[110]⟩:ByteArray),(⟨#[116]⟩:ByteArray),(⟨#[101]⟩:ByteArray),(⟨#[115]⟩:ByteArray),(⟨#[105]⟩:ByteArray)])) i_)=[]∧leL (fun _=>none) false ((Zhu [Sv (⟨#[97]⟩:ByteArray),Sv (⟨#[110]⟩:ByteArray),Sv (⟨#[116]⟩:ByteArray),Sv (⟨#[101]⟩:ByteArray),Sv (⟨#[115]⟩:ByteArray),Sv (⟨#[105]⟩:ByteArray)] 1) i_) ((fS ([(⟨#[97]⟩:ByteArray),(⟨#[110]⟩:ByteArray),(⟨#[116]⟩:ByteArray),(⟨#[101]⟩:ByteArray),(⟨#[115]⟩:ByteArray),(⟨#[105]⟩:ByteArray)])) i_)))∧(((Zaa s'_3:Ob)=Zaa s'_3∨Zer Zeg true (Zaa s'_3) (Zaa s'_3))∧Zal false (Zaa s'_3))∧True,Zaw Tryz.prog 28 [.ref 7001 0,I 40] (Zae [(7001,Zaa s'_4)]) true (I v_5) (Zae [(7001,Zaa s'_5)])∧(((Zaa s'_4:Ob)=Zaa s'_4∨Zer Zeg true (Zaa s'_4) (Zaa s'_4))∧Zal false (Zaa s'_4))∧True] ⟨(Zad om om),⟨(Zgf ((n+1)+v_3) (out'.Nodes-1)),trivial⟩,⟨hc4,⟨(fun h=>by cases h),rfl,(by first|rfl|(simp;done)|(simp;omega)|omega),fun i_ hi_=> .inl (match i_,hi_ with|0,_=>rfl|1,_=>rfl|2,_=>rfl|3,_=>rfl|4,_=>rfl|5,_=>rfl|(i+6),h=>absurd h (by simp))⟩,⟨.inl rfl,(by simp [Zal,Zaf,Zai,Zcx])⟩,trivial⟩,⟨hc5,⟨.inl rfl,(by simp [Zal,Zaf,Zai,Zcx])⟩,trivial⟩,trivial⟩ (Zab (Zak ?_))
      obtain ⟨v_6,c_6,hx6_0,hx6_1,hc6⟩:=Zsq out' (Edge.mk n (min ((n+1)+v_3) (out'.Nodes-1)) v_4 v_5) hla (show okEd _ _ from ⟨⟨by dsimp only;omega,by dsimp only;omega,by dsimp only;omega⟩,⟨by dsimp only;omega,by dsimp only;omega⟩,hlab⟩)
      have hadd:=hx6_0
      refine x_q [(2,.call [(false,Zcr out'),(true,.any)] true (.tup [Zdt v_6,I c_6])),(6,.new 10)] [0,4,5,6,7,10,11] [4,5,10,7001] [_∧((Zcn (I out'.Nodes)=Zcn (I out'.Nodes))∧((false=true→true=true)∧4=4∧out'.Edges.length=out'.Edges.length∧∀i_,i_<out'.Edges.length→(Zdq out'.Edges) i_=(Zdq out'.Edges) i_∨(AV.idsL ((Zdq out'.Edges) i_)=[]∧leL (fun _=>none) false ((Zdq out'.Edges) i_) ((Zdq out'.Edges) i_)))∧([]:List AV)=[])∧True] ⟨⟨hc6,⟨rfl,⟨⟨(fun h=>by cases h),rfl,rfl,fun i _=> .inl rfl⟩,rfl⟩⟩,trivial⟩,trivial⟩ (Zab (Zak ?_))
      by_cases h3:c_6=0
      ·refine x_q [(1,.dec true)] [0,4,5,6,7,10,54] [4,5,10,7001] [_] ⟨h3,trivial⟩ (Zab (Zeh ?_))
       refine x_q [] [0,4,5,6,7] [4,5,7001] [] trivial (Zba 3 (Zab ?_))
       refine x_r [] [0,4,5,6,7] [4,5,7001] [.ref 7001 0,.ref 4 0,.ref 5 0,I n,I (k-1)] [some (.box [I 0,Zcj]),some (Zct v_6),some (Zaa s'_5)] [inR .i64 (k-1)] ⟨(Zad om om),trivial⟩ ?_
       exact Zay ((k-1),v_6,s'_5) rfl (show (Zbh s'_5∧s'_5.code=s.code∧s.atx≤s'_5.atx∧s'_5.atx≤s.atx+12+50*n+8*(5-(k-1)))∧(0≤(k-1)∧(k-1)≤4)∧(Zdg v_6)∧(v_6.Nodes=out.Nodes)∧(Zyv v_6 n (4-(k-1)))∧True from ⟨(by exact ⟨by assumption,by first|assumption|rfl|(simp only [*];done),by omega,by omega⟩),om,(by first|exact (hadd om).1|assumption),(by first|exact (hadd om).2.1.trans hno2|assumption),(by first|exact Zfi (Ydb hdg (hadd om).1 (hadd om).2.2 rfl) om|exact Zfi hdg om),trivial⟩) (by first|(show ((k-1).toNat:Nat)<k.toNat;omega)|(dsimp only;omega))
      refine x_q [(1,.dec false)] [0,4,5,6,7,10,54] [4,5,10,7001] [_] ⟨h3,trivial⟩ (Zab (Zga (Zbd (Zba 3 (Zab ?_)))))
      refine x_r [] [0,4,5,6,7] [4,5,7001] [.ref 7001 0,.ref 4 0,.ref 5 0,I n,I (k-1)] [some (.box [I 0,Zcj]),some (Zct out'),some (Zaa s'_5)] [inR .i64 (k-1)] ⟨(Zad om om),trivial⟩ ?_
      exact Zay ((k-1),out',s'_5) rfl (show (Zbh s'_5∧s'_5.code=s.code∧s.atx≤s'_5.atx∧s'_5.atx≤s.atx+12+50*n+8*(5-(k-1)))∧(0≤(k-1)∧(k-1)≤4)∧(Zdg out')∧(out'.Nodes=out.Nodes)∧(Zyv out' n (4-(k-1)))∧True from ⟨(by exact ⟨by assumption,by first|assumption|rfl|(simp only [*];done),by omega,by omega⟩),om,(by first|exact (hadd om).1|assumption),(by first|exact (hadd om).2.1.trans hno2|assumption),(by first|exact Zfi (Ydb hdg (hadd om).1 (hadd om).2.2 rfl) om|exact Zfi hdg om),trivial⟩) (by first|(show ((k-1).toNat:Nat)<k.toNat;omega)|(dsimp only;omega))
     refine x_r [(1,.dec false)] [0,4,5,6,7,27] [4,5,7001] [.ref 7001 0,.ref 4 0,.ref 5 0,I n,I k,Bv false] [some (.box [I 0,Zcj]),some (Zct out'),some (Zaa src')] [_] ⟨h2,trivial⟩ (Zab (Zbt rfl (Zcp (Zas ?_))))
     refine Zax ?_
     refine Zat (Zba 1 (Zab ?_))
     refine x_r [] [0,4,5,6] [4,5,7001] [.ref 7001 0,.ref 4 0,.ref 5 0,I (n+1)] [some (.box [I 0,Zcj]),some (Zct out'),some (Zaa src')] [inR .i64 (n+1)] ⟨(Zad om om),trivial⟩ ?_
     exact Zay ((n+1),out',src') rfl (show (Zbh src'∧src'.code=s.code∧s.atx≤src'.atx∧src'.atx≤s.atx+10+50*(n+1))∧(0≤(n+1)∧(n+1)≤6)∧(Zdg out')∧(out'.Nodes≤6∧((n+1)<out'.Nodes))∧(Zyv out' (n+1) 0)∧True from ⟨(by first|exact ⟨hs0.1,hs0.2.1,by omega,by omega⟩|(exact ⟨by assumption,by first|assumption|rfl|(simp only [*];done),by omega,by omega⟩)),om,(by assumption),om,(by exact Yjc (Zfi hdg om)),trivial⟩) (by first|(show ((out'.Nodes-(n+1)).toNat:Nat)<(out.Nodes-n).toNat;omega)|(dsimp only;omega))
    refine x_r [(4,.dec false)] [0,4,5,6,21] [4,5,7001] [.ref 7001 0,.ref 4 0,.ref 5 0,I n,Bv false] [some (.box [I 0,Zcj]),some (Zct out),some (Zaa src)] [inR .i64 (n+1),_] ⟨(Zad om om),h1,trivial⟩ (Zab (Zbt rfl (Zcp (Zas ?_))))
    refine Zax ?_
    refine Zat (Zab ?_)
    refine xR [] [4] [4,7001] [.ref 4 0] [some (Zct out),some (Zaa src)] [] trivial (Zdd ?_)
    refine Zbw (out,src) (show (Zbh src)∧(src.code=s.code)∧(s.atx+0≤src.atx∧src.atx≤s.atx+400)∧(Zdg out)∧(degL out)∧(True) from ⟨(by first|omega|assumption|exact hs0.1|exact hs0.2.1|exact Znf (Zfi hdg om) om),(by first|omega|assumption|exact hs0.1|exact hs0.2.1|exact Znf (Zfi hdg om) om),(by first|omega|assumption|exact hs0.1|exact hs0.2.1|exact Znf (Zfi hdg om) om),(by first|omega|assumption|exact hs0.1|exact hs0.2.1|exact Znf (Zfi hdg om) om),(by first|omega|assumption|exact hs0.1|exact hs0.2.1|exact Znf (Zfi hdg om) om),trivial⟩) (⟨.inl rfl,trivial⟩) (Zdt out) (by kernel_rfl) (.inl rfl) (fun _=>rfl) (fun _=>(by simp [Zai,Zaf,Zff]))
  obtain ⟨⟨v,s'⟩,⟨hh0,hh1,hh2,hh3,hh4,_⟩,hc⟩:=hh
  exact ⟨v,s',hh0,hh1,hh2,hh3,hh4,hc⟩
def letB (n:Int):Bool:=inB n 97 122
def Zjh (s:ByteArray):Bool:=decide (1≤s.size∧s.size≤10)&&Zng s.size (fun j=>letB (bAt s j))
theorem Zfv {s:ByteArray} :Zjh s=true↔(1≤s.size∧s.size≤10)∧∀j:Nat,j<s.size→letB (bAt s j)=true:=by
 unfold Zjh
 rw [Bool.and_eq_true,decide_eq_true_eq]
 exact ⟨fun h=>⟨h.1,fun j hj=>Zmw h.2 hj⟩,fun h=>⟨h.1,Zhe h.2⟩⟩
theorem Zrt {s:ByteArray} {j:Nat} (hj:j<s.size) (h:letB (bAt s j)=false):Zjh s=false:=Bool.eq_false_iff.2 fun q=>by rw [(Zfv.1 q).2 j hj] at h;cases h
theorem Zrs {s:ByteArray} (h:∀j:Nat,j<s.size→letB (bAt s j)=true):Zjh s=decide (1≤s.size∧s.size≤10):=by unfold Zjh;rw [Zhe h,Bool.and_true]
def Zrz (a b:Entry):Int:=Zih a.Word b.Word
theorem cmpN_w:CmpW Zrz:=cmpS_w.map Entry.Word
def okEnt (e:Entry):Prop:=Zjh e.Word=true∧(0≤e.Cost∧e.Cost≤1000000)
def Zhh (x:Lexicon):Prop:=x.Entries.length≤60∧(∀e∈x.Entries,okEnt e)∧x.Entries.Pairwise fun x y=>Zrz x y<0
theorem Ybd:∃(v:List ByteArray),((0<v.length∧v.length≤1000)∧∀z∈v,z.size≤16)∧(∀z∈v,Zjh z=true)∧Con Tryz.prog 50 [] true (slS true v):=by
 have hh:∃r:(List ByteArray),(((0<r.length∧r.length≤1000)∧∀z∈r,z.size≤16)∧(∀z∈r,Zjh z=true)∧(True))∧Zaw Tryz.prog 50 [] (Zae []) true (slS true r) (Zae []):=by
  refine Zcv (Φ:=fun r:(List ByteArray)=>((0<r.length∧r.length≤1000)∧∀z∈r,z.size≤16)∧(∀z∈r,Zjh z=true)∧(True)) [] (fun r=>[]) (fn:=Tryz.f50) (nt:=2) Tryz.func50 rfl rfl (args:=[]) rfl Zcw (res:=fun r=>slS true r) ?_
  refine xQ [] [] [] [] trivial ?_
  refine xR [(0,.new 1)] [0] [1] [.arr 1] [some (.arr 1 24 (Zhu [Sv (⟨#[97]⟩:ByteArray),Sv (⟨#[97,110]⟩:ByteArray),Sv (⟨#[97,110,116]⟩:ByteArray),Sv (⟨#[97,116]⟩:ByteArray),Sv (⟨#[97,116,101]⟩:ByteArray),Sv (⟨#[101,97,116]⟩:ByteArray),Sv (⟨#[101]⟩:ByteArray),Sv (⟨#[101,110]⟩:ByteArray),Sv (⟨#[105]⟩:ByteArray),Sv (⟨#[105,110]⟩:ByteArray),Sv (⟨#[105,115]⟩:ByteArray),Sv (⟨#[105,116]⟩:ByteArray),Sv (⟨#[110,101,115,116]⟩:ByteArray),Sv (⟨#[110,101,116]⟩:ByteArray),Sv (⟨#[115,101,116]⟩:ByteArray),Sv (⟨#[115,105,116]⟩:ByteArray),Sv (⟨#[115,97,116]⟩:ByteArray),Sv (⟨#[115,105,116,101]⟩:ByteArray),Sv (⟨#[116,101,97]⟩:ByteArray),Sv (⟨#[116,101,110]⟩:ByteArray),Sv (⟨#[116,101,115,116]⟩:ByteArray),Sv (⟨#[116,105,101]⟩:ByteArray),Sv (⟨#[116,105,110]⟩:ByteArray),Sv (⟨#[116,105]⟩:ByteArray)] 1))] [] trivial (Zdd ?_)
  refine Zbw ([(⟨#[97]⟩:ByteArray),(⟨#[97,110]⟩:ByteArray),(⟨#[97,110,116]⟩:ByteArray),(⟨#[97,116]⟩:ByteArray),(⟨#[97,116,101]⟩:ByteArray),(⟨#[101,97,116]⟩:ByteArray),(⟨#[101]⟩:ByteArray),(⟨#[101,110]⟩:ByteArray),(⟨#[105]⟩:ByteArray),(⟨#[105,110]⟩:ByteArray),(⟨#[105,115]⟩:ByteArray),(⟨#[105,116]⟩:ByteArray),(⟨#[110,101,115,116]⟩:ByteArray),(⟨#[110,101,116]⟩:ByteArray),(⟨#[115,101,116]⟩:ByteArray),(⟨#[115,105,116]⟩:ByteArray),(⟨#[115,97,116]⟩:ByteArray),(⟨#[115,105,116,101]⟩:ByteArray),(⟨#[116,101,97]⟩:ByteArray),(⟨#[116,101,110]⟩:ByteArray),(⟨#[116,101,115,116]⟩:ByteArray),(⟨#[116,105,101]⟩:ByteArray),(⟨#[116,105,110]⟩:ByteArray),(⟨#[116,105]⟩:ByteArray)]) (show ((0<([(⟨#[97]⟩:ByteArray),(⟨#[97,110]⟩:ByteArray),(⟨#[97,110,116]⟩:ByteArray),(⟨#[97,116]⟩:ByteArray),(⟨#[97,116,101]⟩:ByteArray),(⟨#[101,97,116]⟩:ByteArray),(⟨#[101]⟩:ByteArray),(⟨#[101,110]⟩:ByteArray),(⟨#[105]⟩:ByteArray),(⟨#[105,110]⟩:ByteArray),(⟨#[105,115]⟩:ByteArray),(⟨#[105,116]⟩:ByteArray),(⟨#[110,101,115,116]⟩:ByteArray),(⟨#[110,101,116]⟩:ByteArray),(⟨#[115,101,116]⟩:ByteArray),(⟨#[115,105,116]⟩:ByteArray),(⟨#[115,97,116]⟩:ByteArray),(⟨#[115,105,116,101]⟩:ByteArray),(⟨#[116,101,97]⟩:ByteArray),(⟨#[116,101,110]⟩:ByteArray),(⟨#[116,101,115,116]⟩:ByteArray),(⟨#[116,105,101]⟩:ByteArray),(⟨#[116,105,110]⟩:ByteArray),(⟨#[116,105]⟩:ByteArray)]).length∧([(⟨#[97]⟩:ByteArray),(⟨#[97,110]⟩:ByteArray),(⟨#[97,110,116]⟩:ByteArray),(⟨#[97,116]⟩:ByteArray),(⟨#[97,116,101]⟩:ByteArray),(⟨#[101,97,116]⟩:ByteArray),(⟨#[101]⟩:ByteArray),(⟨#[101,110]⟩:ByteArray),(⟨#[105]⟩:ByteArray),(⟨#[105,110]⟩:ByteArray),(⟨#[105,115]⟩:ByteArray),(⟨#[105,116]⟩:ByteArray),(⟨#[110,101,115,116]⟩:ByteArray),(⟨#[110,101,116]⟩:ByteArray),(⟨#[115,101,116]⟩:ByteArray),(⟨#[115,105,116]⟩:ByteArray),(⟨#[115,97,116]⟩:ByteArray),(⟨#[115,105,116,101]⟩:ByteArray),(⟨#[116,101,97]⟩:ByteArray),(⟨#[116,101,110]⟩:ByteArray),(⟨#[116,101,115,116]⟩:ByteArray),(⟨#[116,105,101]⟩:ByteArray),(⟨#[116,105,110]⟩:ByteArray),(⟨#[116,105]⟩:ByteArray)]).length≤1000)∧∀z∈([(⟨#[97]⟩:ByteArray),(⟨#[97,110]⟩:ByteArray),(⟨#[97,110,116]⟩:ByteArray),(⟨#[97,116]⟩:ByteArray),(⟨#[97,116,101]⟩:ByteArray),(⟨#[101,97,116]⟩:ByteArray),(⟨#[101]⟩:ByteArray),(⟨#[101,110]⟩:ByteArray),(⟨#[105]⟩:ByteArray),(⟨#[105,110]⟩:ByteArray),(⟨#[105,115]⟩:ByteArray),(⟨#[105,116]⟩:ByteArray),(⟨#[110,101,115,116]⟩:ByteArray),(⟨#[110,101,116]⟩:ByteArray),(⟨#[115,101,116]⟩:ByteArray),(⟨#[115,105,116]⟩:ByteArray),(⟨#[115,97,116]⟩:ByteArray),(⟨#[115,105,116,101]⟩:ByteArray),(⟨#[116,101,97]⟩:ByteArray),(⟨#[116,101,110]⟩:ByteArray),(⟨#[116,101,115,116]⟩:ByteArray),(⟨#[116,105,101]⟩:ByteArray),(⟨#[116,105,110]⟩:ByteArray),(⟨#[116,105]⟩:ByteArray)]),z.size≤16)∧(∀z∈([(⟨#[97]⟩:ByteArray),(⟨#[97,110]⟩:ByteArray),(⟨#[97,110,116]⟩:ByteArray),(⟨#[97,116]⟩:ByteArray),(⟨#[97,116,101]⟩:ByteArray),(⟨#[101,97,116]⟩:ByteArray),(⟨#[101]⟩:ByteArray),(⟨#[101,110]⟩:ByteArray),(⟨#[105]⟩:ByteArray),(⟨#[105,110]⟩:ByteArray),(⟨#[105,115]⟩:ByteArray),(⟨#[105,116]⟩:ByteArray),(⟨#[110,101,115,116]⟩:ByteArray),(⟨#[110,101,116]⟩:ByteArray),(⟨#[115,101,116]⟩:ByteArray),(⟨#[115,105,116]⟩:ByteArray),(⟨#[115,97,116]⟩:ByteArray),(⟨#[115,105,116,101]⟩:ByteArray),(⟨#[116,101,97]⟩:ByteArray),(⟨#[116,101,110]⟩:ByteArray),(⟨#[116,101,115,116]⟩:ByteArray),(⟨#[116,105,101]⟩:ByteArray),(⟨#[116,105,110]⟩:ByteArray),(⟨#[116,105]⟩:ByteArray)]),Zjh z=true)∧(True) from ⟨(by decide),(by decide),trivial⟩) (trivial) (.arr 1) (by kernel_rfl) (.inr ⟨(fun _=>rfl),rfl,(by first|rfl|(simp;done)|(simp;omega)|omega),fun i_ hi_=> .inl (match i_,hi_ with|0,_=>rfl|1,_=>rfl|2,_=>rfl|3,_=>rfl|4,_=>rfl|5,_=>rfl|6,_=>rfl|7,_=>rfl|8,_=>rfl|9,_=>rfl|10,_=>rfl|11,_=>rfl|12,_=>rfl|13,_=>rfl|14,_=>rfl|15,_=>rfl|16,_=>rfl|17,_=>rfl|18,_=>rfl|19,_=>rfl|20,_=>rfl|21,_=>rfl|22,_=>rfl|23,_=>rfl|(i+24),h=>absurd h (by simp))⟩) (fun _=>rfl) (fun _=>(tagS true _))
 obtain ⟨v,⟨hh0,hh1,_⟩,hc⟩:=hh
 exact ⟨v,hh0,hh1,hc⟩
theorem flt_pw {α:Type} {R:α→α→Prop} {xs:List α} (p:α→Bool) (h:xs.Pairwise R):(xs.filter p).Pairwise R:=h.sublist List.filter_sublist
theorem Ydc {α:Type} [Inhabited α] {xs:List α} {p:α→Bool} {k:Nat} (h:k<xs.length):(xs.take (k+1)).filter p=(xs.take k).filter p++(if p (at_ xs k)=true then [at_ xs k] else []):=by
 rw [List.take_add_one,List.getElem?_eq_getElem h,←Zea h,List.filter_append]
 simp only [Option.toList,List.filter_cons,List.filter_nil]
theorem Zwh (lx:Lexicon) (word:ByteArray) (hlx:lx.Entries.length≤1000):∃(v:List Entry),(v=lx.Entries.filter fun e=> !decide (e.Word=word))∧Con Tryz.prog 52 [.ptr false [Zav false lx.Entries],Sv word] true (Zav true v):=by
  have hh:∃r:(List Entry),((r=lx.Entries.filter fun e=> !decide (e.Word=word))∧(True))∧Zaw Tryz.prog 52 [.ptr false [Zav false lx.Entries],Sv word] (Zae []) true (Zav true r) (Zae []):=by
    refine Zcv (Φ:=fun r:(List Entry)=>(r=lx.Entries.filter fun e=> !decide (e.Word=word))∧(True)) [] (fun r=>[]) (fn:=Tryz.f52) (nt:=38) Tryz.func52 rfl rfl (args:=[.ptr false [Zav false lx.Entries],Sv word]) rfl (Zbc (.inl ⟨rfl,by simp [Zai,Zaf,Zfm]⟩) (Zbc (.inl ⟨rfl,trivial⟩) Zcw)) (res:=fun r=>Zav true r) ?_
    refine xQ [] [0,1] [] [] trivial ?_
    refine xQ [(0,.new 7)] [0,1,5] [7] [] trivial (Zak ?_)
    refine xR [] [0,1,5,6] [7] [.ptr false [Zav false lx.Entries],Sv word,.arr 7,I 0] [some (.arr 2 0 (Zhu [] 2))] [] trivial (Zbb ?_)
    refine Zdh [] (T:=[(0,.ptr false [Zav false lx.Entries]),(1,Sv word),(5,.arr 7),(6,I 0)]) (O:=[(7,Zmi ([]:List Entry))]) rfl (⟨.inl rfl,.inl rfl,.inl rfl,.inl rfl,trivial⟩) (⟨.inr ⟨rfl,(by first|rfl|(simp;done)|(simp;omega)|omega),fun i_ hi_=>absurd hi_ (Nat.not_lt_zero _)⟩,trivial⟩) ?_
    refine Zdc (X:=(List Entry)×Int) (fun x=>mkS [(0,.ptr false [Zav false lx.Entries]),(1,Sv word),(5,.arr 7),(6,I x.2)] [(7,Zmi x.1)]) (fun x=>(0≤x.2∧x.2≤(lx.Entries.length:Int))∧((x.1.length:Int)≤x.2)∧(x.1=(lx.Entries.take x.2.toNat).filter fun e=> !decide (e.Word=word))∧True) (fun x=>((lx.Entries.length:Int)-x.2).toNat) (([]:List Entry),0) rfl (show (0≤(0:Int)∧(0:Int)≤(lx.Entries.length:Int))∧((([]:List Entry).length:Int)≤(0:Int))∧(([]:List Entry)=(lx.Entries.take (0:Int).toNat).filter fun e=> !decide (e.Word=word))∧True from ⟨om,(by (simp;try omega)),(by rfl),trivial⟩) (fun x hI=> ?_)
    obtain ⟨out,i⟩:=x
    obtain ⟨hi0,hol,hou,_⟩:(0≤i∧i≤(lx.Entries.length:Int))∧((out.length:Int)≤i)∧(out=(lx.Entries.take i.toNat).filter fun e=> !decide (e.Word=word))∧True:=hI
    show XW _ _ _ _ (mkS [(0,.ptr false [Zav false lx.Entries]),(1,Sv word),(5,.arr 7),(6,I i)] [(7,Zmi out)]) _ _
    refine Zak (Zak ?_)
    by_cases h1:i<(lx.Entries.length:Int)
    ·have hi:i.toNat<lx.Entries.length:=by omega
     refine x_q [(6,.dec true)] [0,1,5,6,14] [7] [_] ⟨h1,trivial⟩ (Zab (Zeh (Zbd (Zab (Zak (Zbb (Zak ?_)))))))
     by_cases h2:((at_ lx.Entries i.toNat).Word)=word
     ·refine x_q [(9,.dec false)] [0,1,5,6,26] [7] [(0:Int)≤i∧i<(lx.Entries.length:Int),¬ (((at_ lx.Entries i.toNat).Word)≠word)] ⟨⟨om,om⟩,(fun hq=>hq h2),trivial⟩ (Zab (Zga (Zbd (Zba 1 (Zab ?_)))))
      refine x_r [] [0,1,5,6] [7] [.ptr false [Zav false lx.Entries],Sv word,.arr 7,I (i+1)] [some (Zmi out)] [inR .i64 (i+1)] ⟨(Zad om om),trivial⟩ ?_
      exact Zay (out,(i+1)) rfl (show (0≤(i+1)∧(i+1)≤(lx.Entries.length:Int))∧((out.length:Int)≤(i+1))∧(out=(lx.Entries.take (i+1).toNat).filter fun e=> !decide (e.Word=word))∧True from ⟨om,(by first|omega|(simp;omega)),(by rw [show (i+1).toNat=i.toNat+1 from by omega,Ydc hi,hou];simp [*]),trivial⟩) (by first|(show (((lx.Entries.length:Int)-(i+1)).toNat:Nat)<((lx.Entries.length:Int)-i).toNat;omega)|(dsimp only;omega))
     refine x_q [(9,.dec true)] [0,1,5,6,26] [7] [(0:Int)≤i∧i<(lx.Entries.length:Int),_] ⟨⟨om,om⟩,h2,trivial⟩ (Zab (Zeh ?_))
     refine x_q [(8,.new 35),(9,.new 36)] [0,1,5,6] [36] [(0:Int)≤i∧i<(lx.Entries.length:Int),(out.length+1)*24≤140737488355328] ⟨⟨om,om⟩,om,trivial⟩ (Zba 1 (Zab ?_))
     refine x_r [] [0,1,5,6] [36] [.ptr false [Zav false lx.Entries],Sv word,.arr 36,I (i+1)] [some (.arr 2 (out.length+1) (Zhc out.length (Zde out) (Zhu [Sv ((at_ lx.Entries i.toNat).Word),I ((at_ lx.Entries i.toNat).Cost)] 2)))] [inR .i64 (i+1)] ⟨(Zad om om),trivial⟩ ?_
     refine Zcf [(7,36)] (T:=[(0,.ptr false [Zav false lx.Entries]),(1,Sv word),(5,.arr 7),(6,I (i+1))]) (O:=[(7,Zmi (out++[(at_ lx.Entries i.toNat)]))]) rfl (⟨.inl rfl,.inl rfl,.inl rfl,.inl rfl,trivial⟩) (⟨.inr ⟨rfl,(by first|rfl|(simp;done)|(simp;omega)|omega),fun i_ hi_=> .inl (Zec (enc:=Ziu) (xs:=out) rfl i_ hi_)⟩,trivial⟩) (Zay ((out++[(at_ lx.Entries i.toNat)]),(i+1)) rfl (show (0≤(i+1)∧(i+1)≤(lx.Entries.length:Int))∧(((out++[(at_ lx.Entries i.toNat)]).length:Int)≤(i+1))∧((out++[(at_ lx.Entries i.toNat)])=(lx.Entries.take (i+1).toNat).filter fun e=> !decide (e.Word=word))∧True from ⟨om,(by first|omega|(simp;omega)),(by rw [show (i+1).toNat=i.toNat+1 from by omega,Ydc hi,hou];simp [*]),trivial⟩) (by first|(show (((lx.Entries.length:Int)-(i+1)).toNat:Nat)<((lx.Entries.length:Int)-i).toNat;omega)|(dsimp only;omega)))
    refine x_r [(6,.dec false)] [0,1,5,6,14] [7] [.ptr false [Zav false lx.Entries],Sv word,.arr 7,I i,Bv false] [some (Zmi out)] [_] ⟨h1,trivial⟩ (Zab (Zbt rfl (Zcp (Zas ?_))))
    refine Zax ?_
    refine Zat (Zab ?_)
    refine xR [] [4] [7] [.arr 7] [some (Zmi out)] [] trivial (Zdd ?_)
    refine Zbw out (show (out=lx.Entries.filter fun e=> !decide (e.Word=word))∧(True) from ⟨(by rw [hou,show i.toNat=lx.Entries.length from by omega,List.take_length]),trivial⟩) (trivial) (.arr 7) (by kernel_rfl) (.inr ⟨(fun _=>rfl),rfl,rfl,fun i _=> .inl rfl⟩) (fun _=>rfl) (fun _=>(Zfm true _))
  obtain ⟨v,⟨hh0,_⟩,hc⟩:=hh
  exact ⟨v,hh0,hc⟩
theorem Yjd (list:List Entry) (e:Entry) (hp:list.Pairwise fun x_ y_=>Zrz x_ y_<0) (hne:∀x∈list,Zrz x e≠0) (hll:list.length≤1000):∃(v:List Entry),(v.length=list.length+1)∧(∀x∈v,x=e∨x∈list)∧(v.Pairwise fun x_ y_=>Zrz x_ y_<0)∧Con Tryz.prog 51 [Zav false list,Ybb e] true (Zav true v):=by
  have hh:∃r:(List Entry),((r.length=list.length+1)∧(∀x∈r,x=e∨x∈list)∧(r.Pairwise fun x_ y_=>Zrz x_ y_<0)∧(True))∧Zaw Tryz.prog 51 [Zav false list,Ybb e] (Zae []) true (Zav true r) (Zae []):=by
    refine Zcv (Φ:=fun r:(List Entry)=>(r.length=list.length+1)∧(∀x∈r,x=e∨x∈list)∧(r.Pairwise fun x_ y_=>Zrz x_ y_<0)∧(True)) [] (fun r=>[]) (fn:=Tryz.f51) (nt:=38) Tryz.func51 rfl rfl (args:=[Zav false list,Ybb e]) rfl (Zbc (.inl ⟨rfl,Zfm false _⟩) (Zbc (.inl ⟨rfl,by simp [Zai,Zaf]⟩) Zcw)) (res:=fun r=>Zav true r) ?_
    refine xQ [(0,.new 3)] [0,3] [3] [] trivial ?_
    refine xR [] [0,3,5] [3] [Zav false list,.ref 3 0,I (list.length:Int)] [some (Zoc e)] [] trivial (Zak (Zbb ?_))
    refine Zdc (X:=Int) (fun x=>mkS [(0,Zav false list),(3,.ref 3 0),(5,I x)] [(3,Zoc e)]) (fun x=>(0≤x∧x≤(list.length:Int))∧(∀j:Nat,x≤(j:Int)→j<list.length→0<Zrz (at_ list j) e)∧True) (fun x=>x.toNat) (list.length:Int) rfl (show (0≤(list.length:Int)∧(list.length:Int)≤(list.length:Int))∧(∀j:Nat,(list.length:Int)≤(j:Int)→j<list.length→0<Zrz (at_ list j) e)∧True from ⟨om,(by intro j h1 h2;omega),trivial⟩) (fun x hI=> ?_)
    obtain ⟨k,hxx⟩:∃k:Int,k=x:=⟨x,rfl⟩
    subst hxx
    obtain ⟨hk0,hhi,_⟩:(0≤k∧k≤(list.length:Int))∧(∀j:Nat,k≤(j:Int)→j<list.length→0<Zrz (at_ list j) e)∧True:=hI
    show XW _ _ _ _ (mkS [(0,Zav false list),(3,.ref 3 0),(5,I k)] [(3,Zoc e)]) _ _
    refine Zak (Zak ?_)
    by_cases h1:0<k
    ·have hkl:(k-1).toNat<list.length:=by omega
     by_cases h2:Zfz ((at_ list ((k-1).toNat)).Word) e.Word=false∧((at_ list ((k-1).toNat)).Word)≠e.Word
     ·have hgn:∀j:Nat,k-1≤(j:Int)→j<list.length→0<Zrz (at_ list j) e:=fun j q1 q2=>by by_cases q:(j:Int)=k-1;(rw [show j=(k-1).toNat from by omega];exact (show 0<Zrz _ _ from Zpp.2 (sl_tri h2.1 h2.2)));(exact hhi j om q2)
      refine x_q [(1,.dec true),(11,.dec true)] [0,3,5,21] [3] [_,inR .i64 (k-1),(0:Int)≤(k-1)∧(k-1)<(list.length:Int),_] ⟨h1,(Zad om om),⟨om,om⟩,h2,trivial⟩ (Zab (Zeh (Zbd (Zab (Zbb ?_)))))
      refine x_r [] [0,3,5] [3] [Zav false list,.ref 3 0,I (k-1)] [some (Zoc e)] [inR .i64 (k-1)] ⟨(Zad om om),trivial⟩ (Zba 1 ?_)
      exact Zay (k-1) rfl (show (0≤(k-1)∧(k-1)≤(list.length:Int))∧(∀j:Nat,(k-1)≤(j:Int)→j<list.length→0<Zrz (at_ list j) e)∧True from ⟨om,(by exact hgn),trivial⟩) (by first|(show ((k-1).toNat:Nat)<k.toNat;omega)|(dsimp only;omega))
     have hlo:k.toNat=0∨¬ 0<Zrz (at_ list (k.toNat-1)) e:=Or.inr (by rw [show k.toNat-1=(k-1).toNat from by omega];exact (fun q=>h2 ⟨Zwb (Zpp.1 q),fun z=>Yie (Zpp.1 q) z.symm⟩))
     refine x_r [(1,.dec true),(11,.dec false)] [0,3,5,21] [3] [Zav false list,.ref 3 0,I k,Bv false] [some (Zoc e)] [_,inR .i64 (k-1),(0:Int)≤(k-1)∧(k-1)<(list.length:Int),_] ⟨h1,(Zad om om),⟨om,om⟩,h2,trivial⟩ (Zab (Zbt rfl (Zcp (Zas ?_))))
     refine Zax ?_
     refine Zat (Zab ?_)
     refine xQ [(0,.new 24),(4,.new 28)] [0,3,5,6] [3,28] [(0:Int)≤0∧(0:Int)≤k∧k≤(list.length:Int),(0+(k.toNat-0))*24≤140737488355328] ⟨⟨om,om,om⟩,om,trivial⟩ ?_
     refine xQ [(2,.new 31),(3,.new 32)] [0,5,6] [32] [((0+(k.toNat-0))+1)*24≤140737488355328] ⟨om,trivial⟩ ?_
     refine xR [(4,.new 37)] [4] [37] [.arr 37] [some (.arr 2 (((0+(k.toNat-0))+1)+((list.length:Int).toNat-k.toNat)) (Zhc ((0+(k.toNat-0))+1) (Zhc (0+(k.toNat-0)) (Zhc 0 (Zhu [] 2) (Zpy 0 (Zde list))) (Zhu [Sv e.Word,I e.Cost] 2)) (Zpy k.toNat (Zde list))))] [(0:Int)≤k∧k≤(list.length:Int)∧(list.length:Int)≤(list.length:Int),(((0+(k.toNat-0))+1)+((list.length:Int).toNat-k.toNat))*24≤140737488355328] ⟨⟨om,om,om⟩,om,trivial⟩ (Zdd ?_)
     refine Zbw (((list.take k.toNat)++[e])++(list.drop k.toNat)) (show ((((list.take k.toNat)++[e])++(list.drop k.toNat)).length=list.length+1)∧(∀x∈(((list.take k.toNat)++[e])++(list.drop k.toNat)),x=e∨x∈list)∧((((list.take k.toNat)++[e])++(list.drop k.toNat)).Pairwise fun x_ y_=>Zrz x_ y_<0)∧(True) from ⟨(by first|exact Zhj om|exact fun x hx=>Zhi.1 hx|exact Zki cmpN_w hp om hlo (fun j h1 h2=>hhi j om h2) hne),(by first|exact Zhj om|exact fun x hx=>Zhi.1 hx|exact Zki cmpN_w hp om hlo (fun j h1 h2=>hhi j om h2) hne),(by first|exact Zhj om|exact fun x hx=>Zhi.1 hx|exact Zki cmpN_w hp om hlo (fun j h1 h2=>hhi j om h2) hne),trivial⟩) (trivial) (.arr 37) (by kernel_rfl) (.inr ⟨(fun _=>rfl),rfl,(by first|rfl|(simp;done)|(simp;omega)|omega),fun i_ hi_=> .inl (Zku (enc:=Ziu) (xs:=((list.take k.toNat)++[e])) (ys:=(list.drop k.toNat)) (by first|rfl|(simp;done)|(simp;omega)) (fun i_ hi_=>(Zku (enc:=Ziu) (xs:=(list.take k.toNat)) (ys:=[e]) (by first|rfl|(simp;done)|(simp;omega)) (fun i_ hi_=>((Zpz i_).trans ((fun i_ hi_=>(Zmn (enc:=Ziu) hi_)) i_ hi_))) (fun i_ hi_=>(match i_,hi_ with|0,_=>rfl|(i+1),h=>absurd h (by simp))) i_ hi_)) (fun i_ hi_=>(Zpe (enc:=Ziu) hi_)) i_ hi_)⟩) (fun _=>rfl) (fun _=>(Zfm true _))
    have hlo:k.toNat=0∨¬ 0<Zrz (at_ list (k.toNat-1)) e:=Or.inl om
    refine x_r [(1,.dec false)] [0,3,5,21] [3] [Zav false list,.ref 3 0,I k,Bv false] [some (Zoc e)] [_] ⟨h1,trivial⟩ (Zab (Zbt rfl (Zcp (Zas ?_))))
    refine Zax ?_
    refine Zat (Zab ?_)
    refine xQ [(0,.new 24),(4,.new 28)] [0,3,5,6] [3,28] [(0:Int)≤0∧(0:Int)≤k∧k≤(list.length:Int),(0+(k.toNat-0))*24≤140737488355328] ⟨⟨om,om,om⟩,om,trivial⟩ ?_
    refine xQ [(2,.new 31),(3,.new 32)] [0,5,6] [32] [((0+(k.toNat-0))+1)*24≤140737488355328] ⟨om,trivial⟩ ?_
    refine xR [(4,.new 37)] [4] [37] [.arr 37] [some (.arr 2 (((0+(k.toNat-0))+1)+((list.length:Int).toNat-k.toNat)) (Zhc ((0+(k.toNat-0))+1) (Zhc (0+(k.toNat-0)) (Zhc 0 (Zhu [] 2) (Zpy 0 (Zde list))) (Zhu [Sv e.Word,I e.Cost] 2)) (Zpy k.toNat (Zde list))))] [(0:Int)≤k∧k≤(list.length:Int)∧(list.length:Int)≤(list.length:Int),(((0+(k.toNat-0))+1)+((list.length:Int).toNat-k.toNat))*24≤140737488355328] ⟨⟨om,om,om⟩,om,trivial⟩ (Zdd ?_)
    refine Zbw (((list.take k.toNat)++[e])++(list.drop k.toNat)) (show ((((list.take k.toNat)++[e])++(list.drop k.toNat)).length=list.length+1)∧(∀x∈(((list.take k.toNat)++[e])++(list.drop k.toNat)),x=e∨x∈list)∧((((list.take k.toNat)++[e])++(list.drop k.toNat)).Pairwise fun x_ y_=>Zrz x_ y_<0)∧(True) from ⟨(by first|exact Zhj om|exact fun x hx=>Zhi.1 hx|exact Zki cmpN_w hp om hlo (fun j h1 h2=>hhi j om h2) hne),(by first|exact Zhj om|exact fun x hx=>Zhi.1 hx|exact Zki cmpN_w hp om hlo (fun j h1 h2=>hhi j om h2) hne),(by first|exact Zhj om|exact fun x hx=>Zhi.1 hx|exact Zki cmpN_w hp om hlo (fun j h1 h2=>hhi j om h2) hne),trivial⟩) (trivial) (.arr 37) (by kernel_rfl) (.inr ⟨(fun _=>rfl),rfl,(by first|rfl|(simp;done)|(simp;omega)|omega),fun i_ hi_=> .inl (Zku (enc:=Ziu) (xs:=((list.take k.toNat)++[e])) (ys:=(list.drop k.toNat)) (by first|rfl|(simp;done)|(simp;omega)) (fun i_ hi_=>(Zku (enc:=Ziu) (xs:=(list.take k.toNat)) (ys:=[e]) (by first|rfl|(simp;done)|(simp;omega)) (fun i_ hi_=>((Zpz i_).trans ((fun i_ hi_=>(Zmn (enc:=Ziu) hi_)) i_ hi_))) (fun i_ hi_=>(match i_,hi_ with|0,_=>rfl|(i+1),h=>absurd h (by simp))) i_ hi_)) (fun i_ hi_=>(Zpe (enc:=Ziu) hi_)) i_ hi_)⟩) (fun _=>rfl) (fun _=>(Zfm true _))
  obtain ⟨v,⟨hh0,hh1,hh2,_⟩,hc⟩:=hh
  exact ⟨v,hh0,hh1,hh2,hc⟩
theorem lex_put {x:Lexicon} {e:Entry} {v:List Entry} (h:Zhh x) (he:okEnt e) (h2:x.Entries.length<60) (hl:v.length=(x.Entries.filter fun y=> !decide (y.Word=e.Word)).length+1) (hm:∀y∈v,y=e∨y∈x.Entries.filter fun y=> !decide (y.Word=e.Word)) (hp:v.Pairwise fun x y=>Zrz x y<0):Zhh ⟨v⟩∧(v.length:Int)≤x.Entries.length+1:=by
 have q:=List.length_filter_le (fun y:Entry=> !decide (y.Word=e.Word)) x.Entries
 refine ⟨⟨by show v.length≤60;omega,fun y hy=> ?_,hp⟩,by omega⟩
 rcases hm y hy with z|z
 ·rw [z];exact he
 ·exact h.2.1 y (List.mem_filter.1 z).1
theorem lex_ne {xs:List Entry} {e:Entry} {w:ByteArray} (hw:w=e.Word):∀y∈xs.filter (fun y=> !decide (y.Word=w)),Zrz y e≠0:=fun y hy q=>by
 have h:=(List.mem_filter.1 hy).2
 rw [Zrz,Zfq] at q
 rw [hw] at h
 simp [q] at h
theorem Yje:Zhh ⟨[]⟩:=⟨Nat.zero_le _,fun _ h=>(by cases h),List.Pairwise.nil⟩
theorem Yeu (s:l00Src) (most:Int) (hs:Zbh s) (ha:s.atx≤3999999999999996000) (hmo:0≤most∧most≤20):∃(v:Lexicon) (s':l00Src),(Zbh s')∧(s'.code=s.code)∧(s.atx+0≤s'.atx∧s'.atx≤s.atx+400)∧(Zhh v)∧((v.Entries.length:Int)≤most)∧Zaw Tryz.prog 19 [.ref 7001 0,I most] (Zae [(7001,Zaa s)]) true (.agg [Zav true v.Entries]) (Zae [(7001,Zaa s')]):=by
  have hh:∃r:Lexicon×l00Src,((Zbh r.2)∧(r.2.code=s.code)∧(s.atx+0≤r.2.atx∧r.2.atx≤s.atx+400)∧(Zhh r.1)∧((r.1.Entries.length:Int)≤most)∧(True))∧Zaw Tryz.prog 19 [.ref 7001 0,I most] (Zae [(7001,Zaa s)]) true (.agg [Zav true r.1.Entries]) (Zae [(7001,Zaa r.2)]):=by
    refine Zcv (Φ:=fun r:Lexicon×l00Src=>(Zbh r.2)∧(r.2.code=s.code)∧(s.atx+0≤r.2.atx∧r.2.atx≤s.atx+400)∧(Zhh r.1)∧((r.1.Entries.length:Int)≤most)∧(True)) [(7001,Zaa s)] (fun r=>[(7001,Zaa r.2)]) (fn:=Tryz.f19) (nt:=30) Tryz.func19 rfl rfl (args:=[.ref 7001 0,I most]) rfl (Zbc (.inr trivial) (Zbc (.inl ⟨rfl,trivial⟩) Zcw)) (res:=fun r=> .agg [Zav true r.1.Entries]) ?_
    refine xQ [(0,.new 4)] [0,1,4] [4,7001] [] trivial ?_
    refine xQ [(1,.new 5)] [0,1,4,5] [4,5,7001] [] trivial (Zak (Zak ?_))
    obtain ⟨v_1,s'_1,hx1_0,hx1_1,hx1_2,hx1_3,hc1⟩:=Zcl s (most+1) (by first|assumption|(simp only [Zbh] at*;simp_all;done)) om
    refine x_r [(3,.lend [(7001,Zaa s,Zaa s'_1)] [] [(true,.any),(true,.any)] true (I v_1))] [0,4,5,6] [4,5,7001] [.ref 7001 0,.ref 4 0,.ref 5 0,I v_1] [some (.box [Zcj]),some (.box [Zcj]),some (Zaa s'_1)] [inR .i64 (most+1),Zaw Tryz.prog 28 [.ref 7001 0,I (most+1)] (Zae [(7001,Zaa s)]) true (I v_1) (Zae [(7001,Zaa s'_1)])∧(((Zaa s:Ob)=Zaa s∨Zer Zeg true (Zaa s) (Zaa s))∧Zal false (Zaa s))∧True] ⟨(Zad om om),⟨hc1,⟨.inl rfl,(by simp [Zal,Zaf,Zai,Zcx])⟩,trivial⟩,trivial⟩ (Zab (Zbb ?_))
    refine Zdh [] (T:=[(0,.ref 7001 0),(4,.ref 4 0),(5,.ref 5 0),(6,I v_1)]) (O:=[(4,.box [Zcj]),(5,.box [.sl true 2 ((Lexicon.mk ([]:List Entry)).Entries.length) (Zde ((Lexicon.mk ([]:List Entry)).Entries))]),(7001,Zaa s'_1)]) rfl (⟨.inl rfl,.inl rfl,.inl rfl,.inl rfl,trivial⟩) (⟨.inl rfl,.inr ⟨⟨rfl,rfl⟩,rfl⟩,.inl rfl,trivial⟩) ?_
    refine Zdc (X:=Int×Lexicon×l00Src) (fun x=>mkS [(0,.ref 7001 0),(4,.ref 4 0),(5,.ref 5 0),(6,I x.1)] [(4,.box [Zcj]),(5,.box [Zav true x.2.1.Entries]),(7001,Zaa x.2.2)]) (fun x=>(Zbh x.2.2∧x.2.2.code=s.code∧s.atx≤x.2.2.atx∧x.2.2.atx≤s.atx+10+10*(most-x.1))∧(0≤x.1∧x.1≤most)∧(Zhh x.2.1)∧((x.2.1.Entries.length:Int)+x.1≤most)∧True) (fun x=>x.1.toNat) (v_1,(Lexicon.mk ([]:List Entry)),s'_1) rfl (show (Zbh s'_1∧s'_1.code=s.code∧s.atx≤s'_1.atx∧s'_1.atx≤s.atx+10+10*(most-v_1))∧(0≤v_1∧v_1≤most)∧(Zhh (Lexicon.mk ([]:List Entry)))∧(((Lexicon.mk ([]:List Entry)).Entries.length:Int)+v_1≤most)∧True from ⟨(by exact ⟨by assumption,by first|assumption|rfl|(simp only [*];done),by omega,by omega⟩),om,(by exact Yje),(by (simp;omega)),trivial⟩) (fun x hI=> ?_)
    obtain ⟨k,out,src⟩:=x
    obtain ⟨hs0,hk0,hla,hno,_⟩:(Zbh src∧src.code=s.code∧s.atx≤src.atx∧src.atx≤s.atx+10+10*(most-k))∧(0≤k∧k≤most)∧(Zhh out)∧((out.Entries.length:Int)+k≤most)∧True:=hI
    show XW _ _ _ _ (mkS [(0,.ref 7001 0),(4,.ref 4 0),(5,.ref 5 0),(6,I k)] [(4,.box [Zcj]),(5,.box [Zav true out.Entries]),(7001,Zaa src)]) _ _
    refine Zak (Zak ?_)
    by_cases h1:0<k
    ·refine x_q [(1,.dec true)] [0,4,5,6,14] [4,5,7001] [_] ⟨h1,trivial⟩ (Zab (Zeh (Zbd (Zab (Zak (Zbb (Zak ?_)))))))
     obtain ⟨v_2,hx2_0,hx2_1,hc2⟩:=Ybd
     have hwa:=hx2_0
     have hwb:=hx2_1
     obtain ⟨v_3,s'_3,hx3_0,hx3_1,hx3_2,hx3_3,hx3_4,hc3⟩:=Yiu src v_2 (by first|assumption|(simp only [Zbh] at*;simp_all;done)) om hwa
     have hw_v_3:Zjh v_3=true:=hwb _ hx3_4
     obtain ⟨v_4,s'_4,hx4_0,hx4_1,hx4_2,hx4_3,hc4⟩:=Zcl s'_3 30 (by first|assumption|(simp only [Zbh] at*;simp_all;done)) om
     refine x_q [(1,.call [] true (slS true v_2)),(2,.lend [(7001,Zaa src,Zaa s'_3)] [] [(true,.any),(false,slS false v_2)] true (Sv v_3)),(4,.lend [(7001,Zaa s'_3,Zaa s'_4)] [] [(true,.any),(true,.any)] true (I v_4)),(6,.new 7)] [0,4,5,6,7] [4,5,7,7001] [_∧True,Zaw Tryz.prog 48 [.ref 7001 0,slS false v_2] (Zae [(7001,Zaa src)]) true (Sv v_3) (Zae [(7001,Zaa s'_3)])∧((false=true→true=true)∧1=1∧v_2.length=v_2.length∧∀i_,i_<v_2.length→(fS v_2) i_=(fS v_2) i_∨(AV.idsL ((fS v_2) i_)=[]∧leL (fun _=>none) false ((fS v_2) i_) ((fS v_2) i_)))∧(((Zaa src:Ob)=Zaa src∨Zer Zeg true (Zaa src) (Zaa src))∧Zal false (Zaa src))∧True,Zaw Tryz.prog 28 [.ref 7001 0,I 30] (Zae [(7001,Zaa s'_3)]) true (I v_4) (Zae [(7001,Zaa s'_4)])∧(((Zaa s'_3:Ob)=Zaa s'_3∨Zer Zeg true (Zaa s'_3) (Zaa s'_3))∧Zal false (Zaa s'_3))∧True] ⟨⟨hc2,trivial⟩,⟨hc3,⟨(fun h=>by cases h),rfl,rfl,fun i _=> .inl rfl⟩,⟨.inl rfl,(by simp [Zal,Zaf,Zai,Zcx])⟩,trivial⟩,⟨hc4,⟨.inl rfl,(by simp [Zal,Zaf,Zai,Zcx])⟩,trivial⟩,trivial⟩ (Zab ?_)
     obtain ⟨v_5,hx5_0,hc5⟩:=Zwh out v_3 om
     have hwv:=hx5_0
     have hwl:v_5.length≤out.Entries.length:=by rw [hwv];exact List.length_filter_le _ _
     have hpw:v_5.Pairwise (fun x y=>Zrz x y<0):=by rw [hwv];exact flt_pw _ hla.2.2
     obtain ⟨v_6,hx6_0,hx6_1,hx6_2,hc6⟩:=Yjd v_5 (Entry.mk v_3 v_4) hpw (by rw [hwv];exact lex_ne rfl) om
     have hput:=lex_put hla (e:=(Entry.mk v_3 v_4)) ⟨by first|assumption|(dsimp only;assumption),by dsimp only;omega⟩ om (by rw [←hwv];exact hx6_0) (by rw [←hwv];exact hx6_1) hx6_2
     refine x_q [(2,.call [(false,.ptr false [Zav false out.Entries]),(true,.any)] true (Zav true v_5)),(4,.call [(false,Zav false v_5),(true,.any)] true (Zav true v_6))] [0,4,5,6] [4,5,7001] [_∧((false=true→true=true)∧AV.idsL [Zav false out.Entries]=[]∧((false=true→true=true)∧2=2∧out.Entries.length=out.Entries.length∧∀i_,i_<out.Entries.length→(Zde out.Entries) i_=(Zde out.Entries) i_∨(AV.idsL ((Zde out.Entries) i_)=[]∧leL (fun _=>none) false ((Zde out.Entries) i_) ((Zde out.Entries) i_)))∧([]:List AV)=[])∧True,_∧((false=true→true=true)∧2=2∧v_5.length=v_5.length∧∀i_,i_<v_5.length→(Zde v_5) i_=(Zde v_5) i_∨(AV.idsL ((Zde v_5) i_)=[]∧leL (fun _=>none) false ((Zde v_5) i_) ((Zde v_5) i_)))∧True] ⟨⟨hc5,⟨(fun h=>by cases h),rfl,⟨⟨(fun h=>by cases h),rfl,rfl,fun i _=> .inl rfl⟩,rfl⟩⟩,trivial⟩,⟨hc6,⟨(fun h=>by cases h),rfl,rfl,fun i _=> .inl rfl⟩,trivial⟩,trivial⟩ (Zba 1 (Zab ?_))
     refine x_r [] [0,4,5,6] [4,5,7001] [.ref 7001 0,.ref 4 0,.ref 5 0,I (k-1)] [some (.box [Zcj]),some (.box [Zav true v_6]),some (Zaa s'_4)] [inR .i64 (k-1)] ⟨(Zad om om),trivial⟩ ?_
     refine Zcf [] (T:=[(0,.ref 7001 0),(4,.ref 4 0),(5,.ref 5 0),(6,I (k-1))]) (O:=[(4,.box [Zcj]),(5,.box [.sl true 2 ((Lexicon.mk v_6).Entries.length) (Zde ((Lexicon.mk v_6).Entries))]),(7001,Zaa s'_4)]) rfl (⟨.inl rfl,.inl rfl,.inl rfl,.inl rfl,trivial⟩) (⟨.inl rfl,.inr ⟨⟨(fun _=>rfl),rfl,(by first|rfl|(simp;done)|(simp;omega)|omega),fun i_ hi_=> .inl (by first|rfl|fail)⟩,rfl⟩,.inl rfl,trivial⟩) (Zay ((k-1),(Lexicon.mk v_6),s'_4) rfl (show (Zbh s'_4∧s'_4.code=s.code∧s.atx≤s'_4.atx∧s'_4.atx≤s.atx+10+10*(most-(k-1)))∧(0≤(k-1)∧(k-1)≤most)∧(Zhh (Lexicon.mk v_6))∧(((Lexicon.mk v_6).Entries.length:Int)+(k-1)≤most)∧True from ⟨(by exact ⟨by assumption,by first|assumption|rfl|(simp only [*];done),by omega,by omega⟩),om,(by exact hput.1),(by (have:=hput.2;dsimp only;omega)),trivial⟩) (by first|(show ((k-1).toNat:Nat)<k.toNat;omega)|(dsimp only;omega)))
    refine x_r [(1,.dec false)] [0,4,5,6,14] [4,5,7001] [.ref 7001 0,.ref 4 0,.ref 5 0,I k,Bv false] [some (.box [Zcj]),some (.box [Zav true out.Entries]),some (Zaa src)] [_] ⟨h1,trivial⟩ (Zab (Zbt rfl (Zcp (Zas ?_))))
    refine Zax ?_
    refine Zat (Zab ?_)
    refine xR [] [4] [4,7001] [.ref 4 0] [some (.box [Zav true out.Entries]),some (Zaa src)] [] trivial (Zdd ?_)
    refine Zbw (out,src) (show (Zbh src)∧(src.code=s.code)∧(s.atx+0≤src.atx∧src.atx≤s.atx+400)∧(Zhh out)∧((out.Entries.length:Int)≤most)∧(True) from ⟨(by first|omega|assumption|exact hs0.1|exact hs0.2.1),(by first|omega|assumption|exact hs0.1|exact hs0.2.1),(by first|omega|assumption|exact hs0.1|exact hs0.2.1),(by first|omega|assumption|exact hs0.1|exact hs0.2.1),(by first|omega|assumption|exact hs0.1|exact hs0.2.1),trivial⟩) (⟨.inl rfl,trivial⟩) (.agg [Zav true out.Entries]) (by kernel_rfl) (.inl rfl) (fun _=>rfl) (fun _=>(by simp [Zai,Zaf,Zfm]))
  obtain ⟨⟨v,s'⟩,⟨hh0,hh1,hh2,hh3,hh4,_⟩,hc⟩:=hh
  exact ⟨v,s',hh0,hh1,hh2,hh3,hh4,hc⟩
theorem Zza (code:List Int) (hc:(∀j,j<code.length→0≤at_ code j∧at_ code j≤255)∧code.length≤4611686018427387904):∃(v:Lattice) (q:Lexicon),(Zdg v)∧(Zhh q)∧((q.Entries.length:Int)≤14)∧Con Tryz.prog 5 [Zhw false code] true (.tup [Zdt v,.agg [Zav true q.Entries]]):=by
 have hh:∃r:Lattice×Lexicon,((Zdg r.1)∧(Zhh r.2)∧((r.2.Entries.length:Int)≤14)∧(True))∧Zaw Tryz.prog 5 [Zhw false code] (Zae []) true (.tup [Zdt r.1,.agg [Zav true r.2.Entries]]) (Zae []):=by
  refine Zcv (Φ:=fun r:Lattice×Lexicon=>(Zdg r.1)∧(Zhh r.2)∧((r.2.Entries.length:Int)≤14)∧(True)) [] (fun r=>[]) (fn:=Tryz.f5) (nt:=13) Tryz.func5 rfl rfl (args:=[Zhw false code]) rfl (Zbc (.inl ⟨rfl,Zcx false _⟩) Zcw) (res:=fun r=> .tup [Zdt r.1,.agg [Zav true r.2.Entries]]) ?_
  refine xQ [(0,.new 2),(1,.new 3)] [0,2,3] [2,3] [] trivial (Zak ?_)
  obtain ⟨s'_1,hx1_0,hc1⟩:=Znw code
  have hsrc:Zbh s'_1:=⟨by rw [hx1_0.1];exact hc.1,by rw [hx1_0.2];decide,by rw [hx1_0.1];exact hc.2⟩
  have hat0:=hx1_0.2
  refine x_q [(1,.lend [] [(7001,Zaa s'_1)] [(true,.any)] false (.ref 7001 0))] [2,3,4] [2,3,7001] [Zaw Tryz.prog 17 [Zhw false code] (Zae []) false (.ref 7001 0) (Zae [(7001,Zaa s'_1)])∧True] ⟨⟨hc1,trivial⟩,trivial⟩ (Zab (Zak ?_))
  obtain ⟨v_2,s'_2,hx2_0,hx2_1,hx2_2,hx2_3,hx2_4,hc2⟩:=Yet s'_1 6 (by first|assumption|(simp only [Zbh] at*;simp_all;done)) om om
  refine x_q [(1,.lend [(7001,Zaa s'_1,Zaa s'_2)] [] [(true,.any),(true,.any)] true (Zdt v_2)),(2,.new 5)] [2,3,4,5] [2,3,5,7001] [Zaw Tryz.prog 18 [.ref 7001 0,I 6] (Zae [(7001,Zaa s'_1)]) true (Zdt v_2) (Zae [(7001,Zaa s'_2)])∧(((Zaa s'_1:Ob)=Zaa s'_1∨Zer Zeg true (Zaa s'_1) (Zaa s'_1))∧Zal false (Zaa s'_1))∧True] ⟨⟨hc2,⟨.inl rfl,(by simp [Zal,Zaf,Zai,Zcx])⟩,trivial⟩,trivial⟩ (Zab (Zak ?_))
  obtain ⟨v_3,s'_3,hx3_0,hx3_1,hx3_2,hx3_3,hx3_4,hc3⟩:=Yeu s'_2 14 (by first|assumption|(simp only [Zbh] at*;simp_all;done)) om om
  refine x_r [(2,.lend [(7001,Zaa s'_2,Zaa s'_3)] [] [(true,.any),(true,.any)] true (.agg [Zav true v_3.Entries]))] [2,3] [2,3] [.ref 2 0,.ref 3 0] [some (Zct v_2),some (.box [Zav true v_3.Entries])] [Zaw Tryz.prog 19 [.ref 7001 0,I 14] (Zae [(7001,Zaa s'_2)]) true (.agg [Zav true v_3.Entries]) (Zae [(7001,Zaa s'_3)])∧(((Zaa s'_2:Ob)=Zaa s'_2∨Zer Zeg true (Zaa s'_2) (Zaa s'_2))∧Zal false (Zaa s'_2))∧True] ⟨⟨hc3,⟨.inl rfl,(by simp [Zal,Zaf,Zai,Zcx])⟩,trivial⟩,trivial⟩ (Zab (Zdd ?_))
  refine Zbw (v_2,v_3) (show (Zdg v_2)∧(Zhh v_3)∧((v_3.Entries.length:Int)≤14)∧(True) from ⟨(by assumption),(by assumption),(by assumption),trivial⟩) (trivial) (.tup [Zdt v_2,.agg [Zav true v_3.Entries]]) (by kernel_rfl) (.inl rfl) (fun _=>rfl) (fun _=>(by simp [Zai,Zaf,Zff,Zfm]))
 obtain ⟨⟨v,q⟩,⟨hh0,hh1,hh2,_⟩,hc⟩:=hh
 exact ⟨v,q,hh0,hh1,hh2,hc⟩
theorem Zee (n:Int) (low:Int) (high:Int):Con Tryz.prog 56 [I n,I low,I high] true (Bv (inB n low high)):=by
  refine Zcm (fn:=Tryz.f56) (nt:=15) Tryz.func56 rfl rfl rfl rfl (by simp [Zaf,Zai]) fun B hB=> ?_
  refine aQ [] [0,1,2] [] [] hB trivial (Zah ?_)
  by_cases h1:low≤n
  ·refine Zeo [(2,.dec true)] [6] [] [Bv (decide (n≤high))] [] [_] hB ⟨h1,trivial⟩ (Zac (Zan ?_))
   refine Zao hB (Bv (decide (n≤high))) (by kernel_rfl) (.inl (by first|rfl|(refine congrArg Bv ?_;simp [inB, *];done)|(refine congrArg Bv ?_;simp [inB, *];omega)|(refine congrArg Bv ?_;simp_all [inB];done)|(refine congrArg Bv ?_;simp_all [inB];omega))) rfl (fun _=>trivial)
  refine Zeo [(2,.dec false)] [6] [] [Bv false] [] [_] hB ⟨h1,trivial⟩ (Zac (Zan ?_))
  refine Zao hB (Bv false) (by kernel_rfl) (.inl (by first|rfl|(refine congrArg Bv ?_;simp [inB, *];done)|(refine congrArg Bv ?_;simp [inB, *];omega)|(refine congrArg Bv ?_;simp_all [inB];done)|(refine congrArg Bv ?_;simp_all [inB];omega))) rfl (fun _=>trivial)
theorem Zrv (n:Int):Con Tryz.prog 58 [I n] true (Bv (inB n 0 1000000)):=by
 refine Zcm (fn:=Tryz.f58) (nt:=5) Tryz.func58 rfl rfl rfl rfl (by simp [Zaf,Zai]) fun B hB=> ?_
 refine aQ [] [0] [] [] hB trivial ?_
 refine aR [(1,.call [(true,.any),(true,.any),(true,.any)] true (Bv (inB n 0 1000000)))] [2] [] [Bv (inB n 0 1000000)] [] [_∧True] hB ⟨⟨(Zee n 0 1000000),trivial⟩,trivial⟩ (Zan ?_)
 refine Zao hB (Bv (inB n 0 1000000)) (by kernel_rfl) (.inl rfl) rfl (fun _=>trivial)
theorem Zot (l:Lattice) (e:Edge) (he:okEd l e) (hn:l.Nodes≤20):Con Tryz.prog 53 [Zcr l,Znb e] true (Bv true):=by
 have h1:=he.1
 have h2:=he.2.1
 refine Zcm (fn:=Tryz.f53) (nt:=27) Tryz.func53 rfl rfl rfl rfl (by simp [Zaf,Zai,Zff]) fun B hB=> ?_
 refine Zck (x:=Zcr l) 0 rfl (fun len_l=> ?_)
 simp [Zei,Zhv,Zln,Zdq,Zbk] at len_l
 refine aQ [(0,.new 2),(1,.new 3)] [2,3] [2,3] [] hB trivial ?_
 refine aR [(2,.dec true),(8,.dec true),(15,.dec true),(20,.call [(true,.any)] true (Bv (inB e.Cost 0 1000000)))] [4] [] [Bv (inB e.Cost 0 1000000)] [] [0≤e.From,e.From<e.To,e.To<l.Nodes,_∧True] hB ⟨om,om,om,⟨(Zrv e.Cost),trivial⟩,trivial⟩ (Zan ?_)
 refine Zao hB (Bv (inB e.Cost 0 1000000)) (by kernel_rfl) (.inl (by first|rfl|(simp [inB];omega))) rfl (fun _=>trivial)
theorem Zjw (c:Int):Con Tryz.prog 96 [.val (.int .u8 c)] true (Bv (inB c 97 122)):=by
  refine Zcm (fn:=Tryz.f96) (nt:=9) Tryz.func96 rfl rfl rfl rfl (by simp [Zaf,Zai]) fun B hB=> ?_
  refine aQ [] [0] [] [] hB trivial (Zah ?_)
  by_cases h1:97≤c
  ·refine Zeo [(1,.dec true)] [2] [] [Bv (decide (c≤122))] [] [_] hB ⟨h1,trivial⟩ (Zac (Zan ?_))
   refine Zao hB (Bv (decide (c≤122))) (by kernel_rfl) (.inl (by first|rfl|(refine congrArg Bv ?_;simp [inB, *];done)|(refine congrArg Bv ?_;simp [inB, *];omega)|(refine congrArg Bv ?_;simp_all [inB];done)|(refine congrArg Bv ?_;simp_all [inB];omega))) rfl (fun _=>trivial)
  refine Zeo [(1,.dec false)] [2] [] [Bv false] [] [_] hB ⟨h1,trivial⟩ (Zac (Zan ?_))
  refine Zao hB (Bv false) (by kernel_rfl) (.inl (by first|rfl|(refine congrArg Bv ?_;simp [inB, *];done)|(refine congrArg Bv ?_;simp [inB, *];omega)|(refine congrArg Bv ?_;simp_all [inB];done)|(refine congrArg Bv ?_;simp_all [inB];omega))) rfl (fun _=>trivial)
def hasB (s:ByteArray) (n:Int):Bool:=s.data.toList.any fun x=>decide ((x.toNat:Int)=n)
theorem one_byte {t:ByteArray} (h:t.size=1):∃c,t=⟨#[c]⟩:=by
 obtain ⟨⟨l⟩⟩:=t
 cases l with
 |nil=>cases h
 |cons c l=>
  cases l with
  |nil=>exact ⟨c,rfl⟩
  |cons d l=>simp [ByteArray.size] at h
theorem Yjf (l:List UInt8) (c:UInt8):decide (0≤Lib.indexByte l c)=l.any fun x=>decide ((x.toNat:Int)=bAt ⟨#[c]⟩ 0):=by
 rw [←Lib.contains_iff_indexByte,Bool.eq_iff_iff]
 simp [bAt,List.contains_iff_mem]
 constructor
 ·intro h;exact ⟨c,h,rfl⟩
 ·rintro ⟨x,hx,e⟩
  have:x=c:=UInt8.toNat_inj.1 om
  exact this▸hx
theorem Ybe (s t:ByteArray) (h:t.size=1):Con Tryz.prog 97 [Sv s,Sv t] true (Bv (hasB s (bAt t 0))):=by
 obtain ⟨c,rfl⟩:=one_byte h
 refine Zkm (vals:=[.string s,.string ⟨#[c]⟩]) fun w _=> ?_
 refine (Tryz.strings_Contains_one s c w).mono ?_
 rintro e w' ⟨rfl,rfl⟩
 refine ⟨?_,Below.refl _ _⟩
 simp only [Yjf,hasB]
theorem Zlv (s:ByteArray) (ok:s.size≤9223372036854775807):Con Tryz.prog 54 [Sv s] true (Bv (Zeq s)):=by
  refine Zcm (fn:=Tryz.f54) (nt:=15) Tryz.func54 rfl rfl rfl rfl (by simp [Zaf,Zai]) fun B hB=> ?_
  refine aQ [] [0] [] [] hB trivial (Zah ?_)
  by_cases h1:(s.size:Int)=1
  ·rcases Bool.eq_false_or_eq_true (inB (bAt s 0) 97 122) with h2|h2
   ·refine Zeo [(2,.dec true),(6,.call [(true,.any)] true (Bv true))] [2] [] [Bv true] [] [_,(0:Int)≤0∧0<(s.size:Int),Con Tryz.prog 96 [.val (.int .u8 (bAt s 0))] true (Bv true)∧True] hB ⟨h1,⟨om,om⟩,⟨(Zau h2 (Zjw (bAt s 0))),trivial⟩,trivial⟩ (Zac (Zan ?_))
    refine Zao hB (Bv true) (by kernel_rfl) (.inl (by first|(refine congrArg Bv ?_;simp_all [Zeq,Zgh,inB];done)|(refine congrArg Bv ?_;have hbd:=Ycn s 0;rw [Bool.eq_iff_iff];simp_all [Zeq,hasB,Zgh,inB];omega))) rfl (fun _=>trivial)
   refine Zeo [(2,.dec true),(6,.call [(true,.any)] true (Bv false)),(9,.call [(true,.any),(true,.any)] true (Bv (hasB (⟨#[48,49,50,51,52,53,54,55,56,57,43,45,42,47,61,40,41,46,44]⟩:ByteArray) (bAt s 0))))] [2] [] [Bv (hasB (⟨#[48,49,50,51,52,53,54,55,56,57,43,45,42,47,61,40,41,46,44]⟩:ByteArray) (bAt s 0))] [] [_,(0:Int)≤0∧0<(s.size:Int),Con Tryz.prog 96 [.val (.int .u8 (bAt s 0))] true (Bv false)∧True,_∧True] hB ⟨h1,⟨om,om⟩,⟨(Zau h2 (Zjw (bAt s 0))),trivial⟩,⟨(Ybe (⟨#[48,49,50,51,52,53,54,55,56,57,43,45,42,47,61,40,41,46,44]⟩:ByteArray) s om),trivial⟩,trivial⟩ (Zac (Zan ?_))
   refine Zao hB (Bv (hasB (⟨#[48,49,50,51,52,53,54,55,56,57,43,45,42,47,61,40,41,46,44]⟩:ByteArray) (bAt s 0))) (by kernel_rfl) (.inl (by first|(refine congrArg Bv ?_;simp_all [Zeq,Zgh,inB];done)|(refine congrArg Bv ?_;have hbd:=Ycn s 0;rw [Bool.eq_iff_iff];simp_all [Zeq,hasB,Zgh,inB];omega))) rfl (fun _=>trivial)
  refine Zeo [(2,.dec false)] [2] [] [Bv false] [] [_] hB ⟨h1,trivial⟩ (Zac (Zan ?_))
  refine Zao hB (Bv false) (by kernel_rfl) (.inl (by first|(refine congrArg Bv ?_;simp_all [Zeq,Zgh,inB];done)|(refine congrArg Bv ?_;have hbd:=Ycn s 0;rw [Bool.eq_iff_iff];simp_all [Zeq,hasB,Zgh,inB];omega))) rfl (fun _=>trivial)
theorem Zym (x:Int):Con Tryz.prog 124 [I x] true (Bv false):=by
 refine Zcm (fn:=Tryz.f124) (nt:=6) Tryz.func124 rfl rfl rfl rfl (by simp [Zaf,Zai]) fun B hB=> ?_
 refine aQ [] [0] [] [] hB trivial ?_
 refine aR [(2,.dec false)] [2] [] [Bv false] [] [¬ (x≠x)] hB ⟨(fun hq=>hq rfl),trivial⟩ (Zan ?_)
 refine Zao hB (Bv false) (by kernel_rfl) (.inl rfl) rfl (fun _=>trivial)
end Go.Proofs.YtomafbpfgpkolaaGreatDoor.Ax
