/- Contracts that the statement FnChanged reaches, part 1. No conditions. -/
import Derived.Test.YtnlfghpgfjlblaaDoorAxO
import Derived.Test.YtnlfghpgfjlblaaDoorShelf
import Derived.Test.YtnlfghpgfjlblaaDoorTie
import Derived.Test.YtnlfghpgfjlblaaDoorCards
import Derived.LaidMore
import Derived.Lay
import Derived.Lib.Repeat
import Derived.OpenShut
import Derived.SevenTiedAt
import Derived.Shelf.Strings.SlTrimAscii
import Derived.Stop.Joined
import Derived.Test.YtnlfghpgfjlblaaDoorAxBd
namespace Go.Proofs.YtnlfghpgfjlblaaDoor.Ax
open Go.RowKit Go.ChangeShapes Go.WideShapes
set_option linter.unusedVariables false
set_option linter.unusedSimpArgs false
def cU8 (x:Int):List AV:=[.val (.int .u8 x)]
def fU8 (xs:List Int) (i:Nat):List AV:=cU8 (at_ xs i)
def Zgq (fr:Bool) (xs:List Int):AV:= .sl fr 1 xs.length (fU8 xs)
theorem tagcU8 (t:Bool) (x:Int):Zae t (cU8 x):=by simp [cU8,Zae,Zah]
theorem Zcv (t:Bool) (xs:List Int):Zah t (Zgq t xs):=by simp only [Zgq,Zah];exact ⟨trivial,fun i _=>tagcU8 t _⟩
abbrev tAU8 (xs:List Int):Ob:= .arr 1 xs.length (fU8 xs)
def cI (x:Int):List AV:=[I x]
def fI (xs:List Int) (i:Nat):List AV:=cI (at_ xs i)
def slI (fr:Bool) (xs:List Int):AV:= .sl fr 1 xs.length (fI xs)
theorem tagcI (t:Bool) (x:Int):Zae t (cI x):=by simp [cI,Zae,Zah]
theorem Ztf (t:Bool) (xs:List Int):Zah t (slI t xs):=by simp only [slI,Zah];exact ⟨trivial,fun i _=>tagcI t _⟩
abbrev tAI (xs:List Int):Ob:= .arr 1 xs.length (fI xs)
structure Point where
 X:Int
 Y:Int
 T:Int
deriving DecidableEq,Inhabited
def Zgu (x:Point):List AV:=[I x.X,I x.Y,I x.T]
def Zcp (xs:List Point) (i:Nat):List AV:=Zgu (at_ xs i)
def Zaq (fr:Bool) (xs:List Point):AV:= .sl fr 3 xs.length (Zcp xs)
theorem Zxq (t:Bool) (x:Point):Zae t (Zgu x):=by simp [Zgu,Zae,Zah]
theorem Zfm (t:Bool) (xs:List Point):Zah t (Zaq t xs):=by simp only [Zaq,Zah];exact ⟨trivial,fun i _=>Zxq t _⟩
abbrev Zrv (x:Point):Ob:= .box [I x.X,I x.Y,I x.T]
abbrev Zem (x:Point):AV:= .agg [I x.X,I x.Y,I x.T]
abbrev Zcl (xs:List Point):Ob:= .arr 3 xs.length (Zcp xs)
structure Stroke where
 Points:List Point
deriving DecidableEq,Inhabited
def Zgv (fr:Bool) (x:Stroke):List AV:=[Zaq fr x.Points]
def Zbp (fr:Bool) (xs:List Stroke) (i:Nat):List AV:=Zgv fr (at_ xs i)
def Zaj (fr:Bool) (xs:List Stroke):AV:= .sl fr 1 xs.length (Zbp fr xs)
theorem Zup (t:Bool) (x:Stroke):Zae t (Zgv t x):=by simp [Zgv,Zae,Zah,Zfm]
theorem Zcz (t:Bool) (xs:List Stroke):Zah t (Zaj t xs):=by simp only [Zaj,Zah];exact ⟨trivial,fun i _=>Zup t _⟩
theorem Zfw (fr:Bool) (x:Stroke):AV.idsL (Zgv fr x)=[]:=rfl
theorem Zhj (fr:Bool) (x:Stroke) (ob:Nat→Option Ob):leL ob false (Zgv fr x) (Zgv false x):=(And.intro (And.intro (fun h=>by cases h) (And.intro rfl (And.intro rfl (fun i _=> .inl rfl)))) rfl)
abbrev Zge (fr:Bool) (xs:List Stroke):Ob:= .arr 1 xs.length (Zbp fr xs)
structure Ink where
 Strokes:List Stroke
deriving DecidableEq,Inhabited
def cLU8 (fr:Bool) (x:List Int):List AV:=[Zgq fr x]
structure l00Src where
 code:List Int
 atx:Int
 seed:Int
deriving DecidableEq,Inhabited
abbrev Zaa (x:l00Src):Ob:= .box [Zgq false x.code,I x.atx,.val (.int .u64 x.seed)]
structure Arr3LI where
 a0:List Int
 a1:List Int
 a2:List Int
deriving DecidableEq,Inhabited
abbrev Zas (x:Arr3LI):AV:= .agg [slI true x.a0,slI true x.a1,slI true x.a2]
structure reader where
 bits:ByteArray
 atx:Int
 broken:Bool
deriving DecidableEq,Inhabited
abbrev Zag (x:reader):Ob:= .box [Sv x.bits,I x.atx,Bv x.broken]
theorem Zpb (code:List Int) (more:List Int):Con Tryd.prog 4 [Zgq false code,Zgq false more] true (Bv (decide (3000<(code.length:Int)∨3000<(more.length:Int)))):=by
  refine Zej (fn:=Tryd.f4) (nt:=13) Tryd.func4 rfl rfl rfl rfl (by simp [Zae,Zah,Zcv]) fun B hB=> ?_
  refine Zfe (x:=Zgq false code) 0 rfl (fun len_code=> ?_)
  simp [Zhp,Zot,cU8,fU8,Zgq] at len_code
  refine Zfe (x:=Zgq false more) 1 rfl (fun len_more=> ?_)
  simp [Zhp,Zot,cU8,fU8,Zgq] at len_more
  refine aQ [] [0,1] [] [] hB trivial (Zan ?_)
  by_cases h1:3000<(code.length:Int)
  ·refine Zit [(2,.dec true)] [4] [] [Bv true] [] [_] hB ⟨h1,trivial⟩ (Zaf (Zat ?_))
   refine Zau hB (Bv true) (by kernel_rfl) (.inl (by refine congrArg Bv ?_;simp [*])) rfl (fun _=>trivial)
  refine Zit [(2,.dec false)] [4] [] [Bv (decide (3000<(more.length:Int)))] [] [_] hB ⟨h1,trivial⟩ (Zaf (Zat ?_))
  refine Zau hB (Bv (decide (3000<(more.length:Int)))) (by kernel_rfl) (.inl (by refine congrArg Bv ?_;simp [*])) rfl (fun _=>trivial)
theorem set_at {α:Type} [Inhabited α] {ys xs:List α} {i:Int} (hl:ys.length=xs.length) (hi:i.toNat<xs.length) (h:∀j:Nat,(j:Int)<i→at_ ys j=at_ xs j) (j:Nat) (hj:j≤i.toNat):at_ (ys.set i.toNat (at_ xs i.toNat)) j=at_ xs j:=by
 by_cases e:i.toNat=j
 ·subst e;simp [at_,hl,hi]
 ·have:=h j om
  simp only [at_] at this⊢
  rw [←this]
  simp [e]
def same {α:Type} [DecidableEq α] (x y:α):Bool:=decide (x=y)
theorem ext_at {α:Type} [Inhabited α] {xs ys:List α} (hl:xs.length=ys.length) (h:∀j:Nat,j<xs.length→at_ xs j=at_ ys j):xs=ys:=by
 apply List.ext_getElem hl
 intro i h1 h2
 rw [←Zgr h1,←Zgr h2]
 exact h i h1
theorem Zdf {α:Type} [Inhabited α] {xs:List α} {i:Nat} (h:i<xs.length):at_ xs i∈xs:=by rw [Zgr h];exact List.getElem_mem h
def Zqr (n:Nat) (p:Nat→Bool):Bool:=(List.range n).all p
theorem Zhl {n:Nat} {p:Nat→Bool} :Zqr n p=true↔∀j,j<n→p j=true:=by simp [Zqr,List.all_eq_true]
theorem Zok {n:Nat} {p:Nat→Bool} (h:∀j,j<n→p j=true):Zqr n p=true:=Zhl.2 h
theorem Ztl {n:Nat} {p:Nat→Bool} (h:Zqr n p=true) {k:Nat} (hk:k<n):p k=true:=Zhl.1 h k hk
theorem Zjz {n:Nat} {p:Nat→Bool} {k:Nat} (hk:k<n) (h:p k=false):Zqr n p=false:=by
 rw [←Bool.not_eq_true,Zhl];intro h';rw [h' k hk] at h;cases h
def Zbj (s:l00Src):Prop:=(∀j,j<s.code.length→0≤at_ s.code j∧at_ s.code j≤255)∧0≤s.atx∧s.code.length≤4611686018427387904
theorem Zxr (a:Int):0≤Zck .and .u64 a 255∧Zck .and .u64 a 255≤255:=by
 obtain ⟨n,hn⟩:∃n:Nat,n=(BitVec.ofInt 64 a&&&BitVec.ofInt 64 255).toNat:=⟨_,rfl⟩
 have h:n≤255:=by rw [hn,BitVec.toNat_and];exact Nat.and_le_right
 have e:Zck .and .u64 a 255=IntKind.u64.wrap (n:Int):=by rw [hn];rfl
 have w:IntKind.u64.wrap (n:Int)=n:=Zft (Zqu om om)
 rw [e,w];omega
theorem Zuq (code:List Int):∃(s':l00Src),(s'.code=code∧s'.atx=0)∧Zao Tryd.prog 9 [Zgq false code] (Zac []) false (.ref 7001 0) (Zac [(7001,Zaa s')]):=by
 have hh:∃r:l00Src,((r.code=code∧r.atx=0)∧(True))∧Zao Tryd.prog 9 [Zgq false code] (Zac []) false (.ref 7001 0) (Zac [(7001,Zaa r)]):=by
  refine Zdt (Φ:=fun r:l00Src=>(r.code=code∧r.atx=0)∧(True)) [] (fun r=>[(7001,Zaa r)]) (fn:=Tryd.f9) (nt:=6) Tryd.func9 rfl rfl (args:=[Zgq false code]) rfl (Zca (.inl ⟨rfl,Zcv false _⟩) Zdu) (res:=fun r=> .ref 7001 0) ?_
  refine xQ [] [0] [] [] trivial ?_
  refine xR [(2,.new 7001)] [2] [7001] [.ref 7001 0] [some (.box [Zgq false code,I 0,.val (.int .u64 0)])] [] trivial (Zcw ?_)
  refine Zbw (l00Src.mk code 0 0) (show ((l00Src.mk code 0 0).code=code∧(l00Src.mk code 0 0).atx=0)∧(True) from ⟨(by first|rfl|(exact ⟨rfl,rfl⟩)),trivial⟩) (⟨.inl rfl,trivial⟩) (.ref 7001 0) (by kernel_rfl) (.inl rfl) (fun h=>by cases h) (fun h=>by cases h)
 obtain ⟨s',⟨hh0,_⟩,hc⟩:=hh
 exact ⟨s',hh0,hc⟩
theorem Zxs (s:l00Src) (hs:Zbj s) (ha:s.atx≤4000000000000000000):∃(v:Int) (s':l00Src),(0≤v∧v≤255)∧(Zbj s')∧(s'.code=s.code)∧(s.atx+1≤s'.atx∧s'.atx≤s.atx+1)∧Zao Tryd.prog 37 [.ref 7001 0] (Zac [(7001,Zaa s)]) true (I v) (Zac [(7001,Zaa s')]):=by
  have hs0:=hs.2.1
  have hs1:=hs.2.2
  have hh:∃r:Int×l00Src,((0≤r.1∧r.1≤255)∧(Zbj r.2)∧(r.2.code=s.code)∧(s.atx+1≤r.2.atx∧r.2.atx≤s.atx+1)∧(True))∧Zao Tryd.prog 37 [.ref 7001 0] (Zac [(7001,Zaa s)]) true (I r.1) (Zac [(7001,Zaa r.2)]):=by
    refine Zdt (Φ:=fun r:Int×l00Src=>(0≤r.1∧r.1≤255)∧(Zbj r.2)∧(r.2.code=s.code)∧(s.atx+1≤r.2.atx∧r.2.atx≤s.atx+1)∧(True)) [(7001,Zaa s)] (fun r=>[(7001,Zaa r.2)]) (fn:=Tryd.f37) (nt:=62) Tryd.func37 rfl rfl (args:=[.ref 7001 0]) rfl (Zca (.inr trivial) Zdu) (res:=fun r=>I r.1) ?_
    refine xQ [] [0] [7001] [] trivial ?_
    refine xQ [] [0,3] [7001] [] trivial (Zal (Zal ?_))
    by_cases h1:s.atx<(s.code.length:Int)
    ·have hbt:=hs.1 s.atx.toNat om
     refine x_q [(9,.dec true)] [0,3,13] [7001] [_] ⟨h1,trivial⟩ (Zab (Zfk ?_))
     refine x_r [] [0,3] [7001] [.ref 7001 0,I (at_ s.code s.atx.toNat)] [some (Zaa s)] [(0:Int)≤s.atx∧s.atx<(s.code.length:Int),inR .i64 (at_ s.code s.atx.toNat)] ⟨⟨om,om⟩,(Zad om om),trivial⟩ (Zab ?_)
     refine xQ [] [0,3] [7001] [inR .i64 (s.atx+1)] ⟨(Zad om om),trivial⟩ ?_
     refine xQ [(5,.wrap),(8,.wrap),(9,.wrap)] [0,3] [7001] [inR .u64 (at_ s.code s.atx.toNat)] ⟨(Zqu om om),trivial⟩ (Zal (Zal ?_))
     by_cases h2:(s.atx+1)≤(s.code.length:Int)
     ·refine x_q [(9,.dec true)] [0,3,53] [7001] [_] ⟨h2,trivial⟩ (Zab (Zfk ?_))
      refine xR [] [2] [7001] [I (at_ s.code s.atx.toNat)] [some (.box [Zgq false s.code,I (s.atx+1),.val (.int .u64 (IntKind.u64.wrap ((IntKind.u64.wrap ((IntKind.u64.wrap (s.seed*6364136223846793005))+(at_ s.code s.atx.toNat)))+1442695040888963407)))])] [] trivial (Zcw (Zar ?_))
      refine Zbw ((at_ s.code s.atx.toNat),(l00Src.mk s.code (s.atx+1) (IntKind.u64.wrap ((IntKind.u64.wrap ((IntKind.u64.wrap (s.seed*6364136223846793005))+(at_ s.code s.atx.toNat)))+1442695040888963407)))) (show (0≤(at_ s.code s.atx.toNat)∧(at_ s.code s.atx.toNat)≤255)∧(Zbj (l00Src.mk s.code (s.atx+1) (IntKind.u64.wrap ((IntKind.u64.wrap ((IntKind.u64.wrap (s.seed*6364136223846793005))+(at_ s.code s.atx.toNat)))+1442695040888963407))))∧((l00Src.mk s.code (s.atx+1) (IntKind.u64.wrap ((IntKind.u64.wrap ((IntKind.u64.wrap (s.seed*6364136223846793005))+(at_ s.code s.atx.toNat)))+1442695040888963407))).code=s.code)∧(s.atx+1≤(l00Src.mk s.code (s.atx+1) (IntKind.u64.wrap ((IntKind.u64.wrap ((IntKind.u64.wrap (s.seed*6364136223846793005))+(at_ s.code s.atx.toNat)))+1442695040888963407))).atx∧(l00Src.mk s.code (s.atx+1) (IntKind.u64.wrap ((IntKind.u64.wrap ((IntKind.u64.wrap (s.seed*6364136223846793005))+(at_ s.code s.atx.toNat)))+1442695040888963407))).atx≤s.atx+1)∧(True) from ⟨(by first|omega|rfl|assumption|(dsimp only;first|omega|rfl|assumption)|(simp only [*];done)|exact ⟨hs.1,(by dsimp only;omega),hs1⟩),(by first|omega|rfl|assumption|(dsimp only;first|omega|rfl|assumption)|(simp only [*];done)|exact ⟨hs.1,(by dsimp only;omega),hs1⟩),(by first|omega|rfl|assumption|(dsimp only;first|omega|rfl|assumption)|(simp only [*];done)|exact ⟨hs.1,(by dsimp only;omega),hs1⟩),(by first|omega|rfl|assumption|(dsimp only;first|omega|rfl|assumption)|(simp only [*];done)|exact ⟨hs.1,(by dsimp only;omega),hs1⟩),trivial⟩) (⟨.inl rfl,trivial⟩) (I (at_ s.code s.atx.toNat)) (by kernel_rfl) (.inl rfl) (fun _=>rfl) (fun _=>trivial)
     refine x_q [(9,.dec false)] [0,3,53] [7001] [_] ⟨h2,trivial⟩ (Zab (Zjn (Zbr (Zab (Zal ?_)))))
     have hb1:=Zxr ((IntKind.u64.wrap ((IntKind.u64.wrap ((IntKind.u64.wrap (s.seed*6364136223846793005))+(at_ s.code s.atx.toNat)))+1442695040888963407))/1099511627776)
     refine x_r [] [2] [7001] [I (Zck .and .u64 ((IntKind.u64.wrap ((IntKind.u64.wrap ((IntKind.u64.wrap (s.seed*6364136223846793005))+(at_ s.code s.atx.toNat)))+1442695040888963407))/1099511627776) 255)] [some (.box [Zgq false s.code,I (s.atx+1),.val (.int .u64 (IntKind.u64.wrap ((IntKind.u64.wrap ((IntKind.u64.wrap (s.seed*6364136223846793005))+(at_ s.code s.atx.toNat)))+1442695040888963407)))])] [(0:Int)≤40∧(40:Int)≤((IntKind.bits .u64:Nat):Int),inR .i64 (Zck .and .u64 ((IntKind.u64.wrap ((IntKind.u64.wrap ((IntKind.u64.wrap (s.seed*6364136223846793005))+(at_ s.code s.atx.toNat)))+1442695040888963407))/1099511627776) 255)] ⟨⟨(by decide),(by decide)⟩,(Zad om om),trivial⟩ (Zab (Zcw ?_))
     refine Zbw ((Zck .and .u64 ((IntKind.u64.wrap ((IntKind.u64.wrap ((IntKind.u64.wrap (s.seed*6364136223846793005))+(at_ s.code s.atx.toNat)))+1442695040888963407))/1099511627776) 255),(l00Src.mk s.code (s.atx+1) (IntKind.u64.wrap ((IntKind.u64.wrap ((IntKind.u64.wrap (s.seed*6364136223846793005))+(at_ s.code s.atx.toNat)))+1442695040888963407)))) (show (0≤(Zck .and .u64 ((IntKind.u64.wrap ((IntKind.u64.wrap ((IntKind.u64.wrap (s.seed*6364136223846793005))+(at_ s.code s.atx.toNat)))+1442695040888963407))/1099511627776) 255)∧(Zck .and .u64 ((IntKind.u64.wrap ((IntKind.u64.wrap ((IntKind.u64.wrap (s.seed*6364136223846793005))+(at_ s.code s.atx.toNat)))+1442695040888963407))/1099511627776) 255)≤255)∧(Zbj (l00Src.mk s.code (s.atx+1) (IntKind.u64.wrap ((IntKind.u64.wrap ((IntKind.u64.wrap (s.seed*6364136223846793005))+(at_ s.code s.atx.toNat)))+1442695040888963407))))∧((l00Src.mk s.code (s.atx+1) (IntKind.u64.wrap ((IntKind.u64.wrap ((IntKind.u64.wrap (s.seed*6364136223846793005))+(at_ s.code s.atx.toNat)))+1442695040888963407))).code=s.code)∧(s.atx+1≤(l00Src.mk s.code (s.atx+1) (IntKind.u64.wrap ((IntKind.u64.wrap ((IntKind.u64.wrap (s.seed*6364136223846793005))+(at_ s.code s.atx.toNat)))+1442695040888963407))).atx∧(l00Src.mk s.code (s.atx+1) (IntKind.u64.wrap ((IntKind.u64.wrap ((IntKind.u64.wrap (s.seed*6364136223846793005))+(at_ s.code s.atx.toNat)))+1442695040888963407))).atx≤s.atx+1)∧(True) from ⟨(by first|omega|rfl|assumption|(dsimp only;first|omega|rfl|assumption)|(simp only [*];done)|exact ⟨hs.1,(by dsimp only;omega),hs1⟩),(by first|omega|rfl|assumption|(dsimp only;first|omega|rfl|assumption)|(simp only [*];done)|exact ⟨hs.1,(by dsimp only;omega),hs1⟩),(by first|omega|rfl|assumption|(dsimp only;first|omega|rfl|assumption)|(simp only [*];done)|exact ⟨hs.1,(by dsimp only;omega),hs1⟩),(by first|omega|rfl|assumption|(dsimp only;first|omega|rfl|assumption)|(simp only [*];done)|exact ⟨hs.1,(by dsimp only;omega),hs1⟩),trivial⟩) (⟨.inl rfl,trivial⟩) (I (Zck .and .u64 ((IntKind.u64.wrap ((IntKind.u64.wrap ((IntKind.u64.wrap (s.seed*6364136223846793005))+(at_ s.code s.atx.toNat)))+1442695040888963407))/1099511627776) 255)) (by kernel_rfl) (.inl rfl) (fun _=>rfl) (fun _=>trivial)
    refine x_q [(9,.dec false)] [0,3,13] [7001] [_] ⟨h1,trivial⟩ (Zab (Zjn (Zbr (Zab ?_))))
    refine xQ [] [0,3] [7001] [inR .i64 (s.atx+1)] ⟨(Zad om om),trivial⟩ ?_
    refine xQ [(5,.wrap),(8,.wrap),(9,.wrap)] [0,3] [7001] [inR .u64 0] ⟨(Zqu om om),trivial⟩ (Zal (Zal ?_))
    by_cases h3:(s.atx+1)≤(s.code.length:Int)
    ·refine x_r [(9,.dec true)] [0,3,53] [7001] [.ref 7001 0,I 0,Bv true] [some (.box [Zgq false s.code,I (s.atx+1),.val (.int .u64 (IntKind.u64.wrap ((IntKind.u64.wrap ((IntKind.u64.wrap (s.seed*6364136223846793005))+0))+1442695040888963407)))])] [_] ⟨h3,trivial⟩ (Zab (Zux rfl ?_))
     refine xR [] [2] [7001] [I 0] [some (.box [Zgq false s.code,I (s.atx+1),.val (.int .u64 (IntKind.u64.wrap ((IntKind.u64.wrap ((IntKind.u64.wrap (s.seed*6364136223846793005))+0))+1442695040888963407)))])] [] trivial (Zcw (Zar ?_))
     refine Zbw (0,(l00Src.mk s.code (s.atx+1) (IntKind.u64.wrap ((IntKind.u64.wrap ((IntKind.u64.wrap (s.seed*6364136223846793005))+0))+1442695040888963407)))) (show (0≤0∧0≤255)∧(Zbj (l00Src.mk s.code (s.atx+1) (IntKind.u64.wrap ((IntKind.u64.wrap ((IntKind.u64.wrap (s.seed*6364136223846793005))+0))+1442695040888963407))))∧((l00Src.mk s.code (s.atx+1) (IntKind.u64.wrap ((IntKind.u64.wrap ((IntKind.u64.wrap (s.seed*6364136223846793005))+0))+1442695040888963407))).code=s.code)∧(s.atx+1≤(l00Src.mk s.code (s.atx+1) (IntKind.u64.wrap ((IntKind.u64.wrap ((IntKind.u64.wrap (s.seed*6364136223846793005))+0))+1442695040888963407))).atx∧(l00Src.mk s.code (s.atx+1) (IntKind.u64.wrap ((IntKind.u64.wrap ((IntKind.u64.wrap (s.seed*6364136223846793005))+0))+1442695040888963407))).atx≤s.atx+1)∧(True) from ⟨(by first|omega|rfl|assumption|(dsimp only;first|omega|rfl|assumption)|(simp only [*];done)|exact ⟨hs.1,(by dsimp only;omega),hs1⟩),(by first|omega|rfl|assumption|(dsimp only;first|omega|rfl|assumption)|(simp only [*];done)|exact ⟨hs.1,(by dsimp only;omega),hs1⟩),(by first|omega|rfl|assumption|(dsimp only;first|omega|rfl|assumption)|(simp only [*];done)|exact ⟨hs.1,(by dsimp only;omega),hs1⟩),(by first|omega|rfl|assumption|(dsimp only;first|omega|rfl|assumption)|(simp only [*];done)|exact ⟨hs.1,(by dsimp only;omega),hs1⟩),trivial⟩) (⟨.inl rfl,trivial⟩) (I 0) (by kernel_rfl) (.inl rfl) (fun _=>rfl) (fun _=>trivial)
    refine x_q [(9,.dec false)] [0,3,53] [7001] [_] ⟨h3,trivial⟩ (Zab (Zjn (Zbr (Zab (Zal ?_)))))
    have hb2:=Zxr ((IntKind.u64.wrap ((IntKind.u64.wrap ((IntKind.u64.wrap (s.seed*6364136223846793005))+0))+1442695040888963407))/1099511627776)
    refine x_r [] [2] [7001] [I (Zck .and .u64 ((IntKind.u64.wrap ((IntKind.u64.wrap ((IntKind.u64.wrap (s.seed*6364136223846793005))+0))+1442695040888963407))/1099511627776) 255)] [some (.box [Zgq false s.code,I (s.atx+1),.val (.int .u64 (IntKind.u64.wrap ((IntKind.u64.wrap ((IntKind.u64.wrap (s.seed*6364136223846793005))+0))+1442695040888963407)))])] [(0:Int)≤40∧(40:Int)≤((IntKind.bits .u64:Nat):Int),inR .i64 (Zck .and .u64 ((IntKind.u64.wrap ((IntKind.u64.wrap ((IntKind.u64.wrap (s.seed*6364136223846793005))+0))+1442695040888963407))/1099511627776) 255)] ⟨⟨(by decide),(by decide)⟩,(Zad om om),trivial⟩ (Zab (Zcw ?_))
    refine Zbw ((Zck .and .u64 ((IntKind.u64.wrap ((IntKind.u64.wrap ((IntKind.u64.wrap (s.seed*6364136223846793005))+0))+1442695040888963407))/1099511627776) 255),(l00Src.mk s.code (s.atx+1) (IntKind.u64.wrap ((IntKind.u64.wrap ((IntKind.u64.wrap (s.seed*6364136223846793005))+0))+1442695040888963407)))) (show (0≤(Zck .and .u64 ((IntKind.u64.wrap ((IntKind.u64.wrap ((IntKind.u64.wrap (s.seed*6364136223846793005))+0))+1442695040888963407))/1099511627776) 255)∧(Zck .and .u64 ((IntKind.u64.wrap ((IntKind.u64.wrap ((IntKind.u64.wrap (s.seed*6364136223846793005))+0))+1442695040888963407))/1099511627776) 255)≤255)∧(Zbj (l00Src.mk s.code (s.atx+1) (IntKind.u64.wrap ((IntKind.u64.wrap ((IntKind.u64.wrap (s.seed*6364136223846793005))+0))+1442695040888963407))))∧((l00Src.mk s.code (s.atx+1) (IntKind.u64.wrap ((IntKind.u64.wrap ((IntKind.u64.wrap (s.seed*6364136223846793005))+0))+1442695040888963407))).code=s.code)∧(s.atx+1≤(l00Src.mk s.code (s.atx+1) (IntKind.u64.wrap ((IntKind.u64.wrap ((IntKind.u64.wrap (s.seed*6364136223846793005))+0))+1442695040888963407))).atx∧(l00Src.mk s.code (s.atx+1) (IntKind.u64.wrap ((IntKind.u64.wrap ((IntKind.u64.wrap (s.seed*6364136223846793005))+0))+1442695040888963407))).atx≤s.atx+1)∧(True) from ⟨(by first|omega|rfl|assumption|(dsimp only;first|omega|rfl|assumption)|(simp only [*];done)|exact ⟨hs.1,(by dsimp only;omega),hs1⟩),(by first|omega|rfl|assumption|(dsimp only;first|omega|rfl|assumption)|(simp only [*];done)|exact ⟨hs.1,(by dsimp only;omega),hs1⟩),(by first|omega|rfl|assumption|(dsimp only;first|omega|rfl|assumption)|(simp only [*];done)|exact ⟨hs.1,(by dsimp only;omega),hs1⟩),(by first|omega|rfl|assumption|(dsimp only;first|omega|rfl|assumption)|(simp only [*];done)|exact ⟨hs.1,(by dsimp only;omega),hs1⟩),trivial⟩) (⟨.inl rfl,trivial⟩) (I (Zck .and .u64 ((IntKind.u64.wrap ((IntKind.u64.wrap ((IntKind.u64.wrap (s.seed*6364136223846793005))+0))+1442695040888963407))/1099511627776) 255)) (by kernel_rfl) (.inl rfl) (fun _=>rfl) (fun _=>trivial)
  obtain ⟨⟨v,s'⟩,⟨hh0,hh1,hh2,hh3,_⟩,hc⟩:=hh
  exact ⟨v,s',hh0,hh1,hh2,hh3,hc⟩
theorem Zco (s:l00Src) (n:Int) (hs:Zbj s) (ha:s.atx≤3999999999999999990):∃(v:Int) (s':l00Src),(0≤v∧(v<n∨v=0))∧(Zbj s')∧(s'.code=s.code)∧(s.atx+0≤s'.atx∧s'.atx≤s.atx+2)∧Zao Tryd.prog 20 [.ref 7001 0,I n] (Zac [(7001,Zaa s)]) true (I v) (Zac [(7001,Zaa s')]):=by
  have hs0:=hs.2.1
  have hs1:=hs.2.2
  have hh:∃r:Int×l00Src,((0≤r.1∧(r.1<n∨r.1=0))∧(Zbj r.2)∧(r.2.code=s.code)∧(s.atx+0≤r.2.atx∧r.2.atx≤s.atx+2)∧(True))∧Zao Tryd.prog 20 [.ref 7001 0,I n] (Zac [(7001,Zaa s)]) true (I r.1) (Zac [(7001,Zaa r.2)]):=by
    refine Zdt (Φ:=fun r:Int×l00Src=>(0≤r.1∧(r.1<n∨r.1=0))∧(Zbj r.2)∧(r.2.code=s.code)∧(s.atx+0≤r.2.atx∧r.2.atx≤s.atx+2)∧(True)) [(7001,Zaa s)] (fun r=>[(7001,Zaa r.2)]) (fn:=Tryd.f20) (nt:=20) Tryd.func20 rfl rfl (args:=[.ref 7001 0,I n]) rfl (Zca (.inr trivial) (Zca (.inl ⟨rfl,trivial⟩) Zdu)) (res:=fun r=>I r.1) ?_
    refine xQ [] [0,1] [7001] [] trivial (Zal (Zal ?_))
    by_cases h1:n≤1
    ·refine x_q [(1,.dec true)] [0,1,7] [7001] [_] ⟨h1,trivial⟩ (Zab (Zfk ?_))
     refine xR [] [4] [7001] [I 0] [some (Zaa s)] [] trivial (Zcw (Zar ?_))
     refine Zbw (0,s) (show (0≤0∧(0<n∨0=0))∧(Zbj s)∧(s.code=s.code)∧(s.atx+0≤s.atx∧s.atx≤s.atx+2)∧(True) from ⟨(by first|omega|rfl|assumption|(dsimp only;first|omega|rfl|assumption)|(simp only [*];done)|exact ⟨Int.emod_nonneg _ om,.inl (Int.emod_lt_of_pos _ om)⟩),(by first|omega|rfl|assumption|(dsimp only;first|omega|rfl|assumption)|(simp only [*];done)|exact ⟨Int.emod_nonneg _ om,.inl (Int.emod_lt_of_pos _ om)⟩),(by first|omega|rfl|assumption|(dsimp only;first|omega|rfl|assumption)|(simp only [*];done)|exact ⟨Int.emod_nonneg _ om,.inl (Int.emod_lt_of_pos _ om)⟩),(by first|omega|rfl|assumption|(dsimp only;first|omega|rfl|assumption)|(simp only [*];done)|exact ⟨Int.emod_nonneg _ om,.inl (Int.emod_lt_of_pos _ om)⟩),trivial⟩) (⟨.inl rfl,trivial⟩) (I 0) (by kernel_rfl) (.inl rfl) (fun _=>rfl) (fun _=>trivial)
    refine x_q [(1,.dec false)] [0,1,7] [7001] [_] ⟨h1,trivial⟩ (Zab (Zjn (Zbr (Zab (Zal ?_)))))
    obtain ⟨v_1,s'_1,hx1_0,hx1_1,hx1_2,hx1_3,hc1⟩:=Zxs s (by first|assumption|(simp only [Zbj] at*;simp_all;done)) om
    refine x_q [(1,.lend [(7001,Zaa s,Zaa s'_1)] [] [(true,.any)] true (I v_1))] [0,1,5] [7001] [Zao Tryd.prog 37 [.ref 7001 0] (Zac [(7001,Zaa s)]) true (I v_1) (Zac [(7001,Zaa s'_1)])∧(((Zaa s:Ob)=Zaa s∨Zed Zdl true (Zaa s) (Zaa s))∧Zai false (Zaa s))∧True] ⟨⟨hc1,⟨.inl rfl,(by simp [Zai,Zae,Zah,Zcv])⟩,trivial⟩,trivial⟩ (Zab (Zal (Zal ?_)))
    by_cases h2:200<n
    ·refine x_q [(1,.dec true)] [0,1,5,11] [7001] [_] ⟨h2,trivial⟩ (Zab (Zfk ?_))
     obtain ⟨v_2,s'_2,hx2_0,hx2_1,hx2_2,hx2_3,hc2⟩:=Zxs s'_1 (by first|assumption|(simp only [Zbj] at*;simp_all;done)) om
     refine x_r [(3,.lend [(7001,Zaa s'_1,Zaa s'_2)] [] [(true,.any)] true (I v_2))] [1,5] [7001] [I n,I ((v_1*256)+v_2)] [some (Zaa s'_2)] [inR .i64 (v_1*256),Zao Tryd.prog 37 [.ref 7001 0] (Zac [(7001,Zaa s'_1)]) true (I v_2) (Zac [(7001,Zaa s'_2)])∧(((Zaa s'_1:Ob)=Zaa s'_1∨Zed Zdl true (Zaa s'_1) (Zaa s'_1))∧Zai false (Zaa s'_1))∧True,inR .i64 ((v_1*256)+v_2)] ⟨(Zad om om),⟨hc2,⟨.inl rfl,(by simp [Zai,Zae,Zah,Zcv])⟩,trivial⟩,(Zad om om),trivial⟩ (Zab ?_)
     refine xR [(2,.nn)] [4] [7001] [I (((v_1*256)+v_2) % n)] [some (Zaa s'_2)] [(0:Int)≤((v_1*256)+v_2)∧(0:Int)<n] ⟨⟨om,om⟩,trivial⟩ (Zcw ?_)
     refine Zbw ((((v_1*256)+v_2) % n),s'_2) (show (0≤(((v_1*256)+v_2) % n)∧((((v_1*256)+v_2) % n)<n∨(((v_1*256)+v_2) % n)=0))∧(Zbj s'_2)∧(s'_2.code=s.code)∧(s.atx+0≤s'_2.atx∧s'_2.atx≤s.atx+2)∧(True) from ⟨(by first|omega|rfl|assumption|(dsimp only;first|omega|rfl|assumption)|(simp only [*];done)|exact ⟨Int.emod_nonneg _ om,.inl (Int.emod_lt_of_pos _ om)⟩),(by first|omega|rfl|assumption|(dsimp only;first|omega|rfl|assumption)|(simp only [*];done)|exact ⟨Int.emod_nonneg _ om,.inl (Int.emod_lt_of_pos _ om)⟩),(by first|omega|rfl|assumption|(dsimp only;first|omega|rfl|assumption)|(simp only [*];done)|exact ⟨Int.emod_nonneg _ om,.inl (Int.emod_lt_of_pos _ om)⟩),(by first|omega|rfl|assumption|(dsimp only;first|omega|rfl|assumption)|(simp only [*];done)|exact ⟨Int.emod_nonneg _ om,.inl (Int.emod_lt_of_pos _ om)⟩),trivial⟩) (⟨.inl rfl,trivial⟩) (I (((v_1*256)+v_2) % n)) (by kernel_rfl) (.inl rfl) (fun _=>rfl) (fun _=>trivial)
    refine x_q [(1,.dec false)] [0,1,5,11] [7001] [_] ⟨h2,trivial⟩ (Zab (Zjn (Zbr (Zab ?_))))
    refine xR [(2,.nn)] [4] [7001] [I (v_1 % n)] [some (Zaa s'_1)] [(0:Int)≤v_1∧(0:Int)<n] ⟨⟨om,om⟩,trivial⟩ (Zcw ?_)
    refine Zbw ((v_1 % n),s'_1) (show (0≤(v_1 % n)∧((v_1 % n)<n∨(v_1 % n)=0))∧(Zbj s'_1)∧(s'_1.code=s.code)∧(s.atx+0≤s'_1.atx∧s'_1.atx≤s.atx+2)∧(True) from ⟨(by first|omega|rfl|assumption|(dsimp only;first|omega|rfl|assumption)|(simp only [*];done)|exact ⟨Int.emod_nonneg _ om,.inl (Int.emod_lt_of_pos _ om)⟩),(by first|omega|rfl|assumption|(dsimp only;first|omega|rfl|assumption)|(simp only [*];done)|exact ⟨Int.emod_nonneg _ om,.inl (Int.emod_lt_of_pos _ om)⟩),(by first|omega|rfl|assumption|(dsimp only;first|omega|rfl|assumption)|(simp only [*];done)|exact ⟨Int.emod_nonneg _ om,.inl (Int.emod_lt_of_pos _ om)⟩),(by first|omega|rfl|assumption|(dsimp only;first|omega|rfl|assumption)|(simp only [*];done)|exact ⟨Int.emod_nonneg _ om,.inl (Int.emod_lt_of_pos _ om)⟩),trivial⟩) (⟨.inl rfl,trivial⟩) (I (v_1 % n)) (by kernel_rfl) (.inl rfl) (fun _=>rfl) (fun _=>trivial)
  obtain ⟨⟨v,s'⟩,⟨hh0,hh1,hh2,hh3,_⟩,hc⟩:=hh
  exact ⟨v,s',hh0,hh1,hh2,hh3,hc⟩
theorem Ztm (s:l00Src) (n:Int) (hs:Zbj s) (ha:s.atx≤3999999999999999980):∃(v:Bool) (s':l00Src),(Zbj s')∧(s'.code=s.code)∧(s.atx+0≤s'.atx∧s'.atx≤s.atx+2)∧Zao Tryd.prog 10 [.ref 7001 0,I n] (Zac [(7001,Zaa s)]) true (Bv v) (Zac [(7001,Zaa s')]):=by
 have hh:∃r:Bool×l00Src,((Zbj r.2)∧(r.2.code=s.code)∧(s.atx+0≤r.2.atx∧r.2.atx≤s.atx+2)∧(True))∧Zao Tryd.prog 10 [.ref 7001 0,I n] (Zac [(7001,Zaa s)]) true (Bv r.1) (Zac [(7001,Zaa r.2)]):=by
  refine Zdt (Φ:=fun r:Bool×l00Src=>(Zbj r.2)∧(r.2.code=s.code)∧(s.atx+0≤r.2.atx∧r.2.atx≤s.atx+2)∧(True)) [(7001,Zaa s)] (fun r=>[(7001,Zaa r.2)]) (fn:=Tryd.f10) (nt:=9) Tryd.func10 rfl rfl (args:=[.ref 7001 0,I n]) rfl (Zca (.inr trivial) (Zca (.inl ⟨rfl,trivial⟩) Zdu)) (res:=fun r=>Bv r.1) ?_
  refine xQ [] [0,1] [7001] [] trivial (Zal ?_)
  obtain ⟨v_1,s'_1,hx1_0,hx1_1,hx1_2,hx1_3,hc1⟩:=Zco s n (by first|assumption|(simp only [Zbj] at*;simp_all;done)) om
  refine x_r [(2,.lend [(7001,Zaa s,Zaa s'_1)] [] [(true,.any),(true,.any)] true (I v_1))] [4] [7001] [Bv (decide (v_1=0))] [some (Zaa s'_1)] [Zao Tryd.prog 20 [.ref 7001 0,I n] (Zac [(7001,Zaa s)]) true (I v_1) (Zac [(7001,Zaa s'_1)])∧(((Zaa s:Ob)=Zaa s∨Zed Zdl true (Zaa s) (Zaa s))∧Zai false (Zaa s))∧True] ⟨⟨hc1,⟨.inl rfl,(by simp [Zai,Zae,Zah,Zcv])⟩,trivial⟩,trivial⟩ (Zab (Zcw ?_))
  refine Zbw (decide (v_1=0),s'_1) (show (Zbj s'_1)∧(s'_1.code=s.code)∧(s.atx+0≤s'_1.atx∧s'_1.atx≤s.atx+2)∧(True) from ⟨(by first|omega|rfl|assumption|(dsimp only;first|omega|rfl|assumption)|(simp only [*];done)|(simp_all;done)),(by first|omega|rfl|assumption|(dsimp only;first|omega|rfl|assumption)|(simp only [*];done)|(simp_all;done)),(by first|omega|rfl|assumption|(dsimp only;first|omega|rfl|assumption)|(simp only [*];done)|(simp_all;done)),trivial⟩) (⟨.inl rfl,trivial⟩) (Bv (decide (v_1=0))) (by kernel_rfl) (.inl rfl) (fun _=>rfl) (fun _=>trivial)
 obtain ⟨⟨v,s'⟩,⟨hh0,hh1,hh2,_⟩,hc⟩:=hh
 exact ⟨v,s',hh0,hh1,hh2,hc⟩
theorem Zqk (a:Int) (b:Int):Con Tryd.prog 39 [I a,I b] true (I (min a b)):=by
  refine Zej (fn:=Tryd.f39) (nt:=10) Tryd.func39 rfl rfl rfl rfl (by simp [Zae,Zah]) fun B hB=> ?_
  refine aQ [] [0,1] [] [] hB trivial (Zan (Zan ?_))
  by_cases h1:a<b
  ·refine Zdk [(2,.dec true)] [0,1,7] [] [_] hB ⟨h1,trivial⟩ (Zaf (Zdr ?_))
   refine aR [] [4] [] [I a] [] [] hB trivial (Zat (Zak ?_))
   refine Zau hB (I a) (by kernel_rfl) (.inl (by refine congrArg I ?_;omega)) rfl (fun _=>trivial)
  refine Zdk [(2,.dec false)] [0,1,7] [] [_] hB ⟨h1,trivial⟩ (Zaf (Zdm (Zbu (Zaf ?_))))
  refine aR [] [4] [] [I b] [] [] hB trivial (Zat ?_)
  refine Zau hB (I b) (by kernel_rfl) (.inl (by refine congrArg I ?_;omega)) rfl (fun _=>trivial)
theorem Zql (a:Int) (b:Int):Con Tryd.prog 38 [I a,I b] true (I (max a b)):=by
  refine Zej (fn:=Tryd.f38) (nt:=10) Tryd.func38 rfl rfl rfl rfl (by simp [Zae,Zah]) fun B hB=> ?_
  refine aQ [] [0,1] [] [] hB trivial (Zan (Zan ?_))
  by_cases h1:b<a
  ·refine Zdk [(2,.dec true)] [0,1,7] [] [_] hB ⟨h1,trivial⟩ (Zaf (Zdr ?_))
   refine aR [] [4] [] [I a] [] [] hB trivial (Zat (Zak ?_))
   refine Zau hB (I a) (by kernel_rfl) (.inl (by refine congrArg I ?_;omega)) rfl (fun _=>trivial)
  refine Zdk [(2,.dec false)] [0,1,7] [] [_] hB ⟨h1,trivial⟩ (Zaf (Zdm (Zbu (Zaf ?_))))
  refine aR [] [4] [] [I b] [] [] hB trivial (Zat ?_)
  refine Zau hB (I b) (by kernel_rfl) (.inl (by refine congrArg I ?_;omega)) rfl (fun _=>trivial)
def inB (a l h:Int):Bool:=decide (l≤a∧a≤h)
theorem inB_iff {a l h:Int} :inB a l h=true↔l≤a∧a≤h:=by simp [inB]
theorem bAt_bd (s:ByteArray) (i:Nat):0≤bAt s i∧bAt s i≤255:=by
 unfold bAt
 have:=(s.data.toList.getD i 0).toNat_lt
 omega
def okP (p:Point):Bool:=inB p.X 0 4095&&(inB p.Y 0 4095&&inB p.T 0 3600000)
theorem Zkx {p:Point} :okP p=true↔(0≤p.X∧p.X≤4095)∧(0≤p.Y∧p.Y≤4095)∧(0≤p.T∧p.T≤3600000):=by simp [okP,inB,and_assoc]
def Zrs (xs:List Point) (j:Nat):Bool:=okP (at_ xs j)&&(decide (j=0)||decide ((at_ xs (j-1)).T<(at_ xs j).T))
def Zam (s:Stroke):Bool:=decide (1≤(s.Points.length:Int)∧(s.Points.length:Int)≤60)&&Zqr s.Points.length (Zrs s.Points)
theorem okPt_no {xs:List Point} {i:Int} (hi:0<i) (h:(at_ xs i.toNat).T≤(at_ xs (i-1).toNat).T):Zrs xs i.toNat=false:=by
 have e:(i-1).toNat=i.toNat-1:=by omega
 rw [e] at h
 have:¬ i.toNat=0:=by omega
 simp [Zrs,this];intro _;omega
theorem okPt_bad {xs:List Point} {j:Nat} (h:okP (at_ xs j)=false):Zrs xs j=false:=by simp [Zrs,h]
theorem okPt_yes {xs:List Point} {i:Int} (h1:okP (at_ xs i.toNat)=true) (hi:0<i) (h:¬ (at_ xs i.toNat).T≤(at_ xs (i-1).toNat).T):Zrs xs i.toNat=true:=by
 have e:(i-1).toNat=i.toNat-1:=by omega
 rw [e] at h
 simp [Zrs,h1];right;omega
theorem Zxt {xs:List Point} {i:Int} (h1:okP (at_ xs i.toNat)=true) (h0:0≤i) (hi:¬ 0<i):Zrs xs i.toNat=true:=by
 have:i.toNat=0:=by omega
 simp [Zrs,this] at h1⊢;exact h1
theorem Zlg {s:Stroke} (h:Zam s=true):1≤(s.Points.length:Int)∧(s.Points.length:Int)≤60:=by
 simp only [Zam,Bool.and_eq_true,decide_eq_true_eq] at h
 exact h.1
def Zlx (s:Stroke):Int:=(at_ s.Points (s.Points.length-1)).T
def Zqm (xs:List Stroke) (j:Nat):Bool:=Zam (at_ xs j)&&(decide (j=0)||decide (Zlx (at_ xs (j-1))<(at_ (at_ xs j).Points 0).T))
def Zbg (x:Ink):Bool:=decide ((x.Strokes.length:Int)≤16)&&Zqr x.Strokes.length (Zqm x.Strokes)
theorem okSA_bad {xs:List Stroke} {j:Nat} (h:Zam (at_ xs j)=false):Zqm xs j=false:=by simp [Zqm,h]
theorem okSA_no {xs:List Stroke} {i:Int} (hi:0<i) (h:(at_ (at_ xs i.toNat).Points 0).T≤(at_ (at_ xs (i-1).toNat).Points ((at_ xs (i-1).toNat).Points.length-1)).T):Zqm xs i.toNat=false:=by
 have e:(i-1).toNat=i.toNat-1:=by omega
 rw [e] at h
 have:¬ i.toNat=0:=by omega
 unfold Zqm Zlx;simp [this];intro _;omega
theorem okSA_yes {xs:List Stroke} {i:Int} (h1:Zam (at_ xs i.toNat)=true) (hi:0<i) (h:¬ (at_ (at_ xs i.toNat).Points 0).T≤(at_ (at_ xs (i-1).toNat).Points ((at_ xs (i-1).toNat).Points.length-1)).T):Zqm xs i.toNat=true:=by
 have e:(i-1).toNat=i.toNat-1:=by omega
 rw [e] at h
 unfold Zqm Zlx;simp [h1];right;omega
theorem Zxu {xs:List Stroke} {i:Int} (h1:Zam (at_ xs i.toNat)=true) (h0:0≤i) (hi:¬ 0<i):Zqm xs i.toNat=true:=by
 have:i.toNat=0:=by omega
 simp [Zqm,this] at h1⊢;exact h1
theorem Zjd {xs:List Stroke} {j:Nat} (h:Zqm xs j=true):Zam (at_ xs j)=true:=by
 simp only [Zqm,Bool.and_eq_true] at h;exact h.1
theorem Zru {x:Ink} (h:Zbg x=true):∀j,j<x.Strokes.length→Zam (at_ x.Strokes j)=true:=by
 simp only [Zbg,Bool.and_eq_true] at h
 exact fun j hj=>Zjd (Ztl h.2 hj)
theorem Zky {x:Ink} (h:Zbg x=true):∀s∈x.Strokes,Zam s=true:=by
 intro s hs
 obtain ⟨j,hj,e⟩:=List.getElem_of_mem hs
 have:=Zru h j hj
 simpa [at_,hj,e] using this
theorem Zxh {x:Ink} (h:Zbg x=true):(x.Strokes.length:Int)≤16:=by
 simp only [Zbg,Bool.and_eq_true,decide_eq_true_eq] at h
 exact h.1
theorem Ztn {α:Type} [Inhabited α] {xs:List α} (h:1≤xs.length):at_ xs (xs.length-1)∈xs:=Zdf om
theorem Zgm {α:Type} {P:α→Prop} {xs:List α} {x:α} (h:∀y∈xs,P y) (hx:P x):∀y∈xs++[x],P y:=by
 intro y hy
 rcases List.mem_append.1 hy with h1|h1
 ·exact h y h1
 ·simp at h1;subst h1;exact hx
theorem Zlh {pts:List Point} (h1:1≤(pts.length:Int)) (h2:(pts.length:Int)≤60) (hp:∀p∈pts,okP p=true) (hw:pts.Pairwise fun p q=>p.T<q.T):Zam ⟨pts⟩=true:=by
 simp only [Zam,Bool.and_eq_true,decide_eq_true_eq]
 refine ⟨⟨h1,h2⟩,Zok fun j hj=> ?_⟩
 simp only [Zrs,Bool.and_eq_true,Bool.or_eq_true,decide_eq_true_eq]
 refine ⟨hp _ (Zdf hj),?_⟩
 by_cases e:j=0
 ·exact .inl e
 ·right
  have:=List.pairwise_iff_getElem.1 hw (j-1) j om hj om
  rw [Zgr om,Zgr hj];exact this
def dpts (pts:List Point) (t:Int):Prop:=(∀p∈pts,p.T<t)∧pts.Pairwise fun p q=>p.T<q.T
theorem dpts_nil (t:Int):dpts [] t:=⟨fun _ h=>by simp at h,.nil⟩
theorem Zqn {pts:List Point} {p:Point} {t t':Int} (h:dpts pts t) (e:p.T=t) (ht:t<t'):dpts (pts++[p]) t':=by
 refine ⟨Zgm (fun q hq=>Int.lt_trans (h.1 q hq) ht) om,?_⟩
 rw [List.pairwise_append]
 refine ⟨h.2,List.pairwise_singleton _ _,fun q hq r hr=> ?_⟩
 simp at hr;subst hr;rw [e];exact h.1 q hq
def Zsa (ss:List Stroke) (t:Int):Prop:=Zbg ⟨ss⟩=true∧∀s∈ss,Zlx s<t
theorem Zto (t:Int):Zsa [] t:=⟨rfl,fun _ h=>by simp at h⟩
theorem Zhh {ss:List Stroke} {s:Stroke} {t t':Int} (h:Zsa ss t) (hs:Zam s=true) (hf:∀p∈s.Points,t≤p.T) (hl:Zlx s<t') (ht:t≤t') (hn:ss.length≤15):Zsa (ss++[s]) t':=by
 obtain ⟨h1,h2⟩:=h
 refine ⟨?_,Zgm (fun q hq=>Int.lt_of_lt_of_le (h2 q hq) ht) hl⟩
 simp only [Zbg,Bool.and_eq_true,decide_eq_true_eq] at h1⊢
 refine ⟨by simp;omega,Zok fun j hj=> ?_⟩
 simp only [List.length_append,List.length_cons,List.length_nil] at hj
 have e1:∀k,k<ss.length→at_ (ss++[s]) k=at_ ss k:=fun k hk=>by simp [at_,List.getElem?_append_left hk]
 by_cases e:j<ss.length
 ·have:=Ztl h1.2 e
  simp only [Zqm] at this⊢
  rw [e1 j e,e1 (j-1) om];exact this
 ·have ej:j=ss.length:=by omega
  subst ej
  have e2:at_ (ss++[s]) ss.length=s:=by simp [at_]
  simp only [Zqm,e2,hs,Bool.true_and,Bool.or_eq_true,decide_eq_true_eq]
  by_cases h0:ss.length=0
  ·exact .inl h0
  ·right
   rw [e1 _ om]
   have q1:=h2 _ (Zdf (xs:=ss) (i:=ss.length-1) om)
   have hln:=Zlg hs
   have q2:=hf _ (Zdf (xs:=s.Points) (i:=0) om)
   omega
theorem two_ok {a b:Point} (ha:okP a=true) (hb:okP b=true) (h:a.T<b.T):Zam ⟨[a,b]⟩=true:=Zlh (by simp) (by simp) (fun p hp=>by simp at hp;rcases hp with rfl|rfl;exact ha;exact hb) (by simp [h])
theorem Zol {ss:List Stroke} {t t' x1 y1 x2 y2 t2:Int} (h:Zsa ss t) (h1:(0≤x1∧x1≤4095)∧0≤y1∧y1≤4095) (h2:(0≤x2∧x2≤4095)∧0≤y2∧y2≤4095) (ht:0≤t∧t<t2∧t2≤3600000) (ht2:t2<t') (hn:ss.length≤15):Zsa (ss++[⟨[⟨x1,y1,t⟩,⟨x2,y2,t2⟩]⟩]) t':=
 Zhh h (two_ok (Zkx.2 ⟨h1.1,h1.2,by dsimp only;omega⟩) (Zkx.2 ⟨h2.1,h2.2,by dsimp only;omega⟩) ht.2.1) (fun p hp=>by simp at hp;rcases hp with rfl|rfl;exact Int.le_refl _;(dsimp only;omega)) (by simp [Zlx,at_];exact ht2) om hn
theorem Zgp (s:l00Src) (time:Int) (px:Int) (py:Int) (hs:Zbj s) (ha:s.atx≤3999999999999999600) (ht:0≤time∧time≤100000∧0≤px∧px≤100000∧0≤py∧py≤100000):∃(s':l00Src) (pts:List Point),(Zbj s')∧(s'.code=s.code)∧(s.atx+0≤s'.atx∧s'.atx≤s.atx+200)∧(1≤pts.length∧pts.length≤10)∧(∀p∈pts,time≤p.T∧p.T≤time+210)∧(px≤4095∧py≤4095→Zam ⟨pts⟩=true)∧Zao Tryd.prog 21 [.ref 7001 0,I time,I px,I py] (Zac [(7001,Zaa s)]) false (.agg [.arr 8001]) (Zac [(7001,Zaa s'),(8001,Zcl pts)]):=by
  have hh:∃r:l00Src×(List Point),((Zbj r.1)∧(r.1.code=s.code)∧(s.atx+0≤r.1.atx∧r.1.atx≤s.atx+200)∧(1≤r.2.length∧r.2.length≤10)∧(∀p∈r.2,time≤p.T∧p.T≤time+210)∧(px≤4095∧py≤4095→Zam ⟨r.2⟩=true)∧(True))∧Zao Tryd.prog 21 [.ref 7001 0,I time,I px,I py] (Zac [(7001,Zaa s)]) false (.agg [.arr 8001]) (Zac [(7001,Zaa r.1),(8001,Zcl r.2)]):=by
    refine Zdt (Φ:=fun r:l00Src×(List Point)=>(Zbj r.1)∧(r.1.code=s.code)∧(s.atx+0≤r.1.atx∧r.1.atx≤s.atx+200)∧(1≤r.2.length∧r.2.length≤10)∧(∀p∈r.2,time≤p.T∧p.T≤time+210)∧(px≤4095∧py≤4095→Zam ⟨r.2⟩=true)∧(True)) [(7001,Zaa s)] (fun r=>[(7001,Zaa r.1),(8001,Zcl r.2)]) (fn:=Tryd.f21) (nt:=68) Tryd.func21 rfl rfl (args:=[.ref 7001 0,I time,I px,I py]) rfl (Zca (.inr trivial) (Zca (.inl ⟨rfl,trivial⟩) (Zca (.inl ⟨rfl,trivial⟩) (Zca (.inl ⟨rfl,trivial⟩) Zdu)))) (res:=fun r=> .agg [.arr 8001]) ?_
    refine xQ [(0,.new 8)] [0,1,2,3,8] [8,7001] [] trivial ?_
    refine xQ [(1,.new 9)] [0,1,2,3,8,9] [8,9,7001] [] trivial (Zal ?_)
    obtain ⟨v_1,s'_1,hx1_0,hx1_1,hx1_2,hx1_3,hc1⟩:=Zco s 60 (by first|assumption|(simp only [Zbj] at*;simp_all;done)) om
    refine x_q [(1,.lend [(7001,Zaa s,Zaa s'_1)] [] [(true,.any),(true,.any)] true (I v_1))] [0,1,2,3,8,9,10] [8,9,7001] [Zao Tryd.prog 20 [.ref 7001 0,I 60] (Zac [(7001,Zaa s)]) true (I v_1) (Zac [(7001,Zaa s'_1)])∧(((Zaa s:Ob)=Zaa s∨Zed Zdl true (Zaa s) (Zaa s))∧Zai false (Zaa s))∧True,inR .i64 (v_1-20)] ⟨⟨hc1,⟨.inl rfl,(by simp [Zai,Zae,Zah,Zcv])⟩,trivial⟩,(Zad om om),trivial⟩ (Zab (Zal ?_))
    obtain ⟨v_2,s'_2,hx2_0,hx2_1,hx2_2,hx2_3,hc2⟩:=Zco s'_1 60 (by first|assumption|(simp only [Zbj] at*;simp_all;done)) om
    refine x_r [(1,.lend [(7001,Zaa s'_1,Zaa s'_2)] [] [(true,.any),(true,.any)] true (I v_2))] [0,1,2,3,8,9,10,11] [8,9,7001] [.ref 7001 0,I time,I px,I py,.ref 8 0,.ref 9 0,I (v_1-20),I (v_2-30)] [some (.box [Zcb]),some (.box [Zcb]),some (Zaa s'_2)] [Zao Tryd.prog 20 [.ref 7001 0,I 60] (Zac [(7001,Zaa s'_1)]) true (I v_2) (Zac [(7001,Zaa s'_2)])∧(((Zaa s'_1:Ob)=Zaa s'_1∨Zed Zdl true (Zaa s'_1) (Zaa s'_1))∧Zai false (Zaa s'_1))∧True,inR .i64 (v_2-30)] ⟨⟨hc2,⟨.inl rfl,(by simp [Zai,Zae,Zah,Zcv])⟩,trivial⟩,(Zad om om),trivial⟩ (Zab (Zal (Zal ?_)))
    obtain ⟨v_3,s'_3,hx3_0,hx3_1,hx3_2,hx3_3,hc3⟩:=Zco s'_2 10 (by first|assumption|(simp only [Zbj] at*;simp_all;done)) om
    refine x_r [(1,.lend [(7001,Zaa s'_2,Zaa s'_3)] [] [(true,.any),(true,.any)] true (I v_3))] [0,1,2,3,8,9,10,11,12] [8,9,7001] [.ref 7001 0,I time,I px,I py,.ref 8 0,.ref 9 0,I (v_1-20),I (v_2-30),I (1+v_3)] [some (.box [Zcb]),some (.box [Zcb]),some (Zaa s'_3)] [Zao Tryd.prog 20 [.ref 7001 0,I 10] (Zac [(7001,Zaa s'_2)]) true (I v_3) (Zac [(7001,Zaa s'_3)])∧(((Zaa s'_2:Ob)=Zaa s'_2∨Zed Zdl true (Zaa s'_2) (Zaa s'_2))∧Zai false (Zaa s'_2))∧True,inR .i64 (1+v_3)] ⟨⟨hc3,⟨.inl rfl,(by simp [Zai,Zae,Zah,Zcv])⟩,trivial⟩,(Zad om om),trivial⟩ (Zab (Zbl ?_))
    refine Zje 9 0 790 3 (fun _=>[]) rfl (by kernel_rfl) ?_
    refine Zhq [] (T:=[(0,.ref 7001 0),(1,I time),(2,I px),(3,I py),(8,.ref 8 0),(9,.ref 9 0),(10,I (v_1-20)),(11,I (v_2-30)),(12,I (1+v_3))]) (O:=[(8,.box [Zcb]),(9,.box [.arr 790]),(790,Zcl ([]:List Point)),(7001,Zaa s'_3)]) rfl (⟨.inl rfl,.inl rfl,.inl rfl,.inl rfl,.inl rfl,.inl rfl,.inl rfl,.inl rfl,.inl rfl,trivial⟩) (⟨.inl rfl,.inl rfl,.inr ⟨rfl,(by first|rfl|(simp;done)|(simp;omega)|omega),fun i_ hi_=>absurd hi_ (Nat.not_lt_zero _)⟩,.inl rfl,trivial⟩) ?_
    refine Zee (X:=Int×Int×Int×Int×Int×Int×(List Point)×l00Src) (fun x=>mkS [(0,.ref 7001 0),(1,I x.1),(2,I x.2.1),(3,I x.2.2.1),(8,.ref 8 0),(9,.ref 9 0),(10,I x.2.2.2.1),(11,I x.2.2.2.2.1),(12,I x.2.2.2.2.2.1)] [(8,.box [Zcb]),(9,.box [.arr 790]),(790,Zcl x.2.2.2.2.2.2.1),(7001,Zaa x.2.2.2.2.2.2.2)]) (fun x=>(Zbj x.2.2.2.2.2.2.2∧x.2.2.2.2.2.2.2.code=s.code∧s.atx≤x.2.2.2.2.2.2.2.atx∧x.2.2.2.2.2.2.2.atx≤s.atx+6+12*(10-x.2.2.2.2.2.1))∧(0≤x.2.2.2.2.2.1∧x.2.2.2.2.2.1≤10)∧((x.2.2.2.2.2.2.1.length:Int)+x.2.2.2.2.2.1≤10∧1≤(x.2.2.2.2.2.2.1.length:Int)+x.2.2.2.2.2.1)∧(time≤x.1∧x.1≤time+21*(10-x.2.2.2.2.2.1))∧(∀p∈x.2.2.2.2.2.2.1,time≤p.T∧p.T≤time+210)∧(0≤x.2.1∧x.2.1≤100000∧0≤x.2.2.1∧x.2.2.1≤100000)∧(-40≤x.2.2.2.1∧x.2.2.2.1≤60∧-40≤x.2.2.2.2.1∧x.2.2.2.2.1≤60)∧(dpts x.2.2.2.2.2.2.1 x.1)∧(px≤4095∧py≤4095→(x.2.1≤4095∧x.2.2.1≤4095)∧∀p∈x.2.2.2.2.2.2.1,okP p=true)∧True) (fun x=>x.2.2.2.2.2.1.toNat) (time,px,py,(v_1-20),(v_2-30),(1+v_3),([]:List Point),s'_3) rfl (show (Zbj s'_3∧s'_3.code=s.code∧s.atx≤s'_3.atx∧s'_3.atx≤s.atx+6+12*(10-(1+v_3)))∧(0≤(1+v_3)∧(1+v_3)≤10)∧((([]:List Point).length:Int)+(1+v_3)≤10∧1≤(([]:List Point).length:Int)+(1+v_3))∧(time≤time∧time≤time+21*(10-(1+v_3)))∧(∀p∈([]:List Point),time≤p.T∧p.T≤time+210)∧(0≤px∧px≤100000∧0≤py∧py≤100000)∧(-40≤(v_1-20)∧(v_1-20)≤60∧-40≤(v_2-30)∧(v_2-30)≤60)∧(dpts ([]:List Point) time)∧(px≤4095∧py≤4095→(px≤4095∧py≤4095)∧∀p∈([]:List Point),okP p=true)∧True from ⟨(by exact ⟨by assumption,by first|assumption|rfl|(simp only [*];done),by omega,by omega⟩),om,(by simp;omega),om,(by (intro z hz;simp at hz)),om,om,(by exact dpts_nil _),(by exact fun q=>⟨q,fun p hp=>by simp at hp⟩),trivial⟩) (fun x hI=> ?_)
    obtain ⟨time',x',y',dx,dy,k,pts,src⟩:=x
    obtain ⟨hs0,hk0,hl0,ht0,hp0,hx0,hd0,hdp,hok,_⟩:(Zbj src∧src.code=s.code∧s.atx≤src.atx∧src.atx≤s.atx+6+12*(10-k))∧(0≤k∧k≤10)∧((pts.length:Int)+k≤10∧1≤(pts.length:Int)+k)∧(time≤time'∧time'≤time+21*(10-k))∧(∀p∈pts,time≤p.T∧p.T≤time+210)∧(0≤x'∧x'≤100000∧0≤y'∧y'≤100000)∧(-40≤dx∧dx≤60∧-40≤dy∧dy≤60)∧(dpts pts time')∧(px≤4095∧py≤4095→(x'≤4095∧y'≤4095)∧∀p∈pts,okP p=true)∧True:=hI
    show XW _ _ _ _ (mkS [(0,.ref 7001 0),(1,I time'),(2,I x'),(3,I y'),(8,.ref 8 0),(9,.ref 9 0),(10,I dx),(11,I dy),(12,I k)] [(8,.box [Zcb]),(9,.box [.arr 790]),(790,Zcl pts),(7001,Zaa src)]) _ _
    refine Zal (Zal ?_)
    by_cases h1:0<k
    ·refine x_q [(1,.dec true)] [0,1,2,3,8,9,10,11,12,24] [8,9,790,7001] [_] ⟨h1,trivial⟩ (Zab (Zfk (Zbr (Zab (Zal (Zbl ?_))))))
     refine xQ [(6,.new 33),(7,.new 34)] [0,1,2,3,8,9,10,11,12] [8,9,34,7001] [(pts.length+1)*24≤140737488355328] ⟨om,trivial⟩ (Zal ?_)
     obtain ⟨v_4,s'_4,hx4_0,hx4_1,hx4_2,hx4_3,hc4⟩:=Zco src 20 (by first|assumption|(simp only [Zbj] at*;simp_all;done)) om
     refine x_q [(2,.lend [(7001,Zaa src,Zaa s'_4)] [] [(true,.any),(true,.any)] true (I v_4))] [0,1,2,3,8,9,10,11,12] [8,9,34,7001] [Zao Tryd.prog 20 [.ref 7001 0,I 20] (Zac [(7001,Zaa src)]) true (I v_4) (Zac [(7001,Zaa s'_4)])∧(((Zaa src:Ob)=Zaa src∨Zed Zdl true (Zaa src) (Zaa src))∧Zai false (Zaa src))∧True,inR .i64 (1+v_4),inR .i64 (time'+(1+v_4))] ⟨⟨hc4,⟨.inl rfl,(by simp [Zai,Zae,Zah,Zcv])⟩,trivial⟩,(Zad om om),(Zad om om),trivial⟩ (Zab (Zal ?_))
     obtain ⟨v_5,s'_5,hx5_0,hx5_1,hx5_2,hx5_3,hc5⟩:=Zco s'_4 9 (by first|assumption|(simp only [Zbj] at*;simp_all;done)) om
     refine x_r [(4,.lend [(7001,Zaa s'_4,Zaa s'_5)] [] [(true,.any),(true,.any)] true (I v_5)),(7,.call [(true,.any),(true,.any)] true (I (min 4095 (((x'+dx)+v_5)-4)))),(8,.call [(true,.any),(true,.any)] true (I (max 0 (min 4095 (((x'+dx)+v_5)-4)))))] [0,1,2,3,8,9,10,11,12] [8,9,34,7001] [.ref 7001 0,I (time'+(1+v_4)),I (max 0 (min 4095 (((x'+dx)+v_5)-4))),I y',.ref 8 0,.ref 9 0,I dx,I dy,I k] [some (.box [Zcb]),some (.box [.arr 34]),some (.arr 3 (pts.length+1) (Zhi pts.length (Zcp pts) (Ziq [I x',I y',I time'] 3))),some (Zaa s'_5)] [inR .i64 (x'+dx),Zao Tryd.prog 20 [.ref 7001 0,I 9] (Zac [(7001,Zaa s'_4)]) true (I v_5) (Zac [(7001,Zaa s'_5)])∧(((Zaa s'_4:Ob)=Zaa s'_4∨Zed Zdl true (Zaa s'_4) (Zaa s'_4))∧Zai false (Zaa s'_4))∧True,inR .i64 ((x'+dx)+v_5),inR .i64 (((x'+dx)+v_5)-4),_∧True,_∧True] ⟨(Zad om om),⟨hc5,⟨.inl rfl,(by simp [Zai,Zae,Zah,Zcv])⟩,trivial⟩,(Zad om om),(Zad om om),⟨(Zqk 4095 (((x'+dx)+v_5)-4)),trivial⟩,⟨(Zql 0 (min 4095 (((x'+dx)+v_5)-4))),trivial⟩,trivial⟩ (Zab (Zal ?_))
     obtain ⟨v_6,s'_6,hx6_0,hx6_1,hx6_2,hx6_3,hc6⟩:=Zco s'_5 9 (by first|assumption|(simp only [Zbj] at*;simp_all;done)) om
     refine x_q [(4,.lend [(7001,Zaa s'_5,Zaa s'_6)] [] [(true,.any),(true,.any)] true (I v_6)),(7,.call [(true,.any),(true,.any)] true (I (min 4095 (((y'+dy)+v_6)-4)))),(8,.call [(true,.any),(true,.any)] true (I (max 0 (min 4095 (((y'+dy)+v_6)-4)))))] [0,1,2,3,8,9,10,11,12] [8,9,34,7001] [inR .i64 (y'+dy),Zao Tryd.prog 20 [.ref 7001 0,I 9] (Zac [(7001,Zaa s'_5)]) true (I v_6) (Zac [(7001,Zaa s'_6)])∧(((Zaa s'_5:Ob)=Zaa s'_5∨Zed Zdl true (Zaa s'_5) (Zaa s'_5))∧Zai false (Zaa s'_5))∧True,inR .i64 ((y'+dy)+v_6),inR .i64 (((y'+dy)+v_6)-4),_∧True,_∧True] ⟨(Zad om om),⟨hc6,⟨.inl rfl,(by simp [Zai,Zae,Zah,Zcv])⟩,trivial⟩,(Zad om om),(Zad om om),⟨(Zqk 4095 (((y'+dy)+v_6)-4)),trivial⟩,⟨(Zql 0 (min 4095 (((y'+dy)+v_6)-4))),trivial⟩,trivial⟩ (Zab (Zal ?_))
     obtain ⟨v_7,s'_7,hx7_0,hx7_1,hx7_2,hc7⟩:=Ztm s'_6 3 (by first|assumption|(simp only [Zbj] at*;simp_all;done)) om
     rcases Bool.eq_false_or_eq_true v_7 with h2|h2
     ·subst h2
      refine x_q [(1,.lend [(7001,Zaa s'_6,Zaa s'_7)] [] [(true,.any),(true,.any)] true (Bv true))] [0,1,2,3,8,9,10,11,12,60] [8,9,34,7001] [Zao Tryd.prog 10 [.ref 7001 0,I 3] (Zac [(7001,Zaa s'_6)]) true (Bv true) (Zac [(7001,Zaa s'_7)])∧(((Zaa s'_6:Ob)=Zaa s'_6∨Zed Zdl true (Zaa s'_6) (Zaa s'_6))∧Zai false (Zaa s'_6))∧True] ⟨⟨hc7,⟨.inl rfl,(by simp [Zai,Zae,Zah,Zcv])⟩,trivial⟩,trivial⟩ (Zab (Zfk (Zal ?_)))
      obtain ⟨v_8,s'_8,hx8_0,hx8_1,hx8_2,hx8_3,hc8⟩:=Zco s'_7 80 (by first|assumption|(simp only [Zbj] at*;simp_all;done)) om
      refine x_q [(1,.lend [(7001,Zaa s'_7,Zaa s'_8)] [] [(true,.any),(true,.any)] true (I v_8))] [0,1,2,3,8,9,10,12] [8,9,34,7001] [Zao Tryd.prog 20 [.ref 7001 0,I 80] (Zac [(7001,Zaa s'_7)]) true (I v_8) (Zac [(7001,Zaa s'_8)])∧(((Zaa s'_7:Ob)=Zaa s'_7∨Zed Zdl true (Zaa s'_7) (Zaa s'_7))∧Zai false (Zaa s'_7))∧True,inR .i64 (v_8-40)] ⟨⟨hc8,⟨.inl rfl,(by simp [Zai,Zae,Zah,Zcv])⟩,trivial⟩,(Zad om om),trivial⟩ (Zab ?_)
      obtain ⟨v_9,s'_9,hx9_0,hx9_1,hx9_2,hx9_3,hc9⟩:=Zco s'_8 80 (by first|assumption|(simp only [Zbj] at*;simp_all;done)) om
      refine x_r [(1,.lend [(7001,Zaa s'_8,Zaa s'_9)] [] [(true,.any),(true,.any)] true (I v_9))] [0,1,2,3,8,9,10,11,12] [8,9,34,7001] [.ref 7001 0,I (time'+(1+v_4)),I (max 0 (min 4095 (((x'+dx)+v_5)-4))),I (max 0 (min 4095 (((y'+dy)+v_6)-4))),.ref 8 0,.ref 9 0,I (v_8-40),I (v_9-40),I k] [some (.box [Zcb]),some (.box [.arr 34]),some (.arr 3 (pts.length+1) (Zhi pts.length (Zcp pts) (Ziq [I x',I y',I time'] 3))),some (Zaa s'_9)] [Zao Tryd.prog 20 [.ref 7001 0,I 80] (Zac [(7001,Zaa s'_8)]) true (I v_9) (Zac [(7001,Zaa s'_9)])∧(((Zaa s'_8:Ob)=Zaa s'_8∨Zed Zdl true (Zaa s'_8) (Zaa s'_8))∧Zai false (Zaa s'_8))∧True,inR .i64 (v_9-40)] ⟨⟨hc9,⟨.inl rfl,(by simp [Zai,Zae,Zah,Zcv])⟩,trivial⟩,(Zad om om),trivial⟩ (Zbs 1 (Zab ?_))
      refine x_r [] [0,1,2,3,8,9,10,11,12] [8,9,34,7001] [.ref 7001 0,I (time'+(1+v_4)),I (max 0 (min 4095 (((x'+dx)+v_5)-4))),I (max 0 (min 4095 (((y'+dy)+v_6)-4))),.ref 8 0,.ref 9 0,I (v_8-40),I (v_9-40),I (k-1)] [some (.box [Zcb]),some (.box [.arr 34]),some (.arr 3 (pts.length+1) (Zhi pts.length (Zcp pts) (Ziq [I x',I y',I time'] 3))),some (Zaa s'_9)] [inR .i64 (k-1)] ⟨(Zad om om),trivial⟩ ?_
      refine Zcm [(790,34)] (T:=[(0,.ref 7001 0),(1,I (time'+(1+v_4))),(2,I (max 0 (min 4095 (((x'+dx)+v_5)-4)))),(3,I (max 0 (min 4095 (((y'+dy)+v_6)-4)))),(8,.ref 8 0),(9,.ref 9 0),(10,I (v_8-40)),(11,I (v_9-40)),(12,I (k-1))]) (O:=[(8,.box [Zcb]),(9,.box [.arr 790]),(790,Zcl (pts++[(Point.mk x' y' time')])),(7001,Zaa s'_9)]) rfl (⟨.inl rfl,.inl rfl,.inl rfl,.inl rfl,.inl rfl,.inl rfl,.inl rfl,.inl rfl,.inl rfl,trivial⟩) (⟨.inl rfl,.inl rfl,.inr ⟨rfl,(by first|rfl|(simp;done)|(simp;omega)|omega),fun i_ hi_=> .inl (Zen (enc:=Zgu) (xs:=pts) rfl i_ hi_)⟩,.inl rfl,trivial⟩) (Zbt ((time'+(1+v_4)),(max 0 (min 4095 (((x'+dx)+v_5)-4))),(max 0 (min 4095 (((y'+dy)+v_6)-4))),(v_8-40),(v_9-40),(k-1),(pts++[(Point.mk x' y' time')]),s'_9) rfl (show (Zbj s'_9∧s'_9.code=s.code∧s.atx≤s'_9.atx∧s'_9.atx≤s.atx+6+12*(10-(k-1)))∧(0≤(k-1)∧(k-1)≤10)∧(((pts++[(Point.mk x' y' time')]).length:Int)+(k-1)≤10∧1≤((pts++[(Point.mk x' y' time')]).length:Int)+(k-1))∧(time≤(time'+(1+v_4))∧(time'+(1+v_4))≤time+21*(10-(k-1)))∧(∀p∈(pts++[(Point.mk x' y' time')]),time≤p.T∧p.T≤time+210)∧(0≤(max 0 (min 4095 (((x'+dx)+v_5)-4)))∧(max 0 (min 4095 (((x'+dx)+v_5)-4)))≤100000∧0≤(max 0 (min 4095 (((y'+dy)+v_6)-4)))∧(max 0 (min 4095 (((y'+dy)+v_6)-4)))≤100000)∧(-40≤(v_8-40)∧(v_8-40)≤60∧-40≤(v_9-40)∧(v_9-40)≤60)∧(dpts (pts++[(Point.mk x' y' time')]) (time'+(1+v_4)))∧(px≤4095∧py≤4095→((max 0 (min 4095 (((x'+dx)+v_5)-4)))≤4095∧(max 0 (min 4095 (((y'+dy)+v_6)-4)))≤4095)∧∀p∈(pts++[(Point.mk x' y' time')]),okP p=true)∧True from ⟨(by exact ⟨by assumption,by first|assumption|rfl|(simp only [*];done),by omega,by omega⟩),om,(by simp;omega),om,(by exact Zgm hp0 (by dsimp only;omega)),om,om,(by exact Zqn hdp rfl om),(by exact fun q=>⟨by have:=(hok q).1;omega,Zgm (hok q).2 (Zkx.2 ⟨by have:=(hok q).1;dsimp only;omega,by have:=(hok q).1;dsimp only;omega,by dsimp only;omega⟩)⟩),trivial⟩) (by first|(show ((k-1).toNat:Nat)<k.toNat;omega)|(dsimp only;omega)))
     subst h2
     refine x_q [(1,.lend [(7001,Zaa s'_6,Zaa s'_7)] [] [(true,.any),(true,.any)] true (Bv false))] [0,1,2,3,8,9,10,11,12,60] [8,9,34,7001] [Zao Tryd.prog 10 [.ref 7001 0,I 3] (Zac [(7001,Zaa s'_6)]) true (Bv false) (Zac [(7001,Zaa s'_7)])∧(((Zaa s'_6:Ob)=Zaa s'_6∨Zed Zdl true (Zaa s'_6) (Zaa s'_6))∧Zai false (Zaa s'_6))∧True] ⟨⟨hc7,⟨.inl rfl,(by simp [Zai,Zae,Zah,Zcv])⟩,trivial⟩,trivial⟩ (Zab (Zjn (Zbr (Zbs 1 (Zab ?_)))))
     refine x_r [] [0,1,2,3,8,9,10,11,12] [8,9,34,7001] [.ref 7001 0,I (time'+(1+v_4)),I (max 0 (min 4095 (((x'+dx)+v_5)-4))),I (max 0 (min 4095 (((y'+dy)+v_6)-4))),.ref 8 0,.ref 9 0,I dx,I dy,I (k-1)] [some (.box [Zcb]),some (.box [.arr 34]),some (.arr 3 (pts.length+1) (Zhi pts.length (Zcp pts) (Ziq [I x',I y',I time'] 3))),some (Zaa s'_7)] [inR .i64 (k-1)] ⟨(Zad om om),trivial⟩ ?_
     refine Zcm [(790,34)] (T:=[(0,.ref 7001 0),(1,I (time'+(1+v_4))),(2,I (max 0 (min 4095 (((x'+dx)+v_5)-4)))),(3,I (max 0 (min 4095 (((y'+dy)+v_6)-4)))),(8,.ref 8 0),(9,.ref 9 0),(10,I dx),(11,I dy),(12,I (k-1))]) (O:=[(8,.box [Zcb]),(9,.box [.arr 790]),(790,Zcl (pts++[(Point.mk x' y' time')])),(7001,Zaa s'_7)]) rfl (⟨.inl rfl,.inl rfl,.inl rfl,.inl rfl,.inl rfl,.inl rfl,.inl rfl,.inl rfl,.inl rfl,trivial⟩) (⟨.inl rfl,.inl rfl,.inr ⟨rfl,(by first|rfl|(simp;done)|(simp;omega)|omega),fun i_ hi_=> .inl (Zen (enc:=Zgu) (xs:=pts) rfl i_ hi_)⟩,.inl rfl,trivial⟩) (Zbt ((time'+(1+v_4)),(max 0 (min 4095 (((x'+dx)+v_5)-4))),(max 0 (min 4095 (((y'+dy)+v_6)-4))),dx,dy,(k-1),(pts++[(Point.mk x' y' time')]),s'_7) rfl (show (Zbj s'_7∧s'_7.code=s.code∧s.atx≤s'_7.atx∧s'_7.atx≤s.atx+6+12*(10-(k-1)))∧(0≤(k-1)∧(k-1)≤10)∧(((pts++[(Point.mk x' y' time')]).length:Int)+(k-1)≤10∧1≤((pts++[(Point.mk x' y' time')]).length:Int)+(k-1))∧(time≤(time'+(1+v_4))∧(time'+(1+v_4))≤time+21*(10-(k-1)))∧(∀p∈(pts++[(Point.mk x' y' time')]),time≤p.T∧p.T≤time+210)∧(0≤(max 0 (min 4095 (((x'+dx)+v_5)-4)))∧(max 0 (min 4095 (((x'+dx)+v_5)-4)))≤100000∧0≤(max 0 (min 4095 (((y'+dy)+v_6)-4)))∧(max 0 (min 4095 (((y'+dy)+v_6)-4)))≤100000)∧(-40≤dx∧dx≤60∧-40≤dy∧dy≤60)∧(dpts (pts++[(Point.mk x' y' time')]) (time'+(1+v_4)))∧(px≤4095∧py≤4095→((max 0 (min 4095 (((x'+dx)+v_5)-4)))≤4095∧(max 0 (min 4095 (((y'+dy)+v_6)-4)))≤4095)∧∀p∈(pts++[(Point.mk x' y' time')]),okP p=true)∧True from ⟨(by exact ⟨by assumption,by first|assumption|rfl|(simp only [*];done),by omega,by omega⟩),om,(by simp;omega),om,(by exact Zgm hp0 (by dsimp only;omega)),om,om,(by exact Zqn hdp rfl om),(by exact fun q=>⟨by have:=(hok q).1;omega,Zgm (hok q).2 (Zkx.2 ⟨by have:=(hok q).1;dsimp only;omega,by have:=(hok q).1;dsimp only;omega,by dsimp only;omega⟩)⟩),trivial⟩) (by first|(show ((k-1).toNat:Nat)<k.toNat;omega)|(dsimp only;omega)))
    refine x_r [(1,.dec false)] [0,1,2,3,8,9,10,11,12,24] [8,9,790,7001] [.ref 7001 0,I time',I x',I y',.ref 8 0,.ref 9 0,I dx,I dy,I k,Bv false] [some (.box [Zcb]),some (.box [.arr 790]),some (Zcl pts),some (Zaa src)] [_] ⟨h1,trivial⟩ (Zab (Zcu rfl (Zdz (Zba ?_))))
    refine Zbb ?_
    refine Zbc (Zab ?_)
    refine xR [] [8] [8,790,7001] [.ref 8 0] [some (.box [.arr 790]),some (Zcl pts),some (Zaa src)] [] trivial (Zcw ?_)
    refine Zcm [(8001,790)] (T:=[(8,.ref 8 0)]) (O:=[(8,.box [.arr 8001]),(7001,Zaa src),(8001,Zcl pts)]) rfl (⟨.inl rfl,trivial⟩) (⟨.inl rfl,.inl rfl,.inl rfl,trivial⟩) ?_
    refine Zbw (src,pts) (show (Zbj src)∧(src.code=s.code)∧(s.atx+0≤src.atx∧src.atx≤s.atx+200)∧(1≤pts.length∧pts.length≤10)∧(∀p∈pts,time≤p.T∧p.T≤time+210)∧(px≤4095∧py≤4095→Zam ⟨pts⟩=true)∧(True) from ⟨(by first|exact fun q=>Zlh om om (hok q).2 hdp.2|omega|assumption|(simp_all;done)),(by first|exact fun q=>Zlh om om (hok q).2 hdp.2|omega|assumption|(simp_all;done)),(by first|exact fun q=>Zlh om om (hok q).2 hdp.2|omega|assumption|(simp_all;done)),(by first|exact fun q=>Zlh om om (hok q).2 hdp.2|omega|assumption|(simp_all;done)),(by first|exact fun q=>Zlh om om (hok q).2 hdp.2|omega|assumption|(simp_all;done)),(by first|exact fun q=>Zlh om om (hok q).2 hdp.2|omega|assumption|(simp_all;done)),trivial⟩) (⟨.inl rfl,.inl rfl,trivial⟩) (.agg [.arr 8001]) (by kernel_rfl) (.inl rfl) (fun h=>by cases h) (fun h=>by cases h)
  obtain ⟨⟨s',pts⟩,⟨hh0,hh1,hh2,hh3,hh4,hh5,_⟩,hc⟩:=hh
  exact ⟨s',pts,hh0,hh1,hh2,hh3,hh4,hh5,hc⟩
theorem Zhm (s:Stroke) (hl:1≤s.Points.length):Con Tryd.prog 22 [.ptr false [Zaq false s.Points]] true (I ((at_ s.Points (s.Points.length-1)).T)):=by
 refine Zej (fn:=Tryd.f22) (nt:=16) Tryd.func22 rfl rfl rfl rfl (by simp [Zae,Zah,Zfm]) fun B hB=> ?_
 refine Zfe (x:= .ptr false [Zaq false s.Points]) 0 rfl (fun len_s=> ?_)
 simp [Zhp,Zot,Zgu,Zcp,Zaq] at len_s
 refine aQ [] [0] [] [] hB trivial ?_
 refine aR [] [2] [] [I ((at_ s.Points (((s.Points.length:Int)-1).toNat)).T)] [] [inR .i64 ((s.Points.length:Int)-1),(0:Int)≤((s.Points.length:Int)-1)∧((s.Points.length:Int)-1)<(s.Points.length:Int)] hB ⟨(Zad om om),⟨om,om⟩,trivial⟩ (Zat ?_)
 refine Zau hB (I ((at_ s.Points (((s.Points.length:Int)-1).toNat)).T)) (by kernel_rfl) (.inl (by (have e:((s.Points.length:Int)-1).toNat=s.Points.length-1:=by omega);rw [e])) rfl (fun _=>trivial)
theorem le_row {ob:Nat→Option Ob} {F N sz p n:Nat} {m:Nat→Nat} {g:Nat→Nat→List AV} {fr:Bool} {f:Nat→List AV} (h:ob F=some (.fam N sz m g)) (hp:p<N) (hn:m p=n)
  (hf:∀i,i<n→g p i=f i∨(AV.idsL (f i)=[]∧leL (fun _=>none) false (g p i) (f i))):le ob true (.row F p) (.sl fr sz n f):=by
 simp only [le,h]
 exact ⟨fun _=>trivial,hp,trivial,hn,hf⟩
def Zom (F:Nat) (x:Stroke) (i:Nat):List AV:=[.row F i]
def Zfj (F:Nat) (xs:List Stroke) (i:Nat):List AV:=Zom F (at_ xs i) i
def Zif (xs:List Stroke) (p:Nat):Nat:=((at_ xs p).Points).length
def Zgn (xs:List Stroke) (p:Nat):Nat→List AV:=Zcp ((at_ xs p).Points)
abbrev Zbn (F:Nat) (xs:List Stroke):Ob:= .oar [F] 1 xs.length (Zfj F xs)
abbrev Zbf (xs:List Stroke):Ob:= .fam xs.length 3 (Zif xs) (Zgn xs)
theorem Zqo {ob:Nat→Option Ob} {F:Nat} (fr:Bool) (xs:List Stroke) (h:ob F=some (.fam xs.length 3 (Zif xs) (Zgn xs))):∀i,i<xs.length→AV.idsL (Zbp fr xs i)=[]∧leL ob true (Zfj F xs i) (Zbp fr xs i):=
 fun i hi=>And.intro rfl (And.intro (le_row h hi rfl (fun q _=> .inl rfl)) rfl)
theorem Zhn {F j N:Nat} (hF:Nat.beq F j=false) {xs:List Stroke} {x:Stroke} {g:Nat→List AV} (hN:N=xs.length) (hx:AV.joiL j F N (g 0)=Zom F x N):∀i,i<(xs++[x]).length→AV.joiL j F N (Zhi xs.length (Zfj F xs) g i)=Zfj F (xs++[x]) i:=by
 subst hN
 intro i hi
 by_cases h:i<xs.length
 ·rw [Zkd h]
  simp [Zfj,Zom,Zqv h,AV.joiL,AV.joi,hF]
 ·have e:i=xs.length:=by simp at hi;omega
  subst e
  rw [Zke (Nat.le_refl _),Nat.sub_self,hx]
  simp [Zfj,Znc (Nat.le_refl _),at_]
theorem Zho {xs:List Stroke} (x:Stroke) {n:Nat} {f:Nat→List AV} (hn:n=x.Points.length) (hf:∀i,i<n→f i=Zcp x.Points i):xs.length+1=(xs++[x]).length∧3=3∧∀p,p<(xs++[x]).length→Zig xs.length n (Zif xs) p=Zif (xs++[x]) p∧∀i,i<Zif (xs++[x]) p→Zff xs.length f (Zgn xs) p i=Zgn (xs++[x]) p i∨(AV.idsL (Zgn (xs++[x]) p i)=[]∧leL (fun _=>none) false (Zff xs.length f (Zgn xs) p i) (Zgn (xs++[x]) p i)):=by
 refine ⟨by simp,rfl,fun p hp=> ?_⟩
 by_cases h:p<xs.length
 ·have e:Nat.beq p xs.length=false:=Bool.eq_false_iff.2 fun e=>by have:=Nat.eq_of_beq_eq_true e;omega
  simp [Zig,Zff,e,Zif,Zgn,Zqv h]
 ·have e:p=xs.length:=by simp at hp;omega
  subst e
  have e2:at_ (xs++[x]) xs.length=x:=by simp [Znc (Nat.le_refl _),at_]
  simp only [Zig,Zff,Nat.beq_refl,cond_true,Zif,Zgn,e2]
  exact ⟨hn,fun i hi=> .inl (hf i om)⟩
theorem Zur (s:l00Src) (most:Int) (hs:Zbj s) (ha:s.atx≤3999999999999992000) (hm:0≤most∧most≤10):∃(s':l00Src) (ss:List Stroke),(Zbj s')∧(s'.code=s.code)∧(s.atx+0≤s'.atx∧s'.atx≤s.atx+4000)∧((ss.length:Int)≤most)∧(Zbg ⟨ss⟩=true)∧Zao Tryd.prog 11 [.ref 7001 0,I most] (Zac [(7001,Zaa s)]) false (.agg [.arr 8321]) (Zac [(7001,Zaa s'),(8321,Zbn 8322 ss),(8322,Zbf ss)]):=by
  have hh:∃r:l00Src×(List Stroke),((Zbj r.1)∧(r.1.code=s.code)∧(s.atx+0≤r.1.atx∧r.1.atx≤s.atx+4000)∧((r.2.length:Int)≤most)∧(Zbg ⟨r.2⟩=true)∧(True))∧Zao Tryd.prog 11 [.ref 7001 0,I most] (Zac [(7001,Zaa s)]) false (.agg [.arr 8321]) (Zac [(7001,Zaa r.1),(8321,Zbn 8322 r.2),(8322,Zbf r.2)]):=by
    refine Zdt (Φ:=fun r:l00Src×(List Stroke)=>(Zbj r.1)∧(r.1.code=s.code)∧(s.atx+0≤r.1.atx∧r.1.atx≤s.atx+4000)∧((r.2.length:Int)≤most)∧(Zbg ⟨r.2⟩=true)∧(True)) [(7001,Zaa s)] (fun r=>[(7001,Zaa r.1),(8321,Zbn 8322 r.2),(8322,Zbf r.2)]) (fn:=Tryd.f11) (nt:=75) Tryd.func11 rfl rfl (args:=[.ref 7001 0,I most]) rfl (Zca (.inr trivial) (Zca (.inl ⟨rfl,trivial⟩) Zdu)) (res:=fun r=> .agg [.arr 8321]) ?_
    refine xQ [(0,.new 4)] [0,1,4] [4,7001] [] trivial ?_
    refine xQ [(1,.new 5)] [0,1,4,5] [4,5,7001] [] trivial ?_
    refine xQ [] [0,1,4,5,6] [4,5,7001] [] trivial (Zal ?_)
    obtain ⟨v_1,s'_1,hx1_0,hx1_1,hx1_2,hx1_3,hc1⟩:=Zco s 200 (by first|assumption|(simp only [Zbj] at*;simp_all;done)) om
    refine x_r [(1,.lend [(7001,Zaa s,Zaa s'_1)] [] [(true,.any),(true,.any)] true (I v_1))] [0,1,4,5,6,7] [4,5,7001] [.ref 7001 0,I most,.ref 4 0,.ref 5 0,I 0,I v_1] [some (.box [Zcb]),some (.box [Zcb]),some (Zaa s'_1)] [Zao Tryd.prog 20 [.ref 7001 0,I 200] (Zac [(7001,Zaa s)]) true (I v_1) (Zac [(7001,Zaa s'_1)])∧(((Zaa s:Ob)=Zaa s∨Zed Zdl true (Zaa s) (Zaa s))∧Zai false (Zaa s))∧True] ⟨⟨hc1,⟨.inl rfl,(by simp [Zai,Zae,Zah,Zcv])⟩,trivial⟩,trivial⟩ (Zab (Zal (Zal ?_)))
    obtain ⟨v_2,s'_2,hx2_0,hx2_1,hx2_2,hx2_3,hc2⟩:=Zco s'_1 (most+1) (by first|assumption|(simp only [Zbj] at*;simp_all;done)) om
    refine x_r [(3,.lend [(7001,Zaa s'_1,Zaa s'_2)] [] [(true,.any),(true,.any)] true (I v_2))] [0,4,5,6,7,8] [4,5,7001] [.ref 7001 0,.ref 4 0,.ref 5 0,I 0,I v_1,I v_2] [some (.box [Zcb]),some (.box [Zcb]),some (Zaa s'_2)] [inR .i64 (most+1),Zao Tryd.prog 20 [.ref 7001 0,I (most+1)] (Zac [(7001,Zaa s'_1)]) true (I v_2) (Zac [(7001,Zaa s'_2)])∧(((Zaa s'_1:Ob)=Zaa s'_1∨Zed Zdl true (Zaa s'_1) (Zaa s'_1))∧Zai false (Zaa s'_1))∧True] ⟨(Zad om om),⟨hc2,⟨.inl rfl,(by simp [Zai,Zae,Zah,Zcv])⟩,trivial⟩,trivial⟩ (Zab (Zbl ?_))
    refine Zje 5 0 750 1 (fun _=>[]) rfl (by kernel_rfl) ?_
    refine x_fam 8322 3 (fun _=>0) (fun _ _=>[]) (by kernel_rfl) ?_
    refine Zhq [] (T:=[(0,.ref 7001 0),(4,.ref 4 0),(5,.ref 5 0),(6,I 0),(7,I v_1),(8,I v_2)]) (O:=[(4,.box [Zcb]),(5,.box [.arr 750]),(750,Zbn 8322 ([]:List Stroke)),(7001,Zaa s'_2),(8322,Zbf ([]:List Stroke))]) rfl (⟨.inl rfl,.inl rfl,.inl rfl,.inl rfl,.inl rfl,.inl rfl,trivial⟩) (⟨.inl rfl,.inl rfl,.inr ⟨rfl,rfl,fun i hi=>absurd hi (Nat.not_lt_zero _)⟩,.inl rfl,.inr ⟨rfl,rfl,fun p hp=>absurd hp (Nat.not_lt_zero _)⟩,trivial⟩) ?_
    refine Zee (X:=Int×Int×Int×(List Stroke)×l00Src) (fun x=>mkS [(0,.ref 7001 0),(4,.ref 4 0),(5,.ref 5 0),(6,I x.1),(7,I x.2.1),(8,I x.2.2.1)] [(4,.box [Zcb]),(5,.box [.arr 750]),(750,Zbn 8322 x.2.2.2.1),(7001,Zaa x.2.2.2.2),(8322,Zbf x.2.2.2.1)]) (fun x=>(Zbj x.2.2.2.2∧x.2.2.2.2.code=s.code∧s.atx≤x.2.2.2.2.atx∧x.2.2.2.2.atx≤s.atx+10+260*(most-x.2.2.1))∧(0≤x.2.2.1∧x.2.2.1≤most)∧((x.2.2.2.1.length:Int)+x.2.2.1≤most)∧(0≤x.1∧x.1≤100+500*(most-x.2.2.1))∧(0≤x.2.1∧x.2.1≤200+300*(most-x.2.2.1))∧(Zsa x.2.2.2.1 x.1)∧True) (fun x=>x.2.2.1.toNat) (0,v_1,v_2,([]:List Stroke),s'_2) rfl (show (Zbj s'_2∧s'_2.code=s.code∧s.atx≤s'_2.atx∧s'_2.atx≤s.atx+10+260*(most-v_2))∧(0≤v_2∧v_2≤most)∧((([]:List Stroke).length:Int)+v_2≤most)∧(0≤(0:Int)∧(0:Int)≤100+500*(most-v_2))∧(0≤v_1∧v_1≤200+300*(most-v_2))∧(Zsa ([]:List Stroke) (0:Int))∧True from ⟨(by exact ⟨by assumption,by first|assumption|rfl|(simp only [*];done),by omega,by omega⟩),om,(by simp;omega),om,om,(by exact Zto _),trivial⟩) (fun x hI=> ?_)
    obtain ⟨time,x,k,ss,src⟩:=x
    obtain ⟨hs0,hk0,hl0,ht0,hx0,hik,_⟩:(Zbj src∧src.code=s.code∧s.atx≤src.atx∧src.atx≤s.atx+10+260*(most-k))∧(0≤k∧k≤most)∧((ss.length:Int)+k≤most)∧(0≤time∧time≤100+500*(most-k))∧(0≤x∧x≤200+300*(most-k))∧(Zsa ss time)∧True:=hI
    show XW _ _ _ _ (mkS [(0,.ref 7001 0),(4,.ref 4 0),(5,.ref 5 0),(6,I time),(7,I x),(8,I k)] [(4,.box [Zcb]),(5,.box [.arr 750]),(750,Zbn 8322 ss),(7001,Zaa src),(8322,Zbf ss)]) _ _
    refine Zal (Zal ?_)
    by_cases h1:0<k
    ·refine x_q [(1,.dec true)] [0,4,5,6,7,8,19] [4,5,750,7001,8322] [_] ⟨h1,trivial⟩ (Zab (Zfk (Zbr (Zab (Zal (Zbl (Zal ?_)))))))
     obtain ⟨s'_3,pts_3,hx3_0,hx3_1,hx3_2,hx3_3,hx3_4,hx3_5,hc3⟩:=Zgp src time x 300 (by first|assumption|(simp only [Zbj] at*;simp_all;done)) om om
     have hlt:time≤(at_ (Stroke.mk pts_3).Points ((Stroke.mk pts_3).Points.length-1)).T∧(at_ (Stroke.mk pts_3).Points ((Stroke.mk pts_3).Points.length-1)).T≤time+210:=hx3_4 _ (Ztn (xs:=pts_3) om)
     have hvs:Zam (Stroke.mk pts_3)=true:=hx3_5 ⟨by omega,by omega⟩
     have hvt:=hx3_4
     refine x_q [(3,.lend [(7001,Zaa src,Zaa s'_3)] [(8001,Zcl pts_3)] [(true,.any),(true,.any),(true,.any),(true,.any)] false (.agg [.arr 8001])),(4,.new 9)] [0,4,5,6,7,8,9] [4,5,9,750,7001,8001,8322] [Zao Tryd.prog 21 [.ref 7001 0,I time,I x,I 300] (Zac [(7001,Zaa src)]) false (.agg [.arr 8001]) (Zac [(7001,Zaa s'_3),(8001,Zcl pts_3)])∧(((Zaa src:Ob)=Zaa src∨Zed Zdl true (Zaa src) (Zaa src))∧Zai false (Zaa src))∧True] ⟨⟨hc3,⟨.inl rfl,(by simp [Zai,Zae,Zah,Zcv])⟩,trivial⟩,trivial⟩ (Zab (Zal (Zal ?_)))
     obtain ⟨v_4,s'_4,hx4_0,hx4_1,hx4_2,hc4⟩:=Ztm s'_3 3 (by first|assumption|(simp only [Zbj] at*;simp_all;done)) om
     rcases Bool.eq_false_or_eq_true v_4 with h2|h2
     ·subst h2
      refine x_q [(1,.lend [(7001,Zaa s'_3,Zaa s'_4)] [] [(true,.any),(true,.any)] true (Bv true))] [0,4,5,6,7,8,9,27] [4,5,9,750,7001,8001,8322] [Zao Tryd.prog 10 [.ref 7001 0,I 3] (Zac [(7001,Zaa s'_3)]) true (Bv true) (Zac [(7001,Zaa s'_4)])∧(((Zaa s'_3:Ob)=Zaa s'_3∨Zed Zdl true (Zaa s'_3) (Zaa s'_3))∧Zai false (Zaa s'_3))∧True] ⟨⟨hc4,⟨.inl rfl,(by simp [Zai,Zae,Zah,Zcv])⟩,trivial⟩,trivial⟩ (Zab (Zfk (Zal ?_)))
      obtain ⟨v_5,s'_5,hx5_0,hx5_1,hx5_2,hx5_3,hc5⟩:=Zco s'_4 (x+60) (by first|assumption|(simp only [Zbj] at*;simp_all;done)) om
      refine x_r [(3,.lend [(7001,Zaa s'_4,Zaa s'_5)] [] [(true,.any),(true,.any)] true (I v_5))] [0,4,5,6,7,8,9,10] [4,5,9,750,7001,8001,8322] [.ref 7001 0,.ref 4 0,.ref 5 0,I time,I x,I k,.ref 9 0,I v_5] [some (.box [Zcb]),some (.box [.arr 750]),some (.box [.arr 8001]),some (Zbn 8322 ss),some (Zaa s'_5),some (Zcl pts_3),some (Zbf ss)] [inR .i64 (x+60),Zao Tryd.prog 20 [.ref 7001 0,I (x+60)] (Zac [(7001,Zaa s'_4)]) true (I v_5) (Zac [(7001,Zaa s'_5)])∧(((Zaa s'_4:Ob)=Zaa s'_4∨Zed Zdl true (Zaa s'_4) (Zaa s'_4))∧Zai false (Zaa s'_4))∧True] ⟨(Zad om om),⟨hc5,⟨.inl rfl,(by simp [Zai,Zae,Zah,Zcv])⟩,trivial⟩,trivial⟩ (Zab ?_)
      obtain ⟨v_6,s'_6,hx6_0,hx6_1,hx6_2,hx6_3,hc6⟩:=Zco s'_5 200 (by first|assumption|(simp only [Zbj] at*;simp_all;done)) om
      refine x_q [(5,.lend [(7001,Zaa s'_5,Zaa s'_6)] [] [(true,.any),(true,.any)] true (I v_6)),(10,.new 42)] [0,4,5,7,8,9] [4,5,9,42,750,7001,8322] [Zao Tryd.prog 20 [.ref 7001 0,I 200] (Zac [(7001,Zaa s'_5)]) true (I v_6) (Zac [(7001,Zaa s'_6)])∧(((Zaa s'_5:Ob)=Zaa s'_5∨Zed Zdl true (Zaa s'_5) (Zaa s'_5))∧Zai false (Zaa s'_5))∧True,inR .i64 (v_5+v_6),inR .i64 (time+5)] ⟨⟨hc6,⟨.inl rfl,(by simp [Zai,Zae,Zah,Zcv])⟩,trivial⟩,(Zad om om),(Zad om om),trivial⟩ (Zab ?_)
      refine xQ [(3,.new 66),(4,.new 67)] [0,4,5,7,8,9] [4,5,9,42,67,7001,8322] [(ss.length+1)*24≤140737488355328] ⟨om,trivial⟩ ?_
      obtain ⟨v_7,s'_7,hx7_0,hx7_1,hx7_2,hx7_3,hc7⟩:=Zco s'_6 50 (by first|assumption|(simp only [Zbj] at*;simp_all;done)) om
      refine x_q [(0,.call [(false,.ptr false [Zaq false ([(Point.mk v_5 200 time),(Point.mk (v_5+v_6) 210 (time+5))])])] true (I ((at_ (Stroke.mk ([(Point.mk v_5 200 time),(Point.mk (v_5+v_6) 210 (time+5))])).Points ((Stroke.mk ([(Point.mk v_5 200 time),(Point.mk (v_5+v_6) 210 (time+5))])).Points.length-1)).T))),(3,.lend [(7001,Zaa s'_6,Zaa s'_7)] [] [(true,.any),(true,.any)] true (I v_7))] [0,4,5,6,7,8] [4,5,42,67,7001,8322] [_∧((false=true→true=true)∧AV.idsL [Zaq false ([(Point.mk v_5 200 time),(Point.mk (v_5+v_6) 210 (time+5))])]=[]∧((false=true→true=true)∧3=3∧2=(([(Point.mk v_5 200 time),(Point.mk (v_5+v_6) 210 (time+5))]).length)∧∀i_,i_<(([(Point.mk v_5 200 time),(Point.mk (v_5+v_6) 210 (time+5))]).length)→(Ziq [I v_5,I 200,I time,I (v_5+v_6),I 210,I (time+5)] 3) i_=(Zcp ([(Point.mk v_5 200 time),(Point.mk (v_5+v_6) 210 (time+5))])) i_∨(AV.idsL ((Zcp ([(Point.mk v_5 200 time),(Point.mk (v_5+v_6) 210 (time+5))])) i_)=[]∧leL (fun _=>none) false ((Ziq [I v_5,I 200,I time,I (v_5+v_6),I 210,I (time+5)] 3) i_) ((Zcp ([(Point.mk v_5 200 time),(Point.mk (v_5+v_6) 210 (time+5))])) i_)))∧([]:List AV)=[])∧True,inR .i64 (((at_ (Stroke.mk ([(Point.mk v_5 200 time),(Point.mk (v_5+v_6) 210 (time+5))])).Points ((Stroke.mk ([(Point.mk v_5 200 time),(Point.mk (v_5+v_6) 210 (time+5))])).Points.length-1)).T)+1),Zao Tryd.prog 20 [.ref 7001 0,I 50] (Zac [(7001,Zaa s'_6)]) true (I v_7) (Zac [(7001,Zaa s'_7)])∧(((Zaa s'_6:Ob)=Zaa s'_6∨Zed Zdl true (Zaa s'_6) (Zaa s'_6))∧Zai false (Zaa s'_6))∧True,inR .i64 ((((at_ (Stroke.mk ([(Point.mk v_5 200 time),(Point.mk (v_5+v_6) 210 (time+5))])).Points ((Stroke.mk ([(Point.mk v_5 200 time),(Point.mk (v_5+v_6) 210 (time+5))])).Points.length-1)).T)+1)+v_7)] ⟨⟨(Zhm (Stroke.mk ([(Point.mk v_5 200 time),(Point.mk (v_5+v_6) 210 (time+5))])) (by first|assumption|(simp only;omega)|(simp;done))),⟨(fun h=>by cases h),rfl,⟨⟨(fun h=>by cases h),rfl,(by first|rfl|(simp;done)|(simp;omega)|omega),fun i_ hi_=> .inl (match i_,hi_ with|0,_=>rfl|1,_=>rfl|(i+2),h=>absurd h (by simp))⟩,rfl⟩⟩,trivial⟩,(Zad (by (first|omega|(simp [at_];omega))) (by (first|omega|(simp [at_];omega)))),⟨hc7,⟨.inl rfl,(by simp [Zai,Zae,Zah,Zcv])⟩,trivial⟩,(Zad (by (first|omega|(simp [at_];omega))) (by (first|omega|(simp [at_];omega)))),trivial⟩ (Zbs 1 (Zab ?_))
      refine x_r [] [0,4,5,6,7,8] [4,5,42,67,7001,8322] [.ref 7001 0,.ref 4 0,.ref 5 0,I ((((at_ (Stroke.mk ([(Point.mk v_5 200 time),(Point.mk (v_5+v_6) 210 (time+5))])).Points ((Stroke.mk ([(Point.mk v_5 200 time),(Point.mk (v_5+v_6) 210 (time+5))])).Points.length-1)).T)+1)+v_7),I x,I (k-1)] [some (.box [Zcb]),some (.box [.arr 67]),some (.arr 3 2 (Ziq [I v_5,I 200,I time,I (v_5+v_6),I 210,I (time+5)] 3)),some (.oar [8322,42] 1 (ss.length+1) (Zhi ss.length (Zfj 8322 ss) (Ziq [.arr 42] 1))),some (Zaa s'_7),some (Zbf ss)] [inR .i64 (k-1)] ⟨(Zad om om),trivial⟩ ?_
      refine Zna 42 8322 rfl rfl rfl ?_
      refine Zcm [(750,67)] (T:=[(0,.ref 7001 0),(4,.ref 4 0),(5,.ref 5 0),(6,I ((((at_ (Stroke.mk ([(Point.mk v_5 200 time),(Point.mk (v_5+v_6) 210 (time+5))])).Points ((Stroke.mk ([(Point.mk v_5 200 time),(Point.mk (v_5+v_6) 210 (time+5))])).Points.length-1)).T)+1)+v_7)),(7,I x),(8,I (k-1))]) (O:=[(4,.box [Zcb]),(5,.box [.arr 750]),(750,Zbn 8322 (ss++[(Stroke.mk ([(Point.mk v_5 200 time),(Point.mk (v_5+v_6) 210 (time+5))]))])),(7001,Zaa s'_7),(8322,Zbf (ss++[(Stroke.mk ([(Point.mk v_5 200 time),(Point.mk (v_5+v_6) 210 (time+5))]))]))]) rfl (⟨.inl rfl,.inl rfl,.inl rfl,.inl rfl,.inl rfl,.inl rfl,trivial⟩) (⟨.inl rfl,.inl rfl,.inr ⟨rfl,rfl,(by simp),fun i hi=> .inl (Zhn rfl rfl rfl i hi)⟩,.inl rfl,.inr (Zho (Stroke.mk ([(Point.mk v_5 200 time),(Point.mk (v_5+v_6) 210 (time+5))])) (by first|rfl|(simp;done)) (fun i_ hi_=>(match i_,hi_ with|0,_=>rfl|1,_=>rfl|(i+2),h=>absurd h (by simp)))),trivial⟩) (Zbt (((((at_ (Stroke.mk ([(Point.mk v_5 200 time),(Point.mk (v_5+v_6) 210 (time+5))])).Points ((Stroke.mk ([(Point.mk v_5 200 time),(Point.mk (v_5+v_6) 210 (time+5))])).Points.length-1)).T)+1)+v_7),x,(k-1),(ss++[(Stroke.mk ([(Point.mk v_5 200 time),(Point.mk (v_5+v_6) 210 (time+5))]))]),s'_7) rfl (show (Zbj s'_7∧s'_7.code=s.code∧s.atx≤s'_7.atx∧s'_7.atx≤s.atx+10+260*(most-(k-1)))∧(0≤(k-1)∧(k-1)≤most)∧(((ss++[(Stroke.mk ([(Point.mk v_5 200 time),(Point.mk (v_5+v_6) 210 (time+5))]))]).length:Int)+(k-1)≤most)∧(0≤((((at_ (Stroke.mk ([(Point.mk v_5 200 time),(Point.mk (v_5+v_6) 210 (time+5))])).Points ((Stroke.mk ([(Point.mk v_5 200 time),(Point.mk (v_5+v_6) 210 (time+5))])).Points.length-1)).T)+1)+v_7)∧((((at_ (Stroke.mk ([(Point.mk v_5 200 time),(Point.mk (v_5+v_6) 210 (time+5))])).Points ((Stroke.mk ([(Point.mk v_5 200 time),(Point.mk (v_5+v_6) 210 (time+5))])).Points.length-1)).T)+1)+v_7)≤100+500*(most-(k-1)))∧(0≤x∧x≤200+300*(most-(k-1)))∧(Zsa (ss++[(Stroke.mk ([(Point.mk v_5 200 time),(Point.mk (v_5+v_6) 210 (time+5))]))]) ((((at_ (Stroke.mk ([(Point.mk v_5 200 time),(Point.mk (v_5+v_6) 210 (time+5))])).Points ((Stroke.mk ([(Point.mk v_5 200 time),(Point.mk (v_5+v_6) 210 (time+5))])).Points.length-1)).T)+1)+v_7))∧True from ⟨(by exact ⟨by assumption,by first|assumption|rfl|(simp only [*];done),by omega,by omega⟩),om,(by simp;omega),(by (first|omega|(simp [at_];omega))),om,(by first|exact Zhh hik hvs (fun p hp=>(hvt p hp).1) (by have:=hlt;unfold Zlx;omega) om om|exact Zol hik om om om (by first|omega|(simp [at_];omega)) om),trivial⟩) (by first|(show ((k-1).toNat:Nat)<k.toNat;omega)|(dsimp only;omega)))
     subst h2
     refine x_q [(1,.lend [(7001,Zaa s'_3,Zaa s'_4)] [] [(true,.any),(true,.any)] true (Bv false))] [0,4,5,6,7,8,9,27] [4,5,9,750,7001,8001,8322] [Zao Tryd.prog 10 [.ref 7001 0,I 3] (Zac [(7001,Zaa s'_3)]) true (Bv false) (Zac [(7001,Zaa s'_4)])∧(((Zaa s'_3:Ob)=Zaa s'_3∨Zed Zdl true (Zaa s'_3) (Zaa s'_3))∧Zai false (Zaa s'_3))∧True] ⟨⟨hc4,⟨.inl rfl,(by simp [Zai,Zae,Zah,Zcv])⟩,trivial⟩,trivial⟩ (Zab (Zjn (Zal ?_)))
     obtain ⟨v_8,s'_8,hx8_0,hx8_1,hx8_2,hc8⟩:=Ztm s'_4 2 (by first|assumption|(simp only [Zbj] at*;simp_all;done)) om
     rcases Bool.eq_false_or_eq_true v_8 with h3|h3
     ·subst h3
      refine x_q [(1,.lend [(7001,Zaa s'_4,Zaa s'_8)] [] [(true,.any),(true,.any)] true (Bv true))] [0,4,5,6,7,8,9,45] [4,5,9,750,7001,8001,8322] [Zao Tryd.prog 10 [.ref 7001 0,I 2] (Zac [(7001,Zaa s'_4)]) true (Bv true) (Zac [(7001,Zaa s'_8)])∧(((Zaa s'_4:Ob)=Zaa s'_4∨Zed Zdl true (Zaa s'_4) (Zaa s'_4))∧Zai false (Zaa s'_4))∧True] ⟨⟨hc8,⟨.inl rfl,(by simp [Zai,Zae,Zah,Zcv])⟩,trivial⟩,trivial⟩ (Zab (Zfk (Zal ?_)))
      obtain ⟨v_9,s'_9,hx9_0,hx9_1,hx9_2,hx9_3,hc9⟩:=Zco s'_8 300 (by first|assumption|(simp only [Zbj] at*;simp_all;done)) om
      refine x_q [(6,.lend [(7001,Zaa s'_8,Zaa s'_9)] [] [(true,.any),(true,.any)] true (I v_9)),(11,.new 57)] [0,4,5,7,8,9] [4,5,9,57,750,7001,8322] [inR .i64 (x+20),Zao Tryd.prog 20 [.ref 7001 0,I 300] (Zac [(7001,Zaa s'_8)]) true (I v_9) (Zac [(7001,Zaa s'_9)])∧(((Zaa s'_8:Ob)=Zaa s'_8∨Zed Zdl true (Zaa s'_8) (Zaa s'_8))∧Zai false (Zaa s'_8))∧True,inR .i64 ((x+20)+v_9),inR .i64 (time+9)] ⟨(Zad om om),⟨hc9,⟨.inl rfl,(by simp [Zai,Zae,Zah,Zcv])⟩,trivial⟩,(Zad om om),(Zad om om),trivial⟩ (Zab ?_)
      obtain ⟨v_10,s'_10,hx10_0,hx10_1,hx10_2,hx10_3,hc10⟩:=Zco s'_9 300 (by first|assumption|(simp only [Zbj] at*;simp_all;done)) om
      refine x_r [(2,.lend [(7001,Zaa s'_9,Zaa s'_10)] [] [(true,.any),(true,.any)] true (I v_10))] [0,4,5,7,8,9] [4,5,9,57,750,7001,8322] [.ref 7001 0,.ref 4 0,.ref 5 0,I (x+v_10),I k,.ref 9 0] [some (.box [Zcb]),some (.box [.arr 750]),some (.box [.arr 57]),some (.arr 3 2 (Ziq [I x,I 200,I time,I ((x+20)+v_9),I 500,I (time+9)] 3)),some (Zbn 8322 ss),some (Zaa s'_10),some (Zbf ss)] [Zao Tryd.prog 20 [.ref 7001 0,I 300] (Zac [(7001,Zaa s'_9)]) true (I v_10) (Zac [(7001,Zaa s'_10)])∧(((Zaa s'_9:Ob)=Zaa s'_9∨Zed Zdl true (Zaa s'_9) (Zaa s'_9))∧Zai false (Zaa s'_9))∧True,inR .i64 (x+v_10)] ⟨⟨hc10,⟨.inl rfl,(by simp [Zai,Zae,Zah,Zcv])⟩,trivial⟩,(Zad om om),trivial⟩ (Zab ?_)
      refine xQ [(3,.new 66),(4,.new 67)] [0,4,5,7,8,9] [4,5,9,57,67,7001,8322] [(ss.length+1)*24≤140737488355328] ⟨om,trivial⟩ ?_
      obtain ⟨v_11,s'_11,hx11_0,hx11_1,hx11_2,hx11_3,hc11⟩:=Zco s'_10 50 (by first|assumption|(simp only [Zbj] at*;simp_all;done)) om
      refine x_q [(0,.call [(false,.ptr false [Zaq false ([(Point.mk x 200 time),(Point.mk ((x+20)+v_9) 500 (time+9))])])] true (I ((at_ (Stroke.mk ([(Point.mk x 200 time),(Point.mk ((x+20)+v_9) 500 (time+9))])).Points ((Stroke.mk ([(Point.mk x 200 time),(Point.mk ((x+20)+v_9) 500 (time+9))])).Points.length-1)).T))),(3,.lend [(7001,Zaa s'_10,Zaa s'_11)] [] [(true,.any),(true,.any)] true (I v_11))] [0,4,5,6,7,8] [4,5,57,67,7001,8322] [_∧((false=true→true=true)∧AV.idsL [Zaq false ([(Point.mk x 200 time),(Point.mk ((x+20)+v_9) 500 (time+9))])]=[]∧((false=true→true=true)∧3=3∧2=(([(Point.mk x 200 time),(Point.mk ((x+20)+v_9) 500 (time+9))]).length)∧∀i_,i_<(([(Point.mk x 200 time),(Point.mk ((x+20)+v_9) 500 (time+9))]).length)→(Ziq [I x,I 200,I time,I ((x+20)+v_9),I 500,I (time+9)] 3) i_=(Zcp ([(Point.mk x 200 time),(Point.mk ((x+20)+v_9) 500 (time+9))])) i_∨(AV.idsL ((Zcp ([(Point.mk x 200 time),(Point.mk ((x+20)+v_9) 500 (time+9))])) i_)=[]∧leL (fun _=>none) false ((Ziq [I x,I 200,I time,I ((x+20)+v_9),I 500,I (time+9)] 3) i_) ((Zcp ([(Point.mk x 200 time),(Point.mk ((x+20)+v_9) 500 (time+9))])) i_)))∧([]:List AV)=[])∧True,inR .i64 (((at_ (Stroke.mk ([(Point.mk x 200 time),(Point.mk ((x+20)+v_9) 500 (time+9))])).Points ((Stroke.mk ([(Point.mk x 200 time),(Point.mk ((x+20)+v_9) 500 (time+9))])).Points.length-1)).T)+1),Zao Tryd.prog 20 [.ref 7001 0,I 50] (Zac [(7001,Zaa s'_10)]) true (I v_11) (Zac [(7001,Zaa s'_11)])∧(((Zaa s'_10:Ob)=Zaa s'_10∨Zed Zdl true (Zaa s'_10) (Zaa s'_10))∧Zai false (Zaa s'_10))∧True,inR .i64 ((((at_ (Stroke.mk ([(Point.mk x 200 time),(Point.mk ((x+20)+v_9) 500 (time+9))])).Points ((Stroke.mk ([(Point.mk x 200 time),(Point.mk ((x+20)+v_9) 500 (time+9))])).Points.length-1)).T)+1)+v_11)] ⟨⟨(Zhm (Stroke.mk ([(Point.mk x 200 time),(Point.mk ((x+20)+v_9) 500 (time+9))])) (by first|assumption|(simp only;omega)|(simp;done))),⟨(fun h=>by cases h),rfl,⟨⟨(fun h=>by cases h),rfl,(by first|rfl|(simp;done)|(simp;omega)|omega),fun i_ hi_=> .inl (match i_,hi_ with|0,_=>rfl|1,_=>rfl|(i+2),h=>absurd h (by simp))⟩,rfl⟩⟩,trivial⟩,(Zad (by (first|omega|(simp [at_];omega))) (by (first|omega|(simp [at_];omega)))),⟨hc11,⟨.inl rfl,(by simp [Zai,Zae,Zah,Zcv])⟩,trivial⟩,(Zad (by (first|omega|(simp [at_];omega))) (by (first|omega|(simp [at_];omega)))),trivial⟩ (Zbs 1 (Zab ?_))
      refine x_r [] [0,4,5,6,7,8] [4,5,57,67,7001,8322] [.ref 7001 0,.ref 4 0,.ref 5 0,I ((((at_ (Stroke.mk ([(Point.mk x 200 time),(Point.mk ((x+20)+v_9) 500 (time+9))])).Points ((Stroke.mk ([(Point.mk x 200 time),(Point.mk ((x+20)+v_9) 500 (time+9))])).Points.length-1)).T)+1)+v_11),I (x+v_10),I (k-1)] [some (.box [Zcb]),some (.box [.arr 67]),some (.arr 3 2 (Ziq [I x,I 200,I time,I ((x+20)+v_9),I 500,I (time+9)] 3)),some (.oar [8322,57] 1 (ss.length+1) (Zhi ss.length (Zfj 8322 ss) (Ziq [.arr 57] 1))),some (Zaa s'_11),some (Zbf ss)] [inR .i64 (k-1)] ⟨(Zad om om),trivial⟩ ?_
      refine Zna 57 8322 rfl rfl rfl ?_
      refine Zcm [(750,67)] (T:=[(0,.ref 7001 0),(4,.ref 4 0),(5,.ref 5 0),(6,I ((((at_ (Stroke.mk ([(Point.mk x 200 time),(Point.mk ((x+20)+v_9) 500 (time+9))])).Points ((Stroke.mk ([(Point.mk x 200 time),(Point.mk ((x+20)+v_9) 500 (time+9))])).Points.length-1)).T)+1)+v_11)),(7,I (x+v_10)),(8,I (k-1))]) (O:=[(4,.box [Zcb]),(5,.box [.arr 750]),(750,Zbn 8322 (ss++[(Stroke.mk ([(Point.mk x 200 time),(Point.mk ((x+20)+v_9) 500 (time+9))]))])),(7001,Zaa s'_11),(8322,Zbf (ss++[(Stroke.mk ([(Point.mk x 200 time),(Point.mk ((x+20)+v_9) 500 (time+9))]))]))]) rfl (⟨.inl rfl,.inl rfl,.inl rfl,.inl rfl,.inl rfl,.inl rfl,trivial⟩) (⟨.inl rfl,.inl rfl,.inr ⟨rfl,rfl,(by simp),fun i hi=> .inl (Zhn rfl rfl rfl i hi)⟩,.inl rfl,.inr (Zho (Stroke.mk ([(Point.mk x 200 time),(Point.mk ((x+20)+v_9) 500 (time+9))])) (by first|rfl|(simp;done)) (fun i_ hi_=>(match i_,hi_ with|0,_=>rfl|1,_=>rfl|(i+2),h=>absurd h (by simp)))),trivial⟩) (Zbt (((((at_ (Stroke.mk ([(Point.mk x 200 time),(Point.mk ((x+20)+v_9) 500 (time+9))])).Points ((Stroke.mk ([(Point.mk x 200 time),(Point.mk ((x+20)+v_9) 500 (time+9))])).Points.length-1)).T)+1)+v_11),(x+v_10),(k-1),(ss++[(Stroke.mk ([(Point.mk x 200 time),(Point.mk ((x+20)+v_9) 500 (time+9))]))]),s'_11) rfl (show (Zbj s'_11∧s'_11.code=s.code∧s.atx≤s'_11.atx∧s'_11.atx≤s.atx+10+260*(most-(k-1)))∧(0≤(k-1)∧(k-1)≤most)∧(((ss++[(Stroke.mk ([(Point.mk x 200 time),(Point.mk ((x+20)+v_9) 500 (time+9))]))]).length:Int)+(k-1)≤most)∧(0≤((((at_ (Stroke.mk ([(Point.mk x 200 time),(Point.mk ((x+20)+v_9) 500 (time+9))])).Points ((Stroke.mk ([(Point.mk x 200 time),(Point.mk ((x+20)+v_9) 500 (time+9))])).Points.length-1)).T)+1)+v_11)∧((((at_ (Stroke.mk ([(Point.mk x 200 time),(Point.mk ((x+20)+v_9) 500 (time+9))])).Points ((Stroke.mk ([(Point.mk x 200 time),(Point.mk ((x+20)+v_9) 500 (time+9))])).Points.length-1)).T)+1)+v_11)≤100+500*(most-(k-1)))∧(0≤(x+v_10)∧(x+v_10)≤200+300*(most-(k-1)))∧(Zsa (ss++[(Stroke.mk ([(Point.mk x 200 time),(Point.mk ((x+20)+v_9) 500 (time+9))]))]) ((((at_ (Stroke.mk ([(Point.mk x 200 time),(Point.mk ((x+20)+v_9) 500 (time+9))])).Points ((Stroke.mk ([(Point.mk x 200 time),(Point.mk ((x+20)+v_9) 500 (time+9))])).Points.length-1)).T)+1)+v_11))∧True from ⟨(by exact ⟨by assumption,by first|assumption|rfl|(simp only [*];done),by omega,by omega⟩),om,(by simp;omega),(by (first|omega|(simp [at_];omega))),om,(by first|exact Zhh hik hvs (fun p hp=>(hvt p hp).1) (by have:=hlt;unfold Zlx;omega) om om|exact Zol hik om om om (by first|omega|(simp [at_];omega)) om),trivial⟩) (by first|(show ((k-1).toNat:Nat)<k.toNat;omega)|(dsimp only;omega)))
     subst h3
     refine x_q [(1,.lend [(7001,Zaa s'_4,Zaa s'_8)] [] [(true,.any),(true,.any)] true (Bv false))] [0,4,5,6,7,8,9,45] [4,5,9,750,7001,8001,8322] [Zao Tryd.prog 10 [.ref 7001 0,I 2] (Zac [(7001,Zaa s'_4)]) true (Bv false) (Zac [(7001,Zaa s'_8)])∧(((Zaa s'_4:Ob)=Zaa s'_4∨Zed Zdl true (Zaa s'_4) (Zaa s'_4))∧Zai false (Zaa s'_4))∧True] ⟨⟨hc8,⟨.inl rfl,(by simp [Zai,Zae,Zah,Zcv])⟩,trivial⟩,trivial⟩ (Zab (Zjn (Zbr (Zab ?_))))
     refine xQ [(3,.new 66),(4,.new 67)] [0,4,5,7,8,9] [4,5,9,67,7001,8001,8322] [(ss.length+1)*24≤140737488355328] ⟨om,trivial⟩ ?_
     obtain ⟨v_12,s'_12,hx12_0,hx12_1,hx12_2,hx12_3,hc12⟩:=Zco s'_8 50 (by first|assumption|(simp only [Zbj] at*;simp_all;done)) om
     refine x_q [(0,.call [(false,.ptr false [Zaq false pts_3])] true (I ((at_ (Stroke.mk pts_3).Points ((Stroke.mk pts_3).Points.length-1)).T))),(3,.lend [(7001,Zaa s'_8,Zaa s'_12)] [] [(true,.any),(true,.any)] true (I v_12))] [0,4,5,6,7,8] [4,5,67,7001,8001,8322] [_∧((false=true→true=true)∧AV.idsL [Zaq false pts_3]=[]∧((false=true→true=true)∧3=3∧pts_3.length=pts_3.length∧∀i_,i_<pts_3.length→(Zcp pts_3) i_=(Zcp pts_3) i_∨(AV.idsL ((Zcp pts_3) i_)=[]∧leL (fun _=>none) false ((Zcp pts_3) i_) ((Zcp pts_3) i_)))∧([]:List AV)=[])∧True,inR .i64 (((at_ (Stroke.mk pts_3).Points ((Stroke.mk pts_3).Points.length-1)).T)+1),Zao Tryd.prog 20 [.ref 7001 0,I 50] (Zac [(7001,Zaa s'_8)]) true (I v_12) (Zac [(7001,Zaa s'_12)])∧(((Zaa s'_8:Ob)=Zaa s'_8∨Zed Zdl true (Zaa s'_8) (Zaa s'_8))∧Zai false (Zaa s'_8))∧True,inR .i64 ((((at_ (Stroke.mk pts_3).Points ((Stroke.mk pts_3).Points.length-1)).T)+1)+v_12)] ⟨⟨(Zhm (Stroke.mk pts_3) (by first|assumption|(simp only;omega)|(simp;done))),⟨(fun h=>by cases h),rfl,⟨⟨(fun h=>by cases h),rfl,rfl,fun i _=> .inl rfl⟩,rfl⟩⟩,trivial⟩,(Zad (by (first|omega|(simp [at_];omega))) (by (first|omega|(simp [at_];omega)))),⟨hc12,⟨.inl rfl,(by simp [Zai,Zae,Zah,Zcv])⟩,trivial⟩,(Zad (by (first|omega|(simp [at_];omega))) (by (first|omega|(simp [at_];omega)))),trivial⟩ (Zbs 1 (Zab ?_))
     refine x_r [] [0,4,5,6,7,8] [4,5,67,7001,8001,8322] [.ref 7001 0,.ref 4 0,.ref 5 0,I ((((at_ (Stroke.mk pts_3).Points ((Stroke.mk pts_3).Points.length-1)).T)+1)+v_12),I x,I (k-1)] [some (.box [Zcb]),some (.box [.arr 67]),some (.oar [8322,8001] 1 (ss.length+1) (Zhi ss.length (Zfj 8322 ss) (Ziq [.arr 8001] 1))),some (Zaa s'_12),some (Zcl pts_3),some (Zbf ss)] [inR .i64 (k-1)] ⟨(Zad om om),trivial⟩ ?_
     refine Zna 8001 8322 rfl rfl rfl ?_
     refine Zcm [(750,67)] (T:=[(0,.ref 7001 0),(4,.ref 4 0),(5,.ref 5 0),(6,I ((((at_ (Stroke.mk pts_3).Points ((Stroke.mk pts_3).Points.length-1)).T)+1)+v_12)),(7,I x),(8,I (k-1))]) (O:=[(4,.box [Zcb]),(5,.box [.arr 750]),(750,Zbn 8322 (ss++[(Stroke.mk pts_3)])),(7001,Zaa s'_12),(8322,Zbf (ss++[(Stroke.mk pts_3)]))]) rfl (⟨.inl rfl,.inl rfl,.inl rfl,.inl rfl,.inl rfl,.inl rfl,trivial⟩) (⟨.inl rfl,.inl rfl,.inr ⟨rfl,rfl,(by simp),fun i hi=> .inl (Zhn rfl rfl rfl i hi)⟩,.inl rfl,.inr (Zho (Stroke.mk pts_3) (by first|rfl|(simp;done)) (fun i_ hi_=>(by first|rfl|fail))),trivial⟩) (Zbt (((((at_ (Stroke.mk pts_3).Points ((Stroke.mk pts_3).Points.length-1)).T)+1)+v_12),x,(k-1),(ss++[(Stroke.mk pts_3)]),s'_12) rfl (show (Zbj s'_12∧s'_12.code=s.code∧s.atx≤s'_12.atx∧s'_12.atx≤s.atx+10+260*(most-(k-1)))∧(0≤(k-1)∧(k-1)≤most)∧(((ss++[(Stroke.mk pts_3)]).length:Int)+(k-1)≤most)∧(0≤((((at_ (Stroke.mk pts_3).Points ((Stroke.mk pts_3).Points.length-1)).T)+1)+v_12)∧((((at_ (Stroke.mk pts_3).Points ((Stroke.mk pts_3).Points.length-1)).T)+1)+v_12)≤100+500*(most-(k-1)))∧(0≤x∧x≤200+300*(most-(k-1)))∧(Zsa (ss++[(Stroke.mk pts_3)]) ((((at_ (Stroke.mk pts_3).Points ((Stroke.mk pts_3).Points.length-1)).T)+1)+v_12))∧True from ⟨(by exact ⟨by assumption,by first|assumption|rfl|(simp only [*];done),by omega,by omega⟩),om,(by simp;omega),(by (first|omega|(simp [at_];omega))),om,(by first|exact Zhh hik hvs (fun p hp=>(hvt p hp).1) (by have:=hlt;unfold Zlx;omega) om om|exact Zol hik om om om (by first|omega|(simp [at_];omega)) om),trivial⟩) (by first|(show ((k-1).toNat:Nat)<k.toNat;omega)|(dsimp only;omega)))
    refine x_r [(1,.dec false)] [0,4,5,6,7,8,19] [4,5,750,7001,8322] [.ref 7001 0,.ref 4 0,.ref 5 0,I time,I x,I k,Bv false] [some (.box [Zcb]),some (.box [.arr 750]),some (Zbn 8322 ss),some (Zaa src),some (Zbf ss)] [_] ⟨h1,trivial⟩ (Zab (Zcu rfl (Zdz (Zba ?_))))
    refine Zbb ?_
    refine Zbc (Zab ?_)
    refine xR [] [4] [4,750,7001,8322] [.ref 4 0] [some (.box [.arr 750]),some (Zbn 8322 ss),some (Zaa src),some (Zbf ss)] [] trivial (Zcw ?_)
    refine Zcm [(8321,750)] (T:=[(4,.ref 4 0)]) (O:=[(4,.box [.arr 8321]),(7001,Zaa src),(8321,Zbn 8322 ss),(8322,Zbf ss)]) rfl (⟨.inl rfl,trivial⟩) (⟨.inl rfl,.inl rfl,.inl rfl,.inl rfl,trivial⟩) ?_
    refine Zbw (src,ss) (show (Zbj src)∧(src.code=s.code)∧(s.atx+0≤src.atx∧src.atx≤s.atx+4000)∧((ss.length:Int)≤most)∧(Zbg ⟨ss⟩=true)∧(True) from ⟨(by first|exact hik.1|omega|assumption|rfl|(simp;done)|(simp;omega)|(simp_all;done)),(by first|exact hik.1|omega|assumption|rfl|(simp;done)|(simp;omega)|(simp_all;done)),(by first|exact hik.1|omega|assumption|rfl|(simp;done)|(simp;omega)|(simp_all;done)),(by first|exact hik.1|omega|assumption|rfl|(simp;done)|(simp;omega)|(simp_all;done)),(by first|exact hik.1|omega|assumption|rfl|(simp;done)|(simp;omega)|(simp_all;done)),trivial⟩) (⟨.inl rfl,.inl rfl,.inl rfl,trivial⟩) (.agg [.arr 8321]) (by kernel_rfl) (.inl rfl) (fun h=>by cases h) (fun h=>by cases h)
  obtain ⟨⟨s',ss⟩,⟨hh0,hh1,hh2,hh3,hh4,_⟩,hc⟩:=hh
  exact ⟨s',ss,hh0,hh1,hh2,hh3,hh4,hc⟩
theorem Zus (s:l00Src) (most:Int) (hs:Zbj s) (ha:s.atx≤3999999999999995000) (hm:0≤most∧most≤10):∃(s':l00Src) (ss:List Stroke),(Zbj s')∧(s'.code=s.code)∧(s.atx+0≤s'.atx∧s'.atx≤s.atx+3000)∧((ss.length:Int)≤most)∧(∀t∈ss,1≤t.Points.length∧t.Points.length≤10)∧(Zbg ⟨ss⟩=true)∧Zao Tryd.prog 12 [.ref 7001 0,I most] (Zac [(7001,Zaa s)]) false (.agg [.arr 8011]) (Zac [(7001,Zaa s'),(8011,Zbn 8012 ss),(8012,Zbf ss)]):=by
  have hh:∃r:l00Src×(List Stroke),((Zbj r.1)∧(r.1.code=s.code)∧(s.atx+0≤r.1.atx∧r.1.atx≤s.atx+3000)∧((r.2.length:Int)≤most)∧(∀t∈r.2,1≤t.Points.length∧t.Points.length≤10)∧(Zbg ⟨r.2⟩=true)∧(True))∧Zao Tryd.prog 12 [.ref 7001 0,I most] (Zac [(7001,Zaa s)]) false (.agg [.arr 8011]) (Zac [(7001,Zaa r.1),(8011,Zbn 8012 r.2),(8012,Zbf r.2)]):=by
    refine Zdt (Φ:=fun r:l00Src×(List Stroke)=>(Zbj r.1)∧(r.1.code=s.code)∧(s.atx+0≤r.1.atx∧r.1.atx≤s.atx+3000)∧((r.2.length:Int)≤most)∧(∀t∈r.2,1≤t.Points.length∧t.Points.length≤10)∧(Zbg ⟨r.2⟩=true)∧(True)) [(7001,Zaa s)] (fun r=>[(7001,Zaa r.1),(8011,Zbn 8012 r.2),(8012,Zbf r.2)]) (fn:=Tryd.f12) (nt:=47) Tryd.func12 rfl rfl (args:=[.ref 7001 0,I most]) rfl (Zca (.inr trivial) (Zca (.inl ⟨rfl,trivial⟩) Zdu)) (res:=fun r=> .agg [.arr 8011]) ?_
    refine xQ [(0,.new 4)] [0,1,4] [4,7001] [] trivial ?_
    refine xQ [(1,.new 5)] [0,1,4,5] [4,5,7001] [] trivial (Zal ?_)
    obtain ⟨v_1,s'_1,hx1_0,hx1_1,hx1_2,hx1_3,hc1⟩:=Zco s 100 (by first|assumption|(simp only [Zbj] at*;simp_all;done)) om
    refine x_q [(1,.lend [(7001,Zaa s,Zaa s'_1)] [] [(true,.any),(true,.any)] true (I v_1))] [0,1,4,5,6] [4,5,7001] [Zao Tryd.prog 20 [.ref 7001 0,I 100] (Zac [(7001,Zaa s)]) true (I v_1) (Zac [(7001,Zaa s'_1)])∧(((Zaa s:Ob)=Zaa s∨Zed Zdl true (Zaa s) (Zaa s))∧Zai false (Zaa s))∧True] ⟨⟨hc1,⟨.inl rfl,(by simp [Zai,Zae,Zah,Zcv])⟩,trivial⟩,trivial⟩ (Zab (Zal ?_))
    obtain ⟨v_2,s'_2,hx2_0,hx2_1,hx2_2,hx2_3,hc2⟩:=Zco s'_1 200 (by first|assumption|(simp only [Zbj] at*;simp_all;done)) om
    refine x_r [(1,.lend [(7001,Zaa s'_1,Zaa s'_2)] [] [(true,.any),(true,.any)] true (I v_2))] [0,1,4,5,6,7] [4,5,7001] [.ref 7001 0,I most,.ref 4 0,.ref 5 0,I v_1,I (100+v_2)] [some (.box [Zcb]),some (.box [Zcb]),some (Zaa s'_2)] [Zao Tryd.prog 20 [.ref 7001 0,I 200] (Zac [(7001,Zaa s'_1)]) true (I v_2) (Zac [(7001,Zaa s'_2)])∧(((Zaa s'_1:Ob)=Zaa s'_1∨Zed Zdl true (Zaa s'_1) (Zaa s'_1))∧Zai false (Zaa s'_1))∧True,inR .i64 (100+v_2)] ⟨⟨hc2,⟨.inl rfl,(by simp [Zai,Zae,Zah,Zcv])⟩,trivial⟩,(Zad om om),trivial⟩ (Zab (Zal (Zal ?_)))
    obtain ⟨v_3,s'_3,hx3_0,hx3_1,hx3_2,hx3_3,hc3⟩:=Zco s'_2 (most+1) (by first|assumption|(simp only [Zbj] at*;simp_all;done)) om
    refine x_r [(3,.lend [(7001,Zaa s'_2,Zaa s'_3)] [] [(true,.any),(true,.any)] true (I v_3))] [0,4,5,6,7,8] [4,5,7001] [.ref 7001 0,.ref 4 0,.ref 5 0,I v_1,I (100+v_2),I v_3] [some (.box [Zcb]),some (.box [Zcb]),some (Zaa s'_3)] [inR .i64 (most+1),Zao Tryd.prog 20 [.ref 7001 0,I (most+1)] (Zac [(7001,Zaa s'_2)]) true (I v_3) (Zac [(7001,Zaa s'_3)])∧(((Zaa s'_2:Ob)=Zaa s'_2∨Zed Zdl true (Zaa s'_2) (Zaa s'_2))∧Zai false (Zaa s'_2))∧True] ⟨(Zad om om),⟨hc3,⟨.inl rfl,(by simp [Zai,Zae,Zah,Zcv])⟩,trivial⟩,trivial⟩ (Zab (Zbl ?_))
    refine Zje 5 0 750 1 (fun _=>[]) rfl (by kernel_rfl) ?_
    refine x_fam 8012 3 (fun _=>0) (fun _ _=>[]) (by kernel_rfl) ?_
    refine Zhq [] (T:=[(0,.ref 7001 0),(4,.ref 4 0),(5,.ref 5 0),(6,I v_1),(7,I (100+v_2)),(8,I v_3)]) (O:=[(4,.box [Zcb]),(5,.box [.arr 750]),(750,Zbn 8012 ([]:List Stroke)),(7001,Zaa s'_3),(8012,Zbf ([]:List Stroke))]) rfl (⟨.inl rfl,.inl rfl,.inl rfl,.inl rfl,.inl rfl,.inl rfl,trivial⟩) (⟨.inl rfl,.inl rfl,.inr ⟨rfl,rfl,fun i hi=>absurd hi (Nat.not_lt_zero _)⟩,.inl rfl,.inr ⟨rfl,rfl,fun p hp=>absurd hp (Nat.not_lt_zero _)⟩,trivial⟩) ?_
    refine Zee (X:=Int×Int×Int×(List Stroke)×l00Src) (fun x=>mkS [(0,.ref 7001 0),(4,.ref 4 0),(5,.ref 5 0),(6,I x.1),(7,I x.2.1),(8,I x.2.2.1)] [(4,.box [Zcb]),(5,.box [.arr 750]),(750,Zbn 8012 x.2.2.2.1),(7001,Zaa x.2.2.2.2),(8012,Zbf x.2.2.2.1)]) (fun x=>(Zbj x.2.2.2.2∧x.2.2.2.2.code=s.code∧s.atx≤x.2.2.2.2.atx∧x.2.2.2.2.atx≤s.atx+10+210*(most-x.2.2.1))∧(0≤x.2.2.1∧x.2.2.1≤most)∧((x.2.2.2.1.length:Int)+x.2.2.1≤most)∧(0≤x.1∧x.1≤100+500*(most-x.2.2.1))∧(∀t∈x.2.2.2.1,1≤t.Points.length∧t.Points.length≤10)∧(0≤x.2.1∧x.2.1≤300+200*(most-x.2.2.1))∧(Zsa x.2.2.2.1 x.1)∧True) (fun x=>x.2.2.1.toNat) (v_1,(100+v_2),v_3,([]:List Stroke),s'_3) rfl (show (Zbj s'_3∧s'_3.code=s.code∧s.atx≤s'_3.atx∧s'_3.atx≤s.atx+10+210*(most-v_3))∧(0≤v_3∧v_3≤most)∧((([]:List Stroke).length:Int)+v_3≤most)∧(0≤v_1∧v_1≤100+500*(most-v_3))∧(∀t∈([]:List Stroke),1≤t.Points.length∧t.Points.length≤10)∧(0≤(100+v_2)∧(100+v_2)≤300+200*(most-v_3))∧(Zsa ([]:List Stroke) v_1)∧True from ⟨(by exact ⟨by assumption,by first|assumption|rfl|(simp only [*];done),by omega,by omega⟩),om,(by simp;omega),om,(by (intro z hz;simp at hz)),om,(by exact Zto _),trivial⟩) (fun x hI=> ?_)
    obtain ⟨time,x,k,ss,src⟩:=x
    obtain ⟨hs0,hk0,hl0,ht0,hp0,hx0,hik,_⟩:(Zbj src∧src.code=s.code∧s.atx≤src.atx∧src.atx≤s.atx+10+210*(most-k))∧(0≤k∧k≤most)∧((ss.length:Int)+k≤most)∧(0≤time∧time≤100+500*(most-k))∧(∀t∈ss,1≤t.Points.length∧t.Points.length≤10)∧(0≤x∧x≤300+200*(most-k))∧(Zsa ss time)∧True:=hI
    show XW _ _ _ _ (mkS [(0,.ref 7001 0),(4,.ref 4 0),(5,.ref 5 0),(6,I time),(7,I x),(8,I k)] [(4,.box [Zcb]),(5,.box [.arr 750]),(750,Zbn 8012 ss),(7001,Zaa src),(8012,Zbf ss)]) _ _
    refine Zal (Zal ?_)
    by_cases h1:0<k
    ·refine x_q [(1,.dec true)] [0,4,5,6,7,8,21] [4,5,750,7001,8012] [_] ⟨h1,trivial⟩ (Zab (Zfk (Zbr (Zab (Zal (Zbl (Zal ?_)))))))
     obtain ⟨v_4,s'_4,hx4_0,hx4_1,hx4_2,hx4_3,hc4⟩:=Zco src 200 (by first|assumption|(simp only [Zbj] at*;simp_all;done)) om
     obtain ⟨s'_5,pts_5,hx5_0,hx5_1,hx5_2,hx5_3,hx5_4,hx5_5,hc5⟩:=Zgp s'_4 time x (300+v_4) (by first|assumption|(simp only [Zbj] at*;simp_all;done)) om om
     have hlt:time≤(at_ (Stroke.mk pts_5).Points ((Stroke.mk pts_5).Points.length-1)).T∧(at_ (Stroke.mk pts_5).Points ((Stroke.mk pts_5).Points.length-1)).T≤time+210:=hx5_4 _ (Ztn (xs:=pts_5) om)
     have hvs:Zam (Stroke.mk pts_5)=true:=hx5_5 ⟨by omega,by omega⟩
     have hvt:=hx5_4
     refine x_q [(4,.lend [(7001,Zaa src,Zaa s'_4)] [] [(true,.any),(true,.any)] true (I v_4)),(6,.lend [(7001,Zaa s'_4,Zaa s'_5)] [(8001,Zcl pts_5)] [(true,.any),(true,.any),(true,.any),(true,.any)] false (.agg [.arr 8001])),(7,.new 9)] [0,4,5,7,8,9] [4,5,9,750,7001,8001,8012] [Zao Tryd.prog 20 [.ref 7001 0,I 200] (Zac [(7001,Zaa src)]) true (I v_4) (Zac [(7001,Zaa s'_4)])∧(((Zaa src:Ob)=Zaa src∨Zed Zdl true (Zaa src) (Zaa src))∧Zai false (Zaa src))∧True,inR .i64 (300+v_4),Zao Tryd.prog 21 [.ref 7001 0,I time,I x,I (300+v_4)] (Zac [(7001,Zaa s'_4)]) false (.agg [.arr 8001]) (Zac [(7001,Zaa s'_5),(8001,Zcl pts_5)])∧(((Zaa s'_4:Ob)=Zaa s'_4∨Zed Zdl true (Zaa s'_4) (Zaa s'_4))∧Zai false (Zaa s'_4))∧True] ⟨⟨hc4,⟨.inl rfl,(by simp [Zai,Zae,Zah,Zcv])⟩,trivial⟩,(Zad om om),⟨hc5,⟨.inl rfl,(by simp [Zai,Zae,Zah,Zcv])⟩,trivial⟩,trivial⟩ (Zab ?_)
     refine xQ [(3,.new 34),(4,.new 35)] [0,4,5,7,8,9] [4,5,9,35,7001,8001,8012] [(ss.length+1)*24≤140737488355328] ⟨om,trivial⟩ (Zal ?_)
     obtain ⟨v_6,s'_6,hx6_0,hx6_1,hx6_2,hx6_3,hc6⟩:=Zco s'_5 200 (by first|assumption|(simp only [Zbj] at*;simp_all;done)) om
     refine x_r [(0,.call [(false,.ptr false [Zaq false pts_5])] true (I ((at_ (Stroke.mk pts_5).Points ((Stroke.mk pts_5).Points.length-1)).T))),(3,.lend [(7001,Zaa s'_5,Zaa s'_6)] [] [(true,.any),(true,.any)] true (I v_6))] [0,4,5,6,7,8] [4,5,35,7001,8001,8012] [.ref 7001 0,.ref 4 0,.ref 5 0,I ((((at_ (Stroke.mk pts_5).Points ((Stroke.mk pts_5).Points.length-1)).T)+1)+v_6),I x,I k] [some (.box [Zcb]),some (.box [.arr 35]),some (.oar [8012,8001] 1 (ss.length+1) (Zhi ss.length (Zfj 8012 ss) (Ziq [.arr 8001] 1))),some (Zaa s'_6),some (Zcl pts_5),some (Zbf ss)] [_∧((false=true→true=true)∧AV.idsL [Zaq false pts_5]=[]∧((false=true→true=true)∧3=3∧pts_5.length=pts_5.length∧∀i_,i_<pts_5.length→(Zcp pts_5) i_=(Zcp pts_5) i_∨(AV.idsL ((Zcp pts_5) i_)=[]∧leL (fun _=>none) false ((Zcp pts_5) i_) ((Zcp pts_5) i_)))∧([]:List AV)=[])∧True,inR .i64 (((at_ (Stroke.mk pts_5).Points ((Stroke.mk pts_5).Points.length-1)).T)+1),Zao Tryd.prog 20 [.ref 7001 0,I 200] (Zac [(7001,Zaa s'_5)]) true (I v_6) (Zac [(7001,Zaa s'_6)])∧(((Zaa s'_5:Ob)=Zaa s'_5∨Zed Zdl true (Zaa s'_5) (Zaa s'_5))∧Zai false (Zaa s'_5))∧True,inR .i64 ((((at_ (Stroke.mk pts_5).Points ((Stroke.mk pts_5).Points.length-1)).T)+1)+v_6)] ⟨⟨(Zhm (Stroke.mk pts_5) (by first|assumption|(simp only;omega))),⟨(fun h=>by cases h),rfl,⟨⟨(fun h=>by cases h),rfl,rfl,fun i _=> .inl rfl⟩,rfl⟩⟩,trivial⟩,(Zad om om),⟨hc6,⟨.inl rfl,(by simp [Zai,Zae,Zah,Zcv])⟩,trivial⟩,(Zad om om),trivial⟩ (Zab ?_)
     obtain ⟨v_7,s'_7,hx7_0,hx7_1,hx7_2,hx7_3,hc7⟩:=Zco s'_6 200 (by first|assumption|(simp only [Zbj] at*;simp_all;done)) om
     refine x_q [(2,.lend [(7001,Zaa s'_6,Zaa s'_7)] [] [(true,.any),(true,.any)] true (I v_7))] [0,4,5,6,7,8] [4,5,35,7001,8001,8012] [Zao Tryd.prog 20 [.ref 7001 0,I 200] (Zac [(7001,Zaa s'_6)]) true (I v_7) (Zac [(7001,Zaa s'_7)])∧(((Zaa s'_6:Ob)=Zaa s'_6∨Zed Zdl true (Zaa s'_6) (Zaa s'_6))∧Zai false (Zaa s'_6))∧True,inR .i64 (x+v_7)] ⟨⟨hc7,⟨.inl rfl,(by simp [Zai,Zae,Zah,Zcv])⟩,trivial⟩,(Zad om om),trivial⟩ (Zbs 1 (Zab ?_))
     refine x_r [] [0,4,5,6,7,8] [4,5,35,7001,8001,8012] [.ref 7001 0,.ref 4 0,.ref 5 0,I ((((at_ (Stroke.mk pts_5).Points ((Stroke.mk pts_5).Points.length-1)).T)+1)+v_6),I (x+v_7),I (k-1)] [some (.box [Zcb]),some (.box [.arr 35]),some (.oar [8012,8001] 1 (ss.length+1) (Zhi ss.length (Zfj 8012 ss) (Ziq [.arr 8001] 1))),some (Zaa s'_7),some (Zcl pts_5),some (Zbf ss)] [inR .i64 (k-1)] ⟨(Zad om om),trivial⟩ ?_
     refine Zna 8001 8012 rfl rfl rfl ?_
     refine Zcm [(750,35)] (T:=[(0,.ref 7001 0),(4,.ref 4 0),(5,.ref 5 0),(6,I ((((at_ (Stroke.mk pts_5).Points ((Stroke.mk pts_5).Points.length-1)).T)+1)+v_6)),(7,I (x+v_7)),(8,I (k-1))]) (O:=[(4,.box [Zcb]),(5,.box [.arr 750]),(750,Zbn 8012 (ss++[(Stroke.mk pts_5)])),(7001,Zaa s'_7),(8012,Zbf (ss++[(Stroke.mk pts_5)]))]) rfl (⟨.inl rfl,.inl rfl,.inl rfl,.inl rfl,.inl rfl,.inl rfl,trivial⟩) (⟨.inl rfl,.inl rfl,.inr ⟨rfl,rfl,(by simp),fun i hi=> .inl (Zhn rfl rfl rfl i hi)⟩,.inl rfl,.inr (Zho (Stroke.mk pts_5) (by first|rfl|(simp;done)) (fun i_ hi_=>(by first|rfl|fail))),trivial⟩) (Zbt (((((at_ (Stroke.mk pts_5).Points ((Stroke.mk pts_5).Points.length-1)).T)+1)+v_6),(x+v_7),(k-1),(ss++[(Stroke.mk pts_5)]),s'_7) rfl (show (Zbj s'_7∧s'_7.code=s.code∧s.atx≤s'_7.atx∧s'_7.atx≤s.atx+10+210*(most-(k-1)))∧(0≤(k-1)∧(k-1)≤most)∧(((ss++[(Stroke.mk pts_5)]).length:Int)+(k-1)≤most)∧(0≤((((at_ (Stroke.mk pts_5).Points ((Stroke.mk pts_5).Points.length-1)).T)+1)+v_6)∧((((at_ (Stroke.mk pts_5).Points ((Stroke.mk pts_5).Points.length-1)).T)+1)+v_6)≤100+500*(most-(k-1)))∧(∀t∈(ss++[(Stroke.mk pts_5)]),1≤t.Points.length∧t.Points.length≤10)∧(0≤(x+v_7)∧(x+v_7)≤300+200*(most-(k-1)))∧(Zsa (ss++[(Stroke.mk pts_5)]) ((((at_ (Stroke.mk pts_5).Points ((Stroke.mk pts_5).Points.length-1)).T)+1)+v_6))∧True from ⟨(by exact ⟨by assumption,by first|assumption|rfl|(simp only [*];done),by omega,by omega⟩),om,(by simp;omega),om,(by exact Zgm hp0 (by dsimp only;omega)),om,(by exact Zhh hik hvs (fun p hp=>(hvt p hp).1) (by have:=hlt;unfold Zlx;omega) om om),trivial⟩) (by first|(show ((k-1).toNat:Nat)<k.toNat;omega)|(dsimp only;omega)))
    refine x_r [(1,.dec false)] [0,4,5,6,7,8,21] [4,5,750,7001,8012] [.ref 7001 0,.ref 4 0,.ref 5 0,I time,I x,I k,Bv false] [some (.box [Zcb]),some (.box [.arr 750]),some (Zbn 8012 ss),some (Zaa src),some (Zbf ss)] [_] ⟨h1,trivial⟩ (Zab (Zcu rfl (Zdz (Zba ?_))))
    refine Zbb ?_
    refine Zbc (Zab ?_)
    refine xR [] [4] [4,750,7001,8012] [.ref 4 0] [some (.box [.arr 750]),some (Zbn 8012 ss),some (Zaa src),some (Zbf ss)] [] trivial (Zcw ?_)
    refine Zcm [(8011,750)] (T:=[(4,.ref 4 0)]) (O:=[(4,.box [.arr 8011]),(7001,Zaa src),(8011,Zbn 8012 ss),(8012,Zbf ss)]) rfl (⟨.inl rfl,trivial⟩) (⟨.inl rfl,.inl rfl,.inl rfl,.inl rfl,trivial⟩) ?_
    refine Zbw (src,ss) (show (Zbj src)∧(src.code=s.code)∧(s.atx+0≤src.atx∧src.atx≤s.atx+3000)∧((ss.length:Int)≤most)∧(∀t∈ss,1≤t.Points.length∧t.Points.length≤10)∧(Zbg ⟨ss⟩=true)∧(True) from ⟨(by first|exact hik.1|omega|assumption|rfl|(simp;done)|(simp;omega)|(simp_all;done)),(by first|exact hik.1|omega|assumption|rfl|(simp;done)|(simp;omega)|(simp_all;done)),(by first|exact hik.1|omega|assumption|rfl|(simp;done)|(simp;omega)|(simp_all;done)),(by first|exact hik.1|omega|assumption|rfl|(simp;done)|(simp;omega)|(simp_all;done)),(by first|exact hik.1|omega|assumption|rfl|(simp;done)|(simp;omega)|(simp_all;done)),(by first|exact hik.1|omega|assumption|rfl|(simp;done)|(simp;omega)|(simp_all;done)),trivial⟩) (⟨.inl rfl,.inl rfl,.inl rfl,trivial⟩) (.agg [.arr 8011]) (by kernel_rfl) (.inl rfl) (fun h=>by cases h) (fun h=>by cases h)
  obtain ⟨⟨s',ss⟩,⟨hh0,hh1,hh2,hh3,hh4,hh5,_⟩,hc⟩:=hh
  exact ⟨s',ss,hh0,hh1,hh2,hh3,hh4,hh5,hc⟩
theorem A2Ink_ok (code:List Int) (hc:(∀j,j<code.length→0≤at_ code j∧at_ code j≤255)∧code.length≤4611686018427387904):∃(ik:Ink),(Zbg ik=true)∧((ik.Strokes.length:Int)≤6)∧Con Tryd.prog 5 [Zgq false code] true (.agg [Zaj true ik.Strokes]):=by
  have hh:∃r:Ink,((Zbg r=true)∧((r.Strokes.length:Int)≤6)∧(True))∧Zao Tryd.prog 5 [Zgq false code] (Zac []) true (.agg [Zaj true r.Strokes]) (Zac []):=by
    refine Zdt (Φ:=fun r:Ink=>(Zbg r=true)∧((r.Strokes.length:Int)≤6)∧(True)) [] (fun r=>[]) (fn:=Tryd.f5) (nt:=12) Tryd.func5 rfl rfl (args:=[Zgq false code]) rfl (Zca (.inl ⟨rfl,Zcv false _⟩) Zdu) (res:=fun r=> .agg [Zaj true r.Strokes]) ?_
    refine xQ [(0,.new 2)] [0,2] [2] [] trivial (Zal ?_)
    obtain ⟨s'_1,hx1_0,hc1⟩:=Zuq code
    have hsrc:Zbj s'_1:=⟨by rw [hx1_0.1];exact hc.1,by rw [hx1_0.2];decide,by rw [hx1_0.1];exact hc.2⟩
    have hat0:=hx1_0.2
    refine x_q [(1,.lend [] [(7001,Zaa s'_1)] [(true,.any)] false (.ref 7001 0))] [2,3] [2,7001] [Zao Tryd.prog 9 [Zgq false code] (Zac []) false (.ref 7001 0) (Zac [(7001,Zaa s'_1)])∧True] ⟨⟨hc1,trivial⟩,trivial⟩ (Zab (Zal (Zal ?_)))
    obtain ⟨v_2,s'_2,hx2_0,hx2_1,hx2_2,hc2⟩:=Ztm s'_1 3 (by first|assumption|(simp only [Zbj] at*;simp_all;done)) om
    rcases Bool.eq_false_or_eq_true v_2 with h1|h1
    ·subst h1
     refine x_q [(1,.lend [(7001,Zaa s'_1,Zaa s'_2)] [] [(true,.any),(true,.any)] true (Bv true))] [2,3,7] [2,7001] [Zao Tryd.prog 10 [.ref 7001 0,I 3] (Zac [(7001,Zaa s'_1)]) true (Bv true) (Zac [(7001,Zaa s'_2)])∧(((Zaa s'_1:Ob)=Zaa s'_1∨Zed Zdl true (Zaa s'_1) (Zaa s'_1))∧Zai false (Zaa s'_1))∧True] ⟨⟨hc2,⟨.inl rfl,(by simp [Zai,Zae,Zah,Zcv])⟩,trivial⟩,trivial⟩ (Zab (Zfk (Zal ?_)))
     obtain ⟨s'_3,ss_3,hx3_0,hx3_1,hx3_2,hx3_3,hx3_4,hc3⟩:=Zur s'_2 6 (by first|assumption|(simp only [Zbj] at*;simp_all;done)) om om
     refine x_r [(1,.lend [(7001,Zaa s'_2,Zaa s'_3)] [(8321,Zbn 8322 ss_3),(8322,Zbf ss_3)] [(true,.any),(true,.any)] false (.agg [.arr 8321]))] [2] [2,8321,8322] [.ref 2 0] [some (.box [.arr 8321]),some (Zbn 8322 ss_3),some (Zbf ss_3)] [Zao Tryd.prog 11 [.ref 7001 0,I 6] (Zac [(7001,Zaa s'_2)]) false (.agg [.arr 8321]) (Zac [(7001,Zaa s'_3),(8321,Zbn 8322 ss_3),(8322,Zbf ss_3)])∧(((Zaa s'_2:Ob)=Zaa s'_2∨Zed Zdl true (Zaa s'_2) (Zaa s'_2))∧Zai false (Zaa s'_2))∧True] ⟨⟨hc3,⟨.inl rfl,(by simp [Zai,Zae,Zah,Zcv])⟩,trivial⟩,trivial⟩ (Zab (Zcw (Zar ?_)))
     refine Zbw (Ink.mk ss_3) (show (Zbg (Ink.mk ss_3)=true)∧(((Ink.mk ss_3).Strokes.length:Int)≤6)∧(True) from ⟨(by first|assumption|omega|(simp only;omega)|(simp only;assumption)),(by first|assumption|omega|(simp only;omega)|(simp only;assumption)),trivial⟩) (trivial) (.agg [.arr 8321]) (by kernel_rfl) (.inr ⟨⟨(fun _=>rfl),rfl,rfl,Zqo _ _ rfl⟩,rfl⟩) (fun _=>rfl) (fun _=>(by simp [Zah,Zae,Zcz]))
    subst h1
    refine x_q [(1,.lend [(7001,Zaa s'_1,Zaa s'_2)] [] [(true,.any),(true,.any)] true (Bv false))] [2,3,7] [2,7001] [Zao Tryd.prog 10 [.ref 7001 0,I 3] (Zac [(7001,Zaa s'_1)]) true (Bv false) (Zac [(7001,Zaa s'_2)])∧(((Zaa s'_1:Ob)=Zaa s'_1∨Zed Zdl true (Zaa s'_1) (Zaa s'_1))∧Zai false (Zaa s'_1))∧True] ⟨⟨hc2,⟨.inl rfl,(by simp [Zai,Zae,Zah,Zcv])⟩,trivial⟩,trivial⟩ (Zab (Zjn (Zbr (Zab (Zal ?_)))))
    obtain ⟨s'_4,ss_4,hx4_0,hx4_1,hx4_2,hx4_3,hx4_4,hx4_5,hc4⟩:=Zus s'_2 5 (by first|assumption|(simp only [Zbj] at*;simp_all;done)) om om
    refine x_r [(1,.lend [(7001,Zaa s'_2,Zaa s'_4)] [(8011,Zbn 8012 ss_4),(8012,Zbf ss_4)] [(true,.any),(true,.any)] false (.agg [.arr 8011]))] [2] [2,8011,8012] [.ref 2 0] [some (.box [.arr 8011]),some (Zbn 8012 ss_4),some (Zbf ss_4)] [Zao Tryd.prog 12 [.ref 7001 0,I 5] (Zac [(7001,Zaa s'_2)]) false (.agg [.arr 8011]) (Zac [(7001,Zaa s'_4),(8011,Zbn 8012 ss_4),(8012,Zbf ss_4)])∧(((Zaa s'_2:Ob)=Zaa s'_2∨Zed Zdl true (Zaa s'_2) (Zaa s'_2))∧Zai false (Zaa s'_2))∧True] ⟨⟨hc4,⟨.inl rfl,(by simp [Zai,Zae,Zah,Zcv])⟩,trivial⟩,trivial⟩ (Zab (Zcw ?_))
    refine Zbw (Ink.mk ss_4) (show (Zbg (Ink.mk ss_4)=true)∧(((Ink.mk ss_4).Strokes.length:Int)≤6)∧(True) from ⟨(by first|assumption|omega|(simp only;omega)|(simp only;assumption)),(by first|assumption|omega|(simp only;omega)|(simp only;assumption)),trivial⟩) (trivial) (.agg [.arr 8011]) (by kernel_rfl) (.inr ⟨⟨(fun _=>rfl),rfl,rfl,Zqo _ _ rfl⟩,rfl⟩) (fun _=>rfl) (fun _=>(by simp [Zah,Zae,Zcz]))
  obtain ⟨ik,⟨hh0,hh1,_⟩,hc⟩:=hh
  exact ⟨ik,hh0,hh1,hc⟩
theorem Zip (n:Int) (low:Int) (high:Int):Con Tryd.prog 50 [I n,I low,I high] true (Bv (inB n low high)):=by
  refine Zej (fn:=Tryd.f50) (nt:=15) Tryd.func50 rfl rfl rfl rfl (by simp [Zae,Zah]) fun B hB=> ?_
  refine aQ [] [0,1,2] [] [] hB trivial (Zan ?_)
  by_cases h1:low≤n
  ·refine Zit [(2,.dec true)] [6] [] [Bv (decide (n≤high))] [] [_] hB ⟨h1,trivial⟩ (Zaf (Zat ?_))
   refine Zau hB (Bv (decide (n≤high))) (by kernel_rfl) (.inl (by first|rfl|(refine congrArg Bv ?_;simp [inB, *];done)|(refine congrArg Bv ?_;simp [inB, *];omega)|(refine congrArg Bv ?_;simp_all [inB];done)|(refine congrArg Bv ?_;simp_all [inB];omega))) rfl (fun _=>trivial)
  refine Zit [(2,.dec false)] [6] [] [Bv false] [] [_] hB ⟨h1,trivial⟩ (Zaf (Zat ?_))
  refine Zau hB (Bv false) (by kernel_rfl) (.inl (by first|rfl|(refine congrArg Bv ?_;simp [inB, *];done)|(refine congrArg Bv ?_;simp [inB, *];omega)|(refine congrArg Bv ?_;simp_all [inB];done)|(refine congrArg Bv ?_;simp_all [inB];omega))) rfl (fun _=>trivial)
theorem Zgc (n:Int):Con Tryd.prog 49 [I n] true (Bv (inB n 0 4095)):=by
 refine Zej (fn:=Tryd.f49) (nt:=5) Tryd.func49 rfl rfl rfl rfl (by simp [Zae,Zah]) fun B hB=> ?_
 refine aQ [] [0] [] [] hB trivial ?_
 refine aR [(1,.call [(true,.any),(true,.any),(true,.any)] true (Bv (inB n 0 4095)))] [2] [] [Bv (inB n 0 4095)] [] [_∧True] hB ⟨⟨(Zip n 0 4095),trivial⟩,trivial⟩ (Zat ?_)
 refine Zau hB (Bv (inB n 0 4095)) (by kernel_rfl) (.inl rfl) rfl (fun _=>trivial)
theorem Zfb (p:Point):Con Tryd.prog 40 [Zem p] true (Bv (okP p)):=by
  refine Zej (fn:=Tryd.f40) (nt:=16) Tryd.func40 rfl rfl rfl rfl (by simp [Zae,Zah]) fun B hB=> ?_
  refine aQ [(0,.new 1)] [1] [1] [] hB trivial (Zan ?_)
  rcases Bool.eq_false_or_eq_true (inB p.X 0 4095) with h1|h1
  ·rcases Bool.eq_false_or_eq_true (inB p.Y 0 4095) with h2|h2
   ·refine Zit [(2,.call [(true,.any)] true (Bv true)),(6,.call [(true,.any)] true (Bv true)),(11,.call [(true,.any),(true,.any),(true,.any)] true (Bv (inB p.T 0 3600000)))] [2] [] [Bv (inB p.T 0 3600000)] [] [Con Tryd.prog 49 [I p.X] true (Bv true)∧True,Con Tryd.prog 49 [I p.Y] true (Bv true)∧True,_∧True] hB ⟨⟨(Zbd h1 (Zgc p.X)),trivial⟩,⟨(Zbd h2 (Zgc p.Y)),trivial⟩,⟨(Zip p.T 0 3600000),trivial⟩,trivial⟩ (Zaf (Zat ?_))
    refine Zau hB (Bv (inB p.T 0 3600000)) (by kernel_rfl) (.inl (by first|rfl|(refine congrArg Bv ?_;simp [okP, *];done)|(refine congrArg Bv ?_;simp [okP, *];omega)|(refine congrArg Bv ?_;simp_all [okP];done)|(refine congrArg Bv ?_;simp_all [okP];omega))) rfl (fun _=>trivial)
   refine Zit [(2,.call [(true,.any)] true (Bv true)),(6,.call [(true,.any)] true (Bv false))] [2] [] [Bv false] [] [Con Tryd.prog 49 [I p.X] true (Bv true)∧True,Con Tryd.prog 49 [I p.Y] true (Bv false)∧True] hB ⟨⟨(Zbd h1 (Zgc p.X)),trivial⟩,⟨(Zbd h2 (Zgc p.Y)),trivial⟩,trivial⟩ (Zaf (Zat ?_))
   refine Zau hB (Bv false) (by kernel_rfl) (.inl (by first|rfl|(refine congrArg Bv ?_;simp [okP, *];done)|(refine congrArg Bv ?_;simp [okP, *];omega)|(refine congrArg Bv ?_;simp_all [okP];done)|(refine congrArg Bv ?_;simp_all [okP];omega))) rfl (fun _=>trivial)
  refine Zit [(2,.call [(true,.any)] true (Bv false))] [2] [] [Bv false] [] [Con Tryd.prog 49 [I p.X] true (Bv false)∧True] hB ⟨⟨(Zbd h1 (Zgc p.X)),trivial⟩,trivial⟩ (Zaf (Zat ?_))
  refine Zau hB (Bv false) (by kernel_rfl) (.inl (by first|rfl|(refine congrArg Bv ?_;simp [okP, *];done)|(refine congrArg Bv ?_;simp [okP, *];omega)|(refine congrArg Bv ?_;simp_all [okP];done)|(refine congrArg Bv ?_;simp_all [okP];omega))) rfl (fun _=>trivial)
theorem Zep (s:Stroke):Con Tryd.prog 23 [.agg [Zaq false s.Points]] true (Bv (Zam s)):=by
  refine Zej (fn:=Tryd.f23) (nt:=43) Tryd.func23 rfl rfl rfl rfl (by simp [Zae,Zah,Zfm]) fun B hB=> ?_
  refine Zfe (x:= .agg [Zaq false s.Points]) 0 rfl (fun len_s=> ?_)
  simp [Zhp,Zot,Zgu,Zcp,Zaq] at len_s
  refine aQ [(0,.new 1)] [1] [1] [] hB trivial (Zan ?_)
  refine aR [] [1,6,7,8] [1] [.ref 1 0,Zaq false s.Points,I (s.Points.length:Int),I 0] [some (.box [Zaq false s.Points])] [] hB trivial (Zdi ?_)
  refine Zhw (fun gn gσ=>∃(t8:Int),gn=((s.Points.length:Int)-t8).toNat∧(0≤t8∧t8≤(s.Points.length:Int))∧(∀j:Nat,(j:Int)<t8→Zrs s.Points j=true)∧gσ=mkS [(1,.ref 1 0),(6,Zaq false s.Points),(7,I (s.Points.length:Int)),(8,I t8)] [(1,.box [Zaq false s.Points])]) (((s.Points.length:Int)-0).toNat) ⟨0,rfl,om,(by intro j hj;omega),rfl⟩ (fun gn gσ hI=> ?_)
  obtain ⟨t8,rfl,hi0,hall0,rfl⟩:=hI
  refine Zan ?_
  by_cases h1:t8<(s.Points.length:Int)
  ·have hi:t8.toNat<s.Points.length:=by omega
   refine Zdk [(0,.dec true)] [1,6,7,8,9] [1] [_] hB ⟨h1,trivial⟩ (Zaf (Zan (Zdr (Zbu (Zaf (Zan (Zdi ?_)))))))
   refine aQ [(3,.new 4)] [1,3,4,6,7,8] [1,4] [(0:Int)≤t8∧t8<(s.Points.length:Int)] hB ⟨⟨om,om⟩,trivial⟩ (Zan ?_)
   rcases Bool.eq_false_or_eq_true (okP (at_ s.Points t8.toNat)) with h2|h2
   ·by_cases h3:0<t8
    ·by_cases h4:((at_ s.Points t8.toNat).T)≤((at_ s.Points ((t8-1).toNat)).T)
     ·have hall:Zqr s.Points.length (Zrs s.Points)=false:=Zjz hi (okPt_no h3 h4)
      refine Zdk [(1,.call [(true,.any)] true (Bv true)),(5,.dec true),(16,.dec true)] [1,6,7,8,31] [1] [Con Tryd.prog 40 [Zem (at_ s.Points t8.toNat)] true (Bv true)∧True,_,inR .i64 (t8-1),(0:Int)≤(t8-1)∧(t8-1)<(s.Points.length:Int),_] hB ⟨⟨(Zbd h2 (Zfb (at_ s.Points t8.toNat))),trivial⟩,h3,(Zad om om),⟨om,om⟩,h4,trivial⟩ (Zaf (Zdr ?_))
      refine aR [] [2] [] [Bv false] [] [] hB trivial (Zat ?_)
      refine Zcj (Zak (Zak (Zcj (Zak ?_))))
      refine Zau hB (Bv false) (by kernel_rfl) (.inl (by first|rfl|(refine congrArg Bv ?_;simp [Zam,inB, *];done)|(refine congrArg Bv ?_;simp [Zam,inB, *];omega)|(refine congrArg Bv ?_;simp_all [Zam,inB];done)|(refine congrArg Bv ?_;simp_all [Zam,inB];omega))) rfl (fun _=>trivial)
     have hok:=okPt_yes h2 h3 h4
     refine Zdk [(1,.call [(true,.any)] true (Bv true)),(5,.dec true),(16,.dec false)] [1,6,7,8,31] [1] [Con Tryd.prog 40 [Zem (at_ s.Points t8.toNat)] true (Bv true)∧True,_,inR .i64 (t8-1),(0:Int)≤(t8-1)∧(t8-1)<(s.Points.length:Int),_] hB ⟨⟨(Zbd h2 (Zfb (at_ s.Points t8.toNat))),trivial⟩,h3,(Zad om om),⟨om,om⟩,h4,trivial⟩ (Zaf (Zdm (Zbu (Zfn 1 (Zaf ?_)))))
     refine Zit [] [1,6,7,8] [1] [.ref 1 0,Zaq false s.Points,I (s.Points.length:Int),I (t8+1)] [some (.box [Zaq false s.Points])] [inR .i64 (t8+1)] hB ⟨(Zad om om),trivial⟩ ?_
     exact Zfo _ om ⟨(t8+1),rfl,om,(by intro j hj;by_cases ej:j=t8.toNat;(subst ej;first|assumption|exact hok);exact hall0 j om),rfl⟩
    have hok:=Zxt h2 hi0.1 h3
    refine Zdk [(1,.call [(true,.any)] true (Bv true)),(5,.dec false)] [1,6,7,8,31] [1] [Con Tryd.prog 40 [Zem (at_ s.Points t8.toNat)] true (Bv true)∧True,_] hB ⟨⟨(Zbd h2 (Zfb (at_ s.Points t8.toNat))),trivial⟩,h3,trivial⟩ (Zaf (Zdm (Zbu (Zfn 1 (Zaf ?_)))))
    refine Zit [] [1,6,7,8] [1] [.ref 1 0,Zaq false s.Points,I (s.Points.length:Int),I (t8+1)] [some (.box [Zaq false s.Points])] [inR .i64 (t8+1)] hB ⟨(Zad om om),trivial⟩ ?_
    exact Zfo _ om ⟨(t8+1),rfl,om,(by intro j hj;by_cases ej:j=t8.toNat;(subst ej;first|assumption|exact hok);exact hall0 j om),rfl⟩
   have hall:Zqr s.Points.length (Zrs s.Points)=false:=Zjz hi (okPt_bad h2)
   refine Zdk [(1,.call [(true,.any)] true (Bv false))] [1,6,7,8,31] [1] [Con Tryd.prog 40 [Zem (at_ s.Points t8.toNat)] true (Bv false)∧True] hB ⟨⟨(Zbd h2 (Zfb (at_ s.Points t8.toNat))),trivial⟩,trivial⟩ (Zaf (Zdr ?_))
   refine aR [] [2] [] [Bv false] [] [] hB trivial (Zat ?_)
   refine Zcj (Zak (Zak (Zcj (Zak ?_))))
   refine Zau hB (Bv false) (by kernel_rfl) (.inl (by first|rfl|(refine congrArg Bv ?_;simp [Zam,inB, *];done)|(refine congrArg Bv ?_;simp [Zam,inB, *];omega)|(refine congrArg Bv ?_;simp_all [Zam,inB];done)|(refine congrArg Bv ?_;simp_all [Zam,inB];omega))) rfl (fun _=>trivial)
  have hall:Zqr s.Points.length (Zrs s.Points)=true:=Zok (fun j hj=>hall0 j om)
  refine Zdk [(0,.dec false)] [1,6,7,8,9] [1] [_] hB ⟨h1,trivial⟩ (Zaf (Zan (Zdm (Zgg (Zbo (Zbo (Zcq (Zaf (Zan ?_)))))))))
  by_cases h5:1≤(s.Points.length:Int)
  ·refine Zit [(3,.dec true)] [2] [] [Bv (decide ((s.Points.length:Int)≤60))] [] [_] hB ⟨h5,trivial⟩ (Zaf (Zat ?_))
   refine Zau hB (Bv (decide ((s.Points.length:Int)≤60))) (by kernel_rfl) (.inl (by first|rfl|(refine congrArg Bv ?_;simp [Zam,inB, *];done)|(refine congrArg Bv ?_;simp [Zam,inB, *];omega)|(refine congrArg Bv ?_;simp_all [Zam,inB];done)|(refine congrArg Bv ?_;simp_all [Zam,inB];omega))) rfl (fun _=>trivial)
  refine Zit [(3,.dec false)] [2] [] [Bv false] [] [_] hB ⟨h5,trivial⟩ (Zaf (Zat ?_))
  refine Zau hB (Bv false) (by kernel_rfl) (.inl (by first|rfl|(refine congrArg Bv ?_;simp [Zam,inB, *];done)|(refine congrArg Bv ?_;simp [Zam,inB, *];omega)|(refine congrArg Bv ?_;simp_all [Zam,inB];done)|(refine congrArg Bv ?_;simp_all [Zam,inB];omega))) rfl (fun _=>trivial)
theorem Zmn (s:Stroke) (ok:Zam s=true):Con Tryd.prog 24 [.agg [Zaq false s.Points]] true (Zem (at_ s.Points 0)):=by
 have hln:=Zlg ok
 refine Zej (fn:=Tryd.f24) (nt:=7) Tryd.func24 rfl rfl rfl rfl (by simp [Zae,Zah,Zfm]) fun B hB=> ?_
 refine Zfe (x:= .agg [Zaq false s.Points]) 0 rfl (fun len_s=> ?_)
 simp [Zhp,Zot,Zgu,Zcp,Zaq] at len_s
 refine aQ [(0,.new 1),(1,.new 2)] [1,2] [1,2] [] hB trivial ?_
 refine aR [] [2] [2] [.ref 2 0] [some (Zrv (at_ s.Points 0))] [(0:Int)≤0∧0<(s.Points.length:Int)] hB ⟨⟨om,om⟩,trivial⟩ (Zat ?_)
 refine Zau hB (Zem (at_ s.Points 0)) (by kernel_rfl) (.inl rfl) rfl (fun _=>(by simp [Zah,Zae]))
theorem Zqp (s:Stroke) (ok:Zam s=true):Con Tryd.prog 25 [.agg [Zaq false s.Points]] true (Zem (at_ s.Points (s.Points.length-1))):=by
 have hln:=Zlg ok
 refine Zej (fn:=Tryd.f25) (nt:=11) Tryd.func25 rfl rfl rfl rfl (by simp [Zae,Zah,Zfm]) fun B hB=> ?_
 refine Zfe (x:= .agg [Zaq false s.Points]) 0 rfl (fun len_s=> ?_)
 simp [Zhp,Zot,Zgu,Zcp,Zaq] at len_s
 refine aQ [(0,.new 1),(1,.new 2)] [1,2] [1,2] [] hB trivial ?_
 refine aR [] [2] [2] [.ref 2 0] [some (Zrv (at_ s.Points (((s.Points.length:Int)-1).toNat)))] [inR .i64 ((s.Points.length:Int)-1),(0:Int)≤((s.Points.length:Int)-1)∧((s.Points.length:Int)-1)<(s.Points.length:Int)] hB ⟨(Zad om om),⟨om,om⟩,trivial⟩ (Zat ?_)
 refine Zau hB (Zem (at_ s.Points (((s.Points.length:Int)-1).toNat))) (by kernel_rfl) (.inl (by first|rfl|(have e:((s.Points.length:Int)-1).toNat=s.Points.length-1:=om;rw [e]))) rfl (fun _=>(by simp [Zah,Zae]))
theorem Zgf (ik:Ink):Con Tryd.prog 13 [.agg [Zaj false ik.Strokes]] true (Bv (Zbg ik)):=by
  refine Zej (fn:=Tryd.f13) (nt:=39) Tryd.func13 rfl rfl rfl rfl (by simp [Zae,Zah,Zcz]) fun B hB=> ?_
  refine Zfe (x:= .agg [Zaj false ik.Strokes]) 0 rfl (fun len_ik=> ?_)
  simp [Zhp,Zot,Zgu,Zgv,Zcp,Zbp,Zaq,Zaj] at len_ik
  refine aQ [(0,.new 1)] [1] [1] [] hB trivial (Zan ?_)
  refine aR [] [1,6,7,8] [1] [.ref 1 0,Zaj false ik.Strokes,I (ik.Strokes.length:Int),I 0] [some (.box [Zaj false ik.Strokes])] [] hB trivial (Zdi ?_)
  refine Zhw (fun gn gσ=>∃(t8:Int),gn=((ik.Strokes.length:Int)-t8).toNat∧(0≤t8∧t8≤(ik.Strokes.length:Int))∧(∀j:Nat,(j:Int)<t8→Zqm ik.Strokes j=true)∧gσ=mkS [(1,.ref 1 0),(6,Zaj false ik.Strokes),(7,I (ik.Strokes.length:Int)),(8,I t8)] [(1,.box [Zaj false ik.Strokes])]) (((ik.Strokes.length:Int)-0).toNat) ⟨0,rfl,om,(by intro j hj;omega),rfl⟩ (fun gn gσ hI=> ?_)
  obtain ⟨t8,rfl,hi0,hall0,rfl⟩:=hI
  refine Zan ?_
  by_cases h1:t8<(ik.Strokes.length:Int)
  ·have hi:t8.toNat<ik.Strokes.length:=by omega
   refine Zdk [(0,.dec true)] [1,6,7,8,9] [1] [_] hB ⟨h1,trivial⟩ (Zaf (Zan (Zdr (Zbu (Zaf (Zan (Zdi ?_)))))))
   refine aQ [(3,.new 4)] [1,3,4,6,7,8] [1,4] [(0:Int)≤t8∧t8<(ik.Strokes.length:Int)] hB ⟨⟨om,om⟩,trivial⟩ (Zan ?_)
   rcases Bool.eq_false_or_eq_true (Zam (at_ ik.Strokes t8.toNat)) with h2|h2
   ·have hln:=Zlg h2
    by_cases h3:0<t8
    ·have hpr:=Zlg (Zjd (hall0 (t8-1).toNat om))
     by_cases h4:((at_ (at_ ik.Strokes t8.toNat).Points 0).T)≤((at_ (at_ ik.Strokes ((t8-1).toNat)).Points ((at_ ik.Strokes ((t8-1).toNat)).Points.length-1)).T)
     ·have hall:Zqr ik.Strokes.length (Zqm ik.Strokes)=false:=Zjz hi (okSA_no h3 h4)
      refine Zdk [(1,.call [(true,.any)] true (Bv true)),(5,.dec true),(8,.call [(true,.any)] true (Zem (at_ (at_ ik.Strokes t8.toNat).Points 0))),(16,.call [(true,.any)] true (Zem (at_ (at_ ik.Strokes ((t8-1).toNat)).Points ((at_ ik.Strokes ((t8-1).toNat)).Points.length-1)))),(18,.dec true)] [1,6,7,8,33] [1] [Con Tryd.prog 23 [.agg [Zaq false ((at_ ik.Strokes t8.toNat).Points)]] true (Bv true)∧True,_,_∧True,inR .i64 (t8-1),(0:Int)≤(t8-1)∧(t8-1)<(ik.Strokes.length:Int),_∧True,_] hB ⟨⟨(Zbd h2 (Zep (at_ ik.Strokes t8.toNat))),trivial⟩,h3,⟨(Zmn (at_ ik.Strokes t8.toNat) (by first|assumption|exact Zjd (hall0 _ om))),trivial⟩,(Zad om om),⟨om,om⟩,⟨(Zqp (at_ ik.Strokes ((t8-1).toNat)) (by first|assumption|exact Zjd (hall0 _ om))),trivial⟩,h4,trivial⟩ (Zaf (Zdr ?_))
      refine aR [] [2] [] [Bv false] [] [] hB trivial (Zat ?_)
      refine Zcj (Zak (Zak (Zcj (Zak ?_))))
      refine Zau hB (Bv false) (by kernel_rfl) (.inl (by first|rfl|(refine congrArg Bv ?_;simp [Zbg, *];done)|(refine congrArg Bv ?_;simp [Zbg, *];omega)|(refine congrArg Bv ?_;simp_all [Zbg];done)|(refine congrArg Bv ?_;simp_all [Zbg];omega))) rfl (fun _=>trivial)
     have hok:=okSA_yes h2 h3 h4
     refine Zdk [(1,.call [(true,.any)] true (Bv true)),(5,.dec true),(8,.call [(true,.any)] true (Zem (at_ (at_ ik.Strokes t8.toNat).Points 0))),(16,.call [(true,.any)] true (Zem (at_ (at_ ik.Strokes ((t8-1).toNat)).Points ((at_ ik.Strokes ((t8-1).toNat)).Points.length-1)))),(18,.dec false)] [1,6,7,8,33] [1] [Con Tryd.prog 23 [.agg [Zaq false ((at_ ik.Strokes t8.toNat).Points)]] true (Bv true)∧True,_,_∧True,inR .i64 (t8-1),(0:Int)≤(t8-1)∧(t8-1)<(ik.Strokes.length:Int),_∧True,_] hB ⟨⟨(Zbd h2 (Zep (at_ ik.Strokes t8.toNat))),trivial⟩,h3,⟨(Zmn (at_ ik.Strokes t8.toNat) (by first|assumption|exact Zjd (hall0 _ om))),trivial⟩,(Zad om om),⟨om,om⟩,⟨(Zqp (at_ ik.Strokes ((t8-1).toNat)) (by first|assumption|exact Zjd (hall0 _ om))),trivial⟩,h4,trivial⟩ (Zaf (Zdm (Zbu (Zfn 1 (Zaf ?_)))))
     refine Zit [] [1,6,7,8] [1] [.ref 1 0,Zaj false ik.Strokes,I (ik.Strokes.length:Int),I (t8+1)] [some (.box [Zaj false ik.Strokes])] [inR .i64 (t8+1)] hB ⟨(Zad om om),trivial⟩ ?_
     exact Zfo _ om ⟨(t8+1),rfl,om,(by intro j hj;by_cases ej:j=t8.toNat;(subst ej;first|assumption|exact hok);exact hall0 j om),rfl⟩
    have hok:=Zxu h2 hi0.1 h3
    refine Zdk [(1,.call [(true,.any)] true (Bv true)),(5,.dec false)] [1,6,7,8,33] [1] [Con Tryd.prog 23 [.agg [Zaq false ((at_ ik.Strokes t8.toNat).Points)]] true (Bv true)∧True,_] hB ⟨⟨(Zbd h2 (Zep (at_ ik.Strokes t8.toNat))),trivial⟩,h3,trivial⟩ (Zaf (Zdm (Zbu (Zfn 1 (Zaf ?_)))))
    refine Zit [] [1,6,7,8] [1] [.ref 1 0,Zaj false ik.Strokes,I (ik.Strokes.length:Int),I (t8+1)] [some (.box [Zaj false ik.Strokes])] [inR .i64 (t8+1)] hB ⟨(Zad om om),trivial⟩ ?_
    exact Zfo _ om ⟨(t8+1),rfl,om,(by intro j hj;by_cases ej:j=t8.toNat;(subst ej;first|assumption|exact hok);exact hall0 j om),rfl⟩
   have hall:Zqr ik.Strokes.length (Zqm ik.Strokes)=false:=Zjz hi (okSA_bad (by simpa using h2))
   refine Zdk [(1,.call [(true,.any)] true (Bv false))] [1,6,7,8,33] [1] [Con Tryd.prog 23 [.agg [Zaq false ((at_ ik.Strokes t8.toNat).Points)]] true (Bv false)∧True] hB ⟨⟨(Zbd h2 (Zep (at_ ik.Strokes t8.toNat))),trivial⟩,trivial⟩ (Zaf (Zdr ?_))
   refine aR [] [2] [] [Bv false] [] [] hB trivial (Zat ?_)
   refine Zcj (Zak (Zak (Zcj (Zak ?_))))
   refine Zau hB (Bv false) (by kernel_rfl) (.inl (by first|rfl|(refine congrArg Bv ?_;simp [Zbg, *];done)|(refine congrArg Bv ?_;simp [Zbg, *];omega)|(refine congrArg Bv ?_;simp_all [Zbg];done)|(refine congrArg Bv ?_;simp_all [Zbg];omega))) rfl (fun _=>trivial)
  have hall:Zqr ik.Strokes.length (Zqm ik.Strokes)=true:=Zok (fun j hj=>hall0 j om)
  refine Zdk [(0,.dec false)] [1,6,7,8,9] [1] [_] hB ⟨h1,trivial⟩ (Zaf (Zan (Zdm (Zgg (Zbo (Zbo (Zcq (Zaf ?_))))))))
  refine aR [] [2] [] [Bv (decide ((ik.Strokes.length:Int)≤16))] [] [] hB trivial (Zat ?_)
  refine Zau hB (Bv (decide ((ik.Strokes.length:Int)≤16))) (by kernel_rfl) (.inl (by first|rfl|(refine congrArg Bv ?_;simp [Zbg, *];done)|(refine congrArg Bv ?_;simp [Zbg, *];omega)|(refine congrArg Bv ?_;simp_all [Zbg];done)|(refine congrArg Bv ?_;simp_all [Zbg];omega))) rfl (fun _=>trivial)
def Zgt (xs:List Int):ByteArray:=⟨(xs.map fun n=>UInt8.ofNat n.toNat).toArray⟩
theorem Zbk (xs:List Int):(Zgt xs).size=xs.length:=by simp [Zgt,ByteArray.size]
theorem Zjc {xs:List Int} {i:Nat} (h:i<xs.length) (hb:0≤at_ xs i∧at_ xs i≤255):bAt (Zgt xs) i=at_ xs i:=by
 have e:(Zgt xs).data.toList[i]? =some (UInt8.ofNat (at_ xs i).toNat):=by simp [Zgt,at_,List.getElem?_eq_getElem h]
 rw [bAt,List.getD_eq_getElem?_getD,e]
 simp
 omega
theorem Ztj {xs:List Int} (h:∀x∈xs,0≤x∧x≤255) {n:Nat} {f:Nat→List AV} (hn:n=xs.length) (hf:∀i,i<xs.length→f i=fU8 xs i∨False):(Zgt xs).size=n∧∀i,i<n→f i=Zfi (Zgt xs) i:=by
 subst hn
 refine ⟨Zbk xs,fun i hi=> ?_⟩
 rw [(hf i hi).resolve_right id]
 unfold Zfi
 rw [Zjc hi (h _ (Zdf hi))]
 rfl
theorem Zxk {xs:List Int} (h:∀x∈xs,0≤x∧x≤255):(Zgt xs).size=xs.length∧∀i,i<xs.length→fU8 xs i=Zfi (Zgt xs) i:=Ztj h rfl fun i _=> .inl rfl
def bytesL (s:ByteArray):List Int:=s.data.toList.map fun b=>(b.toNat:Int)
@[simp] theorem bytesL_len (s : ByteArray) : (bytesL s).length = s.size := by unfold bytesL; rw [List.length_map, Array.length_toList]; rfl
def Zrw (s t:ByteArray):ByteArray:=⟨(Lib.trimS s.data.toList t.data.toList).toArray⟩
theorem Zfc {α:Type} {p:α→Bool} :∀ {l:List α},l.dropWhile p=[]↔∀x∈l,p x=true
 | []=>by simp
 |x::l=>by
  rw [List.dropWhile_cons]
  cases h:p x with
  |true=>simp only [if_true];rw [Zfc];simp [h]
  |false=>simp [h]
theorem Zhu {α:Type} {p:α→Bool} :∀ {l:List α} {x:α} {r:List α},l.dropWhile p=x::r→p x=false
 | [],_,_,h=>by simp at h
 |y::l,x,r,h=>by
  rw [List.dropWhile_cons] at h
  cases hp:p y with
  |true=>rw [hp] at h;exact Zhu h
  |false=>rw [hp] at h;simp at h;rw [←h.1];exact hp
theorem Zqq {l cs:List UInt8} :Lib.trimS l cs=[]↔∀x∈l,cs.contains x=true:=by
 unfold Lib.trimS Lib.trimLeftS Lib.trimRightS
 constructor
 ·intro h
  rw [Zfc] at h
  cases e:l.reverse.dropWhile (cs.contains ·) with
  |nil=>rw [Zfc] at e;intro x hx;exact e x (by simpa using hx)
  |cons x r=>
   have h1:=Zhu e
   have h2:=h x (by rw [e];simp)
   rw [h2] at h1;cases h1
 ·intro h
  have e:l.reverse.dropWhile (cs.contains ·)=[]:=Zfc.2 fun x hx=>h x (by simpa using hx)
  rw [e];rfl
theorem allB_iff {s:ByteArray} {p:Int→Bool} :Zqr s.size (fun j=>p (bAt s j))=true↔∀x∈s.data.toList,p x.toNat=true:=by
 rw [Zhl]
 have hl:s.size=s.data.toList.length:=by rw [Array.length_toList];rfl
 constructor
 ·intro h x hx
  obtain ⟨i,hi,rfl⟩:=List.getElem_of_mem hx
  have:=h i om
  rw [bAt,List.getD_eq_getElem?_getD,List.getElem?_eq_getElem hi] at this
  exact this
 ·intro h j hj
  rw [bAt,List.getD_eq_getElem?_getD,List.getElem?_eq_getElem om]
  exact h _ (List.getElem_mem _)
theorem Zth {T:ByteArray} {p:Int→Bool} (hT:∀x:UInt8,T.data.toList.contains x=p x.toNat) (s:ByteArray):Zrw s T=⟨#[]⟩↔Zqr s.size (fun j=>p (bAt s j))=true:=by
 rw [allB_iff]
 constructor
 ·intro h x hx
  have h':Lib.trimS s.data.toList T.data.toList=[]:=by
   have:=congrArg (fun b=>b.data.toList) h
   simpa [Zrw] using this
  rw [←hT]
  exact Zqq.1 h' x hx
 ·intro h
  have:Lib.trimS s.data.toList T.data.toList=[]:=Zqq.2 fun x hx=>by rw [hT];exact h x hx
  unfold Zrw
  rw [this]
theorem Zlc {n r:Int} (h:0≤n) (hr:0<r):0≤n/r∧n/r≤n:=⟨Int.ediv_nonneg h om,Int.ediv_le_self _ h⟩
theorem Zxo (n d:Int):((Int.tdiv n d).natAbs:Int)≤(n.natAbs:Int):=by
 rw [Int.natAbs_tdiv]
 exact Int.ofNat_le.2 (Nat.div_le_self _ _)
theorem Zon {s:ByteArray} {i:Nat} (h:i<s.size):bAt s i=(s.data.toList[i]'(by rw [Array.length_toList];exact h)).toNat:=by
 unfold bAt
 rw [List.getD_eq_getElem?_getD,List.getElem?_eq_getElem (by rw [Array.length_toList];exact h)]
 rfl
theorem Zcx {a b:ByteArray} {i:Nat} (h:i<a.size):bAt (a++b) i=bAt a i:=by
 unfold bAt
 have e:(a++b).data.toList=a.data.toList++b.data.toList:=by simp [ByteArray.data_append]
 rw [e,List.getD_eq_getElem?_getD,List.getD_eq_getElem?_getD,List.getElem?_append_left (by rw [Array.length_toList];exact h)]
theorem Zda {a b:ByteArray} {i:Nat} (h:a.size≤i):bAt (a++b) i=bAt b (i-a.size):=by
 unfold bAt
 have e:(a++b).data.toList=a.data.toList++b.data.toList:=by simp [ByteArray.data_append]
 have hl:a.data.toList.length=a.size:=by rw [Array.length_toList];rfl
 rw [e,List.getD_eq_getElem?_getD,List.getD_eq_getElem?_getD,List.getElem?_append_right om,hl]
theorem Zkb {s:ByteArray} {a i:Nat} (h:a+i<s.size):bAt (s.extract a s.size) i=bAt s (a+i):=by
 unfold bAt
 have hl:s.data.toList.length=s.size:=by rw [Array.length_toList];rfl
 have e:(s.extract a s.size).data.toList=s.data.toList.drop a:=by
  rw [ByteArray.data_extract,Array.toList_extract]
  simp only [List.extract_eq_take_drop]
  rw [List.take_of_length_le (by simp)]
 rw [e,List.getD_eq_getElem?_getD,List.getD_eq_getElem?_getD,List.getElem?_drop]
theorem Zew (s:ByteArray) (i:Nat):0≤bAt s i∧bAt s i≤255:=by
 unfold bAt
 have:=(s.data.toList.getD i 0).toNat_lt
 omega
def nbL (n:Int) (w:Nat):List Int:=(List.range w).map fun j=>48+(n/((2^(w-1-j):Nat):Int)) % 2
theorem Zli (n:Int) (w:Nat):(nbL n w).length=w:=by simp [nbL]
theorem nbL_at {n:Int} {w j:Nat} (h:j<w):at_ (nbL n w) j=48+(n/((2^(w-1-j):Nat):Int)) % 2:=by simp [at_,nbL,h]
theorem nbL_bd {n x:Int} {w:Nat} (h:x∈nbL n w):48≤x∧x≤49:=by
 simp only [nbL,List.mem_map] at h
 obtain ⟨j,_,rfl⟩:=h
 omega
def Zci (n w:Int):ByteArray:=Zgt (nbL n w.toNat)
theorem Zbe (n w:Int):(Zci n w).size=w.toNat:=by unfold Zci;rw [Zbk,Zli]
theorem Zjb {n w:Int} {j:Nat} (h:j<w.toNat):bAt (Zci n w) j=48+(n/((2^(w.toNat-1-j):Nat):Int)) % 2:=by
 unfold Zci
 have hl:j<(nbL n w.toNat).length:=by rw [Zli];exact h
 rw [Zjc hl (by have:=nbL_bd (Zdf hl);omega),nbL_at h]
def rdN (s:ByteArray):Nat→Int
 |0=>0
 |k+1=>2*rdN s k+(bAt s k-48)
termination_by k=>k
theorem Zjm {s:ByteArray} :∀ {k:Nat},(∀j,j<k→bAt s j=48∨bAt s j=49)→0≤rdN s k∧rdN s k<((2^k:Nat):Int)
 |0,_=>by simp [rdN]
 |k+1,h=>by
  have ih:=Zjm (k:=k) fun j hj=>h j om
  have:=h k om
  rw [rdN,Nat.pow_succ]
  omega
theorem p2 (m:Nat):0<((2^m:Nat):Int):=Int.ofNat_lt.2 (Nat.two_pow_pos m)
theorem div_half (n:Int) (m:Nat):n/((2^(m+1):Nat):Int)=(n/((2^m:Nat):Int))/2:=by
 rw [Nat.pow_succ,Int.natCast_mul,Int.ediv_ediv_of_nonneg (Int.le_of_lt (p2 m))]
 rfl
theorem Zrp {s:ByteArray} {n:Int} {w:Nat} (h:∀j,j<w→bAt s j=48+(n/((2^(w-1-j):Nat):Int)) % 2) (h0:0≤n) (h1:n<((2^w:Nat):Int)):rdN s w=n:=by
 have key:∀k,k≤w→rdN s k=n/((2^(w-k):Nat):Int):=by
  intro k
  induction k with
  |zero=>intro _;rw [rdN,Nat.sub_zero,Int.ediv_eq_zero_of_lt h0 h1]
  |succ k ih=>
   intro hk
   rw [rdN,ih om,h k om]
   have e1:w-k=(w-1-k)+1:=by omega
   have e2:w-(k+1)=w-1-k:=by omega
   rw [e1,e2,div_half]
   omega
 have:=key w (Nat.le_refl _)
 rw [this];simp
def Zbm (n:Int):Int:=if n<0 then-2*n-1 else 2*n
def Zap (u:Int):Int:=if u % 2=1 then Int.tdiv (-(u+1)) 2 else u/2
theorem Zlj (n:Int):Zap (Zbm n)=n:=by
 unfold Zap Zbm
 split
 ·rename_i h
  rw [if_pos om]
  have e:-(-2*n-1+1)=2*n:=by omega
  rw [e];exact Int.mul_tdiv_cancel_left _ (by decide)
 ·rw [if_neg om];omega
theorem Zlb {n B:Int} (h:-B≤n∧n≤B):0≤Zbm n∧Zbm n≤2*B:=by unfold Zbm;split<;>omega
def Zle (q:Int):ByteArray:=Zgt (List.replicate q.toNat 49)
theorem Zby (q:Int):(Zle q).size=q.toNat:=by unfold Zle;rw [Zbk];simp
theorem Zoo {q:Int} {j:Nat} (h:j<q.toNat):bAt (Zle q) j=49:=by
 unfold Zle
 have e:at_ (List.replicate q.toNat (49:Int)) j=49:=by simp [at_,List.getElem?_replicate,h]
 rw [Zjc (by simpa using h) (by rw [e];decide),e]
def Zch (n k:Int):ByteArray:=
 if Zbm n/((2^k.toNat:Nat):Int)<20 then Zle (Zbm n/((2^k.toNat:Nat):Int))++⟨#[48]⟩++Zci (Zbm n % ((2^k.toNat:Nat):Int)) k else Zle 20++Zci (Zbm n) 32
def Zdp (s:ByteArray):Nat→Nat→Nat
 |_,0=>0
 |p,f+1=>if p<s.size∧bAt s p=49 then 1+Zdp s (p+1) f else 0
termination_by _ f=>f
theorem Zop {s:ByteArray} :∀ {f q p:Nat},(∀j,j<q→p+j<s.size∧bAt s (p+j)=49)→(q<f→p+q<s.size→bAt s (p+q)≠49)→q≤f→Zdp s p f=q
  | 0, q, p, _, _, hq => by have : q = 0 := by omega
                            subst this;rw [Zdp]
  |f+1,0,p,_,h2,_=>by
    unfold Zdp
    rw [if_neg]
    rintro ⟨a,b⟩
    exact h2 om (by simpa using a) (by simpa using b)
  |f+1,q+1,p,h1,h2,hq=>by
    unfold Zdp
    have:=h1 0 om
    rw [if_pos (by simpa using this),Zop (f:=f) (q:=q) (p:=p+1) (fun j hj=>by
      have:=h1 (j+1) om
      rw [show p+1+j=p+(j+1) by omega];exact this) (fun h3 h4=>by
      have:=h2 om om
      rw [show p+1+q=p+(q+1) by omega];exact this) om]
    omega
def Zjq (n:Int):Bool:=decide (-1000000000≤n∧n≤1000000000)
def Zbz (s:ByteArray) (p k:Int):Int×Int×Int:=
 if Zdp s p.toNat 20=20 then
  (if (s.size:Int)-(p+20)<32 then (0,0,9) else
   if Zjq (Zap (rdN (s.extract (p+20).toNat s.size) 32))=true∧¬ rdN (s.extract (p+20).toNat s.size) 32/((2^k.toNat:Nat):Int)<20 then (Zap (rdN (s.extract (p+20).toNat s.size) 32),p+20+32,0) else (0,0,8))
 else if (s.size:Int)-(p+(Zdp s p.toNat 20:Int))<1+k then (0,0,9) else
  (Zap ((Zdp s p.toNat 20:Int)*((2^k.toNat:Nat):Int)+rdN (s.extract (p+(Zdp s p.toNat 20:Int)+1).toNat s.size) k.toNat),p+(Zdp s p.toNat 20:Int)+1+k,0)
theorem Zmk {n k:Int} (hn:-1000000000≤n∧n≤1000000000) (hk:0≤k):((Zch n k).size:Int)=if Zbm n/((2^k.toNat:Nat):Int)<20 then Zbm n/((2^k.toNat:Nat):Int)+1+k else 52:=by
 have hf:=Zlb hn
 have hq:0≤Zbm n/((2^k.toNat:Nat):Int):=Int.ediv_nonneg hf.1 (Int.le_of_lt (p2 _))
 have h1:(⟨#[48]⟩:ByteArray).size=1:=rfl
 unfold Zch
 split
 ·rw [ByteArray.size_append,ByteArray.size_append,Zby,Zbe,h1];omega
 ·rw [ByteArray.size_append,Zby,Zbe];decide
theorem Zxc {s:ByteArray} {p k n:Int} (hp:0≤p) (hk:0≤k) (hn:-1000000000≤n∧n≤1000000000) (hs:p+((Zch n k).size:Int)≤(s.size:Int))
  (hb:∀j,j<(Zch n k).size→bAt s (p.toNat+j)=bAt (Zch n k) j):Zbz s p k=(n,p+((Zch n k).size:Int),0):=by
 have hf:=Zlb hn
 have hsz:=Zmk hn hk
 have h2k:0<((2^k.toNat:Nat):Int):=p2 _
 have hq0:0≤Zbm n/((2^k.toNat:Nat):Int):=Int.ediv_nonneg hf.1 (Int.le_of_lt (p2 _))
 have hdm:=Int.mul_ediv_add_emod (Zbm n) ((2^k.toNat:Nat):Int)
 have hm0:=Int.emod_nonneg (Zbm n) (b:=((2^k.toNat:Nat):Int)) (Int.ne_of_gt (p2 _))
 have hm1:=Int.emod_lt_of_pos (Zbm n) h2k
 have h1:(⟨#[48]⟩:ByteArray).size=1:=rfl
 by_cases hc:Zbm n/((2^k.toNat:Nat):Int)<20
 ·rw [if_pos hc] at hsz
  have hR:Zch n k=Zle (Zbm n/((2^k.toNat:Nat):Int))++⟨#[48]⟩++Zci (Zbm n % ((2^k.toNat:Nat):Int)) k:=if_pos hc
  generalize hq:Zbm n/((2^k.toNat:Nat):Int)=q at*
  generalize hr:Zbm n % ((2^k.toNat:Nat):Int)=r at*
  have hb1:∀j,j<q.toNat→bAt (Zch n k) j=49:=fun j hj=>by
   rw [hR,Zcx (by rw [ByteArray.size_append,Zby];omega),Zcx (by rw [Zby];exact hj),Zoo hj]
  have hb2:bAt (Zch n k) q.toNat=48:=by
   rw [hR,Zcx (by rw [ByteArray.size_append,Zby,h1];omega),Zda (by rw [Zby];omega),Zby,Nat.sub_self];rfl
  have hb3:∀j,j<k.toNat→bAt (Zch n k) (q.toNat+1+j)=48+(r/((2^(k.toNat-1-j):Nat):Int)) % 2:=fun j hj=>by
   rw [hR,Zda (by rw [ByteArray.size_append,Zby,h1];omega),ByteArray.size_append,Zby,h1,show q.toNat+1+j-(q.toNat+1)=j by omega,Zjb hj]
  have ho:Zdp s p.toNat 20=q.toNat:=Zop (fun j hj=>⟨by omega,by rw [hb j om,hb1 j hj]⟩) (fun _ _=>by rw [hb q.toNat om,hb2];decide) om
  unfold Zbz
  rw [ho,if_neg om,if_neg om]
  have hrd:rdN (s.extract (p+(q.toNat:Int)+1).toNat s.size) k.toNat=r:=Zrp (fun j hj=>by
   rw [Zkb om,show (p+(q.toNat:Int)+1).toNat+j=p.toNat+(q.toNat+1+j) by omega,hb _ om,hb3 j hj]) hm0 hm1
  rw [hrd]
  have e:(q.toNat:Int)*((2^k.toNat:Nat):Int)+r=Zbm n:=by
   rw [show (q.toNat:Int)=q by omega,Int.mul_comm];exact hdm
  rw [e,Zlj]
  refine Prod.ext rfl (Prod.ext ?_ rfl)
  simp only;omega
 ·rw [if_neg hc] at hsz
  have hR:Zch n k=Zle 20++Zci (Zbm n) 32:=if_neg hc
  have hb1:∀j,j<20→bAt (Zch n k) j=49:=fun j hj=>by
   rw [hR,Zcx (by rw [Zby];exact hj),Zoo hj]
  have hb3:∀j,j<32→bAt (Zch n k) (20+j)=48+(Zbm n/((2^(32-1-j):Nat):Int)) % 2:=fun j hj=>by
   rw [hR,Zda (by rw [Zby];show 20≤_;omega),Zby,show 20+j-(20:Int).toNat=j by show 20+j-20=j;omega,Zjb (by exact hj)];rfl
  have ho:Zdp s p.toNat 20=20:=Zop (fun j hj=>⟨by omega,by rw [hb j om,hb1 j hj]⟩) (fun h _=>by omega) om
  unfold Zbz
  rw [ho,if_pos rfl,if_neg om]
  have hrd:rdN (s.extract (p+20).toNat s.size) 32=Zbm n:=Zrp (fun j hj=>by
   rw [Zkb om,show (p+20).toNat+j=p.toNat+(20+j) by omega,hb _ om,hb3 j hj]) hf.1 (by show Zbm n<4294967296;omega)
  rw [hrd,Zlj,if_pos ⟨by simp [Zjq];omega,hc⟩]
  refine Prod.ext rfl (Prod.ext ?_ rfl)
  simp only;omega
def bitB (n:Int):Bool:=decide (n=48∨n=49)
theorem Zui {n k:Int} {j:Nat} (h:j<(Zch n k).size):bAt (Zch n k) j=48∨bAt (Zch n k) j=49:=by
 have h1:(⟨#[48]⟩:ByteArray).size=1:=rfl
 have hnum:∀ {a w:Int} {i:Nat},i<(Zci a w).size→bAt (Zci a w) i=48∨bAt (Zci a w) i=49:=fun {a w i} hi=>by
  rw [Zjb (by rw [Zbe] at hi;exact hi)];omega
 unfold Zch at*
 split at h
 ·rename_i hc
  rw [if_pos hc]
  rw [ByteArray.size_append,ByteArray.size_append,h1] at h
  by_cases e:j<(Zle (Zbm n/((2^k.toNat:Nat):Int))).size
  ·rw [Zcx (by rw [ByteArray.size_append];omega),Zcx e,Zoo (by rw [Zby] at e;exact e)];exact .inr rfl
  ·by_cases e2:j=(Zle (Zbm n/((2^k.toNat:Nat):Int))).size
   ·rw [Zcx (by rw [ByteArray.size_append,h1];omega),Zda om,e2,Nat.sub_self];exact .inl rfl
   ·rw [Zda (by rw [ByteArray.size_append,h1];omega),ByteArray.size_append,h1];exact hnum om
 ·rename_i hc
  rw [if_neg hc]
  rw [ByteArray.size_append] at h
  by_cases e:j<(Zle 20).size
  ·rw [Zcx e,Zoo (by rw [Zby] at e;exact e)];exact .inr rfl
  ·rw [Zda om];exact hnum om
theorem Ztg {u:Int} {k:Nat} (h0:0≤u) (h1:u<9223372036854775808) (hk:k≤40):Zck .and .i64 u (1*((2^k:Nat):Int)-1)=u % ((2^k:Nat):Int):=by
 have hp:=p2 k
 have hle:2^k≤2^40:=Nat.pow_le_pow_right (by decide) hk
 have hle':((2^k:Nat):Int)≤1099511627776:=Int.ofNat_le.2 hle
 have e1:(BitVec.ofInt 64 u).toNat=u.toNat:=by rw [BitVec.toNat_ofInt];omega
 have e2:(BitVec.ofInt 64 (1*((2^k:Nat):Int)-1)).toNat=2^k-1:=by
  rw [BitVec.toNat_ofInt,Int.one_mul,Int.emod_eq_of_lt om (by show _<(18446744073709551616:Int);omega)]
  omega
 have e:Zck .and .i64 u (1*((2^k:Nat):Int)-1)=IntKind.i64.wrap (((BitVec.ofInt 64 u&&&BitVec.ofInt 64 (1*((2^k:Nat):Int)-1)).toNat:Nat):Int):=rfl
 rw [e,BitVec.toNat_and,e1,e2,Nat.and_two_pow_sub_one_eq_mod]
 have hm:((u.toNat % 2^k:Nat):Int)=u % ((2^k:Nat):Int):=by
  rw [Int.natCast_emod]
  congr 1
  omega
 rw [hm]
 have a1:=Int.emod_nonneg u (b:=((2^k:Nat):Int)) om
 have a2:=Int.emod_lt_of_pos u hp
 exact Zft (Zad om om)
theorem and_one {u:Int} (h0:0≤u) (h1:u<9223372036854775808):Zck .and .i64 u 1=u % 2:=Ztg (k:=1) h0 h1 (by decide)
theorem Zxp {n:Int} :Zjq n=true↔-1000000000≤n∧n≤1000000000:=by simp [Zjq]
theorem Zlf {u:Int} (h:0≤u∧u≤4294967296000):-4294967296000≤Zap u∧Zap u≤4294967296000:=by
 unfold Zap
 split
 ·have:=Zxo (-(u+1)) 2
  omega
 ·omega
def Zdn (s:ByteArray):Bool:=decide ((s.size:Int)≤100000)&&Zqr s.size (fun j=>bitB (bAt s j))
theorem Zcy {s:ByteArray} :Zdn s=true↔(s.size:Int)≤100000∧∀j,j<s.size→bAt s j=48∨bAt s j=49:=by
 simp only [Zdn,Bool.and_eq_true,decide_eq_true_eq,Zhl,bitB]
theorem Zti (x:UInt8):(⟨#[48,49]⟩:ByteArray).data.toList.contains x=bitB x.toNat:=by
 rw [Bool.eq_iff_iff]
 simp only [bitB,decide_eq_true_eq]
 simp
 constructor
 ·rintro (h|h)<;>subst h<;>decide
 ·intro h
  have h':x.toNat=48∨x.toNat=49:=by omega
  rcases h' with h|h
  ·exact .inl (UInt8.toNat_inj.1 h)
  ·exact .inr (UInt8.toNat_inj.1 h)
theorem Zuk (c:Nat):(⟨(Lib.repeatL (⟨#[49]⟩:ByteArray).data.toList c).toArray⟩:ByteArray)=Zle (c:Int):=by
 unfold Zle Zgt
 have:Lib.repeatL [49] c=(List.replicate c (49:Int)).map fun n=>UInt8.ofNat n.toNat:=by
  induction c with
  |zero=>rfl
  |succ c ih=>rw [Lib.repeatL,ih,List.replicate_succ];rfl
 show (⟨(Lib.repeatL [49] c).toArray⟩:ByteArray)=_
 rw [this];simp
theorem Zcs (n:Int) (width:Int) (hn:0≤n∧n≤1099511627776) (hw:0≤width∧width≤40):Con Tryd.prog 27 [I n,I width] true (Sv (Zci n width)):=by
  refine Zej (fn:=Tryd.f27) (nt:=29) Tryd.func27 rfl rfl rfl rfl (by simp [Zae,Zah]) fun B hB=> ?_
  refine aQ [] [0,1] [] [] hB trivial ?_
  refine aQ [(1,.new 8)] [0,1,5] [8] [(0:Int)≤width∧(width:Int)≤width∧(1:Int)*width≤281474976710656∧width≤9223372036854775807] hB ⟨⟨om,om,om,om⟩,trivial⟩ (Zan ?_)
  refine aR [] [0,1,5,10,11] [8] [I n,I width,.arr 8,I (width.toNat:Int),I 0] [some (.arr 1 width.toNat (fun _=>[.val (.int .u8 0)]))] [] hB trivial (Zdi ?_)
  refine Zvh hB [] (T:=[(0,I n),(1,I width),(5,.arr 8),(10,I (width.toNat:Int)),(11,I 0)]) (O:=[(8,tAU8 (List.replicate width.toNat 0))]) rfl (⟨.inl rfl,.inl rfl,.inl rfl,.inl rfl,.inl rfl,trivial⟩) (⟨.inr ⟨rfl,(by first|rfl|(simp;done)|(simp;omega)|omega),fun i_ hi_=> .inl (Zpk (enc:=cU8) rfl i_ hi_)⟩,trivial⟩) ?_
  refine Zhw (fun gn gσ=>∃(t11:Int) (ys:List Int),gn=(width-t11).toNat∧(0≤t11∧t11≤width)∧(ys.length=width.toNat)∧(∀j:Nat,(j:Int)<t11→at_ ys j=at_ (nbL n width.toNat) j)∧gσ=mkS [(0,I n),(1,I width),(5,.arr 8),(10,I (width.toNat:Int)),(11,I t11)] [(8,tAU8 ys)]) ((width-0).toNat) ⟨0,(List.replicate width.toNat 0),rfl,om,(by simp),(by intro j hj;omega),rfl⟩ (fun gn gσ hI=> ?_)
  obtain ⟨t11,ys,rfl,hi0,hy0,hy1,rfl⟩:=hI
  refine Zan ?_
  by_cases h1:t11<(width.toNat:Int)
  ·have hi:t11.toNat<ys.length:=by omega
   have hdv:=Zlc (n:=n) (r:=((2^((width-1)-t11).toNat:Nat):Int)) hn.1 (p2 _)
   have hbi:=and_one (u:=n/((2^((width-1)-t11).toNat:Nat):Int)) hdv.1 om
   have hv:48+Zck .and .i64 (n/((2^((width-1)-t11).toNat:Nat):Int)) 1=at_ (nbL n width.toNat) t11.toNat:=by rw [nbL_at om,hbi,show ((width-1)-t11).toNat=width.toNat-1-t11.toNat by omega]
   refine Zdk [(0,.dec true)] [0,1,5,10,11,12] [8] [_] hB ⟨h1,trivial⟩ (Zaf (Zan (Zdr (Zbu (Zaf (Zan (Zdi ?_)))))))
   refine aQ [] [0,1,5,6,10,11] [8] [] hB trivial ?_
   refine Zdk [] [0,1,5,10,11] [8] [inR .i64 (width-1),inR .i64 ((width-1)-t11),(0:Int)≤((width-1)-t11)∧((width-1)-t11)≤((IntKind.bits .i64:Nat):Int),inR .i64 (48+(Zck .and .i64 (n/((2^((width-1)-t11).toNat:Nat):Int)) 1)),inR .u8 (48+(Zck .and .i64 (n/((2^((width-1)-t11).toNat:Nat):Int)) 1)),(0:Int)≤t11∧t11<(ys.length:Int),t11.toNat<ys.length] hB ⟨(Zad om om),(Zad om om),⟨om,(show ((width-1)-t11)≤(64:Int) from by omega)⟩,(Zad om om),(Zvg om om),⟨om,om⟩,om,trivial⟩ (Zfn 1 (Zaf ?_))
   refine Zit [] [0,1,5,10,11] [8] [I n,I width,.arr 8,I (width.toNat:Int),I (t11+1)] [some (.arr 1 ys.length (fun q=>bif Nat.beq q t11.toNat then [.val (.int .u8 (48+(Zck .and .i64 (n/((2^((width-1)-t11).toNat:Nat):Int)) 1)))] else (fU8 ys) q))] [inR .i64 (t11+1)] hB ⟨(Zad om om),trivial⟩ ?_
   refine Zvi hB [] (T:=[(0,I n),(1,I width),(5,.arr 8),(10,I (width.toNat:Int)),(11,I (t11+1))]) (O:=[(8,tAU8 (ys.set t11.toNat (48+(Zck .and .i64 (n/((2^((width-1)-t11).toNat:Nat):Int)) 1))))]) rfl (⟨.inl rfl,.inl rfl,.inl rfl,.inl rfl,.inl rfl,trivial⟩) (⟨.inr ⟨rfl,(by first|rfl|(simp;done)|(simp;omega)|omega),fun i_ hi_=> .inl (Zvl (enc:=cU8) rfl i_ hi_)⟩,trivial⟩) (Zfo _ om ⟨(t11+1),(ys.set t11.toNat (48+(Zck .and .i64 (n/((2^((width-1)-t11).toNat:Nat):Int)) 1))),rfl,om,(by simp [hy0]),(by intro j hj;rw [hv];exact set_at (by rw [hy0,Zli]) (by rw [Zli];omega) hy1 j om),rfl⟩)
  obtain rfl:ys=nbL n width.toNat:=ext_at (by rw [hy0,Zli]) (fun j hj=>hy1 j om)
  refine Zdk [(0,.dec false)] [0,1,5,10,11,12] [8] [_] hB ⟨h1,trivial⟩ (Zaf (Zan (Zdm (Zgg (Zbo (Zbo (Zcq (Zaf ?_))))))))
  refine aR [(1,.as (Sv (Zgt (nbL n width.toNat))))] [4] [] [Sv (Zgt (nbL n width.toNat))] [] [(Zgt (nbL n width.toNat)).size=(nbL n width.toNat).length∧∀i_,i_<(nbL n width.toNat).length→(fU8 (nbL n width.toNat)) i_=Zfi (Zgt (nbL n width.toNat)) i_] hB ⟨(Zxk (fun x hx=>by have:=nbL_bd hx;omega)),trivial⟩ (Zat ?_)
  refine Zau hB (Sv (Zgt (nbL n width.toNat))) (by kernel_rfl) (.inl (by first|rfl|(refine congrArg Bv ?_;simp [*];done)|(refine congrArg Bv ?_;simp [*];omega)|(refine congrArg Bv ?_;simp_all [];done)|(refine congrArg Bv ?_;simp_all [];omega))) rfl (fun _=>trivial)
theorem Zct (s:ByteArray) (a b:Nat):(s.extract a b).size=min b s.size-a:=by simp [ByteArray.size_extract]
theorem Zuo {s:ByteArray} {p f:Nat} (h:p<s.size) (h2:bAt s p=49):Zdp s p (f+1)=1+Zdp s (p+1) f:=by rw [Zdp,if_pos ⟨h,h2⟩]
theorem Zmm {s:ByteArray} {p f:Nat} (h:¬ (p<s.size∧bAt s p=49)):Zdp s p f=0:=by
 cases f with
 |zero=>rw [Zdp]
 |succ f=>rw [Zdp,if_neg h]
theorem Zfs {s:ByteArray} (h:Zdn s=true) {a w:Nat} (haw:a+w≤s.size) (j:Nat) (hj:j<w):bAt (s.extract a s.size) j=48∨bAt (s.extract a s.size) j=49:=by
 rw [Zkb om]
 exact (Zcy.1 h).2 _ om
theorem Zoj {o k:Int} (h:0≤o∧o≤20) (hk:0≤k∧k≤12):0≤o*((2^k.toNat:Nat):Int)∧o*((2^k.toNat:Nat):Int)≤81920:=by
 have hp12:((2^k.toNat:Nat):Int)≤4096:=Int.ofNat_le.2 (Nat.pow_le_pow_right (by decide) (by omega:k.toNat≤12))
 have hp:=p2 k.toNat
 exact ⟨Int.mul_nonneg h.1 om,Int.le_trans (Int.mul_le_mul h.2 hp12 om om) (by decide)⟩
section
variable {s : ByteArray} {p k o : Int}
theorem Zov (ho:Zdp s p.toNat 20=o.toNat) (h0:0≤o∧o≤20) (h1:¬ o=20) (h:(s.size:Int)-(p+o)<1+k):Zbz s p k=(0,0,9):=by
 unfold Zbz;rw [ho,show (o.toNat:Int)=o by omega,if_neg om,if_pos h]
theorem Zow (ho:Zdp s p.toNat 20=o.toNat) (h0:0≤o∧o≤20) (h1:¬ o=20) (h:¬ (s.size:Int)-(p+o)<1+k):Zbz s p k=(Zap (o*((2^k.toNat:Nat):Int)+rdN (s.extract (p+o+1).toNat s.size) k.toNat),p+o+1+k,0):=by
 unfold Zbz;rw [ho,show (o.toNat:Int)=o by omega,if_neg om,if_neg h]
theorem Zeg (ho:Zdp s p.toNat 20=20) (h:(s.size:Int)-(p+20)<32):Zbz s p k=(0,0,9):=by
 unfold Zbz;rw [ho,if_pos rfl,if_pos h]
theorem Zei (ho:Zdp s p.toNat 20=20) (h:¬ (s.size:Int)-(p+20)<32) (h2:¬ (Zjq (Zap (rdN (s.extract (p+20).toNat s.size) 32))=true∧¬ rdN (s.extract (p+20).toNat s.size) 32/((2^k.toNat:Nat):Int)<20)):Zbz s p k=(0,0,8):=by
 unfold Zbz;rw [ho,if_pos rfl,if_neg h,if_neg h2]
theorem Zeh (ho:Zdp s p.toNat 20=20) (h:¬ (s.size:Int)-(p+20)<32) (h2:Zjq (Zap (rdN (s.extract (p+20).toNat s.size) 32))=true) (h3:¬ rdN (s.extract (p+20).toNat s.size) 32/((2^k.toNat:Nat):Int)<20):Zbz s p k=(Zap (rdN (s.extract (p+20).toNat s.size) 32),p+20+32,0):=by
 unfold Zbz;rw [ho,if_pos rfl,if_neg h,if_pos ⟨h2,h3⟩]
end
theorem Zut:∀x:Fin 256,∀r:Fin 8,((x.val/2^(7-r.val)) % 2=0→Zck .or .u8 (x.val:Int) ((128:Int)/((2^r.val:Nat):Int))=(x.val:Int)+((2^(7-r.val):Nat):Int)):=by decide+kernel
theorem or_bit {x:Int} (hx:0≤x∧x≤255) {r:Nat} (hr:r<8) (h:(x/((2^(7-r):Nat):Int)) % 2=0):Zck .or .u8 x ((128:Int)/((2^r:Nat):Int))=x+((2^(7-r):Nat):Int):=by
 obtain ⟨n,rfl⟩:∃n:Nat,x=(n:Int):=⟨x.toNat,by omega⟩
 have h2:(n/2^(7-r)) % 2=0:=by
  have:(((n/2^(7-r)) % 2:Nat):Int)=0:=by rw [Int.natCast_emod,Int.natCast_ediv];exact h
  omega
 exact Zut ⟨n,by omega⟩ ⟨r,hr⟩ h2
def Zor (x:Int) (i:Nat):Int:=(x/((2^(7-i):Nat):Int)) % 2
theorem Zsb:∀x:Fin 256,∀r i:Fin 8,(x.val/2^(7-r.val)) % 2=0→x.val+2^(7-r.val)<256∧((x.val+2^(7-r.val))/2^(7-i.val)) % 2=if i.val=r.val then 1 else (x.val/2^(7-i.val)) % 2:=by decide+kernel
theorem Zoq (n i:Nat):Zor (n:Int) i=(((n/2^(7-i)) % 2:Nat):Int):=by unfold Zor;rw [Int.natCast_emod,Int.natCast_ediv];rfl
theorem bit_add {x:Int} (hx:0≤x∧x≤255) {r:Nat} (hr:r<8) (h:Zor x r=0):(0≤x+((2^(7-r):Nat):Int)∧x+((2^(7-r):Nat):Int)≤255)∧∀i,i<8→Zor (x+((2^(7-r):Nat):Int)) i=if i=r then 1 else Zor x i:=by
 obtain ⟨n,rfl⟩:∃n:Nat,x=(n:Int):=⟨x.toNat,by omega⟩
 have h2:(n/2^(7-r)) % 2=0:=by rw [Zoq] at h;omega
 have q:=Zsb ⟨n,by omega⟩ ⟨r,hr⟩
 have q0:=(q ⟨0,by omega⟩ h2).1
 simp only at q0
 have e3:((n+2^(7-r):Nat):Int)=(n:Int)+((2^(7-r):Nat):Int):=Int.natCast_add _ _
 refine ⟨by rw [←e3];exact ⟨Int.natCast_nonneg _,Int.ofNat_le.2 (show n+2^(7-r)≤255 by omega)⟩,fun i hi=> ?_⟩
 have q1:=(q ⟨i,hi⟩ h2).2
 simp only at q1
 rw [←e3,Zoq,Zoq,q1]
 split<;>rfl
def Zum (bits:ByteArray) (k:Nat) (ys:List Int):Prop:=ys.length=(bits.size+7)/8∧∀j,j<ys.length→(0≤at_ ys j∧at_ ys j≤255)∧∀i,i<8→Zor (at_ ys j) i=if 8*j+i<k∧bAt bits (8*j+i)=49 then 1 else 0
theorem pk_start {bits:ByteArray} {n:Nat} (hn:n=(bits.size+7)/8):Zum bits 0 (List.replicate n 0):=by
 refine ⟨by simp [hn],fun j hj=> ?_⟩
 have e:at_ (List.replicate n (0:Int)) j=0:=by simp at hj;simp [at_,hj]
 rw [e]
 refine ⟨by omega,fun i hi=> ?_⟩
 rw [if_neg om]
 unfold Zor;simp
theorem pk_no {bits:ByteArray} {k:Nat} {ys:List Int} (h:Zum bits k ys) (hb:¬ bAt bits k=49):Zum bits (k+1) ys:=by
 refine ⟨h.1,fun j hj=>⟨(h.2 j hj).1,fun i hi=> ?_⟩⟩
 rw [(h.2 j hj).2 i hi]
 by_cases e:8*j+i=k
 ·rw [e,if_neg (fun q=>hb q.2),if_neg (fun q=>hb q.2)]
 ·by_cases e2:8*j+i<k
  ·simp [e2,show 8*j+i<k+1 from by omega]
  ·rw [if_neg (fun q=>e2 q.1),if_neg (fun q=>by omega)]
theorem pk_at {bits:ByteArray} {k:Nat} {ys:List Int} (h:Zum bits k ys) (hk:k<bits.size):k/8<ys.length∧(0≤at_ ys (k/8)∧at_ ys (k/8)≤255)∧Zor (at_ ys (k/8)) (k % 8)=0:=by
 have h1:k/8<ys.length:=by rw [h.1];omega
 refine ⟨h1,(h.2 _ h1).1,?_⟩
 rw [(h.2 _ h1).2 _ om,if_neg om]
theorem pk_yes {bits:ByteArray} {k:Nat} {ys:List Int} {c:Int} (h:Zum bits k ys) (hk:k<bits.size) (hb:bAt bits k=49) (hc:c=at_ ys (k/8)+((2^(7-k % 8):Nat):Int)):Zum bits (k+1) (ys.set (k/8) c):=by
 have q:=pk_at h hk
 have a:=bit_add q.2.1 (by omega:k % 8<8) q.2.2
 rw [←hc] at a
 refine ⟨by rw [List.length_set];exact h.1,fun j hj=> ?_⟩
 rw [List.length_set] at hj
 by_cases e:j=k/8
 ·subst e
  have e1:at_ (ys.set (k/8) c) (k/8)=c:=by simp [at_,q.1]
  rw [e1]
  refine ⟨a.1,fun i hi=> ?_⟩
  rw [a.2 i hi]
  by_cases e2:i=k % 8
  ·rw [if_pos e2,if_pos ⟨by omega,by rw [show 8*(k/8)+i=k from by omega];exact hb⟩]
  ·rw [if_neg e2,(h.2 _ hj).2 i hi]
   by_cases e3:8*(k/8)+i<k
   ·simp [e3,show 8*(k/8)+i<k+1 from by omega]
   ·rw [if_neg (fun z=>e3 z.1),if_neg (fun z=>by omega)]
 ·have e1:at_ (ys.set (k/8) c) j=at_ ys j:=by simp [at_,List.getElem?_set,Ne.symm e]
  rw [e1]
  refine ⟨(h.2 j hj).1,fun i hi=> ?_⟩
  rw [(h.2 j hj).2 i hi]
  by_cases e3:8*j+i<k
  ·simp [e3,show 8*j+i<k+1 from by omega]
  ·rw [if_neg (fun z=>e3 z.1),if_neg (fun z=>by omega)]
def Zsd (bits s:ByteArray):Prop:=s.size=(bits.size+7)/8∧∀j,j<s.size→∀i,i<8→Zor (bAt s j) i=if 8*j+i<bits.size∧bAt bits (8*j+i)=49 then 1 else 0
theorem Zxl {bits:ByteArray} {ys:List Int} (h:Zum bits bits.size ys):Zsd bits (Zgt ys):=by
 refine ⟨by rw [Zbk];exact h.1,fun j hj i hi=> ?_⟩
 rw [Zbk] at hj
 rw [Zjc hj (h.2 j hj).1]
 exact (h.2 j hj).2 i hi
theorem at_memI {xs:List Int} {x:Int} (h:x∈xs):∃i,i<xs.length∧at_ xs i=x:=by
 obtain ⟨i,hi,e⟩:=List.getElem_of_mem h
 exact ⟨i,hi,by rw [Zgr hi];exact e⟩
theorem pk_bytes {bits:ByteArray} {k:Nat} {ys:List Int} (h:Zum bits k ys):∀x∈ys,0≤x∧x≤255:=fun x hx=>by
 obtain ⟨j,hj,rfl⟩:=at_memI hx
 exact (h.2 j hj).1
def Zir (s:ByteArray):Nat→ByteArray
 |0=>⟨#[]⟩
 |k+1=>Zir s k++Zci (bAt s k) 8
theorem Zde (s:ByteArray):∀k,(Zir s k).size=8*k
 |0=>rfl
 |k+1=>by rw [Zir,ByteArray.size_append,Zde s k,Zbe];omega
theorem Zis {s:ByteArray} :∀ {k j i:Nat},j<k→i<8→bAt (Zir s k) (8*j+i)=48+Zor (bAt s j) i
 |0,j,i,h,_=>absurd h (Nat.not_lt_zero _)
 |k+1,j,i,h,hi=>by
  rw [Zir]
  by_cases e:j<k
  ·rw [Zcx (by rw [Zde];omega)];exact Zis e hi
  ·have:j=k:=by omega
   subst this
   rw [Zda (by rw [Zde];omega),Zde,show 8*j+i-8*j=i from by omega,Zjb (by show i<8;exact hi)]
   rfl
theorem unp_pack {bits s:ByteArray} (hb:Zdn bits=true) (h:Zsd bits s):(Zir s s.size).size=8*((bits.size+7)/8)∧∀j,j<bits.size→bAt (Zir s s.size) j=bAt bits j:=by
 refine ⟨by rw [Zde,h.1],fun j hj=> ?_⟩
 have h1:=Zis (s:=s) (k:=s.size) (j:=j/8) (i:=j % 8) (by rw [h.1];omega) om
 have h2:=h.2 (j/8) (by rw [h.1];omega) (j % 8) om
 rw [show 8*(j/8)+j % 8=j from by omega] at h1 h2
 rw [h1,h2]
 rcases (Zcy.1 hb).2 j hj with e|e
 ·rw [if_neg om,e];rfl
 ·rw [if_pos ⟨hj,e⟩,e];rfl
theorem Zms {a b:ByteArray} (hs:a.size=b.size) (h:∀j,j<b.size→bAt a j=bAt b j):a=b:=by
 apply ByteArray.ext
 apply Array.ext
 ·exact hs
 ·intro i h1 h2
  have hi:i<b.size:=h2
  have q:=h i hi
  rw [Zon om,Zon hi] at q
  have q2:a.data.toList[i].toNat=b.data.toList[i].toNat:=by omega
  simpa using UInt8.toNat_inj.1 q2
theorem Ztk {s:ByteArray} {n i:Nat} (h:i<n) (hn:n≤s.size):bAt (s.extract 0 n) i=bAt s i:=by
 rw [Zon (by rw [ByteArray.size_extract];omega),Zon om]
 simp
theorem pre_eq {a b:ByteArray} (hs:b.size≤a.size) (h:∀j,j<b.size→bAt a j=bAt b j):a.extract 0 b.size=b:=
 Zms (by rw [ByteArray.size_extract];omega) fun j hj=>by rw [Ztk hj hs];exact h j hj
def Zuh (n k:Int):Int:=if Zbm n/((2^k.toNat:Nat):Int)<20 then Zbm n/((2^k.toNat:Nat):Int)+1+k else 52
theorem Zrq {n k:Int} (hn:-1000000000≤n∧n≤1000000000) (hk:0≤k∧k≤12):1≤Zuh n k∧Zuh n k≤52:=by
 have hf:=Zlb hn
 have hq:0≤Zbm n/((2^k.toNat:Nat):Int):=Int.ediv_nonneg hf.1 (Int.le_of_lt (p2 _))
 unfold Zuh
 split<;>omega
def Zou (l:List Int) (k:Int):Nat→Int
 |0=>0
 |m+1=>Zou l k m+Zuh (at_ l m) k
theorem Zld {l:List Int} {k:Int} (hl:∀x∈l,-1000000000≤x∧x≤1000000000) (hk:0≤k∧k≤12):∀ {m:Nat},m≤l.length→(m:Int)≤Zou l k m∧Zou l k m≤52*(m:Int)
 |0,_=>by simp [Zou]
 |m+1,h=>by
  have ih:=Zld hl hk (m:=m) om
  have:=Zrq (k:=k) (hl _ (Zdf (xs:=l) (i:=m) om)) hk
  rw [Zou]
  omega
def brS (l:List Int):Nat→Int×Int
 |0=>(0,-1)
 |k+1=>if (brS l k).2<0∨Zou l k l.length<(brS l k).2 then ((k:Int),Zou l k l.length) else brS l k
theorem Zhf {l:List Int} (hl:∀x∈l,-1000000000≤x∧x≤1000000000):∀ {K:Nat},K≤12→(0≤(brS l (K+1)).1∧(brS l (K+1)).1≤(K:Int))∧(brS l (K+1)).2=Zou l (brS l (K+1)).1 l.length∧∀p:Int,0≤p→p≤(K:Int)→(brS l (K+1)).2≤Zou l p l.length∧(p<(brS l (K+1)).1→(brS l (K+1)).2<Zou l p l.length)
 |0,_=>by
  have e:brS l (0+1)=(0,Zou l 0 l.length):=by rw [brS,brS];rfl
  rw [e]
  refine ⟨by simp,rfl,fun p h1 h2=> ?_⟩
  have:p=0:=by omega
  subst this
  exact ⟨Int.le_refl _,fun h=>absurd h (by simp)⟩
 |K+1,h=>by
  have ih:=Zhf hl (K:=K) om
  have hs:=Zld (k:=(brS l (K+1)).1) hl om (Nat.le_refl _)
  have hn:¬ (brS l (K+1)).2<0:=by rw [ih.2.1];omega
  by_cases c:Zou l ((K+1:Nat):Int) l.length<(brS l (K+1)).2
  ·have e:brS l (K+1+1)=(((K+1:Nat):Int),Zou l ((K+1:Nat):Int) l.length):=by rw [brS,if_pos (.inr c)]
   rw [e]
   refine ⟨by simp only;omega,rfl,fun p h1 h2=> ?_⟩
   by_cases q:p=((K+1:Nat):Int)
   ·subst q;exact ⟨Int.le_refl _,fun h=>absurd h (by simp)⟩
   ·have:=(ih.2.2 p h1 om).1
    exact ⟨by simp only;omega,fun _=>by simp only;omega⟩
  ·have e:brS l (K+1+1)=brS l (K+1):=by rw [brS,if_neg (fun z=>z.elim hn c)]
   rw [e]
   refine ⟨by omega,ih.2.1,fun p h1 h2=> ?_⟩
   by_cases q:p=((K+1:Nat):Int)
   ·subst q;exact ⟨by omega,fun h=>by omega⟩
   ·exact ih.2.2 p h1 om
def gsI (l:List Int):Nat→Int
 |0=>0
 |1=>at_ l 0
 |n+2=>2*at_ l (n+1)-at_ l n
def Zkv (l:List Int):List Int:=(List.range l.length).map fun i=>at_ l i-gsI l i
theorem Zgl (l:List Int):(Zkv l).length=l.length:=by simp [Zkv]
theorem Zrr {l:List Int} {i:Nat} (h:i<l.length):at_ (Zkv l) i=at_ l i-gsI l i:=by simp [at_,Zkv,h]
def rsdN (l:List Int) (n:Nat):List Int:=(List.range n).map fun i=>at_ l i-gsI l i
theorem Zxj (l:List Int) (n:Nat):rsdN l (n+1)=rsdN l n++[at_ l n-gsI l n]:=by simp [rsdN,List.range_succ]
theorem Zxi {l:List Int} {B:Int} (hB:0≤B) (hl:∀x∈l,-B≤x∧x≤B):∀ {i:Nat},i≤l.length→-(3*B)≤gsI l i∧gsI l i≤3*B
 |0,_=>by simp only [gsI];omega
 |1,h=>by
  have:=hl _ (Zdf (xs:=l) (i:=0) om)
  simp only [gsI];omega
 |n+2,h=>by
  have h1:=hl _ (Zdf (xs:=l) (i:=n) om)
  have h2:=hl _ (Zdf (xs:=l) (i:=n+1) om)
  simp only [gsI];omega
theorem rsdL_bd {l:List Int} {B:Int} (hB:0≤B) (hl:∀x∈l,-B≤x∧x≤B):∀x∈Zkv l,-(4*B)≤x∧x≤4*B:=fun x hx=>by
 obtain ⟨i,hi,e⟩:=List.getElem_of_mem hx
 have hi':i<l.length:=by rw [Zgl] at hi;exact hi
 have e2:at_ (Zkv l) i=x:=by rw [Zgr hi];exact e
 rw [←e2,Zrr hi']
 have h1:=hl _ (Zdf hi')
 have h2:=Zxi hB hl (i:=i) om
 omega
end Go.Proofs.YtnlfghpgfjlblaaDoor.Ax
